/- What is reached from a rank: the program's list. -/
import Derived.Test.YtkcnnamghpdplaaCl5
set_option linter.unusedSimpArgs false
set_option linter.unusedVariables false
namespace Go.Proofs.Ytkcnnamghpdplaa
open Go.RowKit

def ClimbIs (n : Nat) (S S' : Nat → List Lk) (s : Nat) (W : World) (e : Ending) (w' : World) : Prop := ∃ D, Sol n S s D ∧ ClimbOk (seenTo D S' n) W e w'
def ClimbNot (W : World) (e : Ending) (w' : World) : Prop := e = .returned (.tuple #[.slice none 0 0, .iface 63 (.int .i64 7)]) ∧ Below W.heap.size W w'
theorem climb_out (a1 a2 a3 a4 : Option Addr) (n1 c1 n2 c2 n3 c3 n4 c4 n : Nat) (s : Int) (W : World) (hn : n ≤ 65536) (hs : s < 0 ∨ (n : Int) ≤ s) (h0 : -9223372036854775808 ≤ s) (h1 : s ≤ 9223372036854775807) :
    Calls Try.prog 22 #[.agg #[.int .i64 n, .slice a1 n1 c1, .slice a2 n2 c2, .slice a3 n3 c3, .slice a4 n4 c4], .int .i64 s] W (ClimbNot W) := by
  by_cases hs0 : s < 0
  · have g1 : decide (s < 0) = true := decide_eq_true hs0
    go_enter Try.func22, Try.ntmps22
    go_wp2_with fail
    go_ret2
    exact ⟨rfl, (Below.refl _ _).alloc (Nat.le_refl _) _⟩
  · have g1 : decide (s < 0) = false := decide_eq_false hs0
    have g2 : decide ((n : Int) ≤ s) = true := decide_eq_true (by omega)
    clear hs
    go_enter Try.func22, Try.ntmps22
    go_wp2_with fail
    go_ret2
    exact ⟨rfl, (Below.refl _ _).alloc (Nat.le_refl _) _⟩
set_option maxRecDepth 100000 in
set_option maxHeartbeats 2000000 in
theorem climb_in (a1 a2 a3 a4 : Option Addr) (c1 c2 c3 c4 n s : Nat) (f bf : List Nat) (ls bs : List Lk) (W : World) (hS : Side n f ls) (hS' : Side n bf bs) (hs : s < n) (hf : Rd32 W a1 (n + 1) f) (hl : RdK W a2 ls.length ls) (hbf : Rd32 W a3 (n + 1) bf) (hbl : RdK W a4 bs.length bs)
    (hc1 : n + 1 ≤ c1 ∧ c1 ≤ 9223372036854775807) (hc2 : ls.length ≤ c2 ∧ c2 ≤ 9223372036854775807) (hc3 : n + 1 ≤ c3 ∧ c3 ≤ 9223372036854775807) (hc4 : bs.length ≤ c4 ∧ c4 ≤ 9223372036854775807) (hin : ∀ x ∈ f, In32 x) (hk : ∀ l ∈ ls, InK l) (hkb : ∀ l ∈ bs, InK l) :
    Calls Try.prog 22 #[.agg #[.int .i64 n, .slice a1 (n + 1) c1, .slice a2 ls.length c2, .slice a3 (n + 1) c3, .slice a4 bs.length c4], .int .i64 s] W (ClimbIs n (seg f ls) (seg bf bs) s W) := by
  have hn := hS.n_le
  have HSR : Hid (∀ w, Below W.heap.size W w → Calls Try.prog 34 #[.agg #[.int .i64 n, .slice a1 (n + 1) c1, .slice a2 ls.length c2, .slice a3 (n + 1) c3, .slice a4 bs.length c4], .int .i64 s] w (SearchIs n (seg f ls) s w)) := Lib.hid fun w hb =>
    search_any a1 a2 a3 a4 c1 c2 (n + 1) c3 bs.length c4 n s f ls w hS hs (hf.below hb) (hl.below hb) hc1 hc2 hin hk
  have HSTL : Hid (∀ (w : World) (r b g : Nat) (d : Int) (m : List (Option Int)), Below W.heap.size W w → r < n → Stp.St w b g m → m.length = n → SafeD (getO m) → Calls Try.prog 37 #[.agg #[.int .i64 n, .slice a1 (n + 1) c1, .slice a2 ls.length c2, .slice a3 (n + 1) c3, .slice a4 bs.length c4], .pointer (some ⟨b, 0, none⟩), .int .i64 r, .int .u64 d] w (StalledIs (stalledB (seg bf bs) (getO m) r d) w)) := Lib.hid fun w r b g d m hb hr hst hm hsd =>
    stalled_any a1 a2 a3 a4 (n + 1) c1 ls.length c2 c3 c4 n r b g d bf bs m w hS' hr (hbf.below hb) (hbl.below hb) hc3 hc4 hkb hst hm hsd
  unfold SearchIs at HSR
  unfold StalledIs at HSTL
  generalize seg f ls = S at *
  generalize seg bf bs = S' at *
  generalize ls.length = nl at *
  generalize bs.length = nb at *
  have g1 : decide ((s : Int) < 0) = false := decide_eq_false (by omega)
  have g2 : decide ((n : Int) ≤ (s : Int)) = false := decide_eq_false (by omega)
  clear hS hS' hf hl hbf hbl hin hk hkb
  go_enter Try.func22, Try.ntmps22
  go_wp2_with fail
  generalize hW1 : W.alloc (.cells #[.int .i64 n, .slice a1 (n + 1) c1, .slice a2 nl c2, .slice a3 (n + 1) c3, .slice a4 nb c4] 57) = W1
  have hb1 : Below W.heap.size W W1 := by rw [← hW1]; exact (Below.refl _ _).alloc (Nat.le_refl _) _
  have hc1' : Cells W1 W.heap.size #[.int .i64 n, .slice a1 (n + 1) c1, .slice a2 nl c2, .slice a3 (n + 1) c3, .slice a4 nb c4] 57 := by rw [← hW1]; exact cells_new _ _ _
  have HB1 := Lib.hid hb1
  have HBX := Lib.hid hc1'
  clear hb1 hc1' hW1
  refine (HSR.out W1 HB1.out).mono ?_
  rintro e w2 ⟨b, g, m, rfl, hst, hml, hsol, hb, hbb, hbg, hub⟩
  have HST2 := Lib.hid hst
  have HSOL := Lib.hid hsol
  have HML := Lib.hid hml
  have HSD : Hid (SafeD (getO m)) := Lib.hid fun x d h => by
    have h1 := hub x d h
    have h2 := getO_lt h
    refine ⟨h1.1, ?_⟩
    have h3 := h1.2
    unfold topI at h3
    omega
  have HX2 := Lib.hid hb
  clear hst hsol hml hub hb
  go_wp2_with fail
  refine (Stp.All_St HST2.out (by have := HML.out; omega)).mono ?_
  rintro e w3 ⟨va, rfl, hva, hb⟩
  obtain ⟨Aa, ca, rfl, hca, hcm⟩ := hva.form
  have hrd := hva.rd Stp.i64s_len rfl
  have hmk : ∀ (k : Nat) (i : Int), (Stp.marks m)[k]? = some i → 0 ≤ i ∧ i.toNat < n ∧ ∃ d, getO m i.toNat = some d := fun k i h => by
    have := marks_mem (List.mem_of_getElem? h)
    rwa [HML.out] at this
  have hso := seenOf_marks m S'
  rw [HML.out] at hso
  have hll : (Stp.marks m).length ≤ 65536 := by
    have h1 := congrArg List.length hso
    unfold seenOf at h1
    rw [List.length_map] at h1
    have h2 := seenTo_len (getO m) S' n
    omega
  generalize Stp.marks m = l at *
  generalize hln : l.length = nn at *
  have HRD := Lib.hid hrd
  have HMK := Lib.hid hmk
  have HSO := Lib.hid hso
  have HLN := Lib.hid hln
  have HST3 := Lib.hid (HST2.out.below hb)
  have HX3 := Lib.hid (HX2.out.trans (hb.mono HX2.out.size))
  clear hva hb hrd hmk hso hln hcm hca
  go_wp2_with fail
  go_loopw [8, 34] (fun sv iv wr => ∃ k : Nat, k ≤ nn ∧ iv = .int .i64 k ∧ OwnSn wr w3.heap.size sv (seenOf (getO m) S' (l.take k)) ∧ Below w3.heap.size w3 wr) (fun _ iv _ => nn - (intOf iv).toNat)
  case atStart => exact ⟨0, by omega, rfl, by unfold seenOf; exact Own.nil _ _ _ _ _, Below.refl _ _⟩
  case round =>
    obtain ⟨k, hk, rfl, ho, hb⟩ := hrel
    have HO := Lib.hid ho
    have HB := Lib.hid hb
    clear ho hb
    have HXR : Hid (Below W1.heap.size W1 wr) := Lib.hid (HX3.out.trans (HB.out.mono HX3.out.size))
    by_cases hlt : k < nn
    · have g0 : decide ((k : Int) < (nn : Int)) = true := decide_eq_true (by omega)
      obtain ⟨ad, hA, cc⟩ := (HRD.out.below HB.out).at_ hlt
      subst hA
      have hkl : k < l.length := by have := HLN.out; omega
      have c0 := cc 0 _ rfl
      rw [Nat.mul_one, Nat.add_zero] at c0
      obtain ⟨i0, i1, d, hd⟩ := HMK.out k _ (List.getElem?_eq_getElem hkl)
      have htk := List.take_succ_eq_append_getElem hkl
      generalize l[k] = i at *
      obtain ⟨r, rfl⟩ : ∃ r : Nat, i = (r : Int) := ⟨i.toNat, by omega⟩
      rw [Int.toNat_natCast] at i1 hd
      have hsn : seenOf (getO m) S' (l.take (k + 1)) = seenOf (getO m) S' (l.take k) ++ [⟨r, d, stalledB S' (getO m) r d⟩] := by
        rw [htk]
        unfold seenOf
        rw [List.map_append, List.map_cons, List.map_nil, Int.toNat_natCast, hd]
        rfl
      have HSN := Lib.hid hsn
      have HDG := Lib.hid hd
      have HSDr := HSD.out r d hd
      have hol : (seenOf (getO m) S' (l.take k)).length = k := by unfold seenOf; rw [List.length_map, List.length_take]; omega
      have HOL := Lib.hid hol
      have HSTB : Hid (∀ w, Below W.heap.size W w → Stp.St w b g m → Calls Try.prog 37 #[.agg #[.int .i64 n, .slice a1 (n + 1) c1, .slice a2 nl c2, .slice a3 (n + 1) c3, .slice a4 nb c4], .pointer (some ⟨b, 0, none⟩), .int .i64 r, .int .u64 d] w fun e w' => e = .returned (.bool (stalledB S' (getO m) r d)) ∧ Below w.heap.size w w') := Lib.hid fun w hb hst => HSTL.out w r b g d m hb i1 hst HML.out HSD.out
      generalize stalledB S' (getO m) r d = st at *
      clear cc htk hd hsn hol hkl
      go_wp2_with fail
      refine (Stp.Get_St (HST3.out.below HB.out) (r : Int) (by have := HML.out; omega) (by omega) (by omega)).mono ?_
      rintro e w4 ⟨rfl, hd4⟩
      rw [look_nat, HDG.out]
      simp only [Stp.got]
      have hb4 := hd4.below wr.heap.size
      have HX4 : Hid (Below W1.heap.size W1 w4) := Lib.hid (HXR.out.trans (hb4.mono HXR.out.size))
      have HB4 : Hid (Below w3.heap.size w3 w4) := Lib.hid (HB.out.trans (hb4.mono HB.out.size))
      have HO4 := Lib.hid (HO.out.below hb4)
      have b0 : w4.cell? ⟨W.heap.size, 0, none⟩ = some (.int .i64 n) := (HBX.out.below HX4.out).cell 0
      have b1 : w4.cell? ⟨W.heap.size, 1, none⟩ = some (.slice a1 (n + 1) c1) := (HBX.out.below HX4.out).cell 1
      have b2 : w4.cell? ⟨W.heap.size, 2, none⟩ = some (.slice a2 nl c2) := (HBX.out.below HX4.out).cell 2
      have b3 : w4.cell? ⟨W.heap.size, 3, none⟩ = some (.slice a3 (n + 1) c3) := (HBX.out.below HX4.out).cell 3
      have b4 : w4.cell? ⟨W.heap.size, 4, none⟩ = some (.slice a4 nb c4) := (HBX.out.below HX4.out).cell 4
      clear hd4 hb4
      go_wp2_with fail
      refine (HSTB.out _ (HB1.out.trans (HX4.out.mono HB1.out.size)) (HST3.out.below HB4.out)).mono ?_
      rintro e w5 ⟨rfl, hb5⟩
      have HB5 : Hid (Below w3.heap.size w3 w5) := Lib.hid (HB4.out.trans (hb5.mono HB4.out.size))
      have HO5 := Lib.hid (HO4.out.below hb5)
      have hs5 := HB5.out.size
      clear hb5
      go_wp2_with (at_builtin; go_loud (refine wpList_append_rd rfl (.tmp 44) (.tmp 53) 29 rfl 38 (.agg #[.int .i64 0, .int .u64 0, .bool false]) 24 Try.underlying29 info_seen rfl (by omega) (by omega) encSn_len encSn_one w3.heap.size _ (seenOf (getO m) S' (l.take k)) rfl (HO5.out.below ((Below.refl _ _).alloc (Nat.le_refl _) _)) _ 1 1 [(⟨r, d, st⟩ : SeenT)] rfl (rd_Sn rfl) (by rw [HOL.out]; omega) (by simp; omega) ?_; intro v6 w6 ho6 hg6 hat6; have HO6 := Lib.hid ho6; have HB6 : Hid (Below w3.heap.size w3 w6) := Lib.hid (below_own (HB5.out.alloc HB5.out.size _) (HO5.out.below ((Below.refl _ _).alloc (Nat.le_refl _) _)) hg6 (Nat.le_refl _) (by simp; omega)); clear ho6 hg6 hat6))
      go_roundw
      case rel => exact ⟨k + 1, by omega, by go_num, by rw [HSN.out]; exact HO6.out, HB6.out⟩
      case measure => simp [intOf]; omega
    · obtain rfl : k = nn := by omega
      have hall : l.take k = l := List.take_of_length_le (by have := HLN.out; omega)
      rw [hall, HSO.out] at HO
      obtain ⟨A2, c2', rfl, _, _⟩ := HO.out.form
      have HEND : Hid (ClimbIs n S S' s W (.returned (.tuple #[.slice A2 (seenTo (getO m) S' n).length c2', .nilIface])) wr) := Lib.hid ⟨getO m, HSOL.out, A2, c2', rfl, HO.out.mono (Nat.le_trans HB1.out.size HX3.out.size), HB1.out.trans (HXR.out.mono HB1.out.size)⟩
      clear hall
      go_wp2_with fail
      go_ret2
      exact HEND.out
end Go.Proofs.Ytkcnnamghpdplaa
