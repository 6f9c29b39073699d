/- Stalled ranks; what is reached from a rank. -/
import Derived.Test.YtkcnnamghpdplaaCl4
set_option linter.unusedSimpArgs false
set_option linter.unusedVariables false
namespace Go.Proofs.Ytkcnnamghpdplaa
open Go.RowKit

def overB (D : Nat → Option Int) (d : Int) (l : Lk) : Bool := match D l.to with
  | some x => decide (x + l.w < d)
  | none => false
def stalledB (S : Nat → List Lk) (D : Nat → Option Int) (r : Nat) (d : Int) : Bool := (S r).any (overB D d)
def SafeD (D : Nat → Option Int) : Prop := ∀ x b, D x = some b → 0 ≤ b ∧ b ≤ 9223231299366420480
def StalledIs (b : Bool) (W : World) (e : Ending) (w' : World) : Prop := e = .returned (.bool b) ∧ Below W.heap.size W w'
set_option maxRecDepth 100000 in
set_option maxHeartbeats 1000000 in
theorem stalled_any (a1 a2 a3 a4 : Option Addr) (n1 c1 n2 c2 c3 c4 n r b g : Nat) (d : Int) (f : List Nat) (ls : List Lk) (m : List (Option Int)) (W : World) (hS : Side n f ls) (hr : r < n) (hf : Rd32 W a3 (n + 1) f) (hl : RdK W a4 ls.length ls) (hc3 : n + 1 ≤ c3 ∧ c3 ≤ 9223372036854775807) (hc4 : ls.length ≤ c4 ∧ c4 ≤ 9223372036854775807) (hk : ∀ l ∈ ls, InK l) (hst : Stp.St W b g m) (hm : m.length = n) (hsd : SafeD (getO m)) :
    Calls Try.prog 37 #[.agg #[.int .i64 n, .slice a1 n1 c1, .slice a2 n2 c2, .slice a3 (n + 1) c3, .slice a4 ls.length c4], .pointer (some ⟨b, 0, none⟩), .int .i64 r, .int .u64 d] W (StalledIs (stalledB (seg f ls) (getO m) r d) W) := by
  have hn := hS.n_le
  have HS := Lib.hid hS
  have HF := Lib.hid hf
  have HL := Lib.hid hl
  have HK := Lib.hid hk
  have HST := Lib.hid hst
  have HM := Lib.hid hm
  have HSD := Lib.hid hsd
  have hl0 := hS.l_le
  generalize hll : ls.length = nl at *
  have HLL := Lib.hid hll
  generalize hres : stalledB (seg f ls) (getO m) r d = res
  have HR := Lib.hid hres
  unfold stalledB at HR
  clear hS hf hl hk hll hst hm hsd hres
  go_enter Try.func37, Try.ntmps37
  go_wp2_with fail
  generalize hW1 : W.alloc (.cells #[.int .i64 n, .slice a1 n1 c1, .slice a2 n2 c2, .slice a3 (n + 1) c3, .slice a4 nl c4] 57) = W1
  have hb1 : Below W.heap.size W W1 := by rw [← hW1]; exact (Below.refl _ _).alloc (Nat.le_refl _) _
  have hc1' : Cells W1 W.heap.size #[.int .i64 n, .slice a1 n1 c1, .slice a2 n2 c2, .slice a3 (n + 1) c3, .slice a4 nl c4] 57 := by rw [← hW1]; exact cells_new _ _ _
  have HB1 := Lib.hid hb1
  have b3 : W1.cell? ⟨W.heap.size, 3, none⟩ = some (.slice a3 (n + 1) c3) := hc1'.cell 3
  have b4 : W1.cell? ⟨W.heap.size, 4, none⟩ = some (.slice a4 nl c4) := hc1'.cell 4
  have HL1 := Lib.hid (HL.out.below hb1)
  obtain ⟨ad, hA, e0, e1⟩ := two_firsts (HF.out.below hb1) hr
  subst hA
  have e1' : W1.cell? ⟨ad.block, ad.off + (r + 1), none⟩ = some (.int .u32 (f.getD (r + 1) 0 : Nat)) := e1
  have hmono := HS.out.mono r hr
  rw [HLL.out] at hmono
  have hslen := HS.out.len hr
  have hsl := fun w => slice_links a4 nl c4 (f.getD r 0) (f.getD (r + 1) 0) hmono.1 (by omega) w
  have hrd := rd_seg HS.out hr (by rw [HLL.out]; exact HL1.out) (by rw [HLL.out]; exact hc4.1)
  generalize (if c4 = f.getD r 0 then a4 else a4.map (·.add (f.getD r 0 * 4))) = AA at hsl hrd
  generalize f.getD r 0 = lo at *
  generalize f.getD (r + 1) 0 = hi at *
  obtain ⟨sl, hsl2⟩ : ∃ sl, hi - lo = sl := ⟨_, rfl⟩
  rw [hsl2] at hsl hrd hslen
  have HRD := Lib.hid hrd
  have HSL := Lib.hid hslen
  have hlo : lo ≤ 1048576 := by omega
  have hhi : hi ≤ 1048576 := by omega
  have hsle : sl ≤ 1048576 := by omega
  have hlh : lo ≤ hi := hmono.1
  have w1 : IntKind.i64.wrap ((r : Int) + 1) = (r : Int) + 1 := by rw [IntKind.wrap_i64]; omega
  have w2' : (0 : Int) ≤ (r : Int) + 1 := by omega
  have w3' : ((r : Int) + 1).toNat = r + 1 := by omega
  have hcap : n + 1 ≤ c3 := hc3.1
  have i1 : (0 : Int) ≤ (r : Int) := by omega
  have i2 : (r : Int) < (n : Int) + 1 := by omega
  have i3 : (r : Int) + 1 < (n : Int) + 1 := by omega
  have i4 : (r : Int) < ((n + 1 : Nat) : Int) := by omega
  have i5 : (r : Int) + 1 < ((n + 1 : Nat) : Int) := by omega
  have i6 : (0 : Int) ≤ (lo : Int) := by omega
  have i7 : (lo : Int) ≤ (hi : Int) := by omega
  have i8 : (hi : Int) ≤ (c4 : Int) := by omega
  clear hmono hrd hslen hsl2 hb1 hc1' hW1 HL
  go_wp2_with fail
  go_quiet (fail)
  have hdr : Below W.heap.size W (W1.drewN nq) := HB1.out.trans ⟨rfl, rfl, rfl, Nat.le_refl _, fun _ _ => rfl⟩
  have hdr1 : Below W1.heap.size W1 (W1.drewN nq) := ⟨rfl, rfl, rfl, Nat.le_refl _, fun _ _ => rfl⟩
  generalize W1.drewN nq = w7 at hdr hdr1 ⊢
  have HX7 := Lib.hid hdr
  have HRD7 := Lib.hid (HRD.out.below hdr1)
  clear hdr hdr1 b3 b4 e0 e1 e1' hsl w1 w2' w3' i1 i2 i3 i4 i5 i6 i7 i8 HB1 HRD HL1 HF
  go_wp2_with fail
  go_loopw [28] (fun iv wr => ∃ k : Nat, k ≤ sl ∧ iv = .int .i64 k ∧ ((seg f ls r).take k).any (overB (getO m) d) = false ∧ Below W.heap.size W wr ∧ Below w7.heap.size w7 wr) (fun iv _ => sl - (intOf iv).toNat)
  case atStart => exact ⟨0, by omega, rfl, by simp, HX7.out, Below.refl _ _⟩
  case round =>
    obtain ⟨k, hk, rfl, hany, hx, hx7⟩ := hrel
    have HANY := Lib.hid hany
    have HX := Lib.hid hx
    have HXX := Lib.hid hx7
    clear hany hx hx7
    by_cases hlt : k < sl
    · have g0 : decide ((k : Int) < (sl : Int)) = true := decide_eq_true (by omega)
      have hks : k < (seg f ls r).length := by have := HSL.out; omega
      obtain ⟨ad2, hA2, cc⟩ := (HRD7.out.below HXX.out).at_ hlt
      subst hA2
      obtain ⟨c0, c1', c2', c3'⟩ := four_cells cc
      have hmem : (seg f ls r)[k] ∈ ls := List.mem_of_mem_drop (List.mem_of_mem_take (List.getElem_mem hks))
      have hik := HK.out _ hmem
      have hww := HS.out.ups.w r _ hr (List.getElem_mem hks)
      have htk := List.take_succ_eq_append_getElem hks
      have hin : (seg f ls r)[k] ∈ seg f ls r := List.getElem_mem hks
      generalize hL : (seg f ls r)[k] = L at *
      have hLto := hik.to
      unfold In32 at hLto
      unfold topI at hww
      have hstep : ((seg f ls r).take (k + 1)).any (overB (getO m) d) = overB (getO m) d L := by rw [htk, List.any_append, HANY.out]; simp
      have hres : overB (getO m) d L = true → res = true := fun h => by rw [← HR.out]; exact List.any_eq_true.2 ⟨L, hin, h⟩
      unfold overB at hstep hres
      obtain ⟨t0, t1, t2, t3⟩ := L
      dsimp only at c0 c1' c2' c3' hww hLto hstep hres
      have HSTEP := Lib.hid hstep
      have HRES := Lib.hid hres
      clear cc hmem hik hL htk hin hstep hres
      go_wp2_with fail
      have hba := (Below.refl wr.heap.size wr).alloc (Nat.le_refl _) (.cells #[.int .u32 (t0 : Int), .int .u64 t1, .int .u32 (t2 : Int), .int .u32 (t3 : Int)] 68)
      have hca := cells_new wr #[.int .u32 (t0 : Int), .int .u64 t1, .int .u32 (t2 : Int), .int .u32 (t3 : Int)] 68
      refine (Stp.Get_St (HST.out.below (HX.out.trans (hba.mono HX.out.size))) (t0 : Int) (by have := HM.out; omega) (by omega) (by omega)).mono ?_
      rintro e w8 ⟨rfl, hd8⟩
      have hb8 : Below wr.heap.size wr w8 := hba.trans (hd8.below _)
      have k0 : w8.cell? ⟨wr.heap.size, 0, none⟩ = some (.int .u32 (t0 : Int)) := (hca.below (hd8.below _)).cell 0
      have k1 : w8.cell? ⟨wr.heap.size, 1, none⟩ = some (.int .u64 t1) := (hca.below (hd8.below _)).cell 1
      have HX8 := Lib.hid (HX.out.trans (hb8.mono HX.out.size))
      have HXX8 := Lib.hid (HXX.out.trans (hb8.mono HXX.out.size))
      rw [look_nat]
      clear hba hca hd8 hb8
      cases hgo : getO m t0 with
      | none =>
        have HN : Hid (((seg f ls r).take (k + 1)).any (overB (getO m) d) = false) := Lib.hid (by have h := HSTEP.out; rw [hgo] at h; exact h)
        simp only [Stp.got]
        clear hgo
        go_wp2_with fail
        go_roundw
        case rel => exact ⟨k + 1, by omega, by go_num, HN.out, HX8.out, HXX8.out⟩
        case measure => simp [intOf]; omega
      | some x =>
        have hx := HSD.out t0 x hgo
        have hsum : IntKind.u64.wrap (x + t1) = x + t1 := by rw [IntKind.wrap_u64]; omega
        simp only [Stp.got]
        by_cases hlt2 : x + t1 < d
        · have HT : Hid (res = true) := Lib.hid (HRES.out (by rw [hgo]; exact decide_eq_true hlt2))
          have g1 : decide (x + t1 < d) = true := decide_eq_true hlt2
          clear hgo hlt2
          go_wp2_with fail
          go_ret
          exact ⟨by rw [HT.out]; rfl, HX8.out⟩
        · have HN : Hid (((seg f ls r).take (k + 1)).any (overB (getO m) d) = false) := Lib.hid (by have h := HSTEP.out; rw [hgo] at h; exact h.trans (decide_eq_false hlt2))
          have g1 : decide (x + t1 < d) = false := decide_eq_false hlt2
          clear hgo hlt2
          go_wp2_with fail
          go_roundw
          case rel => exact ⟨k + 1, by omega, by go_num, HN.out, HX8.out, HXX8.out⟩
          case measure => simp [intOf]; omega
    · obtain rfl : k = sl := by omega
      have HT : Hid (res = false) := Lib.hid (by rw [← HR.out]; have h := HANY.out; rwa [List.take_of_length_le (by have := HSL.out; omega)] at h)
      go_wp2_with fail
      go_ret
      exact ⟨by rw [HT.out]; rfl, HX.out⟩
/-! ### what is reached -/
structure SeenT where
  rank : Nat
  dist : Int
  st : Bool
abbrev encSn (x : SeenT) : List Value := [.int .i64 (x.rank : Int), .int .u64 x.dist, .bool x.st]
theorem encSn_len : ∀ x, (encSn x).length = 3 := fun _ => rfl
theorem encSn_one : ∀ x, ∀ u ∈ encSn x, u.oneCell' = true := fun x u h => by
  simp at h
  rcases h with rfl | rfl | rfl <;> rfl
theorem info_seen : (Try.prog.info? 38).map (fun i => (i.zero, i.size, i.bytes)) = some (some (.agg #[.int .i64 0, .int .u64 0, .bool false]), 3, 24) := by kernel_rfl
abbrev OwnSn (w : World) (base : Nat) (v : Value) (l : List SeenT) : Prop := Own 38 3 encSn w base v l
/-- what is reached, of the ranks below k -/
def seenTo (D : Nat → Option Int) (S : Nat → List Lk) (k : Nat) : List SeenT := (List.range k).filterMap fun r => (D r).map fun d => ⟨r, d, stalledB S D r d⟩
theorem seenTo_succ (D : Nat → Option Int) (S : Nat → List Lk) (k : Nat) : seenTo D S (k + 1) = seenTo D S k ++ match D k with | some d => [⟨k, d, stalledB S D k d⟩] | none => [] := by
  unfold seenTo
  rw [List.range_succ, List.filterMap_append]
  congr 1
  cases h : D k <;> simp [h]
theorem seenTo_len (D : Nat → Option Int) (S : Nat → List Lk) (k : Nat) : (seenTo D S k).length ≤ k := by
  unfold seenTo
  have := List.length_filterMap_le (fun r => (D r).map fun d => (⟨r, d, stalledB S D r d⟩ : SeenT)) (List.range k)
  rwa [List.length_range] at this
/-- .. by way of the list of those that are reached -/
def seenOf (D : Nat → Option Int) (S : Nat → List Lk) (l : List Int) : List SeenT := l.map fun i => ⟨i.toNat, (D i.toNat).getD 0, stalledB S D i.toNat ((D i.toNat).getD 0)⟩
theorem seenOf_marks (m : List (Option Int)) (S : Nat → List Lk) : seenOf (getO m) S (Stp.marks m) = seenTo (getO m) S m.length := by
  unfold Stp.marks
  generalize m.length = k
  induction k with
  | zero => simp [seenOf, seenTo, Stp.picks]
  | succ k ih =>
    rw [Stp.picks_succ, seenTo_succ, ← ih]
    unfold seenOf
    rw [List.map_append]
    congr 1
    have e : (m.getD k none) = getO m k := rfl
    rw [e]
    cases h : getO m k <;> simp [h]
theorem rd_Sn {w : World} {k : Nat} {x : SeenT} (hk : w.heap.size = k) : Rd 3 encSn (w.alloc (.cells #[.int .i64 (x.rank : Int), .int .u64 x.dist, .bool x.st] 38)) (some ⟨k, 0, none⟩) 1 [x] := by
  subst hk
  exact rd_new (enc := encSn) encSn_len w _ [x]
def ClimbOk (l : List SeenT) (W : World) (e : Ending) (w' : World) : Prop := ∃ A c, e = .returned (.tuple #[.slice A l.length c, .nilIface]) ∧ OwnSn w' W.heap.size (.slice A l.length c) l ∧ Below W.heap.size W w'
theorem marks_mem {m : List (Option Int)} {i : Int} (h : i ∈ Stp.marks m) : 0 ≤ i ∧ i.toNat < m.length ∧ ∃ d, getO m i.toNat = some d := by
  unfold Stp.marks Stp.picks at h
  obtain ⟨r, hr, rfl⟩ := List.mem_map.1 h
  obtain ⟨h1, h2⟩ := List.mem_filter.1 hr
  have h3 : r < m.length := List.mem_range.1 h1
  refine ⟨by simp, by simpa using h3, ?_⟩
  have e : (m.getD r none) = getO m r := rfl
  rw [e] at h2
  simp only [Int.ofNat_eq_natCast, Int.toNat_natCast]
  cases hg : getO m r with
  | none => rw [hg] at h2; simp at h2
  | some d => exact ⟨d, rfl⟩
end Go.Proofs.Ytkcnnamghpdplaa
