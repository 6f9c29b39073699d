/- sound.holds: is the hierarchy true at a rank? (Printed by gen_holds.py.) -/
import Derived.Test.YtkcnnamghpdplaaDoorCk8
set_option linter.unusedSimpArgs false
set_option linter.unusedVariables false
namespace Go.Proofs.YtkcnnamghpdplaaDoor
open Go.RowKit

def OkAB (n : Nat) (U V : Nat → List Lk) (r : Nat) (a b : Lk) : Prop := a.to ≠ b.to → ∃ v, Wk (Ed n U V) (r + 1) a.to b.to v ∧ v ≤ a.w + b.w
theorem least_le {E : Nat → Nat → Int → Prop} {k x y : Nat} {m s : Int} (h : LeastW E k x y m) (hs : s < farI) : (∃ v, Wk E k x y v ∧ v ≤ s) ↔ m ≤ s := by
  constructor
  · rintro ⟨v, h1, h2⟩
    have := (h.2 v h1).2
    omega
  · intro hm
    rcases h.1 with ⟨h1, h2⟩ | h1
    · exact ⟨m, h2, hm⟩
    · omega
def HoldsIs (n : Nat) (U V : Nat → List Lk) (r : Nat) (W : World) (e : Ending) (w' : World) : Prop := ∃ b, e = .returned (.bool b) ∧ (b = true ↔ TrueAt n U V r) ∧ Below W.heap.size W w'
set_option maxRecDepth 100000 in
set_option maxHeartbeats 16000000 in
theorem holds_any (base G : Nat) (sv : Nat → Value) (O : List (List StT)) (r : Nat) (k : HV) (h : HierT) (W : World) (hW : WebAt W base G h.node.length sv O) (hweb : Web h.node.length (rowS O)) (hES : ES (rowS O) = Ed h.node.length (seg h.uf h.up) (seg h.df h.dn)) (hp : RdH W k h) (hs : Small k h) (hin : InH h) (hU : Side h.node.length h.uf h.up) (hV : Side h.node.length h.df h.dn) (hr : r < h.node.length) :
    Calls Tryd.prog 43 #[.agg #[.slice (some ⟨G, 0, none⟩) h.node.length h.node.length], hierV k h, .int .i64 (r : Int)] W (HoldsIs h.node.length (seg h.uf h.up) (seg h.df h.dn) r W) := by
  have hn := hU.n_le
  have HFR : Hid (∀ u w, u < h.node.length → Below W.heap.size W w → Calls Tryd.prog 42 #[.agg #[.slice (some ⟨G, 0, none⟩) h.node.length h.node.length], .int .i64 (r : Int), .int .i64 (u : Int)] w (FromIs h.node.length (rowS O) (r + 1) u w)) := Lib.hid fun u w hu hb => by
    have h1 := from_any base G h.node.length sv O (r : Int) u w (hW.below hb) hweb hn (by omega) hu
    rwa [show ((r : Int) + 1).toNat = r + 1 by omega] at h1
  have HES := Lib.hid hES
  have HU := Lib.hid hU
  have HV := Lib.hid hV
  have HF1 := Lib.hid hp.r1
  have HL1 := Lib.hid hp.r2
  have HF2 := Lib.hid hp.r3
  have HL2 := Lib.hid hp.r4
  have HK1 := Lib.hid hin.i2
  have HK2 := Lib.hid hin.i4
  have ht1 := hs.t1
  have ht2 := hs.t2
  have ht3 := hs.t3
  have ht4 := hs.t4
  have hl1 := hU.l_le
  have hl2 := hV.l_le
  have hfl1 := hU.fl
  have hfl2 := hV.fl
  clear hU hV hp hs hin hW hweb hES
  unfold hierV
  generalize h.node.length = n at *
  generalize h.uf = f1 at *
  generalize h.df = f2 at *
  generalize h.up = ls1 at *
  generalize h.dn = ls2 at *
  rw [hfl1] at HF1 ht1 ⊢
  rw [hfl2] at HF2 ht3 ⊢
  generalize hll1 : ls1.length = nl1 at *
  generalize hll2 : ls2.length = nl2 at *
  have HLL1 := Lib.hid hll1
  have HLL2 := Lib.hid hll2
  clear hfl1 hfl2 hll1 hll2
  go_enter Tryd.func43, Tryd.ntmps43
  refine wp_post_named6 ?_
  intro Q0 hQ0
  have HQ0 := Lib.hid hQ0
  clear hQ0
  go_upto_region 1 with fail
  have hx0 := (cells_new W #[.slice (some ⟨G, 0, none⟩) n n] 90).below (w' := (W.alloc (.cells #[.slice (some ⟨G, 0, none⟩) n n] 90)).alloc (.cells #[.slice k.a0 n k.c0, .slice k.a1 (n + 1) k.c1, .slice k.a2 nl1 k.c2, .slice k.a3 (n + 1) k.c3, .slice k.a4 nl2 k.c4] 25)) ((Below.refl _ _).alloc (Nat.le_refl _) _)
  have hx1 := cells_new (W.alloc (.cells #[.slice (some ⟨G, 0, none⟩) n n] 90)) #[.slice k.a0 n k.c0, .slice k.a1 (n + 1) k.c1, .slice k.a2 nl1 k.c2, .slice k.a3 (n + 1) k.c3, .slice k.a4 nl2 k.c4] 25
  have hb1 := ((Below.refl W.heap.size W).alloc (Nat.le_refl _) (.cells #[.slice (some ⟨G, 0, none⟩) n n] 90)).alloc (by simp) (.cells #[.slice k.a0 n k.c0, .slice k.a1 (n + 1) k.c1, .slice k.a2 nl1 k.c2, .slice k.a3 (n + 1) k.c3, .slice k.a4 nl2 k.c4] 25)
  rw [size_alloc] at hx1
  generalize (W.alloc (.cells #[.slice (some ⟨G, 0, none⟩) n n] 90)).alloc (.cells #[.slice k.a0 n k.c0, .slice k.a1 (n + 1) k.c1, .slice k.a2 nl1 k.c2, .slice k.a3 (n + 1) k.c3, .slice k.a4 nl2 k.c4] 25) = w1 at *
  obtain ⟨H, hH⟩ : ∃ H, W.heap.size + 1 = H := ⟨_, rfl⟩
  rw [hH] at hx1 ⊢
  have HX0 := Lib.hid hx0
  have HH := Lib.hid hx1
  have HB1 := Lib.hid hb1
  clear hx0 hx1 hb1 hH
  have b1 : w1.cell? ⟨H, 3, none⟩ = some (.slice k.a3 (n + 1) k.c3) := (HH.out.below (Below.refl _ _)).cell 3
  have b2 : w1.cell? ⟨H, 4, none⟩ = some (.slice k.a4 nl2 k.c4) := (HH.out.below (Below.refl _ _)).cell 4
  obtain ⟨ad, hA, e0, e1⟩ := two_firsts (HF2.out.below HB1.out) hr
  rw [hA] at b1
  have e1' : w1.cell? ⟨ad.block, ad.off + (r + 1), none⟩ = some (.int .u32 (f2.getD (r + 1) 0 : Nat)) := e1
  have hmono := HV.out.mono r hr
  rw [HLL2.out] at hmono
  have hslen := HV.out.len hr
  have hsl := fun w => slice_links k.a4 nl2 k.c4 (f2.getD r 0) (f2.getD (r + 1) 0) hmono.1 (by omega) w
  have hrd := rd_seg HV.out hr (by rw [HLL2.out]; exact HL2.out) (by rw [HLL2.out]; exact ht4.1)
  generalize (if k.c4 = f2.getD r 0 then k.a4 else k.a4.map (·.add (f2.getD r 0 * 4))) = AA at hsl hrd
  generalize hlo1 : f2.getD r 0 = lo at e0 hmono hslen hsl hrd
  generalize hhi1 : f2.getD (r + 1) 0 = hi at e1 e1' hmono hslen hsl hrd
  obtain ⟨sa, hsl2⟩ : ∃ sl, hi - lo = sl := ⟨_, rfl⟩
  rw [hsl2] at hsl hrd hslen
  have HRDa := Lib.hid hrd
  have HSLa := Lib.hid hslen
  have hlo : lo ≤ 1048576 := by omega
  have hhi : hi ≤ 1048576 := by omega
  have hslesa : sa ≤ 1048576 := by omega
  have hlh : lo ≤ hi := hmono.1
  have hhn : hi ≤ nl2 := hmono.2
  have w1' : IntKind.i64.wrap ((r : Int) + 1) = (r : Int) + 1 := by rw [IntKind.wrap_i64]; omega
  have w2' : (0 : Int) ≤ (r : Int) + 1 := by omega
  have w3' : ((r : Int) + 1).toNat = r + 1 := by omega
  have hcap : n + 1 ≤ k.c3 := ht3.1
  have j1 : (0 : Int) ≤ (r : Int) := by omega
  have j2 : (r : Int) < (n : Int) + 1 := by omega
  have j3 : (r : Int) + 1 < (n : Int) + 1 := by omega
  have j4 : (r : Int) < ((n + 1 : Nat) : Int) := by omega
  have j5 : (r : Int) + 1 < ((n + 1 : Nat) : Int) := by omega
  have j6 : (0 : Int) ≤ (lo : Int) := by omega
  have j7 : (lo : Int) ≤ (hi : Int) := by omega
  have j8 : (hi : Int) ≤ (k.c4 : Int) := by omega
  clear hmono hrd hslen hsl2 hA hlo1 hhi1
  go_wp2_with fail
  go_quiet (fail)
  have hdr := Drawn.below (w := w1) (w' := w1.drewN nq) ⟨nq, rfl⟩ w1.heap.size
  clear b1 b2 e0 e1 e1' hsl w1' w2' w3' j1 j2 j3 j4 j5 j6 j7 j8 hcap hlo hhi hlh hhn
  generalize w1.drewN nq = w2 at *
  have HB2 := Lib.hid hdr
  clear hdr
  go_wp2_with fail
  go_loopw [28] (fun iv wr => ∃ j : Nat, j ≤ sa ∧ iv = .int .i64 j ∧ (∀ a ∈ (seg f2 ls2 r).take j, ∀ b ∈ seg f1 ls1 r, OkAB n (seg f1 ls1) (seg f2 ls2) r a b) ∧ Below w1.heap.size w1 wr) (fun iv _ => sa - (intOf iv).toNat)
  case atStart => exact ⟨0, by omega, rfl, fun a ha => by simp at ha, HB2.out⟩
  case round =>
    clear HB2
    obtain ⟨j, hj, rfl, hok, hb⟩ := hrel
    have HOK := Lib.hid hok
    have HB := Lib.hid hb
    clear hok hb
    by_cases hlt : j < sa
    · have g0 : decide ((j : Int) < (sa : Int)) = true := decide_eq_true (by omega)
      have hks : j < (seg f2 ls2 r).length := by have := HSLa.out; omega
      obtain ⟨ad2, hA2, cc⟩ := (HRDa.out.below (HB1.out.trans (HB.out.mono HB1.out.size))).at_ hlt
      subst hA2
      obtain ⟨c0, c1', c2', c3'⟩ := four_cells cc
      have hmem : (seg f2 ls2 r)[j] ∈ ls2 := List.mem_of_mem_drop (List.mem_of_mem_take (List.getElem_mem hks))
      have hik := HK2.out _ hmem
      have hww := HV.out.ups.w r _ hr (List.getElem_mem hks)
      have hup := HV.out.ups.up r _ hr (List.getElem_mem hks)
      have htk : (seg f2 ls2 r).take (j + 1) = (seg f2 ls2 r).take j ++ [(seg f2 ls2 r)[j]] := List.take_succ_eq_append_getElem hks
      have hin2 : (seg f2 ls2 r)[j] ∈ seg f2 ls2 r := List.getElem_mem hks
      generalize (seg f2 ls2 r)[j] = L at *
      have hLto := hik.to
      unfold In32 at hLto
      unfold topI at hww
      have HTK := Lib.hid htk
      have HIN2 := Lib.hid hin2
      obtain ⟨t0, t1, t2, t3⟩ := L
      dsimp only at c0 c1' c2' c3' hww hup hLto
      clear cc hmem hik htk hin2
      go_upto_region 4 with fail
      have hb8 := (Below.refl wr.heap.size wr).alloc (Nat.le_refl _) (.cells #[.int .u32 (t0 : Int), .int .u64 t1, .int .u32 (t2 : Int), .int .u32 (t3 : Int)] 52)
      have HKA := Lib.hid (cells_new wr #[.int .u32 (t0 : Int), .int .u64 t1, .int .u32 (t2 : Int), .int .u32 (t3 : Int)] 52)
      have HB8 := Lib.hid (HB.out.trans (hb8.mono HB.out.size))
      clear hb8 c0 c1' c2' c3' HB
      generalize wr.alloc (.cells #[.int .u32 (t0 : Int), .int .u64 t1, .int .u32 (t2 : Int), .int .u32 (t3 : Int)] 52) = w8 at *
      generalize wr.heap.size = la at *
      have b1 : w8.cell? ⟨H, 1, none⟩ = some (.slice k.a1 (n + 1) k.c1) := (HH.out.below HB8.out).cell 1
      have b2 : w8.cell? ⟨H, 2, none⟩ = some (.slice k.a2 nl1 k.c2) := (HH.out.below HB8.out).cell 2
      obtain ⟨ad, hA, e0, e1⟩ := two_firsts (HF1.out.below (HB1.out.trans (HB8.out.mono HB1.out.size))) hr
      rw [hA] at b1
      have e1' : w8.cell? ⟨ad.block, ad.off + (r + 1), none⟩ = some (.int .u32 (f1.getD (r + 1) 0 : Nat)) := e1
      have hmono := HU.out.mono r hr
      rw [HLL1.out] at hmono
      have hslen := HU.out.len hr
      have hsl := fun w => slice_links k.a2 nl1 k.c2 (f1.getD r 0) (f1.getD (r + 1) 0) hmono.1 (by omega) w
      have hrd := rd_seg HU.out hr (by rw [HLL1.out]; exact HL1.out) (by rw [HLL1.out]; exact ht2.1)
      generalize (if k.c2 = f1.getD r 0 then k.a2 else k.a2.map (·.add (f1.getD r 0 * 4))) = AB at hsl hrd
      generalize hlo1 : f1.getD r 0 = lo at e0 hmono hslen hsl hrd
      generalize hhi1 : f1.getD (r + 1) 0 = hi at e1 e1' hmono hslen hsl hrd
      obtain ⟨sb, hsl2⟩ : ∃ sl, hi - lo = sl := ⟨_, rfl⟩
      rw [hsl2] at hsl hrd hslen
      have HRDb := Lib.hid hrd
      have HSLb := Lib.hid hslen
      have hlo : lo ≤ 1048576 := by omega
      have hhi : hi ≤ 1048576 := by omega
      have hslesb : sb ≤ 1048576 := by omega
      have hlh : lo ≤ hi := hmono.1
      have hhn : hi ≤ nl1 := hmono.2
      have w1' : IntKind.i64.wrap ((r : Int) + 1) = (r : Int) + 1 := by rw [IntKind.wrap_i64]; omega
      have w2' : (0 : Int) ≤ (r : Int) + 1 := by omega
      have w3' : ((r : Int) + 1).toNat = r + 1 := by omega
      have hcap : n + 1 ≤ k.c1 := ht1.1
      have j1 : (0 : Int) ≤ (r : Int) := by omega
      have j2 : (r : Int) < (n : Int) + 1 := by omega
      have j3 : (r : Int) + 1 < (n : Int) + 1 := by omega
      have j4 : (r : Int) < ((n + 1 : Nat) : Int) := by omega
      have j5 : (r : Int) + 1 < ((n + 1 : Nat) : Int) := by omega
      have j6 : (0 : Int) ≤ (lo : Int) := by omega
      have j7 : (lo : Int) ≤ (hi : Int) := by omega
      have j8 : (hi : Int) ≤ (k.c2 : Int) := by omega
      clear hmono hrd hslen hsl2 hA hlo1 hhi1
      go_wp2_with fail
      go_quiet (fail)
      have hdr := Drawn.below (w := w8) (w' := w8.drewN nq) ⟨nq, rfl⟩ w8.heap.size
      clear b1 b2 e0 e1 e1' hsl w1' w2' w3' j1 j2 j3 j4 j5 j6 j7 j8 hcap hlo hhi hlh hhn
      generalize w8.drewN nq = w9 at *
      have HB9 := Lib.hid (HB8.out.trans (hdr.mono HB8.out.size))
      have HKA9 := Lib.hid (HKA.out.below hdr)
      clear hdr HB8 HKA
      by_cases hsb : sb = 0
      · have g1 : ((sb : Int) == 0) = true := by rw [beq_iff_eq]; omega
        have g1' : (sb == 0) = true := by rw [beq_iff_eq]; exact hsb
        have HE : Hid (TrueAt n (seg f1 ls1) (seg f2 ls2) r) := Lib.hid (by
          intro a ha b hb
          have h := HSLb.out
          rw [hsb] at h
          rw [List.eq_nil_of_length_eq_zero h] at hb
          cases hb)
        clear hsb
        go_wp2_with fail
        rw [HQ0.out]
        go_ret
        exact ⟨true, rfl, by simp [HE.out], HB1.out.trans (HB9.out.mono HB1.out.size)⟩
      · have g1 : ((sb : Int) == 0) = false := by rw [beq_eq_false_iff_ne]; omega
        have g1' : (sb == 0) = false := by rw [beq_eq_false_iff_ne]; exact hsb
        have d0 : w9.cell? ⟨W.heap.size, 0, none⟩ = some (.slice (some ⟨G, 0, none⟩) n n) := (HX0.out.below HB9.out).cell 0
        have k0 : w9.cell? ⟨la, 0, none⟩ = some (.int .u32 (t0 : Int)) := HKA9.out.cell 0
        have hwt : IntKind.i64.wrap (t0 : Int) = (t0 : Int) := by rw [IntKind.wrap_i64]; omega
        clear hsb
        go_wp2_with fail
        refine (HFR.out t0 w9 hup.2 (HB1.out.trans (HB9.out.mono HB1.out.size))).mono ?_
        rintro e wA ⟨D, d, rfl, hcA, hdl, hle, htwo, hbA, hDb⟩
        rw [HES.out] at hle
        have HCA := Lib.hid hcA
        have HDL := Lib.hid hdl
        have HLE := Lib.hid hle
        have HTWO := Lib.hid htwo
        have HBA := Lib.hid (HB9.out.trans (hbA.mono HB9.out.size))
        have HKAA := Lib.hid (HKA9.out.below hbA)
        clear hcA hdl hle htwo hbA hDb HB9 HKA9 d0 k0 g1 g1' hwt
        go_wp2_with fail
        generalize wr = wo at *
        go_loopw [57] (fun iv wr => ∃ i : Nat, i ≤ sb ∧ iv = .int .i64 i ∧ (∀ b ∈ (seg f1 ls1 r).take i, OkAB n (seg f1 ls1) (seg f2 ls2) r ⟨t0, t1, t2, t3⟩ b) ∧ Below wA.heap.size wA wr) (fun iv _ => sb - (intOf iv).toNat)
        case atStart => exact ⟨0, by omega, rfl, fun b hb => by simp at hb, Below.refl _ _⟩
        case round =>
          obtain ⟨i, hi, rfl, hok, hb⟩ := hrel
          have HOB := Lib.hid hok
          have HBI := Lib.hid hb
          clear hok hb
          by_cases hlt2 : i < sb
          · have g1 : decide ((i : Int) < (sb : Int)) = true := decide_eq_true (by omega)
            have hks : i < (seg f1 ls1 r).length := by have := HSLb.out; omega
            obtain ⟨ad3, hA3, cc⟩ := (HRDb.out.below (HB1.out.trans ((HBA.out.trans (HBI.out.mono HBA.out.size)).mono HB1.out.size))).at_ hlt2
            subst hA3
            obtain ⟨c0, c1', c2', c3'⟩ := four_cells cc
            have hmem : (seg f1 ls1 r)[i] ∈ ls1 := List.mem_of_mem_drop (List.mem_of_mem_take (List.getElem_mem hks))
            have hik := HK1.out _ hmem
            have hww2 := HU.out.ups.w r _ hr (List.getElem_mem hks)
            have hup2 := HU.out.ups.up r _ hr (List.getElem_mem hks)
            have htk : (seg f1 ls1 r).take (i + 1) = (seg f1 ls1 r).take i ++ [(seg f1 ls1 r)[i]] := List.take_succ_eq_append_getElem hks
            have hin2 : (seg f1 ls1 r)[i] ∈ seg f1 ls1 r := List.getElem_mem hks
            generalize (seg f1 ls1 r)[i] = L2 at *
            have hLto2 := hik.to
            unfold In32 at hLto2
            unfold topI at hww2
            have HTK2 := Lib.hid htk
            have HIN1 := Lib.hid hin2
            obtain ⟨s0, s1, s2, s3⟩ := L2
            dsimp only at c0 c1' c2' c3' hww2 hup2 hLto2
            clear cc hmem hik htk hin2
            go_upto_region 11 with fail
            have hb8 := (Below.refl wr.heap.size wr).alloc (Nat.le_refl _) (.cells #[.int .u32 (s0 : Int), .int .u64 s1, .int .u32 (s2 : Int), .int .u32 (s3 : Int)] 52)
            have HKB := Lib.hid (cells_new wr #[.int .u32 (s0 : Int), .int .u64 s1, .int .u32 (s2 : Int), .int .u32 (s3 : Int)] 52)
            have HBJ := Lib.hid (HBI.out.trans (hb8.mono HBI.out.size))
            clear hb8 c0 c1' c2' c3' HBI
            generalize wr.alloc (.cells #[.int .u32 (s0 : Int), .int .u64 s1, .int .u32 (s2 : Int), .int .u32 (s3 : Int)] 52) = wB at *
            generalize wr.heap.size = lb at *
            have hkb := HKAA.out.below HBJ.out
            have k0 : wB.cell? ⟨la, 0, none⟩ = some (.int .u32 (t0 : Int)) := hkb.cell 0
            have k1 : wB.cell? ⟨la, 1, none⟩ = some (.int .u64 t1) := hkb.cell 1
            have e0 : wB.cell? ⟨lb, 0, none⟩ = some (.int .u32 (s0 : Int)) := HKB.out.cell 0
            have e1 : wB.cell? ⟨lb, 1, none⟩ = some (.int .u64 s1) := HKB.out.cell 1
            have hw1 : IntKind.i64.wrap ((i : Int) + 1) = (i : Int) + 1 := by rw [IntKind.wrap_i64]; omega
            clear hkb
            by_cases hts : t0 = s0
            · have q0 : ((t0 : Int) == (s0 : Int)) = true := by rw [beq_iff_eq]; omega
              have q1 : ((t0 : Int) != (s0 : Int)) = false := by rw [bne_eq_false_iff_eq]; omega
              have HNX : Hid (∀ b ∈ (seg f1 ls1 r).take (i + 1), OkAB n (seg f1 ls1) (seg f2 ls2) r ⟨t0, t1, t2, t3⟩ b) := Lib.hid (by
                intro b hb
                rw [HTK2.out] at hb
                rcases List.mem_append.1 hb with hb | hb
                · exact HOB.out b hb
                · obtain rfl := List.mem_singleton.1 hb
                  exact fun h => absurd hts h)
              clear hts
              go_wp2_with (go_quiet (fail))
              have hdr := Drawn.below (w := wB) (w' := wB.drewN nq) ⟨nq, rfl⟩ wB.heap.size
              exact ⟨⟨i + 1, by omega, by go_num, HNX.out, HBJ.out.trans (hdr.mono HBJ.out.size)⟩, by simp [intOf]; omega⟩
            · have q0 : ((t0 : Int) == (s0 : Int)) = false := by rw [beq_eq_false_iff_ne]; omega
              have q1 : ((t0 : Int) != (s0 : Int)) = true := by rw [bne_iff_ne]; omega
              have hs0 : s0 < n := hup2.2
              have cd := (HCA.out.below HBJ.out).cell s0
              rw [nA_at (by rw [HDL.out]; exact hs0)] at cd
              have hsum : IntKind.u64.wrap (t1 + s1) = t1 + s1 := by rw [IntKind.wrap_u64]; omega
              have i3 : (0 : Int) ≤ (s0 : Int) := by omega
              have i4 : (s0 : Int) < (n : Int) := by omega
              have HIFF := Lib.hid (least_le (HLE.out s0) (s := t1 + s1) (by unfold farI; omega))
              generalize dg d s0 = dd at *
              by_cases hgt : t1 + s1 < dd
              · have q2 : decide (t1 + s1 < dd) = true := decide_eq_true hgt
                have HE : Hid (¬ TrueAt n (seg f1 ls1) (seg f2 ls2) r) := Lib.hid (fun h => by
                  have h1 := h _ HIN2.out _ HIN1.out hts
                  dsimp only at h1
                  have := HIFF.out.1 h1
                  omega)
                have HBE := Lib.hid (HB1.out.trans ((HBA.out.trans (HBJ.out.mono HBA.out.size)).mono HB1.out.size))
                clear hts hgt
                go_wp2_with (go_quiet (fail))
                rw [HQ0.out]
                go_ret
                exact ⟨false, rfl, by simp [HE.out], by first | exact HBE.out | exact HBE.out.trans (Drawn.below (w := wB) (w' := wB.drewN nq) ⟨nq, rfl⟩ _)⟩
              · have q2 : decide (t1 + s1 < dd) = false := decide_eq_false hgt
                have HNX : Hid (∀ b ∈ (seg f1 ls1 r).take (i + 1), OkAB n (seg f1 ls1) (seg f2 ls2) r ⟨t0, t1, t2, t3⟩ b) := Lib.hid (by
                  intro b hb
                  rw [HTK2.out] at hb
                  rcases List.mem_append.1 hb with hb | hb
                  · exact HOB.out b hb
                  · obtain rfl := List.mem_singleton.1 hb
                    exact fun h => HIFF.out.2 (by omega))
                clear hts hgt
                go_wp2_with (go_quiet (fail))
                have hdr := Drawn.below (w := wB) (w' := wB.drewN nq) ⟨nq, rfl⟩ wB.heap.size
                exact ⟨⟨i + 1, by omega, by go_num, HNX.out, HBJ.out.trans (hdr.mono HBJ.out.size)⟩, by simp [intOf]; omega⟩
          · obtain rfl : sb = i := by omega
            have HNX : Hid (∀ a ∈ (seg f2 ls2 r).take (j + 1), ∀ b ∈ seg f1 ls1 r, OkAB n (seg f1 ls1) (seg f2 ls2) r a b) := Lib.hid (by
              intro a ha b hb
              rw [HTK.out] at ha
              rcases List.mem_append.1 ha with ha | ha
              · exact HOK.out a ha b hb
              · obtain rfl := List.mem_singleton.1 ha
                have h := HOB.out
                rw [List.take_of_length_le (by rw [HSLb.out]; exact Nat.le_refl _)] at h
                exact h b hb)
            have HBE := Lib.hid (HBA.out.trans (HBI.out.mono HBA.out.size))
            go_wp2_with fail
            go_roundw
            case rel => exact ⟨j + 1, by omega, by go_num, HNX.out, HBE.out⟩
            case measure => simp [intOf]; omega
    · obtain rfl : sa = j := by omega
      have HE : Hid (TrueAt n (seg f1 ls1) (seg f2 ls2) r) := Lib.hid (by
        intro a ha b hb
        have h := HOK.out
        rw [List.take_of_length_le (by rw [HSLa.out]; exact Nat.le_refl _)] at h
        exact h a ha b hb)
      go_wp2_with fail
      rw [HQ0.out]
      go_ret
      exact ⟨true, rfl, by simp [HE.out], HB1.out.trans (HB.out.mono HB1.out.size)⟩
end Go.Proofs.YtkcnnamghpdplaaDoor
