/- FaultShifts. -/
import Derived.Test.YtkncgpnnilcicaaDoorLSame
set_option linter.unusedSimpArgs false
set_option linter.unusedVariables false
namespace Go.Proofs.YtkncgpnnilcicaaDoor
open Go.RowKit Go.Extern.Stop Go.Stop Go.Extern

theorem wrap_some {W : World} {c : Int} {s : Value} {ps : List (Int × Int)} (h : Wrap W (coreOf c) s ps) (hb : c ≠ 0 ∨ 0 < ps.length) : ∃ u x, s = .iface u x := by
  rcases h.form with rfl | h
  · exfalso
    cases ps with
    | nil =>
      have := h.nil
      rcases hb with hb | hb
      · unfold coreOf at this
        rw [if_neg hb] at this
        simp [Core.val] at this
      · simp at hb
    | cons x r => obtain ⟨b, o, v', hv, _⟩ := h.cons; cases hv
  · exact h
theorem wrap_end {W : World} {c : Int} {s : Value} (h : Wrap W (coreOf c) s []) : s = if c = 0 then .nilIface else .iface 24 (.int .i64 c) := by
  have := h.nil
  rw [this]
  unfold coreOf
  split <;> rfl
theorem link_shift {z : List (Int × Int)} {c a k d : Int} (hc : toldC z a = c) : linkC (shiftPs k d (linkPs z)) (coreOf c) = c ∧ linkPs (shiftPs k d (linkPs z)) = shiftPs k d (linkPs z) := by
  constructor
  · unfold linkC
    rw [shiftPs_len]
    by_cases hl : z.length < 64
    · rw [if_pos (by unfold linkPs; rw [List.length_take]; omega)]
      unfold coreOf
      split
      · rename_i h0; rw [h0]; rfl
      · rfl
    · rw [if_neg (by unfold linkPs; rw [List.length_take]; omega)]
      unfold toldC at hc
      rw [if_neg hl] at hc
      exact hc
  · unfold linkPs
    apply List.take_of_length_le
    rw [shiftPs_len, List.length_take]
    omega
set_option maxRecDepth 1000000 in
set_option maxHeartbeats 2000000 in
theorem FaultShifts_walk (a0 : Option Addr) (len0 cap0 : Nat) (z0 : List (Int × Int)) (a1 : Int) (a2 : Bool) (a3 a4 : Int) (W : World) (w0 : IsPlaces W a0 len0 cap0 z0) (w1 : (Lit.int .i64 a1).wf = true) (w3 : (Lit.int .i64 a3).wf = true) (w4 : (Lit.int .i64 a4).wf = true) (hg : ErrT W) (ht : Tab W) :
    Calls Tryd.prog 7 #[.slice a0 len0 cap0, .int .i64 a1, .bool a2, .int .i64 a3, .int .i64 a4] W fun e w' => e = .returned (.bool true) ∧ Below W.heap.size W w' := by
  obtain ⟨hrd, hin, hcap, hmax⟩ := w0
  simp only [maxLen] at hmax
  have HRD := Lib.hid hrd
  have HG := Lib.hid hg
  have HT := Lib.hid ht
  have HI1 := Lib.hid (i64_of_wf w1)
  have HIN := Lib.hid (fun p hp => (hin p hp).2 : ∀ p ∈ z0, I64 p.2)
  clear hrd hin hg ht w1 w3 w4
  obtain ⟨qs, hqs⟩ : ∃ qs, linkPs z0 = qs := ⟨_, rfl⟩
  have hql : qs.length ≤ 64 := by rw [← hqs]; exact linkPs_len z0
  have hqi : ∀ p ∈ qs, I64 p.2 := by rw [← hqs]; exact linkPs_mem HIN.out
  generalize hn : qs.length = n at hql
  have HQS := Lib.hid hqs
  have HQI := Lib.hid hqi
  have HN := Lib.hid hn
  clear hqs hn hqi
  go_enter Tryd.func7, Tryd.ntmps7
  go_wp2_with fail
  refine (awake_any HG.out HT.out).mono ?_
  rintro e w1 ⟨rfl, hb⟩
  have HB1 := Lib.hid hb
  clear hb
  go_wp2_with fail
  refine (Chain_any a0 len0 cap0 z0 a1 a2 w1 (HRD.out.below HB1.out) (by omega)).mono ?_
  rintro e w2 ⟨E, hE, v, rfl, hw, hb⟩
  have HE := Lib.hid hE
  have HW2 := Lib.hid hw
  have HB2 := Lib.hid (HB1.out.trans (hb.mono HB1.out.size))
  clear hE hw hb
  go_wp2_with fail
  refine (Told_any a0 len0 cap0 z0 a1 w2 (HRD.out.below HB2.out) hcap (by omega)).mono ?_
  rintro e w3 ⟨vw, rfl, how, hb⟩
  rw [HQS.out] at how
  obtain ⟨Aw, cw, rfl, hwc, hwm⟩ := how.form
  rw [HN.out] at how ⊢
  obtain ⟨c, hc⟩ : ∃ c, toldC z0 a1 = c := ⟨_, rfl⟩
  have HC := Lib.hid hc
  have HLC : Hid (linkC z0 E = c) := Lib.hid ((linkC_told HE.out).trans hc)
  have HCI : Hid (I64 c) := Lib.hid (by rw [← hc]; exact toldC_in HI1.out)
  have HLK := Lib.hid (link_shift (k := a3) (d := a4) hc)
  rw [hc]
  have HR3 := Lib.hid (how.rd places_len rfl : RdP w3 Aw n qs)
  have HW3 := Lib.hid (HW2.out.keep hb)
  have HB3 := Lib.hid (HB2.out.trans (hb.mono HB2.out.size))
  clear how hb hwc hwm hc
  go_wp2_with fail
  generalize hW4 : w3.alloc (.cells #[.int .i64 c, .slice Aw n cw] 46) = w4
  have hbel : Below w3.heap.size w3 w4 := by rw [← hW4]; exact (Below.refl _ _).alloc (Nat.le_refl _) _
  have hcell : Cells w4 w3.heap.size #[.int .i64 c, .slice Aw n cw] 46 := by rw [← hW4]; exact cells_new _ _ _
  have HB4 := Lib.hid (HB3.out.trans (hbel.mono HB3.out.size))
  have HW4 := Lib.hid (HW3.out.keep hbel)
  have HR4 := Lib.hid (HR3.out.below hbel)
  have d0 := hcell.cell 0
  have d1 := hcell.cell 1
  simp only [List.getElem?_toArray, List.getElem?_cons_zero, List.getElem?_cons_succ] at d0 d1
  clear hbel hcell hW4
  have HW4' := Lib.hid (FShift_any E v z0 a3 a4 HW4.out)
  rw [HQS.out, HLC.out] at HW4'
  rw [HQS.out] at HLK
  have hxl : (shiftPs a3 a4 qs).length = n := (shiftPs_len _ _ _).trans HN.out
  have HRS := Lib.hid (fun (w : World) (hb : Below w4.heap.size w4 w) => RShift_any c Aw n cw qs a3 a4 (HR4.out.below hb) hql)
  generalize shiftPs a3 a4 qs = xs at *
  have HXL := Lib.hid hxl
  clear hxl
  refine HW4'.out.mono ?_
  rintro e w5 ⟨s, rfl, hs, hb5⟩
  have HS5 := Lib.hid hs
  have d0 := cell_below hb5 d0
  have d1 := cell_below hb5 d1
  have HX5 := Lib.hid hb5
  clear hs hb5 HW4'
  go_wp2_with fail
  refine (HRS.out w5 HX5.out).mono ?_
  rintro e w6 ⟨Ax, kx, rfl, hox, hb6⟩
  have hxm : n ≤ kx ∧ kx ≤ maxLen := by
    obtain ⟨A', k', hv, h1, h2⟩ := hox.form
    injection hv with _ _ h3
    subst h3
    rw [HXL.out] at h1
    exact ⟨h1, h2⟩
  rw [HXL.out] at hox ⊢
  have HOX := Lib.hid (hox.rd places_len rfl : RdP w6 Ax n xs)
  have d0 := cell_below hb6 d0
  have d1 := cell_below hb6 d1
  have HS6 := Lib.hid (HS5.out.keep hb6)
  have HX6 := Lib.hid (HX5.out.trans (hb6.mono HX5.out.size))
  clear hox hb6 HRS hxm
  go_wp2_with fail
  generalize hW7 : w6.alloc (.cells #[.int .i64 c, .slice Ax n kx] 46) = w7
  have hbel : Below w6.heap.size w6 w7 := by rw [← hW7]; exact (Below.refl _ _).alloc (Nat.le_refl _) _
  have hcell : Cells w7 w6.heap.size #[.int .i64 c, .slice Ax n kx] 46 := by rw [← hW7]; exact cells_new _ _ _
  have HX7 := Lib.hid (HX6.out.trans (hbel.mono HX6.out.size))
  have HB7 := Lib.hid (HB4.out.trans (HX7.out.mono HB4.out.size))
  have HS7 := Lib.hid (HS6.out.keep hbel)
  have HOX7 := Lib.hid (HOX.out.below hbel)
  have d0 := cell_below hbel d0
  have d1 := cell_below hbel d1
  have x0 := hcell.cell 0
  have x1 := hcell.cell 1
  simp only [List.getElem?_toArray, List.getElem?_cons_zero, List.getElem?_cons_succ] at x0 x1
  clear hbel hcell hW7
  have HCODE : Hid (∀ w, Below w7.heap.size w7 w → Calls Tryd.prog 17 #[v] w fun e w' => e = .returned (.int .i64 c) ∧ Below w.heap.size w w') := Lib.hid fun w hb => by
    have h := Code_any E v z0 ((HW4.out.keep HX7.out).keep hb) (HG.out.below (HB7.out.trans (hb.mono HB7.out.size)))
    rw [HLC.out] at h
    exact h
  have HPL : Hid (∀ w, Below w7.heap.size w7 w → Calls Tryd.prog 16 #[v] w fun e w' => ∃ A k, e = .returned (.slice A n k) ∧ RdP w' A n qs ∧ Below w.heap.size w w') := Lib.hid fun w hb => by
    refine (Places_any E v z0 ((HW4.out.keep HX7.out).keep hb)).mono ?_
    rintro e w' ⟨p, rfl, ho, hb⟩
    rw [HQS.out] at ho
    obtain ⟨A, k, rfl, hr, _⟩ := own_places ho
    rw [HN.out] at hr ⊢
    exact ⟨A, k, rfl, hr, hb⟩
  have HAL : Hid (∀ w A k, Below w7.heap.size w7 w → RdP w A n qs → Calls Tryd.prog 18 #[.slice A n k, .slice Aw n cw] w fun e w' => e = .returned (.bool true) ∧ Below w.heap.size w w') := Lib.hid fun w A k hb hr => by
    have h := Alike_any A Aw n n k cw qs qs w hr ((HR4.out.below HX7.out).below hb) (by omega) (by omega)
    rw [decide_eq_true rfl] at h
    exact h
  have HCODE2 : Hid (∀ w, Below w7.heap.size w7 w → Calls Tryd.prog 17 #[s] w fun e w' => e = .returned (.int .i64 c) ∧ Below w.heap.size w w') := Lib.hid fun w hb => by
    have h := Code_any (coreOf c) s xs (HS7.out.keep hb) (HG.out.below (HB7.out.trans (hb.mono HB7.out.size)))
    rw [HLK.out.1] at h
    exact h
  have HPL2 : Hid (∀ w, Below w7.heap.size w7 w → Calls Tryd.prog 16 #[s] w fun e w' => ∃ A k, e = .returned (.slice A n k) ∧ RdP w' A n xs ∧ Below w.heap.size w w') := Lib.hid fun w hb => by
    refine (Places_any (coreOf c) s xs (HS7.out.keep hb)).mono ?_
    rintro e w' ⟨p, rfl, ho, hb⟩
    rw [HLK.out.2] at ho
    obtain ⟨A, k, rfl, hr, _⟩ := own_places ho
    rw [HXL.out] at hr ⊢
    exact ⟨A, k, rfl, hr, hb⟩
  have HAL2 : Hid (∀ w A k, Below w7.heap.size w7 w → RdP w A n xs → Calls Tryd.prog 18 #[.slice A n k, .slice Ax n kx] w fun e w' => e = .returned (.bool true) ∧ Below w.heap.size w w') := Lib.hid fun w A k hb hr => by
    have h := Alike_any A Ax n n k kx xs xs w hr (HOX7.out.below hb) (by omega) (by omega)
    rw [decide_eq_true rfl] at h
    exact h
  have HX : Hid (Below w7.heap.size w7 w7) := Lib.hid (Below.refl _ _)
  go_region_held3 (fun w' => w'.cell? ⟨w3.heap.size, 0, none⟩ = some (.int .i64 c) ∧ w'.cell? ⟨w3.heap.size, 1, none⟩ = some (.slice Aw n cw)) (first | exact ⟨d0, d1⟩) (first
    | (go_at_call 17; refine (HCODE.out _ (by first | exact HX.out | exact HX.out.drew)).mono ?_; rintro e w5 ⟨rfl, hb5⟩; have d0 := cell_below hb5 d0; have d1 := cell_below hb5 d1; have x0 := cell_below hb5 x0; have x1 := cell_below hb5 x1; have HX : Hid (Below w7.heap.size w7 w5) := Lib.hid (by first | exact HX.out.trans (hb5.mono HX.out.size) | exact HX.out.drew.trans (hb5.mono HX.out.drew.size)); clear hb5)
    | (go_at_call 16; refine (HPL.out _ (by first | exact HX.out | exact HX.out.drew)).mono ?_; rintro e w5 ⟨Ar, kr, rfl, hr5, hb5⟩; have HR5 := Lib.hid hr5; clear hr5; have d0 := cell_below hb5 d0; have d1 := cell_below hb5 d1; have x0 := cell_below hb5 x0; have x1 := cell_below hb5 x1; have HX : Hid (Below w7.heap.size w7 w5) := Lib.hid (by first | exact HX.out.trans (hb5.mono HX.out.size) | exact HX.out.drew.trans (hb5.mono HX.out.drew.size)); clear hb5)
    | (go_at_call 18; refine (HAL.out _ _ _ (by first | exact HX.out | exact HX.out.drew) HR5.out).mono ?_; rintro e w5 ⟨rfl, hb5⟩; have d0 := cell_below hb5 d0; have d1 := cell_below hb5 d1; have x0 := cell_below hb5 x0; have x1 := cell_below hb5 x1; have HX : Hid (Below w7.heap.size w7 w5) := Lib.hid (by first | exact HX.out.trans (hb5.mono HX.out.size) | exact HX.out.drew.trans (hb5.mono HX.out.drew.size)); clear hb5))
  rename_i hHeld
  clear hHeld
  obtain ⟨w8, rfl⟩ : ∃ w8 : World, w8 = w5 := ⟨_, rfl⟩
  clear d0 d1
  go_wp2_with fail
  refine (Bad_any c Ax n kx _ (by unfold maxLen; omega)).mono ?_
  rintro e w5 ⟨rfl, hb5⟩
  have x0 := cell_below hb5 x0
  have x1 := cell_below hb5 x1
  have HX : Hid (Below w7.heap.size w7 w5) := Lib.hid (HX.out.trans (hb5.mono HX.out.size))
  clear hb5
  by_cases hbad : c ≠ 0 ∨ 0 < n
  · rw [decide_eq_true hbad]
    obtain ⟨us, vs, rfl⟩ := wrap_some HS7.out (by rw [HXL.out]; exact hbad)
    clear hbad HCODE HPL HAL
    go_wp2_with fail
    go_region_held3 (fun w' => w'.cell? ⟨w6.heap.size, 0, none⟩ = some (.int .i64 c) ∧ w'.cell? ⟨w6.heap.size, 1, none⟩ = some (.slice Ax n kx)) (first | exact ⟨x0, x1⟩) (first
      | (go_at_call 17; refine (HCODE2.out _ (by first | exact HX.out | exact HX.out.drew)).mono ?_; rintro e w5 ⟨rfl, hb5⟩; have x0 := cell_below hb5 x0; have x1 := cell_below hb5 x1; have HX : Hid (Below w7.heap.size w7 w5) := Lib.hid (by first | exact HX.out.trans (hb5.mono HX.out.size) | exact HX.out.drew.trans (hb5.mono HX.out.drew.size)); clear hb5)
      | (go_at_call 16; refine (HPL2.out _ (by first | exact HX.out | exact HX.out.drew)).mono ?_; rintro e w5 ⟨Ar, kr, rfl, hr5, hb5⟩; have HR5 := Lib.hid hr5; clear hr5; have x0 := cell_below hb5 x0; have x1 := cell_below hb5 x1; have HX : Hid (Below w7.heap.size w7 w5) := Lib.hid (by first | exact HX.out.trans (hb5.mono HX.out.size) | exact HX.out.drew.trans (hb5.mono HX.out.drew.size)); clear hb5)
      | (go_at_call 18; refine (HAL2.out _ _ _ (by first | exact HX.out | exact HX.out.drew) HR5.out).mono ?_; rintro e w5 ⟨rfl, hb5⟩; have x0 := cell_below hb5 x0; have x1 := cell_below hb5 x1; have HX : Hid (Below w7.heap.size w7 w5) := Lib.hid (by first | exact HX.out.trans (hb5.mono HX.out.size) | exact HX.out.drew.trans (hb5.mono HX.out.drew.size)); clear hb5))
    rename_i hHeld
    clear hHeld
    obtain ⟨w9, rfl⟩ : ∃ w9 : World, w9 = w5 := ⟨_, rfl⟩
    clear HCODE2 HPL2 HAL2
    have HG9 := Lib.hid (HG.out.below (HB7.out.trans (HX.out.mono HB7.out.size)))
    have HS9 := Lib.hid (HS7.out.keep HX.out)
    have HP9 := Lib.hid (HOX7.out.below HX.out)
    have X0 := Lib.hid x0
    go_wp2_with fail
    clear x0 x1
    go_loopw [13, 73] (fun E i wr => ∃ j : Nat, j ≤ n ∧ i = .int .i64 j ∧ Wrap w9 (coreOf c) E (xs.drop j) ∧ Below w9.heap.size w9 wr) (fun E i _ => n - (intOf i).toNat)
    case atStart => exact ⟨0, by omega, rfl, HS9.out, Below.refl _ _⟩
    case round =>
      obtain ⟨j, hj, rfl, hcj, hbw⟩ := hrel
      have HBW := Lib.hid hbw
      have HCJ := Lib.hid hcj
      clear hbw hcj
      by_cases hlt : j < n
      · obtain ⟨ad, hA, cc⟩ := (HP9.out.below HBW.out).at_ hlt
        subst hA
        have hjl : j < xs.length := by have := HXL.out; omega
        have hcj := HCJ.out
        rw [List.drop_eq_getElem_cons hjl] at hcj
        obtain ⟨b, o, E', rfl, e0, e1, e2, hrest⟩ := hcj.cons
        obtain ⟨c0, c1⟩ := two_places cc
        have HR := Lib.hid hrest
        clear hrest hcj cc
        generalize xs[j] = x at *
        obtain ⟨k, a⟩ := x
        simp only [] at c0 c1 e0 e1
        have L0 := World.block_lt_of_cell? w9 _ e0
        simp only [] at L0
        go_wp2_with fail
        have BX := ((HBW.out.alloc HBW.out.size (.cells #[.int .i64 k, .int .i64 a] 34)).alloc (Nat.le_trans HBW.out.size (by simp)) (.cells #[.pointer none] 30)).drew
        have d1 := (BX.cell L0).trans e0
        have d2 := (BX.cell (p := ⟨b, o + 1, none⟩) L0).trans e1
        have d3 : (((wr.alloc (.cells #[.int .i64 k, .int .i64 a] 34)).alloc (.cells #[.pointer none] 30)).drew).cell? ⟨wr.heap.size, 0, none⟩ = some (.int .i64 k) := by simp
        have d4 : (((wr.alloc (.cells #[.int .i64 k, .int .i64 a] 34)).alloc (.cells #[.pointer none] 30)).drew).cell? ⟨wr.heap.size, 1, none⟩ = some (.int .i64 a) := by simp
        have HT2 : Hid ((((wr.alloc (.cells #[.int .i64 k, .int .i64 a] 34)).alloc (.cells #[.pointer none] 30)).drew).cell? ⟨wr.heap.size + 1, 0, none⟩ = some (.pointer none)) := Lib.hid (by simp)
        have HF2 : Hid ((((wr.alloc (.cells #[.int .i64 k, .int .i64 a] 34)).alloc (.cells #[.pointer none] 30)).drew).frozen? ⟨wr.heap.size + 1, 0, none⟩ = false) := Lib.hid (by simp)
        have HGX := Lib.hid (HG9.out.below BX)
        have HBX := Lib.hid BX
        clear BX
        go_region_with (first
          | (go_at_call 14; refine (As_hitF ⟨b, o, none⟩ ⟨wr.heap.size + 1, 0, none⟩ (.pointer none) HGX.out HT2.out HF2.out).mono ?_; rintro e w5 ⟨rfl, hgot⟩; have d5 := hgot.2; have HB5 := Lib.hid (hgot.1); have d1 := (HB5.out.cell (by have := HBW.out.size; show b < wr.heap.size + 1; omega)).trans d1; have d2 := (HB5.out.cell (by have := HBW.out.size; show b < wr.heap.size + 1; omega)).trans d2; have d3 := (HB5.out.cell (by show wr.heap.size < wr.heap.size + 1; omega)).trans d3; have d4 := (HB5.out.cell (by show wr.heap.size < wr.heap.size + 1; omega)).trans d4; have d6 := (HB5.out.cell (p := ⟨b, o + 2, none⟩) (by have := HBW.out.size; show b < wr.heap.size + 1; omega)).trans ((HBX.out.cell (p := ⟨b, o + 2, none⟩) L0).trans e2); clear hgot))
        all_goals
          go_wp2_with fail
          go_roundw
          case rel => exact ⟨j + 1, by omega, by go_num, HR.out, (HBX.out.trans (HB5.out.mono (by have := HBW.out.size; omega)))⟩
          case measure => simp [intOf]; omega
      · obtain rfl : j = n := by omega
        have hend := HCJ.out
        rw [List.drop_eq_nil_of_le (by have := HXL.out; omega)] at hend
        have hse := wrap_end hend
        have x0 := cell_below HBW.out X0.out
        have HBF := Lib.hid (HB7.out.trans ((HX.out.trans (HBW.out.mono HX.out.size)).mono HB7.out.size))
        have eN := eqNN
        clear hend HCJ
        by_cases hc0 : c = 0
        · subst hc0
          rw [if_pos rfl] at hse
          subst hse
          go_wp2_with fail
          go_ret
          exact ⟨rfl, HBF.out⟩
        · rw [if_neg hc0] at hse
          subst hse
          have g1 : (c == 0) = false := by simp [hc0]
          clear hc0
          go_wp2_with fail
          go_ret
          exact ⟨by simp, HBF.out⟩
  · rw [decide_eq_false hbad]
    obtain ⟨rfl, rfl⟩ : c = 0 ∧ n = 0 := by omega
    have hxs : xs = [] := List.eq_nil_of_length_eq_zero HXL.out
    rw [hxs] at HS7
    have hse := wrap_end HS7.out
    rw [if_pos rfl] at hse
    subst hse
    go_wp2_with fail
    go_ret
    exact ⟨rfl, HB7.out.trans (HX.out.mono HB7.out.size)⟩
end Go.Proofs.YtkncgpnnilcicaaDoor
