/- FaultAsks. -/
import Derived.Test.YtkncgpnnilcicaaDoorFb4
set_option linter.unusedSimpArgs false
set_option linter.unusedVariables false
namespace Go.Proofs.YtkncgpnnilcicaaDoor
open Go.RowKit Go.Extern.Stop Go.Stop Go.Extern

theorem has_told {ps : List (Int × Int)} {E : Core} {c m : Int} {other : Bool} (h : CoreIs c other E) : hasB ps E m = (decide (toldC ps c ≠ 0) && decide (m = toldC ps c)) := by
  unfold hasB toldC
  by_cases hl : ps.length < 64
  · rw [if_pos hl, decide_eq_true hl, Bool.true_and]
    rcases h with ⟨h1, rfl⟩ | ⟨rfl, _, a, rfl⟩ | ⟨rfl, _, rfl⟩
    · rw [decide_eq_true h1, Bool.true_and]
      by_cases hm : m = c
      · subst hm; simp
      · rw [decide_eq_false hm]; simp; exact fun e => hm e.symm
    · simp
    · simp
  · rw [if_neg hl, decide_eq_false hl]; simp
theorem core_in {c : Int} {other : Bool} {E : Core} (h : CoreIs c other E) (hc : I64 c) : I64 E.code := by rw [h.code]; exact hc
theorem toldC_in {ps : List (Int × Int)} {c : Int} (hc : I64 c) : I64 (toldC ps c) := by
  unfold toldC
  split
  · exact hc
  · exact ⟨by omega, by omega⟩
set_option maxRecDepth 100000 in
set_option maxHeartbeats 1000000 in
theorem FaultAsks_walk (a0 : Option Addr) (len0 cap0 : Nat) (z0 : List (Int × Int)) (a1 a2 : Int) (a3 : Bool) (W : World) (w0 : IsPlaces W a0 len0 cap0 z0) (w1 : (Lit.int .i64 a1).wf = true) (w2 : (Lit.int .i64 a2).wf = true) (hg : ErrT W) (ht : Tab W) :
    Calls Tryd.prog 8 #[.slice a0 len0 cap0, .int .i64 a1, .int .i64 a2, .bool a3] W fun e w' => e = .returned (.bool true) ∧ Below W.heap.size W w' := by
  obtain ⟨hrd, hin, hcap, hmax⟩ := w0
  simp only [maxLen] at hmax
  have HRD := Lib.hid hrd
  have HG := Lib.hid hg
  have HT := Lib.hid ht
  have HI1 := Lib.hid (i64_of_wf w1)
  have HIN := Lib.hid (fun p hp => (hin p hp).2 : ∀ p ∈ z0, I64 p.2)
  clear hrd hin hg ht w1 w2
  obtain ⟨qs, hqs⟩ : ∃ qs, linkPs z0 = qs := ⟨_, rfl⟩
  have hql : qs.length ≤ 64 := by rw [← hqs]; exact linkPs_len z0
  have hqi : ∀ p ∈ qs, I64 p.2 := by rw [← hqs]; exact linkPs_mem HIN.out
  generalize hn : qs.length = n at hql
  have HQS := Lib.hid hqs
  have HQI := Lib.hid hqi
  have HN := Lib.hid hn
  clear hqs hn hqi
  go_enter Tryd.func8, Tryd.ntmps8
  go_wp2_with fail
  refine (awake_any HG.out HT.out).mono ?_
  rintro e w1 ⟨rfl, hb⟩
  have HB1 := Lib.hid hb
  clear hb
  go_wp2_with fail
  refine (Chain_any a0 len0 cap0 z0 a1 a3 w1 (HRD.out.below HB1.out) (by omega)).mono ?_
  rintro e w2 ⟨E, hE, v, rfl, hw, hb⟩
  have HE := Lib.hid hE
  have HW2 := Lib.hid hw
  have HB2 := Lib.hid (HB1.out.trans (hb.mono HB1.out.size))
  clear hE hw hb
  go_wp2_with fail
  refine (Told_any a0 len0 cap0 z0 a1 w2 (HRD.out.below HB2.out) hcap (by omega)).mono ?_
  rintro e w3 ⟨vw, rfl, how, hb⟩
  rw [HQS.out] at how
  obtain ⟨Aw, cw, rfl, hwc, hwm⟩ := how.form
  rw [HN.out] at how ⊢
  obtain ⟨c, hc⟩ : ∃ c, toldC z0 a1 = c := ⟨_, rfl⟩
  have HC := Lib.hid hc
  have HLC : Hid (linkC z0 E = c) := Lib.hid ((linkC_told HE.out).trans hc)
  have HCI : Hid (I64 c) := Lib.hid (by rw [← hc]; exact toldC_in HI1.out)
  have HHAS : Hid (hasB z0 E a2 = (decide (c ≠ 0) && decide (a2 = c))) := Lib.hid (by rw [← hc]; exact has_told HE.out)
  rw [hc]
  have HR3 := Lib.hid (how.rd places_len rfl : RdP w3 Aw n qs)
  have HW3 := Lib.hid (HW2.out.keep hb)
  have HB3 := Lib.hid (HB2.out.trans (hb.mono HB2.out.size))
  clear how hb hwc hwm hc
  go_wp2_with fail
  generalize hW4 : w3.alloc (.cells #[.int .i64 c, .slice Aw n cw] 46) = w4
  have hbel : Below w3.heap.size w3 w4 := by rw [← hW4]; exact (Below.refl _ _).alloc (Nat.le_refl _) _
  have hcell : Cells w4 w3.heap.size #[.int .i64 c, .slice Aw n cw] 46 := by rw [← hW4]; exact cells_new _ _ _
  have HB4 := Lib.hid (HB3.out.trans (hbel.mono HB3.out.size))
  have HW4 := Lib.hid (HW3.out.keep hbel)
  have HR4 := Lib.hid (HR3.out.below hbel)
  have d0 := hcell.cell 0
  have d1 := hcell.cell 1
  simp only [List.getElem?_toArray, List.getElem?_cons_zero, List.getElem?_cons_succ] at d0 d1
  have HCODE : Hid (∀ w, Below w4.heap.size w4 w → Calls Tryd.prog 17 #[v] w fun e w' => e = .returned (.int .i64 c) ∧ Below w.heap.size w w') := Lib.hid fun w hb => by
    have h := Code_any E v z0 (HW4.out.keep hb) (HG.out.below (HB4.out.trans (hb.mono HB4.out.size)))
    rw [HLC.out] at h
    exact h
  have HPL : Hid (∀ w, Below w4.heap.size w4 w → Calls Tryd.prog 16 #[v] w fun e w' => ∃ A k, e = .returned (.slice A n k) ∧ RdP w' A n qs ∧ Below w.heap.size w w') := Lib.hid fun w hb => by
    refine (Places_any E v z0 (HW4.out.keep hb)).mono ?_
    rintro e w' ⟨p, rfl, ho, hb⟩
    rw [HQS.out] at ho
    obtain ⟨A, k, rfl, hr, _⟩ := own_places ho
    rw [HN.out] at hr ⊢
    exact ⟨A, k, rfl, hr, hb⟩
  have HAL : Hid (∀ w A k, Below w4.heap.size w4 w → RdP w A n qs → Calls Tryd.prog 18 #[.slice A n k, .slice Aw n cw] w fun e w' => e = .returned (.bool true) ∧ Below w.heap.size w w') := Lib.hid fun w A k hb hr => by
    have h := Alike_any A Aw n n k cw qs qs w hr (HR4.out.below hb) (by omega) (by omega)
    rw [decide_eq_true rfl] at h
    exact h
  have HTX : Hid (∀ w, Below w4.heap.size w4 w → Calls Tryd.prog 19 #[v] w fun e w' => e = .returned (.string (textB qs c)) ∧ Below w.heap.size w w') := Lib.hid fun w hb => by
    have h := Text_any E v z0 w (HW4.out.keep hb) HIN.out (core_in HE.out HI1.out) (tab_below HT.out (HB4.out.trans (hb.mono HB4.out.size)))
    rw [HQS.out, HLC.out] at h
    exact h
  have HRT : Hid (∀ w, Below w4.heap.size w4 w → Calls Tryd.prog 26 #[.agg #[.int .i64 c, .slice Aw n cw]] w fun e w' => e = .returned (.string (textB qs c)) ∧ Below w.heap.size w w') := Lib.hid fun w hb =>
    RText_any c Aw n cw qs (HR4.out.below hb) hql HQI.out HCI.out (tab_below HT.out (HB4.out.trans (hb.mono HB4.out.size)))
  have HHA : Hid (∀ w, Below w4.heap.size w4 w → Calls Tryd.prog 27 #[v, .int .i64 a2] w fun e w' => e = .returned (.bool (decide (c ≠ 0) && decide (a2 = c))) ∧ w' = w) := Lib.hid fun w hb => by
    have h := Has_any E v z0 a2 (HW4.out.keep hb)
    rw [HHAS.out] at h
    exact h
  have HX : Hid (Below w4.heap.size w4 w4) := Lib.hid (Below.refl _ _)
  generalize textB qs c = tx at *
  clear hbel hcell hW4
  go_region_held3 (fun w' => w'.cell? ⟨w3.heap.size, 0, none⟩ = some (.int .i64 c) ∧ w'.cell? ⟨w3.heap.size, 1, none⟩ = some (.slice Aw n cw)) (first | exact ⟨d0, d1⟩) (first
    | (go_at_call 17; refine (HCODE.out _ (by first | exact HX.out | exact HX.out.drew)).mono ?_; rintro e w5 ⟨rfl, hb5⟩; have d0 := cell_below hb5 d0; have d1 := cell_below hb5 d1; have HX : Hid (Below w4.heap.size w4 w5) := Lib.hid (by first | exact HX.out.trans (hb5.mono HX.out.size) | exact HX.out.drew.trans (hb5.mono HX.out.drew.size)); clear hb5)
    | (go_at_call 16; refine (HPL.out _ (by first | exact HX.out | exact HX.out.drew)).mono ?_; rintro e w5 ⟨Ar, kr, rfl, hr5, hb5⟩; have HR5 := Lib.hid hr5; have d0 := cell_below hb5 d0; have d1 := cell_below hb5 d1; have HX : Hid (Below w4.heap.size w4 w5) := Lib.hid (by first | exact HX.out.trans (hb5.mono HX.out.size) | exact HX.out.drew.trans (hb5.mono HX.out.drew.size)); clear hb5 hr5)
    | (go_at_call 18; refine (HAL.out _ _ _ (by first | exact HX.out | exact HX.out.drew) HR5.out).mono ?_; rintro e w5 ⟨rfl, hb5⟩; have d0 := cell_below hb5 d0; have d1 := cell_below hb5 d1; have HX : Hid (Below w4.heap.size w4 w5) := Lib.hid (by first | exact HX.out.trans (hb5.mono HX.out.size) | exact HX.out.drew.trans (hb5.mono HX.out.drew.size)); clear hb5)
    | (go_at_call 19; refine (HTX.out _ (by first | exact HX.out | exact HX.out.drew)).mono ?_; rintro e w5 ⟨rfl, hb5⟩; have d0 := cell_below hb5 d0; have d1 := cell_below hb5 d1; have HX : Hid (Below w4.heap.size w4 w5) := Lib.hid (by first | exact HX.out.trans (hb5.mono HX.out.size) | exact HX.out.drew.trans (hb5.mono HX.out.drew.size)); clear hb5)
    | (go_at_call 26; refine (HRT.out _ (by first | exact HX.out | exact HX.out.drew)).mono ?_; rintro e w5 ⟨rfl, hb5⟩; have d0 := cell_below hb5 d0; have d1 := cell_below hb5 d1; have HX : Hid (Below w4.heap.size w4 w5) := Lib.hid (by first | exact HX.out.trans (hb5.mono HX.out.size) | exact HX.out.drew.trans (hb5.mono HX.out.drew.size)); clear hb5))
  rename_i hHeld
  have HI0 : Hid (∀ m r, (decide (c ≠ 0) && decide (a2 = c)) = r → Calls Tryd.prog 27 #[v, .int .i64 a2] (w5.drewN m) fun e w' => e = .returned (.bool r) ∧ w' = w5.drewN m) := Lib.hid fun m r hr => by
    have h := HHA.out (w5.drewN m) (HX.out.trans (((Drawn.refl _).step m).below _))
    rw [hr] at h
    exact h
  clear hHeld
  by_cases hc0 : c = 0
  · have HI : Hid (∀ m, Calls Tryd.prog 27 #[v, .int .i64 a2] (w5.drewN m) fun e w' => e = .returned (.bool false) ∧ w' = w5.drewN m) := Lib.hid fun m => HI0.out m false (by rw [hc0]; simp)
    subst hc0
    go_wp2_with (go_quiet ((go_at_call 27; exact Calls.quiet_of_same (HI.out _))))
    go_ret
    exact ⟨rfl, (HB4.out.trans (HX.out.mono HB4.out.size)).trans ⟨rfl, rfl, rfl, Nat.le_refl _, fun _ _ => rfl⟩⟩
  · have g1 : (c != 0) = true := by simp [bne, hc0]
    by_cases hac : a2 = c
    · have HI : Hid (∀ m, Calls Tryd.prog 27 #[v, .int .i64 a2] (w5.drewN m) fun e w' => e = .returned (.bool true) ∧ w' = w5.drewN m) := Lib.hid fun m => HI0.out m true (by simp [hc0, hac])
      clear HI0
      subst hac
      clear hc0
      go_wp2_with (go_quiet ((go_at_call 27; exact Calls.quiet_of_same (HI.out _))))
      go_ret
      exact ⟨rfl, (HB4.out.trans (HX.out.mono HB4.out.size)).trans ⟨rfl, rfl, rfl, Nat.le_refl _, fun _ _ => rfl⟩⟩
    · have HI : Hid (∀ m, Calls Tryd.prog 27 #[v, .int .i64 a2] (w5.drewN m) fun e w' => e = .returned (.bool false) ∧ w' = w5.drewN m) := Lib.hid fun m => HI0.out m false (by simp [hac])
      have g2 : (a2 == c) = false := by simp [hac]
      clear HI0 hac hc0
      go_wp2_with (go_quiet ((go_at_call 27; exact Calls.quiet_of_same (HI.out _))))
      go_ret
      exact ⟨rfl, (HB4.out.trans (HX.out.mono HB4.out.size)).trans ⟨rfl, rfl, rfl, Nat.le_refl _, fun _ _ => rfl⟩⟩
end Go.Proofs.YtkncgpnnilcicaaDoor
