/- FaultNests. -/
import Derived.Test.YtkncgpnnilcicaaDoorLSame
set_option linter.unusedSimpArgs false
set_option linter.unusedVariables false
namespace Go.Proofs.YtkncgpnnilcicaaDoor
open Go.RowKit Go.Extern.Stop Go.Stop Go.Extern

theorem textB_cons {ps : List (Int × Int)} {c : Int} (x : Int × Int) (h : c ≠ 0 ∨ 0 < ps.length) : textB (x :: ps) c = wordB x ++ sepB ++ textB ps c := by
  unfold textB wordsB
  rw [List.map_cons, List.cons_append, joinB_cons]
  intro e
  have := congrArg List.length e
  rw [List.length_append, List.length_map] at this
  rcases h with h | h
  · rw [if_neg h] at this; simp at this
  · simp at this; rw [this.1] at h; simp at h
theorem textB_size {ps : List (Int × Int)} {c : Int} (h : ∀ p ∈ ps, I64 p.2) (hc : I64 c) : (textB ps c).size ≤ 66 * (ps.length + 1) := by
  have h1 := joinB_size (M := 64) (l := wordsB ps c) (fun b hb => by
    unfold wordsB at hb
    rcases List.mem_append.1 hb with hb | hb
    · obtain ⟨p, hp, rfl⟩ := List.mem_map.1 hb
      have := wordB_size p (h p hp)
      omega
    · split at hb
      · cases hb
      · obtain rfl := List.mem_singleton.1 hb
        exact sayB_size c hc)
  have h2 : (wordsB ps c).length ≤ ps.length + 1 := by
    unfold wordsB
    rw [List.length_append, List.length_map]
    split <;> simp
  unfold textB
  have := Nat.mul_le_mul_left 66 h2
  omega
theorem rd_tail {w : World} {ad : Addr} {n : Nat} {x : Int × Int} {l : List (Int × Int)} (h : RdP w (some ad) (n + 1) (x :: l)) : RdP w (some ⟨ad.block, ad.off + 2, none⟩) n l := by
  refine ⟨by have := h.1; simpa using this, fun _ => ⟨_, rfl, fun j y i u hj hi => ?_⟩⟩
  obtain ⟨ad', e, hc⟩ := h.2 (by omega)
  obtain rfl := Option.some.inj e
  have e2 : (⟨ad.block, ad.off + 2, none⟩ : Addr) = ad.add 2 := by simp [Addr.add]
  rw [e2, add_of_add, show 2 + (j * 2 + i) = (j + 1) * 2 + i by omega]
  exact hc (j + 1) y i u (by simpa using hj) hi
set_option maxRecDepth 1000000 in
set_option maxHeartbeats 2000000 in
theorem FaultNests_walk (a0 a1 : Int) (a2 : Option Addr) (len2 cap2 : Nat) (z2 : List (Int × Int)) (a3 : Int) (W : World) (w0 : (Lit.int .i64 a0).wf = true) (w1 : (Lit.int .i64 a1).wf = true) (w2 : IsPlaces W a2 len2 cap2 z2) (w3 : (Lit.int .i64 a3).wf = true) (hg : ErrT W) (ht : Tab W) :
    Calls Tryd.prog 4 #[.int .i64 a0, .int .i64 a1, .slice a2 len2 cap2, .int .i64 a3] W fun e w' => e = .returned (.bool true) ∧ Below W.heap.size W w' := by
  obtain ⟨hrd, hin, hcap, hmax⟩ := w2
  simp only [maxLen] at hmax
  have hzl := hrd.1
  have HZ := Lib.hid hzl
  have HRD := Lib.hid hrd
  have HG := Lib.hid hg
  have HT := Lib.hid ht
  have HI0 := Lib.hid (i64_of_wf w0)
  have HI1 := Lib.hid (i64_of_wf w1)
  have HI3 := Lib.hid (i64_of_wf w3)
  have HIN := Lib.hid (fun p hp => (hin p hp).2 : ∀ p ∈ z2, I64 p.2)
  clear hrd hin hg ht w0 w1 w3 hzl
  go_enter Tryd.func4, Tryd.ntmps4
  go_wp2_with fail
  refine (awake_any HG.out HT.out).mono ?_
  rintro e w1 ⟨rfl, hb⟩
  have HB1 := Lib.hid hb
  clear hb
  go_wp2_with fail
  refine (Chain_any a2 len2 cap2 z2 a3 false w1 (HRD.out.below HB1.out) (by omega)).mono ?_
  rintro e w2 ⟨E, hE, v, rfl, hw, hb⟩
  have HE := Lib.hid hE
  have HW2 := Lib.hid hw
  have HB2 := Lib.hid (HB1.out.trans (hb.mono HB1.out.size))
  rcases hw.form with rfl | ⟨u, x, rfl⟩
  · clear hE hw hb
    go_wp2_with fail
    go_ret
    exact ⟨rfl, HB2.out⟩
  have hsome : a3 ≠ 0 ∨ 0 < z2.length := by
    rcases hE with ⟨h, _⟩ | ⟨_, h, _⟩ | ⟨_, _, rfl⟩
    · exact .inl h
    · cases h
    · cases z2 with
      | nil => have := hw.nil; simp [Core.val] at this
      | cons y r => exact .inr (by simp)
  have HSM := Lib.hid hsome
  clear hE hw hb hsome
  by_cases hlen : 60 < len2
  · have g1 : decide ((60 : Int) < (len2 : Int)) = true := decide_eq_true (by omega)
    go_wp2_with fail
    go_ret
    exact ⟨rfl, HB2.out⟩
  have g1 : decide ((60 : Int) < (len2 : Int)) = false := decide_eq_false (by omega)
  have HLP : Hid (linkPs z2 = z2) := Lib.hid (List.take_of_length_le (by have := HZ.out; omega))
  have HLP1 : Hid (linkPs ((a0, a1) :: z2) = (a0, a1) :: z2) := Lib.hid (List.take_of_length_le (by have := HZ.out; simp; omega))
  have HLC : Hid (linkC z2 E = a3) := Lib.hid (by unfold linkC; rw [if_pos (by have := HZ.out; omega)]; exact HE.out.code)
  have HLC1 : Hid (linkC ((a0, a1) :: z2) E = a3) := Lib.hid (by unfold linkC; rw [if_pos (by have := HZ.out; simp; omega)]; exact HE.out.code)
  have hxl : ((a0, a1) :: z2).length = len2 + 1 := by simp [HZ.out]
  have HXL := Lib.hid hxl
  clear hxl
  go_wp2_with fail
  refine (At_some a0 a1 E u x z2 HW2.out).mono ?_
  rintro e w3 ⟨rfl, hw3, _, hb⟩
  generalize hr : Value.iface 30 (.pointer (some ⟨w2.heap.size, 0, none⟩)) = r at *
  have HW3 := Lib.hid (HW2.out.keep hb)
  have HR3 := Lib.hid hw3
  have HB3 := Lib.hid (HB2.out.trans (hb.mono HB2.out.size))
  clear hw3 hb
  go_wp2_with fail
  refine (Places_any E _ z2 HW3.out).mono ?_
  rintro e w4 ⟨p, rfl, ho, hb⟩
  rw [HLP.out] at ho
  obtain ⟨Ap, cp, rfl, hp4, _⟩ := own_places ho
  rw [HZ.out] at hp4 ⊢
  have HP4 := Lib.hid hp4
  have HW4 := Lib.hid (HW3.out.keep hb)
  have HR4 := Lib.hid (HR3.out.keep hb)
  have HB4 := Lib.hid (HB3.out.trans (hb.mono HB3.out.size))
  clear hp4 ho hb
  go_wp2_with fail
  refine (Places_any E r ((a0, a1) :: z2) HR4.out).mono ?_
  rintro e w5 ⟨q, rfl, ho, hb⟩
  rw [HLP1.out] at ho
  have hqc := ho.form
  obtain ⟨Aq, cq, rfl, hqc, hqm⟩ := hqc
  have hq5 := ho.rd places_len rfl
  rw [HXL.out] at hq5 hqc ⊢
  have HQ5 := Lib.hid hq5
  have HP5 := Lib.hid (HP4.out.below hb)
  have HW5 := Lib.hid (HW4.out.keep hb)
  have HR5 := Lib.hid (HR4.out.keep hb)
  have HB5 := Lib.hid (HB4.out.trans (hb.mono HB4.out.size))
  simp only [maxLen] at hqm
  clear hq5 ho hb
  go_wp2_with fail
  refine (Code_any E r ((a0, a1) :: z2) HR5.out (HG.out.below HB5.out)).mono ?_
  rintro e w6 ⟨rfl, hb⟩
  rw [HLC1.out]
  have HX6 := Lib.hid hb
  clear hb
  go_wp2_with fail
  refine (Code_any E _ z2 (HW5.out.keep HX6.out) (HG.out.below (HB5.out.trans (HX6.out.mono HB5.out.size)))).mono ?_
  rintro e w7 ⟨rfl, hb⟩
  rw [HLC.out]
  have HX7 := Lib.hid (HX6.out.trans (hb.mono HX6.out.size))
  clear hb
  obtain ⟨ad, hA, cc⟩ := (HQ5.out.below HX7.out).at_ (j := 0) (by omega)
  subst hA
  obtain ⟨c0, c1⟩ := two_places cc
  have ea : ad.add (0 * 2) = ad := by simp [Addr.add]
  rw [ea] at c0 c1
  replace c0 : w7.cell? ad = some (.int .i64 a0) := c0
  replace c1 : w7.cell? ⟨ad.block, ad.off + 1, none⟩ = some (.int .i64 a1) := c1
  clear cc ea
  have HTL := Lib.hid (rd_tail HQ5.out)
  have HAL : Hid (∀ A k, RdP w7 A len2 z2 → Calls Tryd.prog 18 #[.slice A len2 k, .slice Ap len2 cp] w7 fun e w' => e = .returned (.bool true) ∧ Below w7.heap.size w7 w') := Lib.hid fun A k hr => by
    have h := Alike_any A Ap len2 len2 k cp z2 z2 w7 hr (HP5.out.below HX7.out) (by omega) (by omega)
    rw [decide_eq_true rfl] at h
    exact h
  have HTE : Hid (∀ w, Below w5.heap.size w5 w → Calls Tryd.prog 19 #[r] w fun e w' => e = .returned (.string (wordB (a0, a1) ++ ⟨#[58, 32]⟩ ++ textB z2 a3)) ∧ Below w.heap.size w w') := Lib.hid fun w hb => by
    have h := Text_any E r ((a0, a1) :: z2) w (HR5.out.keep hb) (by
      intro p hp
      rcases List.mem_cons.1 hp with rfl | hp
      · exact HI1.out
      · exact HIN.out p hp) (by rw [HE.out.code]; exact HI3.out) (tab_below HT.out (HB5.out.trans (hb.mono HB5.out.size)))
    rw [HLP1.out, HLC1.out, textB_cons _ HSM.out] at h
    exact h
  have HTF : Hid (∀ w, Below w5.heap.size w5 w → Calls Tryd.prog 19 #[.iface u x] w fun e w' => e = .returned (.string (textB z2 a3)) ∧ Below w.heap.size w w') := Lib.hid fun w hb => by
    have h := Text_any E _ z2 w (HW5.out.keep hb) HIN.out (by rw [HE.out.code]; exact HI3.out) (tab_below HT.out (HB5.out.trans (hb.mono HB5.out.size)))
    rw [HLP.out, HLC.out] at h
    exact h
  have HWD : Hid (∀ w, Below w5.heap.size w5 w → Calls Tryd.prog 20 #[.agg #[.int .i64 a0, .int .i64 a1]] w fun e w' => e = .returned (.string (wordB (a0, a1))) ∧ Below w.heap.size w w') := Lib.hid fun w hb =>
    Word_any a0 a1 w HI1.out (tab_below HT.out (HB5.out.trans (hb.mono HB5.out.size)))
  have hz1 := wordB_size (a0, a1) HI1.out
  have hz2 := textB_size (c := a3) HIN.out HI3.out
  rw [HZ.out] at hz2
  have hk1 : ¬ 9223372036854775807 < (wordB (a0, a1)).size + 2 := by omega
  have hk2 : ¬ 9223372036854775807 < (wordB (a0, a1)).size + 2 + (textB z2 a3).size := by omega
  generalize wordB (a0, a1) = tx at *
  generalize textB z2 a3 = ty at *
  clear hz1 hz2
  go_wp2_with fail
  all_goals
    refine (HAL.out _ _ (by first | exact HTL.out.below HX7.out | exact ⟨HZ.out, fun h => absurd h (by omega)⟩)).mono ?_
    rintro e w8 ⟨rfl, hb⟩
    have c0 := cell_below hb c0
    have c1 := cell_below hb c1
    have HX : Hid (Below w5.heap.size w5 w8) := Lib.hid (HX7.out.trans (hb.mono HX7.out.size))
    clear hb
    go_wp2_with fail
    go_region_held3 (fun w' => w'.cell? ad = some (.int .i64 a0) ∧ w'.cell? ⟨ad.block, ad.off + 1, none⟩ = some (.int .i64 a1)) (first | exact ⟨c0, c1⟩) (first
      | (go_at_call 19; (first | with_reducible refine (HTE.out _ (by first | exact HX.out | exact HX.out.drew)).mono ?_ | with_reducible refine (HTF.out _ (by first | exact HX.out | exact HX.out.drew)).mono ?_); rintro e w9 ⟨rfl, hb5⟩; have c0 := cell_below hb5 c0; have c1 := cell_below hb5 c1; have HX : Hid (Below w5.heap.size w5 w9) := Lib.hid (by first | exact HX.out.trans (hb5.mono HX.out.size) | exact HX.out.drew.trans (hb5.mono HX.out.drew.size)); clear hb5)
      | (go_at_call 20; refine (HWD.out _ (by first | exact HX.out | exact HX.out.drew)).mono ?_; rintro e w9 ⟨rfl, hb5⟩; have c0 := cell_below hb5 c0; have c1 := cell_below hb5 c1; have HX : Hid (Below w5.heap.size w5 w9) := Lib.hid (by first | exact HX.out.trans (hb5.mono HX.out.size) | exact HX.out.drew.trans (hb5.mono HX.out.drew.size)); clear hb5))
    rename_i hHeld
    clear hHeld
    go_wp2_with fail
    go_ret
    exact ⟨rfl, HB5.out.trans (HX.out.mono HB5.out.size)⟩
end Go.Proofs.YtkncgpnnilcicaaDoor
