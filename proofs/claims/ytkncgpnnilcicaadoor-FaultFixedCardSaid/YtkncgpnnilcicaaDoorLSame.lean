/- FaultSames. -/
import Derived.Test.YtkncgpnnilcicaaDoorLAsk
set_option linter.unusedSimpArgs false
set_option linter.unusedVariables false
namespace Go.Proofs.YtkncgpnnilcicaaDoor
open Go.RowKit Go.Extern.Stop Go.Stop Go.Extern

theorem linkPs_idem (ps : List (Int × Int)) : linkPs (linkPs ps) = linkPs ps := by
  unfold linkPs
  rw [List.take_take]
  simp
theorem linkC_again (ps : List (Int × Int)) (E : Core) : ps.length ≤ 64 → ∀ c, c = linkC ps E → linkC ps (coreOf c) = c := by
  intro h c hc
  unfold linkC at hc ⊢
  by_cases hl : ps.length < 64
  · rw [if_pos hl]
    unfold coreOf
    split
    · rename_i h0; rw [h0]; rfl
    · rfl
  · rw [if_neg hl] at hc ⊢
    exact hc.symm
theorem linkC_link (ps : List (Int × Int)) (E : Core) : linkC (linkPs ps) (coreOf (linkC ps E)) = linkC ps E := by
  by_cases hl : ps.length < 64
  · have e : linkPs ps = ps := List.take_of_length_le (by omega)
    rw [e]
    exact linkC_again ps E (by omega) _ rfl
  · have h1 : linkC ps E = 0 := by unfold linkC; rw [if_neg hl]
    rw [h1]
    unfold linkC coreOf
    rw [if_pos rfl]
    split <;> rfl
theorem sameB_self (ps : List (Int × Int)) (E : Core) : sameB ps E ps E = true := by simp [sameB]
theorem sameB_comm (ps qs : List (Int × Int)) (E F : Core) : sameB qs F ps E = sameB ps E qs F := by
  unfold sameB
  congr 1
  exact propext ⟨fun h => ⟨h.1.symm, h.2.symm⟩, fun h => ⟨h.1.symm, h.2.symm⟩⟩
theorem sameB_cut (ps : List (Int × Int)) (E : Core) : sameB ps E (linkPs ps) (coreOf (linkC ps E)) = true := by
  unfold sameB
  rw [linkPs_idem, linkC_link]
  simp
set_option maxRecDepth 100000 in
set_option maxHeartbeats 1000000 in
theorem FaultSames_walk (a0 : Option Addr) (len0 cap0 : Nat) (z0 : List (Int × Int)) (a1 : Option Addr) (len1 cap1 : Nat) (z1 : List (Int × Int)) (a2 a3 : Int) (a4 : Bool) (W : World) (w0 : IsPlaces W a0 len0 cap0 z0) (w1 : IsPlaces W a1 len1 cap1 z1) (w2 : (Lit.int .i64 a2).wf = true) (w3 : (Lit.int .i64 a3).wf = true) (hg : ErrT W) (ht : Tab W) :
    Calls Tryd.prog 9 #[.slice a0 len0 cap0, .slice a1 len1 cap1, .int .i64 a2, .int .i64 a3, .bool a4] W fun e w' => e = .returned (.bool true) ∧ Below W.heap.size W w' := by
  obtain ⟨hrd, hin, hcap, hmax⟩ := w0
  obtain ⟨hrd1, hin1, hcap1, hmax1⟩ := w1
  simp only [maxLen] at hmax hmax1
  have HRD := Lib.hid hrd
  have HRD1 := Lib.hid hrd1
  have HG := Lib.hid hg
  have HT := Lib.hid ht
  have HIN := Lib.hid (fun p hp => (hin p hp).2 : ∀ p ∈ z0, I64 p.2)
  clear hrd hin hg ht w2 w3 hrd1 hin1
  obtain ⟨qs, hqs⟩ : ∃ qs, linkPs z0 = qs := ⟨_, rfl⟩
  have hql : qs.length ≤ 64 := by rw [← hqs]; exact linkPs_len z0
  obtain ⟨rs, hrs⟩ : ∃ rs, linkPs z1 = rs := ⟨_, rfl⟩
  have hrl : rs.length ≤ 64 := by rw [← hrs]; exact linkPs_len z1
  have hshift : shiftPs 1 0 qs = qs := shiftPs_zero (by rw [← hqs]; exact linkPs_mem HIN.out)
  generalize hn : qs.length = n at hql
  generalize hm : rs.length = m at hrl
  have HQS := Lib.hid hqs
  have HRS := Lib.hid hrs
  have HSH := Lib.hid hshift
  have HN := Lib.hid hn
  have HM := Lib.hid hm
  clear hqs hrs hn hm hshift
  go_enter Tryd.func9, Tryd.ntmps9
  go_wp2_with fail
  refine (awake_any HG.out HT.out).mono ?_
  rintro e w1 ⟨rfl, hb⟩
  have HB1 := Lib.hid hb
  clear hb
  go_wp2_with fail
  refine (Chain_any a0 len0 cap0 z0 a2 a4 w1 (HRD.out.below HB1.out) (by omega)).mono ?_
  rintro e w2 ⟨E, hE, v, rfl, hw, hb⟩
  have HE := Lib.hid hE
  have HW2 := Lib.hid hw
  have HB2 := Lib.hid (HB1.out.trans (hb.mono HB1.out.size))
  clear hE hw hb
  go_wp2_with fail
  refine (Chain_any a1 len1 cap1 z1 a3 (!a4) w2 (HRD1.out.below HB2.out) (by omega)).mono ?_
  rintro e w3 ⟨F, hF, u, rfl, hw, hb⟩
  have HF := Lib.hid hF
  have HU3 := Lib.hid hw
  have HW3 := Lib.hid (HW2.out.keep hb)
  have HB3 := Lib.hid (HB2.out.trans (hb.mono HB2.out.size))
  clear hF hw hb
  have HABA : Hid (∀ w, Below w3.heap.size w3 w → Calls Tryd.prog 28 #[v, u] w (BoolBelow (sameB z0 E z1 F) w)) := Lib.hid fun w hb => FSame_any E F v u z0 z1 (HW3.out.keep hb) (HU3.out.keep hb)
  have HBA : Hid (∀ w, Below w3.heap.size w3 w → Calls Tryd.prog 28 #[u, v] w (BoolBelow (sameB z0 E z1 F) w)) := Lib.hid fun w hb => by
    have h := FSame_any F E u v z1 z0 (HU3.out.keep hb) (HW3.out.keep hb)
    rwa [sameB_comm] at h
  have HAA : Hid (∀ w, Below w3.heap.size w3 w → Calls Tryd.prog 28 #[v, v] w (BoolBelow true w)) := Lib.hid fun w hb => by
    have h := FSame_any E E v v z0 z0 (HW3.out.keep hb) (HW3.out.keep hb)
    rwa [sameB_self] at h
  have HSB : Hid (decide (toldC z0 a2 = toldC z1 a3 ∧ qs = rs) = sameB z0 E z1 F) := Lib.hid (by
    unfold sameB
    rw [linkC_told HE.out, linkC_told HF.out, HQS.out, HRS.out])
  generalize sameB z0 E z1 F = r at *
  go_wp2_with fail
  refine (HABA.out w3 (Below.refl _ _)).mono ?_
  rintro e w4 ⟨rfl, hb⟩
  have HX4 := Lib.hid hb
  clear hb
  go_wp2_with fail
  refine (Told_any a0 len0 cap0 z0 a2 w4 (HRD.out.below (HB3.out.trans (HX4.out.mono HB3.out.size))) hcap (by omega)).mono ?_
  rintro e w5 ⟨vw, rfl, how, hb⟩
  rw [HQS.out] at how
  obtain ⟨Aw, cw, rfl, hwc, hwm⟩ := how.form
  rw [HN.out] at how ⊢
  have HO5 := Lib.hid (how.rd places_len rfl : RdP w5 Aw n qs)
  have HX5 := Lib.hid (HX4.out.trans (hb.mono HX4.out.size))
  clear hb how hwc hwm
  go_wp2_with fail
  refine (Told_any a1 len1 cap1 z1 a3 w5 (HRD1.out.below (HB3.out.trans (HX5.out.mono HB3.out.size))) hcap1 (by omega)).mono ?_
  rintro e w6 ⟨vw, rfl, how, hb⟩
  rw [HRS.out] at how
  obtain ⟨Au, cu, rfl, hwc, hwm⟩ := how.form
  rw [HM.out] at how ⊢
  have HO6 := Lib.hid (how.rd places_len rfl : RdP w6 Au m rs)
  have HO56 := Lib.hid (HO5.out.below hb)
  have HX6 := Lib.hid (HX5.out.trans (hb.mono HX5.out.size))
  clear hb how hwc hwm
  go_wp2_with fail
  refine (Alike_told _ _ Aw Au n m cw cu qs rs w6 HO56.out HO6.out (by omega) (by omega)).mono ?_
  rintro e w7 ⟨rfl, hb⟩
  rw [HSB.out]
  have HX7 := Lib.hid (HX6.out.trans (hb.mono HX6.out.size))
  clear hb
  cases r
  all_goals
    go_wp2_with fail
    refine (HBA.out w7 HX7.out).mono ?_
    rintro e w8 ⟨rfl, hb⟩
    have HX8 := Lib.hid (HX7.out.trans (hb.mono HX7.out.size))
    clear hb
    go_wp2_with fail
    refine (HABA.out w8 HX8.out).mono ?_
    rintro e w9 ⟨rfl, hb⟩
    have HX9 := Lib.hid (HX8.out.trans (hb.mono HX8.out.size))
    clear hb
    go_wp2_with fail
    refine (HAA.out w9 HX9.out).mono ?_
    rintro e w10 ⟨rfl, hb⟩
    have HX10 := Lib.hid (HX9.out.trans (hb.mono HX9.out.size))
    clear hb
    go_wp2_with fail
    refine (FShift_any E v z0 1 0 (HW3.out.keep HX10.out)).mono ?_
    rintro e w11 ⟨y, rfl, hwy, hb⟩
    rw [HQS.out, HSH.out] at hwy
    have HWY := Lib.hid hwy
    have HX11 := Lib.hid (HX10.out.trans (hb.mono HX10.out.size))
    clear hb hwy
    have HS12 : Hid (Calls Tryd.prog 28 #[v, y] w11 (BoolBelow true w11)) := Lib.hid (by
      have h := FSame_any E _ v y z0 qs (HW3.out.keep HX11.out) HWY.out
      rw [← HQS.out, sameB_cut] at h
      exact h)
    go_wp2_with fail
    refine HS12.out.mono ?_
    rintro e w12 ⟨rfl, hb⟩
    have HX12 := Lib.hid (HX11.out.trans (hb.mono HX11.out.size))
    clear hb
    go_wp2_with fail
    go_ret
    exact ⟨rfl, HB3.out.trans (HX12.out.mono HB3.out.size)⟩
end Go.Proofs.YtkncgpnnilcicaaDoor
