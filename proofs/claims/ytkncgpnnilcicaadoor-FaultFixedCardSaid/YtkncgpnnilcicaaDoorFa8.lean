/- awake. -/
import Derived.Test.YtkncgpnnilcicaaDoorFa7
set_option linter.unusedSimpArgs false
set_option linter.unusedVariables false
namespace Go.Proofs.YtkncgpnnilcicaaDoor
open Go.RowKit Go.Extern.Stop Go.Stop Go.Extern

def awakeB : ByteArray := ⟨#[115, 116, 101, 112, 32, 50, 58, 32, 108, 105, 110, 101, 32, 51, 58, 32, 110, 111, 116, 32, 97, 32, 110, 117, 109, 98, 101, 114]⟩
theorem itoaB_2 : itoaB 2 = ⟨#[50]⟩ := by
  unfold itoaB Lib.itoa
  rw [if_neg (by omega), show (2 : Int).toNat = 2 from rfl, Lib.decDigits_one (by omega)]
  rfl
theorem itoaB_3 : itoaB 3 = ⟨#[51]⟩ := by
  unfold itoaB Lib.itoa
  rw [if_neg (by omega), show (3 : Int).toNat = 3 from rfl, Lib.decDigits_one (by omega)]
  rfl
theorem awakeB_eq : textB (linkPs [(5, 2), (1, 3)]) (linkC [(5, 2), (1, 3)] (.num 4)) = awakeB := by
  unfold textB wordsB
  show joinB ([wordB (5, 2), wordB (1, 3)] ++ [sayB 4]) = _
  unfold wordB
  simp only [itoaB_2, itoaB_3]
  rfl
set_option maxRecDepth 100000 in
theorem awake_any {W : World} (hg : ErrT W) (ht : Tab W) : Calls Tryd.prog 11 #[] W (BoolBelow true W) := by
  have HG := Lib.hid hg
  have HT := Lib.hid ht
  clear hg ht
  go_enter Tryd.func11, Tryd.ntmps11
  go_wp2_with fail
  refine (At_some 1 3 (.num 4) 24 (.int .i64 4) [] .core).mono ?_
  rintro e w2 ⟨rfl, hw, _, hb⟩
  have HW := Lib.hid hw
  have HB := Lib.hid hb
  clear hw hb
  go_wp2_with fail
  refine (At_some 5 2 (.num 4) _ _ [(1, 3)] HW.out).mono ?_
  rintro e w3 ⟨rfl, hw, _, hb⟩
  have HW3 := Lib.hid hw
  have HB3 := Lib.hid (HB.out.trans (hb.mono HB.out.size))
  clear hw hb
  go_wp2_with fail
  refine (Is_chain 4 (by omega) _ _ [(5, 2), (1, 3)] 4 (HW3.out.chain (.inr ⟨rfl, by omega⟩))).mono ?_
  rintro e w4 ⟨rfl, h⟩
  obtain rfl := h.symm
  clear h
  go_wp2_with fail
  refine (Code_any (.num 4) _ [(5, 2), (1, 3)] HW3.out (HG.out.below HB3.out)).mono ?_
  rintro e w5 ⟨rfl, hb⟩
  have HC : Hid (linkC [(5, 2), (1, 3)] (.num 4) = 4) := Lib.hid rfl
  rw [HC.out]
  have HW5 := Lib.hid (HW3.out.keep hb)
  have HB5 := Lib.hid (HB3.out.trans (hb.mono HB3.out.size))
  clear hb
  go_wp2_with fail
  refine (Text_any (.num 4) _ [(5, 2), (1, 3)] _ HW5.out (by intro p hp; simp at hp; rcases hp with rfl | rfl <;> exact ⟨by decide, by decide⟩) ⟨by decide, by decide⟩ (tab_below HT.out HB5.out)).mono ?_
  rintro e w6 ⟨rfl, hb⟩
  rw [awakeB_eq]
  have HW6 := Lib.hid (HW5.out.keep hb)
  have HB6 := Lib.hid (HB5.out.trans (hb.mono HB5.out.size))
  clear hb
  simp only [awakeB]
  go_wp2_with fail
  refine (Places_any (.num 4) _ [(5, 2), (1, 3)] HW6.out).mono ?_
  rintro e w7 ⟨p, rfl, ho, hb⟩
  obtain ⟨A, c, rfl, hr, hm⟩ := own_places ho
  have HB7 := Lib.hid (HB6.out.trans (hb.mono HB6.out.size))
  clear hb ho hr hm
  have hl : (linkPs [(5, 2), (1, 3)]).length = 2 := rfl
  rw [hl]
  go_wp2_with fail
  go_ret
  exact ⟨rfl, HB7.out⟩
end Go.Proofs.YtkncgpnnilcicaaDoor
