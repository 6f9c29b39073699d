/- The contract of the law's first examples. -/
import Derived.Test.YtkhnpmeaklcmaaaWalk4
import Derived.Lib.SlBytesConst
set_option linter.unusedSimpArgs false
set_option linter.unusedVariables false
namespace Go.Proofs.Ytkhnpmeaklcmaaa
open Go.RowKit Go.Proofs.Ytkhnpmeaklcmaaa.Crc

def digits9 : List Int := [49, 50, 51, 52, 53, 54, 55, 56, 57]
theorem sum9 : ((sum digits9).toNat : Int) = 3421780262 := by decide +kernel
theorem fits_a : fits (sealed [97]) = true := by decide +kernel
theorem fits_000 : fits [0, 0, 0] = false := by decide +kernel
theorem in9 : InB digits9 := by unfold InB digits9; decide
theorem in_a : InB [97] := by unfold InB; decide
theorem in_000 : InB [0, 0, 0] := by unfold InB; decide
theorem sealed_in {l : List Int} (h : InB l) : InB (sealed l) := h.append (four_in _)
theorem sealed_len (l : List Int) : (sealed l).length = l.length + 4 := by simp [sealed, four_len]

set_option maxHeartbeats 400000 in
theorem awake_any (w : World) : Calls Try.prog 10 #[] w (BoolBelow true w) := by
  have S9 := Lib.hid sum9
  have FA := Lib.hid fits_a
  have F0 := Lib.hid fits_000
  have h1 := Lib.hid (Sum_any (some ⟨w.heap.size, 0, none⟩) 9 9 digits9 (w.alloc (.cells (digits9.flatMap u8s).toArray 5 (9, 10))) (rd_new_marked u8s_len w _ _ digits9) in9 (by unfold maxLen; omega))
  have kc := fun (w : World) (C : Array Value) (n c : Nat) => Lib.run_convert_bytes_const (P := Try.prog) w 23 5 C n c Try.underlying23 Try.underlying5
  go_enter Try.func10, Try.ntmps10
  go_wp2_with fail
  refine (h1.out).mono ?_
  rintro e w1 ⟨rfl, hw⟩
  rw [S9.out]
  have HW : Hid (Below w.heap.size w w1) := Lib.hid (by rw [← hw]; exact (Below.refl _ _).alloc (Nat.le_refl _) _)
  clear hw
  go_wp2_with fail
  refine (Seal_any _ 1 1 [97] _ (rd_new_marked u8s_len w1 _ _ [97]) in_a (by omega)).mono ?_
  rintro e w2 ⟨v, rfl, ho, hb⟩
  obtain ⟨A, c, rfl, hc, hm⟩ := ho.form
  have HR := Lib.hid (ho.rd u8s_len rfl)
  have HW2 : Hid (Below w.heap.size w w2) := Lib.hid ((HW.out.alloc HW.out.size _).trans (hb.mono (by have := HW.out.size; simp; omega)))
  clear ho hb
  go_wp2_with fail
  refine (Fits_any A _ c (sealed [97]) _ HR.out (sealed_in in_a) hc hm).mono ?_
  rintro e w3 ⟨rfl, hb3⟩
  rw [FA.out]
  have HW3 : Hid (Below w.heap.size w w3) := Lib.hid (HW2.out.trans (hb3.mono HW2.out.size))
  clear hb3
  go_wp2_with fail
  refine (Fits_any _ 3 3 [0, 0, 0] _ (rd_new u8s_len w3 _ [0, 0, 0]) in_000 (by omega) (by unfold maxLen; omega)).mono ?_
  rintro e w4 ⟨rfl, hb4⟩
  rw [F0.out]
  have HW4 : Hid (Below w.heap.size w w4) := Lib.hid ((HW3.out.alloc HW3.out.size _).trans (hb4.mono (by have := HW3.out.size; simp; omega)))
  clear hb4
  go_wp2
  go_ret
  exact ⟨rfl, HW4.out⟩
end Go.Proofs.Ytkhnpmeaklcmaaa
