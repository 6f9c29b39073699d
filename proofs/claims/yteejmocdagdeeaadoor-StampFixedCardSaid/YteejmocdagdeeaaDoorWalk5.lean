/- The layer's fixed example: it answers true, and leaves what was there. -/
import Derived.Test.YteejmocdagdeeaaDoorWalk4
set_option linter.unusedSimpArgs false
set_option linter.unusedVariables false
namespace Go.Proofs.YteejmocdagdeeaaDoor
open Go.RowKit

set_option maxHeartbeats 400000 in
theorem awake_any (w : World) : Calls Tryd.prog 5 #[] w fun e w' => e = .returned (.bool true) ∧ Below w.heap.size w w' := by
  go_enter Tryd.func5, Tryd.ntmps5
  go_wp2_with fail
  refine (New_St 3 4294967295 w (by omega) (by omega) (by omega)).mono ?_
  rintro e w1 ⟨rfl, hs, hb⟩
  have B1 := Lib.hid hb
  have S1 := Lib.hid hs
  clear hb hs
  go_wp2_with fail
  refine (Set_St S1.out 1 7 (by decide) (by omega) (by omega)).mono ?_
  rintro e w2 ⟨rfl, hs, ht⟩
  rw [if_pos (by decide)]
  have B2 := Lib.hid (ht.below B1.out (by omega) (by omega))
  have S2 := Lib.hid hs
  clear ht hs
  go_wp2_with fail
  refine (Get_St S2.out 1 (by decide) (by omega) (by omega)).mono ?_
  rintro e w3 ⟨rfl, hd⟩
  have B3 := Lib.hid (B2.out.trans (hd.below _))
  have S3 := Lib.hid (S2.out.drawn hd)
  rw [show look (put (empty 3) 1 7) 1 = some 7 by rfl, got]
  clear hd
  go_wp2_with fail
  refine (Reset_St S3.out (by decide)).mono ?_
  rintro e w4 ⟨rfl, hs, ht⟩
  have B4 := Lib.hid (ht.below B3.out (by omega) (by omega))
  have S4 := Lib.hid hs
  clear ht hs
  go_wp2_with fail
  refine (Get_St S4.out 1 (by decide) (by omega) (by omega)).mono ?_
  rintro e w5 ⟨rfl, hd⟩
  have B5 := Lib.hid (B4.out.trans (hd.below _))
  have S5 := Lib.hid (S4.out.drawn hd)
  rw [show look (empty (put (empty 3) 1 7).length) 1 = none by rfl, got]
  clear hd
  go_wp2_with fail
  refine (Set_St S5.out 2 0 (by decide) (by omega) (by omega)).mono ?_
  rintro e w6 ⟨rfl, hs, ht⟩
  rw [if_pos (by decide)]
  have B6 := Lib.hid (ht.below B5.out (by omega) (by omega))
  have S6 := Lib.hid hs
  clear ht hs
  go_wp2_with fail
  refine (Get_St S6.out 2 (by decide) (by omega) (by omega)).mono ?_
  rintro e w7 ⟨rfl, hd⟩
  have B7 := Lib.hid (B6.out.trans (hd.below _))
  have S7 := Lib.hid (S6.out.drawn hd)
  rw [show look (put (empty (put (empty 3) 1 7).length) 2 0) 2 = some 0 by rfl, got]
  clear hd
  go_wp2_with fail
  refine (Len_St S7.out).mono ?_
  rintro e w8 ⟨rfl, rfl⟩
  rw [show held (put (empty (put (empty 3) 1 7).length) 2 0) = 1 by rfl]
  go_wp2
  go_ret
  exact ⟨rfl, B7.out⟩
end Go.Proofs.YteejmocdagdeeaaDoor
