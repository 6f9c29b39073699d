/- The document's Reset; a script played on a stamp and on the document's lists. -/
import Derived.Test.YteejmocdagdeeaaDoorDoor1
import Derived.Deep.RegionHeld3
import Derived.Handy
set_option linter.unusedSimpArgs false
set_option linter.unusedVariables false
namespace Go.Proofs.YteejmocdagdeeaaDoor
open Go.RowKit

theorem flagsA_clear (m : List (Option Int)) (i : Nat) : (flagsA m).setIfInBounds i (.bool false) = flagsA (m.set i none) := by
  apply Array.ext'
  simp [flagsA, List.map_set]
theorem Doc.clear_ {w : World} {x y : Nat} {vs : List Int} {m : List (Option Int)} (h : Doc w x y vs m) (i : Nat) : Doc (w.setCell ⟨y, i, none⟩ (.bool false)) x y vs (m.set i none) := by
  refine ⟨h.nums.far i _ h.ne, ?_, h.ne, by rw [List.length_set, h.len], fun j u hj => ?_⟩
  · have e := h.flags.set_ i (.bool false)
    rwa [flagsA_clear m i] at e
  · by_cases e : i = j
    · subst e
      rw [List.getElem?_set] at hj
      simp at hj
    · rw [List.getElem?_set_ne e] at hj
      exact h.val j u hj
def cleared (m : List (Option Int)) (j : Nat) : List (Option Int) := List.replicate j none ++ m.drop j
theorem cleared_zero (m : List (Option Int)) : cleared m 0 = m := rfl
theorem cleared_len {m : List (Option Int)} {j : Nat} (hj : j ≤ m.length) : (cleared m j).length = m.length := by simp [cleared]; omega
theorem cleared_step {m : List (Option Int)} {j : Nat} (hj : j < m.length) : (cleared m j).set j none = cleared m (j + 1) := by
  unfold cleared
  rw [List.set_append_right _ _ (by simp), List.length_replicate, Nat.sub_self, List.drop_eq_getElem_cons hj, List.set_cons_zero, List.replicate_succ', List.append_assoc]
  rfl
theorem cleared_all (m : List (Option Int)) : cleared m m.length = empty m.length := by simp [cleared, empty]
theorem docReset_any {w : World} {x y : Nat} {vs : List Int} {m : List (Option Int)} (h : Doc w x y vs m) {n : Nat} (hn : m.length = n) (hm : n ≤ 65536) :
    Calls Tryd.prog 22 #[docV x y n] w fun e w' => e = .returned (.tuple #[]) ∧ Doc w' x y vs (empty n) ∧ Near x y w w' := by
  unfold docV
  have hx := h.nums.lt
  have hy := h.flags.lt
  have H := Lib.hid h
  have HN := Lib.hid hn
  clear h hn
  go_enter Tryd.func22, Tryd.ntmps22
  go_wp2_with fail
  have HX : Hid (Cells (w.alloc (.cells #[.slice (some ⟨x, 0, none⟩) n n, .slice (some ⟨y, 0, none⟩) n n] 33)) w.heap.size #[.slice (some ⟨x, 0, none⟩) n n, .slice (some ⟨y, 0, none⟩) n n] 33) := Lib.hid (heap_alloc_new _ _)
  go_loopw [6] (fun i wr => ∃ j : Nat, j ≤ n ∧ i = .int .i64 j ∧ Doc wr x y vs (cleared m j) ∧ Near x y w wr ∧ Cells wr w.heap.size #[.slice (some ⟨x, 0, none⟩) n n, .slice (some ⟨y, 0, none⟩) n n] 33) (fun i _ => n - (intOf i).toNat)
  case atStart => exact ⟨0, by omega, rfl, H.out.below ((Below.refl _ _).alloc (Nat.le_refl _) _), (Near.of_below (Below.refl _ _) x y).alloc _, HX.out⟩
  case round =>
    obtain ⟨j, hj, rfl, hd, hnr, hbx⟩ := hrel
    have HD := Lib.hid hd
    have HNR := Lib.hid hnr
    have HB := Lib.hid hbx
    have c1 := hbx.cell 1
    clear hd hnr hbx HX
    by_cases hlt : j < n
    · have hjm : j < (cleared m j).length := by rw [cleared_len (by rw [HN.out]; exact hj), HN.out]; exact hlt
      have d1 := (HD.out.flags.cell j).trans (flagsA_at hjm)
      have f1 := HD.out.flags.frozen j
      generalize (cleared m j)[j].isSome = b0 at d1
      clear hjm
      go_wp2_with fail
      go_roundw
      case rel => exact ⟨j + 1, by omega, by go_num, by rw [← cleared_step (by rw [HN.out]; exact hlt)]; exact HD.out.clear_ j, HNR.out.set_ _ _ (.inr (.inl rfl)), HB.out.far j _ (by omega)⟩
      case measure => simp [intOf]; omega
    · obtain rfl : j = n := by omega
      go_wp2_with fail
      go_end0
      exact ⟨rfl, by have e := HD.out; rw [← HN.out, cleared_all, HN.out] at e; exact e, HNR.out⟩
end Go.Proofs.YteejmocdagdeeaaDoor
