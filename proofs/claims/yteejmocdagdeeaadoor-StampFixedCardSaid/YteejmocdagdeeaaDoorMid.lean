/- What New lays; the empty stamp's answers; how a law ends. -/
import Derived.Test.YteejmocdagdeeaaDoorWalk5
set_option linter.unusedSimpArgs false
set_option linter.unusedVariables false
namespace Go.Proofs.YteejmocdagdeeaaDoor
open Go.RowKit

def BoolBelow (b : Bool) (w : World) (e : Ending) (w' : World) : Prop := e = .returned (.bool b) ∧ Below w.heap.size w w'

theorem one_set (q : Nat) (v : Int) : held (put (empty 4) ((q : Int) % 4) v) = 1 := by
  have h : (q : Int) % 4 = 0 ∨ (q : Int) % 4 = 1 ∨ (q : Int) % 4 = 2 ∨ (q : Int) % 4 = 3 := by omega
  rcases h with h | h | h | h <;> rw [h] <;> rfl
theorem one_look (q : Nat) (v : Int) : look (put (empty 4) ((q : Int) % 4) v) ((q : Int) % 4) = some v := by
  have h : (q : Int) % 4 = 0 ∨ (q : Int) % 4 = 1 ∨ (q : Int) % 4 = 2 ∨ (q : Int) % 4 = 3 := by omega
  rcases h with h | h | h | h <;> rw [h] <;> rfl
theorem one_other (q : Nat) (v : Int) : look (put (empty 4) ((q : Int) % 4) v) (((q : Int) + 1) % 4) = none := by
  have h : ((q : Int) % 4 = 0 ∧ ((q : Int) + 1) % 4 = 1) ∨ ((q : Int) % 4 = 1 ∧ ((q : Int) + 1) % 4 = 2) ∨ ((q : Int) % 4 = 2 ∧ ((q : Int) + 1) % 4 = 3) ∨ ((q : Int) % 4 = 3 ∧ ((q : Int) + 1) % 4 = 0) := by omega
  rcases h with ⟨h, h'⟩ | ⟨h, h'⟩ | ⟨h, h'⟩ | ⟨h, h'⟩ <;> rw [h, h'] <;> rfl

theorem New_ex (n : Nat) (age : Int) (w : World) (hn : n ≤ 65536) (h0 : 0 ≤ age) (h1 : age ≤ 4294967295) :
    Calls Tryd.prog 6 #[.int .i64 n, .int .u32 age] w fun e w' => ∃ b g, e = .returned (.tuple #[.pointer (some ⟨b, 0, none⟩), .nilIface]) ∧
      St w' b g (empty n) ∧ Below w.heap.size w w' ∧ w.heap.size ≤ b ∧ w.heap.size ≤ g :=
  (New_St n age w hn h0 h1).mono fun e w' ⟨he, hs, hb⟩ => ⟨_, _, he, hs, hb, by omega, by omega⟩
/-- The whole number's rest by 4 that the walk writes. -/
theorem look_empty (n : Nat) (i : Int) : look (empty n) i = none := by
  unfold look empty
  split
  · rw [List.getD_eq_getElem?_getD, List.getElem?_replicate]; split <;> rfl
  · rfl
theorem marks_empty (n : Nat) : marks (empty n) = [] := by
  have e : (fun i => ((empty n).getD i none).isSome) = fun _ => false := by
    funext i
    unfold empty
    rw [List.getD_eq_getElem?_getD, List.getElem?_replicate]
    split <;> rfl
  unfold marks picks
  rw [e]; simp

end Go.Proofs.YteejmocdagdeeaaDoor
