/- Errors of the program's and of the document's, of one bug: viaductseen.Same is true of them. (Out of the climb's texts.) -/
import Derived.Test.YtmnnoecjedkdjaaGreatDoorErrs5
import Derived.Test.YtmnnoecjedkdjaaGreatDoorCells
import Derived.BigQuiet
set_option linter.unusedSimpArgs false
set_option linter.unusedVariables false
namespace Go.Proofs.YtmnnoecjedkdjaaGreatDoor
open Go.RowKit

theorem E_any (c : Int) (W : World) : Calls Tryz.prog 85 #[.int .i64 c] W fun e w' => e = .returned (.agg #[.int .i64 c, .slice none 0 0]) ∧ Below W.heap.size W w' := by
  go_enter Tryz.func85, Tryz.ntmps85
  go_wp2_with fail
  go_returns
  exact ⟨rfl, (Below.refl _ W).alloc (Nat.le_refl _) _⟩
theorem At1_any (k a c : Int) (W : World) : Calls Tryz.prog 86 #[.int .i64 k, .int .i64 a, .agg #[.int .i64 c, .slice none 0 0]] W fun e w' => ∃ g cap, e = .returned (.agg #[.int .i64 c, .slice (some ⟨g, 0, none⟩) 1 cap]) ∧ Cells w' g #[.int .i64 k, .int .i64 a] 37 ∧ W.heap.size ≤ g ∧ Below W.heap.size W w' := by
  go_enter Tryz.func86, Tryz.ntmps86
  go_wp2_with fail
  go_returns
  refine ⟨_, _, rfl, ?_, by omega, (((Below.refl _ _).alloc (Nat.le_refl _) _).alloc (by simp) _).alloc (by simp; omega) _⟩
  have h := cells_new (((W.alloc (Obj.cells #[.int .i64 c, .slice none 0 0] 136)).alloc (Obj.cells #[.int .i64 c, .slice (some ⟨W.heap.size + 1 + 1, 0, none⟩) 1 1] 136))) #[.int .i64 k, .int .i64 a] 37
  rwa [size_alloc, size_alloc] at h
theorem FaultAt_any (k a c : Int) (W : World) :
    Calls Tryz.prog 6 #[.int .i64 k, .int .i64 a, .iface 27 (.int .i64 c)] W fun e w' => e = .returned (.iface 50 (.pointer (some ⟨W.heap.size, 0, none⟩))) ∧ Cells w' W.heap.size #[.int .i64 k, .int .i64 a, .iface 27 (.int .i64 c)] 54 ∧ Below W.heap.size W w' := by
  go_enter Tryz.func6, Tryz.ntmps6
  go_wp2_with fail
  go_ret
  exact ⟨rfl, cells_new W _ _, (Below.refl _ _).alloc (Nat.le_refl _) _⟩
/-- what is wrong: a number, and at most one place -/
abbrev Bug := Option (Int × Option (Int × Int))
def ErrDoc (b : Bug) (W : World) (e : Ending) (w' : World) : Prop := Below W.heap.size W w' ∧ match b with
  | none => e = .returned (.agg #[.int .i64 0, .slice none 0 0])
  | some (c, none) => e = .returned (.agg #[.int .i64 c, .slice none 0 0])
  | some (c, some (k, a)) => ∃ g cap, e = .returned (.agg #[.int .i64 c, .slice (some ⟨g, 0, none⟩) 1 cap]) ∧ Cells w' g #[.int .i64 k, .int .i64 a] 37 ∧ W.heap.size ≤ g
def ErrProg (b : Bug) (W : World) (e : Ending) (w' : World) : Prop := Below W.heap.size W w' ∧ match b with
  | none => e = .returned .nilIface
  | some (c, none) => e = .returned (.iface 27 (.int .i64 c))
  | some (c, some (k, a)) => ∃ g, e = .returned (.iface 50 (.pointer (some ⟨g, 0, none⟩))) ∧ Cells w' g #[.int .i64 k, .int .i64 a, .iface 27 (.int .i64 c)] 54 ∧ W.heap.size ≤ g
/-- an error of the document's, as its two cells tell it -/
structure ErrX where
  c : Int
  A : Option Addr
  n : Nat
  k : Nat
abbrev errV (x : ErrX) : Value := .agg #[.int .i64 x.c, .slice x.A x.n x.k]
def zX : ErrX := ⟨0, none, 0, 0⟩
def DocX (b : Bug) (base : Nat) (x : ErrX) (w : World) : Prop := match b with
  | none => x = zX
  | some (c, none) => x = ⟨c, none, 0, 0⟩
  | some (c, some (k, a)) => ∃ g cap, x = ⟨c, some ⟨g, 0, none⟩, 1, cap⟩ ∧ Cells w g #[.int .i64 k, .int .i64 a] 37 ∧ base ≤ g
theorem DocX.below {b : Bug} {base : Nat} {x : ErrX} {w w' : World} (h : DocX b base x w) (hb : Below w.heap.size w w') : DocX b base x w' := by
  cases b with
  | none => exact h
  | some p =>
    obtain ⟨c, q⟩ := p
    cases q with
    | none => exact h
    | some q =>
      obtain ⟨k, a⟩ := q
      obtain ⟨g, cap, h1, h2, h3⟩ := h
      exact ⟨g, cap, h1, h2.below hb, h3⟩
theorem DocX.mono {b : Bug} {base base' : Nat} {x : ErrX} {w : World} (h : DocX b base x w) (hb : base' ≤ base) : DocX b base' x w := by
  cases b with
  | none => exact h
  | some p =>
    obtain ⟨c, q⟩ := p
    cases q with
    | none => exact h
    | some q =>
      obtain ⟨k, a⟩ := q
      obtain ⟨g, cap, h1, h2, h3⟩ := h
      exact ⟨g, cap, h1, h2, Nat.le_trans hb h3⟩
theorem ErrDoc.x {b : Bug} {W : World} {e : Ending} {w' : World} (h : ErrDoc b W e w') : ∃ x, e = .returned (errV x) ∧ DocX b W.heap.size x w' ∧ Below W.heap.size W w' := by
  obtain ⟨hb, h⟩ := h
  cases b with
  | none => exact ⟨zX, h, rfl, hb⟩
  | some p =>
    obtain ⟨c, q⟩ := p
    cases q with
    | none => exact ⟨⟨c, none, 0, 0⟩, h, rfl, hb⟩
    | some q =>
      obtain ⟨k, a⟩ := q
      obtain ⟨g, cap, h1, h2, h3⟩ := h
      exact ⟨_, h1, ⟨g, cap, rfl, h2, h3⟩, hb⟩
/-- the program's error, as DocX tells the document's -/
def ProgX (bug : Bug) (base : Nat) (v : Value) (w : World) : Prop := match bug with
  | none => v = .nilIface
  | some (c, none) => v = .iface 27 (.int .i64 c)
  | some (c, some (k, a)) => ∃ g, v = .iface 50 (.pointer (some ⟨g, 0, none⟩)) ∧ Cells w g #[.int .i64 k, .int .i64 a, .iface 27 (.int .i64 c)] 54 ∧ base ≤ g
theorem ProgX.off {bug : Bug} {base R : Nat} {w w' : World} {v : Value} (h : ProgX bug base v w) (hk : Kept (fun k => k = R) w w') (hR : R < base) : ProgX bug base v w' := by
  cases bug with
  | none => exact h
  | some p =>
    obtain ⟨c, q⟩ := p
    cases q with
    | none => exact h
    | some q =>
      obtain ⟨g, e1, e2, e3⟩ := h
      exact ⟨g, e1, hk.cells e2 (by omega), e3⟩
theorem ProgX.below {bug : Bug} {base : Nat} {w w' : World} {v : Value} (h : ProgX bug base v w) (hb : Below w.heap.size w w') : ProgX bug base v w' := by
  cases bug with
  | none => exact h
  | some p =>
    obtain ⟨c, q⟩ := p
    cases q with
    | none => exact h
    | some q =>
      obtain ⟨g, e1, e2, e3⟩ := h
      exact ⟨g, e1, e2.below hb, e3⟩
theorem DocX.off {bug : Bug} {base R : Nat} {w w' : World} {x : ErrX} (h : DocX bug base x w) (hk : Kept (fun k => k = R) w w') (hR : R < base) : DocX bug base x w' := by
  cases bug with
  | none => exact h
  | some p =>
    obtain ⟨c, q⟩ := p
    cases q with
    | none => exact h
    | some q =>
      obtain ⟨g, cap, e1, e2, e3⟩ := h
      exact ⟨g, cap, e1, hk.cells e2 (by omega), e3⟩
end Go.Proofs.YtmnnoecjedkdjaaGreatDoor
