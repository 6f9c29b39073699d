/- Errors of the document's as values; marks over bools; an empty list of bools. -/
import Derived.Test.YtkcnnamghpdplaaDoorCl26
import Derived.Test.YtkcnnamghpdplaaDoorClE
set_option linter.unusedSimpArgs false
set_option linter.unusedVariables false
namespace Go.Proofs.YtkcnnamghpdplaaDoor
open Go.RowKit

/-- the post under a name: the walk then makes no trial of its own at the return -/
theorem wp_post_named' {P : Program} {c : Code} {Q : Exit → Act → World → Prop} {a : Act} {w : World} (h : ∀ Q0, Q0 = Q → c.wp P Q0 a w) : c.wp P Q a w := h Q rfl
def DocX (b : Bug) (base : Nat) (x : ErrX) (w : World) : Prop := match b with
  | none => x = zX
  | some (c, none) => x = ⟨c, none, 0, 0⟩
  | some (c, some (k, a)) => ∃ g cap, x = ⟨c, some ⟨g, 0, none⟩, 1, cap⟩ ∧ Cells w g #[.int .i64 k, .int .i64 a] 73 ∧ base ≤ g
theorem DocX.below {b : Bug} {base : Nat} {x : ErrX} {w w' : World} (h : DocX b base x w) (hb : Below w.heap.size w w') : DocX b base x w' := by
  cases b with
  | none => exact h
  | some p =>
    obtain ⟨c, q⟩ := p
    cases q with
    | none => exact h
    | some q =>
      obtain ⟨k, a⟩ := q
      obtain ⟨g, cap, h1, h2, h3⟩ := h
      exact ⟨g, cap, h1, h2.below hb, h3⟩
theorem DocX.mono {b : Bug} {base base' : Nat} {x : ErrX} {w : World} (h : DocX b base x w) (hb : base' ≤ base) : DocX b base' x w := by
  cases b with
  | none => exact h
  | some p =>
    obtain ⟨c, q⟩ := p
    cases q with
    | none => exact h
    | some q =>
      obtain ⟨k, a⟩ := q
      obtain ⟨g, cap, h1, h2, h3⟩ := h
      exact ⟨g, cap, h1, h2, Nat.le_trans hb h3⟩
theorem ErrDoc.x {b : Bug} {W : World} {e : Ending} {w' : World} (h : ErrDoc b W e w') : ∃ x, e = .returned (errV x) ∧ DocX b W.heap.size x w' ∧ Below W.heap.size W w' := by
  obtain ⟨hb, h⟩ := h
  cases b with
  | none => exact ⟨zX, h, rfl, hb⟩
  | some p =>
    obtain ⟨c, q⟩ := p
    cases q with
    | none => exact ⟨⟨c, none, 0, 0⟩, h, rfl, hb⟩
    | some q =>
      obtain ⟨k, a⟩ := q
      obtain ⟨g, cap, h1, h2, h3⟩ := h
      exact ⟨_, h1, ⟨g, cap, rfl, h2, h3⟩, hb⟩
theorem ErrDoc.of_x {b : Bug} {W : World} {x : ErrX} {w' : World} (h : DocX b W.heap.size x w') (hb : Below W.heap.size W w') : ErrDoc b W (.returned (errV x)) w' := by
  refine ⟨hb, ?_⟩
  cases b with
  | none => rw [show x = zX from h]; rfl
  | some p =>
    obtain ⟨c, q⟩ := p
    cases q with
    | none => rw [show x = ⟨c, none, 0, 0⟩ from h]
    | some q =>
      obtain ⟨k, a⟩ := q
      obtain ⟨g, cap, h1, h2, h3⟩ := h
      rw [h1]
      exact ⟨g, cap, rfl, h2, h3⟩
/-- a bug's number is not 0 -/
def GoodB (b : Bug) : Prop := ∀ p, b = some p → p.1 ≠ 0
theorem DocX.bad {b : Bug} {base : Nat} {x : ErrX} {w : World} (h : DocX b base x w) (hg : GoodB b) : badX x = b.isSome := by
  cases b with
  | none => rw [show x = zX from h]; rfl
  | some p =>
    have hc := hg p rfl
    obtain ⟨c, q⟩ := p
    cases q with
    | none => rw [show x = ⟨c, none, 0, 0⟩ from h]; exact decide_eq_true (.inl hc)
    | some q =>
      obtain ⟨k, a⟩ := q
      obtain ⟨g, cap, h1, h2, h3⟩ := h
      rw [h1]
      exact decide_eq_true (.inl hc)
theorem good_firsts (f : List Nat) (n m : Nat) : GoodB (firstsB f n m) := by
  intro p hp
  unfold firstsB at hp
  split at hp
  · split at hp
    · cases hp; simp
    · split at hp
      · cases hp
      · cases hp; simp
  · cases hp; simp
def orB (b c : Bug) : Bug := match b with
  | some p => some p
  | none => c
theorem first_two {b c : Bug} {base : Nat} {x y : ErrX} {w : World} (h : DocX b base x w) (h' : DocX c base y w) (hg : GoodB b) (hg' : GoodB c) : DocX (orB b c) base (firstX [x, y]) w := by
  have e1 := h.bad hg
  have e2 := h'.bad hg'
  unfold firstX
  rw [List.find?_cons]
  cases hb : b with
  | some p =>
    rw [hb] at e1 h
    rw [e1]
    exact h
  | none =>
    rw [hb] at e1
    rw [e1]
    show DocX (orB none c) base ((List.find? badX [y]).getD zX) w
    rw [List.find?_cons]
    cases hc : c with
    | some p =>
      rw [hc] at e2 h'
      rw [e2]
      exact h'
    | none =>
      rw [hc] at e2
      rw [e2]
      rfl
theorem good_or {b c : Bug} (hb : GoodB b) (hc : GoodB c) : GoodB (orB b c) := by
  cases b with
  | some p => exact hb
  | none => exact hc
end Go.Proofs.YtkcnnamghpdplaaDoor
