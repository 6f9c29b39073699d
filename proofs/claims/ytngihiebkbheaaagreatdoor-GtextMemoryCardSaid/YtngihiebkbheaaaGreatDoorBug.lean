/- Errors of the program's and of the document's, of one bug: viaductseen.Same is true of them. (Out of the climb's texts.) -/
import Derived.Test.YtngihiebkbheaaaGreatDoorErrs5
import Derived.Test.YtngihiebkbheaaaGreatDoorCells
import Derived.BigQuiet
set_option linter.unusedSimpArgs false
set_option linter.unusedVariables false
namespace Go.Proofs.YtngihiebkbheaaaGreatDoor
open Go.RowKit

theorem E_any (c : Int) (W : World) : Calls Tryz.prog 21 #[.int .i64 c] W fun e w' => e = .returned (.agg #[.int .i64 c, .slice none 0 0]) ∧ Below W.heap.size W w' := by
  go_enter Tryz.func21, Tryz.ntmps21
  go_wp2_with fail
  go_returns
  exact ⟨rfl, (Below.refl _ W).alloc (Nat.le_refl _) _⟩
theorem Bad_any (c : Int) (A : Option Addr) (n cap : Nat) (W : World) : Calls Tryz.prog 28 #[.agg #[.int .i64 c, .slice A n cap]] W fun e w' => e = .returned (.bool (decide (c ≠ 0 ∨ 0 < n))) ∧ Below W.heap.size W w' := by
  by_cases hc : c = 0
  · subst hc
    have e0 : Hid (decide ((0 : Int) ≠ 0 ∨ 0 < n) = decide (0 < n)) := Lib.hid (by simp)
    by_cases hn : 0 < n
    · have g0 : decide ((0 : Int) < (n : Int)) = true := decide_eq_true (by omega)
      have e1 : Hid (decide (0 < n) = true) := Lib.hid (decide_eq_true hn)
      go_enter Tryz.func28, Tryz.ntmps28
      go_wp2_with (go_quiet (fail))
      go_ret
      exact ⟨by rw [e0.out, e1.out]; rfl, by first | exact (Below.refl _ W).alloc (Nat.le_refl _) _ | exact ((Below.refl _ W).alloc (Nat.le_refl _) _).drew⟩
    · have g0 : decide ((0 : Int) < (n : Int)) = false := decide_eq_false (by omega)
      have e1 : Hid (decide (0 < n) = false) := Lib.hid (decide_eq_false hn)
      go_enter Tryz.func28, Tryz.ntmps28
      go_wp2_with (go_quiet (fail))
      go_ret
      exact ⟨by rw [e0.out, e1.out]; rfl, by first | exact (Below.refl _ W).alloc (Nat.le_refl _) _ | exact ((Below.refl _ W).alloc (Nat.le_refl _) _).drew⟩
  · have g0 : (c == 0) = false := beq_eq_false_iff_ne.2 hc
    have e1 : Hid (decide (c ≠ 0 ∨ 0 < n) = true) := Lib.hid (decide_eq_true (.inl hc))
    go_enter Tryz.func28, Tryz.ntmps28
    go_wp2_with (go_quiet (fail))
    go_ret
    exact ⟨by rw [e1.out]; rfl, by first | exact (Below.refl _ W).alloc (Nat.le_refl _) _ | exact ((Below.refl _ W).alloc (Nat.le_refl _) _).drew⟩
theorem At1_any (k a c : Int) (W : World) : Calls Tryz.prog 20 #[.int .i64 k, .int .i64 a, .agg #[.int .i64 c, .slice none 0 0]] W fun e w' => ∃ g cap, e = .returned (.agg #[.int .i64 c, .slice (some ⟨g, 0, none⟩) 1 cap]) ∧ Cells w' g #[.int .i64 k, .int .i64 a] 69 ∧ W.heap.size ≤ g ∧ Below W.heap.size W w' := by
  go_enter Tryz.func20, Tryz.ntmps20
  go_wp2_with fail
  go_returns
  refine ⟨_, _, rfl, ?_, by omega, (((Below.refl _ _).alloc (Nat.le_refl _) _).alloc (by simp) _).alloc (by simp; omega) _⟩
  have h := cells_new (((W.alloc (Obj.cells #[.int .i64 c, .slice none 0 0] 32)).alloc (Obj.cells #[.int .i64 c, .slice (some ⟨W.heap.size + 1 + 1, 0, none⟩) 1 1] 32))) #[.int .i64 k, .int .i64 a] 69
  rwa [size_alloc, size_alloc] at h
theorem FaultAt_any (k a c : Int) (W : World) :
    Calls Tryz.prog 32 #[.int .i64 k, .int .i64 a, .iface 49 (.int .i64 c)] W fun e w' => e = .returned (.iface 70 (.pointer (some ⟨W.heap.size, 0, none⟩))) ∧ Cells w' W.heap.size #[.int .i64 k, .int .i64 a, .iface 49 (.int .i64 c)] 74 ∧ Below W.heap.size W w' := by
  go_enter Tryz.func32, Tryz.ntmps32
  go_wp2_with fail
  go_ret
  exact ⟨rfl, cells_new W _ _, (Below.refl _ _).alloc (Nat.le_refl _) _⟩
/-- what is wrong: a number, and at most one place -/
abbrev Bug := Option (Int × Option (Int × Int))
def ErrDoc (b : Bug) (W : World) (e : Ending) (w' : World) : Prop := Below W.heap.size W w' ∧ match b with
  | none => e = .returned (.agg #[.int .i64 0, .slice none 0 0])
  | some (c, none) => e = .returned (.agg #[.int .i64 c, .slice none 0 0])
  | some (c, some (k, a)) => ∃ g cap, e = .returned (.agg #[.int .i64 c, .slice (some ⟨g, 0, none⟩) 1 cap]) ∧ Cells w' g #[.int .i64 k, .int .i64 a] 69 ∧ W.heap.size ≤ g
def ErrProg (b : Bug) (W : World) (e : Ending) (w' : World) : Prop := Below W.heap.size W w' ∧ match b with
  | none => e = .returned .nilIface
  | some (c, none) => e = .returned (.iface 49 (.int .i64 c))
  | some (c, some (k, a)) => ∃ g, e = .returned (.iface 70 (.pointer (some ⟨g, 0, none⟩))) ∧ Cells w' g #[.int .i64 k, .int .i64 a, .iface 49 (.int .i64 c)] 74 ∧ W.heap.size ≤ g
/-- an error of the document's, as its two cells tell it -/
structure ErrX where
  c : Int
  A : Option Addr
  n : Nat
  k : Nat
abbrev errV (x : ErrX) : Value := .agg #[.int .i64 x.c, .slice x.A x.n x.k]
abbrev encX (x : ErrX) : List Value := [.int .i64 x.c, .slice x.A x.n x.k]
theorem encX_len : ∀ x, (encX x).length = 2 := fun _ => rfl
def badX (x : ErrX) : Bool := decide (x.c ≠ 0 ∨ 0 < x.n)
def zX : ErrX := ⟨0, none, 0, 0⟩
/-- the post under a name: the walk then makes no trial of its own at the return -/
theorem wp_post_named' {P : Program} {c : Code} {Q : Exit → Act → World → Prop} {a : Act} {w : World} (h : ∀ Q0, Q0 = Q → c.wp P Q0 a w) : c.wp P Q a w := h Q rfl
def DocX (b : Bug) (base : Nat) (x : ErrX) (w : World) : Prop := match b with
  | none => x = zX
  | some (c, none) => x = ⟨c, none, 0, 0⟩
  | some (c, some (k, a)) => ∃ g cap, x = ⟨c, some ⟨g, 0, none⟩, 1, cap⟩ ∧ Cells w g #[.int .i64 k, .int .i64 a] 69 ∧ base ≤ g
theorem DocX.below {b : Bug} {base : Nat} {x : ErrX} {w w' : World} (h : DocX b base x w) (hb : Below w.heap.size w w') : DocX b base x w' := by
  cases b with
  | none => exact h
  | some p =>
    obtain ⟨c, q⟩ := p
    cases q with
    | none => exact h
    | some q =>
      obtain ⟨k, a⟩ := q
      obtain ⟨g, cap, h1, h2, h3⟩ := h
      exact ⟨g, cap, h1, h2.below hb, h3⟩
theorem DocX.mono {b : Bug} {base base' : Nat} {x : ErrX} {w : World} (h : DocX b base x w) (hb : base' ≤ base) : DocX b base' x w := by
  cases b with
  | none => exact h
  | some p =>
    obtain ⟨c, q⟩ := p
    cases q with
    | none => exact h
    | some q =>
      obtain ⟨k, a⟩ := q
      obtain ⟨g, cap, h1, h2, h3⟩ := h
      exact ⟨g, cap, h1, h2, Nat.le_trans hb h3⟩
theorem ErrDoc.x {b : Bug} {W : World} {e : Ending} {w' : World} (h : ErrDoc b W e w') : ∃ x, e = .returned (errV x) ∧ DocX b W.heap.size x w' ∧ Below W.heap.size W w' := by
  obtain ⟨hb, h⟩ := h
  cases b with
  | none => exact ⟨zX, h, rfl, hb⟩
  | some p =>
    obtain ⟨c, q⟩ := p
    cases q with
    | none => exact ⟨⟨c, none, 0, 0⟩, h, rfl, hb⟩
    | some q =>
      obtain ⟨k, a⟩ := q
      obtain ⟨g, cap, h1, h2, h3⟩ := h
      exact ⟨_, h1, ⟨g, cap, rfl, h2, h3⟩, hb⟩
theorem ErrDoc.of_x {b : Bug} {W : World} {x : ErrX} {w' : World} (h : DocX b W.heap.size x w') (hb : Below W.heap.size W w') : ErrDoc b W (.returned (errV x)) w' := by
  refine ⟨hb, ?_⟩
  cases b with
  | none => rw [show x = zX from h]; rfl
  | some p =>
    obtain ⟨c, q⟩ := p
    cases q with
    | none => rw [show x = ⟨c, none, 0, 0⟩ from h]
    | some q =>
      obtain ⟨k, a⟩ := q
      obtain ⟨g, cap, h1, h2, h3⟩ := h
      rw [h1]
      exact ⟨g, cap, rfl, h2, h3⟩
/-- a bug's number is not 0 -/
def GoodB (b : Bug) : Prop := ∀ p, b = some p → p.1 ≠ 0
theorem DocX.bad {b : Bug} {base : Nat} {x : ErrX} {w : World} (h : DocX b base x w) (hg : GoodB b) : badX x = b.isSome := by
  cases b with
  | none => rw [show x = zX from h]; rfl
  | some p =>
    have hc := hg p rfl
    obtain ⟨c, q⟩ := p
    cases q with
    | none => rw [show x = ⟨c, none, 0, 0⟩ from h]; exact decide_eq_true (.inl hc)
    | some q =>
      obtain ⟨k, a⟩ := q
      obtain ⟨g, cap, h1, h2, h3⟩ := h
      rw [h1]
      exact decide_eq_true (.inl hc)
theorem rd_place {w : World} {g : Nat} {k a : Int} (h : Cells w g #[.int .i64 k, .int .i64 a] 69) : RdP w (some ⟨g, 0, none⟩) 1 [(k, a)] := by
  refine ⟨rfl, fun _ => ⟨_, rfl, fun j x i u hj hi => ?_⟩⟩
  have hj0 : j = 0 := by have := (List.getElem?_eq_some_iff.1 hj).1; simpa using this
  subst hj0
  have hx : x = (k, a) := by simpa using hj.symm
  subst hx
  match i, hi with
  | 0, hi => have e : u = .int .i64 k := by simpa using hi.symm
             rw [e]; exact h.cell 0
  | 1, hi => have e : u = .int .i64 a := by simpa using hi.symm
             rw [e]; exact h.cell 1
theorem ErrProg.later {bug : Bug} {W w w' : World} {e : Ending} (h : ErrProg bug W e w) (hb : Below w.heap.size w w') : ErrProg bug W e w' := by
  obtain ⟨h1, h2⟩ := h
  refine ⟨h1.trans (hb.mono h1.size), ?_⟩
  cases bug with
  | none => exact h2
  | some p =>
    obtain ⟨c, q⟩ := p
    cases q with
    | none => exact h2
    | some q =>
      obtain ⟨g, e1, e2, e3⟩ := h2
      exact ⟨g, e1, e2.below hb, e3⟩
/-- the program's error, as DocX tells the document's -/
def ProgX (bug : Bug) (base : Nat) (v : Value) (w : World) : Prop := match bug with
  | none => v = .nilIface
  | some (c, none) => v = .iface 49 (.int .i64 c)
  | some (c, some (k, a)) => ∃ g, v = .iface 70 (.pointer (some ⟨g, 0, none⟩)) ∧ Cells w g #[.int .i64 k, .int .i64 a, .iface 49 (.int .i64 c)] 74 ∧ base ≤ g
theorem ErrProg.px {bug : Bug} {W w : World} {v : Value} (h : ErrProg bug W (.returned v) w) : ProgX bug W.heap.size v w := by
  obtain ⟨-, h2⟩ := h
  cases bug with
  | none => injection h2
  | some p =>
    obtain ⟨c, q⟩ := p
    cases q with
    | none => injection h2
    | some q =>
      obtain ⟨g, e1, e2, e3⟩ := h2
      injection e1 with e1
      exact ⟨g, e1, e2, e3⟩
theorem ProgX.off {bug : Bug} {base R : Nat} {w w' : World} {v : Value} (h : ProgX bug base v w) (hk : Kept (fun k => k = R) w w') (hR : R < base) : ProgX bug base v w' := by
  cases bug with
  | none => exact h
  | some p =>
    obtain ⟨c, q⟩ := p
    cases q with
    | none => exact h
    | some q =>
      obtain ⟨g, e1, e2, e3⟩ := h
      exact ⟨g, e1, hk.cells e2 (by omega), e3⟩
theorem ProgX.below {bug : Bug} {base : Nat} {w w' : World} {v : Value} (h : ProgX bug base v w) (hb : Below w.heap.size w w') : ProgX bug base v w' := by
  cases bug with
  | none => exact h
  | some p =>
    obtain ⟨c, q⟩ := p
    cases q with
    | none => exact h
    | some q =>
      obtain ⟨g, e1, e2, e3⟩ := h
      exact ⟨g, e1, e2.below hb, e3⟩
theorem DocX.off {bug : Bug} {base R : Nat} {w w' : World} {x : ErrX} (h : DocX bug base x w) (hk : Kept (fun k => k = R) w w') (hR : R < base) : DocX bug base x w' := by
  cases bug with
  | none => exact h
  | some p =>
    obtain ⟨c, q⟩ := p
    cases q with
    | none => exact h
    | some q =>
      obtain ⟨g, cap, e1, e2, e3⟩ := h
      exact ⟨g, cap, e1, hk.cells e2 (by omega), e3⟩
theorem same_bug {bug : Bug} {w : World} {v : Value} {x : ErrX} {base base' : Nat} (he : ProgX bug base' v w) (hx : DocX bug base x w) (hgood : GoodB bug) (hg : ErrT w) :
    Calls Tryz.prog 13 #[v, .agg #[.int .i64 x.c, .slice x.A x.n x.k]] w fun e w' => e = .returned (.bool true) ∧ Below w.heap.size w w' := by
  cases bug with
  | none =>
    have hv : v = .nilIface := he
    have hx' : x = zX := hx
    subst hv hx'
    exact Same_none none 0 w
  | some p =>
    obtain ⟨c, q⟩ := p
    have hc : c ≠ 0 := hgood _ rfl
    cases q with
    | none =>
      have hv : v = .iface 49 (.int .i64 c) := he
      have hx' : x = ⟨c, none, 0, 0⟩ := hx
      subst hv hx'
      exact Same_true _ [] c none 0 0 w (.num c hc) hc Rd.nil hg (by simp)
    | some q =>
      obtain ⟨k, a⟩ := q
      obtain ⟨g, hv, h3, -⟩ := he
      obtain ⟨g2, cap, hx', h2, -⟩ := hx
      subst hv hx'
      exact Same_true _ [(k, a)] c _ 1 cap w (.wrap g 0 k a _ [] c (h3.cell 0) (h3.cell 1) (h3.cell 2) (.num c hc)) hc (rd_place h2) hg (by unfold maxLen; omega)
end Go.Proofs.YtngihiebkbheaaaGreatDoor
