/- The program's error and the document's, of one bug: viaductseen.Same is true of them. -/
import Derived.Test.YtkcnnamghpdplaaDoorCl28
import Derived.Test.YtkcnnamghpdplaaDoorErrs5
set_option linter.unusedSimpArgs false
set_option linter.unusedVariables false
namespace Go.Proofs.YtkcnnamghpdplaaDoor
open Go.RowKit

theorem rd_place {w : World} {g : Nat} {k a : Int} (h : Cells w g #[.int .i64 k, .int .i64 a] 73) : RdP w (some ⟨g, 0, none⟩) 1 [(k, a)] := by
  refine ⟨rfl, fun _ => ⟨_, rfl, fun j x i u hj hi => ?_⟩⟩
  have hj0 : j = 0 := by have := (List.getElem?_eq_some_iff.1 hj).1; simpa using this
  subst hj0
  have hx : x = (k, a) := by simpa using hj.symm
  subst hx
  match i, hi with
  | 0, hi => have e : u = .int .i64 k := by simpa using hi.symm
             rw [e]; exact h.cell 0
  | 1, hi => have e : u = .int .i64 a := by simpa using hi.symm
             rw [e]; exact h.cell 1
theorem ErrProg.later {bug : Bug} {W w w' : World} {e : Ending} (h : ErrProg bug W e w) (hb : Below w.heap.size w w') : ErrProg bug W e w' := by
  obtain ⟨h1, h2⟩ := h
  refine ⟨h1.trans (hb.mono h1.size), ?_⟩
  cases bug with
  | none => exact h2
  | some p =>
    obtain ⟨c, q⟩ := p
    cases q with
    | none => exact h2
    | some q =>
      obtain ⟨g, e1, e2, e3⟩ := h2
      exact ⟨g, e1, e2.below hb, e3⟩
/-- the program's error, as DocX tells the document's -/
def ProgX (bug : Bug) (base : Nat) (v : Value) (w : World) : Prop := match bug with
  | none => v = .nilIface
  | some (c, none) => v = .iface 56 (.int .i64 c)
  | some (c, some (k, a)) => ∃ g, v = .iface 74 (.pointer (some ⟨g, 0, none⟩)) ∧ Cells w g #[.int .i64 k, .int .i64 a, .iface 56 (.int .i64 c)] 78 ∧ base ≤ g
theorem ErrProg.px {bug : Bug} {W w : World} {v : Value} (h : ErrProg bug W (.returned v) w) : ProgX bug W.heap.size v w := by
  obtain ⟨-, h2⟩ := h
  cases bug with
  | none => injection h2
  | some p =>
    obtain ⟨c, q⟩ := p
    cases q with
    | none => injection h2
    | some q =>
      obtain ⟨g, e1, e2, e3⟩ := h2
      injection e1 with e1
      exact ⟨g, e1, e2, e3⟩
theorem ProgX.off {bug : Bug} {base R : Nat} {w w' : World} {v : Value} (h : ProgX bug base v w) (hk : Kept (fun k => k = R) w w') (hR : R < base) : ProgX bug base v w' := by
  cases bug with
  | none => exact h
  | some p =>
    obtain ⟨c, q⟩ := p
    cases q with
    | none => exact h
    | some q =>
      obtain ⟨g, e1, e2, e3⟩ := h
      exact ⟨g, e1, hk.cells e2 (by omega), e3⟩
theorem ProgX.below {bug : Bug} {base : Nat} {w w' : World} {v : Value} (h : ProgX bug base v w) (hb : Below w.heap.size w w') : ProgX bug base v w' := by
  cases bug with
  | none => exact h
  | some p =>
    obtain ⟨c, q⟩ := p
    cases q with
    | none => exact h
    | some q =>
      obtain ⟨g, e1, e2, e3⟩ := h
      exact ⟨g, e1, e2.below hb, e3⟩
theorem DocX.off {bug : Bug} {base R : Nat} {w w' : World} {x : ErrX} (h : DocX bug base x w) (hk : Kept (fun k => k = R) w w') (hR : R < base) : DocX bug base x w' := by
  cases bug with
  | none => exact h
  | some p =>
    obtain ⟨c, q⟩ := p
    cases q with
    | none => exact h
    | some q =>
      obtain ⟨g, cap, e1, e2, e3⟩ := h
      exact ⟨g, cap, e1, hk.cells e2 (by omega), e3⟩
theorem same_bug {bug : Bug} {w : World} {v : Value} {x : ErrX} {base base' : Nat} (he : ProgX bug base' v w) (hx : DocX bug base x w) (hgood : GoodB bug) (hg : ErrT w) :
    Calls Tryd.prog 14 #[v, .agg #[.int .i64 x.c, .slice x.A x.n x.k]] w fun e w' => e = .returned (.bool true) ∧ Below w.heap.size w w' := by
  cases bug with
  | none =>
    have hv : v = .nilIface := he
    have hx' : x = zX := hx
    subst hv hx'
    exact Same_none none 0 w
  | some p =>
    obtain ⟨c, q⟩ := p
    have hc : c ≠ 0 := hgood _ rfl
    cases q with
    | none =>
      have hv : v = .iface 56 (.int .i64 c) := he
      have hx' : x = ⟨c, none, 0, 0⟩ := hx
      subst hv hx'
      exact Same_true _ [] c none 0 0 w (.num c hc) hc Rd.nil hg (by simp)
    | some q =>
      obtain ⟨k, a⟩ := q
      obtain ⟨g, hv, h3, -⟩ := he
      obtain ⟨g2, cap, hx', h2, -⟩ := hx
      subst hv hx'
      exact Same_true _ [(k, a)] c _ 1 cap w (.wrap g 0 k a _ [] c (h3.cell 0) (h3.cell 1) (h3.cell 2) (.num c hc)) hc (rd_place h2) hg (by unfold maxLen; omega)
end Go.Proofs.YtkcnnamghpdplaaDoor
