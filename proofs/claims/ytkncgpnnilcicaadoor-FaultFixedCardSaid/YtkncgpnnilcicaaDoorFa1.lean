/- Errors that a law makes: faults round a number, round an error of another kind, or round nothing; Go's errors.Unwrap; the program's list of links. -/
import Derived.Test.YtkncgpnnilcicaaDoorErrs6
import Derived.Test.YtkncgpnnilcicaaDoorCells
set_option linter.unusedSimpArgs false
set_option linter.unusedVariables false
namespace Go.Proofs.YtkncgpnnilcicaaDoor
open Go.RowKit Go.Extern.Stop Go.Stop Go.Extern

/-- what is innermost: nothing, a number, an error of another kind, a fault that is nil -/
inductive Core
  | none
  | num (c : Int)
  | other (a : Addr)
  | nilp
def Core.val : Core → Value
  | .none => .nilIface
  | .num c => .iface 24 (.int .i64 c)
  | .other a => .iface 89 (.pointer (some a))
  | .nilp => .iface 30 (.pointer Option.none)
def Core.code : Core → Int
  | .num c => c
  | _ => 0
inductive Wrap (W : World) (E : Core) : Value → List (Int × Int) → Prop
  | core : Wrap W E E.val []
  | link (b o : Nat) (k a : Int) (v : Value) (ps : List (Int × Int)) : W.cell? ⟨b, o, none⟩ = some (.int .i64 k) → W.cell? ⟨b, o + 1, none⟩ = some (.int .i64 a) → W.cell? ⟨b, o + 2, none⟩ = some v → Wrap W E v ps →
      Wrap W E (.iface 30 (.pointer (some ⟨b, o, none⟩))) ((k, a) :: ps)
section
variable {W W' : World} {E : Core} {v : Value} {ps : List (Int × Int)}
theorem Wrap.keep (h : Wrap W E v ps) (hb : Below W.heap.size W W') : Wrap W' E v ps := by
  induction h with
  | core => exact .core
  | link b o k a v ps h1 h2 h3 _ ih => exact .link b o k a v ps (cell_below hb h1) (cell_below hb h2) (cell_below hb h3) ih
theorem Wrap.nil (h : Wrap W E v []) : v = E.val := by cases h; rfl
theorem Wrap.cons {x : Int × Int} (h : Wrap W E v (x :: ps)) : ∃ b o v', v = .iface 30 (.pointer (some ⟨b, o, none⟩)) ∧ W.cell? ⟨b, o, none⟩ = some (.int .i64 x.1) ∧ W.cell? ⟨b, o + 1, none⟩ = some (.int .i64 x.2) ∧ W.cell? ⟨b, o + 2, none⟩ = some v' ∧ Wrap W E v' ps := by
  cases h with
  | link b o k a v' ps h1 h2 h3 h4 => exact ⟨b, o, v', rfl, h1, h2, h3, h4⟩
/-- a chain round a number, or round nothing, as errors.As and errors.Is meet it -/
theorem Wrap.chain {c : Int} (h : Wrap W E v ps) (hE : E = .none ∧ c = 0 ∨ E = .num c ∧ c ≠ 0) : Chain W v ps c := by
  induction h with
  | core =>
    rcases hE with ⟨rfl, rfl⟩ | ⟨rfl, hc⟩
    · exact .none
    · exact .num c hc
  | link b o k a v ps h1 h2 h3 _ ih => exact .wrap b o k a v ps c h1 h2 h3 ih
theorem Chain.wrap' {c : Int} (h : Chain W v ps c) : ∃ E : Core, (E = .none ∧ c = 0 ∨ E = .num c ∧ c ≠ 0) ∧ Wrap W E v ps := by
  induction h with
  | none => exact ⟨.none, .inl ⟨rfl, rfl⟩, .core⟩
  | num c hc => exact ⟨.num c, .inr ⟨rfl, hc⟩, .core⟩
  | wrap b o k a v ps c h1 h2 h3 _ ih =>
    obtain ⟨E, hE, hw⟩ := ih
    exact ⟨E, hE, .link b o k a v ps h1 h2 h3 hw⟩
end
/-- what counts of a chain: at most 64 places, and its number, if it is within -/
def linkPs (ps : List (Int × Int)) : List (Int × Int) := ps.take 64
def linkC (ps : List (Int × Int)) (E : Core) : Int := if ps.length < 64 then E.code else 0

theorem noUnS (v : Value) (xT : TypeId) (w : World) : (Instr.typeAssert (.iface 89 v) xT 100 true).run Tryd.prog w = .ok (.tuple #[.nilIface, .bool false]) w := run_typeAssert_lacksB Tryd.underlying100 (by kernel_rfl) (by kernel_rfl) v xT w
theorem Unwrap_fault {W : World} (b o : Nat) (v : Value) (h : W.cell? ⟨b, o + 2, none⟩ = some v) :
    Calls Tryd.prog 49 #[.iface 30 (.pointer (some ⟨b, o, none⟩))] W fun e w' => e = .returned v ∧ w' = W := by
  have uF := hasUnF
  have mU := mtUnwrap
  have H := Lib.hid h
  clear h
  go_enter Tryd.func49, Tryd.ntmps49
  go_wp2_with fail
  refine (Unwrap_any b o v H.out).mono ?_
  rintro e w2 ⟨rfl, h⟩
  obtain rfl := h.symm
  clear h
  go_wp2_with fail
  go_ret
  exact ⟨rfl, rfl⟩
theorem Unwrap_nilp (W : World) : Calls Tryd.prog 89 #[.pointer none] W fun e w' => e = .returned .nilIface ∧ w' = W := by
  go_enter Tryd.func89, Tryd.ntmps89
  go_wp2_with fail
  go_ret
  exact ⟨rfl, rfl⟩
theorem Unwrap_core {W : World} (E : Core) (hE : E ≠ .none) : Calls Tryd.prog 49 #[E.val] W fun e w' => e = .returned .nilIface ∧ w' = W := by
  cases E with
  | none => exact absurd rfl hE
  | num c =>
    have uN := noUnN
    simp only [Core.val]
    go_enter Tryd.func49, Tryd.ntmps49
    go_wp2_with fail
    go_ret
    exact ⟨rfl, rfl⟩
  | other a =>
    have uS := noUnS
    simp only [Core.val]
    go_enter Tryd.func49, Tryd.ntmps49
    go_wp2_with fail
    go_ret
    exact ⟨rfl, rfl⟩
  | nilp =>
    have uF := hasUnF
    have mU := mtUnwrap
    simp only [Core.val]
    go_enter Tryd.func49, Tryd.ntmps49
    go_wp2_with fail
    refine (Unwrap_nilp W).mono ?_
    rintro e w2 ⟨rfl, h⟩
    obtain rfl := h.symm
    clear h
    go_wp2_with fail
    go_ret
    exact ⟨rfl, rfl⟩
/-! ### 'x, ok := err.(*api.Fault)', 'n, ok := err.(api.Errno)' -/
theorem asFF (v : Value) (xT : TypeId) (w : World) : (Instr.typeAssert (.iface 30 v) xT 30 true).run Tryd.prog w = .ok (.tuple #[v, .bool true]) w := by kernel_rfl
theorem asNF (v : Value) (xT : TypeId) (w : World) : (Instr.typeAssert (.iface 24 v) xT 30 true).run Tryd.prog w = .ok (.tuple #[.pointer none, .bool false]) w := by kernel_rfl
theorem asSF (v : Value) (xT : TypeId) (w : World) : (Instr.typeAssert (.iface 89 v) xT 30 true).run Tryd.prog w = .ok (.tuple #[.pointer none, .bool false]) w := by kernel_rfl
theorem asNN (v : Value) (xT : TypeId) (w : World) : (Instr.typeAssert (.iface 24 v) xT 24 true).run Tryd.prog w = .ok (.tuple #[v, .bool true]) w := by kernel_rfl
theorem asFN (v : Value) (xT : TypeId) (w : World) : (Instr.typeAssert (.iface 30 v) xT 24 true).run Tryd.prog w = .ok (.tuple #[.int .i64 0, .bool false]) w := by kernel_rfl
theorem asSN (v : Value) (xT : TypeId) (w : World) : (Instr.typeAssert (.iface 89 v) xT 24 true).run Tryd.prog w = .ok (.tuple #[.int .i64 0, .bool false]) w := by kernel_rfl
end Go.Proofs.YtkncgpnnilcicaaDoor
