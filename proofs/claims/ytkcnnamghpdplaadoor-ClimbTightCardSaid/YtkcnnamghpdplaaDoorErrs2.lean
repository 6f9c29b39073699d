/- Closed facts on the method sets that errors.As and errors.Is ask for, and the program's errors as chains: faults round a number, or round nothing. -/
import Derived.Test.YtkcnnamghpdplaaDoorErrs1
set_option linter.unusedVariables false
set_option linter.unusedSimpArgs false
namespace Go.Proofs.YtkcnnamghpdplaaDoor
open Go.RowKit Go.Extern.Stop Go.Stop Go.Extern

theorem mtKind (h : Value) (w : World) : (Go.method 308 151 (.agg #[h]) "Kind").run Tryd.prog w = .ok (99, h) w := by kernel_rfl
theorem mtElem (h : Value) (w : World) : (Go.method 308 151 (.agg #[h]) "Elem").run Tryd.prog w = .ok (113, .agg #[h]) w := by kernel_rfl
theorem mtImpl (h : Value) (w : World) : (Go.method 308 151 (.agg #[h]) "Implements").run Tryd.prog w = .ok (114, .agg #[h]) w := by kernel_rfl
theorem mtAssign (h : Value) (w : World) : (Go.method 308 151 (.agg #[h]) "AssignableTo").run Tryd.prog w = .ok (111, .agg #[h]) w := by kernel_rfl
theorem mtComp (v : Value) (w : World) : (Go.method 308 151 v "Comparable").run Tryd.prog w = .ok (112, v) w := by kernel_rfl
theorem mtUnwrap (v : Value) (w : World) : (Go.method 308 74 v "Unwrap").run Tryd.prog w = .ok (104, v) w := by kernel_rfl

theorem noAsF (v : Value) (xT : TypeId) (w : World) : (Instr.typeAssert (.iface 74 v) xT 155 true).run Tryd.prog w = .ok (.tuple #[.nilIface, .bool false]) w := run_typeAssert_lacksB Tryd.underlying155 (by kernel_rfl) (by kernel_rfl) v xT w
theorem noAsN (v : Value) (xT : TypeId) (w : World) : (Instr.typeAssert (.iface 56 v) xT 155 true).run Tryd.prog w = .ok (.tuple #[.nilIface, .bool false]) w := run_typeAssert_lacksB Tryd.underlying155 (by kernel_rfl) (by kernel_rfl) v xT w
theorem noIsF (v : Value) (xT : TypeId) (w : World) : (Instr.typeAssert (.iface 74 v) xT 163 true).run Tryd.prog w = .ok (.tuple #[.nilIface, .bool false]) w := run_typeAssert_lacksB Tryd.underlying163 (by kernel_rfl) (by kernel_rfl) v xT w
theorem noIsN (v : Value) (xT : TypeId) (w : World) : (Instr.typeAssert (.iface 56 v) xT 163 true).run Tryd.prog w = .ok (.tuple #[.nilIface, .bool false]) w := run_typeAssert_lacksB Tryd.underlying163 (by kernel_rfl) (by kernel_rfl) v xT w
theorem hasUnF (v : Value) (xT : TypeId) (w : World) : (Instr.typeAssert (.iface 74 v) xT 158 true).run Tryd.prog w = .ok (.tuple #[.iface 74 v, .bool true]) w := run_typeAssert_hasB Tryd.underlying158 (by kernel_rfl) v xT w
theorem noUnN (v : Value) (xT : TypeId) (w : World) : (Instr.typeAssert (.iface 56 v) xT 158 true).run Tryd.prog w = .ok (.tuple #[.nilIface, .bool false]) w := run_typeAssert_lacksB Tryd.underlying158 (by kernel_rfl) (by kernel_rfl) v xT w
theorem noUnsN (v : Value) (xT : TypeId) (w : World) : (Instr.typeAssert (.iface 56 v) xT 160 true).run Tryd.prog w = .ok (.tuple #[.nilIface, .bool false]) w := run_typeAssert_lacksB Tryd.underlying160 (by kernel_rfl) (by kernel_rfl) v xT w

/-! ### '==' between errors -/
theorem eqNN (a b : Int) (w : World) : (binOp .eql 30 (.iface 56 (.int .i64 a)) (.iface 56 (.int .i64 b))).run Tryd.prog w = .ok (.bool (a == b)) w := by kernel_rfl
theorem eqFN (v u : Value) (w : World) : (binOp .eql 30 (.iface 74 v) (.iface 56 u)).run Tryd.prog w = .ok (.bool false) w := run_eql_iface_types (P := Tryd.prog) 74 56 v u Tryd.underlying30 (by decide) w
theorem typeOfNc (v : Value) (w : World) : (ReflectliteType.typeOf #[.iface 56 v]).run Tryd.prog w = .ok (.iface 151 (.agg #[.pointer (some ⟨1, 56, none⟩)])) w := by kernel_rfl
/-- the model's entry for (rtype).Comparable -/
def compEntry : Array Value → Sem Value := ReflectliteType.method fun t => do Rtype.noPackHeld "Comparable" t; pure (.bool (← typeInfo t).comparable)
theorem compN (w : World) : (compEntry #[.agg #[.pointer (some ⟨1, 56, none⟩)]]).run Tryd.prog w = .ok (.bool true) w := by kernel_rfl

/-! ### chains -/
inductive Chain (W : World) : Value → List (Int × Int) → Int → Prop
  | none : Chain W .nilIface [] 0
  | num (c : Int) : c ≠ 0 → Chain W (.iface 56 (.int .i64 c)) [] c
  | wrap (b o : Nat) (k a : Int) (E : Value) (ps : List (Int × Int)) (c : Int) : W.cell? ⟨b, o, none⟩ = some (.int .i64 k) → W.cell? ⟨b, o + 1, none⟩ = some (.int .i64 a) → W.cell? ⟨b, o + 2, none⟩ = some E → Chain W E ps c →
      Chain W (.iface 74 (.pointer (some ⟨b, o, none⟩))) ((k, a) :: ps) c
theorem Chain.unique {W : World} {E : Value} {ps qs : List (Int × Int)} {c d : Int} (h : Chain W E ps c) (h' : Chain W E qs d) : ps = qs ∧ c = d := by
  induction h generalizing qs d with
  | none => cases h'; exact ⟨rfl, rfl⟩
  | num c => cases h'; exact ⟨rfl, rfl⟩
  | wrap b o k a E ps c h1 h2 h3 hc ih =>
    cases h' with
    | wrap _ _ k' a' E' ps' c' h1' h2' h3' hc' =>
      rw [h1] at h1'; cases h1'
      rw [h2] at h2'; cases h2'
      rw [h3] at h3'; cases h3'
      obtain ⟨rfl, rfl⟩ := ih hc'
      exact ⟨rfl, rfl⟩
theorem Chain.keep {W W' : World} {E : Value} {ps : List (Int × Int)} {c : Int} (h : Chain W E ps c) (hb : Below W.heap.size W W') : Chain W' E ps c := by
  induction h with
  | none => exact .none
  | num c hc => exact .num c hc
  | wrap b o k a E ps c h1 h2 h3 _ ih => exact .wrap b o k a E ps c (cell_below hb h1) (cell_below hb h2) (cell_below hb h3) ih
open Classical in
/-- how many faults are left: a loop's measure -/
noncomputable def chainLen (W : World) (E : Value) : Nat := if h : ∃ p : List (Int × Int) × Int, Chain W E p.1 p.2 then h.choose.1.length else 0
theorem chainLen_eq {W : World} {E : Value} {ps : List (Int × Int)} {c : Int} (h : Chain W E ps c) : chainLen W E = ps.length := by
  unfold chainLen
  have hx : ∃ p : List (Int × Int) × Int, Chain W E p.1 p.2 := ⟨(ps, c), h⟩
  rw [dif_pos hx, (Chain.unique (Exists.choose_spec hx) h).1]
end Go.Proofs.YtkcnnamghpdplaaDoor
