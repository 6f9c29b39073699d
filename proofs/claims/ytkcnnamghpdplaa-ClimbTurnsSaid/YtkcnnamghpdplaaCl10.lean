/- Hierarchies turned about: the document's. -/
import Derived.Test.YtkcnnamghpdplaaCl9
import Derived.Deep.RegionHeld3
set_option linter.unusedSimpArgs false
set_option linter.unusedVariables false
namespace Go.Proofs.Ytkcnnamghpdplaa
open Go.RowKit

/-- the new number of a child -/
def numT (nu nd i : Nat) : Nat := if i = 4294967295 then i else if i < nu then nd + i else i - nu
def turnL (nu nd : Nat) (l : Lk) : Lk := ⟨l.to, l.w, numT nu nd l.r, numT nu nd l.l⟩
def turnT (h : HierT) : HierT := ⟨h.node, h.df, h.dn.map (turnL h.up.length h.dn.length), h.uf, h.up.map (turnL h.up.length h.dn.length)⟩
theorem number_any (k : HV) (h : HierT) (i : Nat) (W : World) (hu : h.up.length ≤ 1048576) (hd : h.dn.length ≤ 1048576) (hi : In32 i) :
    Calls Try.prog 59 #[hierV k h, .int .u32 i] W fun e w' => e = .returned (.int .u32 (numT h.up.length h.dn.length i : Nat)) ∧ Below W.heap.size W w' := by
  unfold In32 at hi
  unfold hierV
  generalize h.up.length = n2 at *
  generalize h.dn.length = n4 at *
  generalize hr : numT n2 n4 i = res
  have HR := Lib.hid hr
  unfold numT at HR
  clear hr
  by_cases h0 : i = 4294967295
  · have e : Hid ((res : Int) = 4294967295) := Lib.hid (by have := HR.out; rw [if_pos h0] at this; omega)
    subst h0
    go_enter Try.func59, Try.ntmps59
    go_wp2_with fail
    go_ret
    exact ⟨by rw [e.out]; rfl, (Below.refl _ W).alloc (Nat.le_refl _) _⟩
  · have g0 : ((i : Int) == 4294967295) = false := by rw [beq_eq_false_iff_ne]; omega
    have g0' : (i : Int) ≠ 4294967295 := by omega
    have w0 : IntKind.i64.wrap (i : Int) = i := by rw [IntKind.wrap_i64]; omega
    by_cases h1 : i < n2
    · have e : Hid ((res : Int) = (n4 : Int) + (i : Int)) := Lib.hid (by have := HR.out; rw [if_neg h0, if_pos h1] at this; omega)
      have g1 : decide ((i : Int) < (n2 : Int)) = true := decide_eq_true (by omega)
      have w1 : IntKind.u32.wrap (n4 : Int) = n4 := by rw [IntKind.wrap_u32]; omega
      have w2 : IntKind.u32.wrap ((n4 : Int) + (i : Int)) = (n4 : Int) + (i : Int) := by rw [IntKind.wrap_u32]; omega
      go_enter Try.func59, Try.ntmps59
      go_wp2_with fail
      go_ret
      exact ⟨by rw [e.out]; rfl, (Below.refl _ W).alloc (Nat.le_refl _) _⟩
    · have e : Hid ((res : Int) = (i : Int) - (n2 : Int)) := Lib.hid (by have := HR.out; rw [if_neg h0, if_neg h1] at this; omega)
      have g1 : decide ((i : Int) < (n2 : Int)) = false := decide_eq_false (by omega)
      have w1 : IntKind.u32.wrap (n2 : Int) = n2 := by rw [IntKind.wrap_u32]; omega
      have w2 : IntKind.u32.wrap ((i : Int) - (n2 : Int)) = (i : Int) - (n2 : Int) := by rw [IntKind.wrap_u32]; omega
      go_enter Try.func59, Try.ntmps59
      go_wp2_with fail
      go_ret
      exact ⟨by rw [e.out]; rfl, (Below.refl _ W).alloc (Nat.le_refl _) _⟩
end Go.Proofs.Ytkcnnamghpdplaa
