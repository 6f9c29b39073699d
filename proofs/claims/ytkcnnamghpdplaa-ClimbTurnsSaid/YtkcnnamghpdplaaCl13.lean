/- Errors; small things about links. -/
import Derived.Test.YtkcnnamghpdplaaCl12
set_option linter.unusedSimpArgs false
set_option linter.unusedVariables false
namespace Go.Proofs.Ytkcnnamghpdplaa
open Go.RowKit

def noL : Nat := 4294967295
def plainB (l : Lk) : Bool := decide (l.l = 4294967295 ∧ l.r = 4294967295)
theorem E_any (c : Int) (W : World) : Calls Try.prog 27 #[.int .i64 c] W fun e w' => e = .returned (.agg #[.int .i64 c, .slice none 0 0]) ∧ Below W.heap.size W w' := by
  go_enter Try.func27, Try.ntmps27
  go_wp2_with fail
  go_returns
  exact ⟨rfl, (Below.refl _ W).alloc (Nat.le_refl _) _⟩
theorem Bad_any (c : Int) (A : Option Addr) (n cap : Nat) (W : World) : Calls Try.prog 26 #[.agg #[.int .i64 c, .slice A n cap]] W fun e w' => e = .returned (.bool (decide (c ≠ 0 ∨ 0 < n))) ∧ Below W.heap.size W w' := by
  by_cases hc : c = 0
  · subst hc
    have e0 : Hid (decide ((0 : Int) ≠ 0 ∨ 0 < n) = decide (0 < n)) := Lib.hid (by simp)
    by_cases hn : 0 < n
    · have g0 : decide ((0 : Int) < (n : Int)) = true := decide_eq_true (by omega)
      have e1 : Hid (decide (0 < n) = true) := Lib.hid (decide_eq_true hn)
      go_enter Try.func26, Try.ntmps26
      go_wp2_with (go_quiet (fail))
      go_ret
      exact ⟨by rw [e0.out, e1.out]; rfl, by first | exact (Below.refl _ W).alloc (Nat.le_refl _) _ | exact ((Below.refl _ W).alloc (Nat.le_refl _) _).drew⟩
    · have g0 : decide ((0 : Int) < (n : Int)) = false := decide_eq_false (by omega)
      have e1 : Hid (decide (0 < n) = false) := Lib.hid (decide_eq_false hn)
      go_enter Try.func26, Try.ntmps26
      go_wp2_with (go_quiet (fail))
      go_ret
      exact ⟨by rw [e0.out, e1.out]; rfl, by first | exact (Below.refl _ W).alloc (Nat.le_refl _) _ | exact ((Below.refl _ W).alloc (Nat.le_refl _) _).drew⟩
  · have g0 : (c == 0) = false := beq_eq_false_iff_ne.2 hc
    have e1 : Hid (decide (c ≠ 0 ∨ 0 < n) = true) := Lib.hid (decide_eq_true (.inl hc))
    go_enter Try.func26, Try.ntmps26
    go_wp2_with (go_quiet (fail))
    go_ret
    exact ⟨by rw [e1.out]; rfl, by first | exact (Below.refl _ W).alloc (Nat.le_refl _) _ | exact ((Below.refl _ W).alloc (Nat.le_refl _) _).drew⟩
theorem Plain_any (l : Lk) (W : World) (hi : InK l) : Calls Try.prog 57 #[linkV l] W fun e w' => e = .returned (.bool (plainB l)) ∧ Below W.heap.size W w' := by
  have HE : Hid (plainB l = decide (l.l = 4294967295 ∧ l.r = 4294967295)) := Lib.hid rfl
  generalize plainB l = res at *
  obtain ⟨x0, x1, x2, x3⟩ := l
  unfold linkV
  dsimp only at HE ⊢
  by_cases h2 : x2 = 4294967295
  · subst h2
    by_cases h3 : x3 = 4294967295
    · subst h3
      go_enter Try.func57, Try.ntmps57
      go_wp2_with (go_quiet (fail))
      go_ret
      exact ⟨by rw [HE.out]; rfl, by first | exact (Below.refl _ W).alloc (Nat.le_refl _) _ | exact ((Below.refl _ W).alloc (Nat.le_refl _) _).drew⟩
    · have g0 : ((x3 : Int) == 4294967295) = false := by rw [beq_eq_false_iff_ne]; omega
      have HE2 : Hid (res = false) := Lib.hid (HE.out.trans (decide_eq_false (fun h => h3 h.2)))
      go_enter Try.func57, Try.ntmps57
      go_wp2_with (go_quiet (fail))
      go_ret
      exact ⟨by rw [HE2.out]; rfl, by first | exact (Below.refl _ W).alloc (Nat.le_refl _) _ | exact ((Below.refl _ W).alloc (Nat.le_refl _) _).drew⟩
  · have g0 : ((x2 : Int) == 4294967295) = false := by rw [beq_eq_false_iff_ne]; omega
    have HE2 : Hid (res = false) := Lib.hid (HE.out.trans (decide_eq_false (fun h => h2 h.1)))
    go_enter Try.func57, Try.ntmps57
    go_wp2_with (go_quiet (fail))
    go_ret
    exact ⟨by rw [HE2.out]; rfl, by first | exact (Below.refl _ W).alloc (Nat.le_refl _) _ | exact ((Below.refl _ W).alloc (Nat.le_refl _) _).drew⟩
theorem plain_any (l : Lk) (W : World) (hi : InK l) : Calls Try.prog 61 #[linkV l] W fun e w' => e = .returned (.bool (plainB l)) ∧ Below W.heap.size W w' := by
  have HE : Hid (plainB l = decide (l.l = 4294967295 ∧ l.r = 4294967295)) := Lib.hid rfl
  generalize plainB l = res at *
  obtain ⟨x0, x1, x2, x3⟩ := l
  unfold linkV
  dsimp only at HE ⊢
  by_cases h2 : x2 = 4294967295
  · subst h2
    by_cases h3 : x3 = 4294967295
    · subst h3
      go_enter Try.func61, Try.ntmps61
      go_wp2_with (go_quiet (fail))
      go_ret
      exact ⟨by rw [HE.out]; rfl, by first | exact (Below.refl _ W).alloc (Nat.le_refl _) _ | exact ((Below.refl _ W).alloc (Nat.le_refl _) _).drew⟩
    · have g0 : ((x3 : Int) == 4294967295) = false := by rw [beq_eq_false_iff_ne]; omega
      have HE2 : Hid (res = false) := Lib.hid (HE.out.trans (decide_eq_false (fun h => h3 h.2)))
      go_enter Try.func61, Try.ntmps61
      go_wp2_with (go_quiet (fail))
      go_ret
      exact ⟨by rw [HE2.out]; rfl, by first | exact (Below.refl _ W).alloc (Nat.le_refl _) _ | exact ((Below.refl _ W).alloc (Nat.le_refl _) _).drew⟩
  · have g0 : ((x2 : Int) == 4294967295) = false := by rw [beq_eq_false_iff_ne]; omega
    have HE2 : Hid (res = false) := Lib.hid (HE.out.trans (decide_eq_false (fun h => h2 h.1)))
    go_enter Try.func61, Try.ntmps61
    go_wp2_with (go_quiet (fail))
    go_ret
    exact ⟨by rw [HE2.out]; rfl, by first | exact (Below.refl _ W).alloc (Nat.le_refl _) _ | exact ((Below.refl _ W).alloc (Nat.le_refl _) _).drew⟩
theorem At1_any (k a c : Int) (W : World) : Calls Try.prog 40 #[.int .i64 k, .int .i64 a, .agg #[.int .i64 c, .slice none 0 0]] W fun e w' => ∃ g cap, e = .returned (.agg #[.int .i64 c, .slice (some ⟨g, 0, none⟩) 1 cap]) ∧ Cells w' g #[.int .i64 k, .int .i64 a] 115 ∧ W.heap.size ≤ g ∧ Below W.heap.size W w' := by
  go_enter Try.func40, Try.ntmps40
  go_wp2_with fail
  go_returns
  refine ⟨_, _, rfl, ?_, by omega, (((Below.refl _ _).alloc (Nat.le_refl _) _).alloc (by simp) _).alloc (by simp; omega) _⟩
  have h := cells_new (((W.alloc (Obj.cells #[.int .i64 c, .slice none 0 0] 42)).alloc (Obj.cells #[.int .i64 c, .slice (some ⟨W.heap.size + 1 + 1, 0, none⟩) 1 1] 42))) #[.int .i64 k, .int .i64 a] 115
  rwa [size_alloc, size_alloc] at h
theorem FaultAt_any (k a c : Int) (W : World) :
    Calls Try.prog 49 #[.int .i64 k, .int .i64 a, .iface 63 (.int .i64 c)] W fun e w' => e = .returned (.iface 123 (.pointer (some ⟨W.heap.size, 0, none⟩))) ∧ Cells w' W.heap.size #[.int .i64 k, .int .i64 a, .iface 63 (.int .i64 c)] 125 ∧ Below W.heap.size W w' := by
  go_enter Try.func49, Try.ntmps49
  go_wp2_with fail
  go_ret
  exact ⟨rfl, cells_new W _ _, (Below.refl _ _).alloc (Nat.le_refl _) _⟩
end Go.Proofs.Ytkcnnamghpdplaa
