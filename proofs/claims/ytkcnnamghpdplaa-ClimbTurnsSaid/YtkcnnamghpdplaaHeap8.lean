/- A new heap; the law's own example. -/
import Derived.Test.YtkcnnamghpdplaaHeap7
set_option linter.unusedSimpArgs false
set_option linter.unusedVariables false
namespace Go.Proofs.Ytkcnnamghpdplaa
open Go.RowKit

def noneH (n : Nat) : List (Option Int) := List.replicate n none
theorem made_ats (n : Nat) : madeCells #[Value.int .i64 0] n = atA (List.replicate n 0) := by
  apply Array.toList_inj.1
  rw [toList_madeCells_one]
  simp [atA]
theorem info_i64 : (Try.prog.info? 3).map (fun i => (i.zero, i.size, i.bytes)) = some (some (.int .i64 0), 1, 8) := by kernel_rfl
theorem New_ok (n : Nat) (w : World) (hn : n ≤ 65536) (B : Nat) (hB : B ≤ w.heap.size) :
    Calls Try.prog 52 #[.int .i64 n] w fun e w' => ∃ b ga, e = .returned (.tuple #[.pointer (some ⟨b, 0, none⟩), .nilIface]) ∧
      Hp w' B b ga (.slice none 0 0) (noneH n) ∧ Below w.heap.size w w' ∧ w.heap.size ≤ b ∧ w.heap.size ≤ ga := by
  have hmk : ∀ W : World, (Instr.makeSlice 75 (.int .i64 (n : Int)) (.int .i64 (n : Int))).run Try.prog W = .ok (.slice (some ⟨W.heap.size, 0, none⟩) n n) (W.alloc (.cells (atA (List.replicate n 0)) 3)) := fun W => by
    obtain ⟨i, hi, hz0, hz1, hz2⟩ := info_parts info_i64
    have h := run_make (P := Try.prog) W 75 3 i _ Try.underlying75 hi hz0 .i64 .i64 (n : Int) (n : Int) (by omega) (by omega) (by rw [hz2]; omega) (by omega)
    rw [h, hz1, Nat.mul_one, Int.toNat_natCast]
    exact congrArg (fun c => Result.ok (Value.slice (some ⟨W.heap.size, 0, none⟩) n n) (W.alloc (.cells c 3))) (made_ats n)
  have g1 : decide ((n : Int) < 0) = false := decide_eq_false (by omega)
  have g2 : decide ((65536 : Int) < (n : Int)) = false := decide_eq_false (by omega)
  have g3 : decide (65536 < n) = false := decide_eq_false (by omega)
  go_enter Try.func52, Try.ntmps52
  go_wp2_with fail
  go_ret2
  refine ⟨w.heap.size + 1, w.heap.size, rfl, ⟨[], List.replicate n 0, ⟨?_, Own.nil _ _ _ _ _, ?_, by omega, hB, by omega, (fun e => by cases e), (fun e => by cases e)⟩, good_new n, heap_nil, by simp [noneH]; exact hn⟩, ((Below.refl _ w).alloc (Nat.le_refl _) _).alloc (by simp) _, by omega, Nat.le_refl _⟩
  · have e := cells_new (w.alloc (.cells (atA (List.replicate n 0)) 3)) #[.slice none 0 0, .slice (some ⟨w.heap.size, 0, none⟩) n n] 128
    rw [size_alloc] at e
    simpa using e
  · exact (cells_new w (atA (List.replicate n 0)) 3).below ((Below.refl _ _).alloc (Nat.le_refl _) _)
theorem top_unique {m : List (Option Int)} {r r' : Option It} (h : IsTop m r) (h' : IsTop m r') : r = r' := by
  cases r with
  | none =>
    cases r' with
    | none => rfl
    | some x => have := h x.2; rw [h'.1] at this; cases this
  | some x =>
    cases r' with
    | none => have := h' x.2; rw [h.1] at this; cases this
    | some y =>
      have h1 := h.2 y.2 y.1 h'.1
      have h2 := h'.2 x.2 x.1 h.1
      obtain ⟨a, b⟩ := x
      obtain ⟨c, d⟩ := y
      unfold leI at h1 h2
      simp only [] at h1 h2
      have e1 : a = c := by omega
      have e2 : b = d := by omega
      rw [e1, e2]
theorem top_one : IsTop [some 5, some 4, some 5] (some ((4, 1) : It)) := by
  refine ⟨rfl, fun j k h => ?_⟩
  have hj := look_lt h
  have hj' : j = 0 ∨ j = 1 ∨ j = 2 := by simp at hj; omega
  unfold leI
  rcases hj' with rfl | rfl | rfl <;> (simp [lookH] at h; subst h; simp)
theorem top_two : IsTop [some 5, none, some 5] (some ((5, 0) : It)) := by
  refine ⟨rfl, fun j k h => ?_⟩
  have hj := look_lt h
  have hj' : j = 0 ∨ j = 1 ∨ j = 2 := by simp at hj; omega
  unfold leI
  rcases hj' with rfl | rfl | rfl <;> (simp [lookH] at h; try subst h; try simp)
/-- what two calls leave, one behind the other -/
theorem After.trans {w w' w'' : World} {B b ga : Nat} {v v' : Value} {m' : List (Option Int)} (hk : Kept (mine b ga v) w w') (hf : Fresh w v v') (h : After w' B b ga v' m' w'') : After w B b ga v m' w'' := by
  obtain ⟨v2, h2, hk2, hf2⟩ := h
  refine ⟨v2, h2, hk.trans2 hk2 (fun k hk' => ?_), fun k hk' => ?_⟩
  · rcases hk' with rfl | rfl | e
    · exact .inl (.inl rfl)
    · exact .inl (.inr (.inl rfl))
    · exact (hf k e).imp (fun x => .inr (.inr x)) (fun x => x)
  · rcases hf2 k hk' with e | e
    · exact hf k e
    · exact .inr (Nat.le_trans hk.size e)
end Go.Proofs.Ytkcnnamghpdplaa
