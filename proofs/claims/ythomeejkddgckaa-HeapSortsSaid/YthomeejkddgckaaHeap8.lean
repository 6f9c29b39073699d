/- A new heap; the law's own example. -/
import Derived.Test.YthomeejkddgckaaHeap7
set_option linter.unusedSimpArgs false
set_option linter.unusedVariables false
namespace Go.Proofs.Ythomeejkddgckaa
open Go.RowKit

def noneH (n : Nat) : List (Option Int) := List.replicate n none
theorem made_ats (n : Nat) : madeCells #[Value.int .i64 0] n = atA (List.replicate n 0) := by
  apply Array.toList_inj.1
  rw [toList_madeCells_one]
  simp [atA]
theorem info_i64 : (Try.prog.info? 3).map (fun i => (i.zero, i.size, i.bytes)) = some (some (.int .i64 0), 1, 8) := by kernel_rfl
theorem New_ok (n : Nat) (w : World) (hn : n ≤ 65536) (B : Nat) (hB : B ≤ w.heap.size) :
    Calls Try.prog 5 #[.int .i64 n] w fun e w' => ∃ b ga, e = .returned (.tuple #[.pointer (some ⟨b, 0, none⟩), .nilIface]) ∧
      Hp w' B b ga (.slice none 0 0) (noneH n) ∧ Below w.heap.size w w' ∧ w.heap.size ≤ b ∧ w.heap.size ≤ ga := by
  have hmk : ∀ W : World, (Instr.makeSlice 39 (.int .i64 (n : Int)) (.int .i64 (n : Int))).run Try.prog W = .ok (.slice (some ⟨W.heap.size, 0, none⟩) n n) (W.alloc (.cells (atA (List.replicate n 0)) 3)) := fun W => by
    obtain ⟨i, hi, hz0, hz1, hz2⟩ := info_parts info_i64
    have h := run_make (P := Try.prog) W 39 3 i _ Try.underlying39 hi hz0 .i64 .i64 (n : Int) (n : Int) (by omega) (by omega) (by rw [hz2]; omega) (by omega)
    rw [h, hz1, Nat.mul_one, Int.toNat_natCast]
    exact congrArg (fun c => Result.ok (Value.slice (some ⟨W.heap.size, 0, none⟩) n n) (W.alloc (.cells c 3))) (made_ats n)
  have g1 : decide ((n : Int) < 0) = false := decide_eq_false (by omega)
  have g2 : decide ((65536 : Int) < (n : Int)) = false := decide_eq_false (by omega)
  have g3 : decide (65536 < n) = false := decide_eq_false (by omega)
  go_enter Try.func5, Try.ntmps5
  go_wp2_with fail
  go_ret2
  refine ⟨w.heap.size + 1, w.heap.size, rfl, ⟨[], List.replicate n 0, ⟨?_, Own.nil _ _ _ _ _, ?_, by omega, hB, by omega, (fun e => by cases e), (fun e => by cases e)⟩, good_new n, heap_nil, by simp [noneH]; exact hn⟩, ((Below.refl _ w).alloc (Nat.le_refl _) _).alloc (by simp) _, by omega, Nat.le_refl _⟩
  · have e := cells_new (w.alloc (.cells (atA (List.replicate n 0)) 3)) #[.slice none 0 0, .slice (some ⟨w.heap.size, 0, none⟩) n n] 42
    rw [size_alloc] at e
    simpa using e
  · exact (cells_new w (atA (List.replicate n 0)) 3).below ((Below.refl _ _).alloc (Nat.le_refl _) _)
theorem top_unique {m : List (Option Int)} {r r' : Option It} (h : IsTop m r) (h' : IsTop m r') : r = r' := by
  cases r with
  | none =>
    cases r' with
    | none => rfl
    | some x => have := h x.2; rw [h'.1] at this; cases this
  | some x =>
    cases r' with
    | none => have := h' x.2; rw [h.1] at this; cases this
    | some y =>
      have h1 := h.2 y.2 y.1 h'.1
      have h2 := h'.2 x.2 x.1 h.1
      obtain ⟨a, b⟩ := x
      obtain ⟨c, d⟩ := y
      unfold leI at h1 h2
      simp only [] at h1 h2
      have e1 : a = c := by omega
      have e2 : b = d := by omega
      rw [e1, e2]
theorem top_one : IsTop [some 5, some 4, some 5] (some ((4, 1) : It)) := by
  refine ⟨rfl, fun j k h => ?_⟩
  have hj := look_lt h
  have hj' : j = 0 ∨ j = 1 ∨ j = 2 := by simp at hj; omega
  unfold leI
  rcases hj' with rfl | rfl | rfl <;> (simp [lookH] at h; subst h; simp)
theorem top_two : IsTop [some 5, none, some 5] (some ((5, 0) : It)) := by
  refine ⟨rfl, fun j k h => ?_⟩
  have hj := look_lt h
  have hj' : j = 0 ∨ j = 1 ∨ j = 2 := by simp at hj; omega
  unfold leI
  rcases hj' with rfl | rfl | rfl <;> (simp [lookH] at h; try subst h; try simp)
/-- what two calls leave, one behind the other -/
theorem After.trans {w w' w'' : World} {B b ga : Nat} {v v' : Value} {m' : List (Option Int)} (hk : Kept (mine b ga v) w w') (hf : Fresh w v v') (h : After w' B b ga v' m' w'') : After w B b ga v m' w'' := by
  obtain ⟨v2, h2, hk2, hf2⟩ := h
  refine ⟨v2, h2, hk.trans2 hk2 (fun k hk' => ?_), fun k hk' => ?_⟩
  · rcases hk' with rfl | rfl | e
    · exact .inl (.inl rfl)
    · exact .inl (.inr (.inl rfl))
    · exact (hf k e).imp (fun x => .inr (.inr x)) (fun x => x)
  · rcases hf2 k hk' with e | e
    · exact hf k e
    · exact .inr (Nat.le_trans hk.size e)
theorem awake_any (w : World) : Calls Try.prog 4 #[] w (BoolBelow true w) := by
  go_enter Try.func4, Try.ntmps4
  go_wp2_with fail
  refine (New_ok 3 w (by omega) w.heap.size (Nat.le_refl _)).mono ?_
  rintro e w1 ⟨b, ga, rfl, h1, hb1, hbb, hgg⟩
  have H1 := Lib.hid h1
  have B1 := Lib.hid hb1
  have LB : Hid (w.heap.size ≤ b ∧ w.heap.size ≤ ga) := Lib.hid ⟨hbb, hgg⟩
  clear h1 hb1 hbb hgg
  have A0 : Hid (After w1 w.heap.size b ga (.slice none 0 0) (noneH 3) w1) := Lib.hid ⟨_, H1.out, Kept.refl _ _, Fresh.refl _ _⟩
  clear H1
  go_wp2_with fail
  obtain ⟨v0, h0, k0, f0⟩ := A0.out
  refine (Push_any h0 2 (by omega) 5 (Nat.le_trans B1.out.size k0.size)).mono ?_
  rintro e x1 ⟨rfl, ha⟩
  rw [show errH7 (cId (noneH 3).length 2) = Value.nilIface from rfl]
  have A1 : Hid (After w1 w.heap.size b ga (.slice none 0 0) [none, none, some 5] x1) := Lib.hid (After.trans k0 f0 ha)
  clear h0 k0 f0 ha A0
  go_wp2_with fail
  obtain ⟨v1, h1, k1, f1⟩ := A1.out
  refine (Push_any h1 0 (by omega) 5 (Nat.le_trans B1.out.size k1.size)).mono ?_
  rintro e x2 ⟨rfl, ha⟩
  rw [show errH7 (cId ([none, none, some 5] : List (Option Int)).length 0) = Value.nilIface from rfl]
  have A2 : Hid (After w1 w.heap.size b ga (.slice none 0 0) [some 5, none, some 5] x2) := Lib.hid (After.trans k1 f1 ha)
  clear h1 k1 f1 ha A1
  go_wp2_with fail
  obtain ⟨v2, h2, k2, f2⟩ := A2.out
  refine (Push_any h2 1 (by omega) 9 (Nat.le_trans B1.out.size k2.size)).mono ?_
  rintro e x3 ⟨rfl, ha⟩
  rw [show errH7 (cId ([some 5, none, some 5] : List (Option Int)).length 1) = Value.nilIface from rfl]
  have A3 : Hid (After w1 w.heap.size b ga (.slice none 0 0) [some 5, some 9, some 5] x3) := Lib.hid (After.trans k2 f2 ha)
  clear h2 k2 f2 ha A2
  go_wp2_with fail
  obtain ⟨v3, h3, k3, f3⟩ := A3.out
  refine (Push_any h3 1 (by omega) 4 (Nat.le_trans B1.out.size k3.size)).mono ?_
  rintro e x4 ⟨rfl, ha⟩
  rw [show errH7 (cId ([some 5, some 9, some 5] : List (Option Int)).length 1) = Value.nilIface from rfl]
  have A4 : Hid (After w1 w.heap.size b ga (.slice none 0 0) [some 5, some 4, some 5] x4) := Lib.hid (After.trans k3 f3 ha)
  clear h3 k3 f3 ha A3
  go_wp2_with fail
  obtain ⟨v4, h4, k4, f4⟩ := A4.out
  refine (Pop_any h4).mono ?_
  rintro e x5 ⟨r, ⟨rfl, ht⟩, ha⟩
  obtain rfl := top_unique ht top_one
  have A5 : Hid (After w1 w.heap.size b ga (.slice none 0 0) [some 5, none, some 5] x5) := Lib.hid (After.trans k4 f4 ha)
  clear h4 k4 f4 ha A4 ht
  simp only [topV]
  go_wp2_with fail
  obtain ⟨v5, h5, k5, f5⟩ := A5.out
  refine (Pop_any h5).mono ?_
  rintro e x6 ⟨r, ⟨rfl, ht⟩, ha⟩
  obtain rfl := top_unique ht top_two
  have A6 : Hid (After w1 w.heap.size b ga (.slice none 0 0) [none, none, some 5] x6) := Lib.hid (After.trans k5 f5 ha)
  clear h5 k5 f5 ha A5 ht
  simp only [topV]
  go_wp2_with fail
  obtain ⟨v6, h6, k6, f6⟩ := A6.out
  refine (Len_any h6).mono ?_
  rintro e x7 ⟨rfl, h⟩
  obtain rfl := h.symm
  clear h
  have HB : Hid (Below w.heap.size w x6) := Lib.hid (k6.below B1.out (fun k hk => by
    rcases hk with rfl | rfl | e
    · exact LB.out.1
    · exact LB.out.2
    · cases e) B1.out.size)
  clear h6 k6 f6 A6
  rw [show (([none, none, some 5] : List (Option Int)).countP Option.isSome : Nat) = 1 from rfl]
  go_wp2_with fail
  go_ret
  exact ⟨rfl, HB.out⟩
end Go.Proofs.Ythomeejkddgckaa
