/- strings.Cut at '#', strings.Split at line feeds, in plain words. -/
import Derived.Test.YtmnnoecjedkdjaaGreatDoorGt1
import Derived.Lib.SplitLaws
import Derived.Lib.IndexMore
set_option linter.unusedVariables false
namespace Go.Proofs.YtmnnoecjedkdjaaGreatDoor.Txt
open Go.Lib

theorem index_cons_ne (b c : UInt8) (l : Bs) (h : b ≠ c) : index (b :: l) [c] = if index l [c] == -1 then -1 else index l [c] + 1 := by
  have hp : ([c] : List UInt8).isPrefixOf (b :: l) = false := by simp [List.isPrefixOf, Ne.symm h]
  rw [index, hp]; simp
theorem index_cons_eq (c : UInt8) (l : Bs) : index (c :: l) [c] = 0 := by
  rw [index]; simp [List.isPrefixOf]
theorem index_take (c : UInt8) : ∀ l : Bs, (index l [c] = -1 ∧ l.takeWhile (· != c) = l) ∨ ∃ j : Nat, index l [c] = (j : Int) ∧ l.takeWhile (· != c) = l.take j
  | [] => .inl ⟨by simp [index], rfl⟩
  | b :: l => by
    by_cases h : b = c
    · subst h
      exact .inr ⟨0, index_cons_eq b l, by simp⟩
    · have hbc : (b != c) = true := by simpa using h
      rw [index_cons_ne b c l h, List.takeWhile_cons_of_pos (p := fun x => x != c) hbc]
      rcases index_take c l with ⟨h1, h2⟩ | ⟨j, h1, h2⟩
      · rw [h1, if_pos (show ((-1 : Int) == -1) = true from rfl), h2]
        exact .inl ⟨rfl, rfl⟩
      · rw [h1, if_neg (show ¬ ((j : Int) == -1) = true by simp), h2]
        exact .inr ⟨j + 1, by omega, rfl⟩
theorem cut_hash (l : Bs) : (Lib.cut l [35]).1 = cutHash l := by
  unfold Lib.cut cutHash
  rcases index_take 35 l with ⟨h1, h2⟩ | ⟨j, h1, h2⟩
  · rw [h1, if_neg (by omega), h2]
  · rw [h1, if_pos (by omega), h2]
    simp
theorem split_lines : ∀ l : Bs, splitK [10] 0 (count l [10]) l = linesL l
  | [] => by rw [count_miss (by simp [index])]; rfl
  | b :: l => by
    have ih := split_lines l
    by_cases h : b = 10
    · subst h
      rw [count_cons_eq, Nat.add_comm, splitK, index_cons_eq, if_neg (by decide)]
      rw [linesL, if_pos rfl, ← ih]
      rfl
    · rw [count_cons_ne b 10 l h, linesL, if_neg h, ← ih]
      cases hk : count l [10] with
      | zero => rfl
      | succ k =>
        rw [splitK, splitK, index_cons_ne b 10 l h]
        rcases index_take 10 l with ⟨h1, h2⟩ | ⟨j, h1, h2⟩
        · rw [count_miss h1] at hk
          cases hk
        · rw [h1, if_neg (show ¬ ((j : Int) == -1) = true by simp), if_neg (show ¬ (((j : Int) + 1) == -1) = true by simp; omega)]
          have e : ((j : Int) + 1).toNat = j + 1 := by omega
          rw [e, Int.toNat_natCast]
          rfl
/-- **strings.Split at line feeds gives the lines** -/
theorem split_text (s : ByteArray) : (splitB ⟨#[10]⟩ 0 (countB s ⟨#[10]⟩) s).map (fun x => x.data.toList) = linesL s.data.toList := by
  rw [splitB_data]
  exact split_lines s.data.toList
theorem lines_len : ∀ l : Bs, (linesL l).length ≤ l.length + 1
  | [] => by simp [linesL]
  | b :: l => by
    have ih := lines_len l
    rw [linesL]
    split
    · simp; omega
    · cases e : linesL l with
      | nil => simp [consLine]
      | cons x xs =>
        rw [e] at ih
        simp [consLine] at ih ⊢
        omega
theorem lines_sum : ∀ l : Bs, ∀ x ∈ linesL l, x.length ≤ l.length
  | [], x, hx => by simp [linesL] at hx; subst hx; simp
  | b :: l, x, hx => by
    have ih := lines_sum l
    rw [linesL] at hx
    split at hx
    · rcases List.mem_cons.1 hx with rfl | h
      · simp
      · have := ih x h; simp; omega
    · cases e : linesL l with
      | nil =>
        rw [e] at hx
        simp [consLine] at hx
        subst hx
        simp
      | cons y ys =>
        rw [e] at hx
        unfold consLine at hx
        rcases List.mem_cons.1 hx with rfl | h
        · have := ih y (by rw [e]; simp); simp; omega
        · have := ih x (by rw [e]; simp [h]); simp; omega
/-- how long the words are together -/
theorem wordsGo_len : ∀ (l w : Bs), (wordsGo w l).length ≤ l.length + 1 ∧ ∀ x ∈ wordsGo w l, x.length ≤ w.length + l.length
  | [], w => by
    by_cases hw : w = []
    · subst hw; simp [wordsGo]
    · simp [wordsGo, hw]
  | b :: r, w => by
    rw [wordsGo]
    split
    · obtain ⟨h1, h2⟩ := wordsGo_len r []
      split
      · exact ⟨by simp; omega, fun x hx => by have := h2 x hx; simp at this ⊢; omega⟩
      · refine ⟨by simp; omega, fun x hx => ?_⟩
        rcases List.mem_cons.1 hx with rfl | h
        · simp
        · have := h2 x h; simp at this ⊢; omega
    · obtain ⟨h1, h2⟩ := wordsGo_len r (w ++ [b])
      exact ⟨by simp; omega, fun x hx => by have := h2 x hx; simp at this ⊢; omega⟩
theorem cutHash_len (l : Bs) : (cutHash l).length ≤ l.length := (List.takeWhile_sublist _).length_le
end Go.Proofs.YtmnnoecjedkdjaaGreatDoor.Txt
