/- What CompactFunc leaves, element by element. -/
import Derived.Test.YtmnnoecjedkdjaaGreatDoorWn4
set_option linter.unusedVariables false
namespace Go.Proofs.YtmnnoecjedkdjaaGreatDoor
open Txt

theorem compR_snoc (x : ArcT) : ∀ (r : List ArcT) (p : ArcT), compR p (r ++ [x]) = compR p r ++ (if sameFT x ((p :: r).getLast (by simp)) = true then [] else [x])
  | [], p => by
    show compR p [x] = _
    rw [compR]
    rfl
  | y :: r, p => by
    have ih := compR_snoc x r y
    rw [List.cons_append, compR, compR, ih]
    have e : (p :: y :: r).getLast (by simp) = (y :: r).getLast (by simp) := List.getLast_cons (by simp)
    rw [e]
    split <;> simp
theorem compL_snoc (x : ArcT) (l : List ArcT) (h : l ≠ []) : compL (l ++ [x]) = compL l ++ (if sameFT x (l.getLast h) = true then [] else [x]) := by
  cases l with
  | nil => exact absurd rfl h
  | cons p r =>
    show p :: compR p (r ++ [x]) = _
    rw [compR_snoc]
    rfl
theorem compL_take {l : List ArcT} {i : Nat} (h1 : 1 ≤ i) (hi : i < l.length) : compL (l.take (i + 1)) = compL (l.take i) ++ (if sameFT l[i] l[i - 1] = true then [] else [l[i]]) := by
  have hne : l.take i ≠ [] := by
    intro e
    have := congrArg List.length e
    rw [List.length_take, List.length_nil] at this
    omega
  rw [List.take_succ_eq_append_getElem hi, compL_snoc _ _ hne]
  have e : (l.take i).getLast hne = l[i - 1] := by
    rw [List.getLast_eq_getElem, List.getElem_take]
    congr 1
    rw [List.length_take]
    omega
  rw [e]
/-- the row while the second loop runs: i is looked at next, k are kept -/
structure CompI (l : List ArcT) (i k : Nat) (C : List ArcT) : Prop where
  len : C.length = l.length
  lt : k < i
  kept : C.take k = compL (l.take i)
  high : ∀ j, i - 1 ≤ j → C[j]? = l[j]?
theorem CompI.start {l : List ArcT} {k : Nat} (h1 : 1 ≤ k) (hk : k < l.length) (hall : compL (l.take k) = l.take k) (hd : sameFT l[k] l[k - 1] = true) : CompI l (k + 1) k l :=
  ⟨rfl, by omega, by rw [compL_take h1 hk, hd, hall]; simp, fun j _ => rfl⟩
theorem CompI.skip {l C : List ArcT} {i k : Nat} (h : CompI l i k C) (h1 : 1 ≤ i) (hi : i < l.length) (hd : sameFT l[i] l[i - 1] = true) : CompI l (i + 1) k C :=
  ⟨h.len, by have := h.lt; omega, by rw [compL_take h1 hi, hd, h.kept]; simp, fun j hj => h.high j (by omega)⟩
theorem CompI.keep {l C : List ArcT} {i k : Nat} (h : CompI l i k C) (h1 : 1 ≤ i) (hi : i < l.length) (hd : sameFT l[i] l[i - 1] = false) : CompI l (i + 1) (k + 1) (C.set k l[i]) := by
  have hlt := h.lt
  have hl := h.len
  refine ⟨by rw [List.length_set, hl], by omega, ?_, fun j hj => ?_⟩
  · rw [compL_take h1 hi, hd, ← h.kept, List.take_succ_eq_append_getElem (by rw [List.length_set]; omega)]
    simp [List.take_set_of_le]
  · rw [List.getElem?_set_ne (by omega)]
    exact h.high j (by omega)
theorem CompI.size {l C : List ArcT} {i k : Nat} (h : CompI l i k C) (hi : i ≤ l.length) : (compL (l.take i)).length = k := by
  rw [← h.kept, List.length_take]
  have := h.lt
  have := h.len
  omega
end Go.Proofs.YtmnnoecjedkdjaaGreatDoor
