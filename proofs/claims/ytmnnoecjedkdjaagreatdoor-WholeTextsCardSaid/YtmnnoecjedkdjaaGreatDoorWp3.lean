/- What is wrong with a graph, and with the graph whose first bad arc is mended (plain). -/
import Derived.Test.YtmnnoecjedkdjaaGreatDoorGp1
set_option linter.unusedVariables false
namespace Go.Proofs.YtmnnoecjedkdjaaGreatDoor
open Txt

def zA : ArcT := ⟨0, 0, 0⟩
theorem arcsBug_some {n : Int} : ∀ {l : List ArcT} {i : Nat} {c : Int} {q : Option (Int × Int)}, arcsBug n i l = some (c, q) → ∃ j, ∃ hj : j < l.length, q = some (4, ((i + j : Nat) : Int)) ∧ arcBug l[j] n = some c
  | [], _, _, _, h => by cases h
  | x :: r, i, c, q, h => by
    rw [arcsBug] at h
    cases hx : arcBug x n with
    | some c' =>
      rw [hx] at h
      cases h
      exact ⟨0, by simp, rfl, hx⟩
    | none =>
      rw [hx] at h
      obtain ⟨j, hj, h1, h2⟩ := arcsBug_some h
      exact ⟨j + 1, by simpa using hj, by rw [h1]; congr 3; omega, by simpa using h2⟩
theorem arcsBug_before {n : Int} : ∀ {l : List ArcT} {i : Nat} {c k a : Int}, arcsBug n i l = some (c, some (k, a)) → ∀ j (hj : j < l.length), ((i + j : Nat) : Int) < a → arcBug l[j] n = none
  | [], _, _, _, _, h, j, hj, _ => by simp at hj
  | x :: r, i, c, k, a, h, j, hj, hlt => by
    rw [arcsBug] at h
    cases hx : arcBug x n with
    | some c' =>
      rw [hx] at h
      cases h
      omega
    | none =>
      rw [hx] at h
      cases j with
      | zero => exact hx
      | succ j => exact arcsBug_before h j (by simpa using hj) (by omega)
/-- the limits are kept -/
def LimOk (n : Int) (len : Nat) : Prop := 0 ≤ n ∧ n ≤ 65536 ∧ len ≤ 262144
theorem chkT_cases (n : Int) (l : List ArcT) : (chkT ⟨n, l⟩ = none ∧ LimOk n l.length) ∨ (chkT ⟨n, l⟩ = some (9, none) ∧ ¬ LimOk n l.length) ∨
    ∃ (c : Int) (i : Nat) (hi : i < l.length), chkT ⟨n, l⟩ = some (c, some (4, (i : Int))) ∧ LimOk n l.length ∧ arcBug l[i] n = some c := by
  unfold chkT LimOk
  dsimp only
  by_cases hl : n < 0 ∨ 65536 < n ∨ 262144 < l.length
  · rw [if_pos hl]
    exact .inr (.inl ⟨rfl, by omega⟩)
  · rw [if_neg hl]
    cases h : arcsBug n 0 l with
    | none => exact .inl ⟨rfl, by omega⟩
    | some p =>
      obtain ⟨c, q⟩ := p
      obtain ⟨j, hj, h1, h2⟩ := arcsBug_some h
      subst h1
      exact .inr (.inr ⟨c, j, hj, by simp, by omega, h2⟩)
theorem arcBug_zero {n : Int} (h : 0 < n) : arcBug zA n = none := by
  rw [arcBug_none]
  unfold zA
  dsimp only
  omega
theorem arcBug_no {a : ArcT} {c : Int} (h : arcBug a 0 = some c) : c = 7 := by
  unfold arcBug at h
  rw [if_pos (by omega)] at h
  exact (Option.some.inj h).symm
/-- while arcs are mended: those up to the last one are right -/
structure Mend (n : Int) (m i : Nat) (last : Int) (l : List ArcT) : Prop where
  len : l.length = m
  lo : (i : Int) - 1 ≤ last
  hi : last < m
  ok : ∀ j (hj : j < l.length), (j : Int) ≤ last → arcBug l[j] n = none
  lim : 0 ≤ last → LimOk n m ∧ 0 < n
  first : last < 0 → chkT ⟨n, l⟩ ≠ none
theorem Mend.start {n : Int} {l : List ArcT} (h : chkT ⟨n, l⟩ ≠ none) : Mend n l.length 0 (-1) l :=
  ⟨rfl, by omega, by omega, fun j _ h => by omega, fun h => by omega, fun _ => h⟩
theorem Mend.none_ {n : Int} {len i : Nat} {last : Int} {l : List ArcT} (h : Mend n len i last l) (hc : chkT ⟨n, l⟩ = none) : 0 ≤ last := by
  rcases Int.lt_or_le last 0 with h1 | h1
  · exact absurd hc (h.first h1)
  · exact h1
theorem Mend.lim_ {n : Int} {len i : Nat} {last : Int} {l : List ArcT} (h : Mend n len i last l) (hc : ¬ LimOk n l.length) : last < 0 := by
  rcases Int.lt_or_le last 0 with h1 | h1
  · exact h1
  · rw [h.len] at hc
    exact absurd (h.lim h1).1 hc
theorem Mend.at_ {n : Int} {len i : Nat} {last : Int} {l : List ArcT} (h : Mend n len i last l) {j : Nat} (hj : j < l.length) {c : Int} (hc : arcBug l[j] n = some c) : last < j := by
  rcases Int.lt_or_le last j with h1 | h1
  · exact h1
  · rw [h.ok j hj h1] at hc
    cases hc
theorem Mend.step {n : Int} {len i : Nat} {last : Int} {l : List ArcT} (h : Mend n len i last l) {j : Nat} (hj : j < l.length) {c : Int} (hc : chkT ⟨n, l⟩ = some (c, some (4, (j : Int)))) (hb : arcBug l[j] n = some c) (hl : LimOk n l.length) (hn : n ≠ 0) : Mend n len (i + 1) j (l.set j zA) := by
  have hlt := h.at_ hj hb
  have hlo := h.lo
  have hn0 : 0 < n := by have := hl.1; omega
  refine ⟨by rw [List.length_set]; exact h.len, by omega, by have := h.len; omega, fun k hk hkj => ?_, fun _ => ⟨by rw [← h.len]; exact hl, hn0⟩, fun h => by omega⟩
  rw [List.getElem_set]
  split
  · exact arcBug_zero hn0
  · rename_i hne
    rw [List.length_set] at hk
    have hkj' : k < j := by omega
    have h2 : arcsBug n 0 l = some (c, some (4, (j : Int))) := by
      unfold chkT at hc
      dsimp only at hc
      split at hc
      · cases hc
      · exact hc
    exact arcsBug_before h2 k hk (by omega)
end Go.Proofs.YtmnnoecjedkdjaaGreatDoor
