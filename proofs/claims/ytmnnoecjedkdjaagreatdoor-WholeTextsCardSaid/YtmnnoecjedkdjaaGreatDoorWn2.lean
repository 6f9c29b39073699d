/- The order of arcs; what is left of an ordered list; what a normal graph keeps. -/
import Derived.Test.YtmnnoecjedkdjaaGreatDoorWn1
import Derived.Sort.Statements
set_option linter.unusedVariables false
namespace Go.Proofs.YtmnnoecjedkdjaaGreatDoor
open Txt

def lexA (x y : ArcT) : Prop := x.f < y.f ∨ x.f = y.f ∧ (x.t < y.t ∨ x.t = y.t ∧ x.w < y.w)
theorem orL3 (a b c : Int) : orL [a, b, c] = if a ≠ 0 then a else if b ≠ 0 then b else c := by
  by_cases ha : a = 0
  · subst ha
    by_cases hb : b = 0
    · subst hb
      by_cases hc : c = 0
      · subst hc; rfl
      · simp [orL, hc]
    · simp [orL, hb]
  · simp [orL, ha]
theorem cmpI_lt (x y : Int) : (Lib.compareInt x y < 0 ↔ x < y) ∧ (Lib.compareInt x y = 0 ↔ x = y) := by
  unfold Lib.compareInt
  by_cases h1 : x < y
  · rw [if_pos h1]; omega
  · rw [if_neg h1]
    by_cases h2 : x > y
    · rw [if_pos h2]; omega
    · rw [if_neg h2]; omega
theorem cmpA_lt (x y : ArcT) : cmpA x y < 0 ↔ lexA x y := by
  unfold cmpA lexA
  rw [orL3]
  obtain ⟨a1, a2⟩ := cmpI_lt x.f y.f
  obtain ⟨b1, b2⟩ := cmpI_lt x.t y.t
  obtain ⟨c1, c2⟩ := cmpI_lt x.w y.w
  split
  · omega
  · split
    · omega
    · omega
/-- what CompactFunc leaves -/
def sameFT (x y : ArcT) : Bool := decide (x.f = y.f ∧ x.t = y.t)
/-- the rest behind an element -/
def compR : ArcT → List ArcT → List ArcT
  | _, [] => []
  | p, x :: r => if sameFT x p = true then compR x r else x :: compR x r
def compL : List ArcT → List ArcT
  | [] => []
  | x :: r => x :: compR x r
theorem compR_mem : ∀ (l : List ArcT) (p : ArcT), ∀ a ∈ compR p l, a ∈ l
  | [], p, a, h => by cases h
  | x :: r, p, a, h => by
    rw [compR] at h
    split at h
    · exact List.mem_cons_of_mem _ (compR_mem r x a h)
    · rcases List.mem_cons.1 h with rfl | h
      · exact List.mem_cons_self ..
      · exact List.mem_cons_of_mem _ (compR_mem r x a h)
theorem compL_mem (l : List ArcT) : ∀ a ∈ compL l, a ∈ l := by
  cases l with
  | nil => exact fun a h => by cases h
  | cons x r =>
    intro a h
    rcases List.mem_cons.1 h with rfl | h
    · exact List.mem_cons_self ..
    · exact List.mem_cons_of_mem _ (compR_mem r x a h)
theorem compR_len : ∀ (l : List ArcT) (p : ArcT), (compR p l).length ≤ l.length
  | [], _ => Nat.le_refl _
  | x :: r, p => by
    have := compR_len r x
    rw [compR]
    split <;> simp only [List.length_cons] <;> omega
theorem compL_len (l : List ArcT) : (compL l).length ≤ l.length := by
  cases l with
  | nil => exact Nat.le_refl _
  | cons x r => have := compR_len r x; simp only [compL, List.length_cons]; omega
/-- each arc has one that is kept, of the same ends, no dearer -/
def NoDearer (a b : ArcT) : Prop := b.f = a.f ∧ b.t = a.t ∧ b.w ≤ a.w
theorem compR_keeps : ∀ (l : List ArcT) (p : ArcT) (hs : (p :: l).Pairwise fun x y => ¬ lexA y x), ∀ a ∈ l, NoDearer a p ∨ ∃ b ∈ compR p l, NoDearer a b
  | [], p, hs, a, h => by cases h
  | x :: r, p, hs, a, h => by
    obtain ⟨h1, h2⟩ := List.pairwise_cons.1 hs
    have hx := h1 x (List.mem_cons_self ..)
    unfold lexA at hx
    rw [compR]
    have key : ∀ b, NoDearer b x → sameFT x p = true → NoDearer b p := fun b hb hsm => by
      obtain ⟨e1, e2⟩ := of_decide_eq_true hsm
      obtain ⟨k1, k2, k3⟩ := hb
      exact ⟨by omega, by omega, by omega⟩
    rcases List.mem_cons.1 h with rfl | h
    · by_cases hsm : sameFT a p = true
      · exact .inl (key a ⟨rfl, rfl, Int.le_refl _⟩ hsm)
      · rw [if_neg hsm]
        exact .inr ⟨a, List.mem_cons_self .., rfl, rfl, Int.le_refl _⟩
    · rcases compR_keeps r x h2 a h with hk | ⟨b, hb, hk⟩
      · by_cases hsm : sameFT x p = true
        · exact .inl (key a hk hsm)
        · rw [if_neg hsm]
          exact .inr ⟨x, List.mem_cons_self .., hk⟩
      · by_cases hsm : sameFT x p = true
        · rw [if_pos hsm]; exact .inr ⟨b, hb, hk⟩
        · rw [if_neg hsm]; exact .inr ⟨b, List.mem_cons_of_mem _ hb, hk⟩
theorem compL_keeps (l : List ArcT) (hs : l.Pairwise fun x y => ¬ lexA y x) : ∀ a ∈ l, ∃ b ∈ compL l, NoDearer a b := by
  cases l with
  | nil => exact fun a h => by cases h
  | cons x r =>
    intro a h
    rcases List.mem_cons.1 h with rfl | h
    · exact ⟨a, List.mem_cons_self .., rfl, rfl, Int.le_refl _⟩
    · rcases compR_keeps r x hs a h with hk | ⟨b, hb, hk⟩
      · exact ⟨x, List.mem_cons_self .., hk⟩
      · exact ⟨b, List.mem_cons_of_mem _ hb, hk⟩
/-- a normal graph's arcs: of the graph's, no loop, none dearer -/
structure NormOf (l al : List ArcT) : Prop where
  mem : ∀ a ∈ al, a ∈ l ∧ a.f ≠ a.t
  keeps : ∀ a ∈ l, a.f ≠ a.t → ∃ b ∈ al, NoDearer a b
  len : al.length ≤ l.length
def noLoop (a : ArcT) : Bool := decide (a.f ≠ a.t)
theorem normOf (l s : List ArcT) (hp : s.Perm (l.filter noLoop)) (hs : s.Pairwise fun x y => ¬ lexA y x) : NormOf l (compL s) := by
  refine ⟨fun a ha => ?_, fun a ha hn => ?_, ?_⟩
  · have h1 := (hp.mem_iff.1 (compL_mem s a ha))
    obtain ⟨h2, h3⟩ := List.mem_filter.1 h1
    exact ⟨h2, of_decide_eq_true h3⟩
  · exact compL_keeps s hs a (hp.mem_iff.2 (List.mem_filter.2 ⟨ha, decide_eq_true hn⟩))
  · exact Nat.le_trans (compL_len s) (by rw [hp.length_eq]; exact List.length_filter_le _ _)
end Go.Proofs.YtmnnoecjedkdjaaGreatDoor
