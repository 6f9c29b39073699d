/- Distances in plain words: a matrix as a function; the first matrix of a graph and of its normal graph are one. -/
import Derived.Test.YtmnnoecjedkdjaaGreatDoorWn2
set_option linter.unusedVariables false
namespace Go.Proofs.YtmnnoecjedkdjaaGreatDoor
open Txt

abbrev Mat := Nat → Nat → Nat
def updM (D : Mat) (i j v : Nat) : Mat := fun a b => if a = i ∧ b = j then v else D a b
def far : Nat := 18446744073709551615
def d0 : Mat := fun i j => if i = j then 0 else far
def addA (D : Mat) (a : ArcT) : Mat := updM D a.f.toNat a.t.toNat (min (D a.f.toNat a.t.toNat) a.w.toNat)
def initM (l : List ArcT) : Mat := l.foldl addA d0
def atA (a : ArcT) (i j : Nat) : Prop := a.f.toNat = i ∧ a.t.toNat = j
theorem addA_le (D : Mat) (a : ArcT) (i j : Nat) : addA D a i j ≤ D i j := by
  unfold addA updM
  split
  · rename_i h
    rw [← h.1, ← h.2]
    exact Nat.min_le_left _ _
  · exact Nat.le_refl _
theorem addA_at (D : Mat) (a : ArcT) {i j : Nat} (h : atA a i j) : addA D a i j = min (D i j) a.w.toNat := by
  obtain ⟨rfl, rfl⟩ := h
  unfold addA updM
  rw [if_pos ⟨rfl, rfl⟩]
theorem addA_off (D : Mat) (a : ArcT) {i j : Nat} (h : ¬ atA a i j) : addA D a i j = D i j := by
  unfold addA updM
  rw [if_neg (fun e => h ⟨e.1.symm, e.2.symm⟩)]
theorem fold_le : ∀ (l : List ArcT) (D : Mat) (i j : Nat), l.foldl addA D i j ≤ D i j
  | [], D, i, j => Nat.le_refl _
  | a :: r, D, i, j => Nat.le_trans (fold_le r (addA D a) i j) (addA_le D a i j)
theorem fold_le_at : ∀ (l : List ArcT) (D : Mat) (a : ArcT) (i j : Nat), a ∈ l → atA a i j → l.foldl addA D i j ≤ a.w.toNat
  | [], D, a, i, j, h, _ => by cases h
  | x :: r, D, a, i, j, h, hat => by
    rcases List.mem_cons.1 h with rfl | h
    · refine Nat.le_trans (fold_le r (addA D a) i j) ?_
      rw [addA_at D a hat]
      exact Nat.min_le_right _ _
    · exact fold_le_at r (addA D x) a i j h hat
theorem fold_from : ∀ (l : List ArcT) (D : Mat) (i j : Nat), l.foldl addA D i j = D i j ∨ ∃ a ∈ l, atA a i j ∧ l.foldl addA D i j = a.w.toNat
  | [], D, i, j => .inl rfl
  | x :: r, D, i, j => by
    rw [List.foldl_cons]
    rcases fold_from r (addA D x) i j with h | ⟨a, ha, hat, h⟩
    · by_cases hx : atA x i j
      · rw [h, addA_at D x hx]
        rcases Nat.le_total (D i j) x.w.toNat with hle | hle
        · exact .inl (Nat.min_eq_left hle)
        · exact .inr ⟨x, List.mem_cons_self .., hx, Nat.min_eq_right hle⟩
      · rw [h, addA_off D x hx]
        exact .inl rfl
    · exact .inr ⟨a, List.mem_cons_of_mem _ ha, hat, h⟩
theorem initM_eq {l al : List ArcT} (h : NormOf l al) (hw : ∀ a ∈ l, 0 ≤ a.f ∧ 0 ≤ a.t ∧ 0 ≤ a.w) : initM al = initM l := by
  funext i j
  unfold initM
  refine Nat.le_antisymm ?_ ?_
  · rcases fold_from l d0 i j with e | ⟨a, ha, hat, e⟩
    · rw [e]
      exact fold_le al d0 i j
    · rw [e]
      by_cases hn : a.f = a.t
      · have hij : i = j := by rw [← hat.1, ← hat.2, hn]
        refine Nat.le_trans (fold_le al d0 i j) ?_
        unfold d0
        rw [if_pos hij]
        exact Nat.zero_le _
      · obtain ⟨b, hb, b1, b2, b3⟩ := h.keeps a ha hn
        refine Nat.le_trans (fold_le_at al d0 b i j hb ⟨by rw [b1]; exact hat.1, by rw [b2]; exact hat.2⟩) ?_
        have := hw b (h.mem b hb).1
        have := hw a ha
        omega
  · rcases fold_from al d0 i j with e | ⟨a, ha, hat, e⟩
    · rw [e]
      exact fold_le l d0 i j
    · rw [e]
      exact fold_le_at l d0 a i j (h.mem a ha).1 hat
/-- one step: by the middle node -/
def relaxM (D : Mat) (k i j : Nat) : Mat := if D i k ≠ far ∧ D k j ≠ far then updM D i j (min (D i j) ((D i k + D k j) % 18446744073709551616)) else D
def rowM (k i n : Nat) (D : Mat) : Mat := (List.range n).foldl (fun D j => relaxM D k i j) D
def midM (k n m : Nat) (D : Mat) : Mat := (List.range m).foldl (fun D i => rowM k i n D) D
def fwM (n m : Nat) (D : Mat) : Mat := (List.range m).foldl (fun D k => midM k n n D) D
theorem rowM_succ (k i n : Nat) (D : Mat) : rowM k i (n + 1) D = relaxM (rowM k i n D) k i n := by simp [rowM, List.range_succ]
theorem midM_succ (k n m : Nat) (D : Mat) : midM k n (m + 1) D = rowM k m n (midM k n m D) := by simp [midM, List.range_succ]
theorem fwM_succ (n m : Nat) (D : Mat) : fwM n (m + 1) D = midM m n n (fwM n m D) := by simp [fwM, List.range_succ]
/-- all are numbers of 64 bits -/
def U64M (D : Mat) : Prop := ∀ i j, D i j ≤ far
theorem U64M.upd {D : Mat} (h : U64M D) (i j v : Nat) (hv : v ≤ far) : U64M (updM D i j v) := fun a b => by
  unfold updM
  split
  · exact hv
  · exact h a b
theorem U64M.d0 : U64M d0 := fun i j => by
  unfold Go.Proofs.YtmnnoecjedkdjaaGreatDoor.d0
  split
  · exact Nat.zero_le _
  · exact Nat.le_refl _
end Go.Proofs.YtmnnoecjedkdjaaGreatDoor
