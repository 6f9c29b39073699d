/- A script as a list of calls; what a list of calls leaves at a place; two stamps that hold the same. -/
import Derived.Test.YteejmocdagdeeaaDoorWalk6
import Derived.Deep.RegionHeld3
set_option linter.unusedSimpArgs false
set_option linter.unusedVariables false
namespace Go.Proofs.YteejmocdagdeeaaDoor
open Go.RowKit

structure OpT where
  kind : Int
  i : Int
  v : Int
abbrev encO (o : OpT) : List Value := [.int .u8 o.kind, .int .i64 o.i, .int .u64 o.v]
theorem encO_len : ∀ o, (encO o).length = 3 := fun _ => rfl
def OkOp (o : OpT) : Prop := (Lit.int .u8 o.kind).wf = true ∧ (Lit.int .i64 o.i).wf = true ∧ (Lit.int .u64 o.v).wf = true
theorem OkOp.i64 {o : OpT} (h : OkOp o) : -9223372036854775808 ≤ o.i ∧ o.i ≤ 9223372036854775807 := by
  simpa [Lit.wf, IntKind.min, IntKind.max, IntKind.signed, IntKind.bits] using h.2.1
/-- a script that came in -/
def IsOps (w : World) (a : Option Addr) (len cap : Nat) (l : List OpT) : Prop := Rd 3 encO w a len l ∧ (∀ o ∈ l, OkOp o) ∧ len ≤ cap ∧ cap ≤ maxLen

/-- what is set last at i by a piece of a script -/
def step (n : Nat) (i : Int) (acc : Option Int) (o : OpT) : Option Int := if o.kind = 1 ∧ o.i = i ∧ 0 ≤ i ∧ i < n then some o.v else acc
def hits (n : Nat) (i : Int) (s : List OpT) : Option Int := s.foldl (step n i) none
def stepM (m : List (Option Int)) (o : OpT) : List (Option Int) := if o.kind = 1 then put m o.i o.v else m
def sets (n : Nat) (s : List OpT) : List (Option Int) := s.foldl stepM (empty n)
theorem stepM_len (m : List (Option Int)) (o : OpT) : (stepM m o).length = m.length := by unfold stepM; split <;> simp [put_len]
theorem look_put (m : List (Option Int)) (k i v : Int) : look (put m k v) i = if k = i ∧ 0 ≤ i ∧ i < m.length then some v else look m i := by
  unfold look put
  by_cases hi : 0 ≤ i
  · by_cases hk : 0 ≤ k
    · rw [if_pos hk, if_pos hi, if_pos hi, List.getD_eq_getElem?_getD, List.getD_eq_getElem?_getD, List.getElem?_set]
      by_cases e : k = i
      · subst e
        by_cases hl : k.toNat < m.length
        · rw [if_pos rfl, if_pos hl, if_pos (by omega)]; rfl
        · rw [if_pos rfl, if_neg hl, if_neg (by omega), List.getElem?_eq_none (by omega)]
      · rw [if_neg (by omega), if_neg (by omega)]
    · rw [if_neg hk, if_pos hi, if_neg (by omega)]
  · rw [if_neg hi, if_neg hi, if_neg (by omega)]
theorem sets_fold (n : Nat) (i : Int) : ∀ (s : List OpT) (m : List (Option Int)), m.length = n → look (s.foldl stepM m) i = s.foldl (step n i) (look m i) ∧ (s.foldl stepM m).length = n
  | [], m, h => ⟨rfl, h⟩
  | o :: s, m, h => by
    simp only [List.foldl_cons]
    have hl : (stepM m o).length = n := by rw [stepM_len, h]
    have e : look (stepM m o) i = step n i (look m i) o := by
      unfold stepM step
      by_cases hk : o.kind = 1
      · rw [if_pos hk, look_put, h]
        by_cases hc : o.i = i ∧ 0 ≤ i ∧ i < n
        · rw [if_pos hc, if_pos ⟨hk, hc⟩]
        · rw [if_neg hc, if_neg (fun hh => hc hh.2)]
      · rw [if_neg hk, if_neg (fun hh => hk hh.1)]
    rw [← e]
    exact sets_fold n i s _ hl
theorem look_sets (n : Nat) (i : Int) (s : List OpT) : look (sets n s) i = hits n i s := by
  unfold sets hits
  rw [(sets_fold n i s (empty n) List.length_replicate).1, look_empty]
theorem sets_len (n : Nat) (s : List OpT) : (sets n s).length = n := (sets_fold n 0 s (empty n) List.length_replicate).2
theorem sets_snoc (n : Nat) (s : List OpT) (o : OpT) : sets n (s ++ [o]) = stepM (sets n s) o := by unfold sets; rw [List.foldl_append]; rfl
theorem hits_snoc (n : Nat) (i : Int) (s : List OpT) (o : OpT) : hits n i (s ++ [o]) = step n i (hits n i s) o := by unfold hits; rw [List.foldl_append]; rfl
theorem hits_out (n : Nat) (i : Int) (s : List OpT) (h : ¬ (0 ≤ i ∧ i < n)) : hits n i s = none := by
  unfold hits
  have : ∀ (s : List OpT), s.foldl (step n i) none = none := by
    intro s
    induction s with
    | nil => rfl
    | cons o s ih => rw [List.foldl_cons, show step n i none o = none by unfold step; rw [if_neg (fun hh => h hh.2.2)]]; exact ih
  exact this s
theorem take_seg {l : List OpT} {q j : Nat} (hq : q ≤ j) (hj : j < l.length) : (l.take (j + 1)).drop q = (l.take j).drop q ++ [l[j]] := by
  rw [List.take_succ_eq_append_getElem hj, List.drop_append_of_le_length (by rw [List.length_take]; omega)]

theorem Touch.cells {b g k : Nat} {w w' : World} (h : Touch b g w w') (h1 : k ≠ b) (h2 : k ≠ g) {cs : Array Value} {t : TypeId} (hc : Cells w k cs t) : Cells w' k cs t := (h.block k h1 h2).trans hc
/-- Two stamps which hold the same. -/
structure Pair (w0 w : World) (b g b' g' : Nat) (m : List (Option Int)) : Prop where
  s1 : St w b g m
  s2 : St w b' g' m
  bel : Below w0.heap.size w0 w
structure Apart2 (w0 : World) (b g b' g' : Nat) : Prop where
  lb : w0.heap.size ≤ b
  lg : w0.heap.size ≤ g
  lb' : w0.heap.size ≤ b'
  lg' : w0.heap.size ≤ g'
  bb : b ≠ b'
  bg : b ≠ g'
  gb : g ≠ b'
  gg : g ≠ g'
theorem Pair.below {w0 w w' : World} {b g b' g' : Nat} {m : List (Option Int)} (h : Pair w0 w b g b' g' m) (hb : Below w.heap.size w w') : Pair w0 w' b g b' g' m :=
  ⟨h.s1.below hb, h.s2.below hb, h.bel.trans (hb.mono h.bel.size)⟩

/-- A struct of three cells in a row, its cells spelt as the walk spells them. -/
theorem three_cells {w : World} {ad : Addr} {j : Nat} {o : OpT} (h : ∀ i u, (encO o)[i]? = some u → w.cell? (ad.add (j * 3 + i)) = some u) :
    w.cell? (ad.add (j * 3)) = some (.int .u8 o.kind) ∧ w.cell? ⟨(ad.add (j * 3)).block, (ad.add (j * 3)).off + 1, none⟩ = some (.int .i64 o.i) ∧ w.cell? ⟨(ad.add (j * 3)).block, (ad.add (j * 3)).off + 2, none⟩ = some (.int .u64 o.v) := by
  have h0 := h 0 _ rfl
  have h1 := h 1 _ rfl
  have h2 := h 2 _ rfl
  rw [← add_of_add] at h1 h2
  rw [Nat.add_zero] at h0
  exact ⟨h0, h1, h2⟩
end Go.Proofs.YteejmocdagdeeaaDoor
