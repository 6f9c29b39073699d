/- Rows of numbers of 64 bits: a list of lists in memory. -/
import Derived.Test.YtkcnnamghpdplaaDoorCells
set_option linter.unusedSimpArgs false
set_option linter.unusedVariables false
namespace Go.Proofs.YtkcnnamghpdplaaDoor
open Go.RowKit

/-- a row's cells -/
def uA (l : List Int) : Array Value := (l.map (Value.int .u64)).toArray
theorem uA_size (l : List Int) : (uA l).size = l.length := by simp [uA]
theorem uA_at {l : List Int} {i : Nat} (hi : i < l.length) : (uA l)[i]? = some (.int .u64 l[i]) := by
  unfold uA
  rw [List.getElem?_toArray, List.getElem?_map, List.getElem?_eq_getElem hi]
  rfl
theorem uA_set (l : List Int) (i : Nat) (v : Int) : (uA l).setIfInBounds i (.int .u64 v) = uA (l.set i v) := by
  unfold uA
  rw [List.setIfInBounds_toArray, List.map_set]
/-- the slices of the rows: of a row that isn't made yet, nil -/
def rowV (f : Nat → Option (Nat × List Int)) (i : Nat) : Value := match f i with
  | some (R, l) => .slice (some ⟨R, 0, none⟩) l.length l.length
  | none => .slice none 0 0
def rowsA (n : Nat) (f : Nat → Option (Nat × List Int)) : Array Value := ((List.range n).map (rowV f)).toArray
theorem rowsA_at {n i : Nat} (f : Nat → Option (Nat × List Int)) (hi : i < n) : (rowsA n f)[i]? = some (rowV f i) := by
  unfold rowsA
  rw [List.getElem?_toArray, List.getElem?_map, List.getElem?_range hi]
  rfl
def updF (f : Nat → Option (Nat × List Int)) (i : Nat) (v : Option (Nat × List Int)) : Nat → Option (Nat × List Int) := fun k => if k = i then v else f k
theorem rowsA_set (n i : Nat) (f : Nat → Option (Nat × List Int)) (v : Option (Nat × List Int)) : (rowsA n f).setIfInBounds i (match v with | some (R, l) => .slice (some ⟨R, 0, none⟩) l.length l.length | none => .slice none 0 0) = rowsA n (updF f i v) := by
  apply Array.ext_getElem?
  intro k
  rw [Array.getElem?_setIfInBounds]
  have hs : (rowsA n f).size = n := by simp [rowsA]
  by_cases hk : i = k
  · subst hk
    rw [if_pos rfl]
    by_cases hn : i < n
    · rw [if_pos (by rw [hs]; exact hn), rowsA_at _ hn]
      unfold rowV updF
      rw [if_pos rfl]
    · rw [if_neg (by rw [hs]; exact hn)]
      rw [Array.getElem?_eq_none (by simp [rowsA]; omega)]
  · rw [if_neg hk]
    by_cases hn : k < n
    · rw [rowsA_at _ hn, rowsA_at _ hn]
      unfold rowV updF
      rw [if_neg (fun e => hk e.symm)]
    · rw [Array.getElem?_eq_none (by simp [rowsA]; omega), Array.getElem?_eq_none (by simp [rowsA]; omega)]
/-- rows in memory: G the list of rows, all rows in blocks from base on, each in its own -/
structure RowsAt (T1 T2 : TypeId) (w : World) (base G n : Nat) (f : Nat → Option (Nat × List Int)) : Prop where
  rows : Cells w G (rowsA n f) T1
  row : ∀ i R l, i < n → f i = some (R, l) → Cells w R (uA l) T2 ∧ base ≤ R ∧ R ≠ G
  inj : ∀ i j R l l', i < n → j < n → f i = some (R, l) → f j = some (R, l') → i = j
  lo : base ≤ G
theorem RowsAt.kept {T1 T2 : TypeId} {S : Nat → Prop} {w w' : World} {base G n : Nat} {f : Nat → Option (Nat × List Int)} (h : RowsAt T1 T2 w base G n f) (hk : Kept S w w') (hs : ∀ k, base ≤ k → k < w.heap.size → ¬ S k) : RowsAt T1 T2 w' base G n f :=
  ⟨hk.cells h.rows (hs _ h.lo h.rows.lt), fun i R l hi hf => ⟨hk.cells (h.row i R l hi hf).1 (hs _ (h.row i R l hi hf).2.1 (h.row i R l hi hf).1.lt), (h.row i R l hi hf).2⟩, h.inj, h.lo⟩
theorem RowsAt.below {T1 T2 : TypeId} {w w' : World} {base G n : Nat} {f : Nat → Option (Nat × List Int)} (h : RowsAt T1 T2 w base G n f) (hb : Below w.heap.size w w') : RowsAt T1 T2 w' base G n f :=
  ⟨h.rows.below hb, fun i R l hi hf => ⟨(h.row i R l hi hf).1.below hb, (h.row i R l hi hf).2⟩, h.inj, h.lo⟩
theorem RowsAt.mono {T1 T2 : TypeId} {w : World} {base b' G n : Nat} {f : Nat → Option (Nat × List Int)} (h : RowsAt T1 T2 w base G n f) (hb : b' ≤ base) : RowsAt T1 T2 w b' G n f :=
  ⟨h.rows, fun i R l hi hf => ⟨(h.row i R l hi hf).1, Nat.le_trans hb (h.row i R l hi hf).2.1, (h.row i R l hi hf).2.2⟩, h.inj, Nat.le_trans hb h.lo⟩
/-- a row that is made is stored -/
theorem RowsAt.put {T1 T2 : TypeId} {w : World} {base G n i R : Nat} {l : List Int} {f : Nat → Option (Nat × List Int)} (h : RowsAt T1 T2 w base G n f) (hR : Cells w R (uA l) T2) (hb : base ≤ R) (hG : R ≠ G) (hnew : ∀ j R' l', j < n → j ≠ i → f j = some (R', l') → R' ≠ R) :
    RowsAt T1 T2 (w.setCell ⟨G, i, none⟩ (.slice (some ⟨R, 0, none⟩) l.length l.length)) base G n (updF f i (some (R, l))) := by
  refine ⟨?_, fun j R' l' hj hf => ?_, fun j k R' l1 l2 hj hk h1 h2 => ?_, h.lo⟩
  · have := h.rows.set_ i (.slice (some ⟨R, 0, none⟩) l.length l.length)
    rwa [rowsA_set n i f (some (R, l))] at this
  · unfold updF at hf
    split at hf
    · cases hf
      exact ⟨hR.far _ _ hG, hb, hG⟩
    · obtain ⟨a, b, c⟩ := h.row j R' l' hj hf
      exact ⟨a.far _ _ c, b, c⟩
  · unfold updF at h1 h2
    split at h1
    · cases h1
      split at h2
      · omega
      · rename_i hki
        exact absurd rfl (hnew k R l2 hk hki h2)
    · rename_i hji
      split at h2
      · cases h2
        exact absurd rfl (hnew j R l1 hj hji h1)
      · exact h.inj j k R' l1 l2 hj hk h1 h2
/-- a number of a row is stored -/
theorem RowsAt.set_ {T1 T2 : TypeId} {w : World} {base G n i j R : Nat} {l : List Int} {f : Nat → Option (Nat × List Int)} (h : RowsAt T1 T2 w base G n f) (hi : i < n) (hf : f i = some (R, l)) (v : Int) :
    RowsAt T1 T2 (w.setCell ⟨R, j, none⟩ (.int .u64 v)) base G n (updF f i (some (R, l.set j v))) := by
  obtain ⟨hc, hb, hg⟩ := h.row i R l hi hf
  refine ⟨?_, fun k R' l' hk hf' => ?_, fun a b R' l1 l2 ha hb' h1 h2 => ?_, h.lo⟩
  · have := h.rows.far j (.int .u64 v) (Ne.symm hg)
    have e : rowsA n (updF f i (some (R, l.set j v))) = rowsA n f := by
      apply Array.ext_getElem?
      intro k
      by_cases hn : k < n
      · rw [rowsA_at _ hn, rowsA_at _ hn]
        unfold rowV updF
        by_cases hk : k = i
        · subst hk
          rw [if_pos rfl, hf]
          simp
        · rw [if_neg hk]
      · rw [Array.getElem?_eq_none (by simp [rowsA]; omega), Array.getElem?_eq_none (by simp [rowsA]; omega)]
    rw [e]
    exact this
  · unfold updF at hf'
    split at hf'
    · cases hf'
      have := hc.set_ j (.int .u64 v)
      rw [uA_set] at this
      exact ⟨this, hb, hg⟩
    · rename_i hk'
      obtain ⟨a, b, c⟩ := h.row k R' l' hk hf'
      refine ⟨a.far _ _ (fun e => hk' ?_), b, c⟩
      subst e
      exact h.inj k i R' l' l hk hi hf' hf
  · unfold updF at h1 h2
    split at h1
    · cases h1
      split at h2
      · omega
      · rename_i hb2
        exact (h.inj b i R l2 l hb' hi h2 hf ▸ by omega)
    · rename_i ha2
      split at h2
      · cases h2
        have := h.inj a i R l1 l ha hi h1 hf
        omega
      · exact h.inj a b R' l1 l2 ha hb' h1 h2
end Go.Proofs.YtkcnnamghpdplaaDoor
