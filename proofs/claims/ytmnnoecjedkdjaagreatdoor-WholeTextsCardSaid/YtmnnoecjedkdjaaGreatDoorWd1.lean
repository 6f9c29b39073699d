/- The document's distances: the matrix in memory. -/
import Derived.Test.YtmnnoecjedkdjaaGreatDoorWm1
import Derived.Test.YtmnnoecjedkdjaaGreatDoorGt15
import Derived.Test.YtmnnoecjedkdjaaGreatDoorMat
import Derived.BigRegion
import Derived.RegionTactic
import Derived.BigQuiet
import Derived.StillTailTactics
set_option linter.unusedSimpArgs false
set_option linter.unusedVariables false
namespace Go.Proofs.YtmnnoecjedkdjaaGreatDoor
open Go.RowKit Txt

/-- a row of a matrix -/
def rowD (n : Nat) (D : Mat) (i : Nat) : List Int := (List.range n).map fun j => ((D i j : Nat) : Int)
theorem rowD_len (n : Nat) (D : Mat) (i : Nat) : (rowD n D i).length = n := by simp [rowD]
theorem rowD_at {n : Nat} (D : Mat) (i : Nat) {j : Nat} (hj : j < n) : (rowD n D i)[j]'(by rw [rowD_len]; exact hj) = ((D i j : Nat) : Int) := by simp [rowD]
theorem rowD_upd {n : Nat} (D : Mat) (i j v : Nat) : rowD n (updM D i j v) i = (rowD n D i).set j (v : Int) := by
  apply List.ext_getElem
  · simp [rowD_len]
  · intro k h1 h2
    rw [List.getElem_set, rowD_at _ _ (by rwa [rowD_len] at h1), rowD_at _ _ (by rwa [rowD_len] at h1)]
    unfold updM
    by_cases hk : j = k
    · subst hk; simp
    · rw [if_neg hk, if_neg (fun h => hk h.2.symm)]
theorem rowD_other {n : Nat} (D : Mat) (i j v : Nat) {k : Nat} (hk : k ≠ i) : rowD n (updM D i j v) k = rowD n D k := by
  unfold rowD updM
  congr 1
  funext c
  rw [if_neg (fun h => hk h.1)]
def MatF (n : Nat) (f : Nat → Option (Nat × List Int)) (D : Mat) : Prop := ∀ i, i < n → ∃ R, f i = some (R, rowD n D i)
theorem MatF.set_ {n : Nat} {f : Nat → Option (Nat × List Int)} {D : Mat} (h : MatF n f D) {i R : Nat} {l : List Int} (hf : f i = some (R, l)) (hi : i < n) (j v : Nat) : MatF n (updF f i (some (R, l.set j (v : Int)))) (updM D i j v) := by
  intro k hk
  obtain ⟨R', hR'⟩ := h k hk
  by_cases hki : k = i
  · subst hki
    rw [hR'] at hf
    cases hf
    exact ⟨_, by unfold updF; rw [if_pos rfl, rowD_upd]⟩
  · refine ⟨R', ?_⟩
    unfold updF
    rw [if_neg hki, hR', rowD_other _ _ _ _ hki]
/-- the rows while they are made -/
structure MatTo (n r : Nat) (f : Nat → Option (Nat × List Int)) : Prop where
  made : ∀ i, i < r → ∃ R, f i = some (R, rowD n d0 i)
  none_ : ∀ i, r ≤ i → i < n → f i = none
def rowI (n r j : Nat) : List Int := (List.range n).map fun c => if c < j then ((d0 r c : Nat) : Int) else 0
theorem rowI_len (n r j : Nat) : (rowI n r j).length = n := by simp [rowI]
theorem rowI_zero (n r : Nat) : rowI n r 0 = List.replicate n 0 := by
  unfold rowI
  apply List.ext_getElem
  · simp
  · intro k h1 h2
    simp
theorem rowI_all (n r : Nat) : rowI n r n = rowD n d0 r := by
  unfold rowI rowD
  apply List.map_congr_left
  intro c hc
  rw [if_pos (List.mem_range.1 hc)]
theorem rowI_at {n r j k : Nat} (hk : k < n) : (rowI n r j)[k]'(by rw [rowI_len]; exact hk) = if k < j then ((d0 r k : Nat) : Int) else 0 := by simp [rowI]
theorem rowI_far {n r j : Nat} (hj : j < n) (hr : r ≠ j) : (rowI n r j).set j 18446744073709551615 = rowI n r (j + 1) := by
  apply List.ext_getElem
  · simp [rowI_len]
  · intro k h1 h2
    rw [rowI_len] at h2
    rw [List.getElem_set, rowI_at h2, rowI_at h2]
    by_cases hk : j = k
    · subst hk
      rw [if_pos rfl, if_pos (by omega)]
      unfold d0
      rw [if_neg hr]
      rfl
    · rw [if_neg hk]
      by_cases h : k < j
      · rw [if_pos h, if_pos (by omega)]
      · rw [if_neg h, if_neg (by omega)]
theorem rowI_same {n r : Nat} (hj : r < n) : rowI n r r = rowI n r (r + 1) := by
  apply List.ext_getElem
  · simp [rowI_len]
  · intro k h1 h2
    rw [rowI_len] at h2
    rw [rowI_at h2, rowI_at h2]
    by_cases hk : r = k
    · subst hk
      rw [if_neg (by omega), if_pos (by omega)]
      unfold d0
      rw [if_pos rfl]
      rfl
    · by_cases h : k < r
      · rw [if_pos h, if_pos (by omega)]
      · rw [if_neg h, if_neg (by omega)]
theorem MatTo.start (n : Nat) : MatTo n 0 (fun _ => none) := ⟨fun i h => by omega, fun i _ _ => rfl⟩
theorem MatTo.end_ {n : Nat} {f : Nat → Option (Nat × List Int)} (h : MatTo n n f) : MatF n f d0 := h.made
theorem MatTo.step {n r R : Nat} {f : Nat → Option (Nat × List Int)} {l : List Int} (h : MatTo n r f) (hl : l = rowD n d0 r) : MatTo n (r + 1) (updF f r (some (R, l))) := by
  refine ⟨fun i hi => ?_, fun i h1 h2 => ?_⟩
  · unfold updF
    by_cases hir : i = r
    · exact ⟨R, by rw [if_pos hir, hl, hir]⟩
    · rw [if_neg hir]
      exact h.made i (by omega)
  · unfold updF
    rw [if_neg (by omega)]
    exact h.none_ i (by omega) h2
theorem updF_twice (f : Nat → Option (Nat × List Int)) (i : Nat) (a b : Option (Nat × List Int)) : updF (updF f i a) i b = updF f i b := by
  funext k
  unfold updF
  split <;> rfl
theorem info_u64r : (Tryz.prog.info? 94).map (fun i => (i.zero, i.size, i.bytes)) = some (some (.int .u64 0), 1, 8) := by kernel_rfl
theorem info_u64s : (Tryz.prog.info? 93).map (fun i => (i.zero, i.size, i.bytes)) = some (some (.slice none 0 0), 1, 24) := by kernel_rfl
theorem made_row (n : Nat) : madeCells #[Value.int .u64 0] n = uA (List.replicate n 0) := by
  apply Array.toList_inj.1
  rw [toList_madeCells_one]
  simp [uA]
theorem made_rows (n : Nat) : madeCells #[Value.slice none 0 0] n = rowsA n (fun _ => none) := by
  apply Array.toList_inj.1
  rw [toList_madeCells_one]
  unfold rowsA
  apply List.ext_getElem
  · simp
  · intro k h1 h2
    simp [rowV]
theorem make_row (n : Nat) (hn : n ≤ 65536) (W : World) : (Instr.makeSlice 93 (.int .i64 (n : Int)) (.int .i64 (n : Int))).run Tryz.prog W = .ok (.slice (some ⟨W.heap.size, 0, none⟩) n n) (W.alloc (.cells (uA (List.replicate n 0)) 94)) := by
  obtain ⟨i, hi, hz0, hz1, hz2⟩ := info_parts info_u64r
  have h := run_make (P := Tryz.prog) W 93 94 i _ Tryz.underlying93 hi hz0 .i64 .i64 (n : Int) (n : Int) (by omega) (by omega) (by rw [hz2]; omega) (by omega)
  rw [h, hz1, Int.toNat_natCast, Nat.mul_one]
  exact congrArg (fun c => Result.ok (Value.slice (some ⟨W.heap.size, 0, none⟩) n n) (W.alloc (.cells c 94))) (made_row n)
theorem make_rows (n : Nat) (hn : n ≤ 65536) (W : World) : (Instr.makeSlice 47 (.int .i64 (n : Int)) (.int .i64 (n : Int))).run Tryz.prog W = .ok (.slice (some ⟨W.heap.size, 0, none⟩) n n) (W.alloc (.cells (rowsA n (fun _ => none)) 93)) := by
  obtain ⟨i, hi, hz0, hz1, hz2⟩ := info_parts info_u64s
  have h := run_make (P := Tryz.prog) W 47 93 i _ Tryz.underlying47 hi hz0 .i64 .i64 (n : Int) (n : Int) (by omega) (by omega) (by rw [hz2]; omega) (by omega)
  rw [h, hz1, Int.toNat_natCast, Nat.mul_one]
  exact congrArg (fun c => Result.ok (Value.slice (some ⟨W.heap.size, 0, none⟩) n n) (W.alloc (.cells c 93))) (made_rows n)
abbrev MatAt (w : World) (base G n : Nat) (f : Nat → Option (Nat × List Int)) : Prop := RowsAt 93 94 w base G n f
/-- the cells on the way to a number -/
theorem MatAt.cell {w : World} {base G n : Nat} {f : Nat → Option (Nat × List Int)} {i R : Nat} {l : List Int} (h : MatAt w base G n f) (hi : i < n) (hf : f i = some (R, l)) :
    w.cell? ⟨G, i, none⟩ = some (.slice (some ⟨R, 0, none⟩) l.length l.length) ∧ ∀ j (hj : j < l.length), w.cell? ⟨R, j, none⟩ = some (.int .u64 l[j]) := by
  refine ⟨?_, fun j hj => ?_⟩
  · rw [h.rows.cell i, rowsA_at _ hi]
    unfold rowV
    rw [hf]
  · rw [(h.row i R l hi hf).1.cell j, uA_at hj]
end Go.Proofs.YtmnnoecjedkdjaaGreatDoor
