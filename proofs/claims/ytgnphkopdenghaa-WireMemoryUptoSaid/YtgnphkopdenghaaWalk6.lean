/- Words that are taken out of bytes; the layer's fixed example. -/
import Derived.Test.YtgnphkopdenghaaWalk5
set_option linter.unusedSimpArgs false
set_option linter.unusedVariables false
namespace Go.Proofs.Ytgnphkopdenghaa
open Go.RowKit

/-- the words from a place on -/
def wordsL (p : List Int) (i k : Nat) : List Int := (List.range k).map fun j => num p (i + 4 * j) 4
theorem wordsL_len (p : List Int) (i k : Nat) : (wordsL p i k).length = k := by simp [wordsL]
theorem wordsL_succ (p : List Int) (i k : Nat) : wordsL p i (k + 1) = wordsL p i k ++ [num p (i + 4 * k) 4] := by simp [wordsL, List.range_succ]
/-- what Words has when j of k words are taken -/
def takeL (p : List Int) (i k j : Nat) : List Int := wordsL p i j ++ zerosN (k - j)
theorem takeL_len (p : List Int) (i : Nat) {k j : Nat} (hj : j ≤ k) : (takeL p i k j).length = k := by simp [takeL, wordsL_len, zerosN]; omega
theorem takeL_set (p : List Int) (i : Nat) {k j : Nat} (hj : j < k) : (takeL p i k j).set j (num p (i + 4 * j) 4) = takeL p i k (j + 1) := by
  unfold takeL
  rw [show k - j = (k - (j + 1)) + 1 by omega, zeros_succ, wordsL_succ, List.set_append_right _ _ (by simp [wordsL_len])]
  simp [wordsL_len]
theorem takeL_full (p : List Int) (i k : Nat) : takeL p i k k = wordsL p i k := by simp [takeL, zerosN]
theorem takeL_zero (p : List Int) (i k : Nat) : takeL p i k 0 = zerosN k := by simp [takeL, wordsL]
theorem num_lt {p : List Int} (hb : InB p) (i : Nat) : 0 ≤ num p i 4 ∧ num p i 4 ≤ 4294967295 := by
  have h := (hb.drop i).take 4
  have h0 := le_nonneg _ h
  have h1 := le_lt _ h
  have h2 : ((p.drop i).take 4).length ≤ 4 := by rw [List.length_take]; omega
  have h3 : (256 : Int) ^ ((p.drop i).take 4).length ≤ 4294967296 := by
    generalize ((p.drop i).take 4).length = q at *
    have hq : q = 0 ∨ q = 1 ∨ q = 2 ∨ q = 3 ∨ q = 4 := by omega
    rcases hq with rfl | rfl | rfl | rfl | rfl <;> decide
  unfold num
  omega
def zerosW (n : Nat) : Array Value := ((zerosN n).map (Value.int .u32)).toArray
theorem made_zeroW (m : Nat) : madeCells #[Value.int .u32 0] m = zerosW m := by
  apply Array.toList_inj.1
  rw [toList_madeCells_one]
  simp [zerosW, zerosN]
def MadeWN (w : World) (l : List Int) (e : Ending) (w' : World) : Prop := ∃ v, e = .returned (.tuple #[v, .nilIface]) ∧ OwnW w' w.heap.size v l ∧ Below w.heap.size w w'
set_option maxHeartbeats 800000 in
theorem Words_ok (A : Option Addr) (n cap : Nat) (p : List Int) (i k : Nat) (w : World) (hr : RdB w A n p) (hb : InB p) (hc : n ≤ cap) (hs : i + 4 * k ≤ n) (hn : n ≤ 281474976710656) (hcm : cap ≤ maxLen) :
    Calls Try.prog 9 #[.slice A n cap, .int .i64 i, .int .i64 k] w (MadeWN w (wordsL p i k)) := by
  simp only [maxLen] at hcm
  have H := Lib.hid hr
  have HB := Lib.hid hb
  have HL := Lib.hid hr.1
  have hmk : ∀ W : World, (Instr.makeSlice 30 (.int .i64 (k : Int)) (.int .i64 (k : Int))).run Try.prog W = .ok (.slice (some ⟨W.heap.size, 0, none⟩) k k) (W.alloc (.cells (zerosW k) 33)) := fun W => by
    obtain ⟨i, hi, hz0, hz1, hz2⟩ := info_parts info_u32
    have h := run_make (P := Try.prog) W 30 33 i _ Try.underlying30 hi hz0 .i64 .i64 (k : Int) (k : Int) (by omega) (by omega) (by rw [hz2]; omega) (by omega)
    rw [h, hz1, Nat.mul_one, Int.toNat_natCast]
    exact congrArg (fun c => Result.ok (Value.slice (some ⟨W.heap.size, 0, none⟩) k k) (W.alloc (.cells c 33))) (made_zeroW k)
  have g1 : decide ((i : Int) < 0) = false := decide_eq_false (by omega)
  have g2 : decide ((k : Int) < 0) = false := decide_eq_false (by omega)
  have g3 : decide (n < i) = false := decide_eq_false (by omega)
  have g4 : decide (((n : Int) - i) / 4 < k) = false := decide_eq_false (by omega)
  clear hr hb
  go_enter Try.func9, Try.ntmps9
  go_wp2_with fail
  go_loopw [36] (fun x wr => ∃ j : Nat, j ≤ k ∧ x = .int .i64 j ∧ Cells wr w.heap.size ((takeL p i k j).map (Value.int .u32)).toArray 33 ∧ Below w.heap.size w wr) (fun x _ => k - (intOf x).toNat)
  case atStart => exact ⟨0, by omega, rfl, by rw [takeL_zero]; exact heap_alloc_new w _, (Below.refl _ _).alloc (Nat.le_refl _) _⟩
  case round =>
    obtain ⟨j, hj, rfl, hc, hb⟩ := hrel
    have HC := Lib.hid hc
    have HW := Lib.hid hb
    clear hc hb
    by_cases hlt : j < k
    · have HS := Lib.hid (takeL_set p i hlt)
      have HTL := Lib.hid (takeL_len p i (k := k) (j := j) (by omega))
      have d0 : wr.cell? ⟨w.heap.size, j, none⟩ = some (.int .u32 ((takeL p i k j).getD j 0)) := (HC.out.cell j).trans (by rw [List.getElem?_toArray, List.getElem?_map, List.getElem?_eq_getElem (by rw [HTL.out]; exact hlt), List.getD_eq_getElem?_getD, List.getElem?_eq_getElem (by rw [HTL.out]; exact hlt)]; rfl)
      have d1 := HC.out.frozen j
      generalize (takeL p i k j).getD j 0 = z at *
      go_wp2_with fail
      refine (number_any _ _ _ ((p.drop (i + 4 * j)).take 4) _ (rd_piece (H.out.below HW.out) (by omega) (by omega)) ((HB.out.drop _).take _) (by omega)).mono ?_
      rintro e w2 ⟨rfl, hw2⟩
      obtain rfl := hw2.symm
      have hnum := num_lt HB.out (i + 4 * j)
      rw [show le ((p.drop (i + 4 * j)).take 4) = num p (i + 4 * j) 4 from rfl]
      generalize num p (i + 4 * j) 4 = y at *
      go_wp2_with fail
      go_roundw
      case rel => exact ⟨j + 1, by omega, by go_num, by rw [← HS.out, List.map_set, ← List.setIfInBounds_toArray]; exact HC.out.set_ j _, HW.out.setCell (Nat.le_refl _) _⟩
      case measure => simp [intOf]; omega
    · obtain rfl : j = k := by omega
      go_wp2
      go_ret2
      exact ⟨_, rfl, by have h := HC.out; rw [takeL_full] at h; have := own_of_cells (B := w.heap.size) h (Nat.le_refl _) (by rw [wordsL_len]; unfold maxLen; omega); rw [wordsL_len] at this; exact this, HW.out⟩
set_option maxHeartbeats 400000 in
/-- The fixed example answers true. -/
theorem awake_any (w : World) : Calls Try.prog 6 #[] w (BoolBelow true w) := by
  go_enter Try.func6, Try.ntmps6
  go_wp2_with fail
  have hb1 : Below w.heap.size w (w.alloc (.cells #[.int .u8 255] 5)) := (Below.refl _ _).alloc (Nat.le_refl _) _
  refine (Put_ok (some ⟨w.heap.size, 0, none⟩) 1 1 [255] 258 3 _ (rd_new u8s_len w 5 [255]) (by omega) (by omega) (by omega) (by omega) (.inr (by decide)) (by omega)).mono ?_
  rintro e w2 ⟨v2, rfl, ho2, hb2⟩
  obtain ⟨A2, c2, rfl, hc2, hm2⟩ := ho2.form
  have B2 : Hid (Below w.heap.size w w2) := Lib.hid (hb1.trans (hb2.mono hb1.size))
  have R2 := Lib.hid (ho2.rd u8s_len rfl)
  clear hb1 ho2 hb2 hc2 hm2
  go_wp2_with fail
  have hb3 : Below w2.heap.size w2 (w2.alloc (.cells #[.int .u8 1, .int .u8 2, .int .u8 3] 5)) := (Below.refl _ _).alloc (Nat.le_refl _) _
  refine (Take_any (some ⟨w2.heap.size, 0, none⟩) 3 3 [1, 2, 3] 1 2 _ (rd_new u8s_len w2 5 [1, 2, 3]) (by unfold InB; decide) (by omega) (by unfold maxLen; omega) (by omega) (by omega) (by omega) (by omega)).mono ?_
  rintro e w3 ⟨v3, rfl, ht, hb4⟩
  have B3 : Hid (Below w.heap.size w w3) := Lib.hid (B2.out.trans ((hb3.trans (hb4.mono hb3.size)).mono B2.out.size))
  have R3 := Lib.hid (R2.out.below (hb3.trans (hb4.mono hb3.size)))
  clear hb3 hb4
  have hv : v3 = .tuple #[.int .u64 770, .nilIface] := by
    cases ht with
    | arg h => omega
    | short g h1 h2 h3 h4 => simp at h4
    | ok h1 h2 h3 h4 => rfl
  subst hv
  clear ht
  go_wp2_with fail
  refine (Same_any A2 _ c2 ([255] ++ bytesN 258 3) (some ⟨w3.heap.size, 0, none⟩) 4 4 [255, 2, 1, 0] _ (R3.out.below ((Below.refl _ _).alloc (Nat.le_refl _) _)) (rd_new u8s_len w3 5 [255, 2, 1, 0]) (InB.append (by unfold InB; decide) (bytesN_in _ _)) (by unfold InB; decide)).mono ?_
  rintro e w4 ⟨rfl, rfl⟩
  rw [decide_eq_true (show [255] ++ bytesN 258 3 = [255, 2, 1, 0] by decide)]
  go_wp2
  go_ret
  exact ⟨rfl, B3.out.alloc B3.out.size _⟩
end Go.Proofs.Ytgnphkopdenghaa
