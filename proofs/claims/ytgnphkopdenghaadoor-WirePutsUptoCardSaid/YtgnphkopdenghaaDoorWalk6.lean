/- Words that are taken out of bytes; the layer's fixed example. -/
import Derived.Test.YtgnphkopdenghaaDoorWalk5
set_option linter.unusedSimpArgs false
set_option linter.unusedVariables false
namespace Go.Proofs.YtgnphkopdenghaaDoor
open Go.RowKit

/-- the words from a place on -/
def wordsL (p : List Int) (i k : Nat) : List Int := (List.range k).map fun j => num p (i + 4 * j) 4
theorem wordsL_len (p : List Int) (i k : Nat) : (wordsL p i k).length = k := by simp [wordsL]
theorem wordsL_succ (p : List Int) (i k : Nat) : wordsL p i (k + 1) = wordsL p i k ++ [num p (i + 4 * k) 4] := by simp [wordsL, List.range_succ]
/-- what Words has when j of k words are taken -/
def takeL (p : List Int) (i k j : Nat) : List Int := wordsL p i j ++ zerosN (k - j)
theorem takeL_len (p : List Int) (i : Nat) {k j : Nat} (hj : j ≤ k) : (takeL p i k j).length = k := by simp [takeL, wordsL_len, zerosN]; omega
theorem takeL_set (p : List Int) (i : Nat) {k j : Nat} (hj : j < k) : (takeL p i k j).set j (num p (i + 4 * j) 4) = takeL p i k (j + 1) := by
  unfold takeL
  rw [show k - j = (k - (j + 1)) + 1 by omega, zeros_succ, wordsL_succ, List.set_append_right _ _ (by simp [wordsL_len])]
  simp [wordsL_len]
theorem takeL_full (p : List Int) (i k : Nat) : takeL p i k k = wordsL p i k := by simp [takeL, zerosN]
theorem takeL_zero (p : List Int) (i k : Nat) : takeL p i k 0 = zerosN k := by simp [takeL, wordsL]
theorem num_lt {p : List Int} (hb : InB p) (i : Nat) : 0 ≤ num p i 4 ∧ num p i 4 ≤ 4294967295 := by
  have h := (hb.drop i).take 4
  have h0 := le_nonneg _ h
  have h1 := le_lt _ h
  have h2 : ((p.drop i).take 4).length ≤ 4 := by rw [List.length_take]; omega
  have h3 : (256 : Int) ^ ((p.drop i).take 4).length ≤ 4294967296 := by
    generalize ((p.drop i).take 4).length = q at *
    have hq : q = 0 ∨ q = 1 ∨ q = 2 ∨ q = 3 ∨ q = 4 := by omega
    rcases hq with rfl | rfl | rfl | rfl | rfl <;> decide
  unfold num
  omega
def zerosW (n : Nat) : Array Value := ((zerosN n).map (Value.int .u32)).toArray
theorem made_zeroW (m : Nat) : madeCells #[Value.int .u32 0] m = zerosW m := by
  apply Array.toList_inj.1
  rw [toList_madeCells_one]
  simp [zerosW, zerosN]
def MadeWN (w : World) (l : List Int) (e : Ending) (w' : World) : Prop := ∃ v, e = .returned (.tuple #[v, .nilIface]) ∧ OwnW w' w.heap.size v l ∧ Below w.heap.size w w'
set_option maxHeartbeats 400000 in
/-- The fixed example answers true. -/
theorem awake_any (w : World) : Calls Tryd.prog 4 #[] w (BoolBelow true w) := by
  go_enter Tryd.func4, Tryd.ntmps4
  go_wp2_with fail
  have hb1 : Below w.heap.size w (w.alloc (.cells #[.int .u8 255] 5)) := (Below.refl _ _).alloc (Nat.le_refl _) _
  refine (Put_ok (some ⟨w.heap.size, 0, none⟩) 1 1 [255] 258 3 _ (rd_new u8s_len w 5 [255]) (by omega) (by omega) (by omega) (by omega) (.inr (by decide)) (by omega)).mono ?_
  rintro e w2 ⟨v2, rfl, ho2, hb2⟩
  obtain ⟨A2, c2, rfl, hc2, hm2⟩ := ho2.form
  have B2 : Hid (Below w.heap.size w w2) := Lib.hid (hb1.trans (hb2.mono hb1.size))
  have R2 := Lib.hid (ho2.rd u8s_len rfl)
  clear hb1 ho2 hb2 hc2 hm2
  go_wp2_with fail
  have hb3 : Below w2.heap.size w2 (w2.alloc (.cells #[.int .u8 1, .int .u8 2, .int .u8 3] 5)) := (Below.refl _ _).alloc (Nat.le_refl _) _
  refine (Take_any (some ⟨w2.heap.size, 0, none⟩) 3 3 [1, 2, 3] 1 2 _ (rd_new u8s_len w2 5 [1, 2, 3]) (by unfold InB; decide) (by omega) (by unfold maxLen; omega) (by omega) (by omega) (by omega) (by omega)).mono ?_
  rintro e w3 ⟨v3, rfl, ht, hb4⟩
  have B3 : Hid (Below w.heap.size w w3) := Lib.hid (B2.out.trans ((hb3.trans (hb4.mono hb3.size)).mono B2.out.size))
  have R3 := Lib.hid (R2.out.below (hb3.trans (hb4.mono hb3.size)))
  clear hb3 hb4
  have hv : v3 = .tuple #[.int .u64 770, .nilIface] := by
    cases ht with
    | arg h => omega
    | short g h1 h2 h3 h4 => simp at h4
    | ok h1 h2 h3 h4 => rfl
  subst hv
  clear ht
  go_wp2_with fail
  refine (Same_any A2 _ c2 ([255] ++ bytesN 258 3) (some ⟨w3.heap.size, 0, none⟩) 4 4 [255, 2, 1, 0] _ (R3.out.below ((Below.refl _ _).alloc (Nat.le_refl _) _)) (rd_new u8s_len w3 5 [255, 2, 1, 0]) (InB.append (by unfold InB; decide) (bytesN_in _ _)) (by unfold InB; decide)).mono ?_
  rintro e w4 ⟨rfl, rfl⟩
  rw [decide_eq_true (show [255] ++ bytesN 258 3 = [255, 2, 1, 0] by decide)]
  go_wp2
  go_ret
  exact ⟨rfl, B3.out.alloc B3.out.size _⟩
end Go.Proofs.YtgnphkopdenghaaDoor
