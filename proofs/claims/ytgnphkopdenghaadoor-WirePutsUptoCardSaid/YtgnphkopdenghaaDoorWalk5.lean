/- A number of n bytes written behind bytes, by the program and by the document. -/
import Derived.Test.YtgnphkopdenghaaDoorWalk4
set_option linter.unusedSimpArgs false
set_option linter.unusedVariables false
namespace Go.Proofs.YtgnphkopdenghaaDoor
open Go.RowKit

/-- the lowest k bytes of a number -/
def bytesN (v : Int) (k : Nat) : List Int := (List.range k).map fun i => v / 2 ^ (8 * i) % 256
theorem bytesN_len (v : Int) (k : Nat) : (bytesN v k).length = k := by simp [bytesN]
theorem bytesN_succ (v : Int) (k : Nat) : bytesN v (k + 1) = bytesN v k ++ [v / 2 ^ (8 * k) % 256] := by simp [bytesN, List.range_succ]
theorem bytesN_in (v : Int) (k : Nat) : InB (bytesN v k) := by
  intro b hb
  obtain ⟨i, _, rfl⟩ := List.mem_map.1 hb
  have h1 := Int.emod_nonneg (v / 2 ^ (8 * i)) (show (256 : Int) ≠ 0 by omega)
  have h2 := Int.emod_lt_of_pos (v / 2 ^ (8 * i)) (show (0 : Int) < 256 by omega)
  omega
theorem refPut_any (A : Option Addr) (n cap : Nat) (l : List Int) (v : Int) (k : Nat) (w : World) (hr : RdB w A n l) (hk : k ≤ 8) (hv0 : 0 ≤ v) (hv1 : v ≤ 18446744073709551615) (hn : n + 8 ≤ 140737488355328) :
    Calls Tryd.prog 16 #[.slice A n cap, .int .u64 v, .int .i64 k] w (MadeB w (l ++ bytesN v k)) := by
  have H := Lib.hid hr
  have HL := Lib.hid hr.1
  clear hr
  go_enter Tryd.func16, Tryd.ntmps16
  go_wp2_with (at_builtin; go_loud (refine wpList_append_rd rfl (.tmp 9) (.tmp 10) 22 rfl 5 (.int .u8 0) 1 Tryd.underlying22 info_u8 rfl (by omega) (by omega) u8s_len u8s_one w.heap.size (.slice none 0 0) [] rfl (Own.nil _ _ _ _ _) A n cap l rfl H.out (by simp only [List.length_nil]; omega) (Nat.le_refl _) ?_; intro v1 w1 ho1 hg1 hat1; have HO1 := Lib.hid ho1; have HB1 : Hid (Below w.heap.size w w1) := Lib.hid ((Below.refl _ _).grown hg1 (Nat.le_refl _) (by simp [Value.ownBlock])); clear ho1 hg1 hat1))
  go_loopw [7, 8] (fun z i wr => ∃ j : Nat, j ≤ k ∧ i = .int .i64 j ∧ OwnB wr w.heap.size z (l ++ bytesN v j) ∧ Below w.heap.size w wr) (fun _ i _ => k - (intOf i).toNat)
  case atStart => exact ⟨0, by omega, rfl, by have h := HO1.out; simpa [bytesN] using h, HB1.out⟩
  case round =>
    obtain ⟨j, hj, rfl, ho, hb⟩ := hrel
    have HO := Lib.hid ho
    have HB := Lib.hid hb
    clear ho hb
    by_cases hlt : j < k
    · have HS := Lib.hid (bytesN_succ v j)
      have hbl := Lib.hid (bytesN_len v j)
      generalize hx : v / 2 ^ (8 * j) % 256 = x at *
      have HX := Lib.hid hx
      clear hx
      go_wp2_with (at_builtin; rw [HX.out]; go_loud (refine wpList_append_rd rfl (.tmp 17) (.tmp 23) 22 rfl 5 (.int .u8 0) 1 Tryd.underlying22 info_u8 rfl (by omega) (by omega) u8s_len u8s_one w.heap.size u7 (l ++ bytesN v j) rfl (HO.out.below ((Below.refl _ _).alloc (Nat.le_refl _) _)) _ 1 1 [x] rfl (rd_new u8s_len wr 5 [x]) (by have a := hbl.out; have c := HL.out; rw [List.length_append]; omega) (by have := HB.out.size; simp at this ⊢; omega) ?_; intro v2 w2 ho2 hg2 hat2; have HO2 := Lib.hid ho2; have HB2 : Hid (Below w.heap.size w w2) := Lib.hid (below_own (HB.out.alloc HB.out.size _) (HO.out.below ((Below.refl _ _).alloc (Nat.le_refl _) _)) hg2 (Nat.le_refl _) (by have := HB.out.size; simp at this ⊢; omega)); clear ho2 hg2 hat2))
      go_roundw
      case rel => exact ⟨j + 1, by omega, by go_num, by rw [HS.out, ← List.append_assoc]; exact HO2.out, HB2.out⟩
      case measure => simp [intOf]; omega
    · obtain rfl : j = k := by omega
      go_wp2
      go_ret
      exact ⟨_, rfl, HO.out, HB.out⟩

def zerosN (n : Nat) : List Int := List.replicate n 0
def zerosA (n : Nat) : Array Value := ((zerosN n).flatMap u8s).toArray
theorem made_zero (m : Nat) : madeCells #[Value.int .u8 0] m = zerosA m := by
  apply Array.toList_inj.1
  rw [toList_madeCells_one]
  simp [zerosA, zerosN, flat_map]
theorem zeros_succ (n : Nat) : zerosN (n + 1) = 0 :: zerosN n := rfl
/-- what Put has when j of k bytes are written -/
def putL (l : List Int) (v : Int) (k j : Nat) : List Int := l ++ bytesN v j ++ zerosN (k - j)
theorem putL_len (l : List Int) (v : Int) {k j : Nat} (hj : j ≤ k) : (putL l v k j).length = l.length + k := by simp [putL, bytesN_len, zerosN]; omega
theorem putL_set (l : List Int) (v : Int) {k j : Nat} (hj : j < k) : (putL l v k j).set (l.length + j) (v / 2 ^ (8 * j) % 256) = putL l v k (j + 1) := by
  unfold putL
  rw [show k - j = (k - (j + 1)) + 1 by omega, zeros_succ, bytesN_succ, List.set_append_right _ _ (by simp [bytesN_len])]
  simp [bytesN_len]
theorem putL_full (l : List Int) (v : Int) (k : Nat) : putL l v k k = l ++ bytesN v k := by simp [putL, zerosN]
theorem putL_zero (l : List Int) (v : Int) (k : Nat) : putL l v k 0 = l ++ zerosN k := by simp [putL, bytesN]

/-- A pair whose first is a new list of bytes, and no error. -/
def MadeBN (w : World) (l : List Int) (e : Ending) (w' : World) : Prop := ∃ v, e = .returned (.tuple #[v, .nilIface]) ∧ OwnB w' w.heap.size v l ∧ Below w.heap.size w w'
set_option maxHeartbeats 800000 in
theorem Put_ok (A : Option Addr) (n cap : Nat) (l : List Int) (v : Int) (k : Nat) (w : World) (hr : RdB w A n l) (hk1 : 1 ≤ k) (hk : k ≤ 8) (hv0 : 0 ≤ v) (hv1 : v ≤ 18446744073709551615) (hfit : k = 8 ∨ v / 2 ^ (8 * k) = 0) (hn : n + 8 ≤ 140737488355328) :
    Calls Tryd.prog 5 #[.slice A n cap, .int .u64 v, .int .i64 k] w (MadeBN w (l ++ bytesN v k)) := by
  obtain rfl := hr.1
  have H := Lib.hid hr
  have hmk : ∀ W : World, (Instr.makeSlice 22 (.int .i64 (k : Int)) (.int .i64 (k : Int))).run Tryd.prog W = .ok (.slice (some ⟨W.heap.size, 0, none⟩) k k) (W.alloc (.cells (zerosA k) 5)) := fun W => by
    obtain ⟨i, hi, hz0, hz1, hz2⟩ := info_parts info_u8
    have h := run_make (P := Tryd.prog) W 22 5 i _ Tryd.underlying22 hi hz0 .i64 .i64 (k : Int) (k : Int) (by omega) (by omega) (by rw [hz2]; omega) (by omega)
    rw [h, hz1, Nat.mul_one, Int.toNat_natCast]
    exact congrArg (fun c => Result.ok (Value.slice (some ⟨W.heap.size, 0, none⟩) k k) (W.alloc (.cells c 5))) (made_zero k)
  have hfit' : decide ((k : Int) < 8) = false ∨ (decide ((k : Int) < 8) = true ∧ decide (0 < v / 2 ^ (8 * k)) = false) := by
    rcases hfit with h | h
    · exact .inl (decide_eq_false (by omega))
    · by_cases h8 : k < 8
      · exact .inr ⟨decide_eq_true (by omega), decide_eq_false (by omega)⟩
      · exact .inl (decide_eq_false (by omega))
  have g1 : decide ((k : Int) < 1) = false := decide_eq_false (by omega)
  have g2 : decide (8 < (k : Int)) = false := decide_eq_false (by omega)
  clear hr hfit
  rcases hfit' with g3 | ⟨g3, g4⟩
  all_goals
    go_enter Tryd.func5, Tryd.ntmps5
    go_wp2_with fail
    have hB1 : Below w.heap.size w ((w.alloc (.cells (zerosA k) 5)).alloc (.cells #[Value.slice A l.length cap, Value.slice (some ⟨w.heap.size, 0, none⟩) k k] 22)) := ((Below.refl _ _).alloc (Nat.le_refl _) _).alloc (by rw [size_alloc]; omega) _
    have hz : RdB ((w.alloc (.cells (zerosA k) 5)).alloc (.cells #[Value.slice A l.length cap, Value.slice (some ⟨w.heap.size, 0, none⟩) k k] 22)) (some ⟨w.heap.size, 0, none⟩) k (zerosN k) := by
      have h := rd_new u8s_len w 5 (zerosN k)
      rw [show (zerosN k).length = k by simp [zerosN]] at h
      exact h.below ((Below.refl _ _).alloc (Nat.le_refl _) _)
    have hp : Rd 1 Part.vals ((w.alloc (.cells (zerosA k) 5)).alloc (.cells #[Value.slice A l.length cap, Value.slice (some ⟨w.heap.size, 0, none⟩) k k] 22)) (some ⟨w.heap.size + 1, 0, none⟩) 2 [⟨A, l.length, cap, l⟩, ⟨some ⟨w.heap.size, 0, none⟩, k, k, zerosN k⟩] := by
      have h := rd_new (sz := 1) (enc := Part.vals) (fun _ => rfl) (w.alloc (.cells (zerosA k) 5)) 22 [⟨A, l.length, cap, l⟩, ⟨some ⟨w.heap.size, 0, none⟩, k, k, zerosN k⟩]
      rw [size_alloc] at h
      exact h
    refine (Concat_any (some ⟨w.heap.size + 1, 0, none⟩) 2 2 _ _ hp (rds_pair (p := ⟨A, l.length, cap, l⟩) (H.out.below hB1) (q := ⟨some ⟨w.heap.size, 0, none⟩, k, k, zerosN k⟩) hz) (by unfold maxLen; omega) (by simp only [total, List.map_cons, List.map_nil, List.sum_cons, List.sum_nil]; omega)).mono ?_
    rintro e w2 ⟨v2, rfl, ho2, hb2⟩
    have HO2 : Hid (OwnB w2 w.heap.size v2 (putL l v k 0)) := Lib.hid (by
      have h := ho2.mono (b' := w.heap.size) hB1.size
      simpa [joined, putL_zero] using h)
    have HB2 := Lib.hid (hB1.trans (hb2.mono hB1.size))
    clear hz hp ho2 hb2 hB1
    obtain ⟨g, c2, rfl, hge, hgl⟩ := World.ownsRow.form HO2.out (by rw [putL_len _ _ (by omega)]; omega)
    rw [putL_len _ _ (by omega)]
    clear hgl
    go_wp2_with fail
    go_loopw [33] (fun i wr => ∃ j : Nat, j ≤ k ∧ i = .int .i64 j ∧ OwnB wr w.heap.size (.slice (some ⟨g, 0, none⟩) (l.length + k) c2) (putL l v k j) ∧ Below w.heap.size w wr) (fun i _ => k - (intOf i).toNat)
    case atStart => exact ⟨0, by omega, rfl, by have h := HO2.out; rw [putL_len _ _ (by omega)] at h; exact h, HB2.out⟩
    case round =>
      obtain ⟨j, hj, rfl, ho, hb⟩ := hrel
      have HO := Lib.hid ho
      have HB := Lib.hid hb
      clear ho hb
      by_cases hlt : j < k
      · have HS := Lib.hid (putL_set l v hlt)
        have HPL := Lib.hid (putL_len l v (k := k) (j := j) (by omega))
        have HOc : Hid (OwnB wr w.heap.size (.slice (some ⟨g, 0, none⟩) (putL l v k j).length c2) (putL l v k j)) := Lib.hid (by rw [HPL.out]; exact HO.out)
        obtain ⟨d0, d1⟩ := own_get HOc.out (j := l.length + j) (by rw [HPL.out]; omega)
        generalize (putL l v k j).getD (l.length + j) 0 = z at *
        go_wp2_with fail
        go_roundw
        case rel => exact ⟨j + 1, by omega, by go_num, by have h := own_put HOc.out (l.length + j) (v / 2 ^ (8 * j) % 256); rw [HS.out, putL_len l v (by omega)] at h; exact h, HB.out.setCell (by simpa using hge) _⟩
        case measure => simp [intOf]; omega
      · obtain rfl : j = k := by omega
        go_wp2_with fail
        go_ret2
        exact ⟨_, rfl, by have h := HO.out; rwa [putL_full] at h, HB.out⟩
theorem Put_arg (A : Option Addr) (n cap : Nat) (v k : Int) (w : World) (hk : k < 1 ∨ 8 < k) (h0 : -9223372036854775808 ≤ k) (h1 : k ≤ 9223372036854775807) :
    Calls Tryd.prog 5 #[.slice A n cap, .int .u64 v, .int .i64 k] w fun e w' => e = .returned (.tuple #[.slice none 0 0, .iface 43 (.int .i64 1)]) ∧ w' = w := by
  have hk' : decide (k < 1) = true ∨ (decide (k < 1) = false ∧ decide (8 < k) = true) := by
    by_cases h : k < 1
    · exact .inl (decide_eq_true h)
    · exact .inr ⟨decide_eq_false h, decide_eq_true (by omega)⟩
  rcases hk' with g1 | ⟨g1, g2⟩
  all_goals
    go_enter Tryd.func5, Tryd.ntmps5
    go_wp2_with fail
    go_ret2
    exact ⟨rfl, rfl⟩
theorem Put_limit (A : Option Addr) (n cap : Nat) (v : Int) (k : Nat) (w : World) (hk1 : 1 ≤ k) (hk : k < 8) (hv0 : 0 ≤ v) (hv1 : v ≤ 18446744073709551615) (hbig : 0 < v / 2 ^ (8 * k)) :
    Calls Tryd.prog 5 #[.slice A n cap, .int .u64 v, .int .i64 k] w fun e w' => e = .returned (.tuple #[.slice none 0 0, .iface 43 (.int .i64 9)]) ∧ w' = w := by
  have g1 : decide ((k : Int) < 1) = false := decide_eq_false (by omega)
  have g2 : decide (8 < (k : Int)) = false := decide_eq_false (by omega)
  have g3 : decide ((k : Int) < 8) = true := decide_eq_true (by omega)
  have g4 : decide (0 < v / 2 ^ (8 * k)) = true := decide_eq_true hbig
  go_enter Tryd.func5, Tryd.ntmps5
  go_wp2_with fail
  go_ret2
  exact ⟨rfl, rfl⟩
end Go.Proofs.YtgnphkopdenghaaDoor
