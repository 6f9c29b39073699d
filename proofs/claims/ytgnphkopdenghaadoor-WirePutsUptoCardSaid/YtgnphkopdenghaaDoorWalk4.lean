/- Numbers and words written behind bytes, by the program and by the document. -/
import Derived.Test.YtgnphkopdenghaaDoorWalk3
import Derived.Lib.SliceRun
set_option linter.unusedSimpArgs false
set_option linter.unusedVariables false
namespace Go.Proofs.YtgnphkopdenghaaDoor
open Go.RowKit

theorem rd_none {w : World} {n : Nat} {l : List Int} (h : RdB w none n l) : n = 0 ∧ l = [] := by
  have h0 : n = 0 := by
    rcases Nat.eq_zero_or_pos n with h0 | h0
    · exact h0
    · obtain ⟨ad, e, _⟩ := h.2 h0
      cases e
  subst h0
  exact ⟨rfl, List.eq_nil_of_length_eq_zero h.1⟩
theorem Clone_any (A : Option Addr) (n cap : Nat) (l : List Int) (w : World) (hr : RdB w A n l) (hn : n ≤ 140737488355328) :
    Calls Tryd.prog 20 #[.slice A n cap] w (MadeB w l) := by
  rcases A with _ | ad
  · obtain ⟨rfl, rfl⟩ := rd_none hr
    have heq : ∀ W : World, (binOp .eql 22 (.slice none 0 cap) (.slice none 0 0)).run Tryd.prog W = .ok (.bool true) W := fun W => Lib.run_eql_slice_nil W _ _ _ _ _ _ _ Tryd.underlying22
    go_enter Tryd.func20, Tryd.ntmps20
    go_wp2_with (simp only [heq])
    go_ret
    exact ⟨_, rfl, Own.nil _ _ _ _ _, Below.refl _ _⟩
  · have H := Lib.hid hr
    clear hr
    have heq : ∀ W : World, (binOp .eql 22 (.slice (some ad) n cap) (.slice none 0 0)).run Tryd.prog W = .ok (.bool false) W := fun W => Lib.run_eql_slice_nil W _ _ _ _ _ _ _ Tryd.underlying22
    go_enter Tryd.func20, Tryd.ntmps20
    go_wp2_with (first | simp only [heq] | (at_builtin; go_loud (refine wpList_append_rd rfl (.tmp 5) (.tmp 6) 22 rfl 5 (.int .u8 0) 1 Tryd.underlying22 info_u8 rfl (by omega) (by omega) u8s_len u8s_one w.heap.size _ [] rfl (own_new u8s_len w 5 [] (by unfold maxLen; simp)) (some ad) n cap l rfl (H.out.below ((Below.refl _ _).alloc (Nat.le_refl _) _)) (by simp only [List.length_nil]; omega) (by rw [size_alloc]; omega) ?_; intro v1 w1 ho hg hat)))
    go_ret
    exact ⟨v1, rfl, ho, below_own ((Below.refl _ _).alloc (Nat.le_refl _) _) (own_new u8s_len w 5 [] (by unfold maxLen; simp)) hg (Nat.le_refl _) (by rw [size_alloc]; omega)⟩

theorem rd_word (W : World) (x : Int) : RdB (W.alloc (.cells #[.int .u8 (x % 256), .int .u8 (x / 256 % 256), .int .u8 (x / 65536 % 256), .int .u8 (x / 16777216)] 5)) (some ⟨W.heap.size, 0, none⟩) 4 (wordB x) := rd_new u8s_len W 5 (wordB x)
theorem refPutWords_any (A : Option Addr) (n cap : Nat) (l : List Int) (A' : Option Addr) (n' cap' : Nat) (m : List Int) (w : World) (hr : RdB w A n l) (hr' : RdW w A' n' m) (hm : InW m) (hn : n + 4 * n' ≤ 140737488355328) :
    Calls Tryd.prog 12 #[.slice A n cap, .slice A' n' cap'] w (MadeB w (l ++ wordsB m)) := by
  have H := Lib.hid hr
  have HL := Lib.hid hr.1
  have H' := Lib.hid hr'
  have HL' := Lib.hid hr'.1
  have HM := Lib.hid hm
  clear hr hr' hm
  go_enter Tryd.func12, Tryd.ntmps12
  go_wp2_with (at_builtin; go_loud (refine wpList_append_rd rfl (.tmp 8) (.tmp 9) 22 rfl 5 (.int .u8 0) 1 Tryd.underlying22 info_u8 rfl (by omega) (by omega) u8s_len u8s_one w.heap.size (.slice none 0 0) [] rfl (Own.nil _ _ _ _ _) A n cap l rfl H.out (by simp only [List.length_nil]; omega) (Nat.le_refl _) ?_; intro v1 w1 ho1 hg1 hat1; have HO1 := Lib.hid ho1; have HB1 : Hid (Below w.heap.size w w1) := Lib.hid ((Below.refl _ _).grown hg1 (Nat.le_refl _) (by simp [Value.ownBlock])); clear ho1 hg1 hat1))
  go_loopw [5, 13] (fun v i wr => ∃ j : Nat, j ≤ n' ∧ i = .int .i64 j ∧ OwnB wr w.heap.size v (l ++ wordsB (m.take j)) ∧ Below w.heap.size w wr) (fun _ i _ => n' - (intOf i).toNat)
  case atStart => exact ⟨0, by omega, rfl, by have h := HO1.out; simpa [wordsB] using h, HB1.out⟩
  case round =>
    obtain ⟨j, hj, rfl, ho, hb⟩ := hrel
    have HO := Lib.hid ho
    have HB := Lib.hid hb
    clear ho hb
    by_cases hlt : j < n'
    · obtain ⟨ad, rfl, c0⟩ := (H'.out.below HB.out).at1 (f := Value.int .u32) hlt
      have hjl : j < m.length := by rw [HL'.out]; exact hlt
      have HS := Lib.hid (wordsB_succ m hjl)
      have hv := HM.out _ (List.getElem_mem hjl)
      have hwl := Lib.hid (wordsB_len (m.take j))
      have htl := Lib.hid (show (m.take j).length = j by rw [List.length_take]; omega)
      generalize m[j] = x at *
      go_wp2_with (at_builtin; go_loud (refine wpList_append_rd rfl (.tmp 17) (.tmp 29) 22 rfl 5 (.int .u8 0) 1 Tryd.underlying22 info_u8 rfl (by omega) (by omega) u8s_len u8s_one w.heap.size u5 (l ++ wordsB (m.take j)) rfl (HO.out.below ((Below.refl _ _).alloc (Nat.le_refl _) _)) _ 4 4 (wordB x) rfl (rd_word wr x) (by have a := hwl.out; have b := htl.out; have c := HL.out; rw [List.length_append]; omega) (by have := HB.out.size; simp at this ⊢; omega) ?_; intro v2 w2 ho2 hg2 hat2; have HO2 := Lib.hid ho2; have HB2 : Hid (Below w.heap.size w w2) := Lib.hid (below_own (HB.out.alloc HB.out.size _) (HO.out.below ((Below.refl _ _).alloc (Nat.le_refl _) _)) hg2 (Nat.le_refl _) (by have := HB.out.size; simp at this ⊢; omega)); clear ho2 hg2 hat2))
      go_roundw
      case rel => exact ⟨j + 1, by omega, by go_num, by rw [HS.out, ← List.append_assoc]; exact HO2.out, HB2.out⟩
      case measure => simp [intOf]; omega
    · obtain rfl : j = n' := by omega
      go_wp2
      go_ret
      exact ⟨_, rfl, by have h := HO.out; rwa [List.take_of_length_le (by have := HL'.out; omega)] at h, HB.out⟩
theorem PutWords_any (A : Option Addr) (n cap : Nat) (l : List Int) (A' : Option Addr) (n' cap' : Nat) (m : List Int) (w : World) (hr : RdB w A n l) (hr' : RdW w A' n' m) (hm : InW m) (hn : n + 4 * n' ≤ 140737488355328) :
    Calls Tryd.prog 10 #[.slice A n cap, .slice A' n' cap'] w (MadeB w (l ++ wordsB m)) := by
  have H := Lib.hid hr
  have HL := Lib.hid hr.1
  have H' := Lib.hid hr'
  have HL' := Lib.hid hr'.1
  have HM := Lib.hid hm
  clear hr hr' hm
  go_enter Tryd.func10, Tryd.ntmps10
  go_wp2_with fail
  refine (Clone_any A n cap l w H.out (by omega)).mono ?_
  rintro e w1 ⟨v1, rfl, ho1, hb1⟩
  have HO1 := Lib.hid ho1
  have HB1 := Lib.hid hb1
  clear ho1 hb1
  go_wp2_with fail
  go_loopw [5, 12] (fun v i wr => ∃ j : Nat, j ≤ n' ∧ i = .int .i64 j ∧ OwnB wr w.heap.size v (l ++ wordsB (m.take j)) ∧ Below w.heap.size w wr) (fun _ i _ => n' - (intOf i).toNat)
  case atStart => exact ⟨0, by omega, rfl, by have h := HO1.out; simpa [wordsB] using h, HB1.out⟩
  case round =>
    obtain ⟨j, hj, rfl, ho, hb⟩ := hrel
    have HO := Lib.hid ho
    have HB := Lib.hid hb
    clear ho hb
    by_cases hlt : j < n'
    · obtain ⟨ad, rfl, c0⟩ := (H'.out.below HB.out).at1 (f := Value.int .u32) hlt
      have hjl : j < m.length := by rw [HL'.out]; exact hlt
      have HS := Lib.hid (wordsB_succ m hjl)
      have hv := HM.out _ (List.getElem_mem hjl)
      have hwl := Lib.hid (wordsB_len (m.take j))
      have htl := Lib.hid (show (m.take j).length = j by rw [List.length_take]; omega)
      generalize m[j] = x at *
      go_wp2_with (at_builtin; go_loud (refine wpList_append_rd rfl (.tmp 16) (.tmp 28) 22 rfl 5 (.int .u8 0) 1 Tryd.underlying22 info_u8 rfl (by omega) (by omega) u8s_len u8s_one w.heap.size u5 (l ++ wordsB (m.take j)) rfl (HO.out.below ((Below.refl _ _).alloc (Nat.le_refl _) _)) _ 4 4 (wordB x) rfl (rd_word wr x) (by have a := hwl.out; have b := htl.out; have c := HL.out; rw [List.length_append]; omega) (by have := HB.out.size; simp at this ⊢; omega) ?_; intro v2 w2 ho2 hg2 hat2; have HO2 := Lib.hid ho2; have HB2 : Hid (Below w.heap.size w w2) := Lib.hid (below_own (HB.out.alloc HB.out.size _) (HO.out.below ((Below.refl _ _).alloc (Nat.le_refl _) _)) hg2 (Nat.le_refl _) (by have := HB.out.size; simp at this ⊢; omega)); clear ho2 hg2 hat2))
      go_roundw
      case rel => exact ⟨j + 1, by omega, by go_num, by rw [HS.out, ← List.append_assoc]; exact HO2.out, HB2.out⟩
      case measure => simp [intOf]; omega
    · obtain rfl : j = n' := by omega
      go_wp2
      go_ret
      exact ⟨_, rfl, by have h := HO.out; rwa [List.take_of_length_le (by have := HL'.out; omega)] at h, HB.out⟩
end Go.Proofs.YtgnphkopdenghaaDoor
