/- The words of a line, the rows of a text: the document's. -/
import Derived.Test.YtngihiebkbheaaaGreatDoorGt4
set_option linter.unusedSimpArgs false
set_option linter.unusedVariables false
namespace Go.Proofs.YtngihiebkbheaaaGreatDoor
open Go.RowKit Txt

theorem blank_any (b : UInt8) (w : World) : Calls Tryz.prog 68 #[.int .u8 (b.toNat : Int)] w fun e w' => e = .returned (.bool (blankU b)) ∧ w = w' := by
  have one : ∀ (y : UInt8), (((b.toNat : Nat) : Int) == ((y.toNat : Nat) : Int)) = (b == y) := fun y => by
    by_cases h : b = y
    · subst h; simp
    · rw [beq_eq_false_iff_ne.2 h, beq_eq_false_iff_ne]
      exact fun hh => h (UInt8.toNat_inj.1 (by omega))
  have HE : Hid (blankU b = ((((b.toNat : Nat) : Int) == 32) || (((b.toNat : Nat) : Int) == 9) || (((b.toNat : Nat) : Int) == 13))) := Lib.hid (by
    unfold blankU
    rw [← one 32, ← one 9, ← one 13]
    rfl)
  clear one
  generalize hx : ((b.toNat : Nat) : Int) = x at *
  clear hx
  by_cases h1 : x = 32
  · subst h1
    go_enter Tryz.func68, Tryz.ntmps68
    go_wp2_with fail
    go_ret
    exact ⟨by rw [HE.out]; rfl, rfl⟩
  · have q1 : (x == 32) = false := beq_eq_false_iff_ne.2 h1
    by_cases h2 : x = 9
    · subst h2
      go_enter Tryz.func68, Tryz.ntmps68
      go_wp2_with fail
      go_ret
      exact ⟨by rw [HE.out]; rfl, rfl⟩
    · have q2 : (x == 9) = false := beq_eq_false_iff_ne.2 h2
      go_enter Tryz.func68, Tryz.ntmps68
      go_wp2_with fail
      go_ret
      exact ⟨by rw [HE.out, q1, q2]; rfl, rfl⟩
theorem cutHash_cons {b : UInt8} {r : Bs} (h : b ≠ 35) : cutHash (b :: r) = b :: cutHash r := List.takeWhile_cons_of_pos (p := fun x => x != 35) (by simpa using h)
theorem cutHash_stop (r : Bs) : cutHash (35 :: r) = [] := List.takeWhile_cons_of_neg (p := fun x => x != 35) (by simp)
theorem extract_one (s : ByteArray) {j : Nat} {b : UInt8} (h : s.data.toList.drop j = b :: s.data.toList.drop (j + 1)) : (s.extract j (j + 1)).data.toList = [b] := by
  rw [extract_piece]
  unfold Lib.pieceU
  rw [h, Nat.add_sub_cancel_left]
  rfl
theorem append_list (x y : ByteArray) : (x ++ y).data.toList = x.data.toList ++ y.data.toList := by
  rw [ByteArray.data_append, Array.toList_append]
theorem empty_tt {x : ByteArray} (h : x.data.toList = []) : x.toList.isEmpty = true := by rw [Lib.toList_data, h]; rfl
theorem empty_ff {x : ByteArray} (h : x.data.toList ≠ []) : x.toList.isEmpty = false := by
  rw [Lib.toList_data]
  cases hx : x.data.toList with
  | nil => exact absurd hx h
  | cons _ _ => rfl
theorem right_cons {b : UInt8} {r : Bs} (h : blankU b = false) : rightB (b :: r) = (goodU b && rightB r) := by
  unfold rightB
  rw [List.all_cons, h, Bool.false_or]
theorem right_blank {b : UInt8} {r : Bs} (h : blankU b = true) : rightB (b :: r) = rightB r := by
  unfold rightB
  rw [List.all_cons, h, Bool.true_or, Bool.true_and]
def WordsDoc (l : Bs) (W : World) (e : Ending) (w' : World) : Prop := Below W.heap.size W w' ∧ ∃ A c, e = .returned (.tuple #[.slice A (wordsL l).length c, .bool (rightB l)]) ∧ OwnSt w' W.heap.size (.slice A (wordsL l).length c) ((wordsL l).map toB)
set_option maxRecDepth 100000 in
set_option maxHeartbeats 4000000 in
theorem wordsD_any (s : ByteArray) (W : World) (hs : s.size ≤ 1048576) : Calls Tryz.prog 52 #[.string s] W (WordsDoc (cutHash s.data.toList) W) := by
  have hlen := size_list s
  go_enter Tryz.func52, Tryz.ntmps52
  refine wp_named ?_
  intro Q0 hQ0
  have HQ0 := Lib.hid hQ0
  clear hQ0
  go_wp2_with fail
  go_loopw [4, 5, 6, 7] (fun sv rv wv iv wr => ∃ (j : Nat) (L : List ByteArray) (rt : Bool) (wd : ByteArray), j ≤ s.size ∧ iv = .int .i64 j ∧ rv = .bool rt ∧ wv = .string wd ∧ wd.size ≤ j ∧ L.length ≤ j ∧ OwnSt wr W.heap.size sv L ∧ wordsL (cutHash s.data.toList) = L.map (fun x => x.data.toList) ++ wordsGo wd.data.toList (cutHash (s.data.toList.drop j)) ∧ rightB (cutHash s.data.toList) = (rt && rightB (cutHash (s.data.toList.drop j))) ∧ Below W.heap.size W wr) (fun _ _ _ iv _ => s.size - (intOf iv).toNat)
  case atStart => exact ⟨0, [], true, ⟨#[]⟩, by omega, rfl, rfl, rfl, Nat.le_refl 0, by simp, Own.nil _ _ _ _ _, rfl, rfl, Below.refl _ _⟩
  case round =>
    obtain ⟨j, L, rt, wd, hj, rfl, rfl, rfl, hwd, hLj, ho, hw, hr, hb⟩ := hrel
    have HB := Lib.hid hb
    have HO := Lib.hid ho
    have HW := Lib.hid hw
    have HR := Lib.hid hr
    have hsb := hb.size
    clear ho hb hw hr
    have hend : cutHash (s.data.toList.drop j) = [] → wordsL (cutHash s.data.toList) = L.map (fun x => x.data.toList) ++ (if wd.data.toList = [] then [] else [wd.data.toList]) ∧ rightB (cutHash s.data.toList) = rt := fun h => by
      have h1 := HW.out
      have h2 := HR.out
      rw [h] at h1 h2
      refine ⟨h1, by rw [h2]; simp [rightB]⟩
    by_cases hlt : j < s.size
    · have q0 : decide ((j : Int) < (s.size : Int)) = true := decide_eq_true (by omega)
      obtain ⟨b, hb, hdr, htk, hat⟩ := byte_at s hlt
      by_cases h35 : b = 35
      · subst h35
        have hce : cutHash (s.data.toList.drop j) = [] := by rw [hdr]; exact cutHash_stop _
        have q1 : ((((35 : UInt8).toNat : Nat) : Int) == 35) = true := rfl
        clear hdr htk hat
        obtain ⟨he1, he2⟩ := hend hce
        cases hwe : wd.data.toList with
        | nil =>
          have p1 := empty_tt hwe
          rw [hwe, if_pos rfl, List.append_nil] at he1
          have hwd2 : (wordsL (cutHash s.data.toList)).map toB = L := by
            rw [he1, List.map_map]
            conv => rhs; rw [← List.map_id L]
            exact List.map_congr_left fun x _ => (toB_of rfl).symm
          obtain ⟨A2, c2, rfl, hc1, hc2⟩ := HO.out.form
          have HEND : Hid (WordsDoc (cutHash s.data.toList) W (.returned (.tuple #[.slice A2 L.length c2, .bool rt])) wr) := Lib.hid (by
            have hl : (wordsL (cutHash s.data.toList)).length = L.length := by rw [he1, List.length_map]
            refine ⟨HB.out, A2, c2, by rw [hl, he2], ?_⟩
            rw [hwd2, hl]
            exact HO.out)
          clear he1 he2 hwd2 hend
          go_wp2_with fail
          rw [HQ0.out]
          go_ret2
          exact HEND.out
        | cons y ys =>
          have p1 := empty_ff (x := wd) (by rw [hwe]; simp)
          have hwd2 : wordsL (cutHash s.data.toList) = (L ++ [wd]).map fun x => x.data.toList := by
            rw [he1, if_neg (by rw [hwe]; simp), List.map_append]
            rfl
          have hwd3 : (wordsL (cutHash s.data.toList)).map toB = L ++ [wd] := by
            rw [hwd2, List.map_map]
            conv => rhs; rw [← List.map_id (L ++ [wd])]
            exact List.map_congr_left fun x _ => (toB_of rfl).symm
          have HW2 := Lib.hid hwd2
          have HW3 := Lib.hid hwd3
          have HE2 := Lib.hid he2
          clear he1 he2 hwd2 hwd3 hend hwe
          go_wp2_with (at_builtin; go_loud (refine wpList_append_rd rfl (.tmp 53) (.tmp 55) 45 rfl 9 (.string ⟨#[]⟩) 16 Tryz.underlying45 info_str rfl (by omega) (by omega) encS_len encS_one W.heap.size _ L rfl (HO.out.below ((Below.refl _ _).alloc (Nat.le_refl _) _)) _ 1 1 [wd] rfl (rd_str rfl) (by omega) (by simp; omega) ?_; intro v2 w5 ho2 hg2 hat2; have HO5 := Lib.hid ho2; have HB5 : Hid (Below W.heap.size W w5) := Lib.hid (below_own (HB.out.alloc hsb _) (HO.out.below ((Below.refl _ _).alloc (Nat.le_refl _) _)) hg2 (Nat.le_refl _) (by simp; omega)); clear ho2 hg2 hat2))
          obtain ⟨A2, c2, rfl, hc1, hc2⟩ := HO5.out.form
          rw [HQ0.out]
          go_ret2
          have hl : (wordsL (cutHash s.data.toList)).length = (L ++ [wd]).length := by rw [HW2.out, List.length_map]
          refine ⟨HB5.out, A2, c2, by rw [hl, HE2.out]; rfl, ?_⟩
          rw [HW3.out, hl]
          exact HO5.out
      · have q1 : (((b.toNat : Nat) : Int) == 35) = false := by
          rw [beq_eq_false_iff_ne]
          exact fun hh => h35 (UInt8.toNat_inj.1 (show b.toNat = 35 by omega))
        have hw := HW.out
        have hr := HR.out
        rw [hdr, cutHash_cons h35] at hw hr
        have HX1 := Lib.hid (extract_one s hdr)
        have hwrap : IntKind.i64.wrap ((j : Int) + 1) = (j : Int) + 1 := by rw [IntKind.wrap_i64]; omega
        clear hdr htk hat hend
        go_wp2_with fail
        refine (blank_any b wr).mono ?_
        rintro e w3 ⟨rfl, rfl⟩
        cases hbl : blankU b with
        | true =>
          rw [wordsGo, hbl, if_pos rfl] at hw
          rw [right_blank hbl] at hr
          have HR2 := Lib.hid hr
          cases hwe : wd.data.toList with
          | nil =>
            have p1 := empty_tt hwe
            rw [hwe, if_pos rfl] at hw
            have HW2 := Lib.hid hw
            clear hw hr hwe
            go_wp2_with fail
            go_roundw
            case rel => exact ⟨j + 1, L, rt, ⟨#[]⟩, by omega, by go_num, rfl, rfl, Nat.zero_le _, by omega, HO.out, HW2.out, HR2.out, HB.out⟩
            case measure => simp [intOf]; omega
          | cons y ys =>
            have p1 := empty_ff (x := wd) (by rw [hwe]; simp)
            rw [if_neg (by rw [hwe]; simp)] at hw
            have HW2 := Lib.hid hw
            clear hw hr hwe
            go_wp2_with (at_builtin; go_loud (refine wpList_append_rd rfl (.tmp 47) (.tmp 49) 45 rfl 9 (.string ⟨#[]⟩) 16 Tryz.underlying45 info_str rfl (by omega) (by omega) encS_len encS_one W.heap.size _ L rfl (HO.out.below ((Below.refl _ _).alloc (Nat.le_refl _) _)) _ 1 1 [wd] rfl (rd_str rfl) (by omega) (by simp; omega) ?_; intro v2 w5 ho2 hg2 hat2; have HO5 := Lib.hid ho2; have HB5 : Hid (Below W.heap.size W w5) := Lib.hid (below_own (HB.out.alloc hsb _) (HO.out.below ((Below.refl _ _).alloc (Nat.le_refl _) _)) hg2 (Nat.le_refl _) (by simp; omega)); clear ho2 hg2 hat2))
            go_roundw
            case rel =>
              refine ⟨j + 1, L ++ [wd], rt, ⟨#[]⟩, by omega, by go_num, rfl, rfl, Nat.zero_le _, by simp; omega, HO5.out, ?_, HR2.out, HB5.out⟩
              rw [HW2.out, List.map_append, List.append_assoc]
              rfl
            case measure => simp [intOf]; omega
        | false =>
          rw [wordsGo, hbl, if_neg Bool.false_ne_true] at hw
          rw [right_cons hbl, ← Bool.and_assoc] at hr
          have hgood : goodU b = (decide (33 ≤ b.toNat) && decide (b.toNat ≤ 126)) := by unfold goodU; rw [Bool.decide_and]
          have hw2 : wordsL (cutHash s.data.toList) = L.map (fun x => x.data.toList) ++ wordsGo (wd ++ s.extract j (j + 1)).data.toList (cutHash (s.data.toList.drop (j + 1))) := by
            rw [append_list, HX1.out]
            exact hw
          have HW2 := Lib.hid hw2
          have HR2 := Lib.hid hr
          have hsz : (wd ++ s.extract j (j + 1)).size ≤ j + 1 := by
            rw [← size_list, append_list, HX1.out, List.length_append, size_list]
            simp; omega
          have HSZ := Lib.hid hsz
          clear hw hw2 hr hsz
          cases rt with
          | false =>
            rw [Bool.false_and] at HR2
            clear hgood
            go_wp2_with fail
            go_roundw
            case rel => exact ⟨j + 1, L, false, wd ++ s.extract j (j + 1), by omega, by go_num, rfl, rfl, HSZ.out, by omega, HO.out, HW2.out, HR2.out, HB.out⟩
            case measure => simp [intOf]; omega
          | true =>
            rw [Bool.true_and] at HR2
            by_cases h1 : 33 ≤ b.toNat
            · have p1 : decide ((33 : Int) ≤ ((b.toNat : Nat) : Int)) = true := decide_eq_true (by omega)
              by_cases h2 : b.toNat ≤ 126
              · have p2 : decide (((b.toNat : Nat) : Int) ≤ 126) = true := decide_eq_true (by omega)
                rw [hgood, decide_eq_true h1, decide_eq_true h2] at HR2
                clear hgood
                go_wp2_with fail
                go_roundw
                case rel => exact ⟨j + 1, L, true, wd ++ s.extract j (j + 1), by omega, by go_num, rfl, rfl, HSZ.out, by omega, HO.out, HW2.out, HR2.out, HB.out⟩
                case measure => simp [intOf]; omega
              · have p2 : decide (((b.toNat : Nat) : Int) ≤ 126) = false := decide_eq_false (by omega)
                rw [hgood, decide_eq_true h1, decide_eq_false h2] at HR2
                clear hgood
                go_wp2_with fail
                go_roundw
                case rel => exact ⟨j + 1, L, false, wd ++ s.extract j (j + 1), by omega, by go_num, rfl, rfl, HSZ.out, by omega, HO.out, HW2.out, HR2.out, HB.out⟩
                case measure => simp [intOf]; omega
            · have p1 : decide ((33 : Int) ≤ ((b.toNat : Nat) : Int)) = false := decide_eq_false (by omega)
              rw [hgood, decide_eq_false h1] at HR2
              clear hgood
              go_wp2_with fail
              go_roundw
              case rel => exact ⟨j + 1, L, false, wd ++ s.extract j (j + 1), by omega, by go_num, rfl, rfl, HSZ.out, by omega, HO.out, HW2.out, HR2.out, HB.out⟩
              case measure => simp [intOf]; omega
    · have q0 : decide ((j : Int) < (s.size : Int)) = false := decide_eq_false (by omega)
      have hce : cutHash (s.data.toList.drop j) = [] := by rw [List.drop_eq_nil_of_le (by omega)]; rfl
      obtain ⟨he1, he2⟩ := hend hce
      cases hwe : wd.data.toList with
      | nil =>
        have p1 := empty_tt hwe
        rw [hwe, if_pos rfl, List.append_nil] at he1
        have hwd2 : (wordsL (cutHash s.data.toList)).map toB = L := by
          rw [he1, List.map_map]
          conv => rhs; rw [← List.map_id L]
          exact List.map_congr_left fun x _ => (toB_of rfl).symm
        obtain ⟨A2, c2, rfl, hc1, hc2⟩ := HO.out.form
        have HEND : Hid (WordsDoc (cutHash s.data.toList) W (.returned (.tuple #[.slice A2 L.length c2, .bool rt])) wr) := Lib.hid (by
          have hl : (wordsL (cutHash s.data.toList)).length = L.length := by rw [he1, List.length_map]
          refine ⟨HB.out, A2, c2, by rw [hl, he2], ?_⟩
          rw [hwd2, hl]
          exact HO.out)
        clear he1 he2 hwd2 hend
        go_wp2_with fail
        rw [HQ0.out]
        go_ret2
        exact HEND.out
      | cons y ys =>
        have p1 := empty_ff (x := wd) (by rw [hwe]; simp)
        have hwd2 : wordsL (cutHash s.data.toList) = (L ++ [wd]).map fun x => x.data.toList := by
          rw [he1, if_neg (by rw [hwe]; simp), List.map_append]
          rfl
        have hwd3 : (wordsL (cutHash s.data.toList)).map toB = L ++ [wd] := by
          rw [hwd2, List.map_map]
          conv => rhs; rw [← List.map_id (L ++ [wd])]
          exact List.map_congr_left fun x _ => (toB_of rfl).symm
        have HW2 := Lib.hid hwd2
        have HW3 := Lib.hid hwd3
        have HE2 := Lib.hid he2
        clear he1 he2 hwd2 hwd3 hend hwe
        go_wp2_with (at_builtin; go_loud (refine wpList_append_rd rfl (.tmp 53) (.tmp 55) 45 rfl 9 (.string ⟨#[]⟩) 16 Tryz.underlying45 info_str rfl (by omega) (by omega) encS_len encS_one W.heap.size _ L rfl (HO.out.below ((Below.refl _ _).alloc (Nat.le_refl _) _)) _ 1 1 [wd] rfl (rd_str rfl) (by omega) (by simp; omega) ?_; intro v2 w5 ho2 hg2 hat2; have HO5 := Lib.hid ho2; have HB5 : Hid (Below W.heap.size W w5) := Lib.hid (below_own (HB.out.alloc hsb _) (HO.out.below ((Below.refl _ _).alloc (Nat.le_refl _) _)) hg2 (Nat.le_refl _) (by simp; omega)); clear ho2 hg2 hat2))
        obtain ⟨A2, c2, rfl, hc1, hc2⟩ := HO5.out.form
        rw [HQ0.out]
        go_ret2
        have hl : (wordsL (cutHash s.data.toList)).length = (L ++ [wd]).length := by rw [HW2.out, List.length_map]
        refine ⟨HB5.out, A2, c2, by rw [hl, HE2.out]; rfl, ?_⟩
        rw [HW3.out, hl]
        exact HO5.out
end Go.Proofs.YtngihiebkbheaaaGreatDoor
