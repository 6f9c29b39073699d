/- The law StampFixed: the document's examples; nil; the limits; the first ages. -/
import Derived.Test.YteejmocdagdeeaaDoorDoor3
set_option linter.unusedSimpArgs false
set_option linter.unusedVariables false
namespace Go.Proofs.YteejmocdagdeeaaDoor
open Go.RowKit

/-! ### nil -/
theorem Reset_nil (w : World) : Calls Tryd.prog 15 #[.pointer none] w fun e w' => e = .returned (.tuple #[]) ∧ w' = w := by
  go_enter Tryd.func15, Tryd.ntmps15
  go_wp2
  go_returns
  exact ⟨rfl, rfl⟩
theorem Get_nil (i : Int) (w : World) : Calls Tryd.prog 12 #[.pointer none, .int .i64 i] w fun e w' => e = .returned (.tuple #[.int .u64 0, .bool false]) ∧ Drawn w w' := by
  go_enter Tryd.func12, Tryd.ntmps12
  go_wp2_with (go_quiet (fail))
  go_ret2
  exact ⟨rfl, _, rfl⟩
theorem Len_nil (w : World) : Calls Tryd.prog 11 #[.pointer none] w fun e w' => e = .returned (.int .i64 0) ∧ w' = w := by
  go_enter Tryd.func11, Tryd.ntmps11
  go_wp2_with fail
  go_ret
  exact ⟨rfl, rfl⟩
theorem All_nil (w : World) : Calls Tryd.prog 17 #[.pointer none] w fun e w' => e = .returned (.slice none 0 0) ∧ w' = w := by
  go_enter Tryd.func17, Tryd.ntmps17
  go_wp2_with fail
  go_ret
  exact ⟨rfl, rfl⟩
theorem Set_nil (i v : Int) (w : World) : Calls Tryd.prog 13 #[.pointer none, .int .i64 i, .int .u64 v] w fun e w' => e = .returned (errV 19) ∧ w' = w := by
  go_enter Tryd.func13, Tryd.ntmps13
  go_wp2_with fail
  go_ret
  exact ⟨rfl, rfl⟩
theorem E_any (c : Int) (w : World) : Calls Tryd.prog 14 #[.int .i64 c] w fun e w' => e = .returned (toldV c) ∧ Below w.heap.size w w' := by
  go_enter Tryd.func14, Tryd.ntmps14
  go_wp2_with fail
  go_returns
  exact ⟨rfl, (Below.refl _ w).alloc (Nat.le_refl _) _⟩
theorem New_outE (i : Int) (age : Int) (w : World) (hi : i < 0 ∨ 65536 < i) (h0 : -9223372036854775808 ≤ i) (h1 : i ≤ 9223372036854775807) :
    Calls Tryd.prog 6 #[.int .i64 i, .int .u32 age] w fun e w' => e = .returned (.tuple #[.pointer none, errV 1]) ∧ Below w.heap.size w w' := New_out i age w hi h0 h1
theorem picks_one (i : Nat) : ∀ n, picks (fun j => decide (j = i)) n = if i < n then [(i : Int)] else []
  | 0 => by simp [picks_zero]
  | n + 1 => by
    rw [picks_succ, picks_one i n]
    by_cases h : i < n
    · have e : ¬ n = i := by omega
      simp [h, e, Nat.lt_succ_of_lt h]
    · by_cases e : n = i
      · subst e; simp
      · have e2 : ¬ i < n + 1 := by omega
        simp [h, e, e2]
theorem marks_one (n i : Nat) (v : Int) (h : i < n) : marks (put (empty n) i v) = [(i : Int)] := by
  unfold marks
  have e : (fun j => ((put (empty n) i v).getD j none).isSome) = fun j => decide (j = i) := by
    funext j
    unfold put empty
    rw [if_pos (by omega), Int.toNat_natCast, List.getD_eq_getElem?_getD, List.getElem?_set]
    by_cases e : i = j
    · subst e; simp [h]
    · rw [if_neg e, List.getElem?_replicate]
      rw [decide_eq_false (fun h => e h.symm)]
      split <;> rfl
  rw [e, put_len, empty, List.length_replicate, picks_one, if_pos h]
theorem addr0 (b j : Nat) : (⟨b, 0, none⟩ : Addr).add j = ⟨b, j, none⟩ := by
  unfold Addr.add
  split
  · simp_all
  · simp
theorem rd_ages (w : World) : Rd 1 (fun x => [Value.int .u32 x]) (w.alloc (.cells #[.int .u32 0, .int .u32 1, .int .u32 4294967295, .int .u32 4294967294] 22)) (some ⟨w.heap.size, 0, none⟩) 4 [0, 1, 4294967295, 4294967294] :=
  rd_new (enc := fun x : Int => [Value.int .u32 x]) (sz := 1) (fun _ => rfl) w _ [0, 1, 4294967295, 4294967294]
theorem ages_in : ∀ x ∈ ([0, 1, 4294967295, 4294967294] : List Int), 0 ≤ x ∧ x ≤ 4294967295 := by decide
theorem New_big (w : World) : Calls Tryd.prog 6 #[.int .i64 65536, .int .u32 5] w fun e w' => ∃ b g m, e = .returned (.tuple #[.pointer (some ⟨b, 0, none⟩), .nilIface]) ∧
    St w' b g m ∧ Below w.heap.size w w' ∧ w.heap.size ≤ b ∧ w.heap.size ≤ g ∧ m.length = 65536 ∧ marks (put m 65535 3) = [65535] :=
  (New_ex 65536 5 w (by omega) (by omega) (by omega)).mono fun e w' ⟨b, g, he, hs, hb, h1, h2⟩ => ⟨b, g, _, he, hs, hb, h1, h2, List.length_replicate, marks_one 65536 65535 3 (by omega)⟩

set_option maxHeartbeats 4000000 in
set_option maxRecDepth 100000 in
theorem StampFixed_walk (w : World) (hg : ErrT w) : Calls Tryd.prog 4 #[] w (BoolBelow true w) := by
  have HG := Lib.hid hg
  clear hg
  go_enter Tryd.func4, Tryd.ntmps4
  go_wp2_with fail
  refine (awake_any w).mono ?_
  rintro e w1 ⟨rfl, hb1⟩
  have B1 := Lib.hid hb1
  clear hb1
  go_wp2_with fail
  have HR := Lib.hid (rd_ages w1)
  have BA := Lib.hid (B1.out.alloc B1.out.size (.cells #[.int .u32 0, .int .u32 1, .int .u32 4294967295, .int .u32 4294967294] 22))
  generalize w1.alloc (.cells #[.int .u32 0, .int .u32 1, .int .u32 4294967295, .int .u32 4294967294] 22) = wA at *
  go_loopw [21] (fun i wr => ∃ j : Nat, j ≤ 4 ∧ i = .int .i64 j ∧ Below wA.heap.size wA wr) (fun i _ => 4 - (intOf i).toNat)
  case atStart => exact ⟨0, by omega, rfl, Below.refl _ _⟩
  case round =>
    obtain ⟨j, hj, rfl, hb⟩ := hrel
    have HB := Lib.hid hb
    clear hb
    by_cases hlt : j < 4
    · obtain ⟨ad, hA, c0⟩ := (HR.out.below HB.out).at1 (f := Value.int .u32) hlt
      injection hA with hA
      subst hA
      rw [addr0] at c0
      have hage := ages_in _ (List.getElem_mem (show j < ([0, 1, 4294967295, 4294967294] : List Int).length from hlt))
      generalize ([0, 1, 4294967295, 4294967294] : List Int)[j]'(by simpa using hlt) = age at *
      have HAG := Lib.hid hage
      clear hage
      go_wp2_with fail
      refine (New_ex 3 age wr (by omega) HAG.out.1 HAG.out.2).mono ?_
      rintro e w2 ⟨b, g, rfl, hs2, hb2, hbb, hgg⟩
      have S2 := Lib.hid hs2
      have B2 := Lib.hid (HB.out.trans (hb2.mono HB.out.size))
      have LBG : Hid (wA.heap.size ≤ b ∧ wA.heap.size ≤ g) := Lib.hid ⟨Nat.le_trans HB.out.size hbb, Nat.le_trans HB.out.size hgg⟩
      clear hs2 hb2 hbb hgg
      go_wp2_with fail
      refine (Len_St S2.out).mono ?_
      rintro e w3 ⟨rfl, h⟩
      obtain rfl := h.symm
      clear h
      rw [held_empty]
      go_wp2_with fail
      obtain ⟨W2, rfl⟩ : ∃ W2 : World, W2 = w2 := ⟨_, rfl⟩
      go_loopw [37] (fun i wl => ∃ q : Nat, q ≤ 3 ∧ i = .int .i64 q ∧ Drawn W2 wl) (fun i _ => 3 - (intOf i).toNat)
      case atStart => exact ⟨0, by omega, rfl, Drawn.refl _⟩
      case round =>
        obtain ⟨q, hq, rfl, hd⟩ := hrel
        have HD := Lib.hid hd
        clear hd
        by_cases hlt2 : q < 3
        · go_wp2_with fail
          refine (Get_St (S2.out.drawn HD.out) q (by simp [empty]) (by omega) (by omega)).mono ?_
          rintro e w5 ⟨rfl, hd5⟩
          rw [look_empty]
          simp only [got]
          have HD5 := Lib.hid (HD.out.trans hd5)
          clear hd5
          go_wp2_with fail
          go_roundw
          case rel => exact ⟨q + 1, by omega, by go_num, HD5.out⟩
          case measure => simp [intOf]; omega
        · obtain rfl : q = 3 := by omega
          go_wp2_with fail
          refine (Set_c (S2.out.drawn HD.out) (n := 3) List.length_replicate 3 1 (by omega) (by omega) (by omega)).mono ?_
          rintro e w5 ⟨rfl, hs5, ht5⟩
          rw [show cOf 3 3 = 7 from rfl]
          have S5 := Lib.hid hs5
          have B5 := Lib.hid (ht5.below (B2.out.trans (HD.out.below _)) LBG.out.1 LBG.out.2)
          clear hs5 ht5
          go_wp2_with fail
          refine (E_any 7 w5).mono ?_
          rintro e w6 ⟨rfl, hb6⟩
          have S6 := Lib.hid (S5.out.below hb6)
          have B6 := Lib.hid (B5.out.trans (hb6.mono B5.out.size))
          clear hb6
          go_wp2_with fail
          refine (Same_told 7 w6 (HG.out.below (BA.out.trans (B6.out.mono BA.out.size)))).mono ?_
          rintro e w7 ⟨rfl, hb7⟩
          have S7 := Lib.hid (S6.out.below hb7)
          have B7 := Lib.hid (B6.out.trans (hb7.mono B6.out.size))
          clear hb7
          go_wp2_with fail
          refine (Set_c S7.out (n := 3) (by rw [put_len]; exact List.length_replicate) (-1) 1 (by omega) (by omega) (by omega)).mono ?_
          rintro e w8 ⟨rfl, hs8, ht8⟩
          rw [show cOf 3 (-1) = 7 from rfl]
          have B8 := Lib.hid (ht8.below B7.out LBG.out.1 LBG.out.2)
          clear hs8 ht8
          go_wp2_with fail
          refine (E_any 7 w8).mono ?_
          rintro e w9 ⟨rfl, hb9⟩
          have B9 := Lib.hid (B8.out.trans (hb9.mono B8.out.size))
          clear hb9
          go_wp2_with fail
          refine (Same_told 7 w9 (HG.out.below (BA.out.trans (B9.out.mono BA.out.size)))).mono ?_
          rintro e w10 ⟨rfl, hb10⟩
          have B10 := Lib.hid (B9.out.trans (hb10.mono B9.out.size))
          clear hb10
          go_wp2_with fail
          go_roundw
          case rel => exact ⟨j + 1, by omega, by go_num, B10.out⟩
          case measure => simp [intOf]; omega
    · obtain ⟨q4, rfl⟩ : ∃ q4 : Nat, j = q4 := ⟨j, rfl⟩
      go_wp2_with fail
      have C1 := Lib.hid (BA.out.trans (HB.out.mono BA.out.size))
      refine (New_outE 65537 0 wr (by omega) (by omega) (by omega)).mono ?_
      rintro e w2 ⟨rfl, hb2⟩
      have C2 := Lib.hid (C1.out.trans (hb2.mono C1.out.size))
      clear hb2
      go_wp2_with fail
      refine (New_outE (-1) 0 w2 (by omega) (by omega) (by omega)).mono ?_
      rintro e w3 ⟨rfl, hb3⟩
      have C3 := Lib.hid (C2.out.trans (hb3.mono C2.out.size))
      clear hb3
      go_wp2_with fail
      refine (New_big w3).mono ?_
      rintro e w4 ⟨b, g, m, rfl, hs4, hb4, hbb, hgg, hml, hmk⟩
      have C4 := Lib.hid (C3.out.trans (hb4.mono C3.out.size))
      have S4 := Lib.hid hs4
      have HML := Lib.hid hml
      have HMK := Lib.hid hmk
      have LBG : Hid (w.heap.size ≤ b ∧ w.heap.size ≤ g) := Lib.hid ⟨Nat.le_trans C3.out.size hbb, Nat.le_trans C3.out.size hgg⟩
      clear hb4 hs4 hml hmk hbb hgg
      go_wp2_with fail
      refine (Reset_nil w4).mono ?_
      rintro e w5 ⟨rfl, rfl⟩
      go_wp2_with fail
      refine (Get_nil 0 _).mono ?_
      rintro e w4' ⟨rfl, hdn⟩
      have C4 := Lib.hid (C4.out.trans (hdn.below _))
      have S4 := Lib.hid (S4.out.drawn hdn)
      clear hdn
      go_wp2_with fail
      refine (E_any 1 _).mono ?_
      rintro e w5 ⟨rfl, hb5⟩
      have C5 := Lib.hid (C4.out.trans (hb5.mono C4.out.size))
      have S5 := Lib.hid (S4.out.below hb5)
      clear hb5
      go_wp2_with fail
      refine (Same_told 1 w5 (HG.out.below C5.out)).mono ?_
      rintro e w6 ⟨rfl, hb6⟩
      have C6 := Lib.hid (C5.out.trans (hb6.mono C5.out.size))
      have S6 := Lib.hid (S5.out.below hb6)
      clear hb6
      go_wp2_with fail
      refine (E_any 1 _).mono ?_
      rintro e w7 ⟨rfl, hb7⟩
      have C7 := Lib.hid (C6.out.trans (hb7.mono C6.out.size))
      have S7 := Lib.hid (S6.out.below hb7)
      clear hb7
      go_wp2_with fail
      refine (Same_told 1 w7 (HG.out.below C7.out)).mono ?_
      rintro e w8 ⟨rfl, hb8⟩
      have C8 := Lib.hid (C7.out.trans (hb8.mono C7.out.size))
      have S8 := Lib.hid (S7.out.below hb8)
      clear hb8
      go_wp2_with fail
      refine (Set_c S8.out HML.out 65535 3 (by omega) (by omega) (by omega)).mono ?_
      rintro e w9 ⟨rfl, hs9, ht9⟩
      rw [show errV (cOf 65536 65535) = Value.nilIface from by unfold cOf errV; rw [if_pos (by omega)]]
      have C9 := Lib.hid (ht9.below C8.out LBG.out.1 LBG.out.2)
      have S9 := Lib.hid hs9
      clear hs9 ht9
      go_wp2_with fail
      refine (All_St S9.out (by rw [put_len, HML.out]; omega)).mono ?_
      rintro e w10 ⟨v10, rfl, ho, hb10⟩
      rw [HMK.out] at ho
      obtain ⟨A10, c10, rfl, hc10, hm10⟩ := ho.form
      have R10 := Lib.hid (ho.rd i64s_len rfl)
      have C10 := Lib.hid (C9.out.trans (hb10.mono C9.out.size))
      clear ho hb10 hc10 hm10
      go_wp2_with fail
      refine (SameInts_any _ _ _ [65535] _ _ _ [65535] _ (R10.out.below ((Below.refl _ _).alloc (Nat.le_refl _) _)) (rd_one rfl) (by simp)).mono ?_
      rintro e w11 ⟨rfl, hd11⟩
      rw [decide_eq_true rfl]
      have C11 := Lib.hid ((C10.out.alloc C10.out.size _).trans (hd11.below _))
      clear hd11
      go_wp2_with fail
      refine (Len_nil _).mono ?_
      rintro e w12 ⟨rfl, rfl⟩
      go_wp2_with fail
      refine (All_nil _).mono ?_
      rintro e w12 ⟨rfl, rfl⟩
      go_wp2_with fail
      refine (Set_nil 0 0 _).mono ?_
      rintro e w12 ⟨rfl, rfl⟩
      go_wp2_with fail
      refine (E_any 19 _).mono ?_
      rintro e w13 ⟨rfl, hb13⟩
      have C13 := Lib.hid (C11.out.trans (hb13.mono C11.out.size))
      clear hb13
      go_wp2_with fail
      refine (Same_told 19 w13 (HG.out.below C13.out)).mono ?_
      rintro e w14 ⟨rfl, hb14⟩
      have C14 := Lib.hid (C13.out.trans (hb14.mono C13.out.size))
      clear hb14
      go_wp2_with fail
      go_ret
      exact ⟨rfl, C14.out⟩
end Go.Proofs.YteejmocdagdeeaaDoor
