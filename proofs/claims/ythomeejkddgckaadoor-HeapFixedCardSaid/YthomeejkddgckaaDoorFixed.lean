/- The law HeapFixed: the document's examples; nil; the limits. -/
import Derived.Test.YthomeejkddgckaaDoorHeap8
import Derived.Test.YthomeejkddgckaaDoorErrs6
set_option linter.unusedSimpArgs false
set_option linter.unusedVariables false
namespace Go.Proofs.YthomeejkddgckaaDoor
open Go.RowKit

theorem check_nil (id : Int) (w : World) : Calls Tryd.prog 26 #[.pointer none, .int .u32 id] w fun e w' => e = .returned (errV 19) ∧ w' = w := by
  go_enter Tryd.func26, Tryd.ntmps26
  go_wp2_with fail
  go_ret
  exact ⟨rfl, rfl⟩
theorem Key_nil (id : Int) (w : World) : Calls Tryd.prog 15 #[.pointer none, .int .u32 id] w fun e w' => e = .returned (.tuple #[.int .u64 0, .bool false]) ∧ Drawn w w' := by
  go_enter Tryd.func15, Tryd.ntmps15
  go_wp2_with fail
  refine (check_nil id w).mono ?_
  rintro e w2 ⟨rfl, h⟩
  obtain rfl := h.symm
  clear h
  rw [show errV 19 = .iface 55 (.int .i64 19) from rfl]
  go_wp2_with fail
  go_ret2
  exact ⟨rfl, by first | exact Drawn.refl _ | exact drawn_one _ _⟩
theorem Top_nil (w : World) : Calls Tryd.prog 20 #[.pointer none] w fun e w' => e = .returned (.tuple #[.int .u32 0, .int .u64 0, .bool false]) ∧ Drawn w w' := by
  go_enter Tryd.func20, Tryd.ntmps20
  go_wp2_with fail
  go_ret3
  exact ⟨rfl, by first | exact Drawn.refl _ | exact drawn_one _ _⟩
theorem Pop_nil (w : World) : Calls Tryd.prog 19 #[.pointer none] w fun e w' => e = .returned (.tuple #[.int .u32 0, .int .u64 0, .bool false]) ∧ Drawn w w' := by
  go_enter Tryd.func19, Tryd.ntmps19
  go_wp2_with fail
  refine (Top_nil w).mono ?_
  rintro e w2 ⟨rfl, hd⟩
  have HD := Lib.hid hd
  clear hd
  go_wp2_with fail
  go_ret3
  exact ⟨rfl, HD.out⟩
theorem Len_nil (w : World) : Calls Tryd.prog 21 #[.pointer none] w fun e w' => e = .returned (.int .i64 0) ∧ w' = w := by
  go_enter Tryd.func21, Tryd.ntmps21
  go_wp2_with fail
  go_ret
  exact ⟨rfl, rfl⟩
theorem Clear_nil (w : World) : Calls Tryd.prog 13 #[.pointer none] w fun e w' => e = .returned (.tuple #[]) ∧ w' = w := by
  go_enter Tryd.func13, Tryd.ntmps13
  go_wp2_with fail
  go_returns
  exact ⟨rfl, rfl⟩
theorem Set_nil (id key : Int) (w : World) : Calls Tryd.prog 14 #[.pointer none, .int .u32 id, .int .u64 key] w fun e w' => e = .returned (errV 19) ∧ w' = w := by
  go_enter Tryd.func14, Tryd.ntmps14
  go_wp2_with fail
  refine (check_nil id w).mono ?_
  rintro e w2 ⟨rfl, h⟩
  obtain rfl := h.symm
  clear h
  rw [show errV 19 = .iface 55 (.int .i64 19) from rfl]
  go_wp2_with fail
  go_ret
  exact ⟨rfl, rfl⟩
theorem Push_nil (id key : Int) (w : World) : Calls Tryd.prog 17 #[.pointer none, .int .u32 id, .int .u64 key] w fun e w' => e = .returned (errV 19) ∧ Drawn w w' := by
  go_enter Tryd.func17, Tryd.ntmps17
  go_wp2_with fail
  refine (Key_nil id w).mono ?_
  rintro e w2 ⟨rfl, hd⟩
  have HD := Lib.hid hd
  clear hd
  go_wp2_with fail
  refine (Set_nil id key w2).mono ?_
  rintro e w3 ⟨rfl, h⟩
  obtain rfl := h.symm
  clear h
  go_wp2_with fail
  go_ret
  exact ⟨rfl, HD.out⟩
theorem Remove_nil (id : Int) (w : World) : Calls Tryd.prog 16 #[.pointer none, .int .u32 id] w fun e w' => e = .returned (.bool false) ∧ Drawn w w' := by
  go_enter Tryd.func16, Tryd.ntmps16
  go_wp2_with fail
  refine (Key_nil id w).mono ?_
  rintro e w2 ⟨rfl, hd⟩
  have HD := Lib.hid hd
  clear hd
  go_wp2_with fail
  go_ret
  exact ⟨rfl, HD.out⟩
theorem New_out (i : Int) (w : World) (hi : i < 0 ∨ 65536 < i) (h0 : -9223372036854775808 ≤ i) (h1 : i ≤ 9223372036854775807) :
    Calls Tryd.prog 7 #[.int .i64 i] w fun e w' => e = .returned (.tuple #[.pointer none, errV 1]) ∧ w' = w := by
  rcases hi with hi | hi
  · have g1 : decide (i < 0) = true := decide_eq_true hi
    go_enter Tryd.func7, Tryd.ntmps7
    go_wp2_with fail
    go_ret2
    exact ⟨rfl, rfl⟩
  · have hneg : ¬ i < 0 := by omega
    have g1 : decide (i < 0) = false := decide_eq_false hneg
    have g2 : decide (65536 < i) = true := decide_eq_true hi
    go_enter Tryd.func7, Tryd.ntmps7
    go_wp2_with fail
    go_ret2
    exact ⟨rfl, rfl⟩
theorem After.below {w w1 w2 : World} {B b ga : Nat} {v : Value} {m : List (Option Int)} (h : After w B b ga v m w1) (hb : Below w1.heap.size w1 w2) : After w B b ga v m w2 := by
  obtain ⟨v', h', hk, hf⟩ := h
  exact ⟨v', h'.below hb, hk.trans (.of_below hb), hf⟩
theorem After.base {w0 w w' : World} {B b ga : Nat} {m : List (Option Int)} (h : After w B b ga (.slice none 0 0) m w') (hb : Below w0.heap.size w0 w) (h1 : w0.heap.size ≤ b) (h2 : w0.heap.size ≤ ga) : Below w0.heap.size w0 w' := by
  obtain ⟨v', h', hk, hf⟩ := h
  exact hk.below hb (fun k hk => by
    rcases hk with rfl | rfl | e
    · exact h1
    · exact h2
    · cases e) hb.size
theorem top_push (n i : Nat) (k : Int) (h : i < n) : IsTop (pushM (noneH n) i k) (some ((k, i) : It)) := by
  have e : pushM (noneH n) i k = (noneH n).set i (some k) := by
    unfold pushM
    have : lookH (noneH n) i = none := by
      unfold lookH noneH
      rw [List.getD_eq_getElem?_getD, List.getElem?_replicate]
      split <;> rfl
    rw [this]
  rw [e]
  have G : ∀ j, lookH ((noneH n).set i (some k)) j = if j = i then some k else none := fun j => by
    unfold lookH
    rw [List.getD_eq_getElem?_getD, get_set _ (by rw [noneH, List.length_replicate]; exact h)]
    by_cases e : j = i
    · rw [if_pos e, if_pos e]; rfl
    · rw [if_neg e, if_neg e, noneH, List.getElem?_replicate]; split <;> rfl
  refine ⟨by rw [G, if_pos rfl], fun j k' hl => ?_⟩
  rw [G] at hl
  split at hl
  · rename_i e
    subst e
    obtain rfl := Option.some.inj hl
    exact leI_refl _
  · cases hl
theorem New_big (w : World) (B : Nat) (hB : B ≤ w.heap.size) : Calls Tryd.prog 7 #[.int .i64 65536] w fun e w' => ∃ b ga m, e = .returned (.tuple #[.pointer (some ⟨b, 0, none⟩), .nilIface]) ∧
    Hp w' B b ga (.slice none 0 0) m ∧ Below w.heap.size w w' ∧ w.heap.size ≤ b ∧ w.heap.size ≤ ga ∧ m.length = 65536 ∧ IsTop (pushM m 65535 7) (some ((7, 65535) : It)) :=
  (New_ok 65536 w (by omega) B hB).mono fun e w' ⟨b, ga, he, h, hb, h1, h2⟩ => ⟨b, ga, _, he, h, hb, h1, h2, List.length_replicate, top_push 65536 65535 7 (by omega)⟩

set_option maxHeartbeats 8000000 in
set_option maxRecDepth 100000 in
theorem HeapFixed_walk (w : World) (hg : ErrT w) : Calls Tryd.prog 5 #[] w (BoolBelow true w) := by
  have HG := Lib.hid hg
  clear hg
  go_enter Tryd.func5, Tryd.ntmps5
  go_wp2_with fail
  refine (awake_any w).mono ?_
  rintro e x0 ⟨rfl, hb⟩
  have B0 := Lib.hid hb
  clear hb
  go_wp2_with fail
  refine (New_ok 3 x0 (by omega) w.heap.size B0.out.size).mono ?_
  rintro e x1 ⟨bh, gh, rfl, h1, hb1, hbb, hgg⟩
  have Lh : Hid (w.heap.size ≤ bh ∧ w.heap.size ≤ gh) := Lib.hid ⟨Nat.le_trans B0.out.size hbb, Nat.le_trans B0.out.size hgg⟩
  have Wh := Lib.hid (B0.out.trans (hb1.mono B0.out.size))
  have Ah : Hid (After x1 w.heap.size bh gh (.slice none 0 0) (noneH 3) x1) := Lib.hid ⟨_, h1, Kept.refl _ _, Fresh.refl _ _⟩
  have B1 := Wh
  clear h1 hb1 hbb hgg
  go_wp2_with fail
  obtain ⟨v', h', k', f'⟩ := Ah.out
  refine (Set_any h' 0 (by omega) 3 B1.out.size).mono ?_
  rintro e x2 ⟨rfl, ha⟩
  rw [show errH7 (cId (noneH 3).length 0) = Value.nilIface from rfl]
  have Ah : Hid (After x1 w.heap.size bh gh (.slice none 0 0) ([some 3, none, none] : List (Option Int)) x2) := Lib.hid (After.trans k' f' ha)
  have B2 : Hid (Below w.heap.size w x2) := Lib.hid (Ah.out.base Wh.out Lh.out.1 Lh.out.2)
  clear h' k' f' ha
  go_wp2_with fail
  obtain ⟨v', h', k', f'⟩ := Ah.out
  refine (Set_any h' 0 (by omega) 8 B2.out.size).mono ?_
  rintro e x3 ⟨rfl, ha⟩
  rw [show errH7 (cId (([some 3, none, none] : List (Option Int))).length 0) = Value.nilIface from rfl]
  have Ah : Hid (After x1 w.heap.size bh gh (.slice none 0 0) ([some 8, none, none] : List (Option Int)) x3) := Lib.hid (After.trans k' f' ha)
  have B3 : Hid (Below w.heap.size w x3) := Lib.hid (Ah.out.base Wh.out Lh.out.1 Lh.out.2)
  clear h' k' f' ha
  go_wp2_with fail
  obtain ⟨v', h', k', f'⟩ := Ah.out
  refine (Key_any h' 0 (by omega)).mono ?_
  rintro e x4 ⟨rfl, hd⟩
  rw [show lookH ([some 8, none, none] : List (Option Int)) 0 = some 8 from rfl]
  simp only [gotH]
  have Ah := Lib.hid (Ah.out.below (hd.below _))
  have B4 : Hid (Below w.heap.size w x4) := Lib.hid (Ah.out.base Wh.out Lh.out.1 Lh.out.2)
  clear h' k' f' hd
  go_wp2_with fail
  obtain ⟨v', h', k', f'⟩ := Ah.out
  refine (Remove_some h' 0 (by omega) (old := 8) rfl).mono ?_
  rintro e x5 ⟨rfl, ha⟩
  have Ah : Hid (After x1 w.heap.size bh gh (.slice none 0 0) ([none, none, none] : List (Option Int)) x5) := Lib.hid (After.trans k' f' ha)
  have B5 : Hid (Below w.heap.size w x5) := Lib.hid (Ah.out.base Wh.out Lh.out.1 Lh.out.2)
  clear h' k' f' ha
  go_wp2_with fail
  obtain ⟨v', h', k', f'⟩ := Ah.out
  refine (Remove_none h' 0 (by omega) rfl).mono ?_
  rintro e x6 ⟨rfl, hd⟩
  have Ah := Lib.hid (Ah.out.below (hd.below _))
  have B6 : Hid (Below w.heap.size w x6) := Lib.hid (Ah.out.base Wh.out Lh.out.1 Lh.out.2)
  clear h' k' f' hd
  go_wp2_with fail
  obtain ⟨v', h', k', f'⟩ := Ah.out
  refine (Push_any h' 3 (by omega) 1 B6.out.size).mono ?_
  rintro e x7 ⟨rfl, ha⟩
  rw [show errH7 (cId (([none, none, none] : List (Option Int))).length 3) = errV 7 from rfl]
  have Ah : Hid (After x1 w.heap.size bh gh (.slice none 0 0) ([none, none, none] : List (Option Int)) x7) := Lib.hid (After.trans k' f' ha)
  have B7 : Hid (Below w.heap.size w x7) := Lib.hid (Ah.out.base Wh.out Lh.out.1 Lh.out.2)
  clear h' k' f' ha
  go_wp2_with fail
  refine (E_any 7 x7).mono ?_
  rintro e x8 ⟨rfl, hb⟩
  have B8 := Lib.hid (B7.out.trans (hb.mono B7.out.size))
  have Ah := Lib.hid (Ah.out.below hb)
  clear hb
  go_wp2_with fail
  refine (Same_told 7 x8 (HG.out.below B8.out)).mono ?_
  rintro e x9 ⟨rfl, hb⟩
  have B9 := Lib.hid (B8.out.trans (hb.mono B8.out.size))
  have Ah := Lib.hid (Ah.out.below hb)
  clear hb
  go_wp2_with fail
  obtain ⟨v', h', k', f'⟩ := Ah.out
  refine (Set_any h' 4294967295 (by omega) 1 B9.out.size).mono ?_
  rintro e x10 ⟨rfl, ha⟩
  rw [show errH7 (cId (([none, none, none] : List (Option Int))).length 4294967295) = errV 7 from rfl]
  have Ah : Hid (After x1 w.heap.size bh gh (.slice none 0 0) ([none, none, none] : List (Option Int)) x10) := Lib.hid (After.trans k' f' ha)
  have B10 : Hid (Below w.heap.size w x10) := Lib.hid (Ah.out.base Wh.out Lh.out.1 Lh.out.2)
  clear h' k' f' ha
  go_wp2_with fail
  refine (E_any 7 x10).mono ?_
  rintro e x11 ⟨rfl, hb⟩
  have B11 := Lib.hid (B10.out.trans (hb.mono B10.out.size))
  clear hb
  go_wp2_with fail
  refine (Same_told 7 x11 (HG.out.below B11.out)).mono ?_
  rintro e x12 ⟨rfl, hb⟩
  have B12 := Lib.hid (B11.out.trans (hb.mono B11.out.size))
  clear hb
  clear Ah Wh Lh
  go_wp2_with fail
  refine (New_out (-1) x12 (by omega) (by omega) (by omega)).mono ?_
  rintro e x' ⟨rfl, h⟩
  obtain rfl := h.symm
  clear h
  go_wp2_with fail
  refine (New_out 65537 x12 (by omega) (by omega) (by omega)).mono ?_
  rintro e x' ⟨rfl, h⟩
  obtain rfl := h.symm
  clear h
  go_wp2_with fail
  refine (New_big x12 w.heap.size B12.out.size).mono ?_
  rintro e x13 ⟨bb, gb, m, rfl, h1, hb1, hbb, hgg, hml, hmt⟩
  have Lb : Hid (w.heap.size ≤ bb ∧ w.heap.size ≤ gb) := Lib.hid ⟨Nat.le_trans B12.out.size hbb, Nat.le_trans B12.out.size hgg⟩
  have Wb := Lib.hid (B12.out.trans (hb1.mono B12.out.size))
  have Ab : Hid (After x13 w.heap.size bb gb (.slice none 0 0) m x13) := Lib.hid ⟨_, h1, Kept.refl _ _, Fresh.refl _ _⟩
  have HML := Lib.hid hml
  have HMT := Lib.hid hmt
  have B13 := Wb
  clear h1 hb1 hbb hgg hml hmt
  go_wp2_with fail
  refine (E_any 1 x13).mono ?_
  rintro e x14 ⟨rfl, hb⟩
  have B14 := Lib.hid (B13.out.trans (hb.mono B13.out.size))
  have Ab := Lib.hid (Ab.out.below hb)
  clear hb
  go_wp2_with fail
  refine (Same_told 1 x14 (HG.out.below B14.out)).mono ?_
  rintro e x15 ⟨rfl, hb⟩
  have B15 := Lib.hid (B14.out.trans (hb.mono B14.out.size))
  have Ab := Lib.hid (Ab.out.below hb)
  clear hb
  go_wp2_with fail
  refine (E_any 1 x15).mono ?_
  rintro e x16 ⟨rfl, hb⟩
  have B16 := Lib.hid (B15.out.trans (hb.mono B15.out.size))
  have Ab := Lib.hid (Ab.out.below hb)
  clear hb
  go_wp2_with fail
  refine (Same_told 1 x16 (HG.out.below B16.out)).mono ?_
  rintro e x17 ⟨rfl, hb⟩
  have B17 := Lib.hid (B16.out.trans (hb.mono B16.out.size))
  have Ab := Lib.hid (Ab.out.below hb)
  clear hb
  go_wp2_with fail
  obtain ⟨v', h', k', f'⟩ := Ab.out
  refine (Push_any h' 65535 (by omega) 7 B17.out.size).mono ?_
  rintro e x18 ⟨rfl, ha⟩
  rw [show errH7 (cId m.length 65535) = Value.nilIface from by rw [HML.out]; rfl]
  have Ab : Hid (After x13 w.heap.size bb gb (.slice none 0 0) (pushM m 65535 7) x18) := Lib.hid (After.trans k' f' ha)
  have B18 : Hid (Below w.heap.size w x18) := Lib.hid (Ab.out.base Wb.out Lb.out.1 Lb.out.2)
  clear h' k' f' ha
  go_wp2_with fail
  obtain ⟨v', h', k', f'⟩ := Ab.out
  refine (Pop_any h').mono ?_
  rintro e x19 ⟨r, ⟨rfl, ht⟩, ha⟩
  obtain rfl := top_unique ht HMT.out
  have B19 : Hid (Below w.heap.size w x19) := Lib.hid ((After.trans k' f' ha).base Wb.out Lb.out.1 Lb.out.2)
  clear h' k' f' ha ht Ab Lb Wb HML HMT
  simp only [topV]
  go_wp2_with fail
  refine (Clear_nil x19).mono ?_
  rintro e x' ⟨rfl, h⟩
  obtain rfl := h.symm
  clear h
  go_wp2_with fail
  refine (Pop_nil x19).mono ?_
  rintro e x20 ⟨rfl, hd⟩
  have B20 := Lib.hid (B19.out.trans (hd.below _))
  clear hd
  go_wp2_with fail
  refine (Top_nil x20).mono ?_
  rintro e x21 ⟨rfl, hd⟩
  have B21 := Lib.hid (B20.out.trans (hd.below _))
  clear hd
  go_wp2_with fail
  refine (Key_nil 0 x21).mono ?_
  rintro e x22 ⟨rfl, hd⟩
  have B22 := Lib.hid (B21.out.trans (hd.below _))
  clear hd
  go_wp2_with fail
  refine (New_ok 0 x22 (by omega) w.heap.size B22.out.size).mono ?_
  rintro e x23 ⟨bz, gz, rfl, h1, hb1, hbb, hgg⟩
  have Lz : Hid (w.heap.size ≤ bz ∧ w.heap.size ≤ gz) := Lib.hid ⟨Nat.le_trans B22.out.size hbb, Nat.le_trans B22.out.size hgg⟩
  have Wz := Lib.hid (B22.out.trans (hb1.mono B22.out.size))
  have Az : Hid (After x23 w.heap.size bz gz (.slice none 0 0) (noneH 0) x23) := Lib.hid ⟨_, h1, Kept.refl _ _, Fresh.refl _ _⟩
  have B23 := Wz
  clear h1 hb1 hbb hgg
  go_wp2_with fail
  obtain ⟨v', h', k', f'⟩ := Az.out
  refine (Push_any h' 0 (by omega) 0 B23.out.size).mono ?_
  rintro e x24 ⟨rfl, ha⟩
  rw [show errH7 (cId (noneH 0).length 0) = errV 7 from rfl]
  have Az : Hid (After x23 w.heap.size bz gz (.slice none 0 0) ([] : List (Option Int)) x24) := Lib.hid (After.trans k' f' ha)
  have B24 : Hid (Below w.heap.size w x24) := Lib.hid (Az.out.base Wz.out Lz.out.1 Lz.out.2)
  clear h' k' f' ha
  go_wp2_with fail
  refine (E_any 7 x24).mono ?_
  rintro e x25 ⟨rfl, hb⟩
  have B25 := Lib.hid (B24.out.trans (hb.mono B24.out.size))
  clear hb
  go_wp2_with fail
  refine (Same_told 7 x25 (HG.out.below B25.out)).mono ?_
  rintro e x26 ⟨rfl, hb⟩
  have B26 := Lib.hid (B25.out.trans (hb.mono B25.out.size))
  clear hb
  go_wp2_with fail
  refine (Len_nil x26).mono ?_
  rintro e x' ⟨rfl, h⟩
  obtain rfl := h.symm
  clear h
  go_wp2_with fail
  refine (Remove_nil 0 x26).mono ?_
  rintro e x27 ⟨rfl, hd⟩
  have B27 := Lib.hid (B26.out.trans (hd.below _))
  clear hd
  go_wp2_with fail
  refine (Push_nil 0 0 x27).mono ?_
  rintro e x28 ⟨rfl, hd⟩
  have B28 := Lib.hid (B27.out.trans (hd.below _))
  clear hd
  go_wp2_with fail
  refine (E_any 19 x28).mono ?_
  rintro e x29 ⟨rfl, hb⟩
  have B29 := Lib.hid (B28.out.trans (hb.mono B28.out.size))
  clear hb
  go_wp2_with fail
  refine (Same_told 19 x29 (HG.out.below B29.out)).mono ?_
  rintro e x30 ⟨rfl, hb⟩
  have B30 := Lib.hid (B29.out.trans (hb.mono B29.out.size))
  clear hb
  go_wp2_with fail
  refine (Set_nil 9 0 x30).mono ?_
  rintro e x' ⟨rfl, h⟩
  obtain rfl := h.symm
  clear h
  go_wp2_with fail
  refine (E_any 19 x30).mono ?_
  rintro e x31 ⟨rfl, hb⟩
  have B31 := Lib.hid (B30.out.trans (hb.mono B30.out.size))
  clear hb
  go_wp2_with fail
  refine (Same_told 19 x31 (HG.out.below B31.out)).mono ?_
  rintro e x32 ⟨rfl, hb⟩
  have B32 := Lib.hid (B31.out.trans (hb.mono B31.out.size))
  clear hb
  go_wp2_with fail
  go_ret
  exact ⟨rfl, B32.out⟩
end Go.Proofs.YthomeejkddgckaaDoor
