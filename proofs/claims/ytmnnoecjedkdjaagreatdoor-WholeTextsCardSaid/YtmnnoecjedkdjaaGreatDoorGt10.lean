/- gtext's number; the reader's next row. -/
import Derived.Test.YtmnnoecjedkdjaaGreatDoorGt9
import Derived.BigRegion
import Derived.RegionTactic
set_option linter.unusedSimpArgs false
set_option linter.unusedVariables false
namespace Go.Proofs.YtmnnoecjedkdjaaGreatDoor
open Go.RowKit Txt

theorem Is_num (i c : Int) (hi : i ≠ 0) (hc : c ≠ 0) (W : World) : Calls Tryz.prog 13 #[.iface 27 (.int .i64 c), .iface 27 (.int .i64 i)] W fun e w' => e = .returned (.bool (decide (c = i))) ∧ W = w' :=
  (Is_chain i hi _ _ [] c (.num c hc)).mono fun e w' ⟨h1, h2⟩ => ⟨h1, h2.symm⟩
def NumEIs (r : Except Int Nat) (W : World) (e : Ending) (w' : World) : Prop := Below W.heap.size W w' ∧ match r with
  | .error c => e = .returned (.tuple #[.int .i64 0, .iface 27 (.int .i64 c)])
  | .ok v => e = .returned (.tuple #[.int .i64 (v : Int), .nilIface])
set_option maxRecDepth 100000 in
set_option maxHeartbeats 4000000 in
theorem number_any (s : ByteArray) (most beyond : Int) (W : World) (hs : s.size ≤ 140737488355328) (hm0 : -1 ≤ most) (hm1 : most ≤ 2147483647) (hr : RangeV W) :
    Calls Tryz.prog 52 #[.string s, .int .i64 most, .iface 27 (.int .i64 beyond)] W (NumEIs (numE s.data.toList most beyond) W) := by
  by_cases hneg : most < 0
  · obtain rfl : most = -1 := by omega
    have HN := Lib.hid (Number_any s 18446744073709551615 W hs (by omega) hr)
    have hE : numE s.data.toList (-1) beyond = if formB s.data.toList = true then .error beyond else .error 4 := by
      unfold numE
      by_cases h : formB s.data.toList = true
      · rw [if_pos h, if_pos h, if_pos (by omega)]
      · rw [if_neg h, if_neg h]
    have hT : numT s.data.toList 18446744073709551615 = if formB s.data.toList = true then (if 18446744073709551615 < valN s.data.toList then .error 1 else .ok (valN s.data.toList)) else .error 4 := rfl
    rw [hE]
    rw [hT] at HN
    clear hE hT
    generalize valN s.data.toList = v at *
    generalize formB s.data.toList = fm at *
    go_enter Tryz.func52, Tryz.ntmps52
    refine wp_named ?_
    intro Q0 hQ0
    have HQ0 := Lib.hid hQ0
    clear hQ0
    go_wp2_with fail
    refine HN.out.mono ?_
    rintro e w1 ⟨hb, he⟩
    have HB := Lib.hid hb
    clear hb HN
    cases fm with
    | false =>
      rw [if_neg Bool.false_ne_true] at he
      dsimp only at he
      subst he
      go_wp2_with fail
      refine (Is_num 4 4 (by omega) (by omega) w1).mono ?_
      rintro e w2 ⟨rfl, rfl⟩
      go_wp2_with fail
      rw [HQ0.out]
      go_ret2
      exact ⟨HB.out, rfl⟩
    | true =>
      rw [if_pos rfl] at he
      by_cases hbig : 18446744073709551615 < v
      · rw [if_pos hbig] at he
        dsimp only at he
        subst he
        go_wp2_with fail
        refine (Is_num 4 1 (by omega) (by omega) w1).mono ?_
        rintro e w2 ⟨rfl, rfl⟩
        go_wp2_with fail
        rw [HQ0.out]
        go_ret2
        exact ⟨HB.out, rfl⟩
      · rw [if_neg hbig] at he
        dsimp only at he
        subst he
        go_wp2_with fail
        refine (Is_nil _ _ w1).mono ?_
        rintro e w2 ⟨rfl, rfl⟩
        go_wp2_with fail
        rw [HQ0.out]
        go_ret2
        exact ⟨HB.out, rfl⟩
  · obtain ⟨m, rfl⟩ : ∃ m : Nat, most = (m : Int) := ⟨most.toNat, by omega⟩
    have HN := Lib.hid (Number_any s m W hs (by omega) hr)
    have hE : numE s.data.toList (m : Int) beyond = if formB s.data.toList = true then (if m < valN s.data.toList then .error beyond else .ok (valN s.data.toList)) else .error 4 := by
      unfold numE
      by_cases h : formB s.data.toList = true
      · rw [if_pos h, if_pos h]
        by_cases h2 : m < valN s.data.toList
        · rw [if_pos h2, if_pos (by omega)]
        · rw [if_neg h2, if_neg (by omega)]
      · rw [if_neg h, if_neg h]
    have hT : numT s.data.toList m = if formB s.data.toList = true then (if m < valN s.data.toList then .error 1 else .ok (valN s.data.toList)) else .error 4 := rfl
    rw [hE]
    rw [hT] at HN
    clear hE hT
    generalize valN s.data.toList = v at *
    generalize formB s.data.toList = fm at *
    have g0 : decide ((m : Int) < 0) = false := decide_eq_false (by omega)
    have hw1 : IntKind.u64.wrap (m : Int) = (m : Int) := by rw [IntKind.wrap_u64]; omega
    go_enter Tryz.func52, Tryz.ntmps52
    refine wp_named ?_
    intro Q0 hQ0
    have HQ0 := Lib.hid hQ0
    clear hQ0
    go_wp2_with fail
    refine HN.out.mono ?_
    rintro e w1 ⟨hb, he⟩
    have HB := Lib.hid hb
    clear hb HN
    cases fm with
    | false =>
      rw [if_neg Bool.false_ne_true] at he
      dsimp only at he
      subst he
      go_wp2_with fail
      refine (Is_num 1 4 (by omega) (by omega) w1).mono ?_
      rintro e w2 ⟨rfl, rfl⟩
      go_wp2_with fail
      rw [HQ0.out]
      go_ret2
      exact ⟨HB.out, rfl⟩
    | true =>
      rw [if_pos rfl] at he
      by_cases hbig : m < v
      · rw [if_pos hbig] at he
        rw [if_pos rfl, if_pos hbig] at HQ0
        dsimp only at he
        subst he
        go_wp2_with fail
        refine (Is_num 1 1 (by omega) (by omega) w1).mono ?_
        rintro e w2 ⟨rfl, rfl⟩
        go_wp2_with fail
        rw [HQ0.out]
        go_ret2
        exact ⟨HB.out, rfl⟩
      · rw [if_neg hbig] at he
        rw [if_pos rfl, if_neg hbig] at HQ0
        dsimp only at he
        subst he
        have hw2 : IntKind.i64.wrap (v : Int) = (v : Int) := by rw [IntKind.wrap_i64]; omega
        go_wp2_with fail
        refine (Is_nil _ _ w1).mono ?_
        rintro e w2 ⟨rfl, rfl⟩
        go_wp2_with fail
        rw [HQ0.out]
        go_ret2
        exact ⟨HB.out, rfl⟩
end Go.Proofs.YtmnnoecjedkdjaaGreatDoor
