/- errors.Is at strconv.ErrRange; the program's Number. -/
import Derived.Test.YtmnnoecjedkdjaaGreatDoorGt8
import Derived.LaidEql
set_option linter.unusedSimpArgs false
set_option linter.unusedVariables false
namespace Go.Proofs.YtmnnoecjedkdjaaGreatDoor
open Go.RowKit Go.Extern Txt

theorem mtUnwrapP (v : Value) (w : World) : (Go.method 355 209 v "Unwrap").run Tryz.prog w = .ok (182, v) w := by kernel_rfl
theorem noIsP (v : Value) (xT : TypeId) (w : World) : (Instr.typeAssert (.iface 209 v) xT 121 true).run Tryz.prog w = .ok (.tuple #[.nilIface, .bool false]) w := run_typeAssert_lacksB Tryz.underlying121 (by kernel_rfl) (by kernel_rfl) v xT w
theorem hasUnP (v : Value) (xT : TypeId) (w : World) : (Instr.typeAssert (.iface 209 v) xT 124 true).run Tryz.prog w = .ok (.tuple #[.iface 209 v, .bool true]) w := run_typeAssert_hasB Tryz.underlying124 (by kernel_rfl) v xT w
theorem eqPE (v u : Value) (w : World) : (binOp .eql 24 (.iface 209 v) (.iface 225 u)).run Tryz.prog w = .ok (.bool false) w := run_eql_iface_types (P := Tryz.prog) 209 225 v u Tryz.underlying24 (by decide) w
theorem eqEE (a : Addr) (w : World) : (binOp .eql 24 (.iface 225 (.pointer (some a))) (.iface 225 (.pointer (some a)))).run Tryz.prog w = .ok (.bool true) w := by
  obtain ⟨i, hi, hc⟩ := Option.map_eq_some_iff.1 (show (Tryz.prog.info? 225).map (·.comparable) = some true by kernel_rfl)
  obtain ⟨j, hj⟩ := Option.isSome_iff_exists.1 (show (Tryz.prog.info? 227).isSome = true by kernel_rfl)
  exact run_eql_iface_ptr_same w a Tryz.underlying24 Tryz.underlying225 hi hc hj
theorem typeOfE (v : Value) (w : World) : (ReflectliteType.typeOf #[.iface 225 v]).run Tryz.prog w = .ok (.iface 119 (.agg #[.pointer (some ⟨9, 225, none⟩)])) w := by kernel_rfl
theorem compE (w : World) : (compEntry #[.agg #[.pointer (some ⟨9, 225, none⟩)]]).run Tryz.prog w = .ok (.bool true) w := by kernel_rfl
def isNumErr (v : Value) : Nat := match v with
  | .iface t _ => if t = 209 then 1 else 0
  | _ => 0
theorem UnwrapP_any (N : Nat) (E : Value) (w : World) (h : w.cell? ⟨N, 2, none⟩ = some E) :
    Calls Tryz.prog 182 #[.pointer (some ⟨N, 0, none⟩)] w fun e w' => e = .returned E ∧ w = w' := by
  go_enter Tryz.func182, Tryz.ntmps182
  go_wp2_with fail
  go_ret
  exact ⟨rfl, rfl⟩
set_option maxHeartbeats 2000000 in
theorem isRange_any (N : Nat) (a : Addr) (W : World) (hN : W.cell? ⟨N, 2, none⟩ = some (.iface 225 (.pointer (some a)))) :
    Calls Tryz.prog 32 #[.iface 209 (.pointer (some ⟨N, 0, none⟩)), .iface 225 (.pointer (some a)), .bool true] W fun e w' => e = .returned (.bool true) ∧ W = w' := by
  have HN := Lib.hid hN
  have u1 := hasUnP
  have n1 := noIsP
  have m1 := mtUnwrapP
  clear hN
  go_enter Tryz.func32, Tryz.ntmps32
  go_wp2_with fail
  go_loopw [0] (fun E' wl => wl = W ∧ (E' = .iface 209 (.pointer (some ⟨N, 0, none⟩)) ∨ E' = .iface 225 (.pointer (some a)))) (fun E' _ => isNumErr E')
  case atStart => exact ⟨rfl, .inl rfl⟩
  case round =>
    obtain ⟨rfl, rfl | rfl⟩ := hrel
    · have hq := eqPE (.pointer (some ⟨N, 0, none⟩)) (.pointer (some a)) wr
      go_wp2_with fail
      refine (UnwrapP_any N _ wr HN.out).mono ?_
      rintro e w2 ⟨rfl, h⟩
      obtain rfl := h
      go_wp2_with fail
      go_roundw
      case rel => exact ⟨trivial, .inr rfl⟩
      case measure => show (0 : Nat) < 1; omega
    · have hq := eqEE a wr
      go_wp2_with fail
      go_ret
      exact ⟨rfl, rfl⟩
theorem Is_range (N : Nat) (a : Addr) (W : World) (hN : W.cell? ⟨N, 2, none⟩ = some (.iface 225 (.pointer (some a)))) :
    Calls Tryz.prog 13 #[.iface 209 (.pointer (some ⟨N, 0, none⟩)), .iface 225 (.pointer (some a))] W fun e w' => e = .returned (.bool true) ∧ W = w' := by
  have hto := @run_callFunc_extern Tryz.prog 31 _ ReflectliteType.typeOf Tryz.func31 (by kernel_rfl) (by kernel_rfl) (by kernel_rfl) (by kernel_rfl)
  have hco := @run_callFunc_extern Tryz.prog 171 _ compEntry Tryz.func171 (by kernel_rfl) (by kernel_rfl) (by kernel_rfl) (by kernel_rfl)
  have tT := typeOfE
  have cT := compE
  have mR := mtComp
  have HN := Lib.hid hN
  clear hN
  go_enter Tryz.func13, Tryz.ntmps13
  go_wp2_with fail
  refine (isRange_any N a W HN.out).mono ?_
  rintro e w2 ⟨rfl, rfl⟩
  go_wp2_with fail
  go_ret
  exact ⟨rfl, rfl⟩
set_option maxRecDepth 100000 in
theorem Is_nil (t : TypeId) (v : Value) (W : World) : Calls Tryz.prog 13 #[.nilIface, .iface t v] W fun e w' => e = .returned (.bool false) ∧ W = w' := by
  have hq := run_eql_iface_nil_left (P := Tryz.prog) W t v Tryz.underlying24
  go_enter Tryz.func13, Tryz.ntmps13
  go_wp2_with fail
  go_ret
  exact ⟨rfl, rfl⟩
/-- what strconv.ErrRange holds -/
def RangeV (w : World) : Prop := ∃ a : Addr, w.cell? ⟨1, 0, none⟩ = some (.iface 225 (.pointer (some a)))
theorem RangeV.below {w w' : World} (h : RangeV w) (hb : Below w.heap.size w w') : RangeV w' := by
  obtain ⟨a, ha⟩ := h
  exact ⟨a, cell_below hb ha⟩
def NumIs (r : Except Int Nat) (W : World) (e : Ending) (w' : World) : Prop := Below W.heap.size W w' ∧ match r with
  | .error c => e = .returned (.tuple #[.int .u64 0, .iface 27 (.int .i64 c)])
  | .ok v => e = .returned (.tuple #[.int .u64 (v : Int), .nilIface])
set_option maxRecDepth 100000 in
set_option maxHeartbeats 4000000 in
theorem Number_any (s : ByteArray) (most : Nat) (W : World) (hs : s.size ≤ 140737488355328) (hm : most ≤ 18446744073709551615) (hr : RangeV W) :
    Calls Tryz.prog 72 #[.string s, .int .u64 (most : Int)] W (NumIs (numT s.data.toList most) W) := by
  have HRV := Lib.hid hr
  have HD := Lib.hid (digits_any s W hs)
  clear hr
  go_enter Tryz.func72, Tryz.ntmps72
  refine wp_named ?_
  intro Q0 hQ0
  have HQ0 := Lib.hid hQ0
  clear hQ0
  go_wp2_with fail
  refine HD.out.mono ?_
  rintro e w1 ⟨rfl, hb1⟩
  have HB1 := Lib.hid hb1
  have HRV1 := Lib.hid (HRV.out.below hb1)
  clear hb1 HD
  cases hfm : formB s.data.toList with
  | false =>
    have hl : numT s.data.toList most = .error 4 := by unfold numT; rw [hfm, if_neg Bool.false_ne_true]
    have HLE := Lib.hid hl
    clear hl
    go_wp2_with fail
    rw [HQ0.out, HLE.out]
    go_ret2
    exact ⟨HB1.out, rfl⟩
  | true =>
    have hdig : s.data.toList.all digitU = true := by
      have h := hfm
      unfold formB at h
      rw [Bool.and_eq_true] at h
      exact h.1
    have hne : s.data.toList ≠ [] := by
      intro h
      rw [h] at hfm
      cases hfm
    have hl : numT s.data.toList most = if most < valN s.data.toList then .error 1 else .ok (valN s.data.toList) := by unfold numT; rw [hfm, if_pos rfl]
    have hpw := parse_word hdig hne
    have HL := Lib.hid hl
    clear hl hdig hne hfm
    generalize valN s.data.toList = v at *
    obtain ⟨ra, hra⟩ := HRV1.out
    by_cases hv : v ≤ 18446744073709551615
    · rw [if_pos hv] at hpw
      have HP := Lib.hid (Tryz.strconv_ParseUint_10_at64_ok s (by omega) v hpw w1)
      clear hpw
      go_wp2_with fail
      refine HP.out.mono ?_
      rintro e w2 ⟨rfl, hw2⟩
      have hb2 : Below w1.heap.size w1 w2 := by
        rcases hw2 with rfl | rfl
        · exact Below.refl _ _
        · exact Lib.bytesWorld_below _ _ _
      have HB2 := Lib.hid (HB1.out.trans (hb2.mono HB1.out.size))
      have hra2 : w2.cell? ⟨1, 0, none⟩ = some (.iface 225 (.pointer (some ra))) := cell_below hb2 hra
      clear hw2 hra hb2 HP
      go_wp2_with fail
      refine (Is_nil _ _ w2).mono ?_
      rintro e w3 ⟨rfl, rfl⟩
      by_cases hbig : most < v
      · have p1 : decide ((most : Int) < (v : Int)) = true := decide_eq_true (by omega)
        have HLE : Hid (numT s.data.toList most = .error 1) := Lib.hid (by rw [HL.out, if_pos hbig])
        go_wp2_with fail
        rw [HQ0.out, HLE.out]
        go_ret2
        exact ⟨HB2.out, rfl⟩
      · have p1 : decide ((most : Int) < (v : Int)) = false := decide_eq_false (by omega)
        have HLE : Hid (numT s.data.toList most = .ok v) := Lib.hid (by rw [HL.out, if_neg hbig])
        go_wp2_with fail
        rw [HQ0.out, HLE.out]
        go_ret2
        exact ⟨HB2.out, rfl⟩
    · rw [if_neg hv] at hpw
      have HP := Lib.hid (Tryz.strconv_ParseUint_10_at64_range s (by omega) hpw _ w1 hra (.inr ⟨_, _, rfl⟩))
      have HLE : Hid (numT s.data.toList most = .error 1) := Lib.hid (by rw [HL.out, if_pos (by omega)])
      clear hpw
      go_wp2_with fail
      refine HP.out.mono ?_
      rintro e w2 ⟨N, rfl, hN, hcN, hb2⟩
      have HB2 := Lib.hid (HB1.out.trans (hb2.mono HB1.out.size))
      have hra2 : w2.cell? ⟨1, 0, none⟩ = some (.iface 225 (.pointer (some ra))) := cell_below hb2 hra
      have hc2 : w2.cell? ⟨N, 2, none⟩ = some (.iface 225 (.pointer (some ra))) := cell_of_row w2 N 2 _ _ _ hcN
      have HC2 := Lib.hid hc2
      clear hra hb2 HP hcN hc2
      go_wp2_with fail
      refine (Is_range N ra w2 HC2.out).mono ?_
      rintro e w3 ⟨rfl, rfl⟩
      go_wp2_with fail
      rw [HQ0.out, HLE.out]
      go_ret2
      exact ⟨HB2.out, rfl⟩
end Go.Proofs.YtmnnoecjedkdjaaGreatDoor
