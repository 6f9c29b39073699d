/- tooWide, GtextBack. -/
import Derived.Test.YtngihiebkbheaaaGreatDoorGt27
set_option linter.unusedSimpArgs false
set_option linter.unusedVariables false
namespace Go.Proofs.YtngihiebkbheaaaGreatDoor
open Go.RowKit Txt

def longGo : Nat → Bs → Bool
  | _, [] => false
  | n, b :: r => if 200 < (if b = 10 then 0 else n + 1) then true else longGo (if b = 10 then 0 else n + 1) r
theorem longGo_lines : ∀ (t : Bs) (n : Nat), n ≤ 200 → ∀ x xs, linesL t = x :: xs → longGo n t = (decide (200 < n + x.length) || xs.any fun l => decide (200 < l.length))
  | [], n, h, x, xs, e => by
    injection e with e1 e2
    subst e1 e2
    rw [longGo, List.length_nil, decide_eq_false (by omega)]
    rfl
  | b :: t, n, h, x, xs, e => by
    obtain ⟨y, ys, hy⟩ := linesL_ne t
    rw [longGo]
    by_cases hb : b = 10
    · rw [linesL, if_pos hb] at e
      injection e with e1 e2
      subst e1 e2
      rw [if_pos hb, if_neg (by omega), longGo_lines t 0 (by omega) y ys hy, hy, List.length_nil, decide_eq_false (p := 200 < n + 0) (by omega), Nat.zero_add]
      rfl
    · rw [linesL, if_neg hb, hy] at e
      injection e with e1 e2
      subst e1 e2
      rw [if_neg hb]
      by_cases h2 : 200 < n + 1
      · rw [if_pos h2, decide_eq_true (by rw [List.length_cons]; omega)]
        rfl
      · rw [if_neg h2, longGo_lines t (n + 1) (by omega) y ys hy, List.length_cons, show n + (y.length + 1) = n + 1 + y.length by omega]
theorem longGo_long (t : Bs) : longGo 0 t = longB t := by
  obtain ⟨y, ys, hy⟩ := linesL_ne t
  rw [longGo_lines t 0 (by omega) y ys hy]
  unfold longB
  rw [hy, List.any_cons, Nat.zero_add]
theorem eq10 (b : UInt8) : (((b.toNat : Nat) : Int) == 10) = decide (b = 10) := by
  by_cases h : b = 10
  · subst h; rfl
  · rw [decide_eq_false h, beq_eq_false_iff_ne]
    intro e
    exact h (UInt8.toNat_inj.1 (by have : (10 : UInt8).toNat = 10 := rfl; omega))
theorem eq32 (b : UInt8) : (((b.toNat : Nat) : Int) == 32) = decide (b = 32) := by
  by_cases h : b = 32
  · subst h; rfl
  · rw [decide_eq_false h, beq_eq_false_iff_ne]
    intro e
    exact h (UInt8.toNat_inj.1 (by have : (32 : UInt8).toNat = 32 := rfl; omega))
set_option maxHeartbeats 2000000 in
theorem tooWide_any (s : ByteArray) (W : World) (hs : s.size ≤ 140737488355328) : Calls Tryz.prog 19 #[.string s] W fun e w' => e = .returned (.bool (longB s.data.toList)) ∧ W = w' := by
  have hlen := size_list s
  go_enter Tryz.func19, Tryz.ntmps19
  refine wp_named ?_
  intro Q0 hQ0
  have HQ0 := Lib.hid hQ0
  clear hQ0
  go_wp2_with fail
  go_loop [3, 4] (fun nv iv => ∃ j n : Nat, j ≤ s.size ∧ n ≤ 200 ∧ iv = .int .i64 j ∧ nv = .int .i64 n ∧ longGo 0 s.data.toList = longGo n (s.data.toList.drop j)) (fun _ iv => s.size - (intOf iv).toNat)
  case atStart => exact ⟨0, 0, by omega, by omega, rfl, rfl, rfl⟩
  case round =>
    obtain ⟨j, n, hj, hn, rfl, rfl, hst⟩ := hrel
    by_cases hlt : j < s.size
    · have g0 : decide ((j : Int) < (s.size : Int)) = true := decide_eq_true (by omega)
      obtain ⟨b, hb, hdr, htk, hat⟩ := byte_at s hlt
      rw [hdr, longGo] at hst
      have HST := Lib.hid hst
      have he := eq10 b
      have w1 : IntKind.i64.wrap ((n : Int) + 1) = (n : Int) + 1 := by rw [IntKind.wrap_i64]; omega
      have w2 : IntKind.i64.wrap ((j : Int) + 1) = (j : Int) + 1 := by rw [IntKind.wrap_i64]; omega
      clear hst hdr htk hat
      by_cases h10 : b = 10
      · rw [decide_eq_true h10] at he
        have hst := HST.out
        rw [if_pos h10, if_neg (by omega)] at hst
        have HST2 := Lib.hid hst
        clear hst h10 HST
        go_wp2_with fail
        go_round
        case rel => exact ⟨j + 1, 0, by omega, by omega, by go_num, rfl, HST2.out⟩
        case measure => simp [intOf]; omega
      · rw [decide_eq_false h10] at he
        have hst := HST.out
        rw [if_neg h10] at hst
        by_cases h2 : 200 < n + 1
        · have q1 : decide ((200 : Int) < (n : Int) + 1) = true := decide_eq_true (by omega)
          have q1' : decide (200 < n + 1) = true := decide_eq_true h2
          rw [if_pos h2, longGo_long] at hst
          have HST2 := Lib.hid hst
          clear hst h10 HST
          go_wp2_with fail
          rw [HQ0.out]
          go_ret
          exact ⟨by rw [HST2.out]; rfl, rfl⟩
        · have q1 : decide ((200 : Int) < (n : Int) + 1) = false := decide_eq_false (by omega)
          have q1' : decide (200 < n + 1) = false := decide_eq_false h2
          rw [if_neg h2] at hst
          have HST2 := Lib.hid hst
          clear hst h10 HST
          go_wp2_with fail
          go_round
          case rel => exact ⟨j + 1, n + 1, by omega, by omega, by go_num, by go_num, HST2.out⟩
          case measure => simp [intOf]; omega
    · obtain rfl : j = s.size := by omega
      have g0 : decide ((s.size : Int) < (s.size : Int)) = false := decide_eq_false (by omega)
      rw [List.drop_eq_nil_of_le (by omega), longGo_long] at hst
      have HST2 := Lib.hid hst
      clear hst
      go_wp2_with fail
      rw [HQ0.out]
      go_ret
      exact ⟨by rw [HST2.out]; rfl, rfl⟩
theorem wide_len (t : Bs) (h : t.length ≤ 2000) : (headW ++ widenB t).length ≤ 30000 := by
  have := widenB_len t
  rw [List.length_append]
  simp [headW]
  omega
theorem widen_snoc (t : Bs) (b : UInt8) : widenB (t ++ [b]) = widenB t ++ wideB b := by
  unfold widenB
  rw [List.flatMap_append]
  simp
theorem parse_big {t : Bs} (h : 1048576 < t.length) : parseT t = .error (2, none) := by
  unfold parseT rowsT
  rw [if_pos h]
theorem extract_b1 (s : ByteArray) {j : Nat} (hj : j < s.size) {b : UInt8} (hb : s.data.toList.drop j = b :: s.data.toList.drop (j + 1)) : (s.extract j (j + 1)).data.toList = [b] := by
  rw [extract_piece]
  unfold Lib.pieceU
  rw [Nat.add_sub_cancel_left, hb]
  rfl
set_option maxRecDepth 100000 in
set_option maxHeartbeats 16000000 in
theorem GtextBack_walk (a0 : ByteArray) (W : World) (w0 : a0.size ≤ 140737488351232) (hw : Env W) : Calls Tryz.prog 6 #[.string a0] W (BoolBelow true W) := by
  have HW := Lib.hid hw
  have hlen := size_list a0
  clear hw
  go_enter Tryz.func6, Tryz.ntmps6
  refine wp_named ?_
  intro Q0 hQ0
  have HQ0 := Lib.hid hQ0
  clear hQ0
  go_wp2_with fail
  refine (awake_any W HW.out).mono ?_
  rintro e w1 ⟨rfl, hb1⟩
  have HB1 := Lib.hid hb1
  clear hb1
  go_wp2_with fail
  refine (Parse_any a0 w1 (by omega) (HW.out.below HB1.out).maxL (HW.out.below HB1.out).rng).mono ?_
  rintro e w2 ⟨hb2, he⟩
  cases hp : parseT a0.data.toList with
  | error b =>
    rw [hp] at he
    obtain ⟨v, rfl, hpx⟩ := he
    obtain ⟨c, q⟩ := b
    clear hp
    have HB2 := Lib.hid (HB1.out.trans (hb2.mono HB1.out.size))
    have hs2 := hb2.size
    clear hb2
    have hb3 := (Below.refl w2.heap.size w2).alloc (Nat.le_refl _) (.cells #[.int .i64 0, .slice none 0 0] 24)
    have hx3 := cells_new w2 #[.int .i64 0, .slice none 0 0] 24
    have HB3 := Lib.hid (HB2.out.trans (hb3.mono HB2.out.size))
    have hs3 := hb3.size
    clear hb3
    have HP3 := Lib.hid hx3
    clear hx3
    cases q with
    | none =>
      obtain rfl : v = .iface 49 (.int .i64 c) := hpx
      go_upto_region 4 with fail
      generalize w2.alloc (.cells #[.int .i64 0, .slice none 0 0] 24) = w3 at *
      have Pc0 : w3.cell? ⟨w2.heap.size, 0, none⟩ = some (.int .i64 0) := HP3.out.cell 0
      have Pc1 : w3.cell? ⟨w2.heap.size, 1, none⟩ = some (.slice none 0 0) := HP3.out.cell 1
      go_wp2_with fail
      rw [HQ0.out]
      go_ret
      exact ⟨rfl, HB3.out⟩
    | some q =>
      obtain ⟨kx, ax⟩ := q
      obtain ⟨r, rfl, -, -⟩ := hpx
      go_upto_region 4 with fail
      generalize w2.alloc (.cells #[.int .i64 0, .slice none 0 0] 24) = w3 at *
      have Pc0 : w3.cell? ⟨w2.heap.size, 0, none⟩ = some (.int .i64 0) := HP3.out.cell 0
      have Pc1 : w3.cell? ⟨w2.heap.size, 1, none⟩ = some (.slice none 0 0) := HP3.out.cell 1
      go_wp2_with fail
      rw [HQ0.out]
      go_ret
      exact ⟨rfl, HB3.out⟩
  | ok g =>
    rw [hp] at he
    obtain ⟨A2, k2, rfl, ho⟩ := he
    have HO2 := Lib.hid ho
    have hck := parse_ok hp
    have hgl := (chkT_none.1 hck).2.2.1
    have HPA := Lib.hid hp
    have HCKN := Lib.hid hck
    have HPT : Hid (printT g = .ok (printB g)) := Lib.hid (by unfold printT; rw [hck])
    have HPP : Hid ((printB g).length ≤ 1048576 → parseT (printB g) = .ok g) := Lib.hid (fun h => parse_print hck h)
    obtain ⟨n, hn⟩ : ∃ n, g.arcs.length = n := ⟨_, rfl⟩
    have HN := Lib.hid hn
    rw [hn] at HO2 hgl ⊢
    clear ho hp hck hn
    have HB2 := Lib.hid (HB1.out.trans (hb2.mono HB1.out.size))
    have hs2 := hb2.size
    clear hb2
    have hb3 := (Below.refl w2.heap.size w2).alloc (Nat.le_refl _) (.cells #[.int .i64 g.n, .slice A2 n k2] 24)
    have hx3 := cells_new w2 #[.int .i64 g.n, .slice A2 n k2] 24
    have HB3 := Lib.hid (HB2.out.trans (hb3.mono HB2.out.size))
    have HO3 := Lib.hid (HO2.out.below hb3)
    have hs3 := hb3.size
    clear hb3
    have HP3 := Lib.hid hx3
    clear hx3
    go_upto_region 4 with fail
    generalize w2.alloc (.cells #[.int .i64 g.n, .slice A2 n k2] 24) = w3 at *
    have hlP3 := HP3.out.lt
    have Pc0 : w3.cell? ⟨w2.heap.size, 0, none⟩ = some (.int .i64 g.n) := HP3.out.cell 0
    have Pc1 : w3.cell? ⟨w2.heap.size, 1, none⟩ = some (.slice A2 n k2) := HP3.out.cell 1
    have HPR : Hid (Calls Tryz.prog 11 #[.agg #[.int .i64 g.n, .slice A2 n k2]] w3 (PrintIs (printT g) w3)) := Lib.hid (by
      have h := Print_any g A2 k2 w3 (by rw [HN.out]; exact HO3.out.rd encA_len rfl) (by have := HN.out; omega) (HW.out.below HB3.out).tab
      rw [HN.out] at h
      exact h)
    go_wp2_with fail
    refine HPR.out.mono ?_
    rintro e w4 ⟨hb4, he⟩
    rw [HPT.out] at he
    dsimp only at he
    subst he
    clear HPR
    have HB4 := Lib.hid (HB3.out.trans (hb4.mono HB3.out.size))
    have HP4 := Lib.hid (HP3.out.below hb4)
    have HO4 := Lib.hid (HO3.out.below hb4)
    have hs4 := hb4.size
    clear hb4 Pc0 Pc1
    have Pc0 : w4.cell? ⟨w2.heap.size, 0, none⟩ = some (.int .i64 g.n) := HP4.out.cell 0
    have Pc1 : w4.cell? ⟨w2.heap.size, 1, none⟩ = some (.slice A2 n k2) := HP4.out.cell 1
    have HCK : Hid (Calls Tryz.prog 14 #[.agg #[.int .i64 g.n, .slice A2 n k2]] w4 (ErrProg (chkT g) w4)) := Lib.hid (by
      have h := GCheck_any g A2 k2 w4 (by rw [HN.out]; exact HO4.out.rd encA_len rfl) (by have := HN.out; omega)
      rw [HN.out] at h
      exact h)
    go_wp2_with fail
    refine HCK.out.mono ?_
    rintro e w5 ⟨hb5, he⟩
    rw [HCKN.out] at he
    dsimp only at he
    subst he
    clear HCK
    have HB5 := Lib.hid (HB4.out.trans (hb5.mono HB4.out.size))
    have HP5 := Lib.hid (HP4.out.below hb5)
    have HO5 := Lib.hid (HO4.out.below hb5)
    have hs5 := hb5.size
    clear hb5 Pc0 Pc1
    have hss : (toB (printB g)).size = (printB g).length := toB_size _
    have hsz : (toB (printB g)).size ≤ 140737488355328 := by
      have h1 := textOf_len (graphL g) (graphL_ok HCKN.out)
      have h2 : (graphL g).length = n + 2 := by unfold graphL; simp [HN.out]
      rw [h2] at h1
      have h3 : (printB g).length ≤ 201 * (n + 2) := h1
      omega
    have hsl : (toB (printB g)).data.toList = printB g := rfl
    have HSL := Lib.hid hsl
    clear hsl
    generalize toB (printB g) = S at *
    have HPS := Lib.hid (Parse_any S w5 hsz (HW.out.below HB5.out).maxL (HW.out.below HB5.out).rng)
    go_upto_region 9 with fail
    go_wp2_with fail
    refine HPS.out.mono ?_
    rintro e w6 ⟨hb6, he⟩
    clear HPS
    by_cases hl : 1048576 < (printB g).length
    · have q0 : decide ((S.size : Int) ≤ (1048576 : Int)) = false := decide_eq_false (by omega)
      have q0' : decide (S.size ≤ 1048576) = false := decide_eq_false (by omega)
      rw [HSL.out, parse_big hl] at he
      obtain ⟨v, rfl, hpx⟩ := he
      obtain rfl : v = .iface 49 (.int .i64 2) := hpx
      clear hss hsz hl
      have HB6 := Lib.hid (HB5.out.trans (hb6.mono HB5.out.size))
      have HP6 := Lib.hid (HP5.out.below hb6)
      have HO6 := Lib.hid (HO5.out.below hb6)
      have hs6 := hb6.size
      clear hb6
      have hok : ∀ k, (Value.slice A2 n k2).ownBlock = some k → k < w6.heap.size := fun k h => (HO6.out.block h).2
      have hs6W := HB6.out.size
      have hb7 := (Below.refl w6.heap.size w6).alloc (Nat.le_refl _) (.cells #[.int .i64 0, .slice none 0 0] 24)
      have hx7 := cells_new w6 #[.int .i64 0, .slice none 0 0] 24
      have HB7 := Lib.hid (HB6.out.trans (hb7.mono HB6.out.size))
      have HP7 := Lib.hid (HP6.out.below hb7)
      have HO7 := Lib.hid (HO6.out.below hb7)
      have hs7 := hb7.size
      clear hb7
      have HH7 := Lib.hid hx7
      clear hx7
      go_upto_region 10 with fail
      generalize w6.alloc (.cells #[.int .i64 0, .slice none 0 0] 24) = w7 at *
      have hlH7 := HH7.out.lt
      by_cases h2000 : 2000 < a0.size
      · have q1 : decide ((2000 : Int) < (a0.size : Int)) = true := decide_eq_true (by omega)
        have q1' : decide (2000 < a0.size) = true := decide_eq_true h2000
        go_wp2_with fail
        rw [HQ0.out]
        go_ret
        exact ⟨rfl, HB7.out⟩
      · have q1 : decide ((2000 : Int) < (a0.size : Int)) = false := decide_eq_false (by omega)
        have q1' : decide (2000 < a0.size) = false := decide_eq_false h2000
        have HWIDE := Lib.hid (parse_wide HPA.out (by omega))
        have hwl := wide_len a0.data.toList (by omega)
        go_upto_region 16 with fail
        go_loop [8, 9] (fun wv iv => ∃ (j : Nat) (X : ByteArray), j ≤ a0.size ∧ iv = .int .i64 (j : Int) ∧ wv = .string X ∧ X.data.toList = headW ++ widenB (a0.data.toList.take j)) (fun _ iv => a0.size - (intOf iv).toNat)
        case atStart => exact ⟨0, _, by omega, rfl, rfl, rfl⟩
        case round =>
          obtain ⟨j, X, hj, rfl, rfl, hX⟩ := hrel
          have hXl := size_list X
          have hXs : X.size ≤ 30000 := by
            have h1 := widenB_len (a0.data.toList.take j)
            rw [hX, List.length_append, show headW.length = 11 from rfl] at hXl
            rw [List.length_take] at h1
            omega
          have HX := Lib.hid hX
          clear hX hXl
          by_cases hlt : j < a0.size
          · have g0 : decide ((j : Int) < (a0.size : Int)) = true := decide_eq_true (by omega)
            obtain ⟨bb, hb, hdr, htk, hat⟩ := byte_at a0 hlt
            have he1 := eq10 bb
            have he2 := eq32 bb
            have hw1 : IntKind.i64.wrap ((j : Int) + 1) = (j : Int) + 1 := by rw [IntKind.wrap_i64]; omega
            have HTK := Lib.hid htk
            have hx0 : ((X.size : Nat) : Int) ≤ 8388608 := by omega
            have hone := extract_b1 a0 hlt hdr
            have HONE := Lib.hid hone
            have hsz1 : (a0.extract j (j + 1)).size = 1 := by rw [← size_list, hone]; rfl
            clear hdr htk hat hone hXs
            by_cases h10 : bb = 10
            · rw [decide_eq_true h10] at he1
              have hy0 : (((⟨#[9, 10, 32, 32, 35, 32, 109, 111, 114, 101, 10]⟩ : ByteArray).size : Nat) : Int) ≤ 8388608 := by decide
              have HR : Hid ((X ++ ⟨#[9, 10, 32, 32, 35, 32, 109, 111, 114, 101, 10]⟩).data.toList = headW ++ widenB (a0.data.toList.take (j + 1))) := Lib.hid (by
                rw [list_append', HX.out, HTK.out, widen_snoc, ← List.append_assoc, show wideB bb = [9, 10, 32, 32, 35, 32, 109, 111, 114, 101, 10] by rw [h10]; rfl])
              clear h10 hsz1
              go_wp2_with fail
              go_round
              case rel => exact ⟨j + 1, _, by omega, by go_num, rfl, HR.out⟩
              case measure => simp [intOf]; omega
            · rw [decide_eq_false h10] at he1
              by_cases h32 : bb = 32
              · rw [decide_eq_true h32] at he2
                have hy0 : (((⟨#[32, 9]⟩ : ByteArray).size : Nat) : Int) ≤ 8388608 := by decide
                have HR : Hid ((X ++ ⟨#[32, 9]⟩).data.toList = headW ++ widenB (a0.data.toList.take (j + 1))) := Lib.hid (by
                  rw [list_append', HX.out, HTK.out, widen_snoc, ← List.append_assoc, show wideB bb = [32, 9] by rw [h32]; rfl])
                clear h10 h32 hsz1
                go_wp2_with fail
                go_round
                case rel => exact ⟨j + 1, _, by omega, by go_num, rfl, HR.out⟩
                case measure => simp [intOf]; omega
              · rw [decide_eq_false h32] at he2
                have HR : Hid ((X ++ a0.extract j (j + 1)).data.toList = headW ++ widenB (a0.data.toList.take (j + 1))) := Lib.hid (by
                  rw [list_append', HX.out, HTK.out, widen_snoc, ← List.append_assoc, HONE.out, show wideB bb = [bb] by unfold wideB; rw [if_neg h10, if_neg h32]])
                have hy0 : (((a0.extract j (j + 1)).size : Nat) : Int) ≤ 8388608 := by rw [hsz1]; decide
                clear h10 h32
                go_wp2_with fail
                trace_state
                go_round
                case rel => exact ⟨j + 1, _, by omega, by go_num, rfl, HR.out⟩
                case measure => simp [intOf]; omega
          · obtain rfl : j = a0.size := by omega
            have g0 : decide ((a0.size : Int) < (a0.size : Int)) = false := decide_eq_false (by omega)
            have hX := HX.out
            rw [List.take_of_length_le (by omega)] at hX
            have HX2 := Lib.hid hX
            have HPW := Lib.hid (Parse_any X w7 (by omega) (HW.out.below HB7.out).maxL (HW.out.below HB7.out).rng)
            have HTW := Lib.hid (fun w => tooWide_any X w (by omega))
            clear hX HX
            go_upto_region 24 with fail
            go_wp2_with fail
            refine HPW.out.mono ?_
            rintro e w20 ⟨hb20, he⟩
            rw [HX2.out] at he
            clear HPW
            have HB20 := Lib.hid (HB7.out.trans (hb20.mono HB7.out.size))
            have HP20 := Lib.hid (HP7.out.below hb20)
            have HH20 := Lib.hid (HH7.out.below hb20)
            have HO20 := Lib.hid (HO7.out.below hb20)
            have hs20 := hb20.size
            clear hb20
            have hs2050 := HB20.out.size
            have hlh := HH20.out.lt
            have Hc0 : w20.cell? ⟨w6.heap.size, 0, none⟩ = some (.int .i64 0) := HH20.out.cell 0
            have Hf0 := HH20.out.frozen 0
            have Hc1 : w20.cell? ⟨w6.heap.size, 1, none⟩ = some (.slice none 0 0) := HH20.out.cell 1
            have Hf1 := HH20.out.frozen 1
            rcases HWIDE.out with ⟨hlb, er, hpe⟩ | hpo
            · rw [hpe] at he
              obtain ⟨v, rfl, hpx⟩ := he
              have hlb2 : longB X.data.toList = true := by rw [HX2.out]; exact hlb
              have HLB := Lib.hid hlb2
              clear hlb hlb2 hpe
              obtain ⟨c, q⟩ := er
              cases q with
              | none =>
                obtain rfl : v = .iface 49 (.int .i64 c) := hpx
                have hkx : Kept (fun k => k = w6.heap.size) w20 ((w20.setCell ⟨w6.heap.size, 0, none⟩ (.int .i64 0)).setCell ⟨w6.heap.size, 1, none⟩ (.slice none 0 0)) := (((Kept.refl (fun k => k = w6.heap.size) w20).set_ (p := ⟨w6.heap.size, 0, none⟩) (.inl rfl) _).set_ (p := ⟨w6.heap.size, 1, none⟩) (.inl rfl) _)
                have hx21 := ((HH20.out.set_ 0 (.int .i64 0)).set_ 1 (.slice none 0 0))
                simp only [List.setIfInBounds_toArray, List.set_cons_zero, List.set_cons_succ] at hx21
                have HH21 := Lib.hid hx21
                have HB21 := Lib.hid (hkx.below HB20.out (fun k h => by omega) HB20.out.size)
                have HP21 := Lib.hid (hkx.cells HP20.out (fun h => by omega))
                have HO21 := Lib.hid (keptS_own HO20.out hkx (fun k h => by have := hok k h; omega))
                have hs21 := hkx.size
                clear hkx hx21
                go_upto_region 25 with fail
                generalize (w20.setCell ⟨w6.heap.size, 0, none⟩ (.int .i64 0)).setCell ⟨w6.heap.size, 1, none⟩ (.slice none 0 0) = w21 at *
                clear Hc0 Hf0 Hc1 Hf1
                go_wp2_with fail
                refine (HTW.out w21).mono ?_
                rintro e w22 ⟨rfl, rfl⟩
                rw [HLB.out]
                go_wp2_with fail
                rw [HQ0.out]
                go_ret
                exact ⟨rfl, HB21.out⟩
              | some q =>
                obtain ⟨kx, ax⟩ := q
                obtain ⟨r, rfl, -, -⟩ := hpx
                have hkx : Kept (fun k => k = w6.heap.size) w20 ((w20.setCell ⟨w6.heap.size, 0, none⟩ (.int .i64 0)).setCell ⟨w6.heap.size, 1, none⟩ (.slice none 0 0)) := (((Kept.refl (fun k => k = w6.heap.size) w20).set_ (p := ⟨w6.heap.size, 0, none⟩) (.inl rfl) _).set_ (p := ⟨w6.heap.size, 1, none⟩) (.inl rfl) _)
                have hx21 := ((HH20.out.set_ 0 (.int .i64 0)).set_ 1 (.slice none 0 0))
                simp only [List.setIfInBounds_toArray, List.set_cons_zero, List.set_cons_succ] at hx21
                have HH21 := Lib.hid hx21
                have HB21 := Lib.hid (hkx.below HB20.out (fun k h => by omega) HB20.out.size)
                have HP21 := Lib.hid (hkx.cells HP20.out (fun h => by omega))
                have HO21 := Lib.hid (keptS_own HO20.out hkx (fun k h => by have := hok k h; omega))
                have hs21 := hkx.size
                clear hkx hx21
                go_upto_region 25 with fail
                generalize (w20.setCell ⟨w6.heap.size, 0, none⟩ (.int .i64 0)).setCell ⟨w6.heap.size, 1, none⟩ (.slice none 0 0) = w21 at *
                clear Hc0 Hf0 Hc1 Hf1
                go_wp2_with fail
                refine (HTW.out w21).mono ?_
                rintro e w22 ⟨rfl, rfl⟩
                rw [HLB.out]
                go_wp2_with fail
                rw [HQ0.out]
                go_ret
                exact ⟨rfl, HB21.out⟩
            · rw [hpo] at he
              obtain ⟨A9, k9, rfl, ho9⟩ := he
              rw [HN.out] at ho9 ⊢
              have HU20 := Lib.hid ho9
              clear ho9 hpo HWIDE HTW
              have hkx : Kept (fun k => k = w6.heap.size) w20 ((w20.setCell ⟨w6.heap.size, 0, none⟩ (.int .i64 g.n)).setCell ⟨w6.heap.size, 1, none⟩ (.slice A9 n k9)) := (((Kept.refl (fun k => k = w6.heap.size) w20).set_ (p := ⟨w6.heap.size, 0, none⟩) (.inl rfl) _).set_ (p := ⟨w6.heap.size, 1, none⟩) (.inl rfl) _)
              have hx21 := ((HH20.out.set_ 0 (.int .i64 g.n)).set_ 1 (.slice A9 n k9))
              simp only [List.setIfInBounds_toArray, List.set_cons_zero, List.set_cons_succ] at hx21
              have HH21 := Lib.hid hx21
              have HB21 := Lib.hid (hkx.below HB20.out (fun k h => by omega) HB20.out.size)
              have HP21 := Lib.hid (hkx.cells HP20.out (fun h => by omega))
              have HO21 := Lib.hid (keptS_own HO20.out hkx (fun k h => by have := hok k h; omega))
              have HU21 := Lib.hid (keptS_own HU20.out hkx (fun k h => by have := (HU20.out.block h).1; omega))
              have hs21 := hkx.size
              clear hkx hx21
              go_upto_region 25 with fail
              generalize (w20.setCell ⟨w6.heap.size, 0, none⟩ (.int .i64 g.n)).setCell ⟨w6.heap.size, 1, none⟩ (.slice A9 n k9) = w21 at *
              clear Hc0 Hf0 Hc1 Hf1
              have Pc0 : w21.cell? ⟨w2.heap.size, 0, none⟩ = some (.int .i64 g.n) := HP21.out.cell 0
              have Pc1 : w21.cell? ⟨w2.heap.size, 1, none⟩ = some (.slice A2 n k2) := HP21.out.cell 1
              have Hc0 : w21.cell? ⟨w6.heap.size, 0, none⟩ = some ((.int .i64 g.n)) := HH21.out.cell 0
              have Hc1 : w21.cell? ⟨w6.heap.size, 1, none⟩ = some ((.slice A9 n k9)) := HH21.out.cell 1
              have HS := Lib.hid (Same03_eq A2 A9 n k2 k9 g.n g.arcs w21 (by have h := HO21.out.rd encA_len rfl; exact h) (by have h := HU21.out.rd encA_len rfl; exact h) (by omega))
              go_wp2_with fail
              refine HS.out.mono ?_
              rintro e w22 ⟨rfl, hb22⟩
              clear HS
              have HB22 := Lib.hid (HB21.out.trans (hb22.mono HB21.out.size))
              have HP22 := Lib.hid (HP21.out.below hb22)
              have HH22 := Lib.hid (HH21.out.below hb22)
              have HO22 := Lib.hid (HO21.out.below hb22)
              have HU22 := Lib.hid (HU21.out.below hb22)
              have hs22 := hb22.size
              clear hb22 Pc0 Pc1 Hc0 Hc1
              go_wp2_with fail
              rw [HQ0.out]
              go_ret
              exact ⟨rfl, HB22.out⟩
    · have q0 : decide ((S.size : Int) ≤ (1048576 : Int)) = true := decide_eq_true (by omega)
      have q0' : decide (S.size ≤ 1048576) = true := decide_eq_true (by omega)
      rw [HSL.out, HPP.out (by omega)] at he
      obtain ⟨A6, k6, rfl, ho6⟩ := he
      rw [HN.out] at ho6 ⊢
      have HV6 := Lib.hid ho6
      clear ho6 hss hsz hl
      have HB6 := Lib.hid (HB5.out.trans (hb6.mono HB5.out.size))
      have HP6 := Lib.hid (HP5.out.below hb6)
      have HO6 := Lib.hid (HO5.out.below hb6)
      have hs6 := hb6.size
      clear hb6
      have hok : ∀ k, (Value.slice A2 n k2).ownBlock = some k → k < w6.heap.size := fun k h => (HO6.out.block h).2
      have hs6W := HB6.out.size
      have hb7 := (Below.refl w6.heap.size w6).alloc (Nat.le_refl _) (.cells #[.int .i64 g.n, .slice A6 n k6] 24)
      have hx7 := cells_new w6 #[.int .i64 g.n, .slice A6 n k6] 24
      have HB7 := Lib.hid (HB6.out.trans (hb7.mono HB6.out.size))
      have HP7 := Lib.hid (HP6.out.below hb7)
      have HO7 := Lib.hid (HO6.out.below hb7)
      have HV7 := Lib.hid (HV6.out.below hb7)
      have hs7 := hb7.size
      clear hb7
      have HH7 := Lib.hid hx7
      clear hx7
      go_upto_region 10 with fail
      generalize w6.alloc (.cells #[.int .i64 g.n, .slice A6 n k6] 24) = w7 at *
      have hlH7 := HH7.out.lt
      have Pc0 : w7.cell? ⟨w2.heap.size, 0, none⟩ = some (.int .i64 g.n) := HP7.out.cell 0
      have Pc1 : w7.cell? ⟨w2.heap.size, 1, none⟩ = some (.slice A2 n k2) := HP7.out.cell 1
      have Hc0 : w7.cell? ⟨w6.heap.size, 0, none⟩ = some (.int .i64 g.n) := HH7.out.cell 0
      have Hc1 : w7.cell? ⟨w6.heap.size, 1, none⟩ = some (.slice A6 n k6) := HH7.out.cell 1
      have HS := Lib.hid (Same03_eq A2 A6 n k2 k6 g.n g.arcs w7 (HO7.out.rd encA_len rfl) (HV7.out.rd encA_len rfl) (by omega))
      go_wp2_with fail
      refine HS.out.mono ?_
      rintro e w8 ⟨rfl, hb8⟩
      clear HS
      have HB8 := Lib.hid (HB7.out.trans (hb8.mono HB7.out.size))
      have HP8 := Lib.hid (HP7.out.below hb8)
      have HH8 := Lib.hid (HH7.out.below hb8)
      have HO8 := Lib.hid (HO7.out.below hb8)
      have hs8 := hb8.size
      clear hb8 Pc0 Pc1 Hc0 Hc1
      by_cases h2000 : 2000 < a0.size
      · have q1 : decide ((2000 : Int) < (a0.size : Int)) = true := decide_eq_true (by omega)
        have q1' : decide (2000 < a0.size) = true := decide_eq_true h2000
        go_wp2_with fail
        rw [HQ0.out]
        go_ret
        exact ⟨rfl, HB8.out⟩
      · have q1 : decide ((2000 : Int) < (a0.size : Int)) = false := decide_eq_false (by omega)
        have q1' : decide (2000 < a0.size) = false := decide_eq_false h2000
        have HWIDE := Lib.hid (parse_wide HPA.out (by omega))
        have hwl := wide_len a0.data.toList (by omega)
        go_upto_region 16 with fail
        go_loop [8, 9] (fun wv iv => ∃ (j : Nat) (X : ByteArray), j ≤ a0.size ∧ iv = .int .i64 (j : Int) ∧ wv = .string X ∧ X.data.toList = headW ++ widenB (a0.data.toList.take j)) (fun _ iv => a0.size - (intOf iv).toNat)
        case atStart => exact ⟨0, _, by omega, rfl, rfl, rfl⟩
        case round =>
          obtain ⟨j, X, hj, rfl, rfl, hX⟩ := hrel
          have hXl := size_list X
          have hXs : X.size ≤ 30000 := by
            have h1 := widenB_len (a0.data.toList.take j)
            rw [hX, List.length_append, show headW.length = 11 from rfl] at hXl
            rw [List.length_take] at h1
            omega
          have HX := Lib.hid hX
          clear hX hXl
          by_cases hlt : j < a0.size
          · have g0 : decide ((j : Int) < (a0.size : Int)) = true := decide_eq_true (by omega)
            obtain ⟨bb, hb, hdr, htk, hat⟩ := byte_at a0 hlt
            have he1 := eq10 bb
            have he2 := eq32 bb
            have hw1 : IntKind.i64.wrap ((j : Int) + 1) = (j : Int) + 1 := by rw [IntKind.wrap_i64]; omega
            have HTK := Lib.hid htk
            have hx0 : ((X.size : Nat) : Int) ≤ 8388608 := by omega
            have hone := extract_b1 a0 hlt hdr
            have HONE := Lib.hid hone
            have hsz1 : (a0.extract j (j + 1)).size = 1 := by rw [← size_list, hone]; rfl
            clear hdr htk hat hone hXs
            by_cases h10 : bb = 10
            · rw [decide_eq_true h10] at he1
              have hy0 : (((⟨#[9, 10, 32, 32, 35, 32, 109, 111, 114, 101, 10]⟩ : ByteArray).size : Nat) : Int) ≤ 8388608 := by decide
              have HR : Hid ((X ++ ⟨#[9, 10, 32, 32, 35, 32, 109, 111, 114, 101, 10]⟩).data.toList = headW ++ widenB (a0.data.toList.take (j + 1))) := Lib.hid (by
                rw [list_append', HX.out, HTK.out, widen_snoc, ← List.append_assoc, show wideB bb = [9, 10, 32, 32, 35, 32, 109, 111, 114, 101, 10] by rw [h10]; rfl])
              clear h10 hsz1
              go_wp2_with fail
              go_round
              case rel => exact ⟨j + 1, _, by omega, by go_num, rfl, HR.out⟩
              case measure => simp [intOf]; omega
            · rw [decide_eq_false h10] at he1
              by_cases h32 : bb = 32
              · rw [decide_eq_true h32] at he2
                have hy0 : (((⟨#[32, 9]⟩ : ByteArray).size : Nat) : Int) ≤ 8388608 := by decide
                have HR : Hid ((X ++ ⟨#[32, 9]⟩).data.toList = headW ++ widenB (a0.data.toList.take (j + 1))) := Lib.hid (by
                  rw [list_append', HX.out, HTK.out, widen_snoc, ← List.append_assoc, show wideB bb = [32, 9] by rw [h32]; rfl])
                clear h10 h32 hsz1
                go_wp2_with fail
                go_round
                case rel => exact ⟨j + 1, _, by omega, by go_num, rfl, HR.out⟩
                case measure => simp [intOf]; omega
              · rw [decide_eq_false h32] at he2
                have HR : Hid ((X ++ a0.extract j (j + 1)).data.toList = headW ++ widenB (a0.data.toList.take (j + 1))) := Lib.hid (by
                  rw [list_append', HX.out, HTK.out, widen_snoc, ← List.append_assoc, HONE.out, show wideB bb = [bb] by unfold wideB; rw [if_neg h10, if_neg h32]])
                have hy0 : (((a0.extract j (j + 1)).size : Nat) : Int) ≤ 8388608 := by rw [hsz1]; decide
                clear h10 h32
                go_wp2_with fail
                trace_state
                go_round
                case rel => exact ⟨j + 1, _, by omega, by go_num, rfl, HR.out⟩
                case measure => simp [intOf]; omega
          · obtain rfl : j = a0.size := by omega
            have g0 : decide ((a0.size : Int) < (a0.size : Int)) = false := decide_eq_false (by omega)
            have hX := HX.out
            rw [List.take_of_length_le (by omega)] at hX
            have HX2 := Lib.hid hX
            have HPW := Lib.hid (Parse_any X w8 (by omega) (HW.out.below HB8.out).maxL (HW.out.below HB8.out).rng)
            have HTW := Lib.hid (fun w => tooWide_any X w (by omega))
            clear hX HX
            go_upto_region 24 with fail
            go_wp2_with fail
            refine HPW.out.mono ?_
            rintro e w20 ⟨hb20, he⟩
            rw [HX2.out] at he
            clear HPW
            have HB20 := Lib.hid (HB8.out.trans (hb20.mono HB8.out.size))
            have HP20 := Lib.hid (HP8.out.below hb20)
            have HH20 := Lib.hid (HH8.out.below hb20)
            have HO20 := Lib.hid (HO8.out.below hb20)
            have hs20 := hb20.size
            clear hb20
            have hs2050 := HB20.out.size
            have hlh := HH20.out.lt
            have Hc0 : w20.cell? ⟨w6.heap.size, 0, none⟩ = some (.int .i64 g.n) := HH20.out.cell 0
            have Hf0 := HH20.out.frozen 0
            have Hc1 : w20.cell? ⟨w6.heap.size, 1, none⟩ = some (.slice A6 n k6) := HH20.out.cell 1
            have Hf1 := HH20.out.frozen 1
            rcases HWIDE.out with ⟨hlb, er, hpe⟩ | hpo
            · rw [hpe] at he
              obtain ⟨v, rfl, hpx⟩ := he
              have hlb2 : longB X.data.toList = true := by rw [HX2.out]; exact hlb
              have HLB := Lib.hid hlb2
              clear hlb hlb2 hpe
              obtain ⟨c, q⟩ := er
              cases q with
              | none =>
                obtain rfl : v = .iface 49 (.int .i64 c) := hpx
                have hkx : Kept (fun k => k = w6.heap.size) w20 ((w20.setCell ⟨w6.heap.size, 0, none⟩ (.int .i64 0)).setCell ⟨w6.heap.size, 1, none⟩ (.slice none 0 0)) := (((Kept.refl (fun k => k = w6.heap.size) w20).set_ (p := ⟨w6.heap.size, 0, none⟩) (.inl rfl) _).set_ (p := ⟨w6.heap.size, 1, none⟩) (.inl rfl) _)
                have hx21 := ((HH20.out.set_ 0 (.int .i64 0)).set_ 1 (.slice none 0 0))
                simp only [List.setIfInBounds_toArray, List.set_cons_zero, List.set_cons_succ] at hx21
                have HH21 := Lib.hid hx21
                have HB21 := Lib.hid (hkx.below HB20.out (fun k h => by omega) HB20.out.size)
                have HP21 := Lib.hid (hkx.cells HP20.out (fun h => by omega))
                have HO21 := Lib.hid (keptS_own HO20.out hkx (fun k h => by have := hok k h; omega))
                have hs21 := hkx.size
                clear hkx hx21
                go_upto_region 25 with fail
                generalize (w20.setCell ⟨w6.heap.size, 0, none⟩ (.int .i64 0)).setCell ⟨w6.heap.size, 1, none⟩ (.slice none 0 0) = w21 at *
                clear Hc0 Hf0 Hc1 Hf1
                go_wp2_with fail
                refine (HTW.out w21).mono ?_
                rintro e w22 ⟨rfl, rfl⟩
                rw [HLB.out]
                go_wp2_with fail
                rw [HQ0.out]
                go_ret
                exact ⟨rfl, HB21.out⟩
              | some q =>
                obtain ⟨kx, ax⟩ := q
                obtain ⟨r, rfl, -, -⟩ := hpx
                have hkx : Kept (fun k => k = w6.heap.size) w20 ((w20.setCell ⟨w6.heap.size, 0, none⟩ (.int .i64 0)).setCell ⟨w6.heap.size, 1, none⟩ (.slice none 0 0)) := (((Kept.refl (fun k => k = w6.heap.size) w20).set_ (p := ⟨w6.heap.size, 0, none⟩) (.inl rfl) _).set_ (p := ⟨w6.heap.size, 1, none⟩) (.inl rfl) _)
                have hx21 := ((HH20.out.set_ 0 (.int .i64 0)).set_ 1 (.slice none 0 0))
                simp only [List.setIfInBounds_toArray, List.set_cons_zero, List.set_cons_succ] at hx21
                have HH21 := Lib.hid hx21
                have HB21 := Lib.hid (hkx.below HB20.out (fun k h => by omega) HB20.out.size)
                have HP21 := Lib.hid (hkx.cells HP20.out (fun h => by omega))
                have HO21 := Lib.hid (keptS_own HO20.out hkx (fun k h => by have := hok k h; omega))
                have hs21 := hkx.size
                clear hkx hx21
                go_upto_region 25 with fail
                generalize (w20.setCell ⟨w6.heap.size, 0, none⟩ (.int .i64 0)).setCell ⟨w6.heap.size, 1, none⟩ (.slice none 0 0) = w21 at *
                clear Hc0 Hf0 Hc1 Hf1
                go_wp2_with fail
                refine (HTW.out w21).mono ?_
                rintro e w22 ⟨rfl, rfl⟩
                rw [HLB.out]
                go_wp2_with fail
                rw [HQ0.out]
                go_ret
                exact ⟨rfl, HB21.out⟩
            · rw [hpo] at he
              obtain ⟨A9, k9, rfl, ho9⟩ := he
              rw [HN.out] at ho9 ⊢
              have HU20 := Lib.hid ho9
              clear ho9 hpo HWIDE HTW
              have hkx : Kept (fun k => k = w6.heap.size) w20 ((w20.setCell ⟨w6.heap.size, 0, none⟩ (.int .i64 g.n)).setCell ⟨w6.heap.size, 1, none⟩ (.slice A9 n k9)) := (((Kept.refl (fun k => k = w6.heap.size) w20).set_ (p := ⟨w6.heap.size, 0, none⟩) (.inl rfl) _).set_ (p := ⟨w6.heap.size, 1, none⟩) (.inl rfl) _)
              have hx21 := ((HH20.out.set_ 0 (.int .i64 g.n)).set_ 1 (.slice A9 n k9))
              simp only [List.setIfInBounds_toArray, List.set_cons_zero, List.set_cons_succ] at hx21
              have HH21 := Lib.hid hx21
              have HB21 := Lib.hid (hkx.below HB20.out (fun k h => by omega) HB20.out.size)
              have HP21 := Lib.hid (hkx.cells HP20.out (fun h => by omega))
              have HO21 := Lib.hid (keptS_own HO20.out hkx (fun k h => by have := hok k h; omega))
              have HU21 := Lib.hid (keptS_own HU20.out hkx (fun k h => by have := (HU20.out.block h).1; omega))
              have hs21 := hkx.size
              clear hkx hx21
              go_upto_region 25 with fail
              generalize (w20.setCell ⟨w6.heap.size, 0, none⟩ (.int .i64 g.n)).setCell ⟨w6.heap.size, 1, none⟩ (.slice A9 n k9) = w21 at *
              clear Hc0 Hf0 Hc1 Hf1
              have Pc0 : w21.cell? ⟨w2.heap.size, 0, none⟩ = some (.int .i64 g.n) := HP21.out.cell 0
              have Pc1 : w21.cell? ⟨w2.heap.size, 1, none⟩ = some (.slice A2 n k2) := HP21.out.cell 1
              have Hc0 : w21.cell? ⟨w6.heap.size, 0, none⟩ = some ((.int .i64 g.n)) := HH21.out.cell 0
              have Hc1 : w21.cell? ⟨w6.heap.size, 1, none⟩ = some ((.slice A9 n k9)) := HH21.out.cell 1
              have HS := Lib.hid (Same03_eq A2 A9 n k2 k9 g.n g.arcs w21 (by have h := HO21.out.rd encA_len rfl; exact h) (by have h := HU21.out.rd encA_len rfl; exact h) (by omega))
              go_wp2_with fail
              refine HS.out.mono ?_
              rintro e w22 ⟨rfl, hb22⟩
              clear HS
              have HB22 := Lib.hid (HB21.out.trans (hb22.mono HB21.out.size))
              have HP22 := Lib.hid (HP21.out.below hb22)
              have HH22 := Lib.hid (HH21.out.below hb22)
              have HO22 := Lib.hid (HO21.out.below hb22)
              have HU22 := Lib.hid (HU21.out.below hb22)
              have hs22 := hb22.size
              clear hb22 Pc0 Pc1 Hc0 Hc1
              go_wp2_with fail
              rw [HQ0.out]
              go_ret
              exact ⟨rfl, HB22.out⟩
end Go.Proofs.YtngihiebkbheaaaGreatDoor
