/- The document's digits and numbers. -/
import Derived.Test.YtngihiebkbheaaaGreatDoorGt7
set_option linter.unusedSimpArgs false
set_option linter.unusedVariables false
namespace Go.Proofs.YtngihiebkbheaaaGreatDoor
open Go.RowKit Txt

theorem form_eq {s : ByteArray} {b : UInt8} {r : Bs} (hl : s.data.toList = b :: r) : formB s.data.toList = (s.data.toList.all digitU && (decide (s.size = 1) || (decide (1 < s.size) && !(b == 48)))) := by
  unfold formB
  rw [← size_list s, hl]
  congr 2
  rw [Bool.decide_and]
  congr 1
  by_cases h : b = 48
  · subst h; rfl
  · rw [decide_eq_true (by simpa using h), beq_eq_false_iff_ne.2 h]
    rfl
set_option maxHeartbeats 2000000 in
theorem digitsD_any (s : ByteArray) (W : World) (hs : s.size ≤ 140737488355328) :
    Calls Tryz.prog 81 #[.string s] W fun e w' => e = .returned (.bool (formB s.data.toList)) ∧ W = w' := by
  have hlen := size_list s
  go_enter Tryz.func81, Tryz.ntmps81
  refine wp_named ?_
  intro Q0 hQ0
  have HQ0 := Lib.hid hQ0
  clear hQ0
  go_wp2_with fail
  go_loop [3] (fun iv => ∃ j : Nat, j ≤ s.size ∧ iv = .int .i64 j ∧ (s.data.toList.take j).all digitU = true) (fun iv => s.size - (intOf iv).toNat)
  case atStart => exact ⟨0, by omega, rfl, by simp⟩
  case round =>
    obtain ⟨j, hj, rfl, hg⟩ := hrel
    have HG := Lib.hid hg
    clear hg
    by_cases hlt : j < s.size
    · have g0 : decide ((j : Int) < (s.size : Int)) = true := decide_eq_true (by omega)
      obtain ⟨b, hb, hdr, htk, hat⟩ := byte_at s hlt
      have HTK := Lib.hid htk
      have hmem := List.mem_of_getElem? hat
      have hb8 : b.toNat < 256 := b.toNat_lt
      have hno : ¬ (48 ≤ b.toNat ∧ b.toNat ≤ 57) → formB s.data.toList = false := fun h => by
        unfold formB
        have : s.data.toList.all digitU = false := by
          rw [← Bool.not_eq_true]
          intro h2
          exact h (of_decide_eq_true (List.all_eq_true.1 h2 b hmem))
        rw [this, Bool.false_and]
      have HNO := Lib.hid hno
      clear hdr htk hat hmem hno
      by_cases h1 : b.toNat < 48
      · have q1 : decide (((b.toNat : Nat) : Int) < 48) = true := decide_eq_true (by omega)
        go_wp2_with fail
        rw [HQ0.out, HNO.out (by omega)]
        go_ret
        exact ⟨rfl, rfl⟩
      · have q1 : decide (((b.toNat : Nat) : Int) < 48) = false := decide_eq_false (by omega)
        by_cases h2 : 57 < b.toNat
        · have q2 : decide ((57 : Int) < ((b.toNat : Nat) : Int)) = true := decide_eq_true (by omega)
          go_wp2_with fail
          rw [HQ0.out, HNO.out (by omega)]
          go_ret
          exact ⟨rfl, rfl⟩
        · have q2 : decide ((57 : Int) < ((b.toNat : Nat) : Int)) = false := decide_eq_false (by omega)
          have hw2 : IntKind.i64.wrap ((j : Int) + 1) = (j : Int) + 1 := by rw [IntKind.wrap_i64]; omega
          go_wp2_with fail
          go_round
          case rel =>
            refine ⟨j + 1, by omega, by go_num, ?_⟩
            rw [HTK.out, List.all_append, HG.out]
            simp only [List.all_cons, List.all_nil, Bool.and_true, Bool.true_and]
            unfold digitU
            exact decide_eq_true (by omega)
          case measure => simp [intOf]; omega
    · obtain rfl : j = s.size := by omega
      have hall := HG.out
      rw [List.take_of_length_le (by omega)] at hall
      by_cases h0 : s.size = 0
      · have hnil : s.data.toList = [] := List.length_eq_zero_iff.1 (by omega)
        have hres : formB s.data.toList = false := by rw [hnil]; rfl
        have q1 : ((s.size : Int) == 1) = false := by rw [beq_eq_false_iff_ne]; omega
        have q2 : decide ((1 : Int) < (s.size : Int)) = false := decide_eq_false (by omega)
        clear hall hnil
        go_wp2_with fail
        rw [HQ0.out, hres]
        go_ret
        exact ⟨rfl, rfl⟩
      · obtain ⟨b, hb, hdr, htk, hat⟩ := byte_at s (j := 0) (by omega)
        rw [List.drop_zero] at hdr
        have hfe := form_eq hdr
        rw [hall, Bool.true_and] at hfe
        have HFE := Lib.hid hfe
        clear hdr htk hat hall hfe
        by_cases h1 : s.size = 1
        · have q1 : ((s.size : Int) == 1) = true := by rw [beq_iff_eq]; omega
          go_wp2_with fail
          rw [HQ0.out, HFE.out, decide_eq_true h1]
          go_ret
          exact ⟨rfl, rfl⟩
        · have q1 : ((s.size : Int) == 1) = false := by rw [beq_eq_false_iff_ne]; omega
          have q2 : decide ((1 : Int) < (s.size : Int)) = true := decide_eq_true (by omega)
          have q4 : decide (s.size = 1) = false := decide_eq_false h1
          have q5 : decide (1 < s.size) = true := decide_eq_true (by omega)
          by_cases h48 : b = 48
          · subst h48
            have q3 : ((((48 : UInt8).toNat : Nat) : Int) == 48) = true := rfl
            go_wp2_with fail
            rw [HQ0.out, HFE.out, q4, q5]
            go_ret
            exact ⟨rfl, rfl⟩
          · have q3 : (((b.toNat : Nat) : Int) == 48) = false := by
              rw [beq_eq_false_iff_ne]
              exact fun hh => h48 (UInt8.toNat_inj.1 (show b.toNat = 48 by omega))
            have q6 : (((b.toNat : Nat) : Int) != 48) = true := by rw [bne, q3]; rfl
            go_wp2_with fail
            rw [HQ0.out, HFE.out, q4, q5, beq_eq_false_iff_ne.2 h48]
            go_ret
            exact ⟨rfl, rfl⟩
def NumDoc (r : Except Int Nat) (W : World) (e : Ending) (w' : World) : Prop := Below W.heap.size W w' ∧ match r with
  | .error c => e = .returned (.tuple #[.int .u64 0, .agg #[.int .i64 c, .slice none 0 0]])
  | .ok v => e = .returned (.tuple #[.int .u64 (v : Int), .agg #[.int .i64 0, .slice none 0 0]])
set_option maxRecDepth 100000 in
set_option maxHeartbeats 4000000 in
theorem DocNumber_any (s : ByteArray) (most : Nat) (W : World) (hs : s.size ≤ 140737488355328) (hm : most ≤ 18446744073709551615) :
    Calls Tryz.prog 69 #[.string s, .int .u64 (most : Int)] W (NumDoc (numT s.data.toList most) W) := by
  have hlen := size_list s
  go_enter Tryz.func69, Tryz.ntmps69
  refine wp_named ?_
  intro Q0 hQ0
  have HQ0 := Lib.hid hQ0
  clear hQ0
  go_upto_region 1 with fail
  have hb1 := (Below.refl W.heap.size W).alloc (Nat.le_refl _) (.cells #[.int .i64 0, .slice none 0 0] 32)
  have hc1 := cells_new W #[.int .i64 0, .slice none 0 0] 32
  have hz1 : (W.alloc (.cells #[.int .i64 0, .slice none 0 0] 32)).heap.size = W.heap.size + 1 := by simp
  generalize W.alloc (.cells #[.int .i64 0, .slice none 0 0] 32) = w1 at *
  have HB1 := Lib.hid hb1
  have HC1 := Lib.hid hc1
  clear hb1 hc1
  go_wp2_with fail
  refine (digitsD_any s w1 hs).mono ?_
  rintro e w2 ⟨rfl, rfl⟩
  cases hfm : formB s.data.toList with
  | false =>
    have hl : numT s.data.toList most = .error 4 := by unfold numT; rw [hfm, if_neg Bool.false_ne_true]
    go_wp2_with fail
    refine (E_any 4 w1).mono ?_
    rintro e3 w3 ⟨rfl, hb3⟩
    have HB3 := Lib.hid (HB1.out.trans (hb3.mono HB1.out.size))
    have HC3 := Lib.hid (HC1.out.below hb3)
    clear hb3
    have c0 : w3.cell? ⟨W.heap.size, 0, none⟩ = some (.int .i64 0) := HC3.out.cell 0
    have c1 : w3.cell? ⟨W.heap.size, 1, none⟩ = some (.slice none 0 0) := HC3.out.cell 1
    have f0 := HC3.out.frozen 0
    have f1 := HC3.out.frozen 1
    have hfin := (HC3.out.set_ 0 (.int .i64 4)).set_ 1 (.slice none 0 0)
    simp only [List.setIfInBounds_toArray, List.set_cons_zero, List.set_cons_succ] at hfin
    have hbz : Below W.heap.size W ((w3.setCell ⟨W.heap.size, 0, none⟩ (.int .i64 4)).setCell ⟨W.heap.size, 1, none⟩ (.slice none 0 0)) := (HB3.out.setCell (p := ⟨W.heap.size, 0, none⟩) (Nat.le_refl _) _).setCell (p := ⟨W.heap.size, 1, none⟩) (Nat.le_refl _) _
    have HFIN := Lib.hid hfin
    have HBZ := Lib.hid hbz
    clear hfin hbz
    go_wp2_with fail
    generalize (w3.setCell ⟨W.heap.size, 0, none⟩ (.int .i64 4)).setCell ⟨W.heap.size, 1, none⟩ (.slice none 0 0) = wz at *
    have r0 : wz.cell? ⟨W.heap.size, 0, none⟩ = some (.int .i64 4) := HFIN.out.cell 0
    have r1 : wz.cell? ⟨W.heap.size, 1, none⟩ = some (.slice none 0 0) := HFIN.out.cell 1
    have HEND : Hid (NumDoc (numT s.data.toList most) W (.returned (.tuple #[.int .u64 0, .agg #[.int .i64 4, .slice none 0 0]])) wz) := Lib.hid (by rw [hl]; exact ⟨HBZ.out, rfl⟩)
    rw [HQ0.out]
    refine bodyPost_ret (v := .tuple #[.int .u64 0, .agg #[.int .i64 4, .slice none 0 0]]) ?hres rfl HEND.out
    case hres => simp [results, Tryz.results69, go_sem, r0, r1]
  | true =>
    have hdig : s.data.toList.all digitU = true := by
      unfold formB at hfm
      rw [Bool.and_eq_true] at hfm
      exact hfm.1
    have hl : numT s.data.toList most = if most < valN s.data.toList then .error 1 else .ok (valN s.data.toList) := by unfold numT; rw [hfm, if_pos rfl]
    have HL := Lib.hid hl
    have HDG := Lib.hid hdig
    clear hl hdig hfm
    go_wp2_with fail
    go_loop [6, 7] (fun vv iv => ∃ (j v : Nat), j ≤ s.size ∧ iv = .int .i64 j ∧ vv = .int .u64 (v : Int) ∧ v = valA 0 (s.data.toList.take j) ∧ v ≤ most) (fun _ iv => s.size - (intOf iv).toNat)
    case atStart => exact ⟨0, 0, by omega, rfl, rfl, by simp [valA], by omega⟩
    case round =>
      obtain ⟨j, v, hj, rfl, rfl, hv, hvm⟩ := hrel
      by_cases hlt : j < s.size
      · have g0 : decide ((j : Int) < (s.size : Int)) = true := decide_eq_true (by omega)
        obtain ⟨b, hb, hdr, htk, hat⟩ := byte_at s hlt
        have hbd := of_decide_eq_true (List.all_eq_true.1 HDG.out b (List.mem_of_getElem? hat))
        have hnext : valA 0 (s.data.toList.take (j + 1)) = 10 * v + (b.toNat - 48) := by
          rw [htk, hv]
          unfold valA
          rw [List.foldl_append]
          exact List.foldl_cons ..
        have hall : valA 0 (s.data.toList.take (j + 1)) ≤ valN s.data.toList := by
          have e : valN s.data.toList = valA (valA 0 (s.data.toList.take (j + 1))) (s.data.toList.drop (j + 1)) := by
            unfold valN valA
            rw [← List.foldl_append, List.take_append_drop]
          rw [e]
          exact valA_ge _ _
        rw [hnext] at hall
        obtain ⟨d, hd⟩ : ∃ d, b.toNat - 48 = d := ⟨_, rfl⟩
        have hdI : ((b.toNat : Nat) : Int) - 48 = (d : Int) := by omega
        have hd9 : d ≤ 9 := by omega
        rw [hd] at hnext hall
        have HNX := Lib.hid hnext
        have HALL := Lib.hid hall
        have HV := Lib.hid hv
        have hw2 : IntKind.i64.wrap ((j : Int) + 1) = (j : Int) + 1 := by rw [IntKind.wrap_i64]; omega
        clear hdr htk hat hnext hall hv
        go_upto_region 8 with fail
        clear hdI hd
        have htd : Int.tdiv (most : Int) 10 = (most : Int) / 10 := Int.tdiv_eq_ediv_of_nonneg (by omega)
        by_cases hA : (most : Int) / 10 < (v : Int)
        · have p1 : decide ((most : Int) / 10 < (v : Int)) = true := decide_eq_true hA
          have p2 : decide (Int.tdiv (most : Int) 10 < (v : Int)) = true := by rw [htd]; exact p1
          have hbig : most < valN s.data.toList := by have := HALL.out; omega
          have HLE : Hid (numT s.data.toList most = .error 1) := Lib.hid (by rw [HL.out, if_pos hbig])
          go_wp2_with fail
          refine (E_any 1 w1).mono ?_
          rintro e3 w3 ⟨rfl, hb3⟩
          have HB3 := Lib.hid (HB1.out.trans (hb3.mono HB1.out.size))
          have HC3 := Lib.hid (HC1.out.below hb3)
          clear hb3
          have c0 : w3.cell? ⟨W.heap.size, 0, none⟩ = some (.int .i64 0) := HC3.out.cell 0
          have c1 : w3.cell? ⟨W.heap.size, 1, none⟩ = some (.slice none 0 0) := HC3.out.cell 1
          have f0 := HC3.out.frozen 0
          have f1 := HC3.out.frozen 1
          have hfin := (HC3.out.set_ 0 (.int .i64 1)).set_ 1 (.slice none 0 0)
          simp only [List.setIfInBounds_toArray, List.set_cons_zero, List.set_cons_succ] at hfin
          have hbz : Below W.heap.size W ((w3.setCell ⟨W.heap.size, 0, none⟩ (.int .i64 1)).setCell ⟨W.heap.size, 1, none⟩ (.slice none 0 0)) := (HB3.out.setCell (p := ⟨W.heap.size, 0, none⟩) (Nat.le_refl _) _).setCell (p := ⟨W.heap.size, 1, none⟩) (Nat.le_refl _) _
          have HFIN := Lib.hid hfin
          have HBZ := Lib.hid hbz
          clear hfin hbz
          go_wp2_with fail
          generalize (w3.setCell ⟨W.heap.size, 0, none⟩ (.int .i64 1)).setCell ⟨W.heap.size, 1, none⟩ (.slice none 0 0) = wz at *
          have r0 : wz.cell? ⟨W.heap.size, 0, none⟩ = some (.int .i64 1) := HFIN.out.cell 0
          have r1 : wz.cell? ⟨W.heap.size, 1, none⟩ = some (.slice none 0 0) := HFIN.out.cell 1
          have HEND : Hid (NumDoc (numT s.data.toList most) W (.returned (.tuple #[.int .u64 0, .agg #[.int .i64 1, .slice none 0 0]])) wz) := Lib.hid (by rw [HLE.out]; exact ⟨HBZ.out, rfl⟩)
          rw [HQ0.out]
          refine bodyPost_ret (v := .tuple #[.int .u64 0, .agg #[.int .i64 1, .slice none 0 0]]) ?hres rfl HEND.out
          case hres => simp [results, Tryz.results69, go_sem, r0, r1]
        · have p1 : decide ((most : Int) / 10 < (v : Int)) = false := decide_eq_false hA
          have p2 : decide (Int.tdiv (most : Int) 10 < (v : Int)) = false := by rw [htd]; exact p1
          have hm1 : IntKind.u64.wrap (10 * (v : Int)) = 10 * (v : Int) := by rw [IntKind.wrap_u64]; omega
          have hm2 : IntKind.u64.wrap ((most : Int) - 10 * (v : Int)) = (most : Int) - 10 * (v : Int) := by rw [IntKind.wrap_u64]; omega
          by_cases hB : (most : Int) - 10 * (v : Int) < (d : Int)
          · have p3 : decide ((most : Int) - 10 * (v : Int) < (d : Int)) = true := decide_eq_true hB
            have hbig : most < valN s.data.toList := by have := HALL.out; omega
            have HLE : Hid (numT s.data.toList most = .error 1) := Lib.hid (by rw [HL.out, if_pos hbig])
            go_wp2_with fail
            refine (E_any 1 w1).mono ?_
            rintro e3 w3 ⟨rfl, hb3⟩
            have HB3 := Lib.hid (HB1.out.trans (hb3.mono HB1.out.size))
            have HC3 := Lib.hid (HC1.out.below hb3)
            clear hb3
            have c0 : w3.cell? ⟨W.heap.size, 0, none⟩ = some (.int .i64 0) := HC3.out.cell 0
            have c1 : w3.cell? ⟨W.heap.size, 1, none⟩ = some (.slice none 0 0) := HC3.out.cell 1
            have f0 := HC3.out.frozen 0
            have f1 := HC3.out.frozen 1
            have hfin := (HC3.out.set_ 0 (.int .i64 1)).set_ 1 (.slice none 0 0)
            simp only [List.setIfInBounds_toArray, List.set_cons_zero, List.set_cons_succ] at hfin
            have hbz : Below W.heap.size W ((w3.setCell ⟨W.heap.size, 0, none⟩ (.int .i64 1)).setCell ⟨W.heap.size, 1, none⟩ (.slice none 0 0)) := (HB3.out.setCell (p := ⟨W.heap.size, 0, none⟩) (Nat.le_refl _) _).setCell (p := ⟨W.heap.size, 1, none⟩) (Nat.le_refl _) _
            have HFIN := Lib.hid hfin
            have HBZ := Lib.hid hbz
            clear hfin hbz
            go_wp2_with fail
            generalize (w3.setCell ⟨W.heap.size, 0, none⟩ (.int .i64 1)).setCell ⟨W.heap.size, 1, none⟩ (.slice none 0 0) = wz at *
            have r0 : wz.cell? ⟨W.heap.size, 0, none⟩ = some (.int .i64 1) := HFIN.out.cell 0
            have r1 : wz.cell? ⟨W.heap.size, 1, none⟩ = some (.slice none 0 0) := HFIN.out.cell 1
            have HEND : Hid (NumDoc (numT s.data.toList most) W (.returned (.tuple #[.int .u64 0, .agg #[.int .i64 1, .slice none 0 0]])) wz) := Lib.hid (by rw [HLE.out]; exact ⟨HBZ.out, rfl⟩)
            rw [HQ0.out]
            refine bodyPost_ret (v := .tuple #[.int .u64 0, .agg #[.int .i64 1, .slice none 0 0]]) ?hres rfl HEND.out
            case hres => simp [results, Tryz.results69, go_sem, r0, r1]
          · have p3 : decide ((most : Int) - 10 * (v : Int) < (d : Int)) = false := decide_eq_false hB
            have hm3 : IntKind.u64.wrap (10 * (v : Int) + (d : Int)) = 10 * (v : Int) + (d : Int) := by rw [IntKind.wrap_u64]; omega
            have hcast : ((10 * v + d : Nat) : Int) = 10 * (v : Int) + (d : Int) := by omega
            go_wp2_with fail
            go_round
            case rel => exact ⟨j + 1, 10 * v + d, by omega, by go_num, by rw [hcast], HNX.out.symm, by omega⟩
            case measure => simp [intOf]; omega
      · obtain rfl : j = s.size := by omega
        have hval : valN s.data.toList = v := by
          rw [hv, List.take_of_length_le (by omega)]
          rfl
        have HLE : Hid (numT s.data.toList most = .ok v) := Lib.hid (by rw [HL.out, hval, if_neg (by omega)])
        clear hval hv
        have c0 : w1.cell? ⟨W.heap.size, 0, none⟩ = some (.int .i64 0) := HC1.out.cell 0
        have c1 : w1.cell? ⟨W.heap.size, 1, none⟩ = some (.slice none 0 0) := HC1.out.cell 1
        have f0 := HC1.out.frozen 0
        have f1 := HC1.out.frozen 1
        have hfin := (HC1.out.set_ 0 (.int .i64 0)).set_ 1 (.slice none 0 0)
        simp only [List.setIfInBounds_toArray, List.set_cons_zero, List.set_cons_succ] at hfin
        have hbz : Below W.heap.size W ((w1.setCell ⟨W.heap.size, 0, none⟩ (.int .i64 0)).setCell ⟨W.heap.size, 1, none⟩ (.slice none 0 0)) := (HB1.out.setCell (p := ⟨W.heap.size, 0, none⟩) (Nat.le_refl _) _).setCell (p := ⟨W.heap.size, 1, none⟩) (Nat.le_refl _) _
        have HFIN := Lib.hid hfin
        have HBZ := Lib.hid hbz
        clear hfin hbz
        go_wp2_with fail
        generalize (w1.setCell ⟨W.heap.size, 0, none⟩ (.int .i64 0)).setCell ⟨W.heap.size, 1, none⟩ (.slice none 0 0) = wz at *
        have r0 : wz.cell? ⟨W.heap.size, 0, none⟩ = some (.int .i64 0) := HFIN.out.cell 0
        have r1 : wz.cell? ⟨W.heap.size, 1, none⟩ = some (.slice none 0 0) := HFIN.out.cell 1
        have HEND : Hid (NumDoc (numT s.data.toList most) W (.returned (.tuple #[.int .u64 (v : Int), .agg #[.int .i64 0, .slice none 0 0]])) wz) := Lib.hid (by rw [HLE.out]; exact ⟨HBZ.out, rfl⟩)
        rw [HQ0.out]
        refine bodyPost_ret (v := .tuple #[.int .u64 (v : Int), .agg #[.int .i64 0, .slice none 0 0]]) ?hres rfl HEND.out
        case hres => simp [results, Tryz.results69, go_sem, r0, r1]
end Go.Proofs.YtngihiebkbheaaaGreatDoor
