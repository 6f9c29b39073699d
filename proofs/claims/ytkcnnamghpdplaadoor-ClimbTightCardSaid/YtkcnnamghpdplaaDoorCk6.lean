/- ClimbTight's small functions: few, square, meet. -/
import Derived.Test.YtkcnnamghpdplaaDoorCk5
import Derived.Test.YtkcnnamghpdplaaDoorMat
import Derived.Test.YtkcnnamghpdplaaDoorClB
import Derived.Deep.DeepCutAuto
import Derived.BigQuiet
import Derived.StillTailTactics
set_option linter.unusedSimpArgs false
set_option linter.unusedVariables false
namespace Go.Proofs.YtkcnnamghpdplaaDoor
open Go.RowKit

theorem wp_post_named6 {P : Program} {c : Code} {Q : Exit → Act → World → Prop} {a : Act} {w : World} (h : ∀ Q0, Q0 = Q → c.wp P Q0 a w) : c.wp P Q a w := h Q rfl
theorem still_of_quiet6 {P : Program} {ops : Array Oper} {w : World} {Q : Act → Prop} : ∀ (l : List Oper) (a : Act), wpQuiet P ops (fun x => x = w) Q l a → wpStill P ops w Q l a
  | [], a, h => h
  | o :: rest, a, h => by
    unfold wpStill
    unfold wpQuiet at h
    by_cases hw : Region.wanted o (yielded ops a.tmps) = true
    · rw [if_pos hw] at h ⊢
      obtain ⟨v, h1, h2⟩ := h
      have h3 := h1 w rfl
      unfold Oper.quietAt at h3
      unfold Oper.still
      revert h3
      cases hr : (execOp a.eval o).run P w with
      | ok n w' =>
        cases n with
        | value u =>
          rintro ⟨rfl, rfl⟩
          exact ⟨rfl, still_of_quiet6 rest _ h2⟩
        | skip =>
          rintro ⟨rfl, rfl⟩
          exact ⟨rfl, still_of_quiet6 rest _ h2⟩
        | enter f args =>
          rintro ⟨rfl, hc⟩
          exact ⟨rfl, v, hc, still_of_quiet6 rest _ h2⟩
        | _ => exact fun h => h.elim
      | _ => exact fun h => h.elim
    · rw [if_neg hw] at h ⊢
      exact still_of_quiet6 rest _ h
def fewB (h : HierT) : Bool := decide (h.node.length ≤ 14 ∧ h.up.length + h.dn.length ≤ 400)
set_option maxRecDepth 100000 in
set_option maxHeartbeats 4000000 in
theorem few_any (k : HV) (h : HierT) (W : World) (hs : Small k h) :
    Calls Tryd.prog 21 #[hierV k h] W (BoolBelow (fewB h) W) := by
  have HC := Lib.hid (fun w => Count_any k h w hs)
  generalize hr : fewB h = r
  have HR := Lib.hid hr
  unfold fewB at HR
  clear hr hs
  unfold hierV at *
  generalize h.up.length = n2 at *
  generalize h.dn.length = n4 at *
  generalize h.node.length = n0 at *
  have hc1 := cells_new W #[.slice k.a0 n0 k.c0, .slice k.a1 h.uf.length k.c1, .slice k.a2 n2 k.c2, .slice k.a3 h.df.length k.c3, .slice k.a4 n4 k.c4] 25
  have hb1 := (Below.refl W.heap.size W).alloc (Nat.le_refl _) (.cells #[.slice k.a0 n0 k.c0, .slice k.a1 h.uf.length k.c1, .slice k.a2 n2 k.c2, .slice k.a3 h.df.length k.c3, .slice k.a4 n4 k.c4] 25)
  go_enter Tryd.func21, Tryd.ntmps21
  refine wp_post_named6 ?_
  intro Q0 hQ0
  have HQ0 := Lib.hid hQ0
  clear hQ0
  go_upto_region 1 with fail
  generalize W.alloc (.cells #[.slice k.a0 n0 k.c0, .slice k.a1 h.uf.length k.c1, .slice k.a2 n2 k.c2, .slice k.a3 h.df.length k.c3, .slice k.a4 n4 k.c4] 25) = w1 at *
  have d0 : w1.cell? ⟨W.heap.size, 0, none⟩ = some (.slice k.a0 n0 k.c0) := hc1.cell 0
  have d1 : w1.cell? ⟨W.heap.size, 1, none⟩ = some (.slice k.a1 h.uf.length k.c1) := hc1.cell 1
  have d2 : w1.cell? ⟨W.heap.size, 2, none⟩ = some (.slice k.a2 n2 k.c2) := hc1.cell 2
  have d3 : w1.cell? ⟨W.heap.size, 3, none⟩ = some (.slice k.a3 h.df.length k.c3) := hc1.cell 3
  have d4 : w1.cell? ⟨W.heap.size, 4, none⟩ = some (.slice k.a4 n4 k.c4) := hc1.cell 4
  have HB1 := Lib.hid hb1
  clear hc1 hb1
  by_cases h14 : n0 ≤ 14
  · have g0 : decide ((n0 : Int) ≤ 14) = true := decide_eq_true (by omega)
    have g1 : decide (n0 ≤ 14) = true := decide_eq_true h14
    go_wp2_with fail
    refine (HC.out _).mono ?_
    rintro e w3 ⟨rfl, hb⟩
    have HB3 := Lib.hid (HB1.out.trans (hb.mono HB1.out.size))
    clear hb d0 d1 d2 d3 d4 g0 g1
    by_cases h400 : n2 + n4 ≤ 400
    · have g2 : decide ((n2 : Int) + (n4 : Int) ≤ 400) = true := decide_eq_true (by omega)
      go_wp2_with fail
      rw [HQ0.out]
      go_ret
      exact ⟨by rw [← HR.out, decide_eq_true ⟨h14, h400⟩]; rfl, HB3.out⟩
    · have g2 : decide ((n2 : Int) + (n4 : Int) ≤ 400) = false := decide_eq_false (by omega)
      go_wp2_with fail
      rw [HQ0.out]
      go_ret
      exact ⟨by rw [← HR.out, decide_eq_false (fun h => h400 h.2)]; rfl, HB3.out⟩
  · have g0 : decide ((n0 : Int) ≤ 14) = false := decide_eq_false (by omega)
    have g1 : decide (n0 ≤ 14) = false := decide_eq_false h14
    go_wp2_with fail
    rw [HQ0.out]
    go_ret
    exact ⟨by rw [← HR.out, decide_eq_false (fun h => h14 h.1)]; rfl, HB1.out⟩
abbrev RowsU (w : World) (base G n : Nat) (f : Nat → Option (Nat × List Int)) : Prop := RowsAt 45 46 w base G n f
theorem RowsU.cell {w : World} {base G n : Nat} {f : Nat → Option (Nat × List Int)} {i R : Nat} {l : List Int} (h : RowsU w base G n f) (hi : i < n) (hf : f i = some (R, l)) :
    w.cell? ⟨G, i, none⟩ = some (.slice (some ⟨R, 0, none⟩) l.length l.length) ∧ ∀ j (hj : j < l.length), w.cell? ⟨R, j, none⟩ = some (.int .u64 l[j]) := by
  refine ⟨?_, fun j hj => ?_⟩
  · rw [h.rows.cell i, rowsA_at _ hi]
    unfold rowV
    rw [hf]
  · rw [(h.row i R l hi hf).1.cell j, uA_at hj]
set_option maxRecDepth 100000 in
set_option maxHeartbeats 4000000 in
theorem square_any (base G n : Nat) (f : Nat → Option (Nat × List Int)) (W : World) (hm : RowsU W base G n f) (hf : ∀ i, i < n → ∃ R l, f i = some (R, l) ∧ l.length = n) (hn : n ≤ 65536) :
    Calls Tryd.prog 23 #[.slice (some ⟨G, 0, none⟩) n n, .int .i64 (n : Int)] W fun e w' => e = .returned (.bool true) ∧ W = w' := by
  have HM := Lib.hid hm
  have HF := Lib.hid hf
  clear hm hf
  go_enter Tryd.func23, Tryd.ntmps23
  go_wp2_with fail
  go_loop [9] (fun iv => ∃ j : Nat, j ≤ n ∧ iv = .int .i64 j) (fun iv => n - (intOf iv).toNat)
  case atStart => exact ⟨0, by omega, rfl⟩
  case round =>
    obtain ⟨j, hj, rfl⟩ := hrel
    by_cases hlt : j < n
    · have g0 : decide ((j : Int) < (n : Int)) = true := decide_eq_true (by omega)
      obtain ⟨R, l, hfj, hl⟩ := HF.out j hlt
      have c1 := (RowsU.cell HM.out hlt hfj).1
      rw [hl] at c1
      clear hfj hl
      go_wp2_with fail
      go_round
      case rel => exact ⟨j + 1, by omega, by go_num⟩
      case measure => simp [intOf]; omega
    · obtain rfl : j = n := by omega
      go_wp2_with fail
      go_ret
      exact ⟨rfl, rfl⟩
def SafeL (l : List SeenT) : Prop := ∀ x ∈ l, 0 ≤ x.dist ∧ x.dist ≤ 9223231299366420480
set_option maxRecDepth 100000 in
set_option maxHeartbeats 4000000 in
theorem meet_any (A B : Option Addr) (na nb ca cb : Nat) (a b : List SeenT) (W : World) (hp : Rd 3 encSn W A na a) (hq : Rd 3 encSn W B nb b) (ha : SafeL a) (hb : SafeL b) (hna : na ≤ 65536) (hnb : nb ≤ 65536) :
    Calls Tryd.prog 25 #[.slice A na ca, .slice B nb cb] W fun e w' => e = .returned (.int .u64 (meetT a b)) ∧ Below W.heap.size W w' := by
  have HP := Lib.hid hp
  have HQ := Lib.hid hq
  have HA := Lib.hid ha
  have HBB := Lib.hid hb
  have hal := hp.1
  have hbl := hq.1
  clear hp hq ha hb
  go_enter Tryd.func25, Tryd.ntmps25
  refine wp_post_named6 ?_
  intro Q0 hQ0
  have HQ0 := Lib.hid hQ0
  have HAL := Lib.hid hal
  have HBL := Lib.hid hbl
  clear hQ0 hal hbl
  go_wp2_with fail
  go_loopw [5, 12] (fun bv iv wr => ∃ i : Nat, i ≤ na ∧ iv = .int .i64 i ∧ bv = .int .u64 (meetT (a.take i) b) ∧ Below W.heap.size W wr) (fun _ iv _ => na - (intOf iv).toNat)
  case atStart => exact ⟨0, by omega, rfl, rfl, Below.refl _ _⟩
  case round =>
    obtain ⟨i, hi, rfl, rfl, hb⟩ := hrel
    have HB := Lib.hid hb
    clear hb
    by_cases hlt : i < na
    · have g0 : decide ((i : Int) < (na : Int)) = true := decide_eq_true (by omega)
      obtain ⟨ad, hA, cc⟩ := (HP.out.below HB.out).at_ hlt
      subst hA
      obtain ⟨c0, c1, c2⟩ := three_cells cc
      have hil : i < a.length := by rw [HAL.out]; exact hlt
      have hsx := HA.out _ (List.getElem_mem hil)
      have HSU := Lib.hid (meetT_succ hil b)
      generalize a[i] = x at *
      obtain ⟨x0, x1, x2⟩ := x
      dsimp only at c0 c1 c2 hsx
      clear cc
      go_upto_region 5 with fail
      have hb7 := (Below.refl wr.heap.size wr).alloc (Nat.le_refl _) (.cells #[.int .i64 (x0 : Int), .int .u64 x1, .bool x2] 48)
      have HX7 := Lib.hid (cells_new wr #[.int .i64 (x0 : Int), .int .u64 x1, .bool x2] 48)
      have HB7 := Lib.hid (HB.out.trans (hb7.mono HB.out.size))
      clear hb7 c0 c1 c2
      generalize wr.alloc (.cells #[.int .i64 (x0 : Int), .int .u64 x1, .bool x2] 48) = w7 at *
      generalize wr.heap.size = X at *
      generalize meetT (a.take i) b = m0 at *
      go_wp2_with fail
      go_loopw [5, 18] (fun bv iv wi => ∃ j : Nat, j ≤ nb ∧ iv = .int .i64 j ∧ bv = .int .u64 (meetIn (b.take j) m0 ⟨x0, x1, x2⟩) ∧ Below w7.heap.size w7 wi) (fun _ iv _ => nb - (intOf iv).toNat)
      case atStart => exact ⟨0, by omega, rfl, rfl, Below.refl _ _⟩
      case round =>
        obtain ⟨j, hj, rfl, rfl, hb⟩ := hrel
        have HI := Lib.hid hb
        clear hb
        by_cases hlj : j < nb
        · have g1 : decide ((j : Int) < (nb : Int)) = true := decide_eq_true (by omega)
          obtain ⟨be, hBe, dd⟩ := (HQ.out.below (HB7.out.trans (HI.out.mono HB7.out.size))).at_ hlj
          subst hBe
          obtain ⟨d0, d1, d2⟩ := three_cells dd
          have hjl : j < b.length := by rw [HBL.out]; exact hlj
          have hsy := HBB.out _ (List.getElem_mem hjl)
          have HSI := Lib.hid (meetIn_succ hjl m0 ⟨x0, x1, x2⟩)
          generalize b[j] = y at *
          obtain ⟨y0, y1, y2⟩ := y
          dsimp only at d0 d1 d2 hsy
          clear dd
          go_upto_region 8 with fail
          have hb9 := (Below.refl wr.heap.size wr).alloc (Nat.le_refl _) (.cells #[.int .i64 (y0 : Int), .int .u64 y1, .bool y2] 48)
          have HY9 := Lib.hid (cells_new wr #[.int .i64 (y0 : Int), .int .u64 y1, .bool y2] 48)
          have HI9 := Lib.hid (HI.out.trans (hb9.mono HI.out.size))
          clear hb9 d0 d1 d2
          generalize wr.alloc (.cells #[.int .i64 (y0 : Int), .int .u64 y1, .bool y2] 48) = w9 at *
          generalize wr.heap.size = Y at *
          generalize meetIn (b.take j) m0 ⟨x0, x1, x2⟩ = m at *
          have hx9 := HX7.out.below HI9.out
          have k0 : w9.cell? ⟨X, 0, none⟩ = some (.int .i64 (x0 : Int)) := hx9.cell 0
          have k1 : w9.cell? ⟨X, 1, none⟩ = some (.int .u64 x1) := hx9.cell 1
          have k2 : w9.cell? ⟨X, 2, none⟩ = some (.bool x2) := hx9.cell 2
          have e0 : w9.cell? ⟨Y, 0, none⟩ = some (.int .i64 (y0 : Int)) := HY9.out.cell 0
          have e1 : w9.cell? ⟨Y, 1, none⟩ = some (.int .u64 y1) := HY9.out.cell 1
          have e2 : w9.cell? ⟨Y, 2, none⟩ = some (.bool y2) := HY9.out.cell 2
          have hsum : IntKind.u64.wrap (x1 + y1) = x1 + y1 := by rw [IntKind.wrap_u64]; omega
          have hmin : (if x1 + y1 < m then x1 + y1 else m) = min m (x1 + y1) := by
            rw [Int.min_def]
            split <;> split <;> omega
          unfold meetOne pairOk at HSI
          dsimp only at HSI
          clear hx9
          by_cases hr : x0 = y0
          · have q0 : ((x0 : Int) == (y0 : Int)) = true := by rw [beq_iff_eq]; omega
            rw [decide_eq_true hr] at HSI
            clear hr
            cases x2 with
            | true =>
              have HSI' : Hid (meetIn (b.take (j + 1)) m0 ⟨x0, x1, true⟩ = m) := Lib.hid (by rw [HSI.out]; simp)
              clear HSI
              go_wp2_with fail
              go_roundw
              case rel => exact ⟨j + 1, by omega, by go_num, by rw [HSI'.out], HI9.out⟩
              case measure => simp [intOf]; omega
            | false =>
              cases y2 with
              | true =>
                have HSI' : Hid (meetIn (b.take (j + 1)) m0 ⟨x0, x1, false⟩ = m) := Lib.hid (by rw [HSI.out]; simp)
                clear HSI
                go_wp2_with fail
                go_roundw
                case rel => exact ⟨j + 1, by omega, by go_num, by rw [HSI'.out], HI9.out⟩
                case measure => simp [intOf]; omega
              | false =>
                have HSI' : Hid (meetIn (b.take (j + 1)) m0 ⟨x0, x1, false⟩ = min m (x1 + y1)) := Lib.hid (by rw [HSI.out]; simp)
                clear HSI
                go_wp2_with fail
                go_roundw
                case rel => exact ⟨j + 1, by omega, by go_num, by rw [HSI'.out], HI9.out⟩
                case measure => simp [intOf]; omega
          · have q0 : ((x0 : Int) == (y0 : Int)) = false := by rw [beq_eq_false_iff_ne]; omega
            have HSI' : Hid (meetIn (b.take (j + 1)) m0 ⟨x0, x1, x2⟩ = m) := Lib.hid (by rw [HSI.out, decide_eq_false hr]; simp)
            clear HSI hr
            go_wp2_with fail
            go_roundw
            case rel => exact ⟨j + 1, by omega, by go_num, by rw [HSI'.out], HI9.out⟩
            case measure => simp [intOf]; omega
        · obtain rfl : j = nb := by omega
          have HE : Hid (meetIn (b.take j) m0 ⟨x0, x1, x2⟩ = meetIn b m0 ⟨x0, x1, x2⟩) := Lib.hid (by rw [List.take_of_length_le (by rw [HBL.out]; omega)])
          have HBR := Lib.hid (HB7.out.trans (HI.out.mono HB7.out.size))
          go_wp2_with fail
          go_roundw
          case rel => exact ⟨i + 1, by omega, by go_num, by rw [HSU.out, HE.out], HBR.out⟩
          case measure => simp [intOf]; omega
    · obtain rfl : i = na := by omega
      have HE : Hid (meetT (a.take i) b = meetT a b) := Lib.hid (by rw [List.take_of_length_le (by rw [HAL.out]; omega)])
      go_wp2_with fail
      rw [HQ0.out]
      go_ret
      exact ⟨by rw [HE.out]; rfl, HB.out⟩
end Go.Proofs.YtkcnnamghpdplaaDoor
