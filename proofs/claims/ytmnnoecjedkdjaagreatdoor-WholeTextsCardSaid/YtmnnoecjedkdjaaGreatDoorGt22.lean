/- gtext's within, arc and Check. -/
import Derived.Test.YtmnnoecjedkdjaaGreatDoorGt18
import Derived.Test.YtmnnoecjedkdjaaGreatDoorGp2
set_option linter.unusedSimpArgs false
set_option linter.unusedVariables false
namespace Go.Proofs.YtmnnoecjedkdjaaGreatDoor
open Go.RowKit Txt

theorem within_any (x n : Int) (W : World) : Calls Tryz.prog 54 #[.int .i64 x, .int .i64 n] W fun e w' => e = .returned (.bool (decide (0 ≤ x ∧ x < n))) ∧ W = w' := by
  by_cases h1 : 0 ≤ x
  · have g1 : decide ((0 : Int) ≤ x) = true := decide_eq_true h1
    by_cases h2 : x < n
    · have g2 : decide (x < n) = true := decide_eq_true h2
      have g3 : decide (0 ≤ x ∧ x < n) = true := decide_eq_true ⟨h1, h2⟩
      have HG := Lib.hid g3
      clear g3
      go_enter Tryz.func54, Tryz.ntmps54
      go_wp2_with fail
      go_ret
      first | exact ⟨by rw [HG.out]; rfl, rfl⟩ | exact ⟨rfl, rfl⟩
    · have g2 : decide (x < n) = false := decide_eq_false h2
      have g3 : decide (0 ≤ x ∧ x < n) = false := decide_eq_false (fun h => h2 h.2)
      have HG := Lib.hid g3
      clear g3
      go_enter Tryz.func54, Tryz.ntmps54
      go_wp2_with fail
      go_ret
      first | exact ⟨by rw [HG.out]; rfl, rfl⟩ | exact ⟨rfl, rfl⟩
  · have g1 : decide ((0 : Int) ≤ x) = false := decide_eq_false h1
    have g3 : decide (0 ≤ x ∧ x < n) = false := decide_eq_false (fun h => h1 h.1)
    have HG := Lib.hid g3
    clear g3
    go_enter Tryz.func54, Tryz.ntmps54
    go_wp2_with fail
    go_ret
    first | exact ⟨by rw [HG.out]; rfl, rfl⟩ | exact ⟨rfl, rfl⟩
def errOpt : Option Int → Value
  | none => .nilIface
  | some c => .iface 27 (.int .i64 c)
set_option maxHeartbeats 2000000 in
theorem garc_any (a : ArcT) (n : Int) (W : World) : Calls Tryz.prog 30 #[.agg #[.int .i64 a.f, .int .i64 a.t, .int .i64 a.w], .int .i64 n] W fun e w' => e = .returned (errOpt (arcBug a n)) ∧ Below W.heap.size W w' := by
  have hb := (Below.refl W.heap.size W).alloc (Nat.le_refl _) (.cells #[.int .i64 a.f, .int .i64 a.t, .int .i64 a.w] 56)
  have hc := cells_new W #[.int .i64 a.f, .int .i64 a.t, .int .i64 a.w] 56
  have HB := Lib.hid hb
  have HC := Lib.hid hc
  clear hb hc
  go_enter Tryz.func30, Tryz.ntmps30
  go_upto_region 1 with fail
  generalize W.alloc (.cells #[.int .i64 a.f, .int .i64 a.t, .int .i64 a.w] 56) = w1 at *
  have c0 := HC.out.cell 0
  have c1 := HC.out.cell 1
  have c2 := HC.out.cell 2
  go_wp2_with fail
  refine (within_any a.f n w1).mono ?_
  rintro e w2 ⟨rfl, rfl⟩
  by_cases hf : 0 ≤ a.f ∧ a.f < n
  · rw [decide_eq_true hf]
    go_wp2_with fail
    refine (within_any a.t n w1).mono ?_
    rintro e w2 ⟨rfl, rfl⟩
    by_cases ht : 0 ≤ a.t ∧ a.t < n
    · rw [decide_eq_true ht]
      have h1 : ¬ (a.f < 0 ∨ n ≤ a.f ∨ a.t < 0 ∨ n ≤ a.t) := by omega
      by_cases hw : a.w < 0
      · have g0 : decide (a.w < 0) = true := decide_eq_true hw
        have hA : arcBug a n = some 8 := by unfold arcBug; rw [if_neg h1, if_pos (.inl hw)]
        have HA := Lib.hid hA
        clear hA h1 hf ht
        go_wp2_with fail
        go_ret
        exact ⟨by rw [HA.out]; rfl, HB.out⟩
      · have g0 : decide (a.w < 0) = false := decide_eq_false hw
        by_cases hw2 : 2147483647 < a.w
        · have g1 : decide ((2147483647 : Int) < a.w) = true := decide_eq_true hw2
          have hA : arcBug a n = some 8 := by unfold arcBug; rw [if_neg h1, if_pos (.inr hw2)]
          have HA := Lib.hid hA
          clear hA h1 hf ht
          go_wp2_with fail
          go_ret
          exact ⟨by rw [HA.out]; rfl, HB.out⟩
        · have g1 : decide ((2147483647 : Int) < a.w) = false := decide_eq_false hw2
          have hA : arcBug a n = none := by unfold arcBug; rw [if_neg h1, if_neg (by omega)]
          have HA := Lib.hid hA
          clear hA h1 hf ht
          go_wp2_with fail
          go_ret
          exact ⟨by rw [HA.out]; rfl, HB.out⟩
    · rw [decide_eq_false ht]
      have hA : arcBug a n = some 7 := by unfold arcBug; rw [if_pos (by omega)]
      have HA := Lib.hid hA
      clear hA hf ht
      go_wp2_with fail
      go_ret
      exact ⟨by rw [HA.out]; rfl, HB.out⟩
  · rw [decide_eq_false hf]
    have hA : arcBug a n = some 7 := by unfold arcBug; rw [if_pos (by omega)]
    have HA := Lib.hid hA
    clear hA hf
    go_wp2_with fail
    go_ret
    exact ⟨by rw [HA.out]; rfl, HB.out⟩
set_option maxHeartbeats 4000000 in
theorem GCheck_any (g : GrT) (A : Option Addr) (kk : Nat) (W : World) (hrd : RdA W A g.arcs.length g.arcs) (hlen : g.arcs.length ≤ 9223372036854775806) :
    Calls Tryz.prog 12 #[.agg #[.int .i64 g.n, .slice A g.arcs.length kk]] W (ErrProg (chkT g) W) := by
  obtain ⟨n, hn⟩ : ∃ n, g.arcs.length = n := ⟨_, rfl⟩
  have HN := Lib.hid hn
  rw [hn] at hrd hlen ⊢
  clear hn
  have hb := (Below.refl W.heap.size W).alloc (Nat.le_refl _) (.cells #[.int .i64 g.n, .slice A n kk] 30)
  have hc := cells_new W #[.int .i64 g.n, .slice A n kk] 30
  have HB := Lib.hid hb
  have HC := Lib.hid hc
  have HRD := Lib.hid hrd
  clear hb hc hrd
  go_enter Tryz.func12, Tryz.ntmps12
  refine wp_named ?_
  intro Q0 hQ0
  have HQ0 := Lib.hid hQ0
  clear hQ0
  go_upto_region 1 with fail
  generalize W.alloc (.cells #[.int .i64 g.n, .slice A n kk] 30) = w1 at *
  have c0 := HC.out.cell 0
  have c1 := HC.out.cell 1
  by_cases h1 : g.n < 0
  · have g0 : decide (g.n < 0) = true := decide_eq_true h1
    have HA : Hid (chkT g = some (9, none)) := Lib.hid (by unfold chkT; rw [if_pos (.inl h1)])
    go_wp2_with fail
    rw [HQ0.out]
    go_ret
    exact ⟨HB.out, by rw [HA.out]; rfl⟩
  · have g0 : decide (g.n < 0) = false := decide_eq_false h1
    by_cases h2 : 65536 < g.n
    · have g1 : decide ((65536 : Int) < g.n) = true := decide_eq_true h2
      have HA : Hid (chkT g = some (9, none)) := Lib.hid (by unfold chkT; rw [if_pos (.inr (.inl h2))])
      go_wp2_with fail
      rw [HQ0.out]
      go_ret
      exact ⟨HB.out, by rw [HA.out]; rfl⟩
    · have g1 : decide ((65536 : Int) < g.n) = false := decide_eq_false h2
      by_cases h3 : 262144 < n
      · have g2 : decide ((262144 : Int) < (n : Int)) = true := decide_eq_true (by omega)
        have HA : Hid (chkT g = some (9, none)) := Lib.hid (by unfold chkT; rw [if_pos (.inr (.inr (by rw [HN.out]; exact h3)))])
        go_wp2_with fail
        rw [HQ0.out]
        go_ret
        exact ⟨HB.out, by rw [HA.out]; rfl⟩
      · have g2 : decide ((262144 : Int) < (n : Int)) = false := decide_eq_false (by omega)
        have HA : Hid (chkT g = arcsBug g.n 0 g.arcs) := Lib.hid (by unfold chkT; rw [if_neg (by rw [HN.out]; omega)])
        clear h1 h2 h3
        go_upto_region 4 with fail
        go_loopw [24] (fun iv wr => ∃ j : Nat, j ≤ n ∧ iv = .int .i64 (j : Int) ∧ Below W.heap.size W wr ∧ Cells wr W.heap.size #[.int .i64 g.n, .slice A n kk] 30 ∧ arcsBug g.n 0 g.arcs = arcsBug g.n j (g.arcs.drop j)) (fun iv _ => n - (intOf iv).toNat)
        case atStart => exact ⟨0, by omega, rfl, HB.out, HC.out, rfl⟩
        case round =>
          obtain ⟨j, hj, rfl, hb, hc, hst⟩ := hrel
          have HB2 := Lib.hid hb
          have HC2 := Lib.hid hc
          have HST := Lib.hid hst
          clear hb hc hst c0 c1
          by_cases hlt : j < n
          · have q0 : decide ((j : Int) < (n : Int)) = true := decide_eq_true (by omega)
            have hj' : j < g.arcs.length := by rw [HN.out]; exact hlt
            obtain ⟨ad, hA, cc⟩ := (HRD.out.below HB2.out).at_ hlt
            obtain ⟨d0, d1, d2⟩ := arc_cells cc
            have hdr := HST.out
            rw [List.drop_eq_getElem_cons hj', arcsBug] at hdr
            generalize g.arcs[j] = a at *
            have HDR := Lib.hid hdr
            clear hdr cc hj' HST HN
            subst hA
            have hb3 := (Below.refl wr.heap.size wr).alloc (Nat.le_refl _) (.cells #[.int .i64 a.f, .int .i64 a.t, .int .i64 a.w] 56)
            have hc3 := cells_new wr #[.int .i64 a.f, .int .i64 a.t, .int .i64 a.w] 56
            have HB3 := Lib.hid (HB2.out.trans (hb3.mono HB2.out.size))
            have HC3 := Lib.hid (HC2.out.below hb3)
            have HX3 := Lib.hid hc3
            clear hb3 hc3
            go_upto_region 6 with fail
            generalize wr.alloc (.cells #[.int .i64 a.f, .int .i64 a.t, .int .i64 a.w] 56) = w3 at *
            clear d0 d1 d2
            have x0 := HX3.out.cell 0
            have x1 := HX3.out.cell 1
            have x2 := HX3.out.cell 2
            have c0 := HC3.out.cell 0
            go_wp2_with fail
            refine (garc_any a g.n w3).mono ?_
            rintro e w4 ⟨rfl, hb4⟩
            have HB4 := Lib.hid (HB3.out.trans (hb4.mono HB3.out.size))
            have HC4 := Lib.hid (HC3.out.below hb4)
            clear hb4 x0 x1 x2 c0
            cases hbg : arcBug a g.n with
            | some c =>
              have hdr := HDR.out
              rw [hbg] at hdr
              have HAA : Hid (chkT g = some (c, some (4, (j : Int)))) := Lib.hid (by rw [HA.out, hdr])
              clear hbg hdr
              unfold errOpt
              go_wp2_with fail
              refine (FaultAt_any 4 (j : Int) c w4).mono ?_
              rintro e w5 ⟨rfl, hx5, hb5⟩
              have HEND : Hid (ErrProg (chkT g) W (.returned (.iface 50 (.pointer (some ⟨w4.heap.size, 0, none⟩)))) w5) := Lib.hid ⟨HB4.out.trans (hb5.mono HB4.out.size), by rw [HAA.out]; exact ⟨_, rfl, hx5, HB4.out.size⟩⟩
              clear hx5 hb5
              go_wp2_with fail
              rw [HQ0.out]
              go_ret
              exact HEND.out
            | none =>
              have hdr := HDR.out
              rw [hbg] at hdr
              dsimp only at hdr
              have HDR2 := Lib.hid hdr
              have hw1 : IntKind.i64.wrap ((j : Int) + 1) = (j : Int) + 1 := by rw [IntKind.wrap_i64]; omega
              clear hbg hdr
              unfold errOpt
              go_wp2_with fail
              go_roundw
              case rel => exact ⟨j + 1, by omega, by go_num, HB4.out, HC4.out, HDR2.out⟩
              case measure => simp [intOf]; omega
          · obtain rfl : j = n := by omega
            have hst := HST.out
            rw [List.drop_eq_nil_of_le (by rw [HN.out]; exact Nat.le_refl _)] at hst
            have HAA : Hid (chkT g = none) := Lib.hid (by rw [HA.out, hst]; rfl)
            clear hst
            go_wp2_with fail
            rw [HQ0.out]
            go_ret
            exact ⟨HB2.out, by rw [HAA.out]; rfl⟩
end Go.Proofs.YtmnnoecjedkdjaaGreatDoor
