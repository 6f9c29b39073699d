/- The document's Check. -/
import Derived.Test.YtmnnoecjedkdjaaGreatDoorGt22
set_option linter.unusedSimpArgs false
set_option linter.unusedVariables false
namespace Go.Proofs.YtmnnoecjedkdjaaGreatDoor
open Go.RowKit Txt

set_option maxRecDepth 100000 in
set_option maxHeartbeats 16000000 in
theorem DocCheck_any (g : GrT) (A : Option Addr) (kk : Nat) (W : World) (hrd : RdA W A g.arcs.length g.arcs) (hlen : g.arcs.length ≤ 9223372036854775806) :
    Calls Tryz.prog 60 #[.agg #[.int .i64 g.n, .slice A g.arcs.length kk]] W (ErrAt (chkT g) W) := by
  obtain ⟨n, hn⟩ : ∃ n, g.arcs.length = n := ⟨_, rfl⟩
  have HN := Lib.hid hn
  rw [hn] at hrd hlen ⊢
  clear hn
  have hb1 := two_alG W (.cells #[.int .i64 g.n, .slice A n kk] 30) (.cells #[.int .i64 0, .slice none 0 0] 136)
  have hp := (cells_new W #[.int .i64 g.n, .slice A n kk] 30).below ((Below.refl _ _).alloc (Nat.le_refl _) (.cells #[.int .i64 0, .slice none 0 0] 136))
  have he := cells_new (W.alloc (.cells #[.int .i64 g.n, .slice A n kk] 30)) #[.int .i64 0, .slice none 0 0] 136
  have hz : ((W.alloc (.cells #[.int .i64 g.n, .slice A n kk] 30)).alloc (.cells #[.int .i64 0, .slice none 0 0] 136)).heap.size = W.heap.size + 1 + 1 := by simp
  rw [size_alloc] at he
  have HB1 := Lib.hid hb1
  have HP1 := Lib.hid hp
  have HE1 := Lib.hid he
  have HRD := Lib.hid hrd
  clear hb1 hp he hrd
  go_enter Tryz.func60, Tryz.ntmps60
  refine wp_named ?_
  intro Q0 hQ0
  have HQ0 := Lib.hid hQ0
  clear hQ0
  go_upto_region 1 with fail
  generalize ((W.alloc (.cells #[.int .i64 g.n, .slice A n kk] 30)).alloc (.cells #[.int .i64 0, .slice none 0 0] 136)) = w1 at *
  have c0 := HP1.out.cell 0
  have c1 := HP1.out.cell 1
  by_cases h1 : g.n < 0
  · have g0 : decide (g.n < 0) = true := decide_eq_true h1
    have HA : Hid (chkT g = some (9, none)) := Lib.hid (by unfold chkT; rw [if_pos (.inl h1)])
    go_wp2_with fail
    refine (E_any 9 w1).mono ?_
    rintro e w2 ⟨rfl, hb2⟩
    have HB2 := Lib.hid (HB1.out.trans (hb2.mono HB1.out.size))
    have HP2 := Lib.hid (HP1.out.below hb2)
    have HE2 := Lib.hid (HE1.out.below hb2)
    have hs2 := hb2.size
    clear hb2 c0 c1
    have Ec0 : w2.cell? ⟨W.heap.size + 1, 0, none⟩ = some (.int .i64 0) := HE2.out.cell 0
    have Ef0 := HE2.out.frozen 0
    have Ec1 : w2.cell? ⟨W.heap.size + 1, 1, none⟩ = some (.slice none 0 0) := HE2.out.cell 1
    have Ef1 := HE2.out.frozen 1
    have hfin := (HE2.out.set_ 0 (.int .i64 9)).set_ 1 (.slice none 0 0)
    simp only [List.setIfInBounds_toArray, List.set_cons_zero, List.set_cons_succ] at hfin
    have hkz : Kept (fun k => k = W.heap.size + 1) w2 ((w2.setCell ⟨W.heap.size + 1, 0, none⟩ (.int .i64 9)).setCell ⟨W.heap.size + 1, 1, none⟩ (.slice none 0 0)) := ((Kept.refl (fun k => k = W.heap.size + 1) w2).set_ (p := ⟨W.heap.size + 1, 0, none⟩) (.inl rfl) _).set_ (p := ⟨W.heap.size + 1, 1, none⟩) (.inl rfl) _
    have HFIN := Lib.hid hfin
    have HKZ := Lib.hid hkz
    clear hfin hkz
    go_wp2_with fail
    generalize ((w2.setCell ⟨W.heap.size + 1, 0, none⟩ (.int .i64 9)).setCell ⟨W.heap.size + 1, 1, none⟩ (.slice none 0 0)) = wz at *
    have r0 : wz.cell? ⟨W.heap.size + 1, 0, none⟩ = some (.int .i64 9) := HFIN.out.cell 0
    have r1 : wz.cell? ⟨W.heap.size + 1, 1, none⟩ = some (.slice none 0 0) := HFIN.out.cell 1
    have hbz : Below W.heap.size W wz := HKZ.out.below HB2.out (fun k h => by omega) HB2.out.size
    have HEND : Hid (ErrAt (chkT g) W (.returned (.agg #[.int .i64 9, (.slice none 0 0)])) wz) := Lib.hid ⟨hbz, ⟨9, none, 0, 0⟩, rfl, by rw [HA.out]; rfl⟩
    rw [HQ0.out]
    refine bodyPost_ret (v := .agg #[.int .i64 9, (.slice none 0 0)]) ?hres rfl HEND.out
    case hres => simp [results, Tryz.results60, go_sem, r0, r1]
  · have g0 : decide (g.n < 0) = false := decide_eq_false h1
    by_cases h2 : 65536 < g.n
    · have g1 : decide ((65536 : Int) < g.n) = true := decide_eq_true h2
      have HA : Hid (chkT g = some (9, none)) := Lib.hid (by unfold chkT; rw [if_pos (.inr (.inl h2))])
      go_wp2_with fail
      refine (E_any 9 w1).mono ?_
      rintro e w2 ⟨rfl, hb2⟩
      have HB2 := Lib.hid (HB1.out.trans (hb2.mono HB1.out.size))
      have HP2 := Lib.hid (HP1.out.below hb2)
      have HE2 := Lib.hid (HE1.out.below hb2)
      have hs2 := hb2.size
      clear hb2 c0 c1
      have Ec0 : w2.cell? ⟨W.heap.size + 1, 0, none⟩ = some (.int .i64 0) := HE2.out.cell 0
      have Ef0 := HE2.out.frozen 0
      have Ec1 : w2.cell? ⟨W.heap.size + 1, 1, none⟩ = some (.slice none 0 0) := HE2.out.cell 1
      have Ef1 := HE2.out.frozen 1
      have hfin := (HE2.out.set_ 0 (.int .i64 9)).set_ 1 (.slice none 0 0)
      simp only [List.setIfInBounds_toArray, List.set_cons_zero, List.set_cons_succ] at hfin
      have hkz : Kept (fun k => k = W.heap.size + 1) w2 ((w2.setCell ⟨W.heap.size + 1, 0, none⟩ (.int .i64 9)).setCell ⟨W.heap.size + 1, 1, none⟩ (.slice none 0 0)) := ((Kept.refl (fun k => k = W.heap.size + 1) w2).set_ (p := ⟨W.heap.size + 1, 0, none⟩) (.inl rfl) _).set_ (p := ⟨W.heap.size + 1, 1, none⟩) (.inl rfl) _
      have HFIN := Lib.hid hfin
      have HKZ := Lib.hid hkz
      clear hfin hkz
      go_wp2_with fail
      generalize ((w2.setCell ⟨W.heap.size + 1, 0, none⟩ (.int .i64 9)).setCell ⟨W.heap.size + 1, 1, none⟩ (.slice none 0 0)) = wz at *
      have r0 : wz.cell? ⟨W.heap.size + 1, 0, none⟩ = some (.int .i64 9) := HFIN.out.cell 0
      have r1 : wz.cell? ⟨W.heap.size + 1, 1, none⟩ = some (.slice none 0 0) := HFIN.out.cell 1
      have hbz : Below W.heap.size W wz := HKZ.out.below HB2.out (fun k h => by omega) HB2.out.size
      have HEND : Hid (ErrAt (chkT g) W (.returned (.agg #[.int .i64 9, (.slice none 0 0)])) wz) := Lib.hid ⟨hbz, ⟨9, none, 0, 0⟩, rfl, by rw [HA.out]; rfl⟩
      rw [HQ0.out]
      refine bodyPost_ret (v := .agg #[.int .i64 9, (.slice none 0 0)]) ?hres rfl HEND.out
      case hres => simp [results, Tryz.results60, go_sem, r0, r1]
    · have g1 : decide ((65536 : Int) < g.n) = false := decide_eq_false h2
      by_cases h3 : 262144 < n
      · have g2 : decide ((262144 : Int) < (n : Int)) = true := decide_eq_true (by omega)
        have HA : Hid (chkT g = some (9, none)) := Lib.hid (by unfold chkT; rw [if_pos (.inr (.inr (by rw [HN.out]; exact h3)))])
        go_wp2_with fail
        refine (E_any 9 w1).mono ?_
        rintro e w2 ⟨rfl, hb2⟩
        have HB2 := Lib.hid (HB1.out.trans (hb2.mono HB1.out.size))
        have HP2 := Lib.hid (HP1.out.below hb2)
        have HE2 := Lib.hid (HE1.out.below hb2)
        have hs2 := hb2.size
        clear hb2 c0 c1
        have Ec0 : w2.cell? ⟨W.heap.size + 1, 0, none⟩ = some (.int .i64 0) := HE2.out.cell 0
        have Ef0 := HE2.out.frozen 0
        have Ec1 : w2.cell? ⟨W.heap.size + 1, 1, none⟩ = some (.slice none 0 0) := HE2.out.cell 1
        have Ef1 := HE2.out.frozen 1
        have hfin := (HE2.out.set_ 0 (.int .i64 9)).set_ 1 (.slice none 0 0)
        simp only [List.setIfInBounds_toArray, List.set_cons_zero, List.set_cons_succ] at hfin
        have hkz : Kept (fun k => k = W.heap.size + 1) w2 ((w2.setCell ⟨W.heap.size + 1, 0, none⟩ (.int .i64 9)).setCell ⟨W.heap.size + 1, 1, none⟩ (.slice none 0 0)) := ((Kept.refl (fun k => k = W.heap.size + 1) w2).set_ (p := ⟨W.heap.size + 1, 0, none⟩) (.inl rfl) _).set_ (p := ⟨W.heap.size + 1, 1, none⟩) (.inl rfl) _
        have HFIN := Lib.hid hfin
        have HKZ := Lib.hid hkz
        clear hfin hkz
        go_wp2_with fail
        generalize ((w2.setCell ⟨W.heap.size + 1, 0, none⟩ (.int .i64 9)).setCell ⟨W.heap.size + 1, 1, none⟩ (.slice none 0 0)) = wz at *
        have r0 : wz.cell? ⟨W.heap.size + 1, 0, none⟩ = some (.int .i64 9) := HFIN.out.cell 0
        have r1 : wz.cell? ⟨W.heap.size + 1, 1, none⟩ = some (.slice none 0 0) := HFIN.out.cell 1
        have hbz : Below W.heap.size W wz := HKZ.out.below HB2.out (fun k h => by omega) HB2.out.size
        have HEND : Hid (ErrAt (chkT g) W (.returned (.agg #[.int .i64 9, (.slice none 0 0)])) wz) := Lib.hid ⟨hbz, ⟨9, none, 0, 0⟩, rfl, by rw [HA.out]; rfl⟩
        rw [HQ0.out]
        refine bodyPost_ret (v := .agg #[.int .i64 9, (.slice none 0 0)]) ?hres rfl HEND.out
        case hres => simp [results, Tryz.results60, go_sem, r0, r1]
      · have g2 : decide ((262144 : Int) < (n : Int)) = false := decide_eq_false (by omega)
        have HA : Hid (chkT g = arcsBug g.n 0 g.arcs) := Lib.hid (by unfold chkT; rw [if_neg (by rw [HN.out]; omega)])
        clear h1 h2 h3
        go_upto_region 4 with fail
        clear c0 c1
        go_loopw [23] (fun iv wr => ∃ j : Nat, j ≤ n ∧ iv = .int .i64 (j : Int) ∧ Below W.heap.size W wr ∧ Cells wr W.heap.size #[.int .i64 g.n, .slice A n kk] 30 ∧ Cells wr (W.heap.size + 1) #[.int .i64 0, .slice none 0 0] 136 ∧ arcsBug g.n 0 g.arcs = arcsBug g.n j (g.arcs.drop j)) (fun iv _ => n - (intOf iv).toNat)
        case atStart => exact ⟨0, by omega, rfl, HB1.out, HP1.out, HE1.out, rfl⟩
        case round =>
          obtain ⟨j, hj, rfl, hb, hp, he, hst⟩ := hrel
          have HBr := Lib.hid hb
          have HPr := Lib.hid hp
          have HEr := Lib.hid he
          have HST := Lib.hid hst
          clear hb hp he hst
          by_cases hlt : j < n
          · have q0 : decide ((j : Int) < (n : Int)) = true := decide_eq_true (by omega)
            have hj' : j < g.arcs.length := by rw [HN.out]; exact hlt
            obtain ⟨ad, hA, cc⟩ := (HRD.out.below HBr.out).at_ hlt
            obtain ⟨d0, d1, d2⟩ := arc_cells cc
            have hdr := HST.out
            rw [List.drop_eq_getElem_cons hj', arcsBug] at hdr
            generalize g.arcs[j] = a at *
            have HDR := Lib.hid hdr
            clear hdr cc hj' HST HN
            subst hA
            have hb3 := (Below.refl wr.heap.size wr).alloc (Nat.le_refl _) (.cells #[.int .i64 a.f, .int .i64 a.t, .int .i64 a.w] 56)
            have hx3 := cells_new wr #[.int .i64 a.f, .int .i64 a.t, .int .i64 a.w] 56
            have HB3 := Lib.hid (HBr.out.trans (hb3.mono HBr.out.size))
            have HP3 := Lib.hid (HPr.out.below hb3)
            have HE3 := Lib.hid (HEr.out.below hb3)
            have hs3 := hb3.size
            clear hb3
            have HX3 := Lib.hid hx3
            clear hx3
            go_upto_region 6 with fail
            generalize wr.alloc (.cells #[.int .i64 a.f, .int .i64 a.t, .int .i64 a.w] 56) = w3 at *
            clear d0 d1 d2
            have Xc0 : w3.cell? ⟨wr.heap.size, 0, none⟩ = some (.int .i64 a.f) := HX3.out.cell 0
            have Xc1 : w3.cell? ⟨wr.heap.size, 1, none⟩ = some (.int .i64 a.t) := HX3.out.cell 1
            have Xc2 : w3.cell? ⟨wr.heap.size, 2, none⟩ = some (.int .i64 a.w) := HX3.out.cell 2
            have pc0 : w3.cell? ⟨W.heap.size, 0, none⟩ = some (.int .i64 g.n) := HP3.out.cell 0
            by_cases h : a.f < 0
            · have t0 : decide (a.f < 0) = true := decide_eq_true h
              have hdr := HDR.out
              rw [show arcBug a g.n = some 7 by unfold arcBug; rw [if_pos (.inl h)]] at hdr
              have HAA : Hid (chkT g = some (7, some (4, (j : Int)))) := Lib.hid (by rw [HA.out, hdr])
              clear hdr
              go_wp2_with fail
              refine (E_any 7 _).mono ?_
              rintro e w5 ⟨rfl, hb5⟩
              have HB5 := Lib.hid (HB3.out.trans (hb5.mono HB3.out.size))
              have HE5 := Lib.hid (HE3.out.below hb5)
              have hs5 := hb5.size
              clear hb5 Xc0 Xc1 Xc2 pc0
              go_wp2_with fail
              refine (At1_any 4 (j : Int) 7 w5).mono ?_
              rintro e w6 ⟨g6, k6, rfl, hx6, hg6, hb6⟩
              have HX6 := Lib.hid hx6
              have hs50 := HB5.out.size
              have hl50 := HE5.out.lt
              clear hx6
              have HB6 := Lib.hid (HB5.out.trans (hb6.mono HB5.out.size))
              have HE6 := Lib.hid (HE5.out.below hb6)
              have hs6 := hb6.size
              clear hb6
              have Ec0 : w6.cell? ⟨W.heap.size + 1, 0, none⟩ = some (.int .i64 0) := HE6.out.cell 0
              have Ef0 := HE6.out.frozen 0
              have Ec1 : w6.cell? ⟨W.heap.size + 1, 1, none⟩ = some (.slice none 0 0) := HE6.out.cell 1
              have Ef1 := HE6.out.frozen 1
              have hfin := (HE6.out.set_ 0 (.int .i64 7)).set_ 1 (.slice (some ⟨g6, 0, none⟩) 1 k6)
              simp only [List.setIfInBounds_toArray, List.set_cons_zero, List.set_cons_succ] at hfin
              have hkz : Kept (fun k => k = W.heap.size + 1) w6 ((w6.setCell ⟨W.heap.size + 1, 0, none⟩ (.int .i64 7)).setCell ⟨W.heap.size + 1, 1, none⟩ (.slice (some ⟨g6, 0, none⟩) 1 k6)) := ((Kept.refl (fun k => k = W.heap.size + 1) w6).set_ (p := ⟨W.heap.size + 1, 0, none⟩) (.inl rfl) _).set_ (p := ⟨W.heap.size + 1, 1, none⟩) (.inl rfl) _
              have HFIN := Lib.hid hfin
              have HKZ := Lib.hid hkz
              clear hfin hkz
              go_wp2_with fail
              generalize ((w6.setCell ⟨W.heap.size + 1, 0, none⟩ (.int .i64 7)).setCell ⟨W.heap.size + 1, 1, none⟩ (.slice (some ⟨g6, 0, none⟩) 1 k6)) = wz at *
              have r0 : wz.cell? ⟨W.heap.size + 1, 0, none⟩ = some (.int .i64 7) := HFIN.out.cell 0
              have r1 : wz.cell? ⟨W.heap.size + 1, 1, none⟩ = some (.slice (some ⟨g6, 0, none⟩) 1 k6) := HFIN.out.cell 1
              have hbz : Below W.heap.size W wz := HKZ.out.below HB6.out (fun k h => by omega) HB6.out.size
              have HEND : Hid (ErrAt (chkT g) W (.returned (.agg #[.int .i64 7, (.slice (some ⟨g6, 0, none⟩) 1 k6)])) wz) := Lib.hid ⟨hbz, ⟨7, (some ⟨g6, 0, none⟩), 1, k6⟩, rfl, by rw [HAA.out]; exact ⟨g6, k6, rfl, HKZ.out.cells HX6.out (fun h => by omega), by omega⟩⟩
              rw [HQ0.out]
              refine bodyPost_ret (v := .agg #[.int .i64 7, (.slice (some ⟨g6, 0, none⟩) 1 k6)]) ?hres rfl HEND.out
              case hres => simp [results, Tryz.results60, go_sem, r0, r1]
            · have t0 : decide (a.f < 0) = false := decide_eq_false h
              have n0 := h
              clear h
              by_cases h : g.n ≤ a.f
              · have t1 : decide (g.n ≤ a.f) = true := decide_eq_true h
                have hdr := HDR.out
                rw [show arcBug a g.n = some 7 by unfold arcBug; rw [if_pos (.inr (.inl h))]] at hdr
                have HAA : Hid (chkT g = some (7, some (4, (j : Int)))) := Lib.hid (by rw [HA.out, hdr])
                clear hdr
                go_wp2_with fail
                refine (E_any 7 _).mono ?_
                rintro e w5 ⟨rfl, hb5⟩
                have HB5 := Lib.hid (HB3.out.trans (hb5.mono HB3.out.size))
                have HE5 := Lib.hid (HE3.out.below hb5)
                have hs5 := hb5.size
                clear hb5 Xc0 Xc1 Xc2 pc0
                go_wp2_with fail
                refine (At1_any 4 (j : Int) 7 w5).mono ?_
                rintro e w6 ⟨g6, k6, rfl, hx6, hg6, hb6⟩
                have HX6 := Lib.hid hx6
                have hs50 := HB5.out.size
                have hl50 := HE5.out.lt
                clear hx6
                have HB6 := Lib.hid (HB5.out.trans (hb6.mono HB5.out.size))
                have HE6 := Lib.hid (HE5.out.below hb6)
                have hs6 := hb6.size
                clear hb6
                have Ec0 : w6.cell? ⟨W.heap.size + 1, 0, none⟩ = some (.int .i64 0) := HE6.out.cell 0
                have Ef0 := HE6.out.frozen 0
                have Ec1 : w6.cell? ⟨W.heap.size + 1, 1, none⟩ = some (.slice none 0 0) := HE6.out.cell 1
                have Ef1 := HE6.out.frozen 1
                have hfin := (HE6.out.set_ 0 (.int .i64 7)).set_ 1 (.slice (some ⟨g6, 0, none⟩) 1 k6)
                simp only [List.setIfInBounds_toArray, List.set_cons_zero, List.set_cons_succ] at hfin
                have hkz : Kept (fun k => k = W.heap.size + 1) w6 ((w6.setCell ⟨W.heap.size + 1, 0, none⟩ (.int .i64 7)).setCell ⟨W.heap.size + 1, 1, none⟩ (.slice (some ⟨g6, 0, none⟩) 1 k6)) := ((Kept.refl (fun k => k = W.heap.size + 1) w6).set_ (p := ⟨W.heap.size + 1, 0, none⟩) (.inl rfl) _).set_ (p := ⟨W.heap.size + 1, 1, none⟩) (.inl rfl) _
                have HFIN := Lib.hid hfin
                have HKZ := Lib.hid hkz
                clear hfin hkz
                go_wp2_with fail
                generalize ((w6.setCell ⟨W.heap.size + 1, 0, none⟩ (.int .i64 7)).setCell ⟨W.heap.size + 1, 1, none⟩ (.slice (some ⟨g6, 0, none⟩) 1 k6)) = wz at *
                have r0 : wz.cell? ⟨W.heap.size + 1, 0, none⟩ = some (.int .i64 7) := HFIN.out.cell 0
                have r1 : wz.cell? ⟨W.heap.size + 1, 1, none⟩ = some (.slice (some ⟨g6, 0, none⟩) 1 k6) := HFIN.out.cell 1
                have hbz : Below W.heap.size W wz := HKZ.out.below HB6.out (fun k h => by omega) HB6.out.size
                have HEND : Hid (ErrAt (chkT g) W (.returned (.agg #[.int .i64 7, (.slice (some ⟨g6, 0, none⟩) 1 k6)])) wz) := Lib.hid ⟨hbz, ⟨7, (some ⟨g6, 0, none⟩), 1, k6⟩, rfl, by rw [HAA.out]; exact ⟨g6, k6, rfl, HKZ.out.cells HX6.out (fun h => by omega), by omega⟩⟩
                rw [HQ0.out]
                refine bodyPost_ret (v := .agg #[.int .i64 7, (.slice (some ⟨g6, 0, none⟩) 1 k6)]) ?hres rfl HEND.out
                case hres => simp [results, Tryz.results60, go_sem, r0, r1]
              · have t1 : decide (g.n ≤ a.f) = false := decide_eq_false h
                have n1 := h
                clear h
                by_cases h : a.t < 0
                · have t2 : decide (a.t < 0) = true := decide_eq_true h
                  have hdr := HDR.out
                  rw [show arcBug a g.n = some 7 by unfold arcBug; rw [if_pos (.inr (.inr (.inl h)))]] at hdr
                  have HAA : Hid (chkT g = some (7, some (4, (j : Int)))) := Lib.hid (by rw [HA.out, hdr])
                  clear hdr
                  go_wp2_with fail
                  refine (E_any 7 _).mono ?_
                  rintro e w5 ⟨rfl, hb5⟩
                  have HB5 := Lib.hid (HB3.out.trans (hb5.mono HB3.out.size))
                  have HE5 := Lib.hid (HE3.out.below hb5)
                  have hs5 := hb5.size
                  clear hb5 Xc0 Xc1 Xc2 pc0
                  go_wp2_with fail
                  refine (At1_any 4 (j : Int) 7 w5).mono ?_
                  rintro e w6 ⟨g6, k6, rfl, hx6, hg6, hb6⟩
                  have HX6 := Lib.hid hx6
                  have hs50 := HB5.out.size
                  have hl50 := HE5.out.lt
                  clear hx6
                  have HB6 := Lib.hid (HB5.out.trans (hb6.mono HB5.out.size))
                  have HE6 := Lib.hid (HE5.out.below hb6)
                  have hs6 := hb6.size
                  clear hb6
                  have Ec0 : w6.cell? ⟨W.heap.size + 1, 0, none⟩ = some (.int .i64 0) := HE6.out.cell 0
                  have Ef0 := HE6.out.frozen 0
                  have Ec1 : w6.cell? ⟨W.heap.size + 1, 1, none⟩ = some (.slice none 0 0) := HE6.out.cell 1
                  have Ef1 := HE6.out.frozen 1
                  have hfin := (HE6.out.set_ 0 (.int .i64 7)).set_ 1 (.slice (some ⟨g6, 0, none⟩) 1 k6)
                  simp only [List.setIfInBounds_toArray, List.set_cons_zero, List.set_cons_succ] at hfin
                  have hkz : Kept (fun k => k = W.heap.size + 1) w6 ((w6.setCell ⟨W.heap.size + 1, 0, none⟩ (.int .i64 7)).setCell ⟨W.heap.size + 1, 1, none⟩ (.slice (some ⟨g6, 0, none⟩) 1 k6)) := ((Kept.refl (fun k => k = W.heap.size + 1) w6).set_ (p := ⟨W.heap.size + 1, 0, none⟩) (.inl rfl) _).set_ (p := ⟨W.heap.size + 1, 1, none⟩) (.inl rfl) _
                  have HFIN := Lib.hid hfin
                  have HKZ := Lib.hid hkz
                  clear hfin hkz
                  go_wp2_with fail
                  generalize ((w6.setCell ⟨W.heap.size + 1, 0, none⟩ (.int .i64 7)).setCell ⟨W.heap.size + 1, 1, none⟩ (.slice (some ⟨g6, 0, none⟩) 1 k6)) = wz at *
                  have r0 : wz.cell? ⟨W.heap.size + 1, 0, none⟩ = some (.int .i64 7) := HFIN.out.cell 0
                  have r1 : wz.cell? ⟨W.heap.size + 1, 1, none⟩ = some (.slice (some ⟨g6, 0, none⟩) 1 k6) := HFIN.out.cell 1
                  have hbz : Below W.heap.size W wz := HKZ.out.below HB6.out (fun k h => by omega) HB6.out.size
                  have HEND : Hid (ErrAt (chkT g) W (.returned (.agg #[.int .i64 7, (.slice (some ⟨g6, 0, none⟩) 1 k6)])) wz) := Lib.hid ⟨hbz, ⟨7, (some ⟨g6, 0, none⟩), 1, k6⟩, rfl, by rw [HAA.out]; exact ⟨g6, k6, rfl, HKZ.out.cells HX6.out (fun h => by omega), by omega⟩⟩
                  rw [HQ0.out]
                  refine bodyPost_ret (v := .agg #[.int .i64 7, (.slice (some ⟨g6, 0, none⟩) 1 k6)]) ?hres rfl HEND.out
                  case hres => simp [results, Tryz.results60, go_sem, r0, r1]
                · have t2 : decide (a.t < 0) = false := decide_eq_false h
                  have n2 := h
                  clear h
                  by_cases h : g.n ≤ a.t
                  · have t3 : decide (g.n ≤ a.t) = true := decide_eq_true h
                    have hdr := HDR.out
                    rw [show arcBug a g.n = some 7 by unfold arcBug; rw [if_pos (.inr (.inr (.inr h)))]] at hdr
                    have HAA : Hid (chkT g = some (7, some (4, (j : Int)))) := Lib.hid (by rw [HA.out, hdr])
                    clear hdr
                    go_wp2_with fail
                    refine (E_any 7 _).mono ?_
                    rintro e w5 ⟨rfl, hb5⟩
                    have HB5 := Lib.hid (HB3.out.trans (hb5.mono HB3.out.size))
                    have HE5 := Lib.hid (HE3.out.below hb5)
                    have hs5 := hb5.size
                    clear hb5 Xc0 Xc1 Xc2 pc0
                    go_wp2_with fail
                    refine (At1_any 4 (j : Int) 7 w5).mono ?_
                    rintro e w6 ⟨g6, k6, rfl, hx6, hg6, hb6⟩
                    have HX6 := Lib.hid hx6
                    have hs50 := HB5.out.size
                    have hl50 := HE5.out.lt
                    clear hx6
                    have HB6 := Lib.hid (HB5.out.trans (hb6.mono HB5.out.size))
                    have HE6 := Lib.hid (HE5.out.below hb6)
                    have hs6 := hb6.size
                    clear hb6
                    have Ec0 : w6.cell? ⟨W.heap.size + 1, 0, none⟩ = some (.int .i64 0) := HE6.out.cell 0
                    have Ef0 := HE6.out.frozen 0
                    have Ec1 : w6.cell? ⟨W.heap.size + 1, 1, none⟩ = some (.slice none 0 0) := HE6.out.cell 1
                    have Ef1 := HE6.out.frozen 1
                    have hfin := (HE6.out.set_ 0 (.int .i64 7)).set_ 1 (.slice (some ⟨g6, 0, none⟩) 1 k6)
                    simp only [List.setIfInBounds_toArray, List.set_cons_zero, List.set_cons_succ] at hfin
                    have hkz : Kept (fun k => k = W.heap.size + 1) w6 ((w6.setCell ⟨W.heap.size + 1, 0, none⟩ (.int .i64 7)).setCell ⟨W.heap.size + 1, 1, none⟩ (.slice (some ⟨g6, 0, none⟩) 1 k6)) := ((Kept.refl (fun k => k = W.heap.size + 1) w6).set_ (p := ⟨W.heap.size + 1, 0, none⟩) (.inl rfl) _).set_ (p := ⟨W.heap.size + 1, 1, none⟩) (.inl rfl) _
                    have HFIN := Lib.hid hfin
                    have HKZ := Lib.hid hkz
                    clear hfin hkz
                    go_wp2_with fail
                    generalize ((w6.setCell ⟨W.heap.size + 1, 0, none⟩ (.int .i64 7)).setCell ⟨W.heap.size + 1, 1, none⟩ (.slice (some ⟨g6, 0, none⟩) 1 k6)) = wz at *
                    have r0 : wz.cell? ⟨W.heap.size + 1, 0, none⟩ = some (.int .i64 7) := HFIN.out.cell 0
                    have r1 : wz.cell? ⟨W.heap.size + 1, 1, none⟩ = some (.slice (some ⟨g6, 0, none⟩) 1 k6) := HFIN.out.cell 1
                    have hbz : Below W.heap.size W wz := HKZ.out.below HB6.out (fun k h => by omega) HB6.out.size
                    have HEND : Hid (ErrAt (chkT g) W (.returned (.agg #[.int .i64 7, (.slice (some ⟨g6, 0, none⟩) 1 k6)])) wz) := Lib.hid ⟨hbz, ⟨7, (some ⟨g6, 0, none⟩), 1, k6⟩, rfl, by rw [HAA.out]; exact ⟨g6, k6, rfl, HKZ.out.cells HX6.out (fun h => by omega), by omega⟩⟩
                    rw [HQ0.out]
                    refine bodyPost_ret (v := .agg #[.int .i64 7, (.slice (some ⟨g6, 0, none⟩) 1 k6)]) ?hres rfl HEND.out
                    case hres => simp [results, Tryz.results60, go_sem, r0, r1]
                  · have t3 : decide (g.n ≤ a.t) = false := decide_eq_false h
                    have n3 := h
                    clear h
                    have hno : ¬ (a.f < 0 ∨ g.n ≤ a.f ∨ a.t < 0 ∨ g.n ≤ a.t) := by omega
                    clear n0 n1 n2 n3
                    by_cases h : a.w < 0
                    · have s0 : decide (a.w < 0) = true := decide_eq_true h
                      have hdr := HDR.out
                      rw [show arcBug a g.n = some 8 by unfold arcBug; rw [if_neg hno, if_pos (.inl h)]] at hdr
                      have HAA : Hid (chkT g = some (8, some (4, (j : Int)))) := Lib.hid (by rw [HA.out, hdr])
                      clear hdr hno
                      go_wp2_with fail
                      refine (E_any 8 _).mono ?_
                      rintro e w5 ⟨rfl, hb5⟩
                      have HB5 := Lib.hid (HB3.out.trans (hb5.mono HB3.out.size))
                      have HE5 := Lib.hid (HE3.out.below hb5)
                      have hs5 := hb5.size
                      clear hb5 Xc0 Xc1 Xc2 pc0
                      go_wp2_with fail
                      refine (At1_any 4 (j : Int) 8 w5).mono ?_
                      rintro e w6 ⟨g6, k6, rfl, hx6, hg6, hb6⟩
                      have HX6 := Lib.hid hx6
                      have hs50 := HB5.out.size
                      have hl50 := HE5.out.lt
                      clear hx6
                      have HB6 := Lib.hid (HB5.out.trans (hb6.mono HB5.out.size))
                      have HE6 := Lib.hid (HE5.out.below hb6)
                      have hs6 := hb6.size
                      clear hb6
                      have Ec0 : w6.cell? ⟨W.heap.size + 1, 0, none⟩ = some (.int .i64 0) := HE6.out.cell 0
                      have Ef0 := HE6.out.frozen 0
                      have Ec1 : w6.cell? ⟨W.heap.size + 1, 1, none⟩ = some (.slice none 0 0) := HE6.out.cell 1
                      have Ef1 := HE6.out.frozen 1
                      have hfin := (HE6.out.set_ 0 (.int .i64 8)).set_ 1 (.slice (some ⟨g6, 0, none⟩) 1 k6)
                      simp only [List.setIfInBounds_toArray, List.set_cons_zero, List.set_cons_succ] at hfin
                      have hkz : Kept (fun k => k = W.heap.size + 1) w6 ((w6.setCell ⟨W.heap.size + 1, 0, none⟩ (.int .i64 8)).setCell ⟨W.heap.size + 1, 1, none⟩ (.slice (some ⟨g6, 0, none⟩) 1 k6)) := ((Kept.refl (fun k => k = W.heap.size + 1) w6).set_ (p := ⟨W.heap.size + 1, 0, none⟩) (.inl rfl) _).set_ (p := ⟨W.heap.size + 1, 1, none⟩) (.inl rfl) _
                      have HFIN := Lib.hid hfin
                      have HKZ := Lib.hid hkz
                      clear hfin hkz
                      go_wp2_with fail
                      generalize ((w6.setCell ⟨W.heap.size + 1, 0, none⟩ (.int .i64 8)).setCell ⟨W.heap.size + 1, 1, none⟩ (.slice (some ⟨g6, 0, none⟩) 1 k6)) = wz at *
                      have r0 : wz.cell? ⟨W.heap.size + 1, 0, none⟩ = some (.int .i64 8) := HFIN.out.cell 0
                      have r1 : wz.cell? ⟨W.heap.size + 1, 1, none⟩ = some (.slice (some ⟨g6, 0, none⟩) 1 k6) := HFIN.out.cell 1
                      have hbz : Below W.heap.size W wz := HKZ.out.below HB6.out (fun k h => by omega) HB6.out.size
                      have HEND : Hid (ErrAt (chkT g) W (.returned (.agg #[.int .i64 8, (.slice (some ⟨g6, 0, none⟩) 1 k6)])) wz) := Lib.hid ⟨hbz, ⟨8, (some ⟨g6, 0, none⟩), 1, k6⟩, rfl, by rw [HAA.out]; exact ⟨g6, k6, rfl, HKZ.out.cells HX6.out (fun h => by omega), by omega⟩⟩
                      rw [HQ0.out]
                      refine bodyPost_ret (v := .agg #[.int .i64 8, (.slice (some ⟨g6, 0, none⟩) 1 k6)]) ?hres rfl HEND.out
                      case hres => simp [results, Tryz.results60, go_sem, r0, r1]
                    · have s0 : decide (a.w < 0) = false := decide_eq_false h
                      have m0 := h
                      clear h
                      by_cases h : 2147483647 < a.w
                      · have s1 : decide ((2147483647 : Int) < a.w) = true := decide_eq_true h
                        have hdr := HDR.out
                        rw [show arcBug a g.n = some 8 by unfold arcBug; rw [if_neg hno, if_pos (.inr h)]] at hdr
                        have HAA : Hid (chkT g = some (8, some (4, (j : Int)))) := Lib.hid (by rw [HA.out, hdr])
                        clear hdr hno
                        go_wp2_with fail
                        refine (E_any 8 _).mono ?_
                        rintro e w5 ⟨rfl, hb5⟩
                        have HB5 := Lib.hid (HB3.out.trans (hb5.mono HB3.out.size))
                        have HE5 := Lib.hid (HE3.out.below hb5)
                        have hs5 := hb5.size
                        clear hb5 Xc0 Xc1 Xc2 pc0
                        go_wp2_with fail
                        refine (At1_any 4 (j : Int) 8 w5).mono ?_
                        rintro e w6 ⟨g6, k6, rfl, hx6, hg6, hb6⟩
                        have HX6 := Lib.hid hx6
                        have hs50 := HB5.out.size
                        have hl50 := HE5.out.lt
                        clear hx6
                        have HB6 := Lib.hid (HB5.out.trans (hb6.mono HB5.out.size))
                        have HE6 := Lib.hid (HE5.out.below hb6)
                        have hs6 := hb6.size
                        clear hb6
                        have Ec0 : w6.cell? ⟨W.heap.size + 1, 0, none⟩ = some (.int .i64 0) := HE6.out.cell 0
                        have Ef0 := HE6.out.frozen 0
                        have Ec1 : w6.cell? ⟨W.heap.size + 1, 1, none⟩ = some (.slice none 0 0) := HE6.out.cell 1
                        have Ef1 := HE6.out.frozen 1
                        have hfin := (HE6.out.set_ 0 (.int .i64 8)).set_ 1 (.slice (some ⟨g6, 0, none⟩) 1 k6)
                        simp only [List.setIfInBounds_toArray, List.set_cons_zero, List.set_cons_succ] at hfin
                        have hkz : Kept (fun k => k = W.heap.size + 1) w6 ((w6.setCell ⟨W.heap.size + 1, 0, none⟩ (.int .i64 8)).setCell ⟨W.heap.size + 1, 1, none⟩ (.slice (some ⟨g6, 0, none⟩) 1 k6)) := ((Kept.refl (fun k => k = W.heap.size + 1) w6).set_ (p := ⟨W.heap.size + 1, 0, none⟩) (.inl rfl) _).set_ (p := ⟨W.heap.size + 1, 1, none⟩) (.inl rfl) _
                        have HFIN := Lib.hid hfin
                        have HKZ := Lib.hid hkz
                        clear hfin hkz
                        go_wp2_with fail
                        generalize ((w6.setCell ⟨W.heap.size + 1, 0, none⟩ (.int .i64 8)).setCell ⟨W.heap.size + 1, 1, none⟩ (.slice (some ⟨g6, 0, none⟩) 1 k6)) = wz at *
                        have r0 : wz.cell? ⟨W.heap.size + 1, 0, none⟩ = some (.int .i64 8) := HFIN.out.cell 0
                        have r1 : wz.cell? ⟨W.heap.size + 1, 1, none⟩ = some (.slice (some ⟨g6, 0, none⟩) 1 k6) := HFIN.out.cell 1
                        have hbz : Below W.heap.size W wz := HKZ.out.below HB6.out (fun k h => by omega) HB6.out.size
                        have HEND : Hid (ErrAt (chkT g) W (.returned (.agg #[.int .i64 8, (.slice (some ⟨g6, 0, none⟩) 1 k6)])) wz) := Lib.hid ⟨hbz, ⟨8, (some ⟨g6, 0, none⟩), 1, k6⟩, rfl, by rw [HAA.out]; exact ⟨g6, k6, rfl, HKZ.out.cells HX6.out (fun h => by omega), by omega⟩⟩
                        rw [HQ0.out]
                        refine bodyPost_ret (v := .agg #[.int .i64 8, (.slice (some ⟨g6, 0, none⟩) 1 k6)]) ?hres rfl HEND.out
                        case hres => simp [results, Tryz.results60, go_sem, r0, r1]
                      · have s1 : decide ((2147483647 : Int) < a.w) = false := decide_eq_false h
                        have m1 := h
                        clear h
                        have hdr := HDR.out
                        rw [show arcBug a g.n = none by unfold arcBug; rw [if_neg hno, if_neg (by omega)]] at hdr
                        dsimp only at hdr
                        have HDR2 := Lib.hid hdr
                        have hw1 : IntKind.i64.wrap ((j : Int) + 1) = (j : Int) + 1 := by rw [IntKind.wrap_i64]; omega
                        clear hdr hno m0 m1
                        go_wp2_with fail
                        go_roundw
                        case rel => exact ⟨j + 1, by omega, by go_num, HB3.out, HP3.out, HE3.out, HDR2.out⟩
                        case measure => simp [intOf]; omega
          · obtain rfl : j = n := by omega
            have hst := HST.out
            rw [List.drop_eq_nil_of_le (by rw [HN.out]; exact Nat.le_refl _)] at hst
            have HAA : Hid (chkT g = none) := Lib.hid (by rw [HA.out, hst]; rfl)
            clear hst
            have Ec0 : wr.cell? ⟨W.heap.size + 1, 0, none⟩ = some (.int .i64 0) := HEr.out.cell 0
            have Ef0 := HEr.out.frozen 0
            have Ec1 : wr.cell? ⟨W.heap.size + 1, 1, none⟩ = some (.slice none 0 0) := HEr.out.cell 1
            have Ef1 := HEr.out.frozen 1
            have hfin := (HEr.out.set_ 0 (.int .i64 0)).set_ 1 (.slice none 0 0)
            simp only [List.setIfInBounds_toArray, List.set_cons_zero, List.set_cons_succ] at hfin
            have hkz : Kept (fun k => k = W.heap.size + 1) wr ((wr.setCell ⟨W.heap.size + 1, 0, none⟩ (.int .i64 0)).setCell ⟨W.heap.size + 1, 1, none⟩ (.slice none 0 0)) := ((Kept.refl (fun k => k = W.heap.size + 1) wr).set_ (p := ⟨W.heap.size + 1, 0, none⟩) (.inl rfl) _).set_ (p := ⟨W.heap.size + 1, 1, none⟩) (.inl rfl) _
            have HFIN := Lib.hid hfin
            have HKZ := Lib.hid hkz
            clear hfin hkz
            go_wp2_with fail
            generalize ((wr.setCell ⟨W.heap.size + 1, 0, none⟩ (.int .i64 0)).setCell ⟨W.heap.size + 1, 1, none⟩ (.slice none 0 0)) = wz at *
            have r0 : wz.cell? ⟨W.heap.size + 1, 0, none⟩ = some (.int .i64 0) := HFIN.out.cell 0
            have r1 : wz.cell? ⟨W.heap.size + 1, 1, none⟩ = some (.slice none 0 0) := HFIN.out.cell 1
            have hbz : Below W.heap.size W wz := HKZ.out.below HBr.out (fun k h => by omega) HBr.out.size
            have HEND : Hid (ErrAt (chkT g) W (.returned (.agg #[.int .i64 0, (.slice none 0 0)])) wz) := Lib.hid ⟨hbz, ⟨0, none, 0, 0⟩, rfl, by rw [HAA.out]; rfl⟩
            rw [HQ0.out]
            refine bodyPost_ret (v := .agg #[.int .i64 0, (.slice none 0 0)]) ?hres rfl HEND.out
            case hres => simp [results, Tryz.results60, go_sem, r0, r1]
end Go.Proofs.YtmnnoecjedkdjaaGreatDoor
