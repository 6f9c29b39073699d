/- DocUp and DocDown: what they answer. (Printed by gen_docup.py.) -/
import Derived.Test.YtkcnnamghpdplaaDoorCl29
import Derived.Test.YtkcnnamghpdplaaDoorCl30
import Derived.Test.YtkcnnamghpdplaaDoorCl25
import Derived.Test.YtkcnnamghpdplaaDoorCl12
import Derived.Test.YtkcnnamghpdplaaDoorClB
set_option linter.unusedSimpArgs false
set_option linter.unusedVariables false
namespace Go.Proofs.YtkcnnamghpdplaaDoor
open Go.RowKit

def DocRes (bug : Bug) (n : Nat) (S S' : Nat → List Lk) (s : Nat) (W : World) (e : Ending) (w' : World) : Prop := Below W.heap.size W w' ∧ match bug with
  | some b => ∃ x, e = .returned (.tuple #[.slice none 0 0, errV x]) ∧ DocX (some b) W.heap.size x w'
  | none => ∃ D A c, Sol n S s D ∧ e = .returned (.tuple #[.slice A (seenTo D S' n).length c, errV zX]) ∧ OwnSr w' W.heap.size (.slice A (seenTo D S' n).length c) (seenTo D S' n)
theorem DocRes.bad {b : Int × Option (Int × Int)} {n : Nat} {S S' : Nat → List Lk} {s : Nat} {W w' : World} {x : ErrX} (hb : Below W.heap.size W w') (hx : DocX (some b) (W.heap.size + 2) x w') : DocRes (some b) n S S' s W (.returned (.tuple #[.slice none 0 0, errV x])) w' :=
  ⟨hb, x, rfl, hx.mono (by omega)⟩
theorem good_chk (h : HierT) : GoodB (chkB h) := by
  intro p hp
  unfold chkB at hp
  split at hp
  · cases hp; simp
  · split at hp
    · cases hp; simp
    · split at hp
      · rename_i b hb; cases hp; exact good_firsts _ _ _ _ hb
      · split at hp
        · rename_i b hb; cases hp; exact good_firsts _ _ _ _ hb
        · split at hp
          · rename_i b hb
            cases hp
            unfold orderB at hb
            split at hb
            · cases hb; simp
            · cases hb
          · unfold linksB at hp
            split at hp
            · cases hl : linkB h _ with
              | none => rw [hl] at hp; cases hp
              | some c =>
                rw [hl] at hp
                cases hp
                have := good_link h 0
                unfold linkB at hl
                split at hl
                · split at hl
                  · cases hl
                  · cases hl; simp
                · cases hl; simp
            · cases hp
set_option maxRecDepth 100000 in
set_option maxHeartbeats 8000000 in
theorem DocUp_any (k : HV) (h : HierT) (s : Int) (W : World) (hp : RdH W k h) (hs : Small k h) (hin : InH h) (hs0 : -9223372036854775808 ≤ s) (hs1 : s ≤ 9223372036854775807) :
    Calls Tryd.prog 11 #[hierV k h, .int .i64 s] W (DocRes (upBug h s) h.node.length (seg h.uf h.up) (seg h.df h.dn) s.toNat W) := by
  have HP := Lib.hid hp
  have HS := Lib.hid hs
  have HIN := Lib.hid hin
  have s0 := hs.s0
  clear hp hs hin
  unfold hierV
  go_enter Tryd.func11, Tryd.ntmps11
  refine wp_post_named' ?_
  intro Q0 hQ0
  have HQ0 := Lib.hid hQ0
  clear hQ0
  go_upto_region 1 with fail
  have hb1 := two_al W (.cells #[.slice k.a0 h.node.length k.c0, .slice k.a1 h.uf.length k.c1, .slice k.a2 h.up.length k.c2, .slice k.a3 h.df.length k.c3, .slice k.a4 h.dn.length k.c4] 25) (.cells #[.int .i64 0, .slice none 0 0] 37)
  have hc1 := (cells_new W #[.slice k.a0 h.node.length k.c0, .slice k.a1 h.uf.length k.c1, .slice k.a2 h.up.length k.c2, .slice k.a3 h.df.length k.c3, .slice k.a4 h.dn.length k.c4] 25).below ((Below.refl _ _).alloc (Nat.le_refl _) (.cells #[.int .i64 0, .slice none 0 0] 37))
  have hr1 := cells_new (W.alloc (.cells #[.slice k.a0 h.node.length k.c0, .slice k.a1 h.uf.length k.c1, .slice k.a2 h.up.length k.c2, .slice k.a3 h.df.length k.c3, .slice k.a4 h.dn.length k.c4] 25)) #[.int .i64 0, .slice none 0 0] 37
  rw [size_alloc] at hr1
  have hz1 : ((W.alloc (.cells #[.slice k.a0 h.node.length k.c0, .slice k.a1 h.uf.length k.c1, .slice k.a2 h.up.length k.c2, .slice k.a3 h.df.length k.c3, .slice k.a4 h.dn.length k.c4] 25)).alloc (.cells #[.int .i64 0, .slice none 0 0] 37)).heap.size = W.heap.size + 2 := by simp
  generalize (W.alloc (.cells #[.slice k.a0 h.node.length k.c0, .slice k.a1 h.uf.length k.c1, .slice k.a2 h.up.length k.c2, .slice k.a3 h.df.length k.c3, .slice k.a4 h.dn.length k.c4] 25)).alloc (.cells #[.int .i64 0, .slice none 0 0] 37) = W1 at *
  have HI1 : Hid (DcInv #[.slice k.a0 h.node.length k.c0, .slice k.a1 h.uf.length k.c1, .slice k.a2 h.up.length k.c2, .slice k.a3 h.df.length k.c3, .slice k.a4 h.dn.length k.c4] W W1) := Lib.hid ⟨hb1, hc1, hr1, by omega⟩
  have HCK := Lib.hid (DocCheck_any k h W1 (HP.out.below hb1) HS.out HIN.out)
  unfold hierV at HCK
  clear hb1 hc1 hr1 hz1
  have d0 : W1.cell? ⟨W.heap.size, 0, none⟩ = some (.slice k.a0 h.node.length k.c0) := HI1.out.hier.cell 0
  have d1 : W1.cell? ⟨W.heap.size, 1, none⟩ = some (.slice k.a1 h.uf.length k.c1) := HI1.out.hier.cell 1
  have d2 : W1.cell? ⟨W.heap.size, 2, none⟩ = some (.slice k.a2 h.up.length k.c2) := HI1.out.hier.cell 2
  have d3 : W1.cell? ⟨W.heap.size, 3, none⟩ = some (.slice k.a3 h.df.length k.c3) := HI1.out.hier.cell 3
  have d4 : W1.cell? ⟨W.heap.size, 4, none⟩ = some (.slice k.a4 h.dn.length k.c4) := HI1.out.hier.cell 4
  go_wp2_with fail
  refine HCK.out.mono ?_
  rintro e w2 he
  obtain ⟨x, rfl, hx, hb2⟩ := he.x
  have hbad := hx.bad (good_chk h)
  have HI2 := Lib.hid (HI1.out.step hb2)
  have HX2 := Lib.hid (hx.mono HI1.out.size)
  obtain ⟨x0, x1, x2, x3⟩ := x
  unfold badX at hbad
  have HBD : Hid (decide (x0 ≠ 0 ∨ 0 < x2) = _) := Lib.hid hbad
  have hb3 := (Below.refl w2.heap.size w2).alloc (Nat.le_refl _) (.cells #[.int .i64 x0, .slice x1 x2 x3] 37)
  have hg3 := cells_new w2 #[.int .i64 x0, .slice x1 x2 x3] 37
  have hsE : W.heap.size + 2 ≤ w2.heap.size := HI2.out.size
  dsimp only [errV]
  clear d0 d1 d2 d3 d4 hb2 he hx hbad HCK HI1
  go_wp2_with fail
  generalize hE : w2.heap.size = E at *
  generalize w2.alloc (.cells #[.int .i64 x0, .slice x1 x2 x3] 37) = w3 at *
  have HI3 := Lib.hid (HI2.out.step (by rw [hE]; exact hb3))
  have HX3 := Lib.hid (HX2.out.below (by rw [hE]; exact hb3))
  have HG3 := Lib.hid hg3
  clear hb3 hg3 HI2 HX2 hE
  refine (Bad_any x0 x1 x2 x3 w3).mono ?_
  rintro e w4 ⟨rfl, hb4⟩
  have HI4 := Lib.hid (HI3.out.step hb4)
  have HX4 := Lib.hid (HX3.out.below hb4)
  have HG4 := Lib.hid (HG3.out.below hb4)
  clear hb4 HI3 HX3 HG3
  generalize hbd : decide (x0 ≠ 0 ∨ 0 < x2) = bad at *
  have HBE := Lib.hid hbd
  clear hbd
  have d0 : w4.cell? ⟨W.heap.size, 0, none⟩ = some (.slice k.a0 h.node.length k.c0) := HI4.out.hier.cell 0
  cases hch : chkB h with
  | some b =>
    have hbt : bad = true := by rw [HBD.out, hch]; rfl
    have hx4 := HX4.out
    rw [hch] at hx4
    have HX5 := Lib.hid hx4
    have HUB : Hid (upBug h s = some b) := Lib.hid (by unfold upBug; rw [hch])
    subst hbt
    clear hx4 hch HX4 HBD
    have y0 : w4.cell? ⟨E, 0, none⟩ = some (.int .i64 x0) := HG4.out.cell 0
    have y1 : w4.cell? ⟨E, 1, none⟩ = some (.slice x1 x2 x3) := HG4.out.cell 1
    go_wp2_with fail
    refine (Bad_any x0 x1 x2 x3 w4).mono ?_
    rw [HBE.out]
    rintro e w5 ⟨rfl, hb5⟩
    have HI5 := Lib.hid (HI4.out.step hb5)
    have HX6 := Lib.hid (HX5.out.below hb5)
    have HG5 := Lib.hid (HG4.out.below hb5)
    clear hb5 y0 y1 d0
    go_upto_region 5 with fail
    have y0 : w5.cell? ⟨E, 0, none⟩ = some (.int .i64 x0) := HG5.out.cell 0
    have y1 : w5.cell? ⟨E, 1, none⟩ = some (.slice x1 x2 x3) := HG5.out.cell 1
    have b0 : w5.cell? ⟨W.heap.size + 1, 0, none⟩ = some (.int .i64 0) := HI5.out.res.cell 0
    have b1 : w5.cell? ⟨W.heap.size + 1, 1, none⟩ = some (.slice none 0 0) := HI5.out.res.cell 1
    have f0 := HI5.out.res.frozen 0
    have f1 := HI5.out.res.frozen 1
    have hfin := (HI5.out.res.set_ 0 (.int .i64 x0)).set_ 1 (.slice x1 x2 x3)
    have hxf := (HX6.out.far 0 (.int .i64 x0)).far 1 (.slice x1 x2 x3)
    have hbf : Below W.heap.size W ((w5.setCell ⟨W.heap.size + 1, 0, none⟩ (.int .i64 x0)).setCell ⟨W.heap.size + 1, 1, none⟩ (.slice x1 x2 x3)) := (HI5.out.below.setCell (show W.heap.size ≤ W.heap.size + 1 by omega) _).setCell (show W.heap.size ≤ W.heap.size + 1 by omega) _
    have HFIN := Lib.hid hfin
    have HXF := Lib.hid hxf
    have HBF := Lib.hid hbf
    clear hfin hxf hbf
    go_cut [4] from 26 to 26 (fun a wx => a = .slice none 0 0 ∧ Below ((w5.setCell ⟨W.heap.size + 1, 0, none⟩ (.int .i64 x0)).setCell ⟨W.heap.size + 1, 1, none⟩ (.slice x1 x2 x3)).heap.size ((w5.setCell ⟨W.heap.size + 1, 0, none⟩ (.int .i64 x0)).setCell ⟨W.heap.size + 1, 1, none⟩ (.slice x1 x2 x3)) wx)
    case first =>
      go_region
      all_goals
        go_wp2_with fail
        go_meet
        exact ⟨rfl, Below.drew (Below.refl _ _)⟩
    case rest =>
      obtain ⟨rfl, hbz⟩ := hcut
      have r0 : wc.cell? ⟨W.heap.size + 1, 0, none⟩ = some (.int .i64 x0) := (HFIN.out.below hbz).cell 0
      have r1 : wc.cell? ⟨W.heap.size + 1, 1, none⟩ = some (.slice x1 x2 x3) := (HFIN.out.below hbz).cell 1
      have hend : DocRes (upBug h s) h.node.length (seg h.uf h.up) (seg h.df h.dn) s.toNat W (.returned (.tuple #[.slice none 0 0, .agg #[.int .i64 x0, .slice x1 x2 x3]])) wc := by
        rw [HUB.out]
        exact DocRes.bad (HBF.out.trans (hbz.mono HBF.out.size)) (HXF.out.below hbz)
      have HEND := Lib.hid hend
      clear hbz hend y0 y1 b0 b1 f0 f1
      go_wp2_with fail
      rw [HQ0.out]
      refine bodyPost_ret (v := .tuple #[.slice none 0 0, .agg #[.int .i64 x0, .slice x1 x2 x3]]) ?hres rfl HEND.out
      case hres => simp [results, Tryd.results11, go_sem, r0, r1]
  | none =>
    have hbt : bad = false := by rw [HBD.out, hch]; rfl
    have hx4 := HX4.out
    rw [hch] at hx4
    have hx5 : (⟨x0, x1, x2, x3⟩ : ErrX) = zX := hx4
    obtain ⟨rfl, rfl, rfl, rfl⟩ : x0 = 0 ∧ x1 = none ∧ x2 = 0 ∧ x3 = 0 := by injection hx5 with a b c d; exact ⟨a, b, c, d⟩
    have so := Sound.of_none hch
    have HSO := Lib.hid so
    have hn := so.n_le
    have HCHK := Lib.hid hch
    subst hbt
    clear hx4 hx5 hch HX4 HBD so HBE
    have y0 : w4.cell? ⟨E, 0, none⟩ = some (.int .i64 0) := HG4.out.cell 0
    have y1 : w4.cell? ⟨E, 1, none⟩ = some (.slice none 0 0) := HG4.out.cell 1
    have z0 := HG4.out.frozen 0
    have z1 := HG4.out.frozen 1
    by_cases hr : s < 0 ∨ (h.node.length : Int) ≤ s
    · have HUB : Hid (upBug h s = some (7, none)) := Lib.hid (by unfold upBug; rw [HCHK.out]; exact if_pos hr)
      have key : (decide (s < 0) = true) ∨ (decide (s < 0) = false ∧ decide ((h.node.length : Int) ≤ s) = true) := by
        by_cases h0 : s < 0
        · exact .inl (decide_eq_true h0)
        · exact .inr ⟨decide_eq_false h0, decide_eq_true (by omega)⟩
      clear hr
      rcases key with g1 | ⟨g1, g2⟩
      all_goals
        go_wp2_with fail
        refine (E_any 7 w4).mono ?_
        rintro e w5 ⟨rfl, hb5⟩
        have HI5 := Lib.hid (HI4.out.step hb5)
        have HG5 := Lib.hid (HG4.out.below hb5)
        clear hb5 y0 y1 z0 z1 d0
        have y0 : w5.cell? ⟨E, 0, none⟩ = some (.int .i64 0) := HG5.out.cell 0
        have y1 : w5.cell? ⟨E, 1, none⟩ = some (.slice none 0 0) := HG5.out.cell 1
        have z0 := HG5.out.frozen 0
        have z1 := HG5.out.frozen 1
        have hg6 := (HG5.out.set_ 0 (.int .i64 7)).set_ 1 (.slice none 0 0)
        have hi6 : DcInv #[.slice k.a0 h.node.length k.c0, .slice k.a1 h.uf.length k.c1, .slice k.a2 h.up.length k.c2, .slice k.a3 h.df.length k.c3, .slice k.a4 h.dn.length k.c4] W ((w5.setCell ⟨E, 0, none⟩ (.int .i64 7)).setCell ⟨E, 1, none⟩ (.slice none 0 0)) := (HI5.out.set_ hsE).set_ hsE
        have t0 : ((w5.setCell ⟨E, 0, none⟩ (.int .i64 7)).setCell ⟨E, 1, none⟩ (.slice none 0 0)).cell? ⟨E, 0, none⟩ = some (.int .i64 7) := hg6.cell 0
        have t1 : ((w5.setCell ⟨E, 0, none⟩ (.int .i64 7)).setCell ⟨E, 1, none⟩ (.slice none 0 0)).cell? ⟨E, 1, none⟩ = some (.slice none 0 0) := hg6.cell 1
        simp only [List.setIfInBounds_toArray, List.set_cons_zero, List.set_cons_succ] at hg6
        have HG6 := Lib.hid hg6
        have HI6 := Lib.hid hi6
        clear hg6 hi6
        go_wp2_with fail
        clear t0 t1
        generalize (w5.setCell ⟨E, 0, none⟩ (.int .i64 7)).setCell ⟨E, 1, none⟩ (.slice none 0 0) = w6 at *
        refine (Bad_any 7 none 0 0 w6).mono ?_
        rintro e w7 ⟨rfl, hb7⟩
        have HI7 := Lib.hid (HI6.out.step hb7)
        have HG7 := Lib.hid (HG6.out.below hb7)
        have HX7 : Hid (DocX (some (7, none)) (W.heap.size + 2) ⟨7, none, 0, 0⟩ w7) := Lib.hid rfl
        clear hb7 y0 y1 z0 z1
        go_upto_region 5 with fail
        have y0 : w7.cell? ⟨E, 0, none⟩ = some (.int .i64 7) := HG7.out.cell 0
        have y1 : w7.cell? ⟨E, 1, none⟩ = some (.slice none 0 0) := HG7.out.cell 1
        have b0 : w7.cell? ⟨W.heap.size + 1, 0, none⟩ = some (.int .i64 0) := HI7.out.res.cell 0
        have b1 : w7.cell? ⟨W.heap.size + 1, 1, none⟩ = some (.slice none 0 0) := HI7.out.res.cell 1
        have f0 := HI7.out.res.frozen 0
        have f1 := HI7.out.res.frozen 1
        have hfin := (HI7.out.res.set_ 0 (.int .i64 7)).set_ 1 (.slice none 0 0)
        have hxf := (HX7.out.far 0 (.int .i64 7)).far 1 (.slice none 0 0)
        have hbf : Below W.heap.size W ((w7.setCell ⟨W.heap.size + 1, 0, none⟩ (.int .i64 7)).setCell ⟨W.heap.size + 1, 1, none⟩ (.slice none 0 0)) := (HI7.out.below.setCell (show W.heap.size ≤ W.heap.size + 1 by omega) _).setCell (show W.heap.size ≤ W.heap.size + 1 by omega) _
        have HFIN := Lib.hid hfin
        have HXF := Lib.hid hxf
        have HBF := Lib.hid hbf
        clear hfin hxf hbf
        go_cut [4] from 26 to 26 (fun a wx => a = .slice none 0 0 ∧ Below ((w7.setCell ⟨W.heap.size + 1, 0, none⟩ (.int .i64 7)).setCell ⟨W.heap.size + 1, 1, none⟩ (.slice none 0 0)).heap.size ((w7.setCell ⟨W.heap.size + 1, 0, none⟩ (.int .i64 7)).setCell ⟨W.heap.size + 1, 1, none⟩ (.slice none 0 0)) wx)
        case first =>
          go_region
          all_goals
            go_wp2_with fail
            go_meet
            exact ⟨rfl, Below.drew (Below.refl _ _)⟩
        case rest =>
          obtain ⟨rfl, hbz⟩ := hcut
          have r0 : wc.cell? ⟨W.heap.size + 1, 0, none⟩ = some (.int .i64 7) := (HFIN.out.below hbz).cell 0
          have r1 : wc.cell? ⟨W.heap.size + 1, 1, none⟩ = some (.slice none 0 0) := (HFIN.out.below hbz).cell 1
          have hend : DocRes (upBug h s) h.node.length (seg h.uf h.up) (seg h.df h.dn) s.toNat W (.returned (.tuple #[.slice none 0 0, .agg #[.int .i64 7, .slice none 0 0]])) wc := by
            rw [HUB.out]
            exact DocRes.bad (HBF.out.trans (hbz.mono HBF.out.size)) (HXF.out.below hbz)
          have HEND := Lib.hid hend
          clear hbz hend y0 y1 b0 b1 f0 f1
          go_wp2_with fail
          rw [HQ0.out]
          refine bodyPost_ret (v := .tuple #[.slice none 0 0, .agg #[.int .i64 7, .slice none 0 0]]) ?hres rfl HEND.out
          case hres => simp [results, Tryd.results11, go_sem, r0, r1]
    · obtain ⟨q, rfl⟩ : ∃ q : Nat, s = (q : Int) := ⟨s.toNat, by omega⟩
      have hqn : q < h.node.length := by omega
      have HUB : Hid (upBug h (q : Int) = none) := Lib.hid (by unfold upBug; rw [HCHK.out]; exact if_neg hr)
      have g1 : decide ((q : Int) < 0) = false := decide_eq_false (by omega)
      have g2 : decide ((h.node.length : Int) ≤ (q : Int)) = false := decide_eq_false (by omega)
      have g2n : decide (h.node.length ≤ q) = false := decide_eq_false (by omega)
      clear hr
      go_wp2_with fail
      refine (Bad_any 0 none 0 0 w4).mono ?_
      rintro e w5 ⟨rfl, hb5⟩
      have HI5 := Lib.hid (HI4.out.step hb5)
      have HG5 := Lib.hid (HG4.out.below hb5)
      clear hb5 y0 y1 z0 z1 d0 HI4 HG4
      go_upto_region 6 with fail
      have y0 : w5.cell? ⟨E, 0, none⟩ = some (.int .i64 0) := HG5.out.cell 0
      have y1 : w5.cell? ⟨E, 1, none⟩ = some (.slice none 0 0) := HG5.out.cell 1
      have d0 : w5.cell? ⟨W.heap.size, 0, none⟩ = some (.slice k.a0 h.node.length k.c0) := HI5.out.hier.cell 0
      have d1 : w5.cell? ⟨W.heap.size, 1, none⟩ = some (.slice k.a1 h.uf.length k.c1) := HI5.out.hier.cell 1
      have d2 : w5.cell? ⟨W.heap.size, 2, none⟩ = some (.slice k.a2 h.up.length k.c2) := HI5.out.hier.cell 2
      have d3 : w5.cell? ⟨W.heap.size, 3, none⟩ = some (.slice k.a3 h.df.length k.c3) := HI5.out.hier.cell 3
      have d4 : w5.cell? ⟨W.heap.size, 4, none⟩ = some (.slice k.a4 h.dn.length k.c4) := HI5.out.hier.cell 4
      go_cut [4] from 27 to 30 (fun a wx => ∃ D A c, Sol h.node.length (seg h.uf h.up) q D ∧ a = .slice A (seenTo D (seg h.df h.dn) h.node.length).length c ∧ OwnSr wx W.heap.size (.slice A (seenTo D (seg h.df h.dn) h.node.length).length c) (seenTo D (seg h.df h.dn) h.node.length) ∧ Below W.heap.size W wx ∧ Cells wx (W.heap.size + 1) #[.int .i64 0, .slice none 0 0] 37)
      case first =>
        have hne : ¬ E = W.heap.size + 1 := by omega
        have hne2 : ¬ W.heap.size + 1 = E := by omega
        have HX : Hid (Below w5.heap.size w5 w5) := Lib.hid (Below.refl _ _)
        have Y0 := Lib.hid y0
        have Y1 := Lib.hid y1
        have D0 := Lib.hid d0
        have D1 := Lib.hid d1
        have D2 := Lib.hid d2
        have D3 := Lib.hid d3
        have D4 := Lib.hid d4
        have HUP : Hid (∀ w, Below w5.heap.size w5 w → Calls Tryd.prog 32 #[.agg #[.slice k.a0 h.node.length k.c0, .slice k.a1 h.uf.length k.c1, .slice k.a2 h.up.length k.c2, .slice k.a3 h.df.length k.c3, .slice k.a4 h.dn.length k.c4], .int .i64 (q : Nat)] w fun e w' => ∃ D A c, Sol h.node.length (seg h.uf h.up) q D ∧ e = .returned (.slice A (seenTo D (seg h.df h.dn) h.node.length).length c) ∧ OwnSr w' w.heap.size (.slice A (seenTo D (seg h.df h.dn) h.node.length).length c) (seenTo D (seg h.df h.dn) h.node.length) ∧ w5.heap.size ≤ w.heap.size ∧ Below w5.heap.size w5 w') := Lib.hid fun w hb => (UpDoc_any k h q w (HSO.out.up HIN.out) (HSO.out.dn HIN.out) hqn (HP.out.below (HI5.out.below.trans (hb.mono HI5.out.below.size))) HS.out HIN.out.i2 HIN.out.i4).mono fun e w' he => by
          obtain ⟨D, A, c, h1, h2, h3, h4⟩ := he
          exact ⟨D, A, c, h1, h2, h3, hb.size, hb.trans (h4.mono hb.size)⟩
        go_region_held3 (fun w' => w'.cell? ⟨W.heap.size, 0, none⟩ = some (.slice k.a0 h.node.length k.c0) ∧ w'.cell? ⟨W.heap.size, 1, none⟩ = some (.slice k.a1 h.uf.length k.c1) ∧ w'.cell? ⟨W.heap.size, 2, none⟩ = some (.slice k.a2 h.up.length k.c2) ∧ w'.cell? ⟨W.heap.size, 3, none⟩ = some (.slice k.a3 h.df.length k.c3) ∧ w'.cell? ⟨W.heap.size, 4, none⟩ = some (.slice k.a4 h.dn.length k.c4) ∧ w'.cell? ⟨E, 0, none⟩ = some (.int .i64 0) ∧ w'.cell? ⟨E, 1, none⟩ = some (.slice none 0 0)) (first | with_reducible exact ⟨d0, d1, d2, d3, d4, y0, y1⟩ | go_keep) (first
          | (go_at_call 32; (with_reducible refine (HUP.out _ ?_).mono ?_); (first | exact HX.out | exact HX.out.drew); rintro e v0 ⟨D, A, c, hsol, rfl, how, hxs, hx5⟩; have HSOL := Lib.hid hsol; have HOW := Lib.hid how; have HXS := Lib.hid hxs; have d0 := cell_below hx5 D0.out; have d1 := cell_below hx5 D1.out; have d2 := cell_below hx5 D2.out; have d3 := cell_below hx5 D3.out; have d4 := cell_below hx5 D4.out; have y0 := cell_below hx5 Y0.out; have y1 := cell_below hx5 Y1.out; have hr5 := HI5.out.res.below hx5; have b0 : v0.cell? ⟨W.heap.size + 1, 0, none⟩ = some (.int .i64 0) := hr5.cell 0; have b1 : v0.cell? ⟨W.heap.size + 1, 1, none⟩ = some (.slice none 0 0) := hr5.cell 1; have f0 := hr5.frozen 0; have f1 := hr5.frozen 1; have HR5 := Lib.hid hr5; have HX := Lib.hid hx5; clear hx5 hr5 hsol how hxs))
        all_goals
          rename_i hHeld
          clear hHeld
          go_wp2_with fail
          go_meet
          have hbw := (HI5.out.below.trans (HX.out.mono HI5.out.below.size))
          refine ⟨D, A, c, HSOL.out, rfl, (own_far2 (own_far2 (p := ⟨W.heap.size + 1, 0, none⟩) HOW.out (by intro e; have := (HOW.out.block e).1; have := HI5.out.size; have := HXS.out; simp at *; omega) _) (p := ⟨W.heap.size + 1, 1, none⟩) (by intro e; have := (HOW.out.block e).1; have := HI5.out.size; have := HXS.out; simp at *; omega) _).mono (by have := HI5.out.size; have := HXS.out; omega), (hbw.setCell (p := ⟨W.heap.size + 1, 0, none⟩) (by simp) _).setCell (p := ⟨W.heap.size + 1, 1, none⟩) (by simp) _, ?_⟩
          have hf := (HR5.out.set_ 0 (.int .i64 0)).set_ 1 (.slice none 0 0)
          simpa only [List.setIfInBounds_toArray, List.set_cons_zero, List.set_cons_succ] using hf
      case rest =>
        obtain ⟨D, A, c, hsol, rfl, how, hbw, hrc⟩ := hcut
        have r0 : wc.cell? ⟨W.heap.size + 1, 0, none⟩ = some (.int .i64 0) := hrc.cell 0
        have r1 : wc.cell? ⟨W.heap.size + 1, 1, none⟩ = some (.slice none 0 0) := hrc.cell 1
        have hend : DocRes (upBug h (q : Int)) h.node.length (seg h.uf h.up) (seg h.df h.dn) (q : Int).toNat W (.returned (.tuple #[.slice A (seenTo D (seg h.df h.dn) h.node.length).length c, .agg #[.int .i64 0, .slice none 0 0]])) wc := by
          rw [HUB.out, Int.toNat_natCast]
          exact ⟨hbw, D, A, c, hsol, rfl, how⟩
        have HEND := Lib.hid hend
        clear hsol how hbw hrc hend y0 y1 d0 d1 d2 d3 d4
        go_wp2_with fail
        rw [HQ0.out]
        refine bodyPost_ret (v := .tuple #[.slice A (seenTo D (seg h.df h.dn) h.node.length).length c, .agg #[.int .i64 0, .slice none 0 0]]) ?hres rfl HEND.out
        case hres => simp [results, Tryd.results11, go_sem, r0, r1]
set_option maxRecDepth 100000 in
set_option maxHeartbeats 8000000 in
theorem DocDown_any (k : HV) (h : HierT) (s : Int) (W : World) (hp : RdH W k h) (hs : Small k h) (hin : InH h) (hs0 : -9223372036854775808 ≤ s) (hs1 : s ≤ 9223372036854775807) :
    Calls Tryd.prog 16 #[hierV k h, .int .i64 s] W (DocRes (upBug h s) h.node.length (seg h.df h.dn) (seg h.uf h.up) s.toNat W) := by
  have HP := Lib.hid hp
  have HS := Lib.hid hs
  have HIN := Lib.hid hin
  have s0 := hs.s0
  clear hp hs hin
  unfold hierV
  go_enter Tryd.func16, Tryd.ntmps16
  refine wp_post_named' ?_
  intro Q0 hQ0
  have HQ0 := Lib.hid hQ0
  clear hQ0
  go_upto_region 1 with fail
  have hb1 := two_al W (.cells #[.slice k.a0 h.node.length k.c0, .slice k.a1 h.uf.length k.c1, .slice k.a2 h.up.length k.c2, .slice k.a3 h.df.length k.c3, .slice k.a4 h.dn.length k.c4] 25) (.cells #[.int .i64 0, .slice none 0 0] 37)
  have hc1 := (cells_new W #[.slice k.a0 h.node.length k.c0, .slice k.a1 h.uf.length k.c1, .slice k.a2 h.up.length k.c2, .slice k.a3 h.df.length k.c3, .slice k.a4 h.dn.length k.c4] 25).below ((Below.refl _ _).alloc (Nat.le_refl _) (.cells #[.int .i64 0, .slice none 0 0] 37))
  have hr1 := cells_new (W.alloc (.cells #[.slice k.a0 h.node.length k.c0, .slice k.a1 h.uf.length k.c1, .slice k.a2 h.up.length k.c2, .slice k.a3 h.df.length k.c3, .slice k.a4 h.dn.length k.c4] 25)) #[.int .i64 0, .slice none 0 0] 37
  rw [size_alloc] at hr1
  have hz1 : ((W.alloc (.cells #[.slice k.a0 h.node.length k.c0, .slice k.a1 h.uf.length k.c1, .slice k.a2 h.up.length k.c2, .slice k.a3 h.df.length k.c3, .slice k.a4 h.dn.length k.c4] 25)).alloc (.cells #[.int .i64 0, .slice none 0 0] 37)).heap.size = W.heap.size + 2 := by simp
  generalize (W.alloc (.cells #[.slice k.a0 h.node.length k.c0, .slice k.a1 h.uf.length k.c1, .slice k.a2 h.up.length k.c2, .slice k.a3 h.df.length k.c3, .slice k.a4 h.dn.length k.c4] 25)).alloc (.cells #[.int .i64 0, .slice none 0 0] 37) = W1 at *
  have HI1 : Hid (DcInv #[.slice k.a0 h.node.length k.c0, .slice k.a1 h.uf.length k.c1, .slice k.a2 h.up.length k.c2, .slice k.a3 h.df.length k.c3, .slice k.a4 h.dn.length k.c4] W W1) := Lib.hid ⟨hb1, hc1, hr1, by omega⟩
  have HCK := Lib.hid (DocCheck_any k h W1 (HP.out.below hb1) HS.out HIN.out)
  unfold hierV at HCK
  clear hb1 hc1 hr1 hz1
  have d0 : W1.cell? ⟨W.heap.size, 0, none⟩ = some (.slice k.a0 h.node.length k.c0) := HI1.out.hier.cell 0
  have d1 : W1.cell? ⟨W.heap.size, 1, none⟩ = some (.slice k.a1 h.uf.length k.c1) := HI1.out.hier.cell 1
  have d2 : W1.cell? ⟨W.heap.size, 2, none⟩ = some (.slice k.a2 h.up.length k.c2) := HI1.out.hier.cell 2
  have d3 : W1.cell? ⟨W.heap.size, 3, none⟩ = some (.slice k.a3 h.df.length k.c3) := HI1.out.hier.cell 3
  have d4 : W1.cell? ⟨W.heap.size, 4, none⟩ = some (.slice k.a4 h.dn.length k.c4) := HI1.out.hier.cell 4
  go_wp2_with fail
  refine HCK.out.mono ?_
  rintro e w2 he
  obtain ⟨x, rfl, hx, hb2⟩ := he.x
  have hbad := hx.bad (good_chk h)
  have HI2 := Lib.hid (HI1.out.step hb2)
  have HX2 := Lib.hid (hx.mono HI1.out.size)
  obtain ⟨x0, x1, x2, x3⟩ := x
  unfold badX at hbad
  have HBD : Hid (decide (x0 ≠ 0 ∨ 0 < x2) = _) := Lib.hid hbad
  have hb3 := (Below.refl w2.heap.size w2).alloc (Nat.le_refl _) (.cells #[.int .i64 x0, .slice x1 x2 x3] 37)
  have hg3 := cells_new w2 #[.int .i64 x0, .slice x1 x2 x3] 37
  have hsE : W.heap.size + 2 ≤ w2.heap.size := HI2.out.size
  dsimp only [errV]
  clear d0 d1 d2 d3 d4 hb2 he hx hbad HCK HI1
  go_wp2_with fail
  generalize hE : w2.heap.size = E at *
  generalize w2.alloc (.cells #[.int .i64 x0, .slice x1 x2 x3] 37) = w3 at *
  have HI3 := Lib.hid (HI2.out.step (by rw [hE]; exact hb3))
  have HX3 := Lib.hid (HX2.out.below (by rw [hE]; exact hb3))
  have HG3 := Lib.hid hg3
  clear hb3 hg3 HI2 HX2 hE
  refine (Bad_any x0 x1 x2 x3 w3).mono ?_
  rintro e w4 ⟨rfl, hb4⟩
  have HI4 := Lib.hid (HI3.out.step hb4)
  have HX4 := Lib.hid (HX3.out.below hb4)
  have HG4 := Lib.hid (HG3.out.below hb4)
  clear hb4 HI3 HX3 HG3
  generalize hbd : decide (x0 ≠ 0 ∨ 0 < x2) = bad at *
  have HBE := Lib.hid hbd
  clear hbd
  have d0 : w4.cell? ⟨W.heap.size, 0, none⟩ = some (.slice k.a0 h.node.length k.c0) := HI4.out.hier.cell 0
  cases hch : chkB h with
  | some b =>
    have hbt : bad = true := by rw [HBD.out, hch]; rfl
    have hx4 := HX4.out
    rw [hch] at hx4
    have HX5 := Lib.hid hx4
    have HUB : Hid (upBug h s = some b) := Lib.hid (by unfold upBug; rw [hch])
    subst hbt
    clear hx4 hch HX4 HBD
    have y0 : w4.cell? ⟨E, 0, none⟩ = some (.int .i64 x0) := HG4.out.cell 0
    have y1 : w4.cell? ⟨E, 1, none⟩ = some (.slice x1 x2 x3) := HG4.out.cell 1
    go_wp2_with fail
    refine (Bad_any x0 x1 x2 x3 w4).mono ?_
    rw [HBE.out]
    rintro e w5 ⟨rfl, hb5⟩
    have HI5 := Lib.hid (HI4.out.step hb5)
    have HX6 := Lib.hid (HX5.out.below hb5)
    have HG5 := Lib.hid (HG4.out.below hb5)
    clear hb5 y0 y1 d0
    go_upto_region 5 with fail
    have y0 : w5.cell? ⟨E, 0, none⟩ = some (.int .i64 x0) := HG5.out.cell 0
    have y1 : w5.cell? ⟨E, 1, none⟩ = some (.slice x1 x2 x3) := HG5.out.cell 1
    have b0 : w5.cell? ⟨W.heap.size + 1, 0, none⟩ = some (.int .i64 0) := HI5.out.res.cell 0
    have b1 : w5.cell? ⟨W.heap.size + 1, 1, none⟩ = some (.slice none 0 0) := HI5.out.res.cell 1
    have f0 := HI5.out.res.frozen 0
    have f1 := HI5.out.res.frozen 1
    have hfin := (HI5.out.res.set_ 0 (.int .i64 x0)).set_ 1 (.slice x1 x2 x3)
    have hxf := (HX6.out.far 0 (.int .i64 x0)).far 1 (.slice x1 x2 x3)
    have hbf : Below W.heap.size W ((w5.setCell ⟨W.heap.size + 1, 0, none⟩ (.int .i64 x0)).setCell ⟨W.heap.size + 1, 1, none⟩ (.slice x1 x2 x3)) := (HI5.out.below.setCell (show W.heap.size ≤ W.heap.size + 1 by omega) _).setCell (show W.heap.size ≤ W.heap.size + 1 by omega) _
    have HFIN := Lib.hid hfin
    have HXF := Lib.hid hxf
    have HBF := Lib.hid hbf
    clear hfin hxf hbf
    go_cut [4] from 26 to 26 (fun a wx => a = .slice none 0 0 ∧ Below ((w5.setCell ⟨W.heap.size + 1, 0, none⟩ (.int .i64 x0)).setCell ⟨W.heap.size + 1, 1, none⟩ (.slice x1 x2 x3)).heap.size ((w5.setCell ⟨W.heap.size + 1, 0, none⟩ (.int .i64 x0)).setCell ⟨W.heap.size + 1, 1, none⟩ (.slice x1 x2 x3)) wx)
    case first =>
      go_region
      all_goals
        go_wp2_with fail
        go_meet
        exact ⟨rfl, Below.drew (Below.refl _ _)⟩
    case rest =>
      obtain ⟨rfl, hbz⟩ := hcut
      have r0 : wc.cell? ⟨W.heap.size + 1, 0, none⟩ = some (.int .i64 x0) := (HFIN.out.below hbz).cell 0
      have r1 : wc.cell? ⟨W.heap.size + 1, 1, none⟩ = some (.slice x1 x2 x3) := (HFIN.out.below hbz).cell 1
      have hend : DocRes (upBug h s) h.node.length (seg h.df h.dn) (seg h.uf h.up) s.toNat W (.returned (.tuple #[.slice none 0 0, .agg #[.int .i64 x0, .slice x1 x2 x3]])) wc := by
        rw [HUB.out]
        exact DocRes.bad (HBF.out.trans (hbz.mono HBF.out.size)) (HXF.out.below hbz)
      have HEND := Lib.hid hend
      clear hbz hend y0 y1 b0 b1 f0 f1
      go_wp2_with fail
      rw [HQ0.out]
      refine bodyPost_ret (v := .tuple #[.slice none 0 0, .agg #[.int .i64 x0, .slice x1 x2 x3]]) ?hres rfl HEND.out
      case hres => simp [results, Tryd.results16, go_sem, r0, r1]
  | none =>
    have hbt : bad = false := by rw [HBD.out, hch]; rfl
    have hx4 := HX4.out
    rw [hch] at hx4
    have hx5 : (⟨x0, x1, x2, x3⟩ : ErrX) = zX := hx4
    obtain ⟨rfl, rfl, rfl, rfl⟩ : x0 = 0 ∧ x1 = none ∧ x2 = 0 ∧ x3 = 0 := by injection hx5 with a b c d; exact ⟨a, b, c, d⟩
    have so := Sound.of_none hch
    have HSO := Lib.hid so
    have hn := so.n_le
    have HCHK := Lib.hid hch
    subst hbt
    clear hx4 hx5 hch HX4 HBD so HBE
    have y0 : w4.cell? ⟨E, 0, none⟩ = some (.int .i64 0) := HG4.out.cell 0
    have y1 : w4.cell? ⟨E, 1, none⟩ = some (.slice none 0 0) := HG4.out.cell 1
    have z0 := HG4.out.frozen 0
    have z1 := HG4.out.frozen 1
    by_cases hr : s < 0 ∨ (h.node.length : Int) ≤ s
    · have HUB : Hid (upBug h s = some (7, none)) := Lib.hid (by unfold upBug; rw [HCHK.out]; exact if_pos hr)
      have key : (decide (s < 0) = true) ∨ (decide (s < 0) = false ∧ decide ((h.node.length : Int) ≤ s) = true) := by
        by_cases h0 : s < 0
        · exact .inl (decide_eq_true h0)
        · exact .inr ⟨decide_eq_false h0, decide_eq_true (by omega)⟩
      clear hr
      rcases key with g1 | ⟨g1, g2⟩
      all_goals
        go_wp2_with fail
        refine (E_any 7 w4).mono ?_
        rintro e w5 ⟨rfl, hb5⟩
        have HI5 := Lib.hid (HI4.out.step hb5)
        have HG5 := Lib.hid (HG4.out.below hb5)
        clear hb5 y0 y1 z0 z1 d0
        have y0 : w5.cell? ⟨E, 0, none⟩ = some (.int .i64 0) := HG5.out.cell 0
        have y1 : w5.cell? ⟨E, 1, none⟩ = some (.slice none 0 0) := HG5.out.cell 1
        have z0 := HG5.out.frozen 0
        have z1 := HG5.out.frozen 1
        have hg6 := (HG5.out.set_ 0 (.int .i64 7)).set_ 1 (.slice none 0 0)
        have hi6 : DcInv #[.slice k.a0 h.node.length k.c0, .slice k.a1 h.uf.length k.c1, .slice k.a2 h.up.length k.c2, .slice k.a3 h.df.length k.c3, .slice k.a4 h.dn.length k.c4] W ((w5.setCell ⟨E, 0, none⟩ (.int .i64 7)).setCell ⟨E, 1, none⟩ (.slice none 0 0)) := (HI5.out.set_ hsE).set_ hsE
        have t0 : ((w5.setCell ⟨E, 0, none⟩ (.int .i64 7)).setCell ⟨E, 1, none⟩ (.slice none 0 0)).cell? ⟨E, 0, none⟩ = some (.int .i64 7) := hg6.cell 0
        have t1 : ((w5.setCell ⟨E, 0, none⟩ (.int .i64 7)).setCell ⟨E, 1, none⟩ (.slice none 0 0)).cell? ⟨E, 1, none⟩ = some (.slice none 0 0) := hg6.cell 1
        simp only [List.setIfInBounds_toArray, List.set_cons_zero, List.set_cons_succ] at hg6
        have HG6 := Lib.hid hg6
        have HI6 := Lib.hid hi6
        clear hg6 hi6
        go_wp2_with fail
        clear t0 t1
        generalize (w5.setCell ⟨E, 0, none⟩ (.int .i64 7)).setCell ⟨E, 1, none⟩ (.slice none 0 0) = w6 at *
        refine (Bad_any 7 none 0 0 w6).mono ?_
        rintro e w7 ⟨rfl, hb7⟩
        have HI7 := Lib.hid (HI6.out.step hb7)
        have HG7 := Lib.hid (HG6.out.below hb7)
        have HX7 : Hid (DocX (some (7, none)) (W.heap.size + 2) ⟨7, none, 0, 0⟩ w7) := Lib.hid rfl
        clear hb7 y0 y1 z0 z1
        go_upto_region 5 with fail
        have y0 : w7.cell? ⟨E, 0, none⟩ = some (.int .i64 7) := HG7.out.cell 0
        have y1 : w7.cell? ⟨E, 1, none⟩ = some (.slice none 0 0) := HG7.out.cell 1
        have b0 : w7.cell? ⟨W.heap.size + 1, 0, none⟩ = some (.int .i64 0) := HI7.out.res.cell 0
        have b1 : w7.cell? ⟨W.heap.size + 1, 1, none⟩ = some (.slice none 0 0) := HI7.out.res.cell 1
        have f0 := HI7.out.res.frozen 0
        have f1 := HI7.out.res.frozen 1
        have hfin := (HI7.out.res.set_ 0 (.int .i64 7)).set_ 1 (.slice none 0 0)
        have hxf := (HX7.out.far 0 (.int .i64 7)).far 1 (.slice none 0 0)
        have hbf : Below W.heap.size W ((w7.setCell ⟨W.heap.size + 1, 0, none⟩ (.int .i64 7)).setCell ⟨W.heap.size + 1, 1, none⟩ (.slice none 0 0)) := (HI7.out.below.setCell (show W.heap.size ≤ W.heap.size + 1 by omega) _).setCell (show W.heap.size ≤ W.heap.size + 1 by omega) _
        have HFIN := Lib.hid hfin
        have HXF := Lib.hid hxf
        have HBF := Lib.hid hbf
        clear hfin hxf hbf
        go_cut [4] from 26 to 26 (fun a wx => a = .slice none 0 0 ∧ Below ((w7.setCell ⟨W.heap.size + 1, 0, none⟩ (.int .i64 7)).setCell ⟨W.heap.size + 1, 1, none⟩ (.slice none 0 0)).heap.size ((w7.setCell ⟨W.heap.size + 1, 0, none⟩ (.int .i64 7)).setCell ⟨W.heap.size + 1, 1, none⟩ (.slice none 0 0)) wx)
        case first =>
          go_region
          all_goals
            go_wp2_with fail
            go_meet
            exact ⟨rfl, Below.drew (Below.refl _ _)⟩
        case rest =>
          obtain ⟨rfl, hbz⟩ := hcut
          have r0 : wc.cell? ⟨W.heap.size + 1, 0, none⟩ = some (.int .i64 7) := (HFIN.out.below hbz).cell 0
          have r1 : wc.cell? ⟨W.heap.size + 1, 1, none⟩ = some (.slice none 0 0) := (HFIN.out.below hbz).cell 1
          have hend : DocRes (upBug h s) h.node.length (seg h.df h.dn) (seg h.uf h.up) s.toNat W (.returned (.tuple #[.slice none 0 0, .agg #[.int .i64 7, .slice none 0 0]])) wc := by
            rw [HUB.out]
            exact DocRes.bad (HBF.out.trans (hbz.mono HBF.out.size)) (HXF.out.below hbz)
          have HEND := Lib.hid hend
          clear hbz hend y0 y1 b0 b1 f0 f1
          go_wp2_with fail
          rw [HQ0.out]
          refine bodyPost_ret (v := .tuple #[.slice none 0 0, .agg #[.int .i64 7, .slice none 0 0]]) ?hres rfl HEND.out
          case hres => simp [results, Tryd.results16, go_sem, r0, r1]
    · obtain ⟨q, rfl⟩ : ∃ q : Nat, s = (q : Int) := ⟨s.toNat, by omega⟩
      have hqn : q < h.node.length := by omega
      have HUB : Hid (upBug h (q : Int) = none) := Lib.hid (by unfold upBug; rw [HCHK.out]; exact if_neg hr)
      have g1 : decide ((q : Int) < 0) = false := decide_eq_false (by omega)
      have g2 : decide ((h.node.length : Int) ≤ (q : Int)) = false := decide_eq_false (by omega)
      have g2n : decide (h.node.length ≤ q) = false := decide_eq_false (by omega)
      clear hr
      go_wp2_with fail
      refine (Bad_any 0 none 0 0 w4).mono ?_
      rintro e w5 ⟨rfl, hb5⟩
      have HI5 := Lib.hid (HI4.out.step hb5)
      have HG5 := Lib.hid (HG4.out.below hb5)
      clear hb5 y0 y1 z0 z1 d0 HI4 HG4
      go_upto_region 6 with fail
      have y0 : w5.cell? ⟨E, 0, none⟩ = some (.int .i64 0) := HG5.out.cell 0
      have y1 : w5.cell? ⟨E, 1, none⟩ = some (.slice none 0 0) := HG5.out.cell 1
      have d0 : w5.cell? ⟨W.heap.size, 0, none⟩ = some (.slice k.a0 h.node.length k.c0) := HI5.out.hier.cell 0
      have d1 : w5.cell? ⟨W.heap.size, 1, none⟩ = some (.slice k.a1 h.uf.length k.c1) := HI5.out.hier.cell 1
      have d2 : w5.cell? ⟨W.heap.size, 2, none⟩ = some (.slice k.a2 h.up.length k.c2) := HI5.out.hier.cell 2
      have d3 : w5.cell? ⟨W.heap.size, 3, none⟩ = some (.slice k.a3 h.df.length k.c3) := HI5.out.hier.cell 3
      have d4 : w5.cell? ⟨W.heap.size, 4, none⟩ = some (.slice k.a4 h.dn.length k.c4) := HI5.out.hier.cell 4
      go_cut [4] from 27 to 31 (fun a wx => ∃ D A c, Sol h.node.length (seg h.df h.dn) q D ∧ a = .slice A (seenTo D (seg h.uf h.up) h.node.length).length c ∧ OwnSr wx W.heap.size (.slice A (seenTo D (seg h.uf h.up) h.node.length).length c) (seenTo D (seg h.uf h.up) h.node.length) ∧ Below W.heap.size W wx ∧ Cells wx (W.heap.size + 1) #[.int .i64 0, .slice none 0 0] 37)
      case first =>
        have hne : ¬ E = W.heap.size + 1 := by omega
        have hne2 : ¬ W.heap.size + 1 = E := by omega
        have HX : Hid (Below w5.heap.size w5 w5) := Lib.hid (Below.refl _ _)
        have Y0 := Lib.hid y0
        have Y1 := Lib.hid y1
        have D0 := Lib.hid d0
        have D1 := Lib.hid d1
        have D2 := Lib.hid d2
        have D3 := Lib.hid d3
        have D4 := Lib.hid d4
        have HTU : Hid (∀ w, Below w5.heap.size w5 w → Calls Tryd.prog 35 #[.agg #[.slice k.a0 h.node.length k.c0, .slice k.a1 h.uf.length k.c1, .slice k.a2 h.up.length k.c2, .slice k.a3 h.df.length k.c3, .slice k.a4 h.dn.length k.c4]] w fun e w' => ∃ p : HV, e = .returned (hierV p (turnT h)) ∧ RdH w' p (turnT h) ∧ Small p (turnT h) ∧ Below w5.heap.size w5 w') := Lib.hid fun w hb => (TurnDoc_any k h w (by have := HSO.out.m_le; omega) (by have := HSO.out.m_le; omega) (HP.out.below (HI5.out.below.trans (hb.mono HI5.out.below.size))) HS.out HIN.out).mono fun e w' he => by
          obtain ⟨p, h1, h2, h3, h4⟩ := he
          exact ⟨p, h1, h2, h3, hb.trans (h4.mono hb.size)⟩
        have HUP : Hid (∀ w p, Below w5.heap.size w5 w → RdH w p (turnT h) → Small p (turnT h) → Calls Tryd.prog 32 #[hierV p (turnT h), .int .i64 (q : Nat)] w fun e w' => ∃ D A c, Sol h.node.length (seg h.df h.dn) q D ∧ e = .returned (.slice A (seenTo D (seg h.uf h.up) h.node.length).length c) ∧ OwnSr w' w.heap.size (.slice A (seenTo D (seg h.uf h.up) h.node.length).length c) (seenTo D (seg h.uf h.up) h.node.length) ∧ w5.heap.size ≤ w.heap.size ∧ Below w5.heap.size w5 w') := Lib.hid fun w p hb hr hsm => (UpDoc_any p (turnT h) q w ((HSO.out.dn HIN.out).map (keep_turn _ _)) ((HSO.out.up HIN.out).map (keep_turn _ _)) hqn hr hsm (fun l hl => by
            obtain ⟨l', hl', rfl⟩ := List.mem_map.1 hl
            have := HSO.out.m_le
            exact (HIN.out.i4 l' hl').turn (by omega) (by omega)) (fun l hl => by
            obtain ⟨l', hl', rfl⟩ := List.mem_map.1 hl
            have := HSO.out.m_le
            exact (HIN.out.i2 l' hl').turn (by omega) (by omega))).mono fun e w' he => by
          obtain ⟨D, A, c, h1, h2, h3, h4⟩ := he
          rw [seg_turn_up] at h1
          rw [seg_turn_dn, show (turnT h).node.length = h.node.length from rfl, seenTo_map (keep_turn _ _)] at h2 h3
          exact ⟨D, A, c, h1.unmap (keep_turn _ _), h2, h3, hb.size, hb.trans (h4.mono hb.size)⟩
        go_region_held3 (fun w' => w'.cell? ⟨W.heap.size, 0, none⟩ = some (.slice k.a0 h.node.length k.c0) ∧ w'.cell? ⟨W.heap.size, 1, none⟩ = some (.slice k.a1 h.uf.length k.c1) ∧ w'.cell? ⟨W.heap.size, 2, none⟩ = some (.slice k.a2 h.up.length k.c2) ∧ w'.cell? ⟨W.heap.size, 3, none⟩ = some (.slice k.a3 h.df.length k.c3) ∧ w'.cell? ⟨W.heap.size, 4, none⟩ = some (.slice k.a4 h.dn.length k.c4) ∧ w'.cell? ⟨E, 0, none⟩ = some (.int .i64 0) ∧ w'.cell? ⟨E, 1, none⟩ = some (.slice none 0 0)) (first | with_reducible exact ⟨d0, d1, d2, d3, d4, y0, y1⟩ | go_keep) (first
          | (go_at_call 35; (with_reducible refine (HTU.out _ ?_).mono ?_); (first | exact HX.out | exact HX.out.drew); rintro e v0 ⟨p, rfl, hrd, hsm, hx5⟩; have HRD := Lib.hid hrd; have HSM := Lib.hid hsm; have d0 := cell_below hx5 D0.out; have d1 := cell_below hx5 D1.out; have d2 := cell_below hx5 D2.out; have d3 := cell_below hx5 D3.out; have d4 := cell_below hx5 D4.out; have y0 := cell_below hx5 Y0.out; have y1 := cell_below hx5 Y1.out; have hr5 := HI5.out.res.below hx5; have b0 : v0.cell? ⟨W.heap.size + 1, 0, none⟩ = some (.int .i64 0) := hr5.cell 0; have b1 : v0.cell? ⟨W.heap.size + 1, 1, none⟩ = some (.slice none 0 0) := hr5.cell 1; have f0 := hr5.frozen 0; have f1 := hr5.frozen 1; have HR5 := Lib.hid hr5; have HX := Lib.hid hx5; clear hx5 hr5 hrd hsm)
          | (go_at_call 32; refine (HUP.out _ p ?_ ?_ HSM.out).mono ?_; exact HX.out; exact HRD.out; rintro e v0 ⟨D, A, c, hsol, rfl, how, hxs, hx5⟩; have HSOL := Lib.hid hsol; have HOW := Lib.hid how; have HXS := Lib.hid hxs; have d0 := cell_below hx5 D0.out; have d1 := cell_below hx5 D1.out; have d2 := cell_below hx5 D2.out; have d3 := cell_below hx5 D3.out; have d4 := cell_below hx5 D4.out; have y0 := cell_below hx5 Y0.out; have y1 := cell_below hx5 Y1.out; have hr5 := HI5.out.res.below hx5; have b0 : v0.cell? ⟨W.heap.size + 1, 0, none⟩ = some (.int .i64 0) := hr5.cell 0; have b1 : v0.cell? ⟨W.heap.size + 1, 1, none⟩ = some (.slice none 0 0) := hr5.cell 1; have f0 := hr5.frozen 0; have f1 := hr5.frozen 1; have HR5 := Lib.hid hr5; have HX := Lib.hid hx5; clear hx5 hr5 hsol how hxs))
        all_goals
          rename_i hHeld
          clear hHeld
          go_wp2_with fail
          go_meet
          have hbw := (HI5.out.below.trans (HX.out.mono HI5.out.below.size))
          refine ⟨D, A, c, HSOL.out, rfl, (own_far2 (own_far2 (p := ⟨W.heap.size + 1, 0, none⟩) HOW.out (by intro e; have := (HOW.out.block e).1; have := HI5.out.size; have := HXS.out; simp at *; omega) _) (p := ⟨W.heap.size + 1, 1, none⟩) (by intro e; have := (HOW.out.block e).1; have := HI5.out.size; have := HXS.out; simp at *; omega) _).mono (by have := HI5.out.size; have := HXS.out; omega), (hbw.setCell (p := ⟨W.heap.size + 1, 0, none⟩) (by simp) _).setCell (p := ⟨W.heap.size + 1, 1, none⟩) (by simp) _, ?_⟩
          have hf := (HR5.out.set_ 0 (.int .i64 0)).set_ 1 (.slice none 0 0)
          simpa only [List.setIfInBounds_toArray, List.set_cons_zero, List.set_cons_succ] using hf
      case rest =>
        obtain ⟨D, A, c, hsol, rfl, how, hbw, hrc⟩ := hcut
        have r0 : wc.cell? ⟨W.heap.size + 1, 0, none⟩ = some (.int .i64 0) := hrc.cell 0
        have r1 : wc.cell? ⟨W.heap.size + 1, 1, none⟩ = some (.slice none 0 0) := hrc.cell 1
        have hend : DocRes (upBug h (q : Int)) h.node.length (seg h.df h.dn) (seg h.uf h.up) (q : Int).toNat W (.returned (.tuple #[.slice A (seenTo D (seg h.uf h.up) h.node.length).length c, .agg #[.int .i64 0, .slice none 0 0]])) wc := by
          rw [HUB.out, Int.toNat_natCast]
          exact ⟨hbw, D, A, c, hsol, rfl, how⟩
        have HEND := Lib.hid hend
        clear hsol how hbw hrc hend y0 y1 d0 d1 d2 d3 d4
        go_wp2_with fail
        rw [HQ0.out]
        refine bodyPost_ret (v := .tuple #[.slice A (seenTo D (seg h.uf h.up) h.node.length).length c, .agg #[.int .i64 0, .slice none 0 0]]) ?hres rfl HEND.out
        case hres => simp [results, Tryd.results16, go_sem, r0, r1]
end Go.Proofs.YtkcnnamghpdplaaDoor
