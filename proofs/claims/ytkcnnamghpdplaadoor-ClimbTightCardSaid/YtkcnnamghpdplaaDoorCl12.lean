/- Hierarchies turned about, whole: the document's. (Printed by gen_turn.py from XCl3.) -/
import Derived.Test.YtkcnnamghpdplaaDoorClB
import Derived.Test.YtkcnnamghpdplaaDoorCl3
set_option linter.unusedSimpArgs false
set_option linter.unusedVariables false
namespace Go.Proofs.YtkcnnamghpdplaaDoor
open Go.RowKit

set_option maxRecDepth 100000 in
set_option maxHeartbeats 4000000 in
theorem TurnDoc_any (k : HV) (h : HierT) (W : World) (hu : h.up.length ≤ 1048576) (hd : h.dn.length ≤ 1048576) (hp : RdH W k h) (hs : Small k h) (hin : InH h) :
    Calls Tryd.prog 35 #[hierV k h] W (TwinH (turnT h) W) := by
  have HP := Lib.hid hp
  have HS := Lib.hid hs
  have HIN := Lib.hid hin
  have HLU := Lib.hid hu
  have HLD := Lib.hid hd
  clear hp hs hin hu hd
  unfold hierV
  go_enter Tryd.func35, Tryd.ntmps35
  go_wp2_with fail
  generalize hw1 : (W.alloc (.cells #[.slice k.a0 h.node.length k.c0, .slice k.a1 h.uf.length k.c1, .slice k.a2 h.up.length k.c2, .slice k.a3 h.df.length k.c3, .slice k.a4 h.dn.length k.c4] 25)).alloc (.cells #[.slice none 0 0, .slice none 0 0, .slice none 0 0, .slice none 0 0, .slice none 0 0] 25) = W1
  have hb1 : Below W.heap.size W W1 := by rw [← hw1]; exact two_al _ _ _
  have hs1 : W1.heap.size = W.heap.size + 2 := by rw [← hw1]; simp
  have k1 : Cells W1 W.heap.size #[.slice k.a0 h.node.length k.c0, .slice k.a1 h.uf.length k.c1, .slice k.a2 h.up.length k.c2, .slice k.a3 h.df.length k.c3, .slice k.a4 h.dn.length k.c4] 25 := by
    rw [← hw1]; exact (cells_new W _ _).below ((Below.refl _ _).alloc (Nat.le_refl _) _)
  have k2 : Cells W1 (W.heap.size + 1) #[.slice none 0 0, .slice none 0 0, .slice none 0 0, .slice none 0 0, .slice none 0 0] 25 := by
    rw [← hw1]; have := cells_new (W.alloc (.cells #[.slice k.a0 h.node.length k.c0, .slice k.a1 h.uf.length k.c1, .slice k.a2 h.up.length k.c2, .slice k.a3 h.df.length k.c3, .slice k.a4 h.dn.length k.c4] 25)) #[.slice none 0 0, .slice none 0 0, .slice none 0 0, .slice none 0 0, .slice none 0 0] 25; rwa [size_alloc] at this
  have d0 := k1.cell 0
  have d1 := k1.cell 1
  have d2 := k1.cell 2
  have d3 := k1.cell 3
  have d4 := k1.cell 4
  simp only [List.getElem?_toArray, List.getElem?_cons_zero, List.getElem?_cons_succ] at d0 d1 d2 d3 d4
  have HB1 := Lib.hid hb1
  have HZ1 := Lib.hid hs1
  have K2 := Lib.hid k2
  have HR1 := Lib.hid (HP.out.below hb1)
  clear hb1 hs1 k1 k2 hw1
  have HW0 : Hid (∀ w, Below W1.heap.size W1 w → Calls Tryd.prog 30 #[.slice k.a0 h.node.length k.c0] w (Made32 (turnT h).node w)) := Lib.hid fun w hb => Words_any _ _ _ _ w (HR1.out.below hb).r0 HS.out.s0
  have HW1 : Hid (∀ w, Below W1.heap.size W1 w → Calls Tryd.prog 30 #[.slice k.a3 h.df.length k.c3] w (Made32 (turnT h).uf w)) := Lib.hid fun w hb => Words_any _ _ _ _ w (HR1.out.below hb).r3 HS.out.s3
  have HW2 : Hid (∀ w, Below W1.heap.size W1 w → Calls Tryd.prog 57 #[.agg #[.slice k.a0 h.node.length k.c0, .slice k.a1 h.uf.length k.c1, .slice k.a2 h.up.length k.c2, .slice k.a3 h.df.length k.c3, .slice k.a4 h.dn.length k.c4], .slice k.a4 h.dn.length k.c4] w (MadeK (turnT h).up w)) := Lib.hid fun w hb => turned_any k h _ _ _ _ w HLU.out HLD.out (HR1.out.below hb).r4 HIN.out.i4 HS.out.s4
  have HW3 : Hid (∀ w, Below W1.heap.size W1 w → Calls Tryd.prog 30 #[.slice k.a1 h.uf.length k.c1] w (Made32 (turnT h).df w)) := Lib.hid fun w hb => Words_any _ _ _ _ w (HR1.out.below hb).r1 HS.out.s1
  have HW4 : Hid (∀ w, Below W1.heap.size W1 w → Calls Tryd.prog 57 #[.agg #[.slice k.a0 h.node.length k.c0, .slice k.a1 h.uf.length k.c1, .slice k.a2 h.up.length k.c2, .slice k.a3 h.df.length k.c3, .slice k.a4 h.dn.length k.c4], .slice k.a2 h.up.length k.c2] w (MadeK (turnT h).dn w)) := Lib.hid fun w hb => turned_any k h _ _ _ _ w HLU.out HLD.out (HR1.out.below hb).r2 HIN.out.i2 HS.out.s2
  have HG : Hid ((turnT h).node.length * 4 ≤ 140737488351232 ∧ (turnT h).uf.length * 4 ≤ 140737488351232 ∧ (turnT h).up.length * 24 ≤ 140737488351232 ∧ (turnT h).df.length * 4 ≤ 140737488351232 ∧ (turnT h).dn.length * 24 ≤ 140737488351232) := Lib.hid ⟨HS.out.s0, HS.out.s3, by unfold turnT; rw [List.length_map]; exact HS.out.s4, HS.out.s1, by unfold turnT; rw [List.length_map]; exact HS.out.s2⟩
  generalize turnT h = g at *
  have HX : Hid (Below W1.heap.size W1 W1) := Lib.hid (Below.refl _ _)
  go_region_held3 (fun w' => w'.cell? ⟨W.heap.size, 0, none⟩ = some (.slice k.a0 h.node.length k.c0) ∧ w'.cell? ⟨W.heap.size, 1, none⟩ = some (.slice k.a1 h.uf.length k.c1) ∧ w'.cell? ⟨W.heap.size, 2, none⟩ = some (.slice k.a2 h.up.length k.c2) ∧ w'.cell? ⟨W.heap.size, 3, none⟩ = some (.slice k.a3 h.df.length k.c3) ∧ w'.cell? ⟨W.heap.size, 4, none⟩ = some (.slice k.a4 h.dn.length k.c4)) (first | with_reducible exact ⟨d0, d1, d2, d3, d4⟩ | go_keep) (first | (go_at_call 30; (with_reducible refine (HW0.out _ (by first | exact HX.out | exact HX.out.drew)).mono ?_); rintro e v0 ⟨A0, q0, rfl, ho5, hb5⟩; have HO0 := Lib.hid ho5; have HY0 : Hid (Below v0.heap.size v0 v0) := Lib.hid (Below.refl _ _); have d0 := cell_below hb5 d0; have d1 := cell_below hb5 d1; have d2 := cell_below hb5 d2; have d3 := cell_below hb5 d3; have d4 := cell_below hb5 d4; have HX : Hid (Below W1.heap.size W1 v0) := Lib.hid (by first | exact HX.out.trans (hb5.mono HX.out.size) | exact HX.out.drew.trans (hb5.mono HX.out.drew.size)); have HX0 := HX; clear hb5 ho5) | (go_at_call 30; (with_reducible refine (HW1.out _ (by first | exact HX.out | exact HX.out.drew)).mono ?_); rintro e v1 ⟨A1, q1, rfl, ho5, hb5⟩; have HO1 := Lib.hid ho5; have HY1 : Hid (Below v1.heap.size v1 v1) := Lib.hid (Below.refl _ _); have HY0 : Hid (Below v0.heap.size v0 v1) := Lib.hid (by first | exact HY0.out.trans (hb5.mono HY0.out.size) | exact HY0.out.drew.trans (hb5.mono HY0.out.drew.size)); have d0 := cell_below hb5 d0; have d1 := cell_below hb5 d1; have d2 := cell_below hb5 d2; have d3 := cell_below hb5 d3; have d4 := cell_below hb5 d4; have HX : Hid (Below W1.heap.size W1 v1) := Lib.hid (by first | exact HX.out.trans (hb5.mono HX.out.size) | exact HX.out.drew.trans (hb5.mono HX.out.drew.size)); have HX1 := HX; clear hb5 ho5) | (go_at_call 57; (with_reducible refine (HW2.out _ (by first | exact HX.out | exact HX.out.drew)).mono ?_); rintro e v2 ⟨A2, q2, rfl, ho5, hb5⟩; have HO2 := Lib.hid ho5; have HY2 : Hid (Below v2.heap.size v2 v2) := Lib.hid (Below.refl _ _); have HY0 : Hid (Below v0.heap.size v0 v2) := Lib.hid (by first | exact HY0.out.trans (hb5.mono HY0.out.size) | exact HY0.out.drew.trans (hb5.mono HY0.out.drew.size)); have HY1 : Hid (Below v1.heap.size v1 v2) := Lib.hid (by first | exact HY1.out.trans (hb5.mono HY1.out.size) | exact HY1.out.drew.trans (hb5.mono HY1.out.drew.size)); have d0 := cell_below hb5 d0; have d1 := cell_below hb5 d1; have d2 := cell_below hb5 d2; have d3 := cell_below hb5 d3; have d4 := cell_below hb5 d4; have HX : Hid (Below W1.heap.size W1 v2) := Lib.hid (by first | exact HX.out.trans (hb5.mono HX.out.size) | exact HX.out.drew.trans (hb5.mono HX.out.drew.size)); have HX2 := HX; clear hb5 ho5) | (go_at_call 30; (with_reducible refine (HW3.out _ (by first | exact HX.out | exact HX.out.drew)).mono ?_); rintro e v3 ⟨A3, q3, rfl, ho5, hb5⟩; have HO3 := Lib.hid ho5; have HY3 : Hid (Below v3.heap.size v3 v3) := Lib.hid (Below.refl _ _); have HY0 : Hid (Below v0.heap.size v0 v3) := Lib.hid (by first | exact HY0.out.trans (hb5.mono HY0.out.size) | exact HY0.out.drew.trans (hb5.mono HY0.out.drew.size)); have HY1 : Hid (Below v1.heap.size v1 v3) := Lib.hid (by first | exact HY1.out.trans (hb5.mono HY1.out.size) | exact HY1.out.drew.trans (hb5.mono HY1.out.drew.size)); have HY2 : Hid (Below v2.heap.size v2 v3) := Lib.hid (by first | exact HY2.out.trans (hb5.mono HY2.out.size) | exact HY2.out.drew.trans (hb5.mono HY2.out.drew.size)); have d0 := cell_below hb5 d0; have d1 := cell_below hb5 d1; have d2 := cell_below hb5 d2; have d3 := cell_below hb5 d3; have d4 := cell_below hb5 d4; have HX : Hid (Below W1.heap.size W1 v3) := Lib.hid (by first | exact HX.out.trans (hb5.mono HX.out.size) | exact HX.out.drew.trans (hb5.mono HX.out.drew.size)); have HX3 := HX; clear hb5 ho5) | (go_at_call 57; (with_reducible refine (HW4.out _ (by first | exact HX.out | exact HX.out.drew)).mono ?_); rintro e v4 ⟨A4, q4, rfl, ho5, hb5⟩; have HO4 := Lib.hid ho5; have HY4 : Hid (Below v4.heap.size v4 v4) := Lib.hid (Below.refl _ _); have HY0 : Hid (Below v0.heap.size v0 v4) := Lib.hid (by first | exact HY0.out.trans (hb5.mono HY0.out.size) | exact HY0.out.drew.trans (hb5.mono HY0.out.drew.size)); have HY1 : Hid (Below v1.heap.size v1 v4) := Lib.hid (by first | exact HY1.out.trans (hb5.mono HY1.out.size) | exact HY1.out.drew.trans (hb5.mono HY1.out.drew.size)); have HY2 : Hid (Below v2.heap.size v2 v4) := Lib.hid (by first | exact HY2.out.trans (hb5.mono HY2.out.size) | exact HY2.out.drew.trans (hb5.mono HY2.out.drew.size)); have HY3 : Hid (Below v3.heap.size v3 v4) := Lib.hid (by first | exact HY3.out.trans (hb5.mono HY3.out.size) | exact HY3.out.drew.trans (hb5.mono HY3.out.drew.size)); have d0 := cell_below hb5 d0; have d1 := cell_below hb5 d1; have d2 := cell_below hb5 d2; have d3 := cell_below hb5 d3; have d4 := cell_below hb5 d4; have HX : Hid (Below W1.heap.size W1 v4) := Lib.hid (by first | exact HX.out.trans (hb5.mono HX.out.size) | exact HX.out.drew.trans (hb5.mono HX.out.drew.size)); have HX4 := HX; have e0 : v4.cell? ⟨W.heap.size + 1, 0, none⟩ = some (.slice none 0 0) := (K2.out.below HX.out).cell 0; have f0 := (K2.out.below HX.out).frozen 0; have e1 : v4.cell? ⟨W.heap.size + 1, 1, none⟩ = some (.slice none 0 0) := (K2.out.below HX.out).cell 1; have f1 := (K2.out.below HX.out).frozen 1; have e2 : v4.cell? ⟨W.heap.size + 1, 2, none⟩ = some (.slice none 0 0) := (K2.out.below HX.out).cell 2; have f2 := (K2.out.below HX.out).frozen 2; have e3 : v4.cell? ⟨W.heap.size + 1, 3, none⟩ = some (.slice none 0 0) := (K2.out.below HX.out).cell 3; have f3 := (K2.out.below HX.out).frozen 3; have e4 : v4.cell? ⟨W.heap.size + 1, 4, none⟩ = some (.slice none 0 0) := (K2.out.below HX.out).cell 4; have f4 := (K2.out.below HX.out).frozen 4; clear hb5 ho5))
  rename_i hHeld
  clear hHeld
  have hz := HZ1.out
  have hkf : Cells v4 (W.heap.size + 1) #[.slice none 0 0, .slice none 0 0, .slice none 0 0, .slice none 0 0, .slice none 0 0] 25 := K2.out.below HX.out
  have hx1 := HY3.out.size
  have hx2 := HY2.out.size
  have hx3 := HY1.out.size
  have hx4 := HY0.out.size
  have hne0 : (Value.slice A0 g.node.length q0).ownBlock ≠ some (W.heap.size + 1) := fun hb => by
    have h1 := (HO0.out.block hb).1
    have h2 : W1.heap.size ≤ W1.heap.size := by have h3 := HX0.out.size; have h4 := HX1.out.size; have h5 := HX2.out.size; have h6 := HX3.out.size; omega
    have h3 : W1.heap.size ≤ W.heap.size + 1 := h1
    omega
  have hown0 := (own_far2 (own_far2 (own_far2 (own_far2 (own_far2 (HO0.out.below HY0.out) (p := ⟨W.heap.size + 1, 0, none⟩) hne0 (.slice A0 g.node.length q0)) (p := ⟨W.heap.size + 1, 1, none⟩) hne0 (.slice A1 g.uf.length q1)) (p := ⟨W.heap.size + 1, 2, none⟩) hne0 (.slice A2 g.up.length q2)) (p := ⟨W.heap.size + 1, 3, none⟩) hne0 (.slice A3 g.df.length q3)) (p := ⟨W.heap.size + 1, 4, none⟩) hne0 (.slice A4 g.dn.length q4))
  obtain ⟨A0', c0', hv0, hc0, hm0⟩ := HO0.out.form
  injection hv0 with _ _ hv0
  have hne1 : (Value.slice A1 g.uf.length q1).ownBlock ≠ some (W.heap.size + 1) := fun hb => by
    have h1 := (HO1.out.block hb).1
    have h2 : W1.heap.size ≤ v0.heap.size := by have h3 := HX0.out.size; have h4 := HX1.out.size; have h5 := HX2.out.size; have h6 := HX3.out.size; omega
    have h3 : v0.heap.size ≤ W.heap.size + 1 := h1
    omega
  have hown1 := (own_far2 (own_far2 (own_far2 (own_far2 (own_far2 (HO1.out.below HY1.out) (p := ⟨W.heap.size + 1, 0, none⟩) hne1 (.slice A0 g.node.length q0)) (p := ⟨W.heap.size + 1, 1, none⟩) hne1 (.slice A1 g.uf.length q1)) (p := ⟨W.heap.size + 1, 2, none⟩) hne1 (.slice A2 g.up.length q2)) (p := ⟨W.heap.size + 1, 3, none⟩) hne1 (.slice A3 g.df.length q3)) (p := ⟨W.heap.size + 1, 4, none⟩) hne1 (.slice A4 g.dn.length q4))
  obtain ⟨A1', c1', hv1, hc1, hm1⟩ := HO1.out.form
  injection hv1 with _ _ hv1
  have hne2 : (Value.slice A2 g.up.length q2).ownBlock ≠ some (W.heap.size + 1) := fun hb => by
    have h1 := (HO2.out.block hb).1
    have h2 : W1.heap.size ≤ v1.heap.size := by have h3 := HX0.out.size; have h4 := HX1.out.size; have h5 := HX2.out.size; have h6 := HX3.out.size; omega
    have h3 : v1.heap.size ≤ W.heap.size + 1 := h1
    omega
  have hown2 := (own_far2 (own_far2 (own_far2 (own_far2 (own_far2 (HO2.out.below HY2.out) (p := ⟨W.heap.size + 1, 0, none⟩) hne2 (.slice A0 g.node.length q0)) (p := ⟨W.heap.size + 1, 1, none⟩) hne2 (.slice A1 g.uf.length q1)) (p := ⟨W.heap.size + 1, 2, none⟩) hne2 (.slice A2 g.up.length q2)) (p := ⟨W.heap.size + 1, 3, none⟩) hne2 (.slice A3 g.df.length q3)) (p := ⟨W.heap.size + 1, 4, none⟩) hne2 (.slice A4 g.dn.length q4))
  obtain ⟨A2', c2', hv2, hc2, hm2⟩ := HO2.out.form
  injection hv2 with _ _ hv2
  have hne3 : (Value.slice A3 g.df.length q3).ownBlock ≠ some (W.heap.size + 1) := fun hb => by
    have h1 := (HO3.out.block hb).1
    have h2 : W1.heap.size ≤ v2.heap.size := by have h3 := HX0.out.size; have h4 := HX1.out.size; have h5 := HX2.out.size; have h6 := HX3.out.size; omega
    have h3 : v2.heap.size ≤ W.heap.size + 1 := h1
    omega
  have hown3 := (own_far2 (own_far2 (own_far2 (own_far2 (own_far2 (HO3.out.below HY3.out) (p := ⟨W.heap.size + 1, 0, none⟩) hne3 (.slice A0 g.node.length q0)) (p := ⟨W.heap.size + 1, 1, none⟩) hne3 (.slice A1 g.uf.length q1)) (p := ⟨W.heap.size + 1, 2, none⟩) hne3 (.slice A2 g.up.length q2)) (p := ⟨W.heap.size + 1, 3, none⟩) hne3 (.slice A3 g.df.length q3)) (p := ⟨W.heap.size + 1, 4, none⟩) hne3 (.slice A4 g.dn.length q4))
  obtain ⟨A3', c3', hv3, hc3, hm3⟩ := HO3.out.form
  injection hv3 with _ _ hv3
  have hne4 : (Value.slice A4 g.dn.length q4).ownBlock ≠ some (W.heap.size + 1) := fun hb => by
    have h1 := (HO4.out.block hb).1
    have h2 : W1.heap.size ≤ v3.heap.size := by have h3 := HX0.out.size; have h4 := HX1.out.size; have h5 := HX2.out.size; have h6 := HX3.out.size; omega
    have h3 : v3.heap.size ≤ W.heap.size + 1 := h1
    omega
  have hown4 := (own_far2 (own_far2 (own_far2 (own_far2 (own_far2 HO4.out (p := ⟨W.heap.size + 1, 0, none⟩) hne4 (.slice A0 g.node.length q0)) (p := ⟨W.heap.size + 1, 1, none⟩) hne4 (.slice A1 g.uf.length q1)) (p := ⟨W.heap.size + 1, 2, none⟩) hne4 (.slice A2 g.up.length q2)) (p := ⟨W.heap.size + 1, 3, none⟩) hne4 (.slice A3 g.df.length q3)) (p := ⟨W.heap.size + 1, 4, none⟩) hne4 (.slice A4 g.dn.length q4))
  obtain ⟨A4', c4', hv4, hc4, hm4⟩ := HO4.out.form
  injection hv4 with _ _ hv4
  have hfin : Cells (((((v4.setCell ⟨W.heap.size + 1, 0, none⟩ (.slice A0 g.node.length q0)).setCell ⟨W.heap.size + 1, 1, none⟩ (.slice A1 g.uf.length q1)).setCell ⟨W.heap.size + 1, 2, none⟩ (.slice A2 g.up.length q2)).setCell ⟨W.heap.size + 1, 3, none⟩ (.slice A3 g.df.length q3)).setCell ⟨W.heap.size + 1, 4, none⟩ (.slice A4 g.dn.length q4)) (W.heap.size + 1) #[.slice A0 g.node.length q0, .slice A1 g.uf.length q1, .slice A2 g.up.length q2, .slice A3 g.df.length q3, .slice A4 g.dn.length q4] 25 := ((((hkf.set_ 0 _).set_ 1 _).set_ 2 _).set_ 3 _).set_ 4 _
  have hbf : Below W.heap.size W (((((v4.setCell ⟨W.heap.size + 1, 0, none⟩ (.slice A0 g.node.length q0)).setCell ⟨W.heap.size + 1, 1, none⟩ (.slice A1 g.uf.length q1)).setCell ⟨W.heap.size + 1, 2, none⟩ (.slice A2 g.up.length q2)).setCell ⟨W.heap.size + 1, 3, none⟩ (.slice A3 g.df.length q3)).setCell ⟨W.heap.size + 1, 4, none⟩ (.slice A4 g.dn.length q4)) := (((((HB1.out.trans (HX.out.mono HB1.out.size)).setCell (p := ⟨W.heap.size + 1, 0, none⟩) (by simp) _).setCell (p := ⟨W.heap.size + 1, 1, none⟩) (by simp) _).setCell (p := ⟨W.heap.size + 1, 2, none⟩) (by simp) _).setCell (p := ⟨W.heap.size + 1, 3, none⟩) (by simp) _).setCell (p := ⟨W.heap.size + 1, 4, none⟩) (by simp) _
  generalize (((((v4.setCell ⟨W.heap.size + 1, 0, none⟩ (.slice A0 g.node.length q0)).setCell ⟨W.heap.size + 1, 1, none⟩ (.slice A1 g.uf.length q1)).setCell ⟨W.heap.size + 1, 2, none⟩ (.slice A2 g.up.length q2)).setCell ⟨W.heap.size + 1, 3, none⟩ (.slice A3 g.df.length q3)).setCell ⟨W.heap.size + 1, 4, none⟩ (.slice A4 g.dn.length q4)) = W5 at hfin hbf hown0 hown1 hown2 hown3 hown4 ⊢
  have r0 : W5.cell? ⟨W.heap.size + 1, 0, none⟩ = some (.slice A0 g.node.length q0) := hfin.cell 0
  have r1 : W5.cell? ⟨W.heap.size + 1, 1, none⟩ = some (.slice A1 g.uf.length q1) := hfin.cell 1
  have r2 : W5.cell? ⟨W.heap.size + 1, 2, none⟩ = some (.slice A2 g.up.length q2) := hfin.cell 2
  have r3 : W5.cell? ⟨W.heap.size + 1, 3, none⟩ = some (.slice A3 g.df.length q3) := hfin.cell 3
  have r4 : W5.cell? ⟨W.heap.size + 1, 4, none⟩ = some (.slice A4 g.dn.length q4) := hfin.cell 4
  have HEND : Hid (TwinH g W (.returned (.agg #[.slice A0 g.node.length q0, .slice A1 g.uf.length q1, .slice A2 g.up.length q2, .slice A3 g.df.length q3, .slice A4 g.dn.length q4])) W5) := Lib.hid ⟨⟨A0, A1, A2, A3, A4, q0, q1, q2, q3, q4⟩, rfl, ⟨hown0.rd enc32_len rfl, hown1.rd enc32_len rfl, hown2.rd encK_len rfl, hown3.rd enc32_len rfl, hown4.rd encK_len rfl⟩,
    ⟨HG.out.1, HG.out.2.1, HG.out.2.2.1, HG.out.2.2.2.1, HG.out.2.2.2.2, by subst hv0; simp only [maxLen] at hm0; exact ⟨hc0, by omega⟩, by subst hv1; simp only [maxLen] at hm1; exact ⟨hc1, by omega⟩, by subst hv2; simp only [maxLen] at hm2; exact ⟨hc2, by omega⟩, by subst hv3; simp only [maxLen] at hm3; exact ⟨hc3, by omega⟩, by subst hv4; simp only [maxLen] at hm4; exact ⟨hc4, by omega⟩⟩, hbf⟩
  clear hown0 hown1 hown2 hown3 hown4 hfin hbf
  go_wp2_with fail
  refine bodyPost_ret (by simp [results, Tryd.results35, go_sem, r0, r1, r2, r3, r4]; try rfl) rfl ?_
  exact HEND.out
end Go.Proofs.YtkcnnamghpdplaaDoor
