/- ClimbSearches: the walk. (Printed by gen_search.py.) -/
import Derived.Test.YtkcnnamghpdplaaDoorCd1
import Derived.Test.YtkcnnamghpdplaaDoorCl33
import Derived.Test.YtkcnnamghpdplaaDoorClRecs
import Derived.Deep.DeepCutAuto
set_option linter.unusedSimpArgs false
set_option linter.unusedVariables false
namespace Go.Proofs.YtkcnnamghpdplaaDoor
open Go.RowKit

def ListX (bug : Bug) (L : List SeenT) (W : World) (e : Ending) (w' : World) : Prop := ∃ A c v, e = .returned (.tuple #[.slice A L.length c, v]) ∧ ErrProg bug W (.returned v) w' ∧ OwnSn w' W.heap.size (.slice A L.length c) L ∧ Below W.heap.size W w'
def DocListX (bug : Bug) (L : List SeenT) (W : World) (e : Ending) (w' : World) : Prop := ∃ A c x, e = .returned (.tuple #[.slice A L.length c, errV x]) ∧ DocX bug W.heap.size x w' ∧ OwnSr w' W.heap.size (.slice A L.length c) L ∧ Below W.heap.size W w'
theorem list_ofX (bug : Bug) (n : Nat) (S S' : Nat → List Lk) (s : Nat) (hu : bug = none → Ups n S ∧ n ≤ 65536) : ∃ L : List SeenT, L.length ≤ 65536 ∧ (∀ W e w', ClimbRes bug n S S' s W e w' → ListX bug L W e w') ∧ (∀ W e w', DocRes bug n S S' s W e w' → DocListX bug L W e w') := by
  cases bug with
  | some b =>
    refine ⟨[], by simp, fun W e w' h => ?_, fun W e w' h => ?_⟩
    · obtain ⟨v, h1, h2⟩ := h
      exact ⟨none, 0, v, h1, h2, Own.nil _ _ _ _ _, h2.1⟩
    · obtain ⟨hb, x, h1, h2⟩ := h
      exact ⟨none, 0, x, h1, h2, Own.nil _ _ _ _ _, hb⟩
  | none =>
    obtain ⟨hu, hn⟩ := hu rfl
    by_cases hD : ∃ D, Sol n S s D
    · obtain ⟨D, hD⟩ := hD
      have hlen := seenTo_len D S' n
      refine ⟨seenTo D S' n, by omega, fun W e w' h => ?_, fun W e w' h => ?_⟩
      · obtain ⟨D', hD', A, c, h1, h2, h3⟩ := h
        have e : D' = D := funext (Sol.unique hu hD' hD)
        subst e
        exact ⟨A, c, _, h1, ⟨h3, rfl⟩, h2, h3⟩
      · obtain ⟨hb, D', A, c, hD', h1, h2⟩ := h
        have e : D' = D := funext (Sol.unique hu hD' hD)
        subst e
        exact ⟨A, c, zX, h1, rfl, h2, hb⟩
    · refine ⟨[], by simp, fun W e w' h => ?_, fun W e w' h => ?_⟩
      · obtain ⟨D', hD', -⟩ := h
        exact absurd ⟨D', hD'⟩ hD
      · obtain ⟨hb, D', A, c, hD', -⟩ := h
        exact absurd ⟨D', hD'⟩ hD
theorem good_up (h : HierT) (s : Int) : GoodB (upBug h s) := by
  intro p hp
  unfold upBug at hp
  split at hp
  · rename_i b hb
    cases hp
    exact good_chk h _ hb
  · split at hp
    · cases hp; simp
    · cases hp
theorem up_listsX (h : HierT) (s : Int) (hin : InH h) (hs0 : -9223372036854775808 ≤ s) (hs1 : s ≤ 9223372036854775807) : ∃ L : List SeenT, L.length ≤ 65536 ∧
    (∀ k W, RdH W k h → Small k h → Calls Tryd.prog 9 #[hierV k h, .int .i64 s] W (ListX (upBug h s) L W)) ∧ (∀ k W, RdH W k h → Small k h → Calls Tryd.prog 11 #[hierV k h, .int .i64 s] W (DocListX (upBug h s) L W)) := by
  obtain ⟨L, h0, h1, h2⟩ := list_ofX (upBug h s) h.node.length (seg h.uf h.up) (seg h.df h.dn) s.toNat (ups_up hin)
  exact ⟨L, h0, fun k W hp hs => (Up_any k h s W hp hs hin hs0 hs1).mono fun e w' he => h1 W e w' he, fun k W hp hs => (DocUp_any k h s W hp hs hin hs0 hs1).mono fun e w' he => h2 W e w' he⟩
theorem dn_listsX (h : HierT) (s : Int) (hin : InH h) (hs0 : -9223372036854775808 ≤ s) (hs1 : s ≤ 9223372036854775807) : ∃ L : List SeenT, L.length ≤ 65536 ∧
    (∀ k W, RdH W k h → Small k h → Calls Tryd.prog 15 #[hierV k h, .int .i64 s] W (ListX (upBug h s) L W)) ∧ (∀ k W, RdH W k h → Small k h → Calls Tryd.prog 16 #[hierV k h, .int .i64 s] W (DocListX (upBug h s) L W)) := by
  obtain ⟨L, h0, h1, h2⟩ := list_ofX (upBug h s) h.node.length (seg h.df h.dn) (seg h.uf h.up) s.toNat (ups_dn hin)
  exact ⟨L, h0, fun k W hp hs => (Down_any k h s W hp hs hin hs0 hs1).mono fun e w' he => h1 W e w' he, fun k W hp hs => (DocDown_any k h s W hp hs hin hs0 hs1).mono fun e w' he => h2 W e w' he⟩
set_option maxRecDepth 100000 in
set_option maxHeartbeats 8000000 in
theorem ClimbSearches_any (k : HV) (h : HierT) (s : Int) (W : World) (hg : ErrT W) (hp : RdH W k h) (hs : Small k h) (hin : InH h) (hs0 : -9223372036854775808 ≤ s) (hs1 : s ≤ 9223372036854775807) :
    Calls Tryd.prog 3 #[hierV k h, .int .i64 s] W (BoolBelow true W) := by
  have HGT := Lib.hid hg
  have HP := Lib.hid hp
  have HS := Lib.hid hs
  have HGB := Lib.hid (good_up h s)
  obtain ⟨L, hL, hLu, hLd⟩ := up_listsX h s hin hs0 hs1
  obtain ⟨M, hM, hMu, hMd⟩ := dn_listsX h s hin hs0 hs1
  have HLU := Lib.hid hLu
  have HLD := Lib.hid hLd
  have HMU := Lib.hid hMu
  have HMD := Lib.hid hMd
  clear hg hp hs hin hLu hLd hMu hMd
  generalize upBug h s = bug at *
  unfold hierV
  go_enter Tryd.func3, Tryd.ntmps3
  refine wp_post_named' ?_
  intro Q0 hQ0
  have HQ0 := Lib.hid hQ0
  clear hQ0
  go_upto_region 1 with fail
  have hb1 := (Below.refl W.heap.size W).alloc (Nat.le_refl _) (.cells #[.slice k.a0 h.node.length k.c0, .slice k.a1 h.uf.length k.c1, .slice k.a2 h.up.length k.c2, .slice k.a3 h.df.length k.c3, .slice k.a4 h.dn.length k.c4] 25)
  have hc1 := cells_new W #[.slice k.a0 h.node.length k.c0, .slice k.a1 h.uf.length k.c1, .slice k.a2 h.up.length k.c2, .slice k.a3 h.df.length k.c3, .slice k.a4 h.dn.length k.c4] 25
  have hz1 : (W.alloc (.cells #[.slice k.a0 h.node.length k.c0, .slice k.a1 h.uf.length k.c1, .slice k.a2 h.up.length k.c2, .slice k.a3 h.df.length k.c3, .slice k.a4 h.dn.length k.c4] 25)).heap.size = W.heap.size + 1 := by simp
  generalize W.alloc (.cells #[.slice k.a0 h.node.length k.c0, .slice k.a1 h.uf.length k.c1, .slice k.a2 h.up.length k.c2, .slice k.a3 h.df.length k.c3, .slice k.a4 h.dn.length k.c4] 25) = w1 at *
  have HB1 := Lib.hid hb1
  have HC1 := Lib.hid hc1
  have HZ1 := Lib.hid hz1
  clear hb1 hc1 hz1
  go_wp2_with fail
  refine (awake_any w1).mono ?_
  rintro e w2 ⟨rfl, hb⟩
  have HB2 := Lib.hid (HB1.out.trans (hb.mono HB1.out.size))
  have HC2 := Lib.hid (HC1.out.below hb)
  clear hb HB1 HC1 HZ1
  have HG := Lib.hid (great_any k h w2 HS.out)
  unfold hierV at HG
  have d0 : w2.cell? ⟨W.heap.size, 0, none⟩ = some (.slice k.a0 h.node.length k.c0) := HC2.out.cell 0
  have d1 : w2.cell? ⟨W.heap.size, 1, none⟩ = some (.slice k.a1 h.uf.length k.c1) := HC2.out.cell 1
  have d2 : w2.cell? ⟨W.heap.size, 2, none⟩ = some (.slice k.a2 h.up.length k.c2) := HC2.out.cell 2
  have d3 : w2.cell? ⟨W.heap.size, 3, none⟩ = some (.slice k.a3 h.df.length k.c3) := HC2.out.cell 3
  have d4 : w2.cell? ⟨W.heap.size, 4, none⟩ = some (.slice k.a4 h.dn.length k.c4) := HC2.out.cell 4
  go_wp2_with fail
  refine HG.out.mono ?_
  rintro e w3 ⟨rfl, hb⟩
  have HB3 := Lib.hid (HB2.out.trans (hb.mono HB2.out.size))
  have HC3 := Lib.hid (HC2.out.below hb)
  clear hb d0 d1 d2 d3 d4 HB2 HC2 HG
  cases greatB h
  rotate_left
  · go_wp2_with fail
    rw [HQ0.out]
    go_ret
    exact ⟨rfl, HB3.out⟩
  have HTW := Lib.hid (Twin_any k h w3 (HP.out.below HB3.out) HS.out)
  unfold hierV at HTW
  have d0 : w3.cell? ⟨W.heap.size, 0, none⟩ = some (.slice k.a0 h.node.length k.c0) := HC3.out.cell 0
  have d1 : w3.cell? ⟨W.heap.size, 1, none⟩ = some (.slice k.a1 h.uf.length k.c1) := HC3.out.cell 1
  have d2 : w3.cell? ⟨W.heap.size, 2, none⟩ = some (.slice k.a2 h.up.length k.c2) := HC3.out.cell 2
  have d3 : w3.cell? ⟨W.heap.size, 3, none⟩ = some (.slice k.a3 h.df.length k.c3) := HC3.out.cell 3
  have d4 : w3.cell? ⟨W.heap.size, 4, none⟩ = some (.slice k.a4 h.dn.length k.c4) := HC3.out.cell 4
  go_wp2_with fail
  refine HTW.out.mono ?_
  rintro e w4 ⟨q, rfl, hrq, hsq, hb⟩
  have HB4 := Lib.hid (HB3.out.trans (hb.mono HB3.out.size))
  have HC4 := Lib.hid (HC3.out.below hb)
  have HCC := Lib.hid (HLU.out q w4 hrq hsq)
  unfold hierV at HCC
  clear hb d0 d1 d2 d3 d4 HB3 HC3 HTW hrq hsq
  unfold hierV
  go_wp2_with fail
  refine HCC.out.mono ?_
  rintro e w5 ⟨A, cA, v, rfl, hv, ho, hb⟩
  have HB5 := Lib.hid (HB4.out.trans (hb.mono HB4.out.size))
  have HC5 := Lib.hid (HC4.out.below hb)
  have HV5 := Lib.hid hv.px
  have HO5 := Lib.hid ho
  have HDC := Lib.hid (HLD.out k w5 (HP.out.below HB5.out) HS.out)
  unfold hierV at HDC
  clear hb hv ho HCC HB4 HC4
  have d0 : w5.cell? ⟨W.heap.size, 0, none⟩ = some (.slice k.a0 h.node.length k.c0) := HC5.out.cell 0
  have d1 : w5.cell? ⟨W.heap.size, 1, none⟩ = some (.slice k.a1 h.uf.length k.c1) := HC5.out.cell 1
  have d2 : w5.cell? ⟨W.heap.size, 2, none⟩ = some (.slice k.a2 h.up.length k.c2) := HC5.out.cell 2
  have d3 : w5.cell? ⟨W.heap.size, 3, none⟩ = some (.slice k.a3 h.df.length k.c3) := HC5.out.cell 3
  have d4 : w5.cell? ⟨W.heap.size, 4, none⟩ = some (.slice k.a4 h.dn.length k.c4) := HC5.out.cell 4
  go_wp2_with fail
  refine HDC.out.mono ?_
  rintro e w6 ⟨B, cB, x, rfl, hx, ho, hb⟩
  have HB6 := Lib.hid (HB5.out.trans (hb.mono HB5.out.size))
  have HC6 := Lib.hid (HC5.out.below hb)
  have HV6 := Lib.hid (HV5.out.below hb)
  have HO6 := Lib.hid (HO5.out.below hb)
  have HU6 := Lib.hid ho
  have HX6 := Lib.hid hx
  clear hb hx ho d0 d1 d2 d3 d4 HDC HB5 HC5 HO5 HV5
  go_upto_region 7 with fail
  have hb := (Below.refl w6.heap.size w6).alloc (Nat.le_refl _) (.cells #[.int .i64 x.c, .slice x.A x.n x.k] 37)
  have HB7 := Lib.hid (HB6.out.trans (hb.mono HB6.out.size))
  have HC7 := Lib.hid (HC6.out.below hb)
  have HO7 := Lib.hid (HO6.out.below hb)
  have HU7 := Lib.hid (HU6.out.below hb)
  have HV7 := Lib.hid (HV6.out.below hb)
  have HX7 := Lib.hid (HX6.out.below hb)
  have HE7 := Lib.hid (cells_new w6 #[.int .i64 x.c, .slice x.A x.n x.k] 37)
  have HEW : Hid (W.heap.size < w6.heap.size) := Lib.hid HC6.out.lt
  clear hb HB6 HC6 HO6 HU6 HV6 HX6
  generalize w6.alloc (.cells #[.int .i64 x.c, .slice x.A x.n x.k] 37) = w7 at *
  generalize w6.heap.size = E at *
  go_wp2_with fail
  refine (Of_any A L.length cA L w7 (HO7.out.rd encSn_len rfl) (by omega)).mono ?_
  rintro e w8 ⟨A1, c1, rfl, ho, hb⟩
  have HB8 := Lib.hid (HB7.out.trans (hb.mono HB7.out.size))
  have HC8 := Lib.hid (HC7.out.below hb)
  have HU8 := Lib.hid (HU7.out.below hb)
  have HV8 := Lib.hid (HV7.out.below hb)
  have HX8 := Lib.hid (HX7.out.below hb)
  have HE8 := Lib.hid (HE7.out.below hb)
  have HR := Lib.hid (ho.rd encSn_len rfl)
  clear hb ho HB7 HC7 HO7 HU7 HV7 HX7 HE7
  go_wp2_with fail
  refine (SameSn_eq A1 B L.length c1 cB L w8 HR.out (HU8.out.rd encSn_len rfl) (by omega)).mono ?_
  rintro e w9 ⟨rfl, hb⟩
  have HB9 := Lib.hid (HB8.out.trans (hb.mono HB8.out.size))
  have HC9 := Lib.hid (HC8.out.below hb)
  have HV9 := Lib.hid (HV8.out.below hb)
  have HX9 := Lib.hid (HX8.out.below hb)
  have HE9 := Lib.hid (HE8.out.below hb)
  have HSB := Lib.hid (same_bug HV9.out HX9.out HGB.out (HGT.out.below HB9.out))
  clear hb HR HB8 HC8 HU8 HV8 HX8 HE8 HV9 HX9
  have z0 : w9.cell? ⟨E, 0, none⟩ = some (.int .i64 x.c) := HE9.out.cell 0
  have z1 : w9.cell? ⟨E, 1, none⟩ = some (.slice x.A x.n x.k) := HE9.out.cell 1
  go_wp2_with fail
  refine HSB.out.mono ?_
  rintro e w10 ⟨rfl, hb⟩
  have HB10 := Lib.hid (HB9.out.trans (hb.mono HB9.out.size))
  have HC10 := Lib.hid (HC9.out.below hb)
  have HE10 := Lib.hid (HE9.out.below hb)
  clear hb z0 z1 HSB HB9 HC9 HE9
  generalize x.c = xc at *
  generalize x.A = xA at *
  generalize x.n = xn at *
  generalize x.k = xk at *
  have HTW := Lib.hid (Twin_any k h w10 (HP.out.below HB10.out) HS.out)
  unfold hierV at HTW
  have d0 : w10.cell? ⟨W.heap.size, 0, none⟩ = some (.slice k.a0 h.node.length k.c0) := HC10.out.cell 0
  have d1 : w10.cell? ⟨W.heap.size, 1, none⟩ = some (.slice k.a1 h.uf.length k.c1) := HC10.out.cell 1
  have d2 : w10.cell? ⟨W.heap.size, 2, none⟩ = some (.slice k.a2 h.up.length k.c2) := HC10.out.cell 2
  have d3 : w10.cell? ⟨W.heap.size, 3, none⟩ = some (.slice k.a3 h.df.length k.c3) := HC10.out.cell 3
  have d4 : w10.cell? ⟨W.heap.size, 4, none⟩ = some (.slice k.a4 h.dn.length k.c4) := HC10.out.cell 4
  go_wp2_with fail
  refine HTW.out.mono ?_
  rintro e w11 ⟨q, rfl, hrq, hsq, hb⟩
  have HB11 := Lib.hid (HB10.out.trans (hb.mono HB10.out.size))
  have HC11 := Lib.hid (HC10.out.below hb)
  have HE11 := Lib.hid (HE10.out.below hb)
  have HEL := Lib.hid HE11.out.lt
  have HCC := Lib.hid (HMU.out q w11 hrq hsq)
  unfold hierV at HCC
  clear hb d0 d1 d2 d3 d4 HB10 HC10 HTW hrq hsq
  unfold hierV
  go_wp2_with fail
  refine HCC.out.mono ?_
  rintro e w12 ⟨A, cA, v, rfl, hv, ho, hb⟩
  have HB12 := Lib.hid (HB11.out.trans (hb.mono HB11.out.size))
  have HC12 := Lib.hid (HC11.out.below hb)
  have HE12 := Lib.hid (HE11.out.below hb)
  have HEM := Lib.hid HE12.out.lt
  have HV12 := Lib.hid hv.px
  have HO12 := Lib.hid ho
  have HDC := Lib.hid (HMD.out k w12 (HP.out.below HB12.out) HS.out)
  unfold hierV at HDC
  clear hb hv ho HCC HB11 HC11
  have d0 : w12.cell? ⟨W.heap.size, 0, none⟩ = some (.slice k.a0 h.node.length k.c0) := HC12.out.cell 0
  have d1 : w12.cell? ⟨W.heap.size, 1, none⟩ = some (.slice k.a1 h.uf.length k.c1) := HC12.out.cell 1
  have d2 : w12.cell? ⟨W.heap.size, 2, none⟩ = some (.slice k.a2 h.up.length k.c2) := HC12.out.cell 2
  have d3 : w12.cell? ⟨W.heap.size, 3, none⟩ = some (.slice k.a3 h.df.length k.c3) := HC12.out.cell 3
  have d4 : w12.cell? ⟨W.heap.size, 4, none⟩ = some (.slice k.a4 h.dn.length k.c4) := HC12.out.cell 4
  go_wp2_with fail
  refine HDC.out.mono ?_
  rintro e w13 ⟨B, cB, x, rfl, hx, ho, hb⟩
  have HB13 := Lib.hid (HB12.out.trans (hb.mono HB12.out.size))
  have HC13 := Lib.hid (HC12.out.below hb)
  have HE13 := Lib.hid (HE12.out.below hb)
  have HV13 := Lib.hid (HV12.out.below hb)
  have HO13 := Lib.hid (HO12.out.below hb)
  have HU13 := Lib.hid ho
  have HX13 := Lib.hid hx
  clear hb hx ho d0 d1 d2 d3 d4 HDC HB12 HC12 HO12 HV12
  have z0 : w13.cell? ⟨E, 0, none⟩ = some (.int .i64 xc) := HE13.out.cell 0
  have z1 : w13.cell? ⟨E, 1, none⟩ = some (.slice xA xn xk) := HE13.out.cell 1
  have y0 := HE13.out.frozen 0
  have y1 := HE13.out.frozen 1
  have hfin := (HE13.out.set_ 0 (.int .i64 x.c)).set_ 1 (.slice x.A x.n x.k)
  simp only [List.setIfInBounds_toArray, List.set_cons_zero, List.set_cons_succ] at hfin
  have hk : Kept (fun k => k = E) w13 ((w13.setCell ⟨E, 0, none⟩ (.int .i64 x.c)).setCell ⟨E, 1, none⟩ (.slice x.A x.n x.k)) := ((Kept.refl (fun k => k = E) w13).set_ (p := ⟨E, 0, none⟩) (.inl rfl) _).set_ (p := ⟨E, 1, none⟩) (.inl rfl) _
  have HK := Lib.hid hk
  have HE14 := Lib.hid hfin
  clear hk hfin
  go_upto_region 11 with fail
  generalize (w13.setCell ⟨E, 0, none⟩ (.int .i64 x.c)).setCell ⟨E, 1, none⟩ (.slice x.A x.n x.k) = w14 at *
  have hne := HEW.out
  have HB14 := Lib.hid (HK.out.below HB13.out (fun k e => by subst e; omega) HB13.out.size)
  have HC14 := Lib.hid (HK.out.cells HC13.out (by omega))
  have HO14 := Lib.hid (HO13.out.keptS HK.out (fun k e e' => by have h1 := (HO13.out.block e).1; have h2 := HEL.out; omega))
  have HU14 := Lib.hid (HU13.out.keptS HK.out (fun k e e' => by have h1 := (HU13.out.block e).1; have h2 := HEM.out; omega))
  have HV14 := Lib.hid (HV13.out.off HK.out HEL.out)
  have HX14 := Lib.hid (HX13.out.off HK.out HEM.out)
  clear z0 z1 y0 y1 hne HK HB13 HC13 HO13 HU13 HV13 HX13 HE13
  go_wp2_with fail
  refine (Of_any A M.length cA M w14 (HO14.out.rd encSn_len rfl) (by omega)).mono ?_
  rintro e w15 ⟨A1, c1, rfl, ho, hb⟩
  have HB15 := Lib.hid (HB14.out.trans (hb.mono HB14.out.size))
  have HC15 := Lib.hid (HC14.out.below hb)
  have HU15 := Lib.hid (HU14.out.below hb)
  have HV15 := Lib.hid (HV14.out.below hb)
  have HX15 := Lib.hid (HX14.out.below hb)
  have HE15 := Lib.hid (HE14.out.below hb)
  have HR := Lib.hid (ho.rd encSn_len rfl)
  clear hb ho HB14 HC14 HO14 HU14 HV14 HX14 HE14
  go_wp2_with fail
  refine (SameSn_eq A1 B M.length c1 cB M w15 HR.out (HU15.out.rd encSn_len rfl) (by omega)).mono ?_
  rintro e w16 ⟨rfl, hb⟩
  have HB16 := Lib.hid (HB15.out.trans (hb.mono HB15.out.size))
  have HC16 := Lib.hid (HC15.out.below hb)
  have HV16 := Lib.hid (HV15.out.below hb)
  have HX16 := Lib.hid (HX15.out.below hb)
  have HE16 := Lib.hid (HE15.out.below hb)
  have HSB := Lib.hid (same_bug HV16.out HX16.out HGB.out (HGT.out.below HB16.out))
  clear hb HR HB15 HC15 HU15 HV15 HX15 HE15 HV16 HX16
  have z0 : w16.cell? ⟨E, 0, none⟩ = some (.int .i64 x.c) := HE16.out.cell 0
  have z1 : w16.cell? ⟨E, 1, none⟩ = some (.slice x.A x.n x.k) := HE16.out.cell 1
  go_wp2_with fail
  refine HSB.out.mono ?_
  rintro e w17 ⟨rfl, hb⟩
  have HB17 := Lib.hid (HB16.out.trans (hb.mono HB16.out.size))
  have HC17 := Lib.hid (HC16.out.below hb)
  have HE17 := Lib.hid (HE16.out.below hb)
  clear hb z0 z1 HSB HB16 HC16 HE16
  go_wp2_with fail
  rw [HQ0.out]
  go_ret
  exact ⟨rfl, HB17.out⟩
theorem ClimbSearches_walk (k : HV) (h : HierT) (s : Int) (W : World) (hp : RdH W k h) (hs : Small k h) (hin : InH h) (hw : (Lit.int .i64 s).wf = true) (hg : ErrT W) :
    Calls Tryd.prog 3 #[hierV k h, .int .i64 s] W fun e W' => e = .returned (.bool true) ∧ Below W.heap.size W W' := by
  have h0 : -9223372036854775808 ≤ s ∧ s ≤ 9223372036854775807 := by
    simp only [Lit.wf, Bool.and_eq_true, decide_eq_true_eq] at hw
    exact hw
  exact ClimbSearches_any k h s W hg hp hs hin h0.1 h0.2
end Go.Proofs.YtkcnnamghpdplaaDoor
