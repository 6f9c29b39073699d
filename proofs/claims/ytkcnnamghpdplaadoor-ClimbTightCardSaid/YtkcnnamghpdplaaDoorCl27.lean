/- What is wrong with a link: the document's. (Printed by gen_link.py.) -/
import Derived.Test.YtkcnnamghpdplaaDoorCl26
import Derived.Test.YtkcnnamghpdplaaDoorClF
import Derived.Test.YtkcnnamghpdplaaDoorClH
import Derived.Deep.DeepCutAuto
set_option linter.unusedSimpArgs false
set_option linter.unusedVariables false
namespace Go.Proofs.YtkcnnamghpdplaaDoor
open Go.RowKit

/-- the post under a name: the walk then makes no trial of its own at the return -/
theorem wp_post_named {P : Program} {c : Code} {Q : Exit → Act → World → Prop} {a : Act} {w : World} (h : ∀ Q0, Q0 = Q → c.wp P Q0 a w) : c.wp P Q a w := h Q rfl
set_option maxRecDepth 100000 in
theorem field_w (x0 x2 x3 x1 : Int) (w : World) : (Instr.field 52 (.agg #[.int .u32 x0, .int .u64 x1, .int .u32 x2, .int .u32 x3]) 1).run Tryd.prog w = .ok (.int .u64 x1) w := by
  kernel_rfl
theorem wp_act_named {P : Program} {c : Code} {Q : Exit → Act → World → Prop} {T : Array Value} {w : World} (h : ∀ T0, T0 = T → c.wp P Q { tmps := T0, defers := [] } w) : c.wp P Q { tmps := T, defers := [] } w := h T rfl
structure LinkInv (hc : Array Value) (lc : Array Value) (W : World) (g : Nat) (w : World) : Prop where
  below : Below W.heap.size W w
  hier : Cells w W.heap.size hc 25
  res : Cells w (W.heap.size + 1) #[.int .i64 0, .slice none 0 0] 37
  link : Cells w g lc 52
theorem LinkInv.step {hc lc : Array Value} {W w w' : World} {g : Nat} (h : LinkInv hc lc W g w) (hb : Below w.heap.size w w') : LinkInv hc lc W g w' :=
  ⟨h.below.trans (hb.mono h.below.size), h.hier.below hb, h.res.below hb, h.link.below hb⟩
/-- an error at the link i that lies in the block s -/
structure ErrAt (c : Int) (i : Nat) (W : World) (s gs cap : Nat) (w : World) : Prop where
  blk : Cells w s #[.int .i64 c, .slice (some ⟨gs, 0, none⟩) 1 cap] 37
  pl : Cells w gs #[.int .i64 4, .int .i64 (i : Nat)] 73
  ge : W.heap.size + 2 ≤ gs
theorem ErrAt.step {c : Int} {i : Nat} {W w w' : World} {s gs cap : Nat} (h : ErrAt c i W s gs cap w) (hb : Below w.heap.size w w') : ErrAt c i W s gs cap w' := ⟨h.blk.below hb, h.pl.below hb, h.ge⟩
def two (w : World) (q : Nat) (u v : Value) : World := (w.setCell ⟨q, 0, none⟩ u).setCell ⟨q, 1, none⟩ v
theorem LinkInv.bad {hc lc : Array Value} {W w : World} {g : Nat} (h : LinkInv hc lc W g w) {c : Int} {i s gs cap : Nat} (he : ErrAt c i W s gs cap w) :
    ErrDoc (some (c, some (4, (i : Int)))) W (.returned (.agg #[.int .i64 c, .slice (some ⟨gs, 0, none⟩) 1 cap])) (two w (W.heap.size + 1) (.int .i64 c) (.slice (some ⟨gs, 0, none⟩) 1 cap)) :=
  ⟨(h.below.setCell (show W.heap.size ≤ W.heap.size + 1 by omega) _).setCell (show W.heap.size ≤ W.heap.size + 1 by omega) _, gs, cap, rfl, (he.pl.far (k := W.heap.size + 1) 0 _ (by have := he.ge; omega)).far (k := W.heap.size + 1) 1 _ (by have := he.ge; omega), by have := he.ge; omega⟩
theorem LinkInv.good {hc lc : Array Value} {W w : World} {g : Nat} (h : LinkInv hc lc W g w) : ErrDoc none W (.returned (.agg #[.int .i64 0, .slice none 0 0])) (two w (W.heap.size + 1) (.int .i64 0) (.slice none 0 0)) :=
  ⟨(h.below.setCell (show W.heap.size ≤ W.heap.size + 1 by omega) _).setCell (show W.heap.size ≤ W.heap.size + 1 by omega) _, rfl⟩
set_option maxRecDepth 100000 in
set_option maxHeartbeats 8000000 in
theorem link_any (k : HV) (h : HierT) (B : Option Addr) (m cb i : Nat) (W : World) (hp : RdH W k h) (hs : Small k h) (hin : InH h) (hu : Fst h.node.length h.uf h.up.length) (hd : Fst h.node.length h.df h.dn.length) (hm : h.up.length + h.dn.length = m) (hm1 : m ≤ 1048576) (hn0 : h.node.length ≤ 65536) (hr : Stp.RdI W B m (ranksT h)) (hi : i < m) :
    Calls Tryd.prog 40 #[hierV k h, .slice B m cb, .int .i64 i] W (ErrDoc ((linkB h i).map fun c => (c, some (4, (i : Int)))) W) := by
  have HLK : Hid (∀ w (j : Nat), j < m → Below W.heap.size W w → Calls Tryd.prog 58 #[.agg #[.slice k.a0 h.node.length k.c0, .slice k.a1 h.uf.length k.c1, .slice k.a2 h.up.length k.c2, .slice k.a3 h.df.length k.c3, .slice k.a4 h.dn.length k.c4], .int .i64 (j : Nat)] w fun e w' => e = .returned (linkV (lkOf h j)) ∧ Below w.heap.size w w') := Lib.hid fun w j hj hb => Link_any k h j w (hp.below hb) hs (by omega) (by omega)
  obtain ⟨ad, rfl, -⟩ : ∃ ad, B = some ad ∧ True := by
    obtain ⟨ad, hA, -⟩ := hr.2 (by omega)
    exact ⟨ad, hA, trivial⟩
  have HEO : Hid (∀ w (j : Nat), j < m → Below W.heap.size W w → Calls Tryd.prog 60 #[.agg #[.slice k.a0 h.node.length k.c0, .slice k.a1 h.uf.length k.c1, .slice k.a2 h.up.length k.c2, .slice k.a3 h.df.length k.c3, .slice k.a4 h.dn.length k.c4], .slice (some ad) m cb, .int .i64 (j : Nat)] w fun e w' => e = .returned (.agg #[.int .i64 (tailOf h j), .int .i64 (headOf h j), .int .i64 (rkOf h j)]) ∧ Below w.heap.size w w') := Lib.hid fun w j hj hb => by
    have ei := endsT_in hu hd hn0 hin (i := j) (by omega)
    have ea := endsT_at hu hd (i := j) (by omega)
    have h0 := EndOf_any k h (some ad) m cb j (ranksT h) w (hp.below hb) hs (by omega) (by omega) (hr.below hb) hj (by have := ei.k.to; rwa [ea.lk] at this)
    have e : endT h (ranksT h) j = (tailOf h j, headOf h j, rkOf h j) := by
      unfold endT tailOf headOf rkOf
      split <;> rfl
    rw [e] at h0
    exact h0
  have HRK : Hid (∀ w (j : Nat), j < m → Below W.heap.size W w → w.cell? (ad.add j) = some (.int .i64 (rkOf h j))) := Lib.hid fun w j hj hb => by
    have hrb := hr.below hb
    obtain ⟨ad', hA, hc⟩ := hrb.2 (by omega)
    obtain rfl := Option.some.inj hA
    have hl := hrb.1
    have h1 : (ranksT h)[j]? = some (rkOf h j) := by unfold rkOf; rw [List.getD_eq_getElem?_getD, List.getElem?_eq_getElem (by omega)]; rfl
    have := hc j _ 0 _ h1 rfl
    rwa [Nat.mul_one, Nat.add_zero] at this
  have HEI : Hid (∀ j, j < m → InE h.node.length ((endsT h).getD j dE) ∧ EndIs h j ((endsT h).getD j dE)) := Lib.hid fun j hj => ⟨endsT_in hu hd hn0 hin (by omega), endsT_at hu hd (by omega)⟩
  have hu2 : h.up.length ≤ m := by omega
  have HM := Lib.hid hm
  have s2 := hs.s2
  have s4 := hs.s4
  have hmi : (h.up.length : Int) + (h.dn.length : Int) = (m : Int) := by omega
  have HMI := Lib.hid hmi
  clear hp hs hin hu hd hm hr hmi
  unfold hierV
  go_enter Tryd.func40, Tryd.ntmps40
  refine wp_post_named ?_
  intro Q0 hQ0
  have HQ0 := Lib.hid hQ0
  clear hQ0
  go_upto_region 1 with fail
  have hb1 := two_al W (.cells #[.slice k.a0 h.node.length k.c0, .slice k.a1 h.uf.length k.c1, .slice k.a2 h.up.length k.c2, .slice k.a3 h.df.length k.c3, .slice k.a4 h.dn.length k.c4] 25) (.cells #[.int .i64 0, .slice none 0 0] 37)
  have hc1 := (cells_new W #[.slice k.a0 h.node.length k.c0, .slice k.a1 h.uf.length k.c1, .slice k.a2 h.up.length k.c2, .slice k.a3 h.df.length k.c3, .slice k.a4 h.dn.length k.c4] 25).below ((Below.refl _ _).alloc (Nat.le_refl _) (.cells #[.int .i64 0, .slice none 0 0] 37))
  have hr1 := cells_new (W.alloc (.cells #[.slice k.a0 h.node.length k.c0, .slice k.a1 h.uf.length k.c1, .slice k.a2 h.up.length k.c2, .slice k.a3 h.df.length k.c3, .slice k.a4 h.dn.length k.c4] 25)) #[.int .i64 0, .slice none 0 0] 37
  rw [size_alloc] at hr1
  have hz1 : ((W.alloc (.cells #[.slice k.a0 h.node.length k.c0, .slice k.a1 h.uf.length k.c1, .slice k.a2 h.up.length k.c2, .slice k.a3 h.df.length k.c3, .slice k.a4 h.dn.length k.c4] 25)).alloc (.cells #[.int .i64 0, .slice none 0 0] 37)).heap.size = W.heap.size + 2 := by simp
  generalize (W.alloc (.cells #[.slice k.a0 h.node.length k.c0, .slice k.a1 h.uf.length k.c1, .slice k.a2 h.up.length k.c2, .slice k.a3 h.df.length k.c3, .slice k.a4 h.dn.length k.c4] 25)).alloc (.cells #[.int .i64 0, .slice none 0 0] 37) = W1 at *
  have HB1 := Lib.hid hb1
  have HC1 := Lib.hid hc1
  have HR1 := Lib.hid hr1
  have HZ1 := Lib.hid hz1
  have d0 : W1.cell? ⟨W.heap.size, 0, none⟩ = some (.slice k.a0 h.node.length k.c0) := hc1.cell 0
  have d1 : W1.cell? ⟨W.heap.size, 1, none⟩ = some (.slice k.a1 h.uf.length k.c1) := hc1.cell 1
  have d2 : W1.cell? ⟨W.heap.size, 2, none⟩ = some (.slice k.a2 h.up.length k.c2) := hc1.cell 2
  have d3 : W1.cell? ⟨W.heap.size, 3, none⟩ = some (.slice k.a3 h.df.length k.c3) := hc1.cell 3
  have d4 : W1.cell? ⟨W.heap.size, 4, none⟩ = some (.slice k.a4 h.dn.length k.c4) := hc1.cell 4
  have HL0 : Hid (∀ w, Below W1.heap.size W1 w → Calls Tryd.prog 58 #[.agg #[.slice k.a0 h.node.length k.c0, .slice k.a1 h.uf.length k.c1, .slice k.a2 h.up.length k.c2, .slice k.a3 h.df.length k.c3, .slice k.a4 h.dn.length k.c4], .int .i64 (i : Nat)] w fun e w' => e = .returned (linkV (lkOf h i)) ∧ Below w.heap.size w w' ∧ Below W1.heap.size W1 w') := Lib.hid fun w hb => (HLK.out w i hi (HB1.out.trans (hb.mono HB1.out.size))).mono fun e w' he => ⟨he.1, he.2, hb.trans (he.2.mono hb.size)⟩
  clear hb1 hc1 hr1 hz1
  go_cut [7, 8, 9] from 17 to 29 (fun a b c wx => ∃ g, a = .pointer (some ⟨g, 0, none⟩) ∧ b = .int .i64 h.node.length ∧ c = .int .i64 m ∧ Cells wx g #[.int .u32 ((lkOf h i).to : Nat), .int .u64 (lkOf h i).w, .int .u32 ((lkOf h i).l : Nat), .int .u32 ((lkOf h i).r : Nat)] 52 ∧ Below W1.heap.size W1 wx)
  case first =>
    have HX : Hid (Below W1.heap.size W1 W1) := Lib.hid (Below.refl _ _)
    have hne : ¬ W.heap.size = W1.heap.size := by have := HZ1.out; omega
    have hne2 : ¬ W1.heap.size = W.heap.size := by have := HZ1.out; omega
    have D0 := Lib.hid d0
    have D1 := Lib.hid d1
    have D2 := Lib.hid d2
    have D3 := Lib.hid d3
    have D4 := Lib.hid d4
    unfold linkV at HL0
    have hmi2 : (h.up.length : Int) + (h.dn.length : Int) = (m : Int) := HMI.out
    have hwm : IntKind.i64.wrap (m : Int) = (m : Int) := by rw [IntKind.wrap_i64]; omega
    generalize hL : lkOf h i = L at *
    clear hL
    obtain ⟨x0, x1, x2, x3⟩ := L
    dsimp only at *
    go_region_held3 (fun w' => w'.cell? ⟨W.heap.size, 0, none⟩ = some (.slice k.a0 h.node.length k.c0) ∧ w'.cell? ⟨W.heap.size, 1, none⟩ = some (.slice k.a1 h.uf.length k.c1) ∧ w'.cell? ⟨W.heap.size, 2, none⟩ = some (.slice k.a2 h.up.length k.c2) ∧ w'.cell? ⟨W.heap.size, 3, none⟩ = some (.slice k.a3 h.df.length k.c3) ∧ w'.cell? ⟨W.heap.size, 4, none⟩ = some (.slice k.a4 h.dn.length k.c4)) (first | with_reducible exact ⟨d0, d1, d2, d3, d4⟩ | go_keep) (first
      | (go_at_call 58; refine (HL0.out _ ?_).mono ?_; (first | exact HX.out | exact HX.out.drew | exact HX.out.alloc HX.out.size _ | exact (HX.out.alloc HX.out.size _).drew); rintro e v0 ⟨rfl, hb5, hx5⟩; (try (have hn : Cells v0 W1.heap.size #[.int .u32 0, .int .u64 0, .int .u32 0, .int .u32 0] 52 := Cells.below (w := (W1.alloc (.cells #[.int .u32 0, .int .u64 0, .int .u32 0, .int .u32 0] 52)).drew) (cells_new W1 #[.int .u32 0, .int .u64 0, .int .u32 0, .int .u32 0] 52) hb5; have n0 : v0.cell? ⟨W1.heap.size, 0, none⟩ = some (.int .u32 0) := hn.cell 0; have n1 : v0.cell? ⟨W1.heap.size, 1, none⟩ = some (.int .u64 0) := hn.cell 1; have n2 : v0.cell? ⟨W1.heap.size, 2, none⟩ = some (.int .u32 0) := hn.cell 2; have n3 : v0.cell? ⟨W1.heap.size, 3, none⟩ = some (.int .u32 0) := hn.cell 3; have m0 := hn.frozen 0; have m1 := hn.frozen 1; have m2 := hn.frozen 2; have m3 := hn.frozen 3; have HNW := Lib.hid hn; clear hn)); have d0 := cell_below hx5 D0.out; have d1 := cell_below hx5 D1.out; have d2 := cell_below hx5 D2.out; have d3 := cell_below hx5 D3.out; have d4 := cell_below hx5 D4.out; have HX := Lib.hid hx5; clear hx5 hb5))
    all_goals
      rename_i hHeld
      clear hHeld
      go_wp2_with fail
      go_meet
      refine ⟨_, rfl, rfl, rfl, ?_⟩
      first
        | (with_reducible refine ⟨cells_new _ _ _, ?_⟩; exact HX.out.alloc HX.out.size _)
        | (refine ⟨?_, (((HX.out.setCell (p := ⟨W1.heap.size, 0, none⟩) (Nat.le_refl _) _).setCell (p := ⟨W1.heap.size, 1, none⟩) (Nat.le_refl _) _).setCell (p := ⟨W1.heap.size, 2, none⟩) (Nat.le_refl _) _).setCell (p := ⟨W1.heap.size, 3, none⟩) (Nat.le_refl _) _⟩; have hf := (((HNW.out.set_ 0 (.int .u32 (x0 : Nat))).set_ 1 (.int .u64 x1)).set_ 2 (.int .u32 (x2 : Nat))).set_ 3 (.int .u32 (x3 : Nat)); simpa only [List.setIfInBounds_toArray, List.set_cons_zero, List.set_cons_succ] using hf)
  case rest =>
    obtain ⟨gl, rfl, rfl, rfl, hl, hb⟩ := hcut
    have HI : Hid (LinkInv #[.slice k.a0 h.node.length k.c0, .slice k.a1 h.uf.length k.c1, .slice k.a2 h.up.length k.c2, .slice k.a3 h.df.length k.c3, .slice k.a4 h.dn.length k.c4] #[.int .u32 ((lkOf h i).to : Nat), .int .u64 (lkOf h i).w, .int .u32 ((lkOf h i).l : Nat), .int .u32 ((lkOf h i).r : Nat)] W gl wc) := Lib.hid ⟨HB1.out.trans (hb.mono HB1.out.size), HC1.out.below hb, HR1.out.below hb, hl⟩
    have hz : W.heap.size + 2 ≤ wc.heap.size := by have := hb.size; have := HZ1.out; omega
    have HZ := Lib.hid hz
    clear hl hb hz d0 d1 d2 d3 d4 HL0 HB1 HC1 HR1 HZ1
    have hEI := HEI.out i hi
    have hx0 := hEI.1.k.to
    have hx2 := hEI.1.k.l_
    have hx3 := hEI.1.k.r
    have hxw := hEI.1.k.w
    have hxr := hEI.1.r
    rw [hEI.2.lk] at hx0 hx2 hx3 hxw
    have hrk := hEI.2.rank
    have hK := hEI.1.k
    rw [hEI.2.lk] at hK
    have HKK := Lib.hid hK
    obtain ⟨rn, hrn⟩ : ∃ rn : Nat, rkOf h i = (rn : Int) := ⟨_, hrk.symm⟩
    have hrn0 : rn < h.node.length := by omega
    clear hEI hrk hK hxr
    have hlb : linkB h i = if shapeB h i then (if weightB h i then none else some 8) else some 14 := rfl
    have hsb : shapeB h i = shapeB h i := rfl
    conv at hsb => rhs; unfold shapeB
    have hwb : weightB h i = weightB h i := rfl
    conv at hwb => rhs; unfold weightB
    rw [hrn] at hsb
    have HLB := Lib.hid hlb
    have HSB := Lib.hid hsb
    have HWB := Lib.hid hwb
    have HRN := Lib.hid hrn
    clear hlb hsb hwb hrn
    generalize hL : lkOf h i = L at *
    have HLL := Lib.hid hL
    clear hL
    obtain ⟨x0, x1, x2, x3⟩ := L
    unfold In32 at hx0 hx2 hx3
    dsimp only at *
    generalize hW2 : wc = W2 at *
    clear hW2
    go_wp2_with fail
    refine (E_any 14 W2).mono ?_
    rintro e W3 ⟨rfl, hb3⟩
    have HI3 := Lib.hid (HI.out.step hb3)
    have HZ3 : Hid (W.heap.size + 2 ≤ W3.heap.size) := Lib.hid (Nat.le_trans HZ.out hb3.size)
    clear hb3
    go_wp2_with fail
    refine (At1_any 4 (i : Int) 14 W3).mono ?_
    rintro e W4 ⟨gs, cs, rfl, hg4, hge4, hb4⟩
    have HI4 := Lib.hid (HI3.out.step hb4)
    have HZ4 : Hid (W.heap.size + 2 ≤ W4.heap.size) := Lib.hid (Nat.le_trans HZ3.out hb4.size)
    have HG4 := Lib.hid hg4
    have HGE : Hid (W.heap.size + 2 ≤ gs) := Lib.hid (Nat.le_trans HZ3.out hge4)
    clear hb4 hg4 hge4
    go_upto_region 3 with fail
    have hg5 : ErrAt 14 i W W4.heap.size gs cs (W4.alloc (.cells #[.int .i64 14, .slice (some ⟨gs, 0, none⟩) 1 cs] 37)) := ⟨cells_new _ _ _, HG4.out.below ((Below.refl _ _).alloc (Nat.le_refl _) _), HGE.out⟩
    have hi5 := HI4.out.step ((Below.refl W4.heap.size W4).alloc (Nat.le_refl _) (.cells #[.int .i64 14, .slice (some ⟨gs, 0, none⟩) 1 cs] 37))
    have hz5 : W.heap.size + 2 ≤ (W4.alloc (.cells #[.int .i64 14, .slice (some ⟨gs, 0, none⟩) 1 cs] 37)).heap.size := by have := HZ4.out; simp; omega
    have hs5 : W.heap.size + 2 ≤ W4.heap.size := HZ4.out
    generalize hS : W4.heap.size = S at *
    generalize W4.alloc (.cells #[.int .i64 14, .slice (some ⟨gs, 0, none⟩) 1 cs] 37) = W5 at *
    have HG5 := Lib.hid hg5
    have HI5 := Lib.hid hi5
    have HZ5 := Lib.hid hz5
    clear hg5 hi5 hz5 hS HG4 HI4 HZ4 HI HI3 HZ HZ3
    have e0 : W5.cell? ⟨gl, 0, none⟩ = some (.int .u32 (x0 : Nat)) := HI5.out.link.cell 0
    have cr := HRK.out W5 i hi HI5.out.below
    rw [HRN.out] at cr
    have w1 : IntKind.u64.wrap (x0 : Int) = x0 := by rw [IntKind.wrap_u64]; omega
    have w2 : IntKind.u64.wrap (h.node.length : Int) = h.node.length := by rw [IntKind.wrap_u64]; omega
    have w3 : IntKind.i64.wrap (x0 : Int) = x0 := by rw [IntKind.wrap_i64]; omega
    have i1 : (0 : Int) ≤ (i : Int) := by omega
    have i2 : (i : Int) < (m : Int) := by omega
    go_cut [48] from 33 to 47 (fun s wx => s = .bool (decide (h.node.length ≤ x0 ∨ x0 ≤ rn)) ∧ Drawn W5 wx)
    case first =>
      by_cases q1 : h.node.length ≤ x0
      · have p1 : decide ((h.node.length : Int) ≤ (x0 : Int)) = true := decide_eq_true (by omega)
        have p2 : decide (h.node.length ≤ x0) = true := decide_eq_true q1
        have HR : Hid (decide (h.node.length ≤ x0 ∨ x0 ≤ rn) = true) := Lib.hid (decide_eq_true (.inl q1))
        generalize decide (h.node.length ≤ x0 ∨ x0 ≤ rn) = bad at *
        clear q1
        go_quiet (fail)
        go_wp2_with fail
        go_meet
        exact ⟨by rw [HR.out], (Drawn.refl _).step _⟩
      · have p1 : decide ((h.node.length : Int) ≤ (x0 : Int)) = false := decide_eq_false (by omega)
        have p2 : decide (h.node.length ≤ x0) = false := decide_eq_false q1
        by_cases q2 : x0 ≤ rn
        · have p3 : decide ((x0 : Int) ≤ (rn : Int)) = true := decide_eq_true (by omega)
          have p4 : decide (x0 ≤ rn) = true := decide_eq_true q2
          have HR : Hid (decide (h.node.length ≤ x0 ∨ x0 ≤ rn) = true) := Lib.hid (decide_eq_true (.inr q2))
          generalize decide (h.node.length ≤ x0 ∨ x0 ≤ rn) = bad at *
          clear q1 q2
          go_quiet (fail)
          go_wp2_with fail
          go_meet
          exact ⟨by rw [HR.out], (Drawn.refl _).step _⟩
        · have p3 : decide ((x0 : Int) ≤ (rn : Int)) = false := decide_eq_false (by omega)
          have p4 : decide (x0 ≤ rn) = false := decide_eq_false q2
          have HR : Hid (decide (h.node.length ≤ x0 ∨ x0 ≤ rn) = false) := Lib.hid (decide_eq_false (by omega))
          generalize decide (h.node.length ≤ x0 ∨ x0 ≤ rn) = bad at *
          clear q1 q2
          go_quiet (fail)
          go_wp2_with fail
          go_meet
          exact ⟨by rw [HR.out], (Drawn.refl _).step _⟩
    case rest =>
      obtain ⟨rfl, hdr⟩ := hcut
      have hb6 := hdr.below W5.heap.size
      have HI6 := Lib.hid (HI5.out.step hb6)
      have HG6 := Lib.hid (HG5.out.step hb6)
      have HZ6 : Hid (W.heap.size + 2 ≤ wc.heap.size) := Lib.hid (Nat.le_trans HZ5.out hb6.size)
      clear hdr hb6 e0 cr w1 w2 w3 HI5 HG5 HZ5
      generalize hW6 : wc = W6 at *
      clear hW6
      by_cases hbad : h.node.length ≤ x0 ∨ x0 ≤ rn
      · have hd : decide (h.node.length ≤ x0 ∨ x0 ≤ rn) = true := decide_eq_true hbad
        rw [hd]
        have hsf : shapeB h i = false := by rw [HSB.out, decide_eq_false (by omega)]; rfl
        clear hd hbad
        have b0 : W6.cell? ⟨W.heap.size + 1, 0, none⟩ = some (.int .i64 0) := HI6.out.res.cell 0
        have b1 : W6.cell? ⟨W.heap.size + 1, 1, none⟩ = some (.slice none 0 0) := HI6.out.res.cell 1
        have f0 := HI6.out.res.frozen 0
        have f1 := HI6.out.res.frozen 1
        have q0 : W6.cell? ⟨S, 0, none⟩ = some (.int .i64 14) := HG6.out.blk.cell 0
        have q1 : W6.cell? ⟨S, 1, none⟩ = some (.slice (some ⟨gs, 0, none⟩) 1 cs) := HG6.out.blk.cell 1
        have hfin := (HI6.out.res.set_ 0 (.int .i64 14)).set_ 1 (.slice (some ⟨gs, 0, none⟩) 1 cs)
        have hend := HI6.out.bad HG6.out
        have HFN : Hid ((linkB h i).map (fun c => (c, some ((4 : Int), (i : Int)))) = some (14, some (4, (i : Int)))) := Lib.hid (by rw [HLB.out, hsf]; rfl)
        rw [← HFN.out] at hend
        have HEND := Lib.hid hend
        clear hend
        have r0 : ((W6.setCell ⟨W.heap.size + 1, 0, none⟩ (.int .i64 14)).setCell ⟨W.heap.size + 1, 1, none⟩ (.slice (some ⟨gs, 0, none⟩) 1 cs)).cell? ⟨W.heap.size + 1, 0, none⟩ = some (.int .i64 14) := hfin.cell 0
        have r1 : ((W6.setCell ⟨W.heap.size + 1, 0, none⟩ (.int .i64 14)).setCell ⟨W.heap.size + 1, 1, none⟩ (.slice (some ⟨gs, 0, none⟩) 1 cs)).cell? ⟨W.heap.size + 1, 1, none⟩ = some (.slice (some ⟨gs, 0, none⟩) 1 cs) := hfin.cell 1
        clear hfin
        go_wp2_with fail
        rw [HQ0.out]
        refine bodyPost_ret (v := .agg #[.int .i64 14, .slice (some ⟨gs, 0, none⟩) 1 cs]) ?hres rfl HEND.out
        case hres => simp [results, Tryd.results40, go_sem, r0, r1]
      · have hd : decide (h.node.length ≤ x0 ∨ x0 ≤ rn) = false := decide_eq_false hbad
        rw [hd]
        have hsb6 := HSB.out
        rw [decide_eq_true (show ((x0 : Int) < (h.node.length : Int) ∧ (rn : Int) < (x0 : Int)) by omega), Bool.true_and] at hsb6
        have HSB6 := Lib.hid hsb6
        clear hd hbad hsb6 HSB
        go_upto_region 5 with fail
        have d0 : W6.cell? ⟨W.heap.size, 0, none⟩ = some (.slice k.a0 h.node.length k.c0) := HI6.out.hier.cell 0
        have d1 : W6.cell? ⟨W.heap.size, 1, none⟩ = some (.slice k.a1 h.uf.length k.c1) := HI6.out.hier.cell 1
        have d2 : W6.cell? ⟨W.heap.size, 2, none⟩ = some (.slice k.a2 h.up.length k.c2) := HI6.out.hier.cell 2
        have d3 : W6.cell? ⟨W.heap.size, 3, none⟩ = some (.slice k.a3 h.df.length k.c3) := HI6.out.hier.cell 3
        have d4 : W6.cell? ⟨W.heap.size, 4, none⟩ = some (.slice k.a4 h.dn.length k.c4) := HI6.out.hier.cell 4
        have l0 : W6.cell? ⟨gl, 0, none⟩ = some (.int .u32 (x0 : Nat)) := HI6.out.link.cell 0
        go_cut [80] from 50 to 79 (fun s wx => s = .bool (decide (i ≠ 0 ∧ i ≠ h.up.length ∧ rkOf h (i - 1) = (rn : Int) ∧ x0 ≤ (lkOf h (i - 1)).to)) ∧ Below W6.heap.size W6 wx)
        case first =>
          by_cases hz : i = 0
          · subst hz
            have HR : Hid (decide (0 ≠ 0 ∧ 0 ≠ h.up.length ∧ rkOf h (0 - 1) = (rn : Int) ∧ x0 ≤ (lkOf h (0 - 1)).to) = false) := Lib.hid (decide_eq_false (fun h => h.1 rfl))
            generalize decide (0 ≠ 0 ∧ 0 ≠ h.up.length ∧ rkOf h (0 - 1) = (rn : Int) ∧ x0 ≤ (lkOf h (0 - 1)).to) = bad at *
            have e9 : ((0 : Nat) : Int) = 0 := rfl
            rw [e9]
            go_quiet (fail)
            go_wp2_with fail
            go_meet
            exact ⟨by rw [HR.out], ((Drawn.refl W6).step nq).below _⟩
          · have p1 : ((i : Int) == 0) = false := by rw [beq_eq_false_iff_ne]; omega
            have p2 : ((i : Int) != 0) = true := by rw [bne, p1]; rfl
            by_cases hz2 : i = h.up.length
            · have HR : Hid (decide (i ≠ 0 ∧ i ≠ h.up.length ∧ rkOf h (i - 1) = (rn : Int) ∧ x0 ≤ (lkOf h (i - 1)).to) = false) := Lib.hid (decide_eq_false (fun h => h.2.1 hz2))
              generalize decide (i ≠ 0 ∧ i ≠ h.up.length ∧ rkOf h (i - 1) = (rn : Int) ∧ x0 ≤ (lkOf h (i - 1)).to) = bad at *
              have p3 : ((i : Int) == (h.up.length : Int)) = true := beq_iff_eq.2 (by omega)
              have p4 : ((i : Int) != (h.up.length : Int)) = false := by rw [bne, p3]; rfl
              clear hz hz2
              go_quiet (fail)
              go_wp2_with fail
              go_meet
              exact ⟨by rw [HR.out], ((Drawn.refl W6).step nq).below _⟩
            · have p3 : ((i : Int) == (h.up.length : Int)) = false := by rw [beq_eq_false_iff_ne]; omega
              have p4 : ((i : Int) != (h.up.length : Int)) = true := by rw [bne, p3]; rfl
              have u1 : IntKind.i64.wrap ((i : Int) - 1) = (i : Int) - 1 := by rw [IntKind.wrap_i64]; omega
              have u2 : ((i : Int) - 1).toNat = i - 1 := by omega
              have u3 : (0 : Int) ≤ (i : Int) - 1 := by omega
              have u4 : (i : Int) - 1 < (m : Int) := by omega
              have u5 : (1 : Int) ≤ (i : Int) := by omega
              have u6 : (((i - 1 : Nat)) : Int) = (i : Int) - 1 := by omega
              have r0 := HRK.out W6 (i - 1) (by omega) HI6.out.below
              have r1 := HRK.out W6 i hi HI6.out.below
              rw [HRN.out] at r1
              have HL5 : Hid (∀ w, Below W6.heap.size W6 w → Calls Tryd.prog 58 #[.agg #[.slice k.a0 h.node.length k.c0, .slice k.a1 h.uf.length k.c1, .slice k.a2 h.up.length k.c2, .slice k.a3 h.df.length k.c3, .slice k.a4 h.dn.length k.c4], .int .i64 ((i : Int) - 1)] w fun e w' => e = .returned (linkV (lkOf h (i - 1))) ∧ Below W6.heap.size W6 w') := Lib.hid fun w hb => by
                have h0 := HLK.out w (i - 1) (by omega) (HI6.out.below.trans (hb.mono HI6.out.below.size))
                rw [u6] at h0
                exact h0.mono fun e w' he => ⟨he.1, hb.trans (he.2.mono hb.size)⟩
              unfold linkV at HL5
              generalize rkOf h (i - 1) = yr at *
              by_cases hq : yr = (rn : Int)
              · have p5 : (yr == (rn : Int)) = true := beq_iff_eq.2 hq
                generalize hLY : lkOf h (i - 1) = Y at *
                clear hLY
                obtain ⟨yt, y1, y2, y3⟩ := Y
                dsimp only at *
                have hft := fun w => field_to (yt : Int) (y2 : Int) (y3 : Int) y1 w
                have HX : Hid (Below W6.heap.size W6 W6) := Lib.hid (Below.refl _ _)
                have L0 := Lib.hid l0
                have R0 := Lib.hid r0
                have R1 := Lib.hid r1
                have D0 := Lib.hid d0
                have D1 := Lib.hid d1
                have D2 := Lib.hid d2
                have D3 := Lib.hid d3
                have D4 := Lib.hid d4
                clear u6
                by_cases hq2 : x0 ≤ yt
                · have q5 : decide ((x0 : Int) ≤ (yt : Int)) = true := decide_eq_true (by omega)
                  have q5n : decide (x0 ≤ yt) = true := decide_eq_true (by omega)
                  have HR : Hid (decide (i ≠ 0 ∧ i ≠ h.up.length ∧ yr = (rn : Int) ∧ x0 ≤ yt) = true) := Lib.hid (decide_eq_true ⟨hz, hz2, hq, hq2⟩)
                  generalize decide (i ≠ 0 ∧ i ≠ h.up.length ∧ yr = (rn : Int) ∧ x0 ≤ yt) = bad at *
                  clear hz hz2 hq
                  go_region_held3 (fun w' => w'.cell? ⟨gl, 0, none⟩ = some (.int .u32 (x0 : Nat)) ∧ w'.cell? (ad.add (i - 1)) = some (.int .i64 yr) ∧ w'.cell? (ad.add i) = some (.int .i64 rn) ∧ w'.cell? ⟨W.heap.size, 0, none⟩ = some (.slice k.a0 h.node.length k.c0) ∧ w'.cell? ⟨W.heap.size, 1, none⟩ = some (.slice k.a1 h.uf.length k.c1) ∧ w'.cell? ⟨W.heap.size, 2, none⟩ = some (.slice k.a2 h.up.length k.c2) ∧ w'.cell? ⟨W.heap.size, 3, none⟩ = some (.slice k.a3 h.df.length k.c3) ∧ w'.cell? ⟨W.heap.size, 4, none⟩ = some (.slice k.a4 h.dn.length k.c4)) (first | with_reducible exact ⟨l0, r0, r1, d0, d1, d2, d3, d4⟩ | go_keep) (first
                    | (go_at_call 58; refine (HL5.out _ ?_).mono ?_; (first | exact HX.out | exact HX.out.drew); rintro e v0 ⟨rfl, hx5⟩; have l0 := cell_below hx5 L0.out; have r0 := cell_below hx5 R0.out; have r1 := cell_below hx5 R1.out; have d0 := cell_below hx5 D0.out; have d1 := cell_below hx5 D1.out; have d2 := cell_below hx5 D2.out; have d3 := cell_below hx5 D3.out; have d4 := cell_below hx5 D4.out; have HX := Lib.hid hx5; clear hx5))
                  all_goals
                    rename_i hHeld
                    clear hHeld
                    go_wp2_with fail
                    go_meet
                    exact ⟨by rw [HR.out], HX.out⟩
                · have q5 : decide ((x0 : Int) ≤ (yt : Int)) = false := decide_eq_false (by omega)
                  have q5n : decide (x0 ≤ yt) = false := decide_eq_false (by omega)
                  have HR : Hid (decide (i ≠ 0 ∧ i ≠ h.up.length ∧ yr = (rn : Int) ∧ x0 ≤ yt) = false) := Lib.hid (decide_eq_false (fun h => hq2 h.2.2.2))
                  generalize decide (i ≠ 0 ∧ i ≠ h.up.length ∧ yr = (rn : Int) ∧ x0 ≤ yt) = bad at *
                  clear hz hz2 hq
                  go_region_held3 (fun w' => w'.cell? ⟨gl, 0, none⟩ = some (.int .u32 (x0 : Nat)) ∧ w'.cell? (ad.add (i - 1)) = some (.int .i64 yr) ∧ w'.cell? (ad.add i) = some (.int .i64 rn) ∧ w'.cell? ⟨W.heap.size, 0, none⟩ = some (.slice k.a0 h.node.length k.c0) ∧ w'.cell? ⟨W.heap.size, 1, none⟩ = some (.slice k.a1 h.uf.length k.c1) ∧ w'.cell? ⟨W.heap.size, 2, none⟩ = some (.slice k.a2 h.up.length k.c2) ∧ w'.cell? ⟨W.heap.size, 3, none⟩ = some (.slice k.a3 h.df.length k.c3) ∧ w'.cell? ⟨W.heap.size, 4, none⟩ = some (.slice k.a4 h.dn.length k.c4)) (first | with_reducible exact ⟨l0, r0, r1, d0, d1, d2, d3, d4⟩ | go_keep) (first
                    | (go_at_call 58; refine (HL5.out _ ?_).mono ?_; (first | exact HX.out | exact HX.out.drew); rintro e v0 ⟨rfl, hx5⟩; have l0 := cell_below hx5 L0.out; have r0 := cell_below hx5 R0.out; have r1 := cell_below hx5 R1.out; have d0 := cell_below hx5 D0.out; have d1 := cell_below hx5 D1.out; have d2 := cell_below hx5 D2.out; have d3 := cell_below hx5 D3.out; have d4 := cell_below hx5 D4.out; have HX := Lib.hid hx5; clear hx5))
                  all_goals
                    rename_i hHeld
                    clear hHeld
                    go_wp2_with fail
                    go_meet
                    exact ⟨by rw [HR.out], HX.out⟩
              · have p5 : (yr == (rn : Int)) = false := beq_eq_false_iff_ne.2 hq
                have HR : Hid (decide (i ≠ 0 ∧ i ≠ h.up.length ∧ yr = (rn : Int) ∧ x0 ≤ (lkOf h (i - 1)).to) = false) := Lib.hid (decide_eq_false (fun h => hq h.2.2.1))
                generalize decide (i ≠ 0 ∧ i ≠ h.up.length ∧ yr = (rn : Int) ∧ x0 ≤ (lkOf h (i - 1)).to) = bad at *
                clear hz hz2 hq u6
                go_quiet (fail)
                go_wp2_with fail
                go_meet
                exact ⟨by rw [HR.out], ((Drawn.refl W6).step nq).below _⟩
        case rest =>
          obtain ⟨rfl, hb7⟩ := hcut
          have HI7 := Lib.hid (HI6.out.step hb7)
          have HG7 := Lib.hid (HG6.out.step hb7)
          have HZ7 : Hid (W.heap.size + 2 ≤ wc.heap.size) := Lib.hid (Nat.le_trans HZ6.out hb7.size)
          clear hb7 l0 d0 d1 d2 d3 d4 HI6 HG6 HZ6
          generalize hW7 : wc = W7 at *
          clear hW7
          by_cases hbad : i ≠ 0 ∧ i ≠ h.up.length ∧ rkOf h (i - 1) = (rn : Int) ∧ x0 ≤ (lkOf h (i - 1)).to
          · have hd : decide (i ≠ 0 ∧ i ≠ h.up.length ∧ rkOf h (i - 1) = (rn : Int) ∧ x0 ≤ (lkOf h (i - 1)).to) = true := decide_eq_true hbad
            rw [hd]
            have hsf : shapeB h i = false := by rw [HSB6.out, decide_eq_true (show (0 < i ∧ i ≠ h.up.length ∧ rkOf h (i - 1) = (rn : Int) ∧ x0 ≤ (lkOf h (i - 1)).to) from ⟨by have := hbad.1; omega, hbad.2⟩)]; rfl
            clear hd hbad
            have b0 : W7.cell? ⟨W.heap.size + 1, 0, none⟩ = some (.int .i64 0) := HI7.out.res.cell 0
            have b1 : W7.cell? ⟨W.heap.size + 1, 1, none⟩ = some (.slice none 0 0) := HI7.out.res.cell 1
            have f0 := HI7.out.res.frozen 0
            have f1 := HI7.out.res.frozen 1
            have q0 : W7.cell? ⟨S, 0, none⟩ = some (.int .i64 14) := HG7.out.blk.cell 0
            have q1 : W7.cell? ⟨S, 1, none⟩ = some (.slice (some ⟨gs, 0, none⟩) 1 cs) := HG7.out.blk.cell 1
            have hfin := (HI7.out.res.set_ 0 (.int .i64 14)).set_ 1 (.slice (some ⟨gs, 0, none⟩) 1 cs)
            have hend := HI7.out.bad HG7.out
            have HFN : Hid ((linkB h i).map (fun c => (c, some ((4 : Int), (i : Int)))) = some (14, some (4, (i : Int)))) := Lib.hid (by rw [HLB.out, hsf]; rfl)
            rw [← HFN.out] at hend
            have HEND := Lib.hid hend
            clear hend
            have r0 : ((W7.setCell ⟨W.heap.size + 1, 0, none⟩ (.int .i64 14)).setCell ⟨W.heap.size + 1, 1, none⟩ (.slice (some ⟨gs, 0, none⟩) 1 cs)).cell? ⟨W.heap.size + 1, 0, none⟩ = some (.int .i64 14) := hfin.cell 0
            have r1 : ((W7.setCell ⟨W.heap.size + 1, 0, none⟩ (.int .i64 14)).setCell ⟨W.heap.size + 1, 1, none⟩ (.slice (some ⟨gs, 0, none⟩) 1 cs)).cell? ⟨W.heap.size + 1, 1, none⟩ = some (.slice (some ⟨gs, 0, none⟩) 1 cs) := hfin.cell 1
            clear hfin
            go_wp2_with fail
            rw [HQ0.out]
            refine bodyPost_ret (v := .agg #[.int .i64 14, .slice (some ⟨gs, 0, none⟩) 1 cs]) ?hres rfl HEND.out
            case hres => simp [results, Tryd.results40, go_sem, r0, r1]
          · have hd : decide (i ≠ 0 ∧ i ≠ h.up.length ∧ rkOf h (i - 1) = (rn : Int) ∧ x0 ≤ (lkOf h (i - 1)).to) = false := decide_eq_false hbad
            rw [hd]
            have hsb7 := HSB6.out
            rw [decide_eq_false (show ¬ (0 < i ∧ i ≠ h.up.length ∧ rkOf h (i - 1) = (rn : Int) ∧ x0 ≤ (lkOf h (i - 1)).to) from fun hh => hbad ⟨by have := hh.1; omega, hh.2⟩), Bool.not_false, Bool.true_and] at hsb7
            have HSB7 := Lib.hid hsb7
            clear hd hbad hsb7 HSB6
            go_wp2_with fail
            refine (E_any 8 W7).mono ?_
            rintro e W8 ⟨rfl, hb⟩
            have HI8 := Lib.hid (HI7.out.step hb)
            have HG8 := Lib.hid (HG7.out.step hb)
            have HZ8 : Hid (W.heap.size + 2 ≤ W8.heap.size) := Lib.hid (Nat.le_trans HZ7.out hb.size)
            clear hb HI7 HG7 HZ7
            go_wp2_with fail
            refine (At1_any 4 (i : Int) 8 W8).mono ?_
            rintro e W9 ⟨ht, ct, rfl, hg9, hge9, hb⟩
            have HI9 := Lib.hid (HI8.out.step hb)
            have HG9 := Lib.hid (HG8.out.step hb)
            have HZ9 : Hid (W.heap.size + 2 ≤ W9.heap.size) := Lib.hid (Nat.le_trans HZ8.out hb.size)
            have HT9 := Lib.hid hg9
            have HGT : Hid (W.heap.size + 2 ≤ ht) := Lib.hid (Nat.le_trans HZ8.out hge9)
            clear hb hg9 hge9 HI8 HG8 HZ8
            go_upto_region 8 with fail
            have hg9 : ErrAt 8 i W W9.heap.size ht ct (W9.alloc (.cells #[.int .i64 8, .slice (some ⟨ht, 0, none⟩) 1 ct] 37)) := ⟨cells_new _ _ _, HT9.out.below ((Below.refl _ _).alloc (Nat.le_refl _) _), HGT.out⟩
            have hi9 := HI9.out.step ((Below.refl W9.heap.size W9).alloc (Nat.le_refl _) (.cells #[.int .i64 8, .slice (some ⟨ht, 0, none⟩) 1 ct] 37))
            have hs9 := HG9.out.step ((Below.refl W9.heap.size W9).alloc (Nat.le_refl _) (.cells #[.int .i64 8, .slice (some ⟨ht, 0, none⟩) 1 ct] 37))
            have hz9 : W.heap.size + 2 ≤ (W9.alloc (.cells #[.int .i64 8, .slice (some ⟨ht, 0, none⟩) 1 ct] 37)).heap.size := by have := HZ9.out; simp; omega
            have hs5' : W.heap.size + 2 ≤ W9.heap.size := HZ9.out
            generalize hT : W9.heap.size = T at *
            generalize W9.alloc (.cells #[.int .i64 8, .slice (some ⟨ht, 0, none⟩) 1 ct] 37) = W10 at *
            have HH10 := Lib.hid hg9
            have HI10 := Lib.hid hi9
            have HG10 := Lib.hid hs9
            have HZ10 := Lib.hid hz9
            clear hg9 hi9 hs9 hz9 hT HI9 HG9 HZ9 HT9
            have l0 : W10.cell? ⟨gl, 0, none⟩ = some (.int .u32 (x0 : Nat)) := HI10.out.link.cell 0
            have l1 : W10.cell? ⟨gl, 1, none⟩ = some (.int .u64 x1) := HI10.out.link.cell 1
            have l2 : W10.cell? ⟨gl, 2, none⟩ = some (.int .u32 (x2 : Nat)) := HI10.out.link.cell 2
            have l3 : W10.cell? ⟨gl, 3, none⟩ = some (.int .u32 (x3 : Nat)) := HI10.out.link.cell 3
            go_wp2_with fail
            refine (Plain_any ⟨x0, x1, x2, x3⟩ W10 HKK.out).mono ?_
            cases hpl : plainB ⟨x0, x1, x2, x3⟩ with
            | true =>
              rintro e W11 ⟨rfl, hb⟩
              have hst : shapeB h i = true := by rw [HSB7.out, hpl]; rfl
              have hwt : weightB h i = decide (x1 ≤ 2147483647) := by rw [HWB.out]; rw [if_pos hpl]
              have HST := Lib.hid hst
              have HWT := Lib.hid hwt
              have HI11 := Lib.hid (HI10.out.step hb)
              have HH11 := Lib.hid (HH10.out.step hb)
              clear hb hpl hst hwt l0 l1 l2 l3
              have l1 : W11.cell? ⟨gl, 1, none⟩ = some (.int .u64 x1) := HI11.out.link.cell 1
              by_cases hq : x1 ≤ 2147483647
              · have g1 : decide ((2147483647 : Int) < x1) = false := decide_eq_false (by omega)
                have HW2 : Hid (weightB h i = true) := Lib.hid (by rw [HWT.out]; exact decide_eq_true hq)
                clear hq
                have b0 : W11.cell? ⟨W.heap.size + 1, 0, none⟩ = some (.int .i64 0) := HI11.out.res.cell 0
                have b1 : W11.cell? ⟨W.heap.size + 1, 1, none⟩ = some (.slice none 0 0) := HI11.out.res.cell 1
                have f0 := HI11.out.res.frozen 0
                have f1 := HI11.out.res.frozen 1
                have hfin := (HI11.out.res.set_ 0 (.int .i64 0)).set_ 1 (.slice none 0 0)
                have hend := HI11.out.good
                have HFN : Hid ((linkB h i).map (fun c => (c, some ((4 : Int), (i : Int)))) = none) := Lib.hid (by rw [HLB.out, HST.out, HW2.out]; rfl)
                rw [← HFN.out] at hend
                have HEND := Lib.hid hend
                clear hend
                have r0 : ((W11.setCell ⟨W.heap.size + 1, 0, none⟩ (.int .i64 0)).setCell ⟨W.heap.size + 1, 1, none⟩ (.slice none 0 0)).cell? ⟨W.heap.size + 1, 0, none⟩ = some (.int .i64 0) := hfin.cell 0
                have r1 : ((W11.setCell ⟨W.heap.size + 1, 0, none⟩ (.int .i64 0)).setCell ⟨W.heap.size + 1, 1, none⟩ (.slice none 0 0)).cell? ⟨W.heap.size + 1, 1, none⟩ = some (.slice none 0 0) := hfin.cell 1
                clear hfin
                go_wp2_with fail
                rw [HQ0.out]
                refine bodyPost_ret (v := .agg #[.int .i64 0, .slice none 0 0]) ?hres rfl HEND.out
                case hres => simp [results, Tryd.results40, go_sem, r0, r1]
              · have g1 : decide ((2147483647 : Int) < x1) = true := decide_eq_true (by omega)
                have HW2 : Hid (weightB h i = false) := Lib.hid (by rw [HWT.out]; exact decide_eq_false hq)
                clear hq
                have b0 : W11.cell? ⟨W.heap.size + 1, 0, none⟩ = some (.int .i64 0) := HI11.out.res.cell 0
                have b1 : W11.cell? ⟨W.heap.size + 1, 1, none⟩ = some (.slice none 0 0) := HI11.out.res.cell 1
                have f0 := HI11.out.res.frozen 0
                have f1 := HI11.out.res.frozen 1
                have q0 : W11.cell? ⟨T, 0, none⟩ = some (.int .i64 8) := HH11.out.blk.cell 0
                have q1 : W11.cell? ⟨T, 1, none⟩ = some (.slice (some ⟨ht, 0, none⟩) 1 ct) := HH11.out.blk.cell 1
                have hfin := (HI11.out.res.set_ 0 (.int .i64 8)).set_ 1 (.slice (some ⟨ht, 0, none⟩) 1 ct)
                have hend := HI11.out.bad HH11.out
                have HFN : Hid ((linkB h i).map (fun c => (c, some ((4 : Int), (i : Int)))) = some (8, some (4, (i : Int)))) := Lib.hid (by rw [HLB.out, HST.out, HW2.out]; rfl)
                rw [← HFN.out] at hend
                have HEND := Lib.hid hend
                clear hend
                have r0 : ((W11.setCell ⟨W.heap.size + 1, 0, none⟩ (.int .i64 8)).setCell ⟨W.heap.size + 1, 1, none⟩ (.slice (some ⟨ht, 0, none⟩) 1 ct)).cell? ⟨W.heap.size + 1, 0, none⟩ = some (.int .i64 8) := hfin.cell 0
                have r1 : ((W11.setCell ⟨W.heap.size + 1, 0, none⟩ (.int .i64 8)).setCell ⟨W.heap.size + 1, 1, none⟩ (.slice (some ⟨ht, 0, none⟩) 1 ct)).cell? ⟨W.heap.size + 1, 1, none⟩ = some (.slice (some ⟨ht, 0, none⟩) 1 ct) := hfin.cell 1
                clear hfin
                go_wp2_with fail
                rw [HQ0.out]
                refine bodyPost_ret (v := .agg #[.int .i64 8, .slice (some ⟨ht, 0, none⟩) 1 ct]) ?hres rfl HEND.out
                case hres => simp [results, Tryd.results40, go_sem, r0, r1]
            | false =>
              rintro e W11 ⟨rfl, hb⟩
              have hst := HSB7.out
              rw [hpl, Bool.false_or] at hst
              have hwt := HWB.out
              rw [if_neg (by rw [hpl]; exact Bool.false_ne_true)] at hwt
              have HST := Lib.hid hst
              have HWT := Lib.hid hwt
              have HI11 := Lib.hid (HI10.out.step hb)
              have HG11 := Lib.hid (HG10.out.step hb)
              have HH11 := Lib.hid (HH10.out.step hb)
              have HZ11 : Hid (W.heap.size + 2 ≤ W11.heap.size) := Lib.hid (Nat.le_trans HZ10.out hb.size)
              clear hb hpl hst hwt l0 l1 l2 l3 HSB7 HI10 HG10 HH10 HZ10
              have l2 : W11.cell? ⟨gl, 2, none⟩ = some (.int .u32 (x2 : Nat)) := HI11.out.link.cell 2
              have l3 : W11.cell? ⟨gl, 3, none⟩ = some (.int .u32 (x3 : Nat)) := HI11.out.link.cell 3
              have d2 : W11.cell? ⟨W.heap.size, 2, none⟩ = some (.slice k.a2 h.up.length k.c2) := HI11.out.hier.cell 2
              have w2 : IntKind.u64.wrap (x2 : Int) = x2 := by rw [IntKind.wrap_u64]; omega
              have w3 : IntKind.u64.wrap (x3 : Int) = x3 := by rw [IntKind.wrap_u64]; omega
              have w4 : IntKind.u64.wrap (m : Int) = m := by rw [IntKind.wrap_u64]; omega
              have w5 : IntKind.i64.wrap (x2 : Int) = x2 := by rw [IntKind.wrap_i64]; omega
              have w6 : IntKind.i64.wrap (x3 : Int) = x3 := by rw [IntKind.wrap_i64]; omega
              by_cases q1 : m ≤ x2
              · have p1 : decide ((m : Int) ≤ (x2 : Int)) = true := decide_eq_true (by omega)
                have p1n : decide (m ≤ x2) = true := decide_eq_true (by omega)
                have hsf : shapeB h i = false := by rw [HST.out]; exact decide_eq_false (fun hh => by have := hh.2.1; have := HM.out; omega)
                clear q1
                have b0 : W11.cell? ⟨W.heap.size + 1, 0, none⟩ = some (.int .i64 0) := HI11.out.res.cell 0
                have b1 : W11.cell? ⟨W.heap.size + 1, 1, none⟩ = some (.slice none 0 0) := HI11.out.res.cell 1
                have f0 := HI11.out.res.frozen 0
                have f1 := HI11.out.res.frozen 1
                have q0 : W11.cell? ⟨S, 0, none⟩ = some (.int .i64 14) := HG11.out.blk.cell 0
                have q1 : W11.cell? ⟨S, 1, none⟩ = some (.slice (some ⟨gs, 0, none⟩) 1 cs) := HG11.out.blk.cell 1
                have hfin := (HI11.out.res.set_ 0 (.int .i64 14)).set_ 1 (.slice (some ⟨gs, 0, none⟩) 1 cs)
                have hend := HI11.out.bad HG11.out
                have HFN : Hid ((linkB h i).map (fun c => (c, some ((4 : Int), (i : Int)))) = some (14, some (4, (i : Int)))) := Lib.hid (by rw [HLB.out, hsf]; rfl)
                rw [← HFN.out] at hend
                have HEND := Lib.hid hend
                clear hend
                have r0 : ((W11.setCell ⟨W.heap.size + 1, 0, none⟩ (.int .i64 14)).setCell ⟨W.heap.size + 1, 1, none⟩ (.slice (some ⟨gs, 0, none⟩) 1 cs)).cell? ⟨W.heap.size + 1, 0, none⟩ = some (.int .i64 14) := hfin.cell 0
                have r1 : ((W11.setCell ⟨W.heap.size + 1, 0, none⟩ (.int .i64 14)).setCell ⟨W.heap.size + 1, 1, none⟩ (.slice (some ⟨gs, 0, none⟩) 1 cs)).cell? ⟨W.heap.size + 1, 1, none⟩ = some (.slice (some ⟨gs, 0, none⟩) 1 cs) := hfin.cell 1
                clear hfin
                go_wp2_with fail
                rw [HQ0.out]
                refine bodyPost_ret (v := .agg #[.int .i64 14, .slice (some ⟨gs, 0, none⟩) 1 cs]) ?hres rfl HEND.out
                case hres => simp [results, Tryd.results40, go_sem, r0, r1]
              · have p1 : decide ((m : Int) ≤ (x2 : Int)) = false := decide_eq_false (by omega)
                have p1n : decide (m ≤ x2) = false := decide_eq_false (by omega)
                by_cases q2 : m ≤ x3
                · have p2 : decide ((m : Int) ≤ (x3 : Int)) = true := decide_eq_true (by omega)
                  have p2n : decide (m ≤ x3) = true := decide_eq_true (by omega)
                  have hsf : shapeB h i = false := by rw [HST.out]; exact decide_eq_false (fun hh => by have := hh.2.2.1; omega)
                  clear q1 q2
                  have b0 : W11.cell? ⟨W.heap.size + 1, 0, none⟩ = some (.int .i64 0) := HI11.out.res.cell 0
                  have b1 : W11.cell? ⟨W.heap.size + 1, 1, none⟩ = some (.slice none 0 0) := HI11.out.res.cell 1
                  have f0 := HI11.out.res.frozen 0
                  have f1 := HI11.out.res.frozen 1
                  have q0 : W11.cell? ⟨S, 0, none⟩ = some (.int .i64 14) := HG11.out.blk.cell 0
                  have q1 : W11.cell? ⟨S, 1, none⟩ = some (.slice (some ⟨gs, 0, none⟩) 1 cs) := HG11.out.blk.cell 1
                  have hfin := (HI11.out.res.set_ 0 (.int .i64 14)).set_ 1 (.slice (some ⟨gs, 0, none⟩) 1 cs)
                  have hend := HI11.out.bad HG11.out
                  have HFN : Hid ((linkB h i).map (fun c => (c, some ((4 : Int), (i : Int)))) = some (14, some (4, (i : Int)))) := Lib.hid (by rw [HLB.out, hsf]; rfl)
                  rw [← HFN.out] at hend
                  have HEND := Lib.hid hend
                  clear hend
                  have r0 : ((W11.setCell ⟨W.heap.size + 1, 0, none⟩ (.int .i64 14)).setCell ⟨W.heap.size + 1, 1, none⟩ (.slice (some ⟨gs, 0, none⟩) 1 cs)).cell? ⟨W.heap.size + 1, 0, none⟩ = some (.int .i64 14) := hfin.cell 0
                  have r1 : ((W11.setCell ⟨W.heap.size + 1, 0, none⟩ (.int .i64 14)).setCell ⟨W.heap.size + 1, 1, none⟩ (.slice (some ⟨gs, 0, none⟩) 1 cs)).cell? ⟨W.heap.size + 1, 1, none⟩ = some (.slice (some ⟨gs, 0, none⟩) 1 cs) := hfin.cell 1
                  clear hfin
                  go_wp2_with fail
                  rw [HQ0.out]
                  refine bodyPost_ret (v := .agg #[.int .i64 14, .slice (some ⟨gs, 0, none⟩) 1 cs]) ?hres rfl HEND.out
                  case hres => simp [results, Tryd.results40, go_sem, r0, r1]
                · have p2 : decide ((m : Int) ≤ (x3 : Int)) = false := decide_eq_false (by omega)
                  have p2n : decide (m ≤ x3) = false := decide_eq_false (by omega)
                  by_cases q3 : x2 < h.up.length
                  · have p3 : decide ((x2 : Int) < (h.up.length : Int)) = true := decide_eq_true (by omega)
                    have p3n : decide (x2 < h.up.length) = true := decide_eq_true q3
                    have hsf : shapeB h i = false := by rw [HST.out]; exact decide_eq_false (fun hh => by have := hh.1; omega)
                    clear q1 q2 q3
                    have b0 : W11.cell? ⟨W.heap.size + 1, 0, none⟩ = some (.int .i64 0) := HI11.out.res.cell 0
                    have b1 : W11.cell? ⟨W.heap.size + 1, 1, none⟩ = some (.slice none 0 0) := HI11.out.res.cell 1
                    have f0 := HI11.out.res.frozen 0
                    have f1 := HI11.out.res.frozen 1
                    have q0 : W11.cell? ⟨S, 0, none⟩ = some (.int .i64 14) := HG11.out.blk.cell 0
                    have q1 : W11.cell? ⟨S, 1, none⟩ = some (.slice (some ⟨gs, 0, none⟩) 1 cs) := HG11.out.blk.cell 1
                    have hfin := (HI11.out.res.set_ 0 (.int .i64 14)).set_ 1 (.slice (some ⟨gs, 0, none⟩) 1 cs)
                    have hend := HI11.out.bad HG11.out
                    have HFN : Hid ((linkB h i).map (fun c => (c, some ((4 : Int), (i : Int)))) = some (14, some (4, (i : Int)))) := Lib.hid (by rw [HLB.out, hsf]; rfl)
                    rw [← HFN.out] at hend
                    have HEND := Lib.hid hend
                    clear hend
                    have r0 : ((W11.setCell ⟨W.heap.size + 1, 0, none⟩ (.int .i64 14)).setCell ⟨W.heap.size + 1, 1, none⟩ (.slice (some ⟨gs, 0, none⟩) 1 cs)).cell? ⟨W.heap.size + 1, 0, none⟩ = some (.int .i64 14) := hfin.cell 0
                    have r1 : ((W11.setCell ⟨W.heap.size + 1, 0, none⟩ (.int .i64 14)).setCell ⟨W.heap.size + 1, 1, none⟩ (.slice (some ⟨gs, 0, none⟩) 1 cs)).cell? ⟨W.heap.size + 1, 1, none⟩ = some (.slice (some ⟨gs, 0, none⟩) 1 cs) := hfin.cell 1
                    clear hfin
                    go_wp2_with fail
                    rw [HQ0.out]
                    refine bodyPost_ret (v := .agg #[.int .i64 14, .slice (some ⟨gs, 0, none⟩) 1 cs]) ?hres rfl HEND.out
                    case hres => simp [results, Tryd.results40, go_sem, r0, r1]
                  · have p3 : decide ((x2 : Int) < (h.up.length : Int)) = false := decide_eq_false (by omega)
                    have p3n : decide (x2 < h.up.length) = false := decide_eq_false q3
                    by_cases q4 : h.up.length ≤ x3
                    · have p4 : decide ((h.up.length : Int) ≤ (x3 : Int)) = true := decide_eq_true (by omega)
                      have p4n : decide (h.up.length ≤ x3) = true := decide_eq_true (by omega)
                      have hsf : shapeB h i = false := by rw [HST.out]; exact decide_eq_false (fun hh => by have := hh.2.2.1; omega)
                      clear q1 q2 q3 q4
                      have b0 : W11.cell? ⟨W.heap.size + 1, 0, none⟩ = some (.int .i64 0) := HI11.out.res.cell 0
                      have b1 : W11.cell? ⟨W.heap.size + 1, 1, none⟩ = some (.slice none 0 0) := HI11.out.res.cell 1
                      have f0 := HI11.out.res.frozen 0
                      have f1 := HI11.out.res.frozen 1
                      have q0 : W11.cell? ⟨S, 0, none⟩ = some (.int .i64 14) := HG11.out.blk.cell 0
                      have q1 : W11.cell? ⟨S, 1, none⟩ = some (.slice (some ⟨gs, 0, none⟩) 1 cs) := HG11.out.blk.cell 1
                      have hfin := (HI11.out.res.set_ 0 (.int .i64 14)).set_ 1 (.slice (some ⟨gs, 0, none⟩) 1 cs)
                      have hend := HI11.out.bad HG11.out
                      have HFN : Hid ((linkB h i).map (fun c => (c, some ((4 : Int), (i : Int)))) = some (14, some (4, (i : Int)))) := Lib.hid (by rw [HLB.out, hsf]; rfl)
                      rw [← HFN.out] at hend
                      have HEND := Lib.hid hend
                      clear hend
                      have r0 : ((W11.setCell ⟨W.heap.size + 1, 0, none⟩ (.int .i64 14)).setCell ⟨W.heap.size + 1, 1, none⟩ (.slice (some ⟨gs, 0, none⟩) 1 cs)).cell? ⟨W.heap.size + 1, 0, none⟩ = some (.int .i64 14) := hfin.cell 0
                      have r1 : ((W11.setCell ⟨W.heap.size + 1, 0, none⟩ (.int .i64 14)).setCell ⟨W.heap.size + 1, 1, none⟩ (.slice (some ⟨gs, 0, none⟩) 1 cs)).cell? ⟨W.heap.size + 1, 1, none⟩ = some (.slice (some ⟨gs, 0, none⟩) 1 cs) := hfin.cell 1
                      clear hfin
                      go_wp2_with fail
                      rw [HQ0.out]
                      refine bodyPost_ret (v := .agg #[.int .i64 14, .slice (some ⟨gs, 0, none⟩) 1 cs]) ?hres rfl HEND.out
                      case hres => simp [results, Tryd.results40, go_sem, r0, r1]
                    · have p4 : decide ((h.up.length : Int) ≤ (x3 : Int)) = false := decide_eq_false (by omega)
                      have p4n : decide (h.up.length ≤ x3) = false := decide_eq_false (by omega)
                      have hst2 : shapeB h i = decide (tailOf h x2 = tailOf h i ∧ headOf h x3 = headOf h i ∧ rkOf h x2 = rkOf h x3) := by
                        rw [HST.out, decide_eq_decide]
                        have := HM.out
                        exact ⟨fun hh => ⟨hh.2.2.2.1, hh.2.2.2.2.1, hh.2.2.2.2.2⟩, fun hh => ⟨by omega, by omega, by omega, hh.1, hh.2.1, hh.2.2⟩⟩
                      have HS2 := Lib.hid hst2
                      have j2 : x2 < m := by omega
                      have j3 : x3 < m := by omega
                      clear hst2 HST q1 q2 q3 q4
                      go_upto_region 14 with fail
                      clear p1 p1n p2 p2n p3 p3n p4 p4n l2 l3 d2
                      go_cut [12, 13, 14] from 125 to 140 (fun a b c wx => ∃ g1 g2 g3, a = .pointer (some ⟨g1, 0, none⟩) ∧ b = .pointer (some ⟨g2, 0, none⟩) ∧ c = .pointer (some ⟨g3, 0, none⟩) ∧ Cells wx g1 #[.int .i64 (tailOf h i), .int .i64 (headOf h i), .int .i64 (rkOf h i)] 123 ∧ Cells wx g2 #[.int .i64 (tailOf h x2), .int .i64 (headOf h x2), .int .i64 (rkOf h x2)] 123 ∧ Cells wx g3 #[.int .i64 (tailOf h x3), .int .i64 (headOf h x3), .int .i64 (rkOf h x3)] 123 ∧ Below W11.heap.size W11 wx)
                      case first =>
                        refine wp_act_named ?_
                        intro T0 hT0
                        have hsz : T0.size = 194 := by rw [hT0]; rfl
                        have b1 : T0.getD 1 undef = .slice (some ad) m cb := by rw [hT0]; rfl
                        have b2 : T0.getD 2 undef = .int .i64 (i : Nat) := by rw [hT0]; rfl
                        have b3 : T0.getD 3 undef = .pointer (some ⟨W.heap.size, 0, none⟩) := by rw [hT0]; rfl
                        have b7 : T0.getD 7 undef = .pointer (some ⟨gl, 0, none⟩) := by rw [hT0]; rfl
                        refine wp_region_inv (I := RI [⟨0, 125, .agg #[.slice k.a0 h.node.length k.c0, .slice k.a1 h.uf.length k.c1, .slice k.a2 h.up.length k.c2, .slice k.a3 h.df.length k.c3, .slice k.a4 h.dn.length k.c4]⟩, ⟨1, 126, .slice (some ad) m cb⟩, ⟨2, 127, .int .i64 (i : Nat)⟩, ⟨3, 128, .agg #[.int .i64 (tailOf h i), .int .i64 (headOf h i), .int .i64 (rkOf h i)]⟩, ⟨4, 129, .agg #[.slice k.a0 h.node.length k.c0, .slice k.a1 h.uf.length k.c1, .slice k.a2 h.up.length k.c2, .slice k.a3 h.df.length k.c3, .slice k.a4 h.dn.length k.c4]⟩, ⟨5, 130, .slice (some ad) m cb⟩, ⟨6, 131, .pointer (some ⟨gl, 2, none⟩)⟩, ⟨7, 132, .int .u32 (x2 : Nat)⟩, ⟨8, 133, .int .i64 (x2 : Nat)⟩, ⟨9, 134, .agg #[.int .i64 (tailOf h x2), .int .i64 (headOf h x2), .int .i64 (rkOf h x2)]⟩, ⟨10, 135, .agg #[.slice k.a0 h.node.length k.c0, .slice k.a1 h.uf.length k.c1, .slice k.a2 h.up.length k.c2, .slice k.a3 h.df.length k.c3, .slice k.a4 h.dn.length k.c4]⟩, ⟨11, 136, .slice (some ad) m cb⟩, ⟨12, 137, .pointer (some ⟨gl, 3, none⟩)⟩, ⟨13, 138, .int .u32 (x3 : Nat)⟩, ⟨14, 139, .int .i64 (x3 : Nat)⟩, ⟨15, 140, .agg #[.int .i64 (tailOf h x3), .int .i64 (headOf h x3), .int .i64 (rkOf h x3)]⟩] [⟨16, 19, 12, #[.int .i64 0, .int .i64 0, .int .i64 0], #[.int .i64 (tailOf h i), .int .i64 (headOf h i), .int .i64 (rkOf h i)], 123⟩, ⟨17, 20, 13, #[.int .i64 0, .int .i64 0, .int .i64 0], #[.int .i64 (tailOf h x2), .int .i64 (headOf h x2), .int .i64 (rkOf h x2)], 123⟩, ⟨18, 21, 14, #[.int .i64 0, .int .i64 0, .int .i64 0], #[.int .i64 (tailOf h x3), .int .i64 (headOf h x3), .int .i64 (rkOf h x3)], 123⟩] [12, 13, 14, 125, 126, 127, 128, 129, 130, 131, 132, 133, 134, 135, 136, 137, 138, 139, 140] T0 W11) (by kernel_rfl) (by kernel_rfl) (RI.start (a := { tmps := T0, defers := [] }) rfl (Below.drew (Below.refl _ _))) ?step ?fin
                        case step =>
                          clear hT0
                          intro i' o L a w ho hI hL hd
                          have hlt : i' < 22 := (Array.getElem?_eq_some_iff.1 ho).1
                          have t1 : a.tmps.getD 1 undef = .slice (some ad) m cb := (hI.same 1 (by decide)).trans b1
                          have t2 : a.tmps.getD 2 undef = .int .i64 (i : Nat) := (hI.same 2 (by decide)).trans b2
                          have t3 : a.tmps.getD 3 undef = .pointer (some ⟨W.heap.size, 0, none⟩) := (hI.same 3 (by decide)).trans b3
                          have t7 : a.tmps.getD 7 undef = .pointer (some ⟨gl, 0, none⟩) := (hI.same 7 (by decide)).trans b7
                          have HIw := Lib.hid (HI11.out.step hI.below)
                          have d0 : w.cell? ⟨W.heap.size, 0, none⟩ = some (.slice k.a0 h.node.length k.c0) := HIw.out.hier.cell 0
                          have d1 : w.cell? ⟨W.heap.size, 1, none⟩ = some (.slice k.a1 h.uf.length k.c1) := HIw.out.hier.cell 1
                          have d2 : w.cell? ⟨W.heap.size, 2, none⟩ = some (.slice k.a2 h.up.length k.c2) := HIw.out.hier.cell 2
                          have d3 : w.cell? ⟨W.heap.size, 3, none⟩ = some (.slice k.a3 h.df.length k.c3) := HIw.out.hier.cell 3
                          have d4 : w.cell? ⟨W.heap.size, 4, none⟩ = some (.slice k.a4 h.dn.length k.c4) := HIw.out.hier.cell 4
                          have l2 : w.cell? ⟨gl, 2, none⟩ = some (.int .u32 (x2 : Nat)) := HIw.out.link.cell 2
                          have l3 : w.cell? ⟨gl, 3, none⟩ = some (.int .u32 (x3 : Nat)) := HIw.out.link.cell 3
                          clear b1 b2 b3 b7
                          rcases (show i' = 0 ∨ i' = 1 ∨ i' = 2 ∨ i' = 3 ∨ i' = 4 ∨ i' = 5 ∨ i' = 6 ∨ i' = 7 ∨ i' = 8 ∨ i' = 9 ∨ i' = 10 ∨ i' = 11 ∨ i' = 12 ∨ i' = 13 ∨ i' = 14 ∨ i' = 15 ∨ i' = 16 ∨ i' = 17 ∨ i' = 18 ∨ i' = 19 ∨ i' = 20 ∨ i' = 21 by omega) with rfl | rfl | rfl | rfl | rfl | rfl | rfl | rfl | rfl | rfl | rfl | rfl | rfl | rfl | rfl | rfl | rfl | rfl | rfl | rfl | rfl | rfl <;> (obtain rfl := Option.some.inj ho) <;> clear ho
                          · clear hd
                            refine ⟨rfl, ?_⟩
                            unfold Oper.wp
                            go_simp
                            exact hI.call (Below.refl _ _) 0 125 _ (by rw [hsz]; decide) (by decide) (fun p hp => by simp only [List.mem_cons, List.not_mem_nil, or_false] at hp; rcases hp with rfl | rfl | rfl | rfl | rfl | rfl | rfl | rfl | rfl | rfl | rfl | rfl | rfl | rfl | rfl | rfl <;> first | exact .inl ⟨rfl, rfl⟩ | exact .inr ⟨Nat.ne_of_beq_eq_false rfl, Nat.ne_of_beq_eq_false rfl⟩) (fun p hp => by simp only [List.mem_cons, List.not_mem_nil, or_false] at hp; rcases hp with rfl | rfl | rfl | rfl | rfl | rfl | rfl | rfl | rfl | rfl | rfl | rfl | rfl | rfl | rfl | rfl <;> first | exact fun _ => rfl | exact fun h => absurd h (Nat.ne_of_beq_eq_false rfl)) (fun b hb => by simp only [List.mem_cons, List.not_mem_nil, or_false] at hb; rcases hb with rfl | rfl | rfl <;> exact ⟨Nat.ne_of_beq_eq_false rfl, Nat.ne_of_beq_eq_false rfl, Nat.ne_of_beq_eq_false rfl⟩)
                          · clear hd
                            refine ⟨rfl, ?_⟩
                            unfold Oper.wp
                            go_simp
                            exact hI.call (Below.refl _ _) 1 126 _ (by rw [hsz]; decide) (by decide) (fun p hp => by simp only [List.mem_cons, List.not_mem_nil, or_false] at hp; rcases hp with rfl | rfl | rfl | rfl | rfl | rfl | rfl | rfl | rfl | rfl | rfl | rfl | rfl | rfl | rfl | rfl <;> first | exact .inl ⟨rfl, rfl⟩ | exact .inr ⟨Nat.ne_of_beq_eq_false rfl, Nat.ne_of_beq_eq_false rfl⟩) (fun p hp => by simp only [List.mem_cons, List.not_mem_nil, or_false] at hp; rcases hp with rfl | rfl | rfl | rfl | rfl | rfl | rfl | rfl | rfl | rfl | rfl | rfl | rfl | rfl | rfl | rfl <;> first | exact fun _ => rfl | exact fun h => absurd h (Nat.ne_of_beq_eq_false rfl)) (fun b hb => by simp only [List.mem_cons, List.not_mem_nil, or_false] at hb; rcases hb with rfl | rfl | rfl <;> exact ⟨Nat.ne_of_beq_eq_false rfl, Nat.ne_of_beq_eq_false rfl, Nat.ne_of_beq_eq_false rfl⟩)
                          · clear hd
                            refine ⟨rfl, ?_⟩
                            unfold Oper.wp
                            go_simp
                            exact hI.call (Below.refl _ _) 2 127 _ (by rw [hsz]; decide) (by decide) (fun p hp => by simp only [List.mem_cons, List.not_mem_nil, or_false] at hp; rcases hp with rfl | rfl | rfl | rfl | rfl | rfl | rfl | rfl | rfl | rfl | rfl | rfl | rfl | rfl | rfl | rfl <;> first | exact .inl ⟨rfl, rfl⟩ | exact .inr ⟨Nat.ne_of_beq_eq_false rfl, Nat.ne_of_beq_eq_false rfl⟩) (fun p hp => by simp only [List.mem_cons, List.not_mem_nil, or_false] at hp; rcases hp with rfl | rfl | rfl | rfl | rfl | rfl | rfl | rfl | rfl | rfl | rfl | rfl | rfl | rfl | rfl | rfl <;> first | exact fun _ => rfl | exact fun h => absurd h (Nat.ne_of_beq_eq_false rfl)) (fun b hb => by simp only [List.mem_cons, List.not_mem_nil, or_false] at hb; rcases hb with rfl | rfl | rfl <;> exact ⟨Nat.ne_of_beq_eq_false rfl, Nat.ne_of_beq_eq_false rfl, Nat.ne_of_beq_eq_false rfl⟩)
                          · have s125 := hI.vals ⟨0, 125, .agg #[.slice k.a0 h.node.length k.c0, .slice k.a1 h.uf.length k.c1, .slice k.a2 h.up.length k.c2, .slice k.a3 h.df.length k.c3, .slice k.a4 h.dn.length k.c4]⟩ (by simp) (dep_of hd 0 (by kernel_rfl))
                            have s126 := hI.vals ⟨1, 126, .slice (some ad) m cb⟩ (by simp) (dep_of hd 1 (by kernel_rfl))
                            have s127 := hI.vals ⟨2, 127, .int .i64 (i : Nat)⟩ (by simp) (dep_of hd 2 (by kernel_rfl))
                            clear hd
                            refine ⟨rfl, ?_⟩
                            unfold Oper.wp
                            go_simp
                            refine (HEO.out w i (by first | exact hi | exact j2 | exact j3) (HI11.out.below.trans (hI.below.mono HI11.out.below.size))).mono ?_
                            rintro e w' ⟨rfl, hbw⟩
                            exact hI.call (hbw) 3 128 _ (by rw [hsz]; decide) (by decide) (fun p hp => by simp only [List.mem_cons, List.not_mem_nil, or_false] at hp; rcases hp with rfl | rfl | rfl | rfl | rfl | rfl | rfl | rfl | rfl | rfl | rfl | rfl | rfl | rfl | rfl | rfl <;> first | exact .inl ⟨rfl, rfl⟩ | exact .inr ⟨Nat.ne_of_beq_eq_false rfl, Nat.ne_of_beq_eq_false rfl⟩) (fun p hp => by simp only [List.mem_cons, List.not_mem_nil, or_false] at hp; rcases hp with rfl | rfl | rfl | rfl | rfl | rfl | rfl | rfl | rfl | rfl | rfl | rfl | rfl | rfl | rfl | rfl <;> first | exact fun _ => rfl | exact fun h => absurd h (Nat.ne_of_beq_eq_false rfl)) (fun b hb => by simp only [List.mem_cons, List.not_mem_nil, or_false] at hb; rcases hb with rfl | rfl | rfl <;> exact ⟨Nat.ne_of_beq_eq_false rfl, Nat.ne_of_beq_eq_false rfl, Nat.ne_of_beq_eq_false rfl⟩)
                          · clear hd
                            refine ⟨rfl, ?_⟩
                            unfold Oper.wp
                            go_simp
                            exact hI.call (Below.refl _ _) 4 129 _ (by rw [hsz]; decide) (by decide) (fun p hp => by simp only [List.mem_cons, List.not_mem_nil, or_false] at hp; rcases hp with rfl | rfl | rfl | rfl | rfl | rfl | rfl | rfl | rfl | rfl | rfl | rfl | rfl | rfl | rfl | rfl <;> first | exact .inl ⟨rfl, rfl⟩ | exact .inr ⟨Nat.ne_of_beq_eq_false rfl, Nat.ne_of_beq_eq_false rfl⟩) (fun p hp => by simp only [List.mem_cons, List.not_mem_nil, or_false] at hp; rcases hp with rfl | rfl | rfl | rfl | rfl | rfl | rfl | rfl | rfl | rfl | rfl | rfl | rfl | rfl | rfl | rfl <;> first | exact fun _ => rfl | exact fun h => absurd h (Nat.ne_of_beq_eq_false rfl)) (fun b hb => by simp only [List.mem_cons, List.not_mem_nil, or_false] at hb; rcases hb with rfl | rfl | rfl <;> exact ⟨Nat.ne_of_beq_eq_false rfl, Nat.ne_of_beq_eq_false rfl, Nat.ne_of_beq_eq_false rfl⟩)
                          · clear hd
                            refine ⟨rfl, ?_⟩
                            unfold Oper.wp
                            go_simp
                            exact hI.call (Below.refl _ _) 5 130 _ (by rw [hsz]; decide) (by decide) (fun p hp => by simp only [List.mem_cons, List.not_mem_nil, or_false] at hp; rcases hp with rfl | rfl | rfl | rfl | rfl | rfl | rfl | rfl | rfl | rfl | rfl | rfl | rfl | rfl | rfl | rfl <;> first | exact .inl ⟨rfl, rfl⟩ | exact .inr ⟨Nat.ne_of_beq_eq_false rfl, Nat.ne_of_beq_eq_false rfl⟩) (fun p hp => by simp only [List.mem_cons, List.not_mem_nil, or_false] at hp; rcases hp with rfl | rfl | rfl | rfl | rfl | rfl | rfl | rfl | rfl | rfl | rfl | rfl | rfl | rfl | rfl | rfl <;> first | exact fun _ => rfl | exact fun h => absurd h (Nat.ne_of_beq_eq_false rfl)) (fun b hb => by simp only [List.mem_cons, List.not_mem_nil, or_false] at hb; rcases hb with rfl | rfl | rfl <;> exact ⟨Nat.ne_of_beq_eq_false rfl, Nat.ne_of_beq_eq_false rfl, Nat.ne_of_beq_eq_false rfl⟩)
                          · clear hd
                            refine ⟨rfl, ?_⟩
                            unfold Oper.wp
                            go_simp
                            exact hI.call (Below.refl _ _) 6 131 _ (by rw [hsz]; decide) (by decide) (fun p hp => by simp only [List.mem_cons, List.not_mem_nil, or_false] at hp; rcases hp with rfl | rfl | rfl | rfl | rfl | rfl | rfl | rfl | rfl | rfl | rfl | rfl | rfl | rfl | rfl | rfl <;> first | exact .inl ⟨rfl, rfl⟩ | exact .inr ⟨Nat.ne_of_beq_eq_false rfl, Nat.ne_of_beq_eq_false rfl⟩) (fun p hp => by simp only [List.mem_cons, List.not_mem_nil, or_false] at hp; rcases hp with rfl | rfl | rfl | rfl | rfl | rfl | rfl | rfl | rfl | rfl | rfl | rfl | rfl | rfl | rfl | rfl <;> first | exact fun _ => rfl | exact fun h => absurd h (Nat.ne_of_beq_eq_false rfl)) (fun b hb => by simp only [List.mem_cons, List.not_mem_nil, or_false] at hb; rcases hb with rfl | rfl | rfl <;> exact ⟨Nat.ne_of_beq_eq_false rfl, Nat.ne_of_beq_eq_false rfl, Nat.ne_of_beq_eq_false rfl⟩)
                          · have s131 := hI.vals ⟨6, 131, .pointer (some ⟨gl, 2, none⟩)⟩ (by simp) (dep_of hd 6 (by kernel_rfl))
                            clear hd
                            refine ⟨rfl, ?_⟩
                            unfold Oper.wp
                            go_simp
                            exact hI.call (Below.refl _ _) 7 132 _ (by rw [hsz]; decide) (by decide) (fun p hp => by simp only [List.mem_cons, List.not_mem_nil, or_false] at hp; rcases hp with rfl | rfl | rfl | rfl | rfl | rfl | rfl | rfl | rfl | rfl | rfl | rfl | rfl | rfl | rfl | rfl <;> first | exact .inl ⟨rfl, rfl⟩ | exact .inr ⟨Nat.ne_of_beq_eq_false rfl, Nat.ne_of_beq_eq_false rfl⟩) (fun p hp => by simp only [List.mem_cons, List.not_mem_nil, or_false] at hp; rcases hp with rfl | rfl | rfl | rfl | rfl | rfl | rfl | rfl | rfl | rfl | rfl | rfl | rfl | rfl | rfl | rfl <;> first | exact fun _ => rfl | exact fun h => absurd h (Nat.ne_of_beq_eq_false rfl)) (fun b hb => by simp only [List.mem_cons, List.not_mem_nil, or_false] at hb; rcases hb with rfl | rfl | rfl <;> exact ⟨Nat.ne_of_beq_eq_false rfl, Nat.ne_of_beq_eq_false rfl, Nat.ne_of_beq_eq_false rfl⟩)
                          · have s132 := hI.vals ⟨7, 132, .int .u32 (x2 : Nat)⟩ (by simp) (dep_of hd 7 (by kernel_rfl))
                            clear hd
                            refine ⟨rfl, ?_⟩
                            unfold Oper.wp
                            go_simp
                            exact hI.call (Below.refl _ _) 8 133 _ (by rw [hsz]; decide) (by decide) (fun p hp => by simp only [List.mem_cons, List.not_mem_nil, or_false] at hp; rcases hp with rfl | rfl | rfl | rfl | rfl | rfl | rfl | rfl | rfl | rfl | rfl | rfl | rfl | rfl | rfl | rfl <;> first | exact .inl ⟨rfl, rfl⟩ | exact .inr ⟨Nat.ne_of_beq_eq_false rfl, Nat.ne_of_beq_eq_false rfl⟩) (fun p hp => by simp only [List.mem_cons, List.not_mem_nil, or_false] at hp; rcases hp with rfl | rfl | rfl | rfl | rfl | rfl | rfl | rfl | rfl | rfl | rfl | rfl | rfl | rfl | rfl | rfl <;> first | exact fun _ => rfl | exact fun h => absurd h (Nat.ne_of_beq_eq_false rfl)) (fun b hb => by simp only [List.mem_cons, List.not_mem_nil, or_false] at hb; rcases hb with rfl | rfl | rfl <;> exact ⟨Nat.ne_of_beq_eq_false rfl, Nat.ne_of_beq_eq_false rfl, Nat.ne_of_beq_eq_false rfl⟩)
                          · have s129 := hI.vals ⟨4, 129, .agg #[.slice k.a0 h.node.length k.c0, .slice k.a1 h.uf.length k.c1, .slice k.a2 h.up.length k.c2, .slice k.a3 h.df.length k.c3, .slice k.a4 h.dn.length k.c4]⟩ (by simp) (dep_of hd 4 (by kernel_rfl))
                            have s130 := hI.vals ⟨5, 130, .slice (some ad) m cb⟩ (by simp) (dep_of hd 5 (by kernel_rfl))
                            have s133 := hI.vals ⟨8, 133, .int .i64 (x2 : Nat)⟩ (by simp) (dep_of hd 8 (by kernel_rfl))
                            clear hd
                            refine ⟨rfl, ?_⟩
                            unfold Oper.wp
                            go_simp
                            refine (HEO.out w x2 (by first | exact hi | exact j2 | exact j3) (HI11.out.below.trans (hI.below.mono HI11.out.below.size))).mono ?_
                            rintro e w' ⟨rfl, hbw⟩
                            exact hI.call (hbw) 9 134 _ (by rw [hsz]; decide) (by decide) (fun p hp => by simp only [List.mem_cons, List.not_mem_nil, or_false] at hp; rcases hp with rfl | rfl | rfl | rfl | rfl | rfl | rfl | rfl | rfl | rfl | rfl | rfl | rfl | rfl | rfl | rfl <;> first | exact .inl ⟨rfl, rfl⟩ | exact .inr ⟨Nat.ne_of_beq_eq_false rfl, Nat.ne_of_beq_eq_false rfl⟩) (fun p hp => by simp only [List.mem_cons, List.not_mem_nil, or_false] at hp; rcases hp with rfl | rfl | rfl | rfl | rfl | rfl | rfl | rfl | rfl | rfl | rfl | rfl | rfl | rfl | rfl | rfl <;> first | exact fun _ => rfl | exact fun h => absurd h (Nat.ne_of_beq_eq_false rfl)) (fun b hb => by simp only [List.mem_cons, List.not_mem_nil, or_false] at hb; rcases hb with rfl | rfl | rfl <;> exact ⟨Nat.ne_of_beq_eq_false rfl, Nat.ne_of_beq_eq_false rfl, Nat.ne_of_beq_eq_false rfl⟩)
                          · clear hd
                            refine ⟨rfl, ?_⟩
                            unfold Oper.wp
                            go_simp
                            exact hI.call (Below.refl _ _) 10 135 _ (by rw [hsz]; decide) (by decide) (fun p hp => by simp only [List.mem_cons, List.not_mem_nil, or_false] at hp; rcases hp with rfl | rfl | rfl | rfl | rfl | rfl | rfl | rfl | rfl | rfl | rfl | rfl | rfl | rfl | rfl | rfl <;> first | exact .inl ⟨rfl, rfl⟩ | exact .inr ⟨Nat.ne_of_beq_eq_false rfl, Nat.ne_of_beq_eq_false rfl⟩) (fun p hp => by simp only [List.mem_cons, List.not_mem_nil, or_false] at hp; rcases hp with rfl | rfl | rfl | rfl | rfl | rfl | rfl | rfl | rfl | rfl | rfl | rfl | rfl | rfl | rfl | rfl <;> first | exact fun _ => rfl | exact fun h => absurd h (Nat.ne_of_beq_eq_false rfl)) (fun b hb => by simp only [List.mem_cons, List.not_mem_nil, or_false] at hb; rcases hb with rfl | rfl | rfl <;> exact ⟨Nat.ne_of_beq_eq_false rfl, Nat.ne_of_beq_eq_false rfl, Nat.ne_of_beq_eq_false rfl⟩)
                          · clear hd
                            refine ⟨rfl, ?_⟩
                            unfold Oper.wp
                            go_simp
                            exact hI.call (Below.refl _ _) 11 136 _ (by rw [hsz]; decide) (by decide) (fun p hp => by simp only [List.mem_cons, List.not_mem_nil, or_false] at hp; rcases hp with rfl | rfl | rfl | rfl | rfl | rfl | rfl | rfl | rfl | rfl | rfl | rfl | rfl | rfl | rfl | rfl <;> first | exact .inl ⟨rfl, rfl⟩ | exact .inr ⟨Nat.ne_of_beq_eq_false rfl, Nat.ne_of_beq_eq_false rfl⟩) (fun p hp => by simp only [List.mem_cons, List.not_mem_nil, or_false] at hp; rcases hp with rfl | rfl | rfl | rfl | rfl | rfl | rfl | rfl | rfl | rfl | rfl | rfl | rfl | rfl | rfl | rfl <;> first | exact fun _ => rfl | exact fun h => absurd h (Nat.ne_of_beq_eq_false rfl)) (fun b hb => by simp only [List.mem_cons, List.not_mem_nil, or_false] at hb; rcases hb with rfl | rfl | rfl <;> exact ⟨Nat.ne_of_beq_eq_false rfl, Nat.ne_of_beq_eq_false rfl, Nat.ne_of_beq_eq_false rfl⟩)
                          · clear hd
                            refine ⟨rfl, ?_⟩
                            unfold Oper.wp
                            go_simp
                            exact hI.call (Below.refl _ _) 12 137 _ (by rw [hsz]; decide) (by decide) (fun p hp => by simp only [List.mem_cons, List.not_mem_nil, or_false] at hp; rcases hp with rfl | rfl | rfl | rfl | rfl | rfl | rfl | rfl | rfl | rfl | rfl | rfl | rfl | rfl | rfl | rfl <;> first | exact .inl ⟨rfl, rfl⟩ | exact .inr ⟨Nat.ne_of_beq_eq_false rfl, Nat.ne_of_beq_eq_false rfl⟩) (fun p hp => by simp only [List.mem_cons, List.not_mem_nil, or_false] at hp; rcases hp with rfl | rfl | rfl | rfl | rfl | rfl | rfl | rfl | rfl | rfl | rfl | rfl | rfl | rfl | rfl | rfl <;> first | exact fun _ => rfl | exact fun h => absurd h (Nat.ne_of_beq_eq_false rfl)) (fun b hb => by simp only [List.mem_cons, List.not_mem_nil, or_false] at hb; rcases hb with rfl | rfl | rfl <;> exact ⟨Nat.ne_of_beq_eq_false rfl, Nat.ne_of_beq_eq_false rfl, Nat.ne_of_beq_eq_false rfl⟩)
                          · have s137 := hI.vals ⟨12, 137, .pointer (some ⟨gl, 3, none⟩)⟩ (by simp) (dep_of hd 12 (by kernel_rfl))
                            clear hd
                            refine ⟨rfl, ?_⟩
                            unfold Oper.wp
                            go_simp
                            exact hI.call (Below.refl _ _) 13 138 _ (by rw [hsz]; decide) (by decide) (fun p hp => by simp only [List.mem_cons, List.not_mem_nil, or_false] at hp; rcases hp with rfl | rfl | rfl | rfl | rfl | rfl | rfl | rfl | rfl | rfl | rfl | rfl | rfl | rfl | rfl | rfl <;> first | exact .inl ⟨rfl, rfl⟩ | exact .inr ⟨Nat.ne_of_beq_eq_false rfl, Nat.ne_of_beq_eq_false rfl⟩) (fun p hp => by simp only [List.mem_cons, List.not_mem_nil, or_false] at hp; rcases hp with rfl | rfl | rfl | rfl | rfl | rfl | rfl | rfl | rfl | rfl | rfl | rfl | rfl | rfl | rfl | rfl <;> first | exact fun _ => rfl | exact fun h => absurd h (Nat.ne_of_beq_eq_false rfl)) (fun b hb => by simp only [List.mem_cons, List.not_mem_nil, or_false] at hb; rcases hb with rfl | rfl | rfl <;> exact ⟨Nat.ne_of_beq_eq_false rfl, Nat.ne_of_beq_eq_false rfl, Nat.ne_of_beq_eq_false rfl⟩)
                          · have s138 := hI.vals ⟨13, 138, .int .u32 (x3 : Nat)⟩ (by simp) (dep_of hd 13 (by kernel_rfl))
                            clear hd
                            refine ⟨rfl, ?_⟩
                            unfold Oper.wp
                            go_simp
                            exact hI.call (Below.refl _ _) 14 139 _ (by rw [hsz]; decide) (by decide) (fun p hp => by simp only [List.mem_cons, List.not_mem_nil, or_false] at hp; rcases hp with rfl | rfl | rfl | rfl | rfl | rfl | rfl | rfl | rfl | rfl | rfl | rfl | rfl | rfl | rfl | rfl <;> first | exact .inl ⟨rfl, rfl⟩ | exact .inr ⟨Nat.ne_of_beq_eq_false rfl, Nat.ne_of_beq_eq_false rfl⟩) (fun p hp => by simp only [List.mem_cons, List.not_mem_nil, or_false] at hp; rcases hp with rfl | rfl | rfl | rfl | rfl | rfl | rfl | rfl | rfl | rfl | rfl | rfl | rfl | rfl | rfl | rfl <;> first | exact fun _ => rfl | exact fun h => absurd h (Nat.ne_of_beq_eq_false rfl)) (fun b hb => by simp only [List.mem_cons, List.not_mem_nil, or_false] at hb; rcases hb with rfl | rfl | rfl <;> exact ⟨Nat.ne_of_beq_eq_false rfl, Nat.ne_of_beq_eq_false rfl, Nat.ne_of_beq_eq_false rfl⟩)
                          · have s135 := hI.vals ⟨10, 135, .agg #[.slice k.a0 h.node.length k.c0, .slice k.a1 h.uf.length k.c1, .slice k.a2 h.up.length k.c2, .slice k.a3 h.df.length k.c3, .slice k.a4 h.dn.length k.c4]⟩ (by simp) (dep_of hd 10 (by kernel_rfl))
                            have s136 := hI.vals ⟨11, 136, .slice (some ad) m cb⟩ (by simp) (dep_of hd 11 (by kernel_rfl))
                            have s139 := hI.vals ⟨14, 139, .int .i64 (x3 : Nat)⟩ (by simp) (dep_of hd 14 (by kernel_rfl))
                            clear hd
                            refine ⟨rfl, ?_⟩
                            unfold Oper.wp
                            go_simp
                            refine (HEO.out w x3 (by first | exact hi | exact j2 | exact j3) (HI11.out.below.trans (hI.below.mono HI11.out.below.size))).mono ?_
                            rintro e w' ⟨rfl, hbw⟩
                            exact hI.call (hbw) 15 140 _ (by rw [hsz]; decide) (by decide) (fun p hp => by simp only [List.mem_cons, List.not_mem_nil, or_false] at hp; rcases hp with rfl | rfl | rfl | rfl | rfl | rfl | rfl | rfl | rfl | rfl | rfl | rfl | rfl | rfl | rfl | rfl <;> first | exact .inl ⟨rfl, rfl⟩ | exact .inr ⟨Nat.ne_of_beq_eq_false rfl, Nat.ne_of_beq_eq_false rfl⟩) (fun p hp => by simp only [List.mem_cons, List.not_mem_nil, or_false] at hp; rcases hp with rfl | rfl | rfl | rfl | rfl | rfl | rfl | rfl | rfl | rfl | rfl | rfl | rfl | rfl | rfl | rfl <;> first | exact fun _ => rfl | exact fun h => absurd h (Nat.ne_of_beq_eq_false rfl)) (fun b hb => by simp only [List.mem_cons, List.not_mem_nil, or_false] at hb; rcases hb with rfl | rfl | rfl <;> exact ⟨Nat.ne_of_beq_eq_false rfl, Nat.ne_of_beq_eq_false rfl, Nat.ne_of_beq_eq_false rfl⟩)
                          · clear hd
                            refine ⟨rfl, ?_⟩
                            unfold Oper.wp
                            go_simp
                            exact hI.lay 16 12 #[.int .i64 0, .int .i64 0, .int .i64 0] 123 (by rw [hsz]; decide) (by decide) (fun p hp => by simp only [List.mem_cons, List.not_mem_nil, or_false] at hp; rcases hp with rfl | rfl | rfl | rfl | rfl | rfl | rfl | rfl | rfl | rfl | rfl | rfl | rfl | rfl | rfl | rfl <;> exact ⟨Nat.ne_of_beq_eq_false rfl, Nat.ne_of_beq_eq_false rfl⟩) hL (fun b hb => by simp only [List.mem_cons, List.not_mem_nil, or_false] at hb; rcases hb with rfl | rfl | rfl <;> first | exact fun h => absurd h (Nat.ne_of_beq_eq_false rfl) | exact fun _ => ⟨rfl, rfl, rfl, Nat.ne_of_beq_eq_false rfl⟩) (fun b hb => by simp only [List.mem_cons, List.not_mem_nil, or_false] at hb; rcases hb with rfl | rfl | rfl <;> first | exact fun _ => ⟨Nat.ne_of_beq_eq_false rfl, Nat.ne_of_beq_eq_false rfl⟩ | exact fun h => absurd rfl h)
                          · clear hd
                            refine ⟨rfl, ?_⟩
                            unfold Oper.wp
                            go_simp
                            exact hI.lay 17 13 #[.int .i64 0, .int .i64 0, .int .i64 0] 123 (by rw [hsz]; decide) (by decide) (fun p hp => by simp only [List.mem_cons, List.not_mem_nil, or_false] at hp; rcases hp with rfl | rfl | rfl | rfl | rfl | rfl | rfl | rfl | rfl | rfl | rfl | rfl | rfl | rfl | rfl | rfl <;> exact ⟨Nat.ne_of_beq_eq_false rfl, Nat.ne_of_beq_eq_false rfl⟩) hL (fun b hb => by simp only [List.mem_cons, List.not_mem_nil, or_false] at hb; rcases hb with rfl | rfl | rfl <;> first | exact fun h => absurd h (Nat.ne_of_beq_eq_false rfl) | exact fun _ => ⟨rfl, rfl, rfl, Nat.ne_of_beq_eq_false rfl⟩) (fun b hb => by simp only [List.mem_cons, List.not_mem_nil, or_false] at hb; rcases hb with rfl | rfl | rfl <;> first | exact fun _ => ⟨Nat.ne_of_beq_eq_false rfl, Nat.ne_of_beq_eq_false rfl⟩ | exact fun h => absurd rfl h)
                          · clear hd
                            refine ⟨rfl, ?_⟩
                            unfold Oper.wp
                            go_simp
                            exact hI.lay 18 14 #[.int .i64 0, .int .i64 0, .int .i64 0] 123 (by rw [hsz]; decide) (by decide) (fun p hp => by simp only [List.mem_cons, List.not_mem_nil, or_false] at hp; rcases hp with rfl | rfl | rfl | rfl | rfl | rfl | rfl | rfl | rfl | rfl | rfl | rfl | rfl | rfl | rfl | rfl <;> exact ⟨Nat.ne_of_beq_eq_false rfl, Nat.ne_of_beq_eq_false rfl⟩) hL (fun b hb => by simp only [List.mem_cons, List.not_mem_nil, or_false] at hb; rcases hb with rfl | rfl | rfl <;> first | exact fun h => absurd h (Nat.ne_of_beq_eq_false rfl) | exact fun _ => ⟨rfl, rfl, rfl, Nat.ne_of_beq_eq_false rfl⟩) (fun b hb => by simp only [List.mem_cons, List.not_mem_nil, or_false] at hb; rcases hb with rfl | rfl | rfl <;> first | exact fun _ => ⟨Nat.ne_of_beq_eq_false rfl, Nat.ne_of_beq_eq_false rfl⟩ | exact fun h => absurd rfl h)
                          · have hl16 : L 16 = true := dep_of hd 16 (by kernel_rfl)
                            have s128 := hI.vals ⟨3, 128, .agg #[.int .i64 (tailOf h i), .int .i64 (headOf h i), .int .i64 (rkOf h i)]⟩ (by simp) (dep_of hd 3 (by kernel_rfl))
                            obtain ⟨G, hG1, hG2⟩ := hI.boxes
                            obtain ⟨q1, q2, q3⟩ := hG1 ⟨16, 19, 12, #[.int .i64 0, .int .i64 0, .int .i64 0], #[.int .i64 (tailOf h i), .int .i64 (headOf h i), .int .i64 (rkOf h i)], 123⟩ (by simp) hl16
                            dsimp only at q1 q2 q3
                            rw [if_neg (by rw [hL]; exact Bool.false_ne_true)] at q2
                            generalize G 12 = gg at *
                            have z0 : w.cell? ⟨gg, 0, none⟩ = some (.int .i64 0) := q2.cell 0
                            have z1 : w.cell? ⟨gg, 1, none⟩ = some (.int .i64 0) := q2.cell 1
                            have z2 : w.cell? ⟨gg, 2, none⟩ = some (.int .i64 0) := q2.cell 2
                            have y0 := q2.frozen 0
                            have y1 := q2.frozen 1
                            have y2 := q2.frozen 2
                            have hfin := ((q2.set_ 0 (.int .i64 (tailOf h i))).set_ 1 (.int .i64 (headOf h i))).set_ 2 (.int .i64 (rkOf h i))
                            simp only [List.setIfInBounds_toArray, List.set_cons_zero, List.set_cons_succ] at hfin
                            have HF := Lib.hid hfin
                            clear hd hfin q2 hG1 hG2
                            refine ⟨rfl, ?_⟩
                            unfold Oper.wp
                            go_simp
                            refine hI.fill 19 ⟨16, 19, 12, #[.int .i64 0, .int .i64 0, .int .i64 0], #[.int .i64 (tailOf h i), .int .i64 (headOf h i), .int .i64 (rkOf h i)], 123⟩ (by simp) rfl hl16 hL q1 ⟨rfl, rfl, rfl, by simp [World.setCell]⟩ (fun q hq => ?_) HF.out (fun p hp => by simp only [List.mem_cons, List.not_mem_nil, or_false] at hp; rcases hp with rfl | rfl | rfl | rfl | rfl | rfl | rfl | rfl | rfl | rfl | rfl | rfl | rfl | rfl | rfl | rfl <;> exact Nat.ne_of_beq_eq_false rfl) (fun b hb => by simp only [List.mem_cons, List.not_mem_nil, or_false] at hb; rcases hb with rfl | rfl | rfl <;> first | exact fun h => absurd h (Nat.ne_of_beq_eq_false rfl) | exact fun _ => hl16) (fun b hb => by simp only [List.mem_cons, List.not_mem_nil, or_false] at hb; rcases hb with rfl | rfl | rfl <;> first | exact ⟨Nat.ne_of_beq_eq_false rfl, fun _ => ⟨rfl, rfl, rfl⟩, fun h => absurd rfl h⟩ | exact ⟨Nat.ne_of_beq_eq_false rfl, fun h => absurd h (Nat.ne_of_beq_eq_false rfl), fun _ => Nat.ne_of_beq_eq_false rfl⟩)
                            rw [Below.heap_setCell _ _ _ q (by exact hq), Below.heap_setCell _ _ _ q (by exact hq), Below.heap_setCell _ _ _ q (by exact hq)]
                          · have hl17 : L 17 = true := dep_of hd 17 (by kernel_rfl)
                            have s134 := hI.vals ⟨9, 134, .agg #[.int .i64 (tailOf h x2), .int .i64 (headOf h x2), .int .i64 (rkOf h x2)]⟩ (by simp) (dep_of hd 9 (by kernel_rfl))
                            obtain ⟨G, hG1, hG2⟩ := hI.boxes
                            obtain ⟨q1, q2, q3⟩ := hG1 ⟨17, 20, 13, #[.int .i64 0, .int .i64 0, .int .i64 0], #[.int .i64 (tailOf h x2), .int .i64 (headOf h x2), .int .i64 (rkOf h x2)], 123⟩ (by simp) hl17
                            dsimp only at q1 q2 q3
                            rw [if_neg (by rw [hL]; exact Bool.false_ne_true)] at q2
                            generalize G 13 = gg at *
                            have z0 : w.cell? ⟨gg, 0, none⟩ = some (.int .i64 0) := q2.cell 0
                            have z1 : w.cell? ⟨gg, 1, none⟩ = some (.int .i64 0) := q2.cell 1
                            have z2 : w.cell? ⟨gg, 2, none⟩ = some (.int .i64 0) := q2.cell 2
                            have y0 := q2.frozen 0
                            have y1 := q2.frozen 1
                            have y2 := q2.frozen 2
                            have hfin := ((q2.set_ 0 (.int .i64 (tailOf h x2))).set_ 1 (.int .i64 (headOf h x2))).set_ 2 (.int .i64 (rkOf h x2))
                            simp only [List.setIfInBounds_toArray, List.set_cons_zero, List.set_cons_succ] at hfin
                            have HF := Lib.hid hfin
                            clear hd hfin q2 hG1 hG2
                            refine ⟨rfl, ?_⟩
                            unfold Oper.wp
                            go_simp
                            refine hI.fill 20 ⟨17, 20, 13, #[.int .i64 0, .int .i64 0, .int .i64 0], #[.int .i64 (tailOf h x2), .int .i64 (headOf h x2), .int .i64 (rkOf h x2)], 123⟩ (by simp) rfl hl17 hL q1 ⟨rfl, rfl, rfl, by simp [World.setCell]⟩ (fun q hq => ?_) HF.out (fun p hp => by simp only [List.mem_cons, List.not_mem_nil, or_false] at hp; rcases hp with rfl | rfl | rfl | rfl | rfl | rfl | rfl | rfl | rfl | rfl | rfl | rfl | rfl | rfl | rfl | rfl <;> exact Nat.ne_of_beq_eq_false rfl) (fun b hb => by simp only [List.mem_cons, List.not_mem_nil, or_false] at hb; rcases hb with rfl | rfl | rfl <;> first | exact fun h => absurd h (Nat.ne_of_beq_eq_false rfl) | exact fun _ => hl17) (fun b hb => by simp only [List.mem_cons, List.not_mem_nil, or_false] at hb; rcases hb with rfl | rfl | rfl <;> first | exact ⟨Nat.ne_of_beq_eq_false rfl, fun _ => ⟨rfl, rfl, rfl⟩, fun h => absurd rfl h⟩ | exact ⟨Nat.ne_of_beq_eq_false rfl, fun h => absurd h (Nat.ne_of_beq_eq_false rfl), fun _ => Nat.ne_of_beq_eq_false rfl⟩)
                            rw [Below.heap_setCell _ _ _ q (by exact hq), Below.heap_setCell _ _ _ q (by exact hq), Below.heap_setCell _ _ _ q (by exact hq)]
                          · have hl18 : L 18 = true := dep_of hd 18 (by kernel_rfl)
                            have s140 := hI.vals ⟨15, 140, .agg #[.int .i64 (tailOf h x3), .int .i64 (headOf h x3), .int .i64 (rkOf h x3)]⟩ (by simp) (dep_of hd 15 (by kernel_rfl))
                            obtain ⟨G, hG1, hG2⟩ := hI.boxes
                            obtain ⟨q1, q2, q3⟩ := hG1 ⟨18, 21, 14, #[.int .i64 0, .int .i64 0, .int .i64 0], #[.int .i64 (tailOf h x3), .int .i64 (headOf h x3), .int .i64 (rkOf h x3)], 123⟩ (by simp) hl18
                            dsimp only at q1 q2 q3
                            rw [if_neg (by rw [hL]; exact Bool.false_ne_true)] at q2
                            generalize G 14 = gg at *
                            have z0 : w.cell? ⟨gg, 0, none⟩ = some (.int .i64 0) := q2.cell 0
                            have z1 : w.cell? ⟨gg, 1, none⟩ = some (.int .i64 0) := q2.cell 1
                            have z2 : w.cell? ⟨gg, 2, none⟩ = some (.int .i64 0) := q2.cell 2
                            have y0 := q2.frozen 0
                            have y1 := q2.frozen 1
                            have y2 := q2.frozen 2
                            have hfin := ((q2.set_ 0 (.int .i64 (tailOf h x3))).set_ 1 (.int .i64 (headOf h x3))).set_ 2 (.int .i64 (rkOf h x3))
                            simp only [List.setIfInBounds_toArray, List.set_cons_zero, List.set_cons_succ] at hfin
                            have HF := Lib.hid hfin
                            clear hd hfin q2 hG1 hG2
                            refine ⟨rfl, ?_⟩
                            unfold Oper.wp
                            go_simp
                            refine hI.fill 21 ⟨18, 21, 14, #[.int .i64 0, .int .i64 0, .int .i64 0], #[.int .i64 (tailOf h x3), .int .i64 (headOf h x3), .int .i64 (rkOf h x3)], 123⟩ (by simp) rfl hl18 hL q1 ⟨rfl, rfl, rfl, by simp [World.setCell]⟩ (fun q hq => ?_) HF.out (fun p hp => by simp only [List.mem_cons, List.not_mem_nil, or_false] at hp; rcases hp with rfl | rfl | rfl | rfl | rfl | rfl | rfl | rfl | rfl | rfl | rfl | rfl | rfl | rfl | rfl | rfl <;> exact Nat.ne_of_beq_eq_false rfl) (fun b hb => by simp only [List.mem_cons, List.not_mem_nil, or_false] at hb; rcases hb with rfl | rfl | rfl <;> first | exact fun h => absurd h (Nat.ne_of_beq_eq_false rfl) | exact fun _ => hl18) (fun b hb => by simp only [List.mem_cons, List.not_mem_nil, or_false] at hb; rcases hb with rfl | rfl | rfl <;> first | exact ⟨Nat.ne_of_beq_eq_false rfl, fun _ => ⟨rfl, rfl, rfl⟩, fun h => absurd rfl h⟩ | exact ⟨Nat.ne_of_beq_eq_false rfl, fun h => absurd h (Nat.ne_of_beq_eq_false rfl), fun _ => Nat.ne_of_beq_eq_false rfl⟩)
                            rw [Below.heap_setCell _ _ _ q (by exact hq), Below.heap_setCell _ _ _ q (by exact hq), Below.heap_setCell _ _ _ q (by exact hq)]
                        case fin =>
                          intro L a w hI hall
                          obtain ⟨G, hG, -⟩ := hI.boxes
                          obtain ⟨p1, c1, -⟩ := hG ⟨16, 19, 12, #[.int .i64 0, .int .i64 0, .int .i64 0], #[.int .i64 (tailOf h i), .int .i64 (headOf h i), .int .i64 (rkOf h i)], 123⟩ (by simp) (hall 16 (show 16 < 22 by decide))
                          obtain ⟨p2, c2, -⟩ := hG ⟨17, 20, 13, #[.int .i64 0, .int .i64 0, .int .i64 0], #[.int .i64 (tailOf h x2), .int .i64 (headOf h x2), .int .i64 (rkOf h x2)], 123⟩ (by simp) (hall 17 (show 17 < 22 by decide))
                          obtain ⟨p3, c3, -⟩ := hG ⟨18, 21, 14, #[.int .i64 0, .int .i64 0, .int .i64 0], #[.int .i64 (tailOf h x3), .int .i64 (headOf h x3), .int .i64 (rkOf h x3)], 123⟩ (by simp) (hall 18 (show 18 < 22 by decide))
                          dsimp only at p1 p2 p3 c1 c2 c3
                          rw [if_pos (hall 19 (show 19 < 22 by decide))] at c1
                          rw [if_pos (hall 20 (show 20 < 22 by decide))] at c2
                          rw [if_pos (hall 21 (show 21 < 22 by decide))] at c3
                          have he := arr_of_same hI.size [12, 13, 14, 125, 126, 127, 128, 129, 130, 131, 132, 133, 134, 135, 136, 137, 138, 139, 140] hI.same
                          simp only [List.foldl_cons, List.foldl_nil] at he
                          rw [p1, p2, p3] at he
                          generalize a.tmps.getD 125 undef = u125 at he
                          generalize a.tmps.getD 126 undef = u126 at he
                          generalize a.tmps.getD 127 undef = u127 at he
                          generalize a.tmps.getD 128 undef = u128 at he
                          generalize a.tmps.getD 129 undef = u129 at he
                          generalize a.tmps.getD 130 undef = u130 at he
                          generalize a.tmps.getD 131 undef = u131 at he
                          generalize a.tmps.getD 132 undef = u132 at he
                          generalize a.tmps.getD 133 undef = u133 at he
                          generalize a.tmps.getD 134 undef = u134 at he
                          generalize a.tmps.getD 135 undef = u135 at he
                          generalize a.tmps.getD 136 undef = u136 at he
                          generalize a.tmps.getD 137 undef = u137 at he
                          generalize a.tmps.getD 138 undef = u138 at he
                          generalize a.tmps.getD 139 undef = u139 at he
                          generalize a.tmps.getD 140 undef = u140 at he
                          rw [hT0] at he
                          simp only [List.setIfInBounds_toArray, List.set_cons_zero, List.set_cons_succ] at he
                          have hdfr := hI.dfr
                          have hbw := hI.below
                          clear hI hall hG p1 p2 p3
                          obtain ⟨T, D⟩ := a
                          dsimp only at he hdfr
                          subst hdfr
                          subst he
                          generalize G 12 = y1 at *
                          generalize G 13 = y2 at *
                          generalize G 14 = y3 at *
                          have HC1 := Lib.hid c1
                          have HC2 := Lib.hid c2
                          have HC3 := Lib.hid c3
                          have HBW := Lib.hid hbw
                          clear c1 c2 c3 hbw hT0 b1 b2 b3 b7 hsz
                          go_wp2_with fail
                          go_meet
                          exact ⟨_, _, _, rfl, rfl, rfl, HC1.out, HC2.out, HC3.out, HBW.out⟩
                      case rest =>
                        obtain ⟨g1, g2, g3, rfl, rfl, rfl, hc1, hc2, hc3, hb12⟩ := hcut
                        have HI12 := Lib.hid (HI11.out.step hb12)
                        have HG12 := Lib.hid (HG11.out.step hb12)
                        have HH12 := Lib.hid (HH11.out.step hb12)
                        have HZ12 : Hid (W.heap.size + 2 ≤ wc.heap.size) := Lib.hid (Nat.le_trans HZ11.out hb12.size)
                        have HE1 := Lib.hid hc1
                        have HE2 := Lib.hid hc2
                        have HE3 := Lib.hid hc3
                        clear hb12 hc1 hc2 hc3 HI11 HG11 HH11 HZ11
                        generalize hW12 : wc = W12 at *
                        clear hW12
                        have y1 : W12.cell? ⟨g1, 0, none⟩ = some (.int .i64 (tailOf h i)) := HE1.out.cell 0
                        have y2 : W12.cell? ⟨g1, 1, none⟩ = some (.int .i64 (headOf h i)) := HE1.out.cell 1
                        have y3 : W12.cell? ⟨g2, 0, none⟩ = some (.int .i64 (tailOf h x2)) := HE2.out.cell 0
                        have y4 : W12.cell? ⟨g2, 2, none⟩ = some (.int .i64 (rkOf h x2)) := HE2.out.cell 2
                        have y5 : W12.cell? ⟨g3, 1, none⟩ = some (.int .i64 (headOf h x3)) := HE3.out.cell 1
                        have y6 : W12.cell? ⟨g3, 2, none⟩ = some (.int .i64 (rkOf h x3)) := HE3.out.cell 2
                        generalize tailOf h i = ti at *
                        generalize headOf h i = hi' at *
                        generalize tailOf h x2 = t2 at *
                        generalize rkOf h x2 = r2 at *
                        generalize headOf h x3 = h3 at *
                        generalize rkOf h x3 = r3 at *
                        by_cases q1 : t2 = ti
                        · have p1 : (t2 == ti) = true := beq_iff_eq.2 q1
                          have p1n : (t2 != ti) = false := by rw [bne, p1]; rfl
                          by_cases q2 : h3 = hi'
                          · have p2 : (h3 == hi') = true := beq_iff_eq.2 q2
                            have p2n : (h3 != hi') = false := by rw [bne, p2]; rfl
                            by_cases q3 : r2 = r3
                            · have p3 : (r2 == r3) = true := beq_iff_eq.2 q3
                              have p3n : (r2 != r3) = false := by rw [bne, p3]; rfl
                              have HSF : Hid (shapeB h i = true) := Lib.hid (by rw [HS2.out]; exact decide_eq_true ⟨q1, q2, q3⟩)
                              clear q1 q2 q3
                              go_upto_region 17 with fail
                              clear p1 p1n p2 p2n p3 p3n y1 y2 y3 y4 y5 y6 HE1 HE2 HE3 HS2
                              have d0 : W12.cell? ⟨W.heap.size, 0, none⟩ = some (.slice k.a0 h.node.length k.c0) := HI12.out.hier.cell 0
                              have d1 : W12.cell? ⟨W.heap.size, 1, none⟩ = some (.slice k.a1 h.uf.length k.c1) := HI12.out.hier.cell 1
                              have d2 : W12.cell? ⟨W.heap.size, 2, none⟩ = some (.slice k.a2 h.up.length k.c2) := HI12.out.hier.cell 2
                              have d3 : W12.cell? ⟨W.heap.size, 3, none⟩ = some (.slice k.a3 h.df.length k.c3) := HI12.out.hier.cell 3
                              have d4 : W12.cell? ⟨W.heap.size, 4, none⟩ = some (.slice k.a4 h.dn.length k.c4) := HI12.out.hier.cell 4
                              have l2 : W12.cell? ⟨gl, 2, none⟩ = some (.int .u32 (x2 : Nat)) := HI12.out.link.cell 2
                              have l3 : W12.cell? ⟨gl, 3, none⟩ = some (.int .u32 (x3 : Nat)) := HI12.out.link.cell 3
                              have HL2 : Hid (∀ w, Below W12.heap.size W12 w → Calls Tryd.prog 58 #[.agg #[.slice k.a0 h.node.length k.c0, .slice k.a1 h.uf.length k.c1, .slice k.a2 h.up.length k.c2, .slice k.a3 h.df.length k.c3, .slice k.a4 h.dn.length k.c4], .int .i64 (x2 : Nat)] w fun e w' => e = .returned (linkV (lkOf h x2)) ∧ Below W12.heap.size W12 w') := Lib.hid fun w hb => (HLK.out w x2 (by first | exact j2 | exact j3) (HI12.out.below.trans (hb.mono HI12.out.below.size))).mono fun e w' he => ⟨he.1, hb.trans (he.2.mono hb.size)⟩
                              have HL3 : Hid (∀ w, Below W12.heap.size W12 w → Calls Tryd.prog 58 #[.agg #[.slice k.a0 h.node.length k.c0, .slice k.a1 h.uf.length k.c1, .slice k.a2 h.up.length k.c2, .slice k.a3 h.df.length k.c3, .slice k.a4 h.dn.length k.c4], .int .i64 (x3 : Nat)] w fun e w' => e = .returned (linkV (lkOf h x3)) ∧ Below W12.heap.size W12 w') := Lib.hid fun w hb => (HLK.out w x3 (by first | exact j2 | exact j3) (HI12.out.below.trans (hb.mono HI12.out.below.size))).mono fun e w' he => ⟨he.1, hb.trans (he.2.mono hb.size)⟩
                              go_cut [15, 16] from 161 to 172 (fun a b wx => a = .int .u64 (lkOf h x2).w ∧ b = .int .u64 (lkOf h x3).w ∧ Below W12.heap.size W12 wx)
                              case first =>
                                have HX : Hid (Below W12.heap.size W12 W12) := Lib.hid (Below.refl _ _)
                                have L2 := Lib.hid l2
                                have L3 := Lib.hid l3
                                have D0 := Lib.hid d0
                                have D1 := Lib.hid d1
                                have D2 := Lib.hid d2
                                have D3 := Lib.hid d3
                                have D4 := Lib.hid d4
                                unfold linkV at HL2 HL3
                                generalize lkOf h x2 = Y2 at *
                                generalize lkOf h x3 = Y3 at *
                                obtain ⟨y0, y1, y2, y3⟩ := Y2
                                obtain ⟨z0, z1, z2, z3⟩ := Y3
                                dsimp only at *
                                have hf2 := fun w => field_w (y0 : Int) (y2 : Int) (y3 : Int) y1 w
                                have hf3 := fun w => field_w (z0 : Int) (z2 : Int) (z3 : Int) z1 w
                                go_region_held3 (fun w' => w'.cell? ⟨gl, 2, none⟩ = some (.int .u32 (x2 : Nat)) ∧ w'.cell? ⟨gl, 3, none⟩ = some (.int .u32 (x3 : Nat)) ∧ w'.cell? ⟨W.heap.size, 0, none⟩ = some (.slice k.a0 h.node.length k.c0) ∧ w'.cell? ⟨W.heap.size, 1, none⟩ = some (.slice k.a1 h.uf.length k.c1) ∧ w'.cell? ⟨W.heap.size, 2, none⟩ = some (.slice k.a2 h.up.length k.c2) ∧ w'.cell? ⟨W.heap.size, 3, none⟩ = some (.slice k.a3 h.df.length k.c3) ∧ w'.cell? ⟨W.heap.size, 4, none⟩ = some (.slice k.a4 h.dn.length k.c4)) (first | with_reducible exact ⟨l2, l3, d0, d1, d2, d3, d4⟩ | go_keep) (first
                                  | (go_at_call 58; (with_reducible refine (HL2.out _ ?_).mono ?_); (first | exact HX.out | exact HX.out.drew); rintro e v0 ⟨rfl, hx5⟩; have l2 := cell_below hx5 L2.out; have l3 := cell_below hx5 L3.out; have d0 := cell_below hx5 D0.out; have d1 := cell_below hx5 D1.out; have d2 := cell_below hx5 D2.out; have d3 := cell_below hx5 D3.out; have d4 := cell_below hx5 D4.out; have HX := Lib.hid hx5; clear hx5)
                                  | (go_at_call 58; (with_reducible refine (HL3.out _ ?_).mono ?_); (first | exact HX.out | exact HX.out.drew); rintro e v0 ⟨rfl, hx5⟩; have l2 := cell_below hx5 L2.out; have l3 := cell_below hx5 L3.out; have d0 := cell_below hx5 D0.out; have d1 := cell_below hx5 D1.out; have d2 := cell_below hx5 D2.out; have d3 := cell_below hx5 D3.out; have d4 := cell_below hx5 D4.out; have HX := Lib.hid hx5; clear hx5))
                                all_goals
                                  rename_i hHeld
                                  clear hHeld
                                  go_wp2_with fail
                                  go_meet
                                  exact ⟨rfl, rfl, HX.out⟩
                              case rest =>
                                obtain ⟨rfl, rfl, hb13⟩ := hcut
                                have HI13 := Lib.hid (HI12.out.step hb13)
                                have HH13 := Lib.hid (HH12.out.step hb13)
                                clear hb13 HI12 HH12 HG12 HZ12 d0 d1 d2 d3 d4 l2 l3 HL2 HL3
                                generalize hW13 : wc = W13 at *
                                clear hW13
                                have b2w := (HEI.out x2 j2)
                                have b3w := (HEI.out x3 j3)
                                have k2 := b2w.1.k.w
                                have k3 := b3w.1.k.w
                                rw [b2w.2.lk] at k2
                                rw [b3w.2.lk] at k3
                                clear b2w b3w
                                generalize (lkOf h x2).w = y at *
                                generalize (lkOf h x3).w = z at *
                                unfold topI at HWT
                                have l1 : W13.cell? ⟨gl, 1, none⟩ = some (.int .u64 x1) := HI13.out.link.cell 1
                                by_cases q1 : x1 ≤ 140737488355328
                                · have p1 : decide ((140737488355328 : Int) < x1) = false := decide_eq_false (by omega)
                                  by_cases q2 : y ≤ 140737488355328
                                  · have p2 : decide ((140737488355328 : Int) < y) = false := decide_eq_false (by omega)
                                    by_cases q3 : z ≤ 140737488355328
                                    · have p3 : decide ((140737488355328 : Int) < z) = false := decide_eq_false (by omega)
                                      have w7 : IntKind.u64.wrap (y + z) = y + z := by rw [IntKind.wrap_u64]; omega
                                      by_cases q4 : y + z = x1
                                      · have p4 : (y + z == x1) = true := beq_iff_eq.2 q4
                                        have p4n : (y + z != x1) = false := by rw [bne, p4]; rfl
                                        have HW2 : Hid (weightB h i = true) := Lib.hid (by rw [HWT.out]; exact decide_eq_true ⟨q1, q2, q3, q4⟩)
                                        clear q1 q2 q3 q4 k2 k3
                                        have b0 : W13.cell? ⟨W.heap.size + 1, 0, none⟩ = some (.int .i64 0) := HI13.out.res.cell 0
                                        have b1 : W13.cell? ⟨W.heap.size + 1, 1, none⟩ = some (.slice none 0 0) := HI13.out.res.cell 1
                                        have f0 := HI13.out.res.frozen 0
                                        have f1 := HI13.out.res.frozen 1
                                        have hfin := (HI13.out.res.set_ 0 (.int .i64 0)).set_ 1 (.slice none 0 0)
                                        have hend := HI13.out.good
                                        have HFN : Hid ((linkB h i).map (fun c => (c, some ((4 : Int), (i : Int)))) = none) := Lib.hid (by rw [HLB.out, HSF.out, HW2.out]; rfl)
                                        rw [← HFN.out] at hend
                                        have HEND := Lib.hid hend
                                        clear hend
                                        have r0 : ((W13.setCell ⟨W.heap.size + 1, 0, none⟩ (.int .i64 0)).setCell ⟨W.heap.size + 1, 1, none⟩ (.slice none 0 0)).cell? ⟨W.heap.size + 1, 0, none⟩ = some (.int .i64 0) := hfin.cell 0
                                        have r1 : ((W13.setCell ⟨W.heap.size + 1, 0, none⟩ (.int .i64 0)).setCell ⟨W.heap.size + 1, 1, none⟩ (.slice none 0 0)).cell? ⟨W.heap.size + 1, 1, none⟩ = some (.slice none 0 0) := hfin.cell 1
                                        clear hfin
                                        go_wp2_with fail
                                        rw [HQ0.out]
                                        refine bodyPost_ret (v := .agg #[.int .i64 0, .slice none 0 0]) ?hres rfl HEND.out
                                        case hres => simp [results, Tryd.results40, go_sem, r0, r1]
                                      · have p4 : (y + z == x1) = false := beq_eq_false_iff_ne.2 q4
                                        have p4n : (y + z != x1) = true := by rw [bne, p4]; rfl
                                        have HW2 : Hid (weightB h i = false) := Lib.hid (by rw [HWT.out]; exact decide_eq_false (fun hh => q4 hh.2.2.2))
                                        clear q1 q2 q3 q4 k2 k3
                                        have b0 : W13.cell? ⟨W.heap.size + 1, 0, none⟩ = some (.int .i64 0) := HI13.out.res.cell 0
                                        have b1 : W13.cell? ⟨W.heap.size + 1, 1, none⟩ = some (.slice none 0 0) := HI13.out.res.cell 1
                                        have f0 := HI13.out.res.frozen 0
                                        have f1 := HI13.out.res.frozen 1
                                        have q0 : W13.cell? ⟨T, 0, none⟩ = some (.int .i64 8) := HH13.out.blk.cell 0
                                        have q1 : W13.cell? ⟨T, 1, none⟩ = some (.slice (some ⟨ht, 0, none⟩) 1 ct) := HH13.out.blk.cell 1
                                        have hfin := (HI13.out.res.set_ 0 (.int .i64 8)).set_ 1 (.slice (some ⟨ht, 0, none⟩) 1 ct)
                                        have hend := HI13.out.bad HH13.out
                                        have HFN : Hid ((linkB h i).map (fun c => (c, some ((4 : Int), (i : Int)))) = some (8, some (4, (i : Int)))) := Lib.hid (by rw [HLB.out, HSF.out, HW2.out]; rfl)
                                        rw [← HFN.out] at hend
                                        have HEND := Lib.hid hend
                                        clear hend
                                        have r0 : ((W13.setCell ⟨W.heap.size + 1, 0, none⟩ (.int .i64 8)).setCell ⟨W.heap.size + 1, 1, none⟩ (.slice (some ⟨ht, 0, none⟩) 1 ct)).cell? ⟨W.heap.size + 1, 0, none⟩ = some (.int .i64 8) := hfin.cell 0
                                        have r1 : ((W13.setCell ⟨W.heap.size + 1, 0, none⟩ (.int .i64 8)).setCell ⟨W.heap.size + 1, 1, none⟩ (.slice (some ⟨ht, 0, none⟩) 1 ct)).cell? ⟨W.heap.size + 1, 1, none⟩ = some (.slice (some ⟨ht, 0, none⟩) 1 ct) := hfin.cell 1
                                        clear hfin
                                        go_wp2_with fail
                                        rw [HQ0.out]
                                        refine bodyPost_ret (v := .agg #[.int .i64 8, .slice (some ⟨ht, 0, none⟩) 1 ct]) ?hres rfl HEND.out
                                        case hres => simp [results, Tryd.results40, go_sem, r0, r1]
                                    · have p3 : decide ((140737488355328 : Int) < z) = true := decide_eq_true (by omega)
                                      have HW2 : Hid (weightB h i = false) := Lib.hid (by rw [HWT.out]; exact decide_eq_false (fun hh => q3 hh.2.2.1))
                                      clear q1 q2 q3 k2 k3
                                      have b0 : W13.cell? ⟨W.heap.size + 1, 0, none⟩ = some (.int .i64 0) := HI13.out.res.cell 0
                                      have b1 : W13.cell? ⟨W.heap.size + 1, 1, none⟩ = some (.slice none 0 0) := HI13.out.res.cell 1
                                      have f0 := HI13.out.res.frozen 0
                                      have f1 := HI13.out.res.frozen 1
                                      have q0 : W13.cell? ⟨T, 0, none⟩ = some (.int .i64 8) := HH13.out.blk.cell 0
                                      have q1 : W13.cell? ⟨T, 1, none⟩ = some (.slice (some ⟨ht, 0, none⟩) 1 ct) := HH13.out.blk.cell 1
                                      have hfin := (HI13.out.res.set_ 0 (.int .i64 8)).set_ 1 (.slice (some ⟨ht, 0, none⟩) 1 ct)
                                      have hend := HI13.out.bad HH13.out
                                      have HFN : Hid ((linkB h i).map (fun c => (c, some ((4 : Int), (i : Int)))) = some (8, some (4, (i : Int)))) := Lib.hid (by rw [HLB.out, HSF.out, HW2.out]; rfl)
                                      rw [← HFN.out] at hend
                                      have HEND := Lib.hid hend
                                      clear hend
                                      have r0 : ((W13.setCell ⟨W.heap.size + 1, 0, none⟩ (.int .i64 8)).setCell ⟨W.heap.size + 1, 1, none⟩ (.slice (some ⟨ht, 0, none⟩) 1 ct)).cell? ⟨W.heap.size + 1, 0, none⟩ = some (.int .i64 8) := hfin.cell 0
                                      have r1 : ((W13.setCell ⟨W.heap.size + 1, 0, none⟩ (.int .i64 8)).setCell ⟨W.heap.size + 1, 1, none⟩ (.slice (some ⟨ht, 0, none⟩) 1 ct)).cell? ⟨W.heap.size + 1, 1, none⟩ = some (.slice (some ⟨ht, 0, none⟩) 1 ct) := hfin.cell 1
                                      clear hfin
                                      go_wp2_with fail
                                      rw [HQ0.out]
                                      refine bodyPost_ret (v := .agg #[.int .i64 8, .slice (some ⟨ht, 0, none⟩) 1 ct]) ?hres rfl HEND.out
                                      case hres => simp [results, Tryd.results40, go_sem, r0, r1]
                                  · have p2 : decide ((140737488355328 : Int) < y) = true := decide_eq_true (by omega)
                                    have HW2 : Hid (weightB h i = false) := Lib.hid (by rw [HWT.out]; exact decide_eq_false (fun hh => q2 hh.2.1))
                                    clear q1 q2 k2 k3
                                    have b0 : W13.cell? ⟨W.heap.size + 1, 0, none⟩ = some (.int .i64 0) := HI13.out.res.cell 0
                                    have b1 : W13.cell? ⟨W.heap.size + 1, 1, none⟩ = some (.slice none 0 0) := HI13.out.res.cell 1
                                    have f0 := HI13.out.res.frozen 0
                                    have f1 := HI13.out.res.frozen 1
                                    have q0 : W13.cell? ⟨T, 0, none⟩ = some (.int .i64 8) := HH13.out.blk.cell 0
                                    have q1 : W13.cell? ⟨T, 1, none⟩ = some (.slice (some ⟨ht, 0, none⟩) 1 ct) := HH13.out.blk.cell 1
                                    have hfin := (HI13.out.res.set_ 0 (.int .i64 8)).set_ 1 (.slice (some ⟨ht, 0, none⟩) 1 ct)
                                    have hend := HI13.out.bad HH13.out
                                    have HFN : Hid ((linkB h i).map (fun c => (c, some ((4 : Int), (i : Int)))) = some (8, some (4, (i : Int)))) := Lib.hid (by rw [HLB.out, HSF.out, HW2.out]; rfl)
                                    rw [← HFN.out] at hend
                                    have HEND := Lib.hid hend
                                    clear hend
                                    have r0 : ((W13.setCell ⟨W.heap.size + 1, 0, none⟩ (.int .i64 8)).setCell ⟨W.heap.size + 1, 1, none⟩ (.slice (some ⟨ht, 0, none⟩) 1 ct)).cell? ⟨W.heap.size + 1, 0, none⟩ = some (.int .i64 8) := hfin.cell 0
                                    have r1 : ((W13.setCell ⟨W.heap.size + 1, 0, none⟩ (.int .i64 8)).setCell ⟨W.heap.size + 1, 1, none⟩ (.slice (some ⟨ht, 0, none⟩) 1 ct)).cell? ⟨W.heap.size + 1, 1, none⟩ = some (.slice (some ⟨ht, 0, none⟩) 1 ct) := hfin.cell 1
                                    clear hfin
                                    go_wp2_with fail
                                    rw [HQ0.out]
                                    refine bodyPost_ret (v := .agg #[.int .i64 8, .slice (some ⟨ht, 0, none⟩) 1 ct]) ?hres rfl HEND.out
                                    case hres => simp [results, Tryd.results40, go_sem, r0, r1]
                                · have p1 : decide ((140737488355328 : Int) < x1) = true := decide_eq_true (by omega)
                                  have HW2 : Hid (weightB h i = false) := Lib.hid (by rw [HWT.out]; exact decide_eq_false (fun hh => q1 hh.1))
                                  clear q1 k2 k3
                                  have b0 : W13.cell? ⟨W.heap.size + 1, 0, none⟩ = some (.int .i64 0) := HI13.out.res.cell 0
                                  have b1 : W13.cell? ⟨W.heap.size + 1, 1, none⟩ = some (.slice none 0 0) := HI13.out.res.cell 1
                                  have f0 := HI13.out.res.frozen 0
                                  have f1 := HI13.out.res.frozen 1
                                  have q0 : W13.cell? ⟨T, 0, none⟩ = some (.int .i64 8) := HH13.out.blk.cell 0
                                  have q1 : W13.cell? ⟨T, 1, none⟩ = some (.slice (some ⟨ht, 0, none⟩) 1 ct) := HH13.out.blk.cell 1
                                  have hfin := (HI13.out.res.set_ 0 (.int .i64 8)).set_ 1 (.slice (some ⟨ht, 0, none⟩) 1 ct)
                                  have hend := HI13.out.bad HH13.out
                                  have HFN : Hid ((linkB h i).map (fun c => (c, some ((4 : Int), (i : Int)))) = some (8, some (4, (i : Int)))) := Lib.hid (by rw [HLB.out, HSF.out, HW2.out]; rfl)
                                  rw [← HFN.out] at hend
                                  have HEND := Lib.hid hend
                                  clear hend
                                  have r0 : ((W13.setCell ⟨W.heap.size + 1, 0, none⟩ (.int .i64 8)).setCell ⟨W.heap.size + 1, 1, none⟩ (.slice (some ⟨ht, 0, none⟩) 1 ct)).cell? ⟨W.heap.size + 1, 0, none⟩ = some (.int .i64 8) := hfin.cell 0
                                  have r1 : ((W13.setCell ⟨W.heap.size + 1, 0, none⟩ (.int .i64 8)).setCell ⟨W.heap.size + 1, 1, none⟩ (.slice (some ⟨ht, 0, none⟩) 1 ct)).cell? ⟨W.heap.size + 1, 1, none⟩ = some (.slice (some ⟨ht, 0, none⟩) 1 ct) := hfin.cell 1
                                  clear hfin
                                  go_wp2_with fail
                                  rw [HQ0.out]
                                  refine bodyPost_ret (v := .agg #[.int .i64 8, .slice (some ⟨ht, 0, none⟩) 1 ct]) ?hres rfl HEND.out
                                  case hres => simp [results, Tryd.results40, go_sem, r0, r1]
                            · have p3 : (r2 == r3) = false := beq_eq_false_iff_ne.2 q3
                              have p3n : (r2 != r3) = true := by rw [bne, p3]; rfl
                              have hsf : shapeB h i = false := by rw [HS2.out]; exact decide_eq_false (fun hh => q3 hh.2.2)
                              clear q1 q2 q3
                              have b0 : W12.cell? ⟨W.heap.size + 1, 0, none⟩ = some (.int .i64 0) := HI12.out.res.cell 0
                              have b1 : W12.cell? ⟨W.heap.size + 1, 1, none⟩ = some (.slice none 0 0) := HI12.out.res.cell 1
                              have f0 := HI12.out.res.frozen 0
                              have f1 := HI12.out.res.frozen 1
                              have q0 : W12.cell? ⟨S, 0, none⟩ = some (.int .i64 14) := HG12.out.blk.cell 0
                              have q1 : W12.cell? ⟨S, 1, none⟩ = some (.slice (some ⟨gs, 0, none⟩) 1 cs) := HG12.out.blk.cell 1
                              have hfin := (HI12.out.res.set_ 0 (.int .i64 14)).set_ 1 (.slice (some ⟨gs, 0, none⟩) 1 cs)
                              have hend := HI12.out.bad HG12.out
                              have HFN : Hid ((linkB h i).map (fun c => (c, some ((4 : Int), (i : Int)))) = some (14, some (4, (i : Int)))) := Lib.hid (by rw [HLB.out, hsf]; rfl)
                              rw [← HFN.out] at hend
                              have HEND := Lib.hid hend
                              clear hend
                              have r0 : ((W12.setCell ⟨W.heap.size + 1, 0, none⟩ (.int .i64 14)).setCell ⟨W.heap.size + 1, 1, none⟩ (.slice (some ⟨gs, 0, none⟩) 1 cs)).cell? ⟨W.heap.size + 1, 0, none⟩ = some (.int .i64 14) := hfin.cell 0
                              have r1 : ((W12.setCell ⟨W.heap.size + 1, 0, none⟩ (.int .i64 14)).setCell ⟨W.heap.size + 1, 1, none⟩ (.slice (some ⟨gs, 0, none⟩) 1 cs)).cell? ⟨W.heap.size + 1, 1, none⟩ = some (.slice (some ⟨gs, 0, none⟩) 1 cs) := hfin.cell 1
                              clear hfin
                              go_wp2_with fail
                              rw [HQ0.out]
                              refine bodyPost_ret (v := .agg #[.int .i64 14, .slice (some ⟨gs, 0, none⟩) 1 cs]) ?hres rfl HEND.out
                              case hres => simp [results, Tryd.results40, go_sem, r0, r1]
                          · have p2 : (h3 == hi') = false := beq_eq_false_iff_ne.2 q2
                            have p2n : (h3 != hi') = true := by rw [bne, p2]; rfl
                            have hsf : shapeB h i = false := by rw [HS2.out]; exact decide_eq_false (fun hh => q2 hh.2.1)
                            clear q1 q2
                            have b0 : W12.cell? ⟨W.heap.size + 1, 0, none⟩ = some (.int .i64 0) := HI12.out.res.cell 0
                            have b1 : W12.cell? ⟨W.heap.size + 1, 1, none⟩ = some (.slice none 0 0) := HI12.out.res.cell 1
                            have f0 := HI12.out.res.frozen 0
                            have f1 := HI12.out.res.frozen 1
                            have q0 : W12.cell? ⟨S, 0, none⟩ = some (.int .i64 14) := HG12.out.blk.cell 0
                            have q1 : W12.cell? ⟨S, 1, none⟩ = some (.slice (some ⟨gs, 0, none⟩) 1 cs) := HG12.out.blk.cell 1
                            have hfin := (HI12.out.res.set_ 0 (.int .i64 14)).set_ 1 (.slice (some ⟨gs, 0, none⟩) 1 cs)
                            have hend := HI12.out.bad HG12.out
                            have HFN : Hid ((linkB h i).map (fun c => (c, some ((4 : Int), (i : Int)))) = some (14, some (4, (i : Int)))) := Lib.hid (by rw [HLB.out, hsf]; rfl)
                            rw [← HFN.out] at hend
                            have HEND := Lib.hid hend
                            clear hend
                            have r0 : ((W12.setCell ⟨W.heap.size + 1, 0, none⟩ (.int .i64 14)).setCell ⟨W.heap.size + 1, 1, none⟩ (.slice (some ⟨gs, 0, none⟩) 1 cs)).cell? ⟨W.heap.size + 1, 0, none⟩ = some (.int .i64 14) := hfin.cell 0
                            have r1 : ((W12.setCell ⟨W.heap.size + 1, 0, none⟩ (.int .i64 14)).setCell ⟨W.heap.size + 1, 1, none⟩ (.slice (some ⟨gs, 0, none⟩) 1 cs)).cell? ⟨W.heap.size + 1, 1, none⟩ = some (.slice (some ⟨gs, 0, none⟩) 1 cs) := hfin.cell 1
                            clear hfin
                            go_wp2_with fail
                            rw [HQ0.out]
                            refine bodyPost_ret (v := .agg #[.int .i64 14, .slice (some ⟨gs, 0, none⟩) 1 cs]) ?hres rfl HEND.out
                            case hres => simp [results, Tryd.results40, go_sem, r0, r1]
                        · have p1 : (t2 == ti) = false := beq_eq_false_iff_ne.2 q1
                          have p1n : (t2 != ti) = true := by rw [bne, p1]; rfl
                          have hsf : shapeB h i = false := by rw [HS2.out]; exact decide_eq_false (fun hh => q1 hh.1)
                          clear q1
                          have b0 : W12.cell? ⟨W.heap.size + 1, 0, none⟩ = some (.int .i64 0) := HI12.out.res.cell 0
                          have b1 : W12.cell? ⟨W.heap.size + 1, 1, none⟩ = some (.slice none 0 0) := HI12.out.res.cell 1
                          have f0 := HI12.out.res.frozen 0
                          have f1 := HI12.out.res.frozen 1
                          have q0 : W12.cell? ⟨S, 0, none⟩ = some (.int .i64 14) := HG12.out.blk.cell 0
                          have q1 : W12.cell? ⟨S, 1, none⟩ = some (.slice (some ⟨gs, 0, none⟩) 1 cs) := HG12.out.blk.cell 1
                          have hfin := (HI12.out.res.set_ 0 (.int .i64 14)).set_ 1 (.slice (some ⟨gs, 0, none⟩) 1 cs)
                          have hend := HI12.out.bad HG12.out
                          have HFN : Hid ((linkB h i).map (fun c => (c, some ((4 : Int), (i : Int)))) = some (14, some (4, (i : Int)))) := Lib.hid (by rw [HLB.out, hsf]; rfl)
                          rw [← HFN.out] at hend
                          have HEND := Lib.hid hend
                          clear hend
                          have r0 : ((W12.setCell ⟨W.heap.size + 1, 0, none⟩ (.int .i64 14)).setCell ⟨W.heap.size + 1, 1, none⟩ (.slice (some ⟨gs, 0, none⟩) 1 cs)).cell? ⟨W.heap.size + 1, 0, none⟩ = some (.int .i64 14) := hfin.cell 0
                          have r1 : ((W12.setCell ⟨W.heap.size + 1, 0, none⟩ (.int .i64 14)).setCell ⟨W.heap.size + 1, 1, none⟩ (.slice (some ⟨gs, 0, none⟩) 1 cs)).cell? ⟨W.heap.size + 1, 1, none⟩ = some (.slice (some ⟨gs, 0, none⟩) 1 cs) := hfin.cell 1
                          clear hfin
                          go_wp2_with fail
                          rw [HQ0.out]
                          refine bodyPost_ret (v := .agg #[.int .i64 14, .slice (some ⟨gs, 0, none⟩) 1 cs]) ?hres rfl HEND.out
                          case hres => simp [results, Tryd.results40, go_sem, r0, r1]
end Go.Proofs.YtkcnnamghpdplaaDoor
