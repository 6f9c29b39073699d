/- What is wrong with a hierarchy: the document's. (Printed by gen_check.py.) -/
import Derived.Test.YtkcnnamghpdplaaDoorCl27
import Derived.Test.YtkcnnamghpdplaaDoorCl28
import Derived.Test.YtkcnnamghpdplaaDoorClC
set_option linter.unusedSimpArgs false
set_option linter.unusedVariables false
namespace Go.Proofs.YtkcnnamghpdplaaDoor
open Go.RowKit

structure DcInv (hc : Array Value) (W : World) (w : World) : Prop where
  below : Below W.heap.size W w
  hier : Cells w W.heap.size hc 25
  res : Cells w (W.heap.size + 1) #[.int .i64 0, .slice none 0 0] 37
  size : W.heap.size + 2 ≤ w.heap.size
theorem DcInv.step {hc : Array Value} {W w w' : World} (h : DcInv hc W w) (hb : Below w.heap.size w w') : DcInv hc W w' :=
  ⟨h.below.trans (hb.mono h.below.size), h.hier.below hb, h.res.below hb, Nat.le_trans h.size hb.size⟩
theorem DocX.far {b : Bug} {W : World} {x : ErrX} {w : World} (h : DocX b (W.heap.size + 2) x w) (i : Nat) (v : Value) : DocX b (W.heap.size + 2) x (w.setCell ⟨W.heap.size + 1, i, none⟩ v) := by
  cases b with
  | none => exact h
  | some p =>
    obtain ⟨c, q⟩ := p
    cases q with
    | none => exact h
    | some q =>
      obtain ⟨k, a⟩ := q
      obtain ⟨g, cap, h1, h2, h3⟩ := h
      exact ⟨g, cap, h1, h2.far i v (by omega), h3⟩
theorem DcInv.ret {hc : Array Value} {W w : World} (h : DcInv hc W w) {b : Bug} {x : ErrX} (hx : DocX b (W.heap.size + 2) x w) : ErrDoc b W (.returned (errV x)) (two w (W.heap.size + 1) (.int .i64 x.c) (.slice x.A x.n x.k)) :=
  ErrDoc.of_x (((hx.far 0 _).far 1 _).mono (by omega)) ((h.below.setCell (show W.heap.size ≤ W.heap.size + 1 by omega) _).setCell (show W.heap.size ≤ W.heap.size + 1 by omega) _)
theorem rd_X {w : World} {k : Nat} {x y : ErrX} (hk : w.heap.size = k) : Rd 2 encX (w.alloc (.cells #[.int .i64 x.c, .slice x.A x.n x.k, .int .i64 y.c, .slice y.A y.n y.k] 37)) (some ⟨k, 0, none⟩) 2 [x, y] := by
  subst hk
  exact rd_new (enc := encX) encX_len w _ [x, y]
theorem DocX.set_ {b : Bug} {base : Nat} {x : ErrX} {w : World} (h : DocX b base x w) {q : Nat} {cs : Array Value} (hq : Cells w q cs 37) (i : Nat) (v : Value) : DocX b base x (w.setCell ⟨q, i, none⟩ v) := by
  cases b with
  | none => exact h
  | some p =>
    obtain ⟨c, r⟩ := p
    cases r with
    | none => exact h
    | some r =>
      obtain ⟨k, a⟩ := r
      obtain ⟨g, cap, h1, h2, h3⟩ := h
      refine ⟨g, cap, h1, h2.far i v (fun e => ?_), h3⟩
      subst e
      have := (show w.heap[g]? = _ from h2).symm.trans hq
      simp at this
theorem info_bool : (Tryd.prog.info? 4).map (fun i => (i.zero, i.size, i.bytes)) = some (some (.bool false), 1, 1) := by kernel_rfl
theorem make_bool (n : Nat) (hn : n ≤ 65536) (W : World) : (Instr.makeSlice 49 (.int .i64 (n : Int)) (.int .i64 (n : Int))).run Tryd.prog W = .ok (.slice (some ⟨W.heap.size, 0, none⟩) n n) (W.alloc (.cells (markG (.bool true) (.bool false) n []) 4)) := by
  obtain ⟨i, hi, hz0, hz1, hz2⟩ := info_parts info_bool
  have h := run_make (P := Tryd.prog) W 49 4 i _ Tryd.underlying49 hi hz0 .i64 .i64 (n : Int) (n : Int) (by omega) (by omega) (by rw [hz2]; omega) (by omega)
  rw [h, hz1, Int.toNat_natCast, Nat.mul_one]
  exact congrArg (fun c => Result.ok (Value.slice (some ⟨W.heap.size, 0, none⟩) n n) (W.alloc (.cells c 4))) (made_mark _ _ n)
theorem DcInv.set_ {hc : Array Value} {W w : World} (h : DcInv hc W w) {B i : Nat} {v : Value} (hB : W.heap.size + 2 ≤ B) : DcInv hc W (w.setCell ⟨B, i, none⟩ v) :=
  ⟨h.below.setCell (show W.heap.size ≤ B by omega) _, h.hier.far i v (by omega), h.res.far i v (by omega), by simpa [World.setCell] using h.size⟩
theorem good_link (h : HierT) (j : Nat) : GoodB ((linkB h j).map fun c => (c, some ((4 : Int), (j : Int)))) := by
  intro p hp
  unfold linkB at hp
  split at hp
  · split at hp
    · cases hp
    · cases hp; simp
  · cases hp; simp
set_option maxRecDepth 100000 in
set_option maxHeartbeats 8000000 in
theorem DocCheck_any (k : HV) (h : HierT) (W : World) (hp : RdH W k h) (hs : Small k h) (hin : InH h) :
    Calls Tryd.prog 17 #[hierV k h] W (ErrDoc (chkB h) W) := by
  have hch : chkB h = chkB h := rfl
  conv at hch => rhs; unfold chkB
  have s2 := hs.s2
  have s4 := hs.s4
  have s0 := hs.s0
  have HP := Lib.hid hp
  have HS := Lib.hid hs
  have HIN := Lib.hid hin
  clear hp hs hin
  unfold hierV
  go_enter Tryd.func17, Tryd.ntmps17
  refine wp_post_named' ?_
  intro Q0 hQ0
  have HQ0 := Lib.hid hQ0
  clear hQ0
  by_cases c1 : 65536 < h.node.length ∨ 1048576 < h.up.length + h.dn.length
  · rw [if_pos c1] at hch
    by_cases c0 : 65536 < h.node.length
    · have g1 : decide ((65536 : Int) < (h.node.length : Int)) = true := decide_eq_true (by omega)
      have g1' : decide (65536 < h.node.length) = true := decide_eq_true (by omega)
      clear c1 c0
      go_wp2_with fail
      have hb1 := two_al W (.cells #[.slice k.a0 h.node.length k.c0, .slice k.a1 h.uf.length k.c1, .slice k.a2 h.up.length k.c2, .slice k.a3 h.df.length k.c3, .slice k.a4 h.dn.length k.c4] 25) (.cells #[.int .i64 0, .slice none 0 0] 37)
      have hc1 := (cells_new W #[.slice k.a0 h.node.length k.c0, .slice k.a1 h.uf.length k.c1, .slice k.a2 h.up.length k.c2, .slice k.a3 h.df.length k.c3, .slice k.a4 h.dn.length k.c4] 25).below ((Below.refl _ _).alloc (Nat.le_refl _) (.cells #[.int .i64 0, .slice none 0 0] 37))
      have hr1 := cells_new (W.alloc (.cells #[.slice k.a0 h.node.length k.c0, .slice k.a1 h.uf.length k.c1, .slice k.a2 h.up.length k.c2, .slice k.a3 h.df.length k.c3, .slice k.a4 h.dn.length k.c4] 25)) #[.int .i64 0, .slice none 0 0] 37
      rw [size_alloc] at hr1
      have hz1 : ((W.alloc (.cells #[.slice k.a0 h.node.length k.c0, .slice k.a1 h.uf.length k.c1, .slice k.a2 h.up.length k.c2, .slice k.a3 h.df.length k.c3, .slice k.a4 h.dn.length k.c4] 25)).alloc (.cells #[.int .i64 0, .slice none 0 0] 37)).heap.size = W.heap.size + 2 := by simp
      generalize (W.alloc (.cells #[.slice k.a0 h.node.length k.c0, .slice k.a1 h.uf.length k.c1, .slice k.a2 h.up.length k.c2, .slice k.a3 h.df.length k.c3, .slice k.a4 h.dn.length k.c4] 25)).alloc (.cells #[.int .i64 0, .slice none 0 0] 37) = W1 at *
      have HI1 : Hid (DcInv #[.slice k.a0 h.node.length k.c0, .slice k.a1 h.uf.length k.c1, .slice k.a2 h.up.length k.c2, .slice k.a3 h.df.length k.c3, .slice k.a4 h.dn.length k.c4] W W1) := Lib.hid ⟨hb1, hc1, hr1, by omega⟩
      clear hb1 hc1 hr1 hz1
      refine (E_any 9 W1).mono ?_
      rintro e w2 ⟨rfl, hb2⟩
      have HI2 := Lib.hid (HI1.out.step hb2)
      clear hb2 HI1
      have b0 : w2.cell? ⟨W.heap.size + 1, 0, none⟩ = some (.int .i64 0) := HI2.out.res.cell 0
      have b1 : w2.cell? ⟨W.heap.size + 1, 1, none⟩ = some (.slice none 0 0) := HI2.out.res.cell 1
      have f0 := HI2.out.res.frozen 0
      have f1 := HI2.out.res.frozen 1
      have hfin := (HI2.out.res.set_ 0 (.int .i64 9)).set_ 1 (.slice none 0 0)
      have hend := HI2.out.ret (show DocX (some (9, none)) _ ⟨9, none, 0, 0⟩ _ from rfl)
      have hfn : chkB h = _ := hch
      rw [← hfn] at hend
      unfold two at hend
      dsimp only [errV, zX] at hend
      have HEND := Lib.hid hend
      have r0 : ((w2.setCell ⟨W.heap.size + 1, 0, none⟩ (.int .i64 9)).setCell ⟨W.heap.size + 1, 1, none⟩ (.slice none 0 0)).cell? ⟨W.heap.size + 1, 0, none⟩ = some (.int .i64 9) := hfin.cell 0
      have r1 : ((w2.setCell ⟨W.heap.size + 1, 0, none⟩ (.int .i64 9)).setCell ⟨W.heap.size + 1, 1, none⟩ (.slice none 0 0)).cell? ⟨W.heap.size + 1, 1, none⟩ = some (.slice none 0 0) := hfin.cell 1
      clear hend hfin hfn
      go_wp2_with fail
      rw [HQ0.out]
      refine bodyPost_ret (v := .agg #[.int .i64 9, .slice none 0 0]) ?hres rfl HEND.out
      case hres => simp [results, Tryd.results17, go_sem, r0, r1]
    · have g1 : decide ((65536 : Int) < (h.node.length : Int)) = false := decide_eq_false (by omega)
      have g1' : decide (65536 < h.node.length) = false := decide_eq_false (by omega)
      have g2 : decide ((1048576 : Int) < (h.up.length : Int) + (h.dn.length : Int)) = true := decide_eq_true (by omega)
      clear c1 c0
      go_wp2_with fail
      have hb1 := two_al W (.cells #[.slice k.a0 h.node.length k.c0, .slice k.a1 h.uf.length k.c1, .slice k.a2 h.up.length k.c2, .slice k.a3 h.df.length k.c3, .slice k.a4 h.dn.length k.c4] 25) (.cells #[.int .i64 0, .slice none 0 0] 37)
      have hc1 := (cells_new W #[.slice k.a0 h.node.length k.c0, .slice k.a1 h.uf.length k.c1, .slice k.a2 h.up.length k.c2, .slice k.a3 h.df.length k.c3, .slice k.a4 h.dn.length k.c4] 25).below ((Below.refl _ _).alloc (Nat.le_refl _) (.cells #[.int .i64 0, .slice none 0 0] 37))
      have hr1 := cells_new (W.alloc (.cells #[.slice k.a0 h.node.length k.c0, .slice k.a1 h.uf.length k.c1, .slice k.a2 h.up.length k.c2, .slice k.a3 h.df.length k.c3, .slice k.a4 h.dn.length k.c4] 25)) #[.int .i64 0, .slice none 0 0] 37
      rw [size_alloc] at hr1
      have hz1 : ((W.alloc (.cells #[.slice k.a0 h.node.length k.c0, .slice k.a1 h.uf.length k.c1, .slice k.a2 h.up.length k.c2, .slice k.a3 h.df.length k.c3, .slice k.a4 h.dn.length k.c4] 25)).alloc (.cells #[.int .i64 0, .slice none 0 0] 37)).heap.size = W.heap.size + 2 := by simp
      generalize (W.alloc (.cells #[.slice k.a0 h.node.length k.c0, .slice k.a1 h.uf.length k.c1, .slice k.a2 h.up.length k.c2, .slice k.a3 h.df.length k.c3, .slice k.a4 h.dn.length k.c4] 25)).alloc (.cells #[.int .i64 0, .slice none 0 0] 37) = W1 at *
      have HI1 : Hid (DcInv #[.slice k.a0 h.node.length k.c0, .slice k.a1 h.uf.length k.c1, .slice k.a2 h.up.length k.c2, .slice k.a3 h.df.length k.c3, .slice k.a4 h.dn.length k.c4] W W1) := Lib.hid ⟨hb1, hc1, hr1, by omega⟩
      clear hb1 hc1 hr1 hz1
      refine (E_any 9 W1).mono ?_
      rintro e w2 ⟨rfl, hb2⟩
      have HI2 := Lib.hid (HI1.out.step hb2)
      clear hb2 HI1
      have b0 : w2.cell? ⟨W.heap.size + 1, 0, none⟩ = some (.int .i64 0) := HI2.out.res.cell 0
      have b1 : w2.cell? ⟨W.heap.size + 1, 1, none⟩ = some (.slice none 0 0) := HI2.out.res.cell 1
      have f0 := HI2.out.res.frozen 0
      have f1 := HI2.out.res.frozen 1
      have hfin := (HI2.out.res.set_ 0 (.int .i64 9)).set_ 1 (.slice none 0 0)
      have hend := HI2.out.ret (show DocX (some (9, none)) _ ⟨9, none, 0, 0⟩ _ from rfl)
      have hfn : chkB h = _ := hch
      rw [← hfn] at hend
      unfold two at hend
      dsimp only [errV, zX] at hend
      have HEND := Lib.hid hend
      have r0 : ((w2.setCell ⟨W.heap.size + 1, 0, none⟩ (.int .i64 9)).setCell ⟨W.heap.size + 1, 1, none⟩ (.slice none 0 0)).cell? ⟨W.heap.size + 1, 0, none⟩ = some (.int .i64 9) := hfin.cell 0
      have r1 : ((w2.setCell ⟨W.heap.size + 1, 0, none⟩ (.int .i64 9)).setCell ⟨W.heap.size + 1, 1, none⟩ (.slice none 0 0)).cell? ⟨W.heap.size + 1, 1, none⟩ = some (.slice none 0 0) := hfin.cell 1
      clear hend hfin hfn
      go_wp2_with fail
      rw [HQ0.out]
      refine bodyPost_ret (v := .agg #[.int .i64 9, .slice none 0 0]) ?hres rfl HEND.out
      case hres => simp [results, Tryd.results17, go_sem, r0, r1]
  · rw [if_neg c1] at hch
    have b0 : h.node.length ≤ 65536 := by omega
    have b2 : h.up.length + h.dn.length ≤ 1048576 := by omega
    have g1 : decide ((65536 : Int) < (h.node.length : Int)) = false := decide_eq_false (by omega)
    have g1' : decide (65536 < h.node.length) = false := decide_eq_false (by omega)
    have g2 : decide ((1048576 : Int) < (h.up.length : Int) + (h.dn.length : Int)) = false := decide_eq_false (by omega)
    by_cases c2 : h.uf.length ≠ h.node.length + 1 ∨ h.df.length ≠ h.node.length + 1
    · rw [if_pos c2] at hch
      by_cases e1 : h.uf.length = h.node.length + 1
      · have p1 : ((h.df.length : Int) == (h.node.length : Int) + 1) = false := by rw [beq_eq_false_iff_ne]; omega
        have p2 : ((h.df.length : Int) != (h.node.length : Int) + 1) = true := by rw [bne, p1]; rfl
        rw [e1]
        clear c1 c2 e1
        go_wp2_with fail
        have hb1 := two_al W (.cells #[.slice k.a0 h.node.length k.c0, .slice k.a1 (h.node.length + 1) k.c1, .slice k.a2 h.up.length k.c2, .slice k.a3 h.df.length k.c3, .slice k.a4 h.dn.length k.c4] 25) (.cells #[.int .i64 0, .slice none 0 0] 37)
        have hc1 := (cells_new W #[.slice k.a0 h.node.length k.c0, .slice k.a1 (h.node.length + 1) k.c1, .slice k.a2 h.up.length k.c2, .slice k.a3 h.df.length k.c3, .slice k.a4 h.dn.length k.c4] 25).below ((Below.refl _ _).alloc (Nat.le_refl _) (.cells #[.int .i64 0, .slice none 0 0] 37))
        have hr1 := cells_new (W.alloc (.cells #[.slice k.a0 h.node.length k.c0, .slice k.a1 (h.node.length + 1) k.c1, .slice k.a2 h.up.length k.c2, .slice k.a3 h.df.length k.c3, .slice k.a4 h.dn.length k.c4] 25)) #[.int .i64 0, .slice none 0 0] 37
        rw [size_alloc] at hr1
        have hz1 : ((W.alloc (.cells #[.slice k.a0 h.node.length k.c0, .slice k.a1 (h.node.length + 1) k.c1, .slice k.a2 h.up.length k.c2, .slice k.a3 h.df.length k.c3, .slice k.a4 h.dn.length k.c4] 25)).alloc (.cells #[.int .i64 0, .slice none 0 0] 37)).heap.size = W.heap.size + 2 := by simp
        generalize (W.alloc (.cells #[.slice k.a0 h.node.length k.c0, .slice k.a1 (h.node.length + 1) k.c1, .slice k.a2 h.up.length k.c2, .slice k.a3 h.df.length k.c3, .slice k.a4 h.dn.length k.c4] 25)).alloc (.cells #[.int .i64 0, .slice none 0 0] 37) = W1 at *
        have HI1 : Hid (DcInv #[.slice k.a0 h.node.length k.c0, .slice k.a1 (h.node.length + 1) k.c1, .slice k.a2 h.up.length k.c2, .slice k.a3 h.df.length k.c3, .slice k.a4 h.dn.length k.c4] W W1) := Lib.hid ⟨hb1, hc1, hr1, by omega⟩
        clear hb1 hc1 hr1 hz1
        refine (E_any 14 W1).mono ?_
        rintro e w2 ⟨rfl, hb2⟩
        have HI2 := Lib.hid (HI1.out.step hb2)
        clear hb2 HI1
        have b0 : w2.cell? ⟨W.heap.size + 1, 0, none⟩ = some (.int .i64 0) := HI2.out.res.cell 0
        have b1 : w2.cell? ⟨W.heap.size + 1, 1, none⟩ = some (.slice none 0 0) := HI2.out.res.cell 1
        have f0 := HI2.out.res.frozen 0
        have f1 := HI2.out.res.frozen 1
        have hfin := (HI2.out.res.set_ 0 (.int .i64 14)).set_ 1 (.slice none 0 0)
        have hend := HI2.out.ret (show DocX (some (14, none)) _ ⟨14, none, 0, 0⟩ _ from rfl)
        have hfn : chkB h = _ := hch
        rw [← hfn] at hend
        unfold two at hend
        dsimp only [errV, zX] at hend
        have HEND := Lib.hid hend
        have r0 : ((w2.setCell ⟨W.heap.size + 1, 0, none⟩ (.int .i64 14)).setCell ⟨W.heap.size + 1, 1, none⟩ (.slice none 0 0)).cell? ⟨W.heap.size + 1, 0, none⟩ = some (.int .i64 14) := hfin.cell 0
        have r1 : ((w2.setCell ⟨W.heap.size + 1, 0, none⟩ (.int .i64 14)).setCell ⟨W.heap.size + 1, 1, none⟩ (.slice none 0 0)).cell? ⟨W.heap.size + 1, 1, none⟩ = some (.slice none 0 0) := hfin.cell 1
        clear hend hfin hfn
        go_wp2_with fail
        rw [HQ0.out]
        refine bodyPost_ret (v := .agg #[.int .i64 14, .slice none 0 0]) ?hres rfl HEND.out
        case hres => simp [results, Tryd.results17, go_sem, r0, r1]
      · have p1 : ((h.uf.length : Int) == (h.node.length : Int) + 1) = false := by rw [beq_eq_false_iff_ne]; omega
        have p2 : ((h.uf.length : Int) != (h.node.length : Int) + 1) = true := by rw [bne, p1]; rfl
        clear c1 c2 e1
        go_wp2_with fail
        have hb1 := two_al W (.cells #[.slice k.a0 h.node.length k.c0, .slice k.a1 h.uf.length k.c1, .slice k.a2 h.up.length k.c2, .slice k.a3 h.df.length k.c3, .slice k.a4 h.dn.length k.c4] 25) (.cells #[.int .i64 0, .slice none 0 0] 37)
        have hc1 := (cells_new W #[.slice k.a0 h.node.length k.c0, .slice k.a1 h.uf.length k.c1, .slice k.a2 h.up.length k.c2, .slice k.a3 h.df.length k.c3, .slice k.a4 h.dn.length k.c4] 25).below ((Below.refl _ _).alloc (Nat.le_refl _) (.cells #[.int .i64 0, .slice none 0 0] 37))
        have hr1 := cells_new (W.alloc (.cells #[.slice k.a0 h.node.length k.c0, .slice k.a1 h.uf.length k.c1, .slice k.a2 h.up.length k.c2, .slice k.a3 h.df.length k.c3, .slice k.a4 h.dn.length k.c4] 25)) #[.int .i64 0, .slice none 0 0] 37
        rw [size_alloc] at hr1
        have hz1 : ((W.alloc (.cells #[.slice k.a0 h.node.length k.c0, .slice k.a1 h.uf.length k.c1, .slice k.a2 h.up.length k.c2, .slice k.a3 h.df.length k.c3, .slice k.a4 h.dn.length k.c4] 25)).alloc (.cells #[.int .i64 0, .slice none 0 0] 37)).heap.size = W.heap.size + 2 := by simp
        generalize (W.alloc (.cells #[.slice k.a0 h.node.length k.c0, .slice k.a1 h.uf.length k.c1, .slice k.a2 h.up.length k.c2, .slice k.a3 h.df.length k.c3, .slice k.a4 h.dn.length k.c4] 25)).alloc (.cells #[.int .i64 0, .slice none 0 0] 37) = W1 at *
        have HI1 : Hid (DcInv #[.slice k.a0 h.node.length k.c0, .slice k.a1 h.uf.length k.c1, .slice k.a2 h.up.length k.c2, .slice k.a3 h.df.length k.c3, .slice k.a4 h.dn.length k.c4] W W1) := Lib.hid ⟨hb1, hc1, hr1, by omega⟩
        clear hb1 hc1 hr1 hz1
        refine (E_any 14 W1).mono ?_
        rintro e w2 ⟨rfl, hb2⟩
        have HI2 := Lib.hid (HI1.out.step hb2)
        clear hb2 HI1
        have b0 : w2.cell? ⟨W.heap.size + 1, 0, none⟩ = some (.int .i64 0) := HI2.out.res.cell 0
        have b1 : w2.cell? ⟨W.heap.size + 1, 1, none⟩ = some (.slice none 0 0) := HI2.out.res.cell 1
        have f0 := HI2.out.res.frozen 0
        have f1 := HI2.out.res.frozen 1
        have hfin := (HI2.out.res.set_ 0 (.int .i64 14)).set_ 1 (.slice none 0 0)
        have hend := HI2.out.ret (show DocX (some (14, none)) _ ⟨14, none, 0, 0⟩ _ from rfl)
        have hfn : chkB h = _ := hch
        rw [← hfn] at hend
        unfold two at hend
        dsimp only [errV, zX] at hend
        have HEND := Lib.hid hend
        have r0 : ((w2.setCell ⟨W.heap.size + 1, 0, none⟩ (.int .i64 14)).setCell ⟨W.heap.size + 1, 1, none⟩ (.slice none 0 0)).cell? ⟨W.heap.size + 1, 0, none⟩ = some (.int .i64 14) := hfin.cell 0
        have r1 : ((w2.setCell ⟨W.heap.size + 1, 0, none⟩ (.int .i64 14)).setCell ⟨W.heap.size + 1, 1, none⟩ (.slice none 0 0)).cell? ⟨W.heap.size + 1, 1, none⟩ = some (.slice none 0 0) := hfin.cell 1
        clear hend hfin hfn
        go_wp2_with fail
        rw [HQ0.out]
        refine bodyPost_ret (v := .agg #[.int .i64 14, .slice none 0 0]) ?hres rfl HEND.out
        case hres => simp [results, Tryd.results17, go_sem, r0, r1]
    · rw [if_neg c2] at hch
      have e1 : h.uf.length = h.node.length + 1 := by omega
      have e3 : h.df.length = h.node.length + 1 := by omega
      have HFU : Hid (∀ w, Below W.heap.size W w → Calls Tryd.prog 37 #[.slice k.a1 (h.node.length + 1) k.c1, .int .i64 h.node.length, .int .i64 h.up.length] w (ErrDoc (firstsB h.uf h.node.length h.up.length) w)) := Lib.hid fun w hb => by
        have h1 := (HP.out.below hb).r1
        rw [e1] at h1
        exact firsts_doc k.a1 h.node.length k.c1 h.up.length h.uf w h1 HIN.out.i1 b0 (by omega)
      have HFD : Hid (∀ w, Below W.heap.size W w → Calls Tryd.prog 37 #[.slice k.a3 (h.node.length + 1) k.c3, .int .i64 h.node.length, .int .i64 h.dn.length] w (ErrDoc (firstsB h.df h.node.length h.dn.length) w)) := Lib.hid fun w hb => by
        have h1 := (HP.out.below hb).r3
        rw [e3] at h1
        exact firsts_doc k.a3 h.node.length k.c3 h.dn.length h.df w h1 HIN.out.i3 b0 (by omega)
      have HSU : Hid (firstsB h.uf h.node.length h.up.length = none → Fst h.node.length h.uf h.up.length) := Lib.hid fun hf => Fst.of_none e1 hf
      have HSD : Hid (firstsB h.df h.node.length h.dn.length = none → Fst h.node.length h.df h.dn.length) := Lib.hid fun hf => Fst.of_none e3 hf
      have HCH := Lib.hid hch
      rw [e1, e3]
      clear hch c1 c2 e1 e3
      go_upto_region 6 with fail
      have hb1 := two_al W (.cells #[.slice k.a0 h.node.length k.c0, .slice k.a1 (h.node.length + 1) k.c1, .slice k.a2 h.up.length k.c2, .slice k.a3 (h.node.length + 1) k.c3, .slice k.a4 h.dn.length k.c4] 25) (.cells #[.int .i64 0, .slice none 0 0] 37)
      have hc1 := (cells_new W #[.slice k.a0 h.node.length k.c0, .slice k.a1 (h.node.length + 1) k.c1, .slice k.a2 h.up.length k.c2, .slice k.a3 (h.node.length + 1) k.c3, .slice k.a4 h.dn.length k.c4] 25).below ((Below.refl _ _).alloc (Nat.le_refl _) (.cells #[.int .i64 0, .slice none 0 0] 37))
      have hr1 := cells_new (W.alloc (.cells #[.slice k.a0 h.node.length k.c0, .slice k.a1 (h.node.length + 1) k.c1, .slice k.a2 h.up.length k.c2, .slice k.a3 (h.node.length + 1) k.c3, .slice k.a4 h.dn.length k.c4] 25)) #[.int .i64 0, .slice none 0 0] 37
      rw [size_alloc] at hr1
      have hz1 : ((W.alloc (.cells #[.slice k.a0 h.node.length k.c0, .slice k.a1 (h.node.length + 1) k.c1, .slice k.a2 h.up.length k.c2, .slice k.a3 (h.node.length + 1) k.c3, .slice k.a4 h.dn.length k.c4] 25)).alloc (.cells #[.int .i64 0, .slice none 0 0] 37)).heap.size = W.heap.size + 2 := by simp
      generalize (W.alloc (.cells #[.slice k.a0 h.node.length k.c0, .slice k.a1 (h.node.length + 1) k.c1, .slice k.a2 h.up.length k.c2, .slice k.a3 (h.node.length + 1) k.c3, .slice k.a4 h.dn.length k.c4] 25)).alloc (.cells #[.int .i64 0, .slice none 0 0] 37) = W1 at *
      have HI1 : Hid (DcInv #[.slice k.a0 h.node.length k.c0, .slice k.a1 (h.node.length + 1) k.c1, .slice k.a2 h.up.length k.c2, .slice k.a3 (h.node.length + 1) k.c3, .slice k.a4 h.dn.length k.c4] W W1) := Lib.hid ⟨hb1, hc1, hr1, by omega⟩
      have HZ1 := Lib.hid hz1
      clear hb1 hc1 hr1 hz1
      have d0 : W1.cell? ⟨W.heap.size, 0, none⟩ = some (.slice k.a0 h.node.length k.c0) := HI1.out.hier.cell 0
      have d1 : W1.cell? ⟨W.heap.size, 1, none⟩ = some (.slice k.a1 (h.node.length + 1) k.c1) := HI1.out.hier.cell 1
      have d2 : W1.cell? ⟨W.heap.size, 2, none⟩ = some (.slice k.a2 h.up.length k.c2) := HI1.out.hier.cell 2
      have d3 : W1.cell? ⟨W.heap.size, 3, none⟩ = some (.slice k.a3 (h.node.length + 1) k.c3) := HI1.out.hier.cell 3
      have d4 : W1.cell? ⟨W.heap.size, 4, none⟩ = some (.slice k.a4 h.dn.length k.c4) := HI1.out.hier.cell 4
      go_cut [4] from 44 to 59 (fun s wx => ∃ g x, s = .pointer (some ⟨g, 0, none⟩) ∧ Cells wx g #[.int .i64 x.c, .slice x.A x.n x.k] 37 ∧ DocX (orB (firstsB h.uf h.node.length h.up.length) (firstsB h.df h.node.length h.dn.length)) (W.heap.size + 2) x wx ∧ Below W1.heap.size W1 wx)
      case first =>
        have HX : Hid (Below W1.heap.size W1 W1) := Lib.hid (Below.refl _ _)
        have D0 := Lib.hid d0
        have D1 := Lib.hid d1
        have D2 := Lib.hid d2
        have D3 := Lib.hid d3
        have D4 := Lib.hid d4
        have hz1 := HZ1.out
        have HF1 : Hid (∀ w, Below W1.heap.size W1 w → Calls Tryd.prog 37 #[.slice k.a1 (h.node.length + 1) k.c1, .int .i64 h.node.length, .int .i64 h.up.length] w fun e w' => ∃ x, e = .returned (errV x) ∧ DocX (firstsB h.uf h.node.length h.up.length) (W.heap.size + 2) x w' ∧ Below w.heap.size w w' ∧ Below W1.heap.size W1 w') := Lib.hid fun w hb => (HFU.out w (HI1.out.below.trans (hb.mono HI1.out.below.size))).mono fun e w' he => by
          obtain ⟨x, h1, h2, h3⟩ := he.x
          exact ⟨x, h1, h2.mono (by have := hb.size; omega), h3, hb.trans (h3.mono hb.size)⟩
        have HF2 : Hid (∀ w, Below W1.heap.size W1 w → Calls Tryd.prog 37 #[.slice k.a3 (h.node.length + 1) k.c3, .int .i64 h.node.length, .int .i64 h.dn.length] w fun e w' => ∃ x, e = .returned (errV x) ∧ DocX (firstsB h.df h.node.length h.dn.length) (W.heap.size + 2) x w' ∧ Below w.heap.size w w' ∧ Below W1.heap.size W1 w') := Lib.hid fun w hb => (HFD.out w (HI1.out.below.trans (hb.mono HI1.out.below.size))).mono fun e w' he => by
          obtain ⟨x, h1, h2, h3⟩ := he.x
          exact ⟨x, h1, h2.mono (by have := hb.size; omega), h3, hb.trans (h3.mono hb.size)⟩
        have HFI : Hid (∀ w A l, Below W1.heap.size W1 w → Rd 2 encX w A 2 l → Calls Tryd.prog 36 #[.slice A 2 2] w fun e w' => e = .returned (errV (firstX l)) ∧ Below w.heap.size w w' ∧ Below W1.heap.size W1 w') := Lib.hid fun w A l hb hr => (First_any A 2 2 l w hr (by omega)).mono fun e w' he => ⟨he.1, he.2, hb.trans (he.2.mono hb.size)⟩
        have hne : ¬ W.heap.size = W1.heap.size := by omega
        have hne2 : ¬ W1.heap.size = W.heap.size := by omega
        have hGU := good_firsts h.uf h.node.length h.up.length
        have hGD := good_firsts h.df h.node.length h.dn.length
        have HGU := Lib.hid hGU
        have HGD := Lib.hid hGD
        clear hz1 HFU HFD HSU HSD HCH hGU hGD
        go_region_held3 (fun w' => w'.cell? ⟨W.heap.size, 0, none⟩ = some (.slice k.a0 h.node.length k.c0) ∧ w'.cell? ⟨W.heap.size, 1, none⟩ = some (.slice k.a1 (h.node.length + 1) k.c1) ∧ w'.cell? ⟨W.heap.size, 2, none⟩ = some (.slice k.a2 h.up.length k.c2) ∧ w'.cell? ⟨W.heap.size, 3, none⟩ = some (.slice k.a3 (h.node.length + 1) k.c3) ∧ w'.cell? ⟨W.heap.size, 4, none⟩ = some (.slice k.a4 h.dn.length k.c4)) (first | with_reducible exact ⟨d0, d1, d2, d3, d4⟩ | go_keep) (first
          | (go_at_call 37; (with_reducible refine (HF1.out _ ?_).mono ?_); (first | exact HX.out | exact HX.out.drew | exact HX.out.alloc HX.out.size _ | exact (HX.out.alloc HX.out.size _).drew); rintro e v0 ⟨⟨x0, x1, x2, x3⟩, rfl, hx, hb5, hx5⟩; (try (have hn : Cells v0 W1.heap.size #[.int .i64 0, .slice none 0 0] 37 := Cells.below (w := (W1.alloc (.cells #[.int .i64 0, .slice none 0 0] 37)).drew) (cells_new W1 #[.int .i64 0, .slice none 0 0] 37) hb5; have HNB := Lib.hid hn; clear hn)); have HD1 := Lib.hid hx; have d0 := cell_below hx5 D0.out; have d1 := cell_below hx5 D1.out; have d2 := cell_below hx5 D2.out; have d3 := cell_below hx5 D3.out; have d4 := cell_below hx5 D4.out; have HX := Lib.hid hx5; clear hx5 hb5 hx)
          | (go_at_call 37; (with_reducible refine (HF2.out _ ?_).mono ?_); (first | exact HX.out | exact HX.out.drew | exact HX.out.alloc HX.out.size _ | exact (HX.out.alloc HX.out.size _).drew); rintro e v1 ⟨⟨y0, y1, y2, y3⟩, rfl, hx, hb5, hx5⟩; have HD1 := Lib.hid (HD1.out.below (by first | exact hb5 | exact (((Below.refl _ _).alloc (Nat.le_refl _) _).trans (hb5.mono (by simp))))); have HD2 := Lib.hid hx; have HV0 := Lib.hid HX.out.size; have HNV := Lib.hid (show ¬ W.heap.size = v0.heap.size from by have h9 := HX.out.size; have h8 := HZ1.out; omega); (first | (have HNB := Lib.hid (HNB.out.below hb5)) | (have hn : Cells v1 v0.heap.size #[.int .i64 0, .slice none 0 0] 37 := Cells.below (w := v0.alloc (.cells #[.int .i64 0, .slice none 0 0] 37)) (cells_new v0 #[.int .i64 0, .slice none 0 0] 37) hb5; have HNB := Lib.hid hn; clear hn) | skip); have d0 := cell_below hx5 D0.out; have d1 := cell_below hx5 D1.out; have d2 := cell_below hx5 D2.out; have d3 := cell_below hx5 D3.out; have d4 := cell_below hx5 D4.out; have HX := Lib.hid hx5; clear hx5 hb5 hx)
          | (go_at_call 36; refine (HFI.out _ _ [⟨x0, x1, x2, x3⟩, ⟨y0, y1, y2, y3⟩] ?_ ?_).mono ?_; (first | exact HX.out.alloc HX.out.size _ | exact (HX.out.alloc HX.out.size _).alloc (by have := HX.out.size; simp; omega) _); (first | exact rd_X (x := ⟨x0, x1, x2, x3⟩) (y := ⟨y0, y1, y2, y3⟩) rfl | exact (rd_X (x := ⟨x0, x1, x2, x3⟩) (y := ⟨y0, y1, y2, y3⟩) rfl).below ((Below.refl _ _).alloc (Nat.le_refl _) _) | exact rd_X (x := ⟨x0, x1, x2, x3⟩) (y := ⟨y0, y1, y2, y3⟩) (by simp)); rintro e v2 ⟨rfl, hb5, hx5⟩; have HD1 := Lib.hid (HD1.out.below (by first | exact hb5 | exact (((Below.refl _ _).alloc (Nat.le_refl _) _).trans (hb5.mono (by simp))) | exact ((two_al _ _ _).trans (hb5.mono (by simp; omega))))); have HD2 := Lib.hid (HD2.out.below (by first | exact hb5 | exact (((Below.refl _ _).alloc (Nat.le_refl _) _).trans (hb5.mono (by simp))) | exact ((two_al _ _ _).trans (hb5.mono (by simp; omega))))); have HV1 := Lib.hid HX.out.size; have hdf := first_two HD1.out HD2.out HGU.out HGD.out; (first | (have hn := HNB.out.below (by first | exact hb5 | exact (((Below.refl _ _).alloc (Nat.le_refl _) _).trans (hb5.mono (by simp))) | exact ((two_al _ _ _).trans (hb5.mono (by simp; omega)))); have HNB := Lib.hid hn; have n0 := hn.cell 0; have n1 := hn.cell 1; have m0 := hn.frozen 0; have m1 := hn.frozen 1; clear hn) | (have hn : Cells v2 (v1.heap.size + 1) #[.int .i64 0, .slice none 0 0] 37 := Cells.below (w := (v1.alloc (.cells #[.int .i64 x0, .slice x1 x2 x3, .int .i64 y0, .slice y1 y2 y3] 37)).alloc (.cells #[.int .i64 0, .slice none 0 0] 37)) (by have h9 := cells_new (v1.alloc (.cells #[.int .i64 x0, .slice x1 x2 x3, .int .i64 y0, .slice y1 y2 y3] 37)) #[.int .i64 0, .slice none 0 0] 37; rwa [size_alloc] at h9) hb5; have HNB := Lib.hid hn; have n0 := hn.cell 0; have n1 := hn.cell 1; have m0 := hn.frozen 0; have m1 := hn.frozen 1; clear hn) | (have hn : Cells v2 v1.heap.size #[.int .i64 0, .slice none 0 0] 37 := Cells.below (w := (v1.alloc (.cells #[.int .i64 0, .slice none 0 0] 37)).alloc (.cells #[.int .i64 x0, .slice x1 x2 x3, .int .i64 y0, .slice y1 y2 y3] 37)) ((cells_new v1 #[.int .i64 0, .slice none 0 0] 37).below ((Below.refl _ _).alloc (Nat.le_refl _) _)) hb5; have HNB := Lib.hid hn; have n0 := hn.cell 0; have n1 := hn.cell 1; have m0 := hn.frozen 0; have m1 := hn.frozen 1; clear hn) | skip); generalize firstX [⟨x0, x1, x2, x3⟩, ⟨y0, y1, y2, y3⟩] = xf at *; obtain ⟨z0, z1, z2, z3⟩ := xf; have HDF := Lib.hid hdf; have ha1 : ¬ W.heap.size = v1.heap.size := (by have h9 := HX.out.size; have h8 := HZ1.out; omega); have ha2 : ¬ W.heap.size = v1.heap.size + 1 := (by have h9 := HX.out.size; have h8 := HZ1.out; omega); have ha3 : ¬ W.heap.size = v0.heap.size := HNV.out; have ha4 : ¬ v1.heap.size = W.heap.size := (fun h => ha1 h.symm); have ha5 : ¬ v1.heap.size + 1 = W.heap.size := (fun h => ha2 h.symm); have ha6 : ¬ v0.heap.size = W.heap.size := (fun h => ha3 h.symm); have d0 := cell_below hx5 D0.out; have d1 := cell_below hx5 D1.out; have d2 := cell_below hx5 D2.out; have d3 := cell_below hx5 D3.out; have d4 := cell_below hx5 D4.out; have HX := Lib.hid hx5; clear hx5 hb5 hdf))
        all_goals
          rename_i hHeld
          clear hHeld
          go_wp2_with fail
          go_meet
          refine ⟨_, ⟨z0, z1, z2, z3⟩, rfl, ?_⟩
          dsimp only
          first
            | (with_reducible refine ⟨cells_new _ _ _, ?_⟩; exact ⟨HDF.out.below ((Below.refl _ _).alloc (Nat.le_refl _) _), HX.out.alloc HX.out.size _⟩)
            | (refine ⟨?_, (HDF.out.set_ HNB.out 0 _).set_ (HNB.out.set_ 0 _) 1 _, (HX.out.setCell (by have h8 := HV0.out; have h9 := HV1.out; simp; try omega) _).setCell (by have h8 := HV0.out; have h9 := HV1.out; simp; try omega) _⟩; (have hf := (HNB.out.set_ 0 (.int .i64 z0)).set_ 1 (.slice z1 z2 z3); simpa only [List.setIfInBounds_toArray, List.set_cons_zero, List.set_cons_succ] using hf))
      case rest =>
        obtain ⟨g, x, rfl, hg, hx, hb⟩ := hcut
        have HI2 := Lib.hid (HI1.out.step hb)
        have HX2 := Lib.hid hx
        have HG2 := Lib.hid hg
        clear hg hx hb HI1 d0 d1 d2 d3 d4 HZ1
        generalize hW2 : wc = W2 at *
        clear hW2
        have hgood := good_or (good_firsts h.uf h.node.length h.up.length) (good_firsts h.df h.node.length h.dn.length)
        have hbad := HX2.out.bad hgood
        obtain ⟨x0, x1, x2, x3⟩ := x
        dsimp only at *
        have y0 : W2.cell? ⟨g, 0, none⟩ = some (.int .i64 x0) := HG2.out.cell 0
        have y1 : W2.cell? ⟨g, 1, none⟩ = some (.slice x1 x2 x3) := HG2.out.cell 1
        have HBD := Lib.hid hbad
        clear hgood hbad
        go_wp2_with fail
        refine (Bad_any x0 x1 x2 x3 W2).mono ?_
        rintro e w3 ⟨rfl, hb3⟩
        have HI3 := Lib.hid (HI2.out.step hb3)
        have HX3 := Lib.hid (HX2.out.below hb3)
        have HG3 := Lib.hid (HG2.out.below hb3)
        have HBD3 : Hid (decide (x0 ≠ 0 ∨ 0 < x2) = _) := Lib.hid (show decide (x0 ≠ 0 ∨ 0 < x2) = _ from HBD.out)
        clear hb3 y0 y1 HI2 HX2 HG2 HBD
        generalize decide (x0 ≠ 0 ∨ 0 < x2) = bad at *
        cases hor : orB (firstsB h.uf h.node.length h.up.length) (firstsB h.df h.node.length h.dn.length) with
        | some p =>
          have hbt : bad = true := by rw [HBD3.out, hor]; rfl
          have hchp : chkB h = some p := by
            rw [HCH.out]
            unfold orB at hor
            split at hor
            · rename_i q hq; cases hor; rw [hq]
            · rename_i hq; rw [hq, hor]
          have hx3 := HX3.out
          rw [hor] at hx3
          have HX4 := Lib.hid hx3
          have HCP := Lib.hid hchp
          subst hbt
          clear hx3 hchp hor HX3 HBD3
          have y0 : w3.cell? ⟨g, 0, none⟩ = some (.int .i64 x0) := HG3.out.cell 0
          have y1 : w3.cell? ⟨g, 1, none⟩ = some (.slice x1 x2 x3) := HG3.out.cell 1
          have b0 : w3.cell? ⟨W.heap.size + 1, 0, none⟩ = some (.int .i64 0) := HI3.out.res.cell 0
          have b1 : w3.cell? ⟨W.heap.size + 1, 1, none⟩ = some (.slice none 0 0) := HI3.out.res.cell 1
          have f0 := HI3.out.res.frozen 0
          have f1 := HI3.out.res.frozen 1
          have hfin := (HI3.out.res.set_ 0 (.int .i64 x0)).set_ 1 (.slice x1 x2 x3)
          have hend := HI3.out.ret (HX4.out)
          have hfn : chkB h = _ := HCP.out
          rw [← hfn] at hend
          unfold two at hend
          dsimp only [errV, zX] at hend
          have HEND := Lib.hid hend
          have r0 : ((w3.setCell ⟨W.heap.size + 1, 0, none⟩ (.int .i64 x0)).setCell ⟨W.heap.size + 1, 1, none⟩ (.slice x1 x2 x3)).cell? ⟨W.heap.size + 1, 0, none⟩ = some (.int .i64 x0) := hfin.cell 0
          have r1 : ((w3.setCell ⟨W.heap.size + 1, 0, none⟩ (.int .i64 x0)).setCell ⟨W.heap.size + 1, 1, none⟩ (.slice x1 x2 x3)).cell? ⟨W.heap.size + 1, 1, none⟩ = some (.slice x1 x2 x3) := hfin.cell 1
          clear hend hfin hfn
          go_wp2_with fail
          rw [HQ0.out]
          refine bodyPost_ret (v := .agg #[.int .i64 x0, .slice x1 x2 x3]) ?hres rfl HEND.out
          case hres => simp [results, Tryd.results17, go_sem, r0, r1]
        | none =>
          have hbt : bad = false := by rw [HBD3.out, hor]; rfl
          have hu0 : firstsB h.uf h.node.length h.up.length = none := by
            unfold orB at hor
            split at hor
            · cases hor
            · assumption
          have hd0 : firstsB h.df h.node.length h.dn.length = none := by
            unfold orB at hor
            split at hor
            · cases hor
            · exact hor
          have hch2 := HCH.out
          rw [hu0, hd0] at hch2
          have HCH2 : Hid (chkB h = match orderB h.node h.node.length with
            | some b => some b
            | none => linksB h) := Lib.hid hch2
          have HU := Lib.hid (HSU.out hu0)
          have HD := Lib.hid (HSD.out hd0)
          subst hbt
          clear hor hu0 hd0 hch2 HCH HX3 HBD3 HSU HSD HFU HFD HG3
          have hmk := make_bool h.node.length b0
          have d0 : w3.cell? ⟨W.heap.size, 0, none⟩ = some (.slice k.a0 h.node.length k.c0) := HI3.out.hier.cell 0
          have s3w : W.heap.size < w3.heap.size := HI3.out.hier.lt
          go_wp2_with fail
          clear d0 s3w
          have hc4 := cells_new w3 (markG (.bool true) (.bool false) h.node.length []) 4
          have hb4 := (Below.refl w3.heap.size w3).alloc (Nat.le_refl _) (.cells (markG (.bool true) (.bool false) h.node.length []) 4)
          have hs4 : W.heap.size + 2 ≤ w3.heap.size := HI3.out.size
          generalize hB : w3.heap.size = B at *
          generalize w3.alloc (.cells (markG (.bool true) (.bool false) h.node.length []) 4) = W4 at *
          have HI4 : Hid (DcInv #[.slice k.a0 h.node.length k.c0, .slice k.a1 (h.node.length + 1) k.c1, .slice k.a2 h.up.length k.c2, .slice k.a3 (h.node.length + 1) k.c3, .slice k.a4 h.dn.length k.c4] W W4) := Lib.hid (HI3.out.step (by rw [hB]; exact hb4))
          have HM4 := Lib.hid hc4
          clear hb4 hc4 hmk hB HI3
          go_loopw [68] (fun iv wr => ∃ j : Nat, j ≤ h.node.length ∧ iv = .int .i64 j ∧ (∀ r, r < j → againB h.node h.node.length r = false) ∧ Cells wr B (markG (.bool true) (.bool false) h.node.length (h.node.take j)) 4 ∧ DcInv #[.slice k.a0 h.node.length k.c0, .slice k.a1 (h.node.length + 1) k.c1, .slice k.a2 h.up.length k.c2, .slice k.a3 (h.node.length + 1) k.c3, .slice k.a4 h.dn.length k.c4] W wr) (fun iv _ => h.node.length - (intOf iv).toNat)
          case atStart => exact ⟨0, by omega, rfl, fun r hr => absurd hr (by omega), HM4.out, HI4.out⟩
          case round =>
            obtain ⟨j, hj, rfl, hst, hc, hi⟩ := hrel
            have HST := Lib.hid hst
            have HC := Lib.hid hc
            have HI := Lib.hid hi
            clear hst hc hi HM4 HI4
            by_cases hlt : j < h.node.length
            · have g3 : decide ((j : Int) < (h.node.length : Int)) = true := decide_eq_true (by omega)
              obtain ⟨ad, hA, cc⟩ := (HP.out.below HI.out.below).r0.at_ hlt
              have c0 := cc 0 _ rfl
              rw [Nat.mul_one, Nat.add_zero] at c0
              have hx := HIN.out.i0 h.node[j] (List.getElem_mem _)
              have htk := List.take_succ_eq_append_getElem hlt
              have hgd : h.node.getD j 0 = h.node[j] := by rw [List.getD_eq_getElem?_getD, List.getElem?_eq_getElem hlt]; rfl
              generalize h.node[j] = v at *
              unfold In32 at hx
              have HTK := Lib.hid htk
              have HGD := Lib.hid hgd
              have u0 : IntKind.u64.wrap (v : Int) = v := by rw [IntKind.wrap_u64]; omega
              have u1 : IntKind.u64.wrap (h.node.length : Int) = h.node.length := by rw [IntKind.wrap_u64]; omega
              rw [hA]
              have HA := Lib.hid hA
              clear cc htk hgd hA
              have HSTEP : Hid (againB h.node h.node.length j = false → ∀ r, r < j + 1 → againB h.node h.node.length r = false) := Lib.hid fun hh r hr => by
                by_cases e : r = j
                · rw [e]; exact hh
                · exact HST.out r (by omega)
              have HBAD : Hid (againB h.node h.node.length j = true → orderB h.node h.node.length = some (20, some (3, (j : Int)))) := Lib.hid fun hh => by unfold orderB; rw [find_some HST.out hh hlt]
              by_cases h1 : h.node.length ≤ v
              · have g4 : decide ((h.node.length : Int) ≤ (v : Int)) = true := decide_eq_true (by omega)
                have g4n : decide (h.node.length ≤ v) = true := decide_eq_true h1
                have HE := Lib.hid (HBAD.out (decide_eq_true (.inl (by rw [HGD.out]; exact h1))))
                go_wp2_with fail
                refine (E_any 20 wr).mono ?_
                rintro e w6 ⟨rfl, hb6⟩
                have HI6 := Lib.hid (HI.out.step hb6)
                clear hb6
                go_wp2_with fail
                refine (At1_any 3 (j : Int) 20 w6).mono ?_
                rintro e w7 ⟨gg, cg, rfl, hc7, hg7, hb7⟩
                have HI7 := Lib.hid (HI6.out.step hb7)
                have HX7 : Hid (DocX (some (20, some (3, (j : Int)))) (W.heap.size + 2) ⟨20, some ⟨gg, 0, none⟩, 1, cg⟩ w7) := Lib.hid ⟨gg, cg, rfl, hc7, Nat.le_trans HI6.out.size hg7⟩
                clear hc7 hg7 hb7
                have b0 : w7.cell? ⟨W.heap.size + 1, 0, none⟩ = some (.int .i64 0) := HI7.out.res.cell 0
                have b1 : w7.cell? ⟨W.heap.size + 1, 1, none⟩ = some (.slice none 0 0) := HI7.out.res.cell 1
                have f0 := HI7.out.res.frozen 0
                have f1 := HI7.out.res.frozen 1
                have hfin := (HI7.out.res.set_ 0 (.int .i64 20)).set_ 1 (.slice (some ⟨gg, 0, none⟩) 1 cg)
                have hend := HI7.out.ret (HX7.out)
                have hfn : chkB h = some (20, some (3, (j : Int))) := by rw [HCH2.out, HE.out]
                rw [← hfn] at hend
                unfold two at hend
                dsimp only [errV, zX] at hend
                have HEND := Lib.hid hend
                have r0 : ((w7.setCell ⟨W.heap.size + 1, 0, none⟩ (.int .i64 20)).setCell ⟨W.heap.size + 1, 1, none⟩ (.slice (some ⟨gg, 0, none⟩) 1 cg)).cell? ⟨W.heap.size + 1, 0, none⟩ = some (.int .i64 20) := hfin.cell 0
                have r1 : ((w7.setCell ⟨W.heap.size + 1, 0, none⟩ (.int .i64 20)).setCell ⟨W.heap.size + 1, 1, none⟩ (.slice (some ⟨gg, 0, none⟩) 1 cg)).cell? ⟨W.heap.size + 1, 1, none⟩ = some (.slice (some ⟨gg, 0, none⟩) 1 cg) := hfin.cell 1
                clear hend hfin hfn
                go_wp2_with fail
                rw [HQ0.out]
                refine bodyPost_ret (v := .agg #[.int .i64 20, .slice (some ⟨gg, 0, none⟩) 1 cg]) ?hres rfl HEND.out
                case hres => simp [results, Tryd.results17, go_sem, r0, r1]
              · have g4 : decide ((h.node.length : Int) ≤ (v : Int)) = false := decide_eq_false (by omega)
                have g4n : decide (h.node.length ≤ v) = false := decide_eq_false h1
                have cm := HC.out.cell v
                rw [markG_at (by omega)] at cm
                have hv0 : (0 : Int) ≤ (v : Int) := by omega
                have hv1 : (v : Int) < (h.node.length : Int) := by omega
                by_cases h2 : v ∈ h.node.take j
                · rw [if_pos h2] at cm
                  have HE := Lib.hid (HBAD.out (decide_eq_true (.inr (by rw [HGD.out]; exact h2))))
                  go_wp2_with fail
                  refine (E_any 20 wr).mono ?_
                  rintro e w6 ⟨rfl, hb6⟩
                  have HI6 := Lib.hid (HI.out.step hb6)
                  clear hb6
                  go_wp2_with fail
                  refine (At1_any 3 (j : Int) 20 w6).mono ?_
                  rintro e w7 ⟨gg, cg, rfl, hc7, hg7, hb7⟩
                  have HI7 := Lib.hid (HI6.out.step hb7)
                  have HX7 : Hid (DocX (some (20, some (3, (j : Int)))) (W.heap.size + 2) ⟨20, some ⟨gg, 0, none⟩, 1, cg⟩ w7) := Lib.hid ⟨gg, cg, rfl, hc7, Nat.le_trans HI6.out.size hg7⟩
                  clear hc7 hg7 hb7
                  have b0 : w7.cell? ⟨W.heap.size + 1, 0, none⟩ = some (.int .i64 0) := HI7.out.res.cell 0
                  have b1 : w7.cell? ⟨W.heap.size + 1, 1, none⟩ = some (.slice none 0 0) := HI7.out.res.cell 1
                  have f0 := HI7.out.res.frozen 0
                  have f1 := HI7.out.res.frozen 1
                  have hfin := (HI7.out.res.set_ 0 (.int .i64 20)).set_ 1 (.slice (some ⟨gg, 0, none⟩) 1 cg)
                  have hend := HI7.out.ret (HX7.out)
                  have hfn : chkB h = some (20, some (3, (j : Int))) := by rw [HCH2.out, HE.out]
                  rw [← hfn] at hend
                  unfold two at hend
                  dsimp only [errV, zX] at hend
                  have HEND := Lib.hid hend
                  have r0 : ((w7.setCell ⟨W.heap.size + 1, 0, none⟩ (.int .i64 20)).setCell ⟨W.heap.size + 1, 1, none⟩ (.slice (some ⟨gg, 0, none⟩) 1 cg)).cell? ⟨W.heap.size + 1, 0, none⟩ = some (.int .i64 20) := hfin.cell 0
                  have r1 : ((w7.setCell ⟨W.heap.size + 1, 0, none⟩ (.int .i64 20)).setCell ⟨W.heap.size + 1, 1, none⟩ (.slice (some ⟨gg, 0, none⟩) 1 cg)).cell? ⟨W.heap.size + 1, 1, none⟩ = some (.slice (some ⟨gg, 0, none⟩) 1 cg) := hfin.cell 1
                  clear hend hfin hfn
                  go_wp2_with fail
                  rw [HQ0.out]
                  refine bodyPost_ret (v := .agg #[.int .i64 20, .slice (some ⟨gg, 0, none⟩) 1 cg]) ?hres rfl HEND.out
                  case hres => simp [results, Tryd.results17, go_sem, r0, r1]
                · rw [if_neg h2] at cm
                  have HN := Lib.hid (HSTEP.out (decide_eq_false (by rw [HGD.out]; exact fun hh => hh.elim h1 h2)))
                  have ff := HC.out.frozen v
                  go_wp2_with fail
                  go_roundw
                  case rel =>
                    refine ⟨j + 1, by omega, by go_num, HN.out, ?_, by rw [← HA.out]; exact HI.out.set_ hs4⟩
                    have e := HC.out.set_ v (.bool true)
                    rwa [markG_set _ (by omega), ← HTK.out] at e
                  case measure => simp [intOf]; omega
            · have hjn : j = h.node.length := by omega
              have g3 : decide ((j : Int) < (h.node.length : Int)) = false := decide_eq_false (by omega)
              have g3n : decide (j < h.node.length) = false := decide_eq_false hlt
              have hon : orderB h.node h.node.length = none := by unfold orderB; rw [find_none (fun r hr => HST.out r (by omega))]
              have hch3 := HCH2.out
              rw [hon] at hch3
              have HCH3 : Hid (chkB h = linksB h) := Lib.hid hch3
              clear hon hch3 HCH2 hjn hlt HST HC
              have d0 : wr.cell? ⟨W.heap.size, 0, none⟩ = some (.slice k.a0 h.node.length k.c0) := HI.out.hier.cell 0
              have d1 : wr.cell? ⟨W.heap.size, 1, none⟩ = some (.slice k.a1 (h.node.length + 1) k.c1) := HI.out.hier.cell 1
              have d2 : wr.cell? ⟨W.heap.size, 2, none⟩ = some (.slice k.a2 h.up.length k.c2) := HI.out.hier.cell 2
              have d3 : wr.cell? ⟨W.heap.size, 3, none⟩ = some (.slice k.a3 (h.node.length + 1) k.c3) := HI.out.hier.cell 3
              have d4 : wr.cell? ⟨W.heap.size, 4, none⟩ = some (.slice k.a4 h.dn.length k.c4) := HI.out.hier.cell 4
              have HRA : Hid (Calls Tryd.prog 39 #[.agg #[.slice k.a0 h.node.length k.c0, .slice k.a1 (h.node.length + 1) k.c1, .slice k.a2 h.up.length k.c2, .slice k.a3 (h.node.length + 1) k.c3, .slice k.a4 h.dn.length k.c4]] wr (RanksIs (ranksT h) wr)) := Lib.hid (by
                have h0 := Ranks_any k h wr (HP.out.below HI.out.below) HS.out HU.out HD.out b0 b2
                unfold hierV at h0
                rwa [HU.out.fl, HD.out.fl] at h0)
              go_wp2_with fail
              refine HRA.out.mono ?_
              rintro e w5 ⟨A5, c5, rfl, ho5, hb5⟩
              have hml : (ranksT h).length = h.up.length + h.dn.length := by
                rw [← endsT_rank HU.out HD.out, List.length_map, endsT_len HU.out HD.out]
              have HI5 := Lib.hid (HI.out.step hb5)
              have HRD := Lib.hid (ho5.rd Stp.i64s_len rfl)
              have HML := Lib.hid hml
              have hm1 : (ranksT h).length ≤ 1048576 := by omega
              clear ho5 hb5 hml d0 d1 d2 d3 d4 HRA HI g3 g3n
              generalize hm : (ranksT h).length = m at *
              have HM := Lib.hid hm
              have HLK : Hid (∀ w (j : Nat), j < m → Below W.heap.size W w → Stp.RdI w A5 m (ranksT h) → Calls Tryd.prog 40 #[.agg #[.slice k.a0 h.node.length k.c0, .slice k.a1 (h.node.length + 1) k.c1, .slice k.a2 h.up.length k.c2, .slice k.a3 (h.node.length + 1) k.c3, .slice k.a4 h.dn.length k.c4], .slice A5 m c5, .int .i64 (j : Nat)] w (ErrDoc ((linkB h j).map fun c => (c, some (4, (j : Int)))) w)) := Lib.hid fun w j hj hb hr => by
                have h0 := link_any k h A5 m c5 j w (HP.out.below hb) HS.out HIN.out HU.out HD.out HML.out.symm hm1 b0 hr hj
                unfold hierV at h0
                rwa [HU.out.fl, HD.out.fl] at h0
              clear hm
              go_wp2_with fail
              go_loopw [95] (fun iv wq => ∃ q : Nat, q ≤ m ∧ iv = .int .i64 q ∧ (∀ r, r < q → linkB h r = none) ∧ DcInv #[.slice k.a0 h.node.length k.c0, .slice k.a1 (h.node.length + 1) k.c1, .slice k.a2 h.up.length k.c2, .slice k.a3 (h.node.length + 1) k.c3, .slice k.a4 h.dn.length k.c4] W wq ∧ Stp.RdI wq A5 m (ranksT h)) (fun iv _ => m - (intOf iv).toNat)
              case atStart => exact ⟨0, by omega, rfl, fun r hr => absurd hr (by omega), HI5.out, HRD.out⟩
              case round =>
                clear HI5 HRD
                obtain ⟨q, hq, rfl, hst, hi, hr⟩ := hrel
                have HST := Lib.hid hst
                have HI := Lib.hid hi
                have HR := Lib.hid hr
                clear hst hi hr
                by_cases hlt2 : q < m
                · have g5 : decide ((q : Int) < (m : Int)) = true := decide_eq_true (by omega)
                  have d0 : wr.cell? ⟨W.heap.size, 0, none⟩ = some (.slice k.a0 h.node.length k.c0) := HI.out.hier.cell 0
                  have d1 : wr.cell? ⟨W.heap.size, 1, none⟩ = some (.slice k.a1 (h.node.length + 1) k.c1) := HI.out.hier.cell 1
                  have d2 : wr.cell? ⟨W.heap.size, 2, none⟩ = some (.slice k.a2 h.up.length k.c2) := HI.out.hier.cell 2
                  have d3 : wr.cell? ⟨W.heap.size, 3, none⟩ = some (.slice k.a3 (h.node.length + 1) k.c3) := HI.out.hier.cell 3
                  have d4 : wr.cell? ⟨W.heap.size, 4, none⟩ = some (.slice k.a4 h.dn.length k.c4) := HI.out.hier.cell 4
                  go_wp2_with fail
                  refine (HLK.out wr q hlt2 HI.out.below HR.out).mono ?_
                  rintro e w6 he
                  obtain ⟨x, rfl, hx, hb6⟩ := he.x
                  have hbx := hx.bad (good_link h q)
                  have HI6 := Lib.hid (HI.out.step hb6)
                  have HR6 := Lib.hid (HR.out.below hb6)
                  have HX6 := Lib.hid (hx.mono HI.out.size)
                  obtain ⟨x0, x1, x2, x3⟩ := x
                  unfold badX at hbx
                  have HBX : Hid (decide (x0 ≠ 0 ∨ 0 < x2) = _) := Lib.hid hbx
                  have hc7 := cells_new w6 #[.int .i64 x0, .slice x1 x2 x3] 37
                  have hb7 := (Below.refl w6.heap.size w6).alloc (Nat.le_refl _) (.cells #[.int .i64 x0, .slice x1 x2 x3] 37)
                  have HG7 := Lib.hid hc7
                  have HB7 := Lib.hid hb7
                  clear hx hb6 hbx he d0 d1 d2 d3 d4 hc7 hb7
                  go_wp2_with fail
                  refine (Bad_any x0 x1 x2 x3 _).mono ?_
                  rintro e w8 ⟨rfl, hb8⟩
                  have HI8 := Lib.hid ((HI6.out.step HB7.out).step hb8)
                  have HR8 := Lib.hid ((HR6.out.below HB7.out).below hb8)
                  have HX8 := Lib.hid ((HX6.out.below HB7.out).below hb8)
                  have HG8 := Lib.hid (HG7.out.below hb8)
                  clear hb8 HI6 HR6 HX6 HG7 HB7
                  generalize decide (x0 ≠ 0 ∨ 0 < x2) = bad at *
                  generalize w6.heap.size = ge at *
                  cases hlk : linkB h q with
                  | some c =>
                    have hbt : bad = true := by rw [HBX.out, hlk]; rfl
                    have hx8 := HX8.out
                    rw [hlk] at hx8
                    have HX9 : Hid (DocX (some (c, some (4, (q : Int)))) (W.heap.size + 2) ⟨x0, x1, x2, x3⟩ w8) := Lib.hid hx8
                    have HCP : Hid (chkB h = some (c, some (4, (q : Int)))) := Lib.hid (by rw [HCH3.out]; exact linksB_hit (by have := HML.out; omega) HST.out hlk)
                    subst hbt
                    clear hx8 hlk HX8 HBX
                    have y0 : w8.cell? ⟨ge, 0, none⟩ = some (.int .i64 x0) := HG8.out.cell 0
                    have y1 : w8.cell? ⟨ge, 1, none⟩ = some (.slice x1 x2 x3) := HG8.out.cell 1
                    have b0 : w8.cell? ⟨W.heap.size + 1, 0, none⟩ = some (.int .i64 0) := HI8.out.res.cell 0
                    have b1 : w8.cell? ⟨W.heap.size + 1, 1, none⟩ = some (.slice none 0 0) := HI8.out.res.cell 1
                    have f0 := HI8.out.res.frozen 0
                    have f1 := HI8.out.res.frozen 1
                    have hfin := (HI8.out.res.set_ 0 (.int .i64 x0)).set_ 1 (.slice x1 x2 x3)
                    have hend := HI8.out.ret (HX9.out)
                    have hfn : chkB h = _ := HCP.out
                    rw [← hfn] at hend
                    unfold two at hend
                    dsimp only [errV, zX] at hend
                    have HEND := Lib.hid hend
                    have r0 : ((w8.setCell ⟨W.heap.size + 1, 0, none⟩ (.int .i64 x0)).setCell ⟨W.heap.size + 1, 1, none⟩ (.slice x1 x2 x3)).cell? ⟨W.heap.size + 1, 0, none⟩ = some (.int .i64 x0) := hfin.cell 0
                    have r1 : ((w8.setCell ⟨W.heap.size + 1, 0, none⟩ (.int .i64 x0)).setCell ⟨W.heap.size + 1, 1, none⟩ (.slice x1 x2 x3)).cell? ⟨W.heap.size + 1, 1, none⟩ = some (.slice x1 x2 x3) := hfin.cell 1
                    clear hend hfin hfn
                    go_wp2_with fail
                    rw [HQ0.out]
                    refine bodyPost_ret (v := .agg #[.int .i64 x0, .slice x1 x2 x3]) ?hres rfl HEND.out
                    case hres => simp [results, Tryd.results17, go_sem, r0, r1]
                  | none =>
                    have hbt : bad = false := by rw [HBX.out, hlk]; rfl
                    have HN : Hid (∀ r, r < q + 1 → linkB h r = none) := Lib.hid fun r hr => by
                      by_cases e : r = q
                      · rw [e]; exact hlk
                      · exact HST.out r (by omega)
                    subst hbt
                    clear hlk HX8 HBX HG8
                    go_wp2_with fail
                    go_roundw
                    case rel => exact ⟨q + 1, by omega, by go_num, HN.out, HI8.out, HR8.out⟩
                    case measure => simp [intOf]; omega
                · have g5 : decide ((q : Int) < (m : Int)) = false := decide_eq_false (by omega)
                  have g5n : decide (q < m) = false := decide_eq_false hlt2
                  have HCP : Hid (chkB h = none) := Lib.hid (by rw [HCH3.out]; exact linksB_none (fun r hr => HST.out r (by have := HML.out; omega)))
                  have b0 : wr.cell? ⟨W.heap.size + 1, 0, none⟩ = some (.int .i64 0) := HI.out.res.cell 0
                  have b1 : wr.cell? ⟨W.heap.size + 1, 1, none⟩ = some (.slice none 0 0) := HI.out.res.cell 1
                  have f0 := HI.out.res.frozen 0
                  have f1 := HI.out.res.frozen 1
                  have hfin := (HI.out.res.set_ 0 (.int .i64 0)).set_ 1 (.slice none 0 0)
                  have hend := HI.out.ret (show DocX none _ zX _ from rfl)
                  have hfn : chkB h = _ := HCP.out
                  rw [← hfn] at hend
                  unfold two at hend
                  dsimp only [errV, zX] at hend
                  have HEND := Lib.hid hend
                  have r0 : ((wr.setCell ⟨W.heap.size + 1, 0, none⟩ (.int .i64 0)).setCell ⟨W.heap.size + 1, 1, none⟩ (.slice none 0 0)).cell? ⟨W.heap.size + 1, 0, none⟩ = some (.int .i64 0) := hfin.cell 0
                  have r1 : ((wr.setCell ⟨W.heap.size + 1, 0, none⟩ (.int .i64 0)).setCell ⟨W.heap.size + 1, 1, none⟩ (.slice none 0 0)).cell? ⟨W.heap.size + 1, 1, none⟩ = some (.slice none 0 0) := hfin.cell 1
                  clear hend hfin hfn
                  go_wp2_with fail
                  rw [HQ0.out]
                  refine bodyPost_ret (v := .agg #[.int .i64 0, .slice none 0 0]) ?hres rfl HEND.out
                  case hres => simp [results, Tryd.results17, go_sem, r0, r1]
end Go.Proofs.YtkcnnamghpdplaaDoor
