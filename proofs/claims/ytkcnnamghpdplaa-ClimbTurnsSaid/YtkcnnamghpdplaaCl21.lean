/- The form of a link: the program's. -/
import Derived.Test.YtkcnnamghpdplaaCl20
import Derived.Deep.DeepCutAuto
set_option linter.unusedSimpArgs false
set_option linter.unusedVariables false
namespace Go.Proofs.Ytkcnnamghpdplaa
open Go.RowKit

def shapeE (n0 n2 : Nat) (l : List EndS) (i : Nat) : Bool :=
  decide ((l.getD i dE).lk.to < n0 ∧ (l.getD i dE).rank < (l.getD i dE).lk.to) &&
  !decide (0 < i ∧ i ≠ n2 ∧ (l.getD (i - 1) dE).rank = (l.getD i dE).rank ∧ (l.getD i dE).lk.to ≤ (l.getD (i - 1) dE).lk.to) &&
  (plainB (l.getD i dE).lk ||
    decide (n2 ≤ (l.getD i dE).lk.l ∧ (l.getD i dE).lk.l < l.length ∧ (l.getD i dE).lk.r < n2 ∧
      (l.getD (l.getD i dE).lk.l dE).tail = (l.getD i dE).tail ∧ (l.getD (l.getD i dE).lk.r dE).head = (l.getD i dE).head ∧ (l.getD (l.getD i dE).lk.l dE).rank = (l.getD (l.getD i dE).lk.r dE).rank))
theorem shapeE_no1 {n0 n2 : Nat} {l : List EndS} {i : Nat} (h : ¬ ((l.getD i dE).lk.to < n0 ∧ (l.getD i dE).rank < (l.getD i dE).lk.to)) : shapeE n0 n2 l i = false := by
  unfold shapeE
  rw [decide_eq_false h]
  rfl
theorem shapeE_no2 {n0 n2 : Nat} {l : List EndS} {i : Nat} (h : 0 < i ∧ i ≠ n2 ∧ (l.getD (i - 1) dE).rank = (l.getD i dE).rank ∧ (l.getD i dE).lk.to ≤ (l.getD (i - 1) dE).lk.to) : shapeE n0 n2 l i = false := by
  unfold shapeE
  rw [decide_eq_true h]
  simp
theorem shapeE_3 {n0 n2 : Nat} {l : List EndS} {i : Nat} (h1 : (l.getD i dE).lk.to < n0 ∧ (l.getD i dE).rank < (l.getD i dE).lk.to) (h2 : ¬ (0 < i ∧ i ≠ n2 ∧ (l.getD (i - 1) dE).rank = (l.getD i dE).rank ∧ (l.getD i dE).lk.to ≤ (l.getD (i - 1) dE).lk.to)) :
    shapeE n0 n2 l i = (plainB (l.getD i dE).lk ||
    decide (n2 ≤ (l.getD i dE).lk.l ∧ (l.getD i dE).lk.l < l.length ∧ (l.getD i dE).lk.r < n2 ∧
      (l.getD (l.getD i dE).lk.l dE).tail = (l.getD i dE).tail ∧ (l.getD (l.getD i dE).lk.r dE).head = (l.getD i dE).head ∧ (l.getD (l.getD i dE).lk.l dE).rank = (l.getD (l.getD i dE).lk.r dE).rank)) := by
  unfold shapeE
  rw [decide_eq_true h1, decide_eq_false h2]
  rfl
set_option maxRecDepth 100000 in
set_option maxHeartbeats 4000000 in
theorem shape_any (k : HV) (h : HierT) (A : Option Addr) (m cap i : Nat) (l : List EndS) (W : World) (hp : RdE W A m l) (hi : i < m) (hm : m ≤ 1048576) (hn : h.node.length ≤ 65536) (h2m : h.up.length ≤ m) (hin : ∀ j, j < m → InE h.node.length (l.getD j dE)) :
    Calls Try.prog 48 #[hierV k h, .slice A m cap, .int .i64 i] W (BoolBelow (shapeE h.node.length h.up.length l i) W) := by
  have hml := hp.1
  have HIN := Lib.hid hin
  have hk := hin i hi
  have HP := Lib.hid hp
  have hno1 := @shapeE_no1 h.node.length h.up.length l i
  have hno2 := @shapeE_no2 h.node.length h.up.length l i
  have h3 := @shapeE_3 h.node.length h.up.length l i
  generalize hres : shapeE h.node.length h.up.length l i = res at *
  unfold hierV
  generalize h.node.length = n0 at *
  generalize h.uf.length = n1 at *
  generalize h.up.length = n2 at *
  generalize h.df.length = n3 at *
  generalize h.dn.length = n4 at *
  clear hp hin
  rw [hml] at h3
  have hb1 := (Below.refl W.heap.size W).alloc (Nat.le_refl _) (.cells #[.slice k.a0 n0 k.c0, .slice k.a1 n1 k.c1, .slice k.a2 n2 k.c2, .slice k.a3 n3 k.c3, .slice k.a4 n4 k.c4] 25)
  have hc1 := cells_new W #[.slice k.a0 n0 k.c0, .slice k.a1 n1 k.c1, .slice k.a2 n2 k.c2, .slice k.a3 n3 k.c3, .slice k.a4 n4 k.c4] 25
  obtain ⟨ad, rfl, cc⟩ := rdE_cells (HP.out.below hb1) hi
  obtain ⟨c0, c1, c2, c3, c4, c5, c6⟩ := seven_cells cc
  clear cc
  have hk1 := hk.k.to
  have hk2 := hk.k.l_
  have hk3 := hk.k.r
  have hk4 := hk.r
  have hk5 := hk.t
  have hk6 := hk.h
  have hkK := hk.k
  unfold In32 at hk1 hk2 hk3
  generalize (l.getD i dE) = x at *
  obtain ⟨L, xt, xh, xr⟩ := x
  obtain ⟨x0, x1, x2, x3⟩ := L
  dsimp only at c0 c1 c2 c3 c4 c5 c6 hno1 hno2 h3 hk1 hk2 hk3 hk4 hk5 hk6 hkK
  have HNO1 := Lib.hid hno1
  have HNO2 := Lib.hid hno2
  have H3 := Lib.hid h3
  have HML := Lib.hid hml
  have HRES := Lib.hid hres
  have HC1 := Lib.hid hc1
  have HB1 := Lib.hid hb1
  have w0 : IntKind.i64.wrap (x0 : Int) = x0 := by rw [IntKind.wrap_i64]; omega
  have w2 : IntKind.i64.wrap (x2 : Int) = x2 := by rw [IntKind.wrap_i64]; omega
  have w3 : IntKind.i64.wrap (x3 : Int) = x3 := by rw [IntKind.wrap_i64]; omega
  clear hno1 hno2 h3 hml hres hk hc1 hb1
  by_cases g1 : n0 ≤ x0
  · have g1' : decide ((n0 : Int) ≤ (x0 : Int)) = true := decide_eq_true (by omega)
    have HE := Lib.hid (HNO1.out (by omega))
    go_enter Try.func48, Try.ntmps48
    go_wp2_with fail
    go_ret
    rw [HE.out]
    exact ⟨rfl, HB1.out.alloc HB1.out.size _⟩
  · have g1' : decide ((n0 : Int) ≤ (x0 : Int)) = false := decide_eq_false (by omega)
    by_cases g2 : x0 ≤ xr
    · have g2' : decide ((x0 : Int) ≤ (xr : Int)) = true := decide_eq_true (by omega)
      have HE := Lib.hid (HNO1.out (by omega))
      go_enter Try.func48, Try.ntmps48
      go_wp2_with fail
      go_ret
      rw [HE.out]
      exact ⟨rfl, HB1.out.alloc HB1.out.size _⟩
    · have g2' : decide ((x0 : Int) ≤ (xr : Int)) = false := decide_eq_false (by omega)
      go_enter Try.func48, Try.ntmps48
      go_wp2_with fail
      have hx0 := cells_new (W.alloc (.cells #[.slice k.a0 n0 k.c0, .slice k.a1 n1 k.c1, .slice k.a2 n2 k.c2, .slice k.a3 n3 k.c3, .slice k.a4 n4 k.c4] 25)) #[.int .u32 x0, .int .u64 x1, .int .u32 x2, .int .u32 x3, .int .i64 xt, .int .i64 xh, .int .i64 xr] 97
      rw [size_alloc] at hx0
      have hb2 := two_al W (.cells #[.slice k.a0 n0 k.c0, .slice k.a1 n1 k.c1, .slice k.a2 n2 k.c2, .slice k.a3 n3 k.c3, .slice k.a4 n4 k.c4] 25) (.cells #[.int .u32 x0, .int .u64 x1, .int .u32 x2, .int .u32 x3, .int .i64 xt, .int .i64 xh, .int .i64 xr] 97)
      have hh0 := HC1.out.below ((Below.refl (W.alloc (.cells #[.slice k.a0 n0 k.c0, .slice k.a1 n1 k.c1, .slice k.a2 n2 k.c2, .slice k.a3 n3 k.c3, .slice k.a4 n4 k.c4] 25)).heap.size (W.alloc (.cells #[.slice k.a0 n0 k.c0, .slice k.a1 n1 k.c1, .slice k.a2 n2 k.c2, .slice k.a3 n3 k.c3, .slice k.a4 n4 k.c4] 25))).alloc (Nat.le_refl _) (.cells #[.int .u32 x0, .int .u64 x1, .int .u32 x2, .int .u32 x3, .int .i64 xt, .int .i64 xh, .int .i64 xr] 97))
      generalize (W.alloc (.cells #[.slice k.a0 n0 k.c0, .slice k.a1 n1 k.c1, .slice k.a2 n2 k.c2, .slice k.a3 n3 k.c3, .slice k.a4 n4 k.c4] 25)).alloc (.cells #[.int .u32 x0, .int .u64 x1, .int .u32 x2, .int .u32 x3, .int .i64 xt, .int .i64 xh, .int .i64 xr] 97) = W2 at *
      have HCX := Lib.hid hx0
      have HCH := Lib.hid hh0
      have HB2 := Lib.hid hb2
      have HKK := Lib.hid hkK
      clear hx0 hh0 hb2 hkK c0 c1 c2 c3 c4 c5 c6 w0 w2 w3 HB1 HC1
      have w2 : IntKind.i64.wrap (x2 : Int) = x2 := by rw [IntKind.wrap_i64]; omega
      have w3 : IntKind.i64.wrap (x3 : Int) = x3 := by rw [IntKind.wrap_i64]; omega
      have b2 : W2.cell? ⟨W.heap.size, 2, none⟩ = some (.slice k.a2 n2 k.c2) := HCH.out.cell 2
      have e0 : W2.cell? ⟨W.heap.size + 1, 0, none⟩ = some (.int .u32 x0) := HCX.out.cell 0
      have e6 : W2.cell? ⟨W.heap.size + 1, 6, none⟩ = some (.int .i64 xr) := HCX.out.cell 6
      have HY : Hid (∀ j, j < m → ∀ w, Below W.heap.size W w → (w.cell? ⟨(ad.add (j * 7)).block, (ad.add (j * 7)).off + 6, none⟩ = some (.int .i64 ((l.getD j dE).rank : Nat))) ∧ w.cell? (ad.add (j * 7)) = some (.int .u32 ((l.getD j dE).lk.to : Nat))) := Lib.hid fun j hj w hb => by
        obtain ⟨ad', hA, cy⟩ := rdE_cells (HP.out.below hb) hj
        obtain rfl := Option.some.inj hA
        obtain ⟨y0, -, -, -, -, -, y6⟩ := seven_cells cy
        exact ⟨y6, y0⟩
      clear g1' g2'
      go_cut [34] (fun s wx => s = .bool (decide (0 < i ∧ i ≠ n2 ∧ (l.getD (i - 1) dE).rank = xr ∧ x0 ≤ (l.getD (i - 1) dE).lk.to)) ∧ Drawn W2 wx)
      case first =>
        by_cases hz : i = 0
        · have p0 : decide ((0 : Int) < (i : Int)) = false := decide_eq_false (by omega)
          have HR : Hid (decide (0 < i ∧ i ≠ n2 ∧ (l.getD (i - 1) dE).rank = xr ∧ x0 ≤ (l.getD (i - 1) dE).lk.to) = false) := Lib.hid (decide_eq_false (by omega))
          generalize decide (0 < i ∧ i ≠ n2 ∧ (l.getD (i - 1) dE).rank = xr ∧ x0 ≤ (l.getD (i - 1) dE).lk.to) = bad at *
          go_quiet (fail)
          go_wp2_with fail
          go_meet
          exact ⟨by rw [HR.out], (Drawn.refl _).step _⟩
        · have p0 : decide ((0 : Int) < (i : Int)) = true := decide_eq_true (by omega)
          have p0n : decide (0 < i) = true := decide_eq_true (by omega)
          by_cases hz2 : i = n2
          · have HR : Hid (decide (0 < i ∧ i ≠ n2 ∧ (l.getD (i - 1) dE).rank = xr ∧ x0 ≤ (l.getD (i - 1) dE).lk.to) = false) := Lib.hid (decide_eq_false (by omega))
            generalize decide (0 < i ∧ i ≠ n2 ∧ (l.getD (i - 1) dE).rank = xr ∧ x0 ≤ (l.getD (i - 1) dE).lk.to) = bad at *
            subst hz2
            go_quiet (fail)
            go_wp2_with fail
            go_meet
            exact ⟨by rw [HR.out], (Drawn.refl _).step _⟩
          · have p1 : ((i : Int) == (n2 : Int)) = false := by rw [beq_eq_false_iff_ne]; omega
            have p2 : ((i : Int) != (n2 : Int)) = true := by rw [bne, p1]; rfl
            have u1 : IntKind.i64.wrap ((i : Int) - 1) = (i : Int) - 1 := by rw [IntKind.wrap_i64]; omega
            have u2 : ((i : Int) - 1).toNat = i - 1 := by omega
            have u3 : (0 : Int) ≤ (i : Int) - 1 := by omega
            have u4 : (i : Int) - 1 < (m : Int) := by omega
            have u5 : (1 : Int) ≤ (i : Int) := by omega
            obtain ⟨y6, y0⟩ := HY.out (i - 1) (by omega) W2 HB2.out
            generalize (l.getD (i - 1) dE).rank = yr at *
            generalize (l.getD (i - 1) dE).lk.to = yt at *
            by_cases q4 : yr = xr
            · have q4' : ((yr : Int) == (xr : Int)) = true := beq_iff_eq.2 (by omega)
              by_cases q5 : x0 ≤ yt
              · have q5' : decide ((x0 : Int) ≤ (yt : Int)) = true := decide_eq_true (by omega)
                have q5n : decide (x0 ≤ yt) = true := decide_eq_true q5
                have HR : Hid (decide (0 < i ∧ i ≠ n2 ∧ yr = xr ∧ x0 ≤ yt) = true) := Lib.hid (decide_eq_true ⟨by omega, hz2, q4, q5⟩)
                generalize decide (0 < i ∧ i ≠ n2 ∧ yr = xr ∧ x0 ≤ yt) = bad at *
                clear q4 q5 hz2 hz
                go_quiet (fail)
                go_wp2_with fail
                go_meet
                exact ⟨by rw [HR.out], (Drawn.refl _).step _⟩
              · have q5' : decide ((x0 : Int) ≤ (yt : Int)) = false := decide_eq_false (by omega)
                have q5n : decide (x0 ≤ yt) = false := decide_eq_false q5
                have HR : Hid (decide (0 < i ∧ i ≠ n2 ∧ yr = xr ∧ x0 ≤ yt) = false) := Lib.hid (decide_eq_false (fun h => q5 h.2.2.2))
                generalize decide (0 < i ∧ i ≠ n2 ∧ yr = xr ∧ x0 ≤ yt) = bad at *
                clear q4 q5 hz2 hz
                go_quiet (fail)
                go_wp2_with fail
                go_meet
                exact ⟨by rw [HR.out], (Drawn.refl _).step _⟩
            · have q4' : ((yr : Int) == (xr : Int)) = false := by rw [beq_eq_false_iff_ne]; omega
              have HR : Hid (decide (0 < i ∧ i ≠ n2 ∧ yr = xr ∧ x0 ≤ yt) = false) := Lib.hid (decide_eq_false (fun h => q4 h.2.2.1))
              generalize decide (0 < i ∧ i ≠ n2 ∧ yr = xr ∧ x0 ≤ yt) = bad at *
              clear q4 hz2 hz
              go_quiet (fail)
              go_wp2_with fail
              go_meet
              exact ⟨by rw [HR.out], (Drawn.refl _).step _⟩
      case rest =>
        obtain ⟨rfl, hdr⟩ := hcut
        have hb3 := hdr.below W2.heap.size
        clear hdr b2 e0 e6
        by_cases hbad : (0 < i ∧ i ≠ n2 ∧ (l.getD (i - 1) dE).rank = xr ∧ x0 ≤ (l.getD (i - 1) dE).lk.to)
        · have HE := Lib.hid (HNO2.out hbad)
          have hd : decide (0 < i ∧ i ≠ n2 ∧ (l.getD (i - 1) dE).rank = xr ∧ x0 ≤ (l.getD (i - 1) dE).lk.to) = true := decide_eq_true hbad
          clear hbad
          rw [hd]
          go_wp2_with fail
          go_ret
          rw [HE.out]
          exact ⟨rfl, HB2.out.trans (hb3.mono HB2.out.size)⟩
        have H33 := Lib.hid (H3.out (by omega) hbad)
        have hd : decide (0 < i ∧ i ≠ n2 ∧ (l.getD (i - 1) dE).rank = xr ∧ x0 ≤ (l.getD (i - 1) dE).lk.to) = false := decide_eq_false hbad
        rw [hd]
        clear hd hbad
        have HCH3 := Lib.hid (HCH.out.below hb3)
        have HCX3 := Lib.hid (HCX.out.below hb3)
        have HB3 := Lib.hid (HB2.out.trans (hb3.mono HB2.out.size))
        clear hb3
        generalize hW3 : wc = W3 at *
        clear hW3
        have e0 : W3.cell? ⟨W.heap.size + 1, 0, none⟩ = some (.int .u32 x0) := HCX3.out.cell 0
        have e1 : W3.cell? ⟨W.heap.size + 1, 1, none⟩ = some (.int .u64 x1) := HCX3.out.cell 1
        have e2 : W3.cell? ⟨W.heap.size + 1, 2, none⟩ = some (.int .u32 x2) := HCX3.out.cell 2
        have e3 : W3.cell? ⟨W.heap.size + 1, 3, none⟩ = some (.int .u32 x3) := HCX3.out.cell 3
        go_wp2_with fail
        refine (plain_any ⟨x0, x1, x2, x3⟩ W3 HKK.out).mono ?_
        cases hpl : plainB ⟨x0, x1, x2, x3⟩ with
        | true =>
          rintro e w4 ⟨rfl, hb4⟩
          have HE := Lib.hid (H33.out.trans (by rw [hpl, Bool.true_or]))
          have HB4 := Lib.hid (HB3.out.trans (hb4.mono HB3.out.size))
          clear hb4 e0 e1 e2 e3 hpl
          go_wp2_with fail
          go_ret
          rw [HE.out]
          exact ⟨rfl, HB4.out⟩
        | false =>
          rintro e w4 ⟨rfl, hb4⟩
          have HE := Lib.hid (H33.out.trans (by rw [hpl, Bool.false_or]))
          have HB4 := Lib.hid (HB3.out.trans (hb4.mono HB3.out.size))
          have HCH4 := Lib.hid (HCH3.out.below hb4)
          have HCX4 := Lib.hid (HCX3.out.below hb4)
          clear hb4 e0 e1 e2 e3 hpl
          have b2 : w4.cell? ⟨W.heap.size, 2, none⟩ = some (.slice k.a2 n2 k.c2) := HCH4.out.cell 2
          have e2 : w4.cell? ⟨W.heap.size + 1, 2, none⟩ = some (.int .u32 x2) := HCX4.out.cell 2
          have e3 : w4.cell? ⟨W.heap.size + 1, 3, none⟩ = some (.int .u32 x3) := HCX4.out.cell 3
          go_wp2_with fail
          go_quiet (fail)
          have hb5 : Below w4.heap.size w4 (w4.drewN nq) := ((Drawn.refl w4).step nq).below w4.heap.size
          have HCH5 := Lib.hid (HCH4.out.below hb5)
          have HCX5 := Lib.hid (HCX4.out.below hb5)
          have HB5 := Lib.hid (HB4.out.trans (hb5.mono HB4.out.size))
          clear hb5 b2 e2 e3
          generalize hW5 : w4.drewN nq = w5 at *
          clear hW5
          have b2 : w5.cell? ⟨W.heap.size, 2, none⟩ = some (.slice k.a2 n2 k.c2) := HCH5.out.cell 2
          by_cases q1 : x2 < n2
          · have q1' : decide ((x2 : Int) < (n2 : Int)) = true := decide_eq_true (by omega)
            have HE2 := Lib.hid (HE.out.trans (decide_eq_false (fun h => by have := h.1; have := h.2.1; have := h.2.2.1; omega)))
            go_wp2_with fail
            go_ret
            rw [HE2.out]
            exact ⟨rfl, HB5.out⟩
          · have q1' : decide ((x2 : Int) < (n2 : Int)) = false := decide_eq_false (by omega)
            by_cases q2 : m ≤ x2
            · have q2' : decide ((m : Int) ≤ (x2 : Int)) = true := decide_eq_true (by omega)
              have HE2 := Lib.hid (HE.out.trans (decide_eq_false (fun h => by have := h.1; have := h.2.1; have := h.2.2.1; omega)))
              go_wp2_with fail
              go_ret
              rw [HE2.out]
              exact ⟨rfl, HB5.out⟩
            · have q2' : decide ((m : Int) ≤ (x2 : Int)) = false := decide_eq_false (by omega)
              by_cases q3 : n2 ≤ x3
              · have q3' : decide ((n2 : Int) ≤ (x3 : Int)) = true := decide_eq_true (by omega)
                have HE2 := Lib.hid (HE.out.trans (decide_eq_false (fun h => by have := h.1; have := h.2.1; have := h.2.2.1; omega)))
                go_wp2_with fail
                go_ret
                rw [HE2.out]
                exact ⟨rfl, HB5.out⟩
              · have q3' : decide ((n2 : Int) ≤ (x3 : Int)) = false := decide_eq_false (by omega)
                obtain ⟨ad', hA, cl⟩ := rdE_cells (HP.out.below HB5.out) (i := x2) (by omega)
                obtain rfl := Option.some.inj hA
                obtain ⟨ad', hA, cr⟩ := rdE_cells (HP.out.below HB5.out) (i := x3) (by omega)
                obtain rfl := Option.some.inj hA
                obtain ⟨l0, l1, l2, l3, l4, l5, l6⟩ := seven_cells cl
                obtain ⟨r0, r1, r2, r3, r4, r5, r6⟩ := seven_cells cr
                clear cl cr hA
                have HE2 := Lib.hid (HE.out.trans (show _ = decide ((l.getD x2 dE).tail = xt ∧ (l.getD x3 dE).head = xh ∧ (l.getD x2 dE).rank = (l.getD x3 dE).rank) by rw [decide_eq_decide]; exact ⟨fun h => ⟨h.2.2.2.1, h.2.2.2.2.1, h.2.2.2.2.2⟩, fun h => ⟨by omega, by omega, by omega, h.1, h.2.1, h.2.2⟩⟩))
                generalize (l.getD x2 dE) = y at *
                generalize (l.getD x3 dE) = z at *
                obtain ⟨⟨y0, y1, y2, y3⟩, yt, yh, yr⟩ := y
                obtain ⟨⟨z0, z1, z2, z3⟩, zt, zh, zr⟩ := z
                dsimp only at l0 l1 l2 l3 l4 l5 l6 r0 r1 r2 r3 r4 r5 r6 HE2
                go_wp2_with fail
                have j1 : x2 < m := by omega
                have j3 : x3 < m := by omega
                go_region_held3 (fun w' => (w'.cell? (ad.add (x2 * 7)) = some (.int .u32 y0) ∧ w'.cell? ⟨(ad.add (x2 * 7)).block, (ad.add (x2 * 7)).off + 1, none⟩ = some (.int .u64 y1) ∧ w'.cell? ⟨(ad.add (x2 * 7)).block, (ad.add (x2 * 7)).off + 2, none⟩ = some (.int .u32 y2) ∧ w'.cell? ⟨(ad.add (x2 * 7)).block, (ad.add (x2 * 7)).off + 3, none⟩ = some (.int .u32 y3) ∧ w'.cell? ⟨(ad.add (x2 * 7)).block, (ad.add (x2 * 7)).off + 4, none⟩ = some (.int .i64 yt) ∧ w'.cell? ⟨(ad.add (x2 * 7)).block, (ad.add (x2 * 7)).off + 5, none⟩ = some (.int .i64 yh) ∧ w'.cell? ⟨(ad.add (x2 * 7)).block, (ad.add (x2 * 7)).off + 6, none⟩ = some (.int .i64 yr)) ∧ (w'.cell? (ad.add (x3 * 7)) = some (.int .u32 z0) ∧ w'.cell? ⟨(ad.add (x3 * 7)).block, (ad.add (x3 * 7)).off + 1, none⟩ = some (.int .u64 z1) ∧ w'.cell? ⟨(ad.add (x3 * 7)).block, (ad.add (x3 * 7)).off + 2, none⟩ = some (.int .u32 z2) ∧ w'.cell? ⟨(ad.add (x3 * 7)).block, (ad.add (x3 * 7)).off + 3, none⟩ = some (.int .u32 z3) ∧ w'.cell? ⟨(ad.add (x3 * 7)).block, (ad.add (x3 * 7)).off + 4, none⟩ = some (.int .i64 zt) ∧ w'.cell? ⟨(ad.add (x3 * 7)).block, (ad.add (x3 * 7)).off + 5, none⟩ = some (.int .i64 zh) ∧ w'.cell? ⟨(ad.add (x3 * 7)).block, (ad.add (x3 * 7)).off + 6, none⟩ = some (.int .i64 zr))) (first | with_reducible exact ⟨⟨l0, l1, l2, l3, l4, l5, l6⟩, r0, r1, r2, r3, r4, r5, r6⟩ | go_keep) (fail)
                all_goals
                  rename_i hHeld
                  clear hHeld l0 l1 l2 l3 l4 l5 l6 r0 r1 r2 r3 r4 r5 r6
                  have s5 : W.heap.size + 1 < w5.heap.size := HCX5.out.lt
                  have s6 : W.heap.size < w5.heap.size := by omega
                  have e4 : w5.cell? ⟨W.heap.size + 1, 4, none⟩ = some (.int .i64 xt) := HCX5.out.cell 4
                  have e5 : w5.cell? ⟨W.heap.size + 1, 5, none⟩ = some (.int .i64 xh) := HCX5.out.cell 5
                  by_cases q4 : yt = xt
                  · have q4' : ((yt : Int) == (xt : Int)) = true := beq_iff_eq.2 (by omega)
                    by_cases q5 : zh = xh
                    · have q5' : ((zh : Int) == (xh : Int)) = true := beq_iff_eq.2 (by omega)
                      by_cases q6 : yr = zr
                      · have q6' : ((yr : Int) == (zr : Int)) = true := beq_iff_eq.2 (by omega)
                        have HE3 := Lib.hid (HE2.out.trans (decide_eq_true ⟨q4, q5, q6⟩))
                        clear q4 q5 q6
                        go_wp2_with fail
                        go_ret
                        rw [HE3.out]
                        exact ⟨rfl, (((HB5.out.alloc HB5.out.size _).alloc (by have := HB5.out.size; simp; omega) _)).drew⟩
                      · have q6' : ((yr : Int) == (zr : Int)) = false := by rw [beq_eq_false_iff_ne]; omega
                        have HE3 := Lib.hid (HE2.out.trans (decide_eq_false (fun h => q6 h.2.2)))
                        clear q4 q5 q6
                        go_wp2_with fail
                        go_ret
                        rw [HE3.out]
                        exact ⟨rfl, (((HB5.out.alloc HB5.out.size _).alloc (by have := HB5.out.size; simp; omega) _)).drew⟩
                    · have q5' : ((zh : Int) == (xh : Int)) = false := by rw [beq_eq_false_iff_ne]; omega
                      have HE3 := Lib.hid (HE2.out.trans (decide_eq_false (fun h => q5 h.2.1)))
                      clear q4 q5
                      go_wp2_with fail
                      go_ret
                      rw [HE3.out]
                      exact ⟨rfl, (((HB5.out.alloc HB5.out.size _).alloc (by have := HB5.out.size; simp; omega) _)).drew⟩
                  · have q4' : ((yt : Int) == (xt : Int)) = false := by rw [beq_eq_false_iff_ne]; omega
                    have HE3 := Lib.hid (HE2.out.trans (decide_eq_false (fun h => q4 h.1)))
                    clear q4
                    go_wp2_with fail
                    go_ret
                    rw [HE3.out]
                    exact ⟨rfl, (((HB5.out.alloc HB5.out.size _).alloc (by have := HB5.out.size; simp; omega) _)).drew⟩
end Go.Proofs.Ytkcnnamghpdplaa
