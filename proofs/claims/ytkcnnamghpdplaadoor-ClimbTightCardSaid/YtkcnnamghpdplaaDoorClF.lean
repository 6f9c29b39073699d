/- Several texts in one (squeeze.py): Cl20 Cl21 Cl23. -/
import Derived.Test.YtkcnnamghpdplaaDoorClE
import Derived.Deep.DeepCutAuto
/- Form and weight of a link: the program's. -/
set_option linter.unusedSimpArgs false
set_option linter.unusedVariables false
namespace Go.Proofs.YtkcnnamghpdplaaDoor
open Go.RowKit

abbrev encE (x : EndS) : List Value := [.int .u32 (x.lk.to : Int), .int .u64 x.lk.w, .int .u32 (x.lk.l : Int), .int .u32 (x.lk.r : Int), .int .i64 (x.tail : Int), .int .i64 (x.head : Int), .int .i64 (x.rank : Int)]
theorem encE_len : ∀ x, (encE x).length = 7 := fun _ => rfl
theorem encE_one : ∀ x, ∀ u ∈ encE x, u.oneCell' = true := fun x u h => by
  simp at h
  rcases h with rfl | rfl | rfl | rfl | rfl | rfl | rfl <;> rfl
theorem info_end : (Tryd.prog.info? 140).map (fun i => (i.zero, i.size, i.bytes)) = some (some (.agg #[.int .u32 0, .int .u64 0, .int .u32 0, .int .u32 0, .int .i64 0, .int .i64 0, .int .i64 0]), 7, 48) := by kernel_rfl
abbrev OwnE (w : World) (base : Nat) (v : Value) (l : List EndS) : Prop := Own 140 7 encE w base v l
abbrev RdE (w : World) (A : Option Addr) (n : Nat) (l : List EndS) : Prop := Rd 7 encE w A n l
abbrev endV (x : EndS) : Value := .agg #[.int .u32 (x.lk.to : Int), .int .u64 x.lk.w, .int .u32 (x.lk.l : Int), .int .u32 (x.lk.r : Int), .int .i64 (x.tail : Int), .int .i64 (x.head : Int), .int .i64 (x.rank : Int)]
/-- the cells of an element of seven -/
theorem seven_cells {w : World} {ad : Addr} {j : Nat} {x : EndS} (h : ∀ i u, (encE x)[i]? = some u → w.cell? (ad.add (j * 7 + i)) = some u) :
    w.cell? (ad.add (j * 7)) = some (.int .u32 (x.lk.to : Int)) ∧ w.cell? ⟨(ad.add (j * 7)).block, (ad.add (j * 7)).off + 1, none⟩ = some (.int .u64 x.lk.w) ∧ w.cell? ⟨(ad.add (j * 7)).block, (ad.add (j * 7)).off + 2, none⟩ = some (.int .u32 (x.lk.l : Int)) ∧ w.cell? ⟨(ad.add (j * 7)).block, (ad.add (j * 7)).off + 3, none⟩ = some (.int .u32 (x.lk.r : Int)) ∧
    w.cell? ⟨(ad.add (j * 7)).block, (ad.add (j * 7)).off + 4, none⟩ = some (.int .i64 (x.tail : Int)) ∧ w.cell? ⟨(ad.add (j * 7)).block, (ad.add (j * 7)).off + 5, none⟩ = some (.int .i64 (x.head : Int)) ∧ w.cell? ⟨(ad.add (j * 7)).block, (ad.add (j * 7)).off + 6, none⟩ = some (.int .i64 (x.rank : Int)) := by
  have h0 := h 0 _ rfl
  have h1 := h 1 _ rfl
  have h2 := h 2 _ rfl
  have h3 := h 3 _ rfl
  have h4 := h 4 _ rfl
  have h5 := h 5 _ rfl
  have h6 := h 6 _ rfl
  rw [← add_of_add] at h1 h2 h3 h4 h5 h6
  rw [Nat.add_zero] at h0
  exact ⟨h0, h1, h2, h3, h4, h5, h6⟩
/-- what bounds an end's numbers -/
structure InE (n : Nat) (x : EndS) : Prop where
  k : InK x.lk
  t : x.tail ≤ 4294967295
  h : x.head ≤ 4294967295
  r : x.rank < n
def dE : EndS := ⟨⟨0, 0, 0, 0⟩, 0, 0, 0⟩
def weightE (l : List EndS) (i : Nat) : Bool :=
  if plainB (l.getD i dE).lk then decide ((l.getD i dE).lk.w ≤ 2147483647)
  else decide ((l.getD i dE).lk.w ≤ 140737488355328 ∧ (l.getD (l.getD i dE).lk.l dE).lk.w ≤ 140737488355328 ∧ (l.getD (l.getD i dE).lk.r dE).lk.w ≤ 140737488355328 ∧ (l.getD (l.getD i dE).lk.l dE).lk.w + (l.getD (l.getD i dE).lk.r dE).lk.w = (l.getD i dE).lk.w)
theorem getD_E {l : List EndS} {i : Nat} (h : i < l.length) : l.getD i dE = l[i] := by rw [List.getD_eq_getElem?_getD, List.getElem?_eq_getElem h]; rfl
theorem rdE_cells {w : World} {A : Option Addr} {n : Nat} {l : List EndS} (h : RdE w A n l) {i : Nat} (hi : i < n) : ∃ ad, A = some ad ∧ ∀ j u, (encE (l.getD i dE))[j]? = some u → w.cell? (ad.add (i * 7 + j)) = some u := by
  obtain ⟨ad, hA, cc⟩ := h.at_ hi
  refine ⟨ad, hA, ?_⟩
  rw [getD_E (by have := h.1; omega)]
  exact cc
set_option maxRecDepth 100000 in
theorem weight_any (A : Option Addr) (m cap i : Nat) (l : List EndS) (W : World) (hp : RdE W A m l) (hi : i < m) (hm : m ≤ 1048576) (hin : ∀ j, j < m → InK (l.getD j dE).lk) (hch : plainB (l.getD i dE).lk = false → (l.getD i dE).lk.l < m ∧ (l.getD i dE).lk.r < m) :
    Calls Tryd.prog 68 #[.slice A m cap, .int .i64 i] W (BoolBelow (weightE l i) W) := by
  obtain ⟨ad, rfl, cc⟩ := rdE_cells hp hi
  obtain ⟨c0, c1, c2, c3, -, -, -⟩ := seven_cells cc
  have hk := hin i hi
  have HPL := Lib.hid (plain_any (l.getD i dE).lk (W.alloc (.cells (encK (l.getD i dE).lk).toArray 52)) hk)
  have HW : Hid (weightE l i = weightE l i) := Lib.hid rfl
  cases hpl : plainB (l.getD i dE).lk with
  | true =>
    have HE : Hid (weightE l i = decide ((l.getD i dE).lk.w ≤ 2147483647)) := Lib.hid (by unfold weightE; rw [if_pos hpl])
    rw [hpl] at HPL
    have hkw := hk.w
    clear hp cc hin hch hk hpl
    generalize weightE l i = res at *
    generalize (l.getD i dE).lk = L at *
    obtain ⟨x0, x1, x2, x3⟩ := L
    unfold linkV at HPL
    dsimp only at *
    go_enter Tryd.func68, Tryd.ntmps68
    go_wp2_with fail
    refine HPL.out.mono ?_
    rintro e w2 ⟨rfl, hb2⟩
    have d1 := cell_below hb2 ((cells_new W #[.int .u32 x0, .int .u64 x1, .int .u32 x2, .int .u32 x3] 52).cell 1)
    have HB := Lib.hid (((Below.refl _ W).alloc (Nat.le_refl _) _).trans (hb2.mono (by simp)))
    clear hb2
    go_wp2_with fail
    go_ret
    rw [HE.out]
    exact ⟨rfl, HB.out⟩
  | false =>
    obtain ⟨hl, hr⟩ := hch hpl
    obtain ⟨ad', hA, cl⟩ := rdE_cells hp hl
    obtain rfl := Option.some.inj hA
    obtain ⟨ad', hA, cr⟩ := rdE_cells hp hr
    obtain rfl := Option.some.inj hA
    obtain ⟨-, y1, -, -, -, -, -⟩ := seven_cells cl
    obtain ⟨-, z1, -, -, -, -, -⟩ := seven_cells cr
    have hyk := (hin _ hl).w
    have hzk := (hin _ hr).w
    have hkw := hk.w
    have HE : Hid (weightE l i = decide ((l.getD i dE).lk.w ≤ 140737488355328 ∧ (l.getD (l.getD i dE).lk.l dE).lk.w ≤ 140737488355328 ∧ (l.getD (l.getD i dE).lk.r dE).lk.w ≤ 140737488355328 ∧ (l.getD (l.getD i dE).lk.l dE).lk.w + (l.getD (l.getD i dE).lk.r dE).lk.w = (l.getD i dE).lk.w)) := Lib.hid (by unfold weightE; rw [if_neg (by rw [hpl]; exact Bool.false_ne_true)])
    rw [hpl] at HPL
    clear hp cc cl cr hin hch hpl hk
    generalize weightE l i = res at *
    generalize (l.getD (l.getD i dE).lk.l dE).lk.w = y at *
    generalize (l.getD (l.getD i dE).lk.r dE).lk.w = z at *
    generalize (l.getD i dE).lk = L at *
    obtain ⟨x0, x1, x2, x3⟩ := L
    unfold linkV at HPL
    dsimp only at *
    have hb0 := (Below.refl W.heap.size W).alloc (Nat.le_refl _) (.cells #[.int .u32 x0, .int .u64 x1, .int .u32 x2, .int .u32 x3] 52)
    go_enter Tryd.func68, Tryd.ntmps68
    go_wp2_with fail
    refine HPL.out.mono ?_
    rintro e w2 ⟨rfl, hb2⟩
    have d1 : w2.cell? ⟨W.heap.size, 1, none⟩ = some (.int .u64 x1) := cell_below hb2 ((cells_new W #[.int .u32 x0, .int .u64 x1, .int .u32 x2, .int .u32 x3] 52).cell 1)
    have d2 : w2.cell? ⟨W.heap.size, 2, none⟩ = some (.int .u32 x2) := cell_below hb2 ((cells_new W #[.int .u32 x0, .int .u64 x1, .int .u32 x2, .int .u32 x3] 52).cell 2)
    have d3 : w2.cell? ⟨W.heap.size, 3, none⟩ = some (.int .u32 x3) := cell_below hb2 ((cells_new W #[.int .u32 x0, .int .u64 x1, .int .u32 x2, .int .u32 x3] 52).cell 3)
    have hb20 := hb0.trans (hb2.mono (by simp))
    have y1' := cell_below hb20 y1
    have z1' := cell_below hb20 z1
    have HB := Lib.hid hb20
    have i0 : (0 : Int) ≤ (x2 : Int) := by omega
    have i1 : (x2 : Int) < (m : Int) := by omega
    have i2 : (0 : Int) ≤ (x3 : Int) := by omega
    have i3 : (x3 : Int) < (m : Int) := by omega
    clear hb2 hb20 hb0 c0 c1 c2 c3 y1 z1
    go_wp2_with fail
    go_quiet (fail)
    have hdr := HB.out.trans ((Drawn.refl w2).step nq |>.below W.heap.size)
    have d1' : (w2.drewN nq).cell? ⟨W.heap.size, 1, none⟩ = some (.int .u64 x1) := by exact d1
    generalize w2.drewN nq = w3 at *
    have HB3 := Lib.hid hdr
    clear hdr d1 d2 d3 y1' z1' HB
    by_cases h1 : x1 ≤ 140737488355328
    · have g1 : decide (x1 ≤ 140737488355328) = true := decide_eq_true h1
      by_cases h2 : y ≤ 140737488355328
      · have g2 : decide (y ≤ 140737488355328) = true := decide_eq_true h2
        by_cases h3 : z ≤ 140737488355328
        · have g3 : decide (z ≤ 140737488355328) = true := decide_eq_true h3
          have w1 : IntKind.u64.wrap (y + z) = y + z := by rw [IntKind.wrap_u64]; omega
          by_cases h4 : y + z = x1
          · have HE2 := Lib.hid (HE.out.trans (decide_eq_true ⟨h1, h2, h3, h4⟩))
            have g4 : (y + z == x1) = true := beq_iff_eq.2 h4
            clear h4
            go_wp2_with fail
            go_ret
            rw [HE2.out]
            exact ⟨rfl, HB3.out⟩
          · have HE2 := Lib.hid (HE.out.trans (decide_eq_false (fun h => h4 h.2.2.2)))
            have g4 : (y + z == x1) = false := beq_eq_false_iff_ne.2 h4
            clear h4
            go_wp2_with fail
            go_ret
            rw [HE2.out]
            exact ⟨rfl, HB3.out⟩
        · have HE2 := Lib.hid (HE.out.trans (decide_eq_false (fun h => h3 h.2.2.1)))
          have g3 : decide (z ≤ 140737488355328) = false := decide_eq_false h3
          go_wp2_with fail
          go_ret
          rw [HE2.out]
          exact ⟨rfl, HB3.out⟩
      · have HE2 := Lib.hid (HE.out.trans (decide_eq_false (fun h => h2 h.2.1)))
        have g2 : decide (y ≤ 140737488355328) = false := decide_eq_false h2
        go_wp2_with fail
        go_ret
        rw [HE2.out]
        exact ⟨rfl, HB3.out⟩
    · have HE2 := Lib.hid (HE.out.trans (decide_eq_false (fun h => h1 h.1)))
      have g1 : decide (x1 ≤ 140737488355328) = false := decide_eq_false h1
      go_wp2_with fail
      go_ret
      rw [HE2.out]
      exact ⟨rfl, HB3.out⟩
end Go.Proofs.YtkcnnamghpdplaaDoor
/- The form of a link: the program's. -/
set_option linter.unusedSimpArgs false
set_option linter.unusedVariables false
namespace Go.Proofs.YtkcnnamghpdplaaDoor
open Go.RowKit

def shapeE (n0 n2 : Nat) (l : List EndS) (i : Nat) : Bool :=
  decide ((l.getD i dE).lk.to < n0 ∧ (l.getD i dE).rank < (l.getD i dE).lk.to) &&
  !decide (0 < i ∧ i ≠ n2 ∧ (l.getD (i - 1) dE).rank = (l.getD i dE).rank ∧ (l.getD i dE).lk.to ≤ (l.getD (i - 1) dE).lk.to) &&
  (plainB (l.getD i dE).lk ||
    decide (n2 ≤ (l.getD i dE).lk.l ∧ (l.getD i dE).lk.l < l.length ∧ (l.getD i dE).lk.r < n2 ∧
      (l.getD (l.getD i dE).lk.l dE).tail = (l.getD i dE).tail ∧ (l.getD (l.getD i dE).lk.r dE).head = (l.getD i dE).head ∧ (l.getD (l.getD i dE).lk.l dE).rank = (l.getD (l.getD i dE).lk.r dE).rank))
theorem shapeE_no1 {n0 n2 : Nat} {l : List EndS} {i : Nat} (h : ¬ ((l.getD i dE).lk.to < n0 ∧ (l.getD i dE).rank < (l.getD i dE).lk.to)) : shapeE n0 n2 l i = false := by
  unfold shapeE
  rw [decide_eq_false h]
  rfl
theorem shapeE_no2 {n0 n2 : Nat} {l : List EndS} {i : Nat} (h : 0 < i ∧ i ≠ n2 ∧ (l.getD (i - 1) dE).rank = (l.getD i dE).rank ∧ (l.getD i dE).lk.to ≤ (l.getD (i - 1) dE).lk.to) : shapeE n0 n2 l i = false := by
  unfold shapeE
  rw [decide_eq_true h]
  simp
theorem shapeE_3 {n0 n2 : Nat} {l : List EndS} {i : Nat} (h1 : (l.getD i dE).lk.to < n0 ∧ (l.getD i dE).rank < (l.getD i dE).lk.to) (h2 : ¬ (0 < i ∧ i ≠ n2 ∧ (l.getD (i - 1) dE).rank = (l.getD i dE).rank ∧ (l.getD i dE).lk.to ≤ (l.getD (i - 1) dE).lk.to)) :
    shapeE n0 n2 l i = (plainB (l.getD i dE).lk ||
    decide (n2 ≤ (l.getD i dE).lk.l ∧ (l.getD i dE).lk.l < l.length ∧ (l.getD i dE).lk.r < n2 ∧
      (l.getD (l.getD i dE).lk.l dE).tail = (l.getD i dE).tail ∧ (l.getD (l.getD i dE).lk.r dE).head = (l.getD i dE).head ∧ (l.getD (l.getD i dE).lk.l dE).rank = (l.getD (l.getD i dE).lk.r dE).rank)) := by
  unfold shapeE
  rw [decide_eq_true h1, decide_eq_false h2]
  rfl
set_option maxRecDepth 100000 in
set_option maxHeartbeats 4000000 in
theorem shape_any (k : HV) (h : HierT) (A : Option Addr) (m cap i : Nat) (l : List EndS) (W : World) (hp : RdE W A m l) (hi : i < m) (hm : m ≤ 1048576) (hn : h.node.length ≤ 65536) (h2m : h.up.length ≤ m) (hin : ∀ j, j < m → InE h.node.length (l.getD j dE)) :
    Calls Tryd.prog 67 #[hierV k h, .slice A m cap, .int .i64 i] W (BoolBelow (shapeE h.node.length h.up.length l i) W) := by
  have hml := hp.1
  have HIN := Lib.hid hin
  have hk := hin i hi
  have HP := Lib.hid hp
  have hno1 := @shapeE_no1 h.node.length h.up.length l i
  have hno2 := @shapeE_no2 h.node.length h.up.length l i
  have h3 := @shapeE_3 h.node.length h.up.length l i
  generalize hres : shapeE h.node.length h.up.length l i = res at *
  unfold hierV
  generalize h.node.length = n0 at *
  generalize h.uf.length = n1 at *
  generalize h.up.length = n2 at *
  generalize h.df.length = n3 at *
  generalize h.dn.length = n4 at *
  clear hp hin
  rw [hml] at h3
  have hb1 := (Below.refl W.heap.size W).alloc (Nat.le_refl _) (.cells #[.slice k.a0 n0 k.c0, .slice k.a1 n1 k.c1, .slice k.a2 n2 k.c2, .slice k.a3 n3 k.c3, .slice k.a4 n4 k.c4] 25)
  have hc1 := cells_new W #[.slice k.a0 n0 k.c0, .slice k.a1 n1 k.c1, .slice k.a2 n2 k.c2, .slice k.a3 n3 k.c3, .slice k.a4 n4 k.c4] 25
  obtain ⟨ad, rfl, cc⟩ := rdE_cells (HP.out.below hb1) hi
  obtain ⟨c0, c1, c2, c3, c4, c5, c6⟩ := seven_cells cc
  clear cc
  have hk1 := hk.k.to
  have hk2 := hk.k.l_
  have hk3 := hk.k.r
  have hk4 := hk.r
  have hk5 := hk.t
  have hk6 := hk.h
  have hkK := hk.k
  unfold In32 at hk1 hk2 hk3
  generalize (l.getD i dE) = x at *
  obtain ⟨L, xt, xh, xr⟩ := x
  obtain ⟨x0, x1, x2, x3⟩ := L
  dsimp only at c0 c1 c2 c3 c4 c5 c6 hno1 hno2 h3 hk1 hk2 hk3 hk4 hk5 hk6 hkK
  have HNO1 := Lib.hid hno1
  have HNO2 := Lib.hid hno2
  have H3 := Lib.hid h3
  have HML := Lib.hid hml
  have HRES := Lib.hid hres
  have HC1 := Lib.hid hc1
  have HB1 := Lib.hid hb1
  have w0 : IntKind.i64.wrap (x0 : Int) = x0 := by rw [IntKind.wrap_i64]; omega
  have w2 : IntKind.i64.wrap (x2 : Int) = x2 := by rw [IntKind.wrap_i64]; omega
  have w3 : IntKind.i64.wrap (x3 : Int) = x3 := by rw [IntKind.wrap_i64]; omega
  clear hno1 hno2 h3 hml hres hk hc1 hb1
  by_cases g1 : n0 ≤ x0
  · have g1' : decide ((n0 : Int) ≤ (x0 : Int)) = true := decide_eq_true (by omega)
    have HE := Lib.hid (HNO1.out (by omega))
    go_enter Tryd.func67, Tryd.ntmps67
    go_wp2_with fail
    go_ret
    rw [HE.out]
    exact ⟨rfl, HB1.out.alloc HB1.out.size _⟩
  · have g1' : decide ((n0 : Int) ≤ (x0 : Int)) = false := decide_eq_false (by omega)
    by_cases g2 : x0 ≤ xr
    · have g2' : decide ((x0 : Int) ≤ (xr : Int)) = true := decide_eq_true (by omega)
      have HE := Lib.hid (HNO1.out (by omega))
      go_enter Tryd.func67, Tryd.ntmps67
      go_wp2_with fail
      go_ret
      rw [HE.out]
      exact ⟨rfl, HB1.out.alloc HB1.out.size _⟩
    · have g2' : decide ((x0 : Int) ≤ (xr : Int)) = false := decide_eq_false (by omega)
      go_enter Tryd.func67, Tryd.ntmps67
      go_wp2_with fail
      have hx0 := cells_new (W.alloc (.cells #[.slice k.a0 n0 k.c0, .slice k.a1 n1 k.c1, .slice k.a2 n2 k.c2, .slice k.a3 n3 k.c3, .slice k.a4 n4 k.c4] 25)) #[.int .u32 x0, .int .u64 x1, .int .u32 x2, .int .u32 x3, .int .i64 xt, .int .i64 xh, .int .i64 xr] 140
      rw [size_alloc] at hx0
      have hb2 := two_al W (.cells #[.slice k.a0 n0 k.c0, .slice k.a1 n1 k.c1, .slice k.a2 n2 k.c2, .slice k.a3 n3 k.c3, .slice k.a4 n4 k.c4] 25) (.cells #[.int .u32 x0, .int .u64 x1, .int .u32 x2, .int .u32 x3, .int .i64 xt, .int .i64 xh, .int .i64 xr] 140)
      have hh0 := HC1.out.below ((Below.refl (W.alloc (.cells #[.slice k.a0 n0 k.c0, .slice k.a1 n1 k.c1, .slice k.a2 n2 k.c2, .slice k.a3 n3 k.c3, .slice k.a4 n4 k.c4] 25)).heap.size (W.alloc (.cells #[.slice k.a0 n0 k.c0, .slice k.a1 n1 k.c1, .slice k.a2 n2 k.c2, .slice k.a3 n3 k.c3, .slice k.a4 n4 k.c4] 25))).alloc (Nat.le_refl _) (.cells #[.int .u32 x0, .int .u64 x1, .int .u32 x2, .int .u32 x3, .int .i64 xt, .int .i64 xh, .int .i64 xr] 140))
      generalize (W.alloc (.cells #[.slice k.a0 n0 k.c0, .slice k.a1 n1 k.c1, .slice k.a2 n2 k.c2, .slice k.a3 n3 k.c3, .slice k.a4 n4 k.c4] 25)).alloc (.cells #[.int .u32 x0, .int .u64 x1, .int .u32 x2, .int .u32 x3, .int .i64 xt, .int .i64 xh, .int .i64 xr] 140) = W2 at *
      have HCX := Lib.hid hx0
      have HCH := Lib.hid hh0
      have HB2 := Lib.hid hb2
      have HKK := Lib.hid hkK
      clear hx0 hh0 hb2 hkK c0 c1 c2 c3 c4 c5 c6 w0 w2 w3 HB1 HC1
      have w2 : IntKind.i64.wrap (x2 : Int) = x2 := by rw [IntKind.wrap_i64]; omega
      have w3 : IntKind.i64.wrap (x3 : Int) = x3 := by rw [IntKind.wrap_i64]; omega
      have b2 : W2.cell? ⟨W.heap.size, 2, none⟩ = some (.slice k.a2 n2 k.c2) := HCH.out.cell 2
      have e0 : W2.cell? ⟨W.heap.size + 1, 0, none⟩ = some (.int .u32 x0) := HCX.out.cell 0
      have e6 : W2.cell? ⟨W.heap.size + 1, 6, none⟩ = some (.int .i64 xr) := HCX.out.cell 6
      have HY : Hid (∀ j, j < m → ∀ w, Below W.heap.size W w → (w.cell? ⟨(ad.add (j * 7)).block, (ad.add (j * 7)).off + 6, none⟩ = some (.int .i64 ((l.getD j dE).rank : Nat))) ∧ w.cell? (ad.add (j * 7)) = some (.int .u32 ((l.getD j dE).lk.to : Nat))) := Lib.hid fun j hj w hb => by
        obtain ⟨ad', hA, cy⟩ := rdE_cells (HP.out.below hb) hj
        obtain rfl := Option.some.inj hA
        obtain ⟨y0, -, -, -, -, -, y6⟩ := seven_cells cy
        exact ⟨y6, y0⟩
      clear g1' g2'
      go_cut [34] (fun s wx => s = .bool (decide (0 < i ∧ i ≠ n2 ∧ (l.getD (i - 1) dE).rank = xr ∧ x0 ≤ (l.getD (i - 1) dE).lk.to)) ∧ Drawn W2 wx)
      case first =>
        by_cases hz : i = 0
        · have p0 : decide ((0 : Int) < (i : Int)) = false := decide_eq_false (by omega)
          have HR : Hid (decide (0 < i ∧ i ≠ n2 ∧ (l.getD (i - 1) dE).rank = xr ∧ x0 ≤ (l.getD (i - 1) dE).lk.to) = false) := Lib.hid (decide_eq_false (by omega))
          generalize decide (0 < i ∧ i ≠ n2 ∧ (l.getD (i - 1) dE).rank = xr ∧ x0 ≤ (l.getD (i - 1) dE).lk.to) = bad at *
          go_quiet (fail)
          go_wp2_with fail
          go_meet
          exact ⟨by rw [HR.out], (Drawn.refl _).step _⟩
        · have p0 : decide ((0 : Int) < (i : Int)) = true := decide_eq_true (by omega)
          have p0n : decide (0 < i) = true := decide_eq_true (by omega)
          by_cases hz2 : i = n2
          · have HR : Hid (decide (0 < i ∧ i ≠ n2 ∧ (l.getD (i - 1) dE).rank = xr ∧ x0 ≤ (l.getD (i - 1) dE).lk.to) = false) := Lib.hid (decide_eq_false (by omega))
            generalize decide (0 < i ∧ i ≠ n2 ∧ (l.getD (i - 1) dE).rank = xr ∧ x0 ≤ (l.getD (i - 1) dE).lk.to) = bad at *
            subst hz2
            go_quiet (fail)
            go_wp2_with fail
            go_meet
            exact ⟨by rw [HR.out], (Drawn.refl _).step _⟩
          · have p1 : ((i : Int) == (n2 : Int)) = false := by rw [beq_eq_false_iff_ne]; omega
            have p2 : ((i : Int) != (n2 : Int)) = true := by rw [bne, p1]; rfl
            have u1 : IntKind.i64.wrap ((i : Int) - 1) = (i : Int) - 1 := by rw [IntKind.wrap_i64]; omega
            have u2 : ((i : Int) - 1).toNat = i - 1 := by omega
            have u3 : (0 : Int) ≤ (i : Int) - 1 := by omega
            have u4 : (i : Int) - 1 < (m : Int) := by omega
            have u5 : (1 : Int) ≤ (i : Int) := by omega
            obtain ⟨y6, y0⟩ := HY.out (i - 1) (by omega) W2 HB2.out
            generalize (l.getD (i - 1) dE).rank = yr at *
            generalize (l.getD (i - 1) dE).lk.to = yt at *
            by_cases q4 : yr = xr
            · have q4' : ((yr : Int) == (xr : Int)) = true := beq_iff_eq.2 (by omega)
              by_cases q5 : x0 ≤ yt
              · have q5' : decide ((x0 : Int) ≤ (yt : Int)) = true := decide_eq_true (by omega)
                have q5n : decide (x0 ≤ yt) = true := decide_eq_true q5
                have HR : Hid (decide (0 < i ∧ i ≠ n2 ∧ yr = xr ∧ x0 ≤ yt) = true) := Lib.hid (decide_eq_true ⟨by omega, hz2, q4, q5⟩)
                generalize decide (0 < i ∧ i ≠ n2 ∧ yr = xr ∧ x0 ≤ yt) = bad at *
                clear q4 q5 hz2 hz
                go_quiet (fail)
                go_wp2_with fail
                go_meet
                exact ⟨by rw [HR.out], (Drawn.refl _).step _⟩
              · have q5' : decide ((x0 : Int) ≤ (yt : Int)) = false := decide_eq_false (by omega)
                have q5n : decide (x0 ≤ yt) = false := decide_eq_false q5
                have HR : Hid (decide (0 < i ∧ i ≠ n2 ∧ yr = xr ∧ x0 ≤ yt) = false) := Lib.hid (decide_eq_false (fun h => q5 h.2.2.2))
                generalize decide (0 < i ∧ i ≠ n2 ∧ yr = xr ∧ x0 ≤ yt) = bad at *
                clear q4 q5 hz2 hz
                go_quiet (fail)
                go_wp2_with fail
                go_meet
                exact ⟨by rw [HR.out], (Drawn.refl _).step _⟩
            · have q4' : ((yr : Int) == (xr : Int)) = false := by rw [beq_eq_false_iff_ne]; omega
              have HR : Hid (decide (0 < i ∧ i ≠ n2 ∧ yr = xr ∧ x0 ≤ yt) = false) := Lib.hid (decide_eq_false (fun h => q4 h.2.2.1))
              generalize decide (0 < i ∧ i ≠ n2 ∧ yr = xr ∧ x0 ≤ yt) = bad at *
              clear q4 hz2 hz
              go_quiet (fail)
              go_wp2_with fail
              go_meet
              exact ⟨by rw [HR.out], (Drawn.refl _).step _⟩
      case rest =>
        obtain ⟨rfl, hdr⟩ := hcut
        have hb3 := hdr.below W2.heap.size
        clear hdr b2 e0 e6
        by_cases hbad : (0 < i ∧ i ≠ n2 ∧ (l.getD (i - 1) dE).rank = xr ∧ x0 ≤ (l.getD (i - 1) dE).lk.to)
        · have HE := Lib.hid (HNO2.out hbad)
          have hd : decide (0 < i ∧ i ≠ n2 ∧ (l.getD (i - 1) dE).rank = xr ∧ x0 ≤ (l.getD (i - 1) dE).lk.to) = true := decide_eq_true hbad
          clear hbad
          rw [hd]
          go_wp2_with fail
          go_ret
          rw [HE.out]
          exact ⟨rfl, HB2.out.trans (hb3.mono HB2.out.size)⟩
        have H33 := Lib.hid (H3.out (by omega) hbad)
        have hd : decide (0 < i ∧ i ≠ n2 ∧ (l.getD (i - 1) dE).rank = xr ∧ x0 ≤ (l.getD (i - 1) dE).lk.to) = false := decide_eq_false hbad
        rw [hd]
        clear hd hbad
        have HCH3 := Lib.hid (HCH.out.below hb3)
        have HCX3 := Lib.hid (HCX.out.below hb3)
        have HB3 := Lib.hid (HB2.out.trans (hb3.mono HB2.out.size))
        clear hb3
        generalize hW3 : wc = W3 at *
        clear hW3
        have e0 : W3.cell? ⟨W.heap.size + 1, 0, none⟩ = some (.int .u32 x0) := HCX3.out.cell 0
        have e1 : W3.cell? ⟨W.heap.size + 1, 1, none⟩ = some (.int .u64 x1) := HCX3.out.cell 1
        have e2 : W3.cell? ⟨W.heap.size + 1, 2, none⟩ = some (.int .u32 x2) := HCX3.out.cell 2
        have e3 : W3.cell? ⟨W.heap.size + 1, 3, none⟩ = some (.int .u32 x3) := HCX3.out.cell 3
        go_wp2_with fail
        refine (plain_any ⟨x0, x1, x2, x3⟩ W3 HKK.out).mono ?_
        cases hpl : plainB ⟨x0, x1, x2, x3⟩ with
        | true =>
          rintro e w4 ⟨rfl, hb4⟩
          have HE := Lib.hid (H33.out.trans (by rw [hpl, Bool.true_or]))
          have HB4 := Lib.hid (HB3.out.trans (hb4.mono HB3.out.size))
          clear hb4 e0 e1 e2 e3 hpl
          go_wp2_with fail
          go_ret
          rw [HE.out]
          exact ⟨rfl, HB4.out⟩
        | false =>
          rintro e w4 ⟨rfl, hb4⟩
          have HE := Lib.hid (H33.out.trans (by rw [hpl, Bool.false_or]))
          have HB4 := Lib.hid (HB3.out.trans (hb4.mono HB3.out.size))
          have HCH4 := Lib.hid (HCH3.out.below hb4)
          have HCX4 := Lib.hid (HCX3.out.below hb4)
          clear hb4 e0 e1 e2 e3 hpl
          have b2 : w4.cell? ⟨W.heap.size, 2, none⟩ = some (.slice k.a2 n2 k.c2) := HCH4.out.cell 2
          have e2 : w4.cell? ⟨W.heap.size + 1, 2, none⟩ = some (.int .u32 x2) := HCX4.out.cell 2
          have e3 : w4.cell? ⟨W.heap.size + 1, 3, none⟩ = some (.int .u32 x3) := HCX4.out.cell 3
          go_wp2_with fail
          go_quiet (fail)
          have hb5 : Below w4.heap.size w4 (w4.drewN nq) := ((Drawn.refl w4).step nq).below w4.heap.size
          have HCH5 := Lib.hid (HCH4.out.below hb5)
          have HCX5 := Lib.hid (HCX4.out.below hb5)
          have HB5 := Lib.hid (HB4.out.trans (hb5.mono HB4.out.size))
          clear hb5 b2 e2 e3
          generalize hW5 : w4.drewN nq = w5 at *
          clear hW5
          have b2 : w5.cell? ⟨W.heap.size, 2, none⟩ = some (.slice k.a2 n2 k.c2) := HCH5.out.cell 2
          by_cases q1 : x2 < n2
          · have q1' : decide ((x2 : Int) < (n2 : Int)) = true := decide_eq_true (by omega)
            have HE2 := Lib.hid (HE.out.trans (decide_eq_false (fun h => by have := h.1; have := h.2.1; have := h.2.2.1; omega)))
            go_wp2_with fail
            go_ret
            rw [HE2.out]
            exact ⟨rfl, HB5.out⟩
          · have q1' : decide ((x2 : Int) < (n2 : Int)) = false := decide_eq_false (by omega)
            by_cases q2 : m ≤ x2
            · have q2' : decide ((m : Int) ≤ (x2 : Int)) = true := decide_eq_true (by omega)
              have HE2 := Lib.hid (HE.out.trans (decide_eq_false (fun h => by have := h.1; have := h.2.1; have := h.2.2.1; omega)))
              go_wp2_with fail
              go_ret
              rw [HE2.out]
              exact ⟨rfl, HB5.out⟩
            · have q2' : decide ((m : Int) ≤ (x2 : Int)) = false := decide_eq_false (by omega)
              by_cases q3 : n2 ≤ x3
              · have q3' : decide ((n2 : Int) ≤ (x3 : Int)) = true := decide_eq_true (by omega)
                have HE2 := Lib.hid (HE.out.trans (decide_eq_false (fun h => by have := h.1; have := h.2.1; have := h.2.2.1; omega)))
                go_wp2_with fail
                go_ret
                rw [HE2.out]
                exact ⟨rfl, HB5.out⟩
              · have q3' : decide ((n2 : Int) ≤ (x3 : Int)) = false := decide_eq_false (by omega)
                obtain ⟨ad', hA, cl⟩ := rdE_cells (HP.out.below HB5.out) (i := x2) (by omega)
                obtain rfl := Option.some.inj hA
                obtain ⟨ad', hA, cr⟩ := rdE_cells (HP.out.below HB5.out) (i := x3) (by omega)
                obtain rfl := Option.some.inj hA
                obtain ⟨l0, l1, l2, l3, l4, l5, l6⟩ := seven_cells cl
                obtain ⟨r0, r1, r2, r3, r4, r5, r6⟩ := seven_cells cr
                clear cl cr hA
                have HE2 := Lib.hid (HE.out.trans (show _ = decide ((l.getD x2 dE).tail = xt ∧ (l.getD x3 dE).head = xh ∧ (l.getD x2 dE).rank = (l.getD x3 dE).rank) by rw [decide_eq_decide]; exact ⟨fun h => ⟨h.2.2.2.1, h.2.2.2.2.1, h.2.2.2.2.2⟩, fun h => ⟨by omega, by omega, by omega, h.1, h.2.1, h.2.2⟩⟩))
                generalize (l.getD x2 dE) = y at *
                generalize (l.getD x3 dE) = z at *
                obtain ⟨⟨y0, y1, y2, y3⟩, yt, yh, yr⟩ := y
                obtain ⟨⟨z0, z1, z2, z3⟩, zt, zh, zr⟩ := z
                dsimp only at l0 l1 l2 l3 l4 l5 l6 r0 r1 r2 r3 r4 r5 r6 HE2
                go_wp2_with fail
                have j1 : x2 < m := by omega
                have j3 : x3 < m := by omega
                go_region_held3 (fun w' => (w'.cell? (ad.add (x2 * 7)) = some (.int .u32 y0) ∧ w'.cell? ⟨(ad.add (x2 * 7)).block, (ad.add (x2 * 7)).off + 1, none⟩ = some (.int .u64 y1) ∧ w'.cell? ⟨(ad.add (x2 * 7)).block, (ad.add (x2 * 7)).off + 2, none⟩ = some (.int .u32 y2) ∧ w'.cell? ⟨(ad.add (x2 * 7)).block, (ad.add (x2 * 7)).off + 3, none⟩ = some (.int .u32 y3) ∧ w'.cell? ⟨(ad.add (x2 * 7)).block, (ad.add (x2 * 7)).off + 4, none⟩ = some (.int .i64 yt) ∧ w'.cell? ⟨(ad.add (x2 * 7)).block, (ad.add (x2 * 7)).off + 5, none⟩ = some (.int .i64 yh) ∧ w'.cell? ⟨(ad.add (x2 * 7)).block, (ad.add (x2 * 7)).off + 6, none⟩ = some (.int .i64 yr)) ∧ (w'.cell? (ad.add (x3 * 7)) = some (.int .u32 z0) ∧ w'.cell? ⟨(ad.add (x3 * 7)).block, (ad.add (x3 * 7)).off + 1, none⟩ = some (.int .u64 z1) ∧ w'.cell? ⟨(ad.add (x3 * 7)).block, (ad.add (x3 * 7)).off + 2, none⟩ = some (.int .u32 z2) ∧ w'.cell? ⟨(ad.add (x3 * 7)).block, (ad.add (x3 * 7)).off + 3, none⟩ = some (.int .u32 z3) ∧ w'.cell? ⟨(ad.add (x3 * 7)).block, (ad.add (x3 * 7)).off + 4, none⟩ = some (.int .i64 zt) ∧ w'.cell? ⟨(ad.add (x3 * 7)).block, (ad.add (x3 * 7)).off + 5, none⟩ = some (.int .i64 zh) ∧ w'.cell? ⟨(ad.add (x3 * 7)).block, (ad.add (x3 * 7)).off + 6, none⟩ = some (.int .i64 zr))) (first | with_reducible exact ⟨⟨l0, l1, l2, l3, l4, l5, l6⟩, r0, r1, r2, r3, r4, r5, r6⟩ | go_keep) (fail)
                all_goals
                  rename_i hHeld
                  clear hHeld l0 l1 l2 l3 l4 l5 l6 r0 r1 r2 r3 r4 r5 r6
                  have s5 : W.heap.size + 1 < w5.heap.size := HCX5.out.lt
                  have s6 : W.heap.size < w5.heap.size := by omega
                  have e4 : w5.cell? ⟨W.heap.size + 1, 4, none⟩ = some (.int .i64 xt) := HCX5.out.cell 4
                  have e5 : w5.cell? ⟨W.heap.size + 1, 5, none⟩ = some (.int .i64 xh) := HCX5.out.cell 5
                  by_cases q4 : yt = xt
                  · have q4' : ((yt : Int) == (xt : Int)) = true := beq_iff_eq.2 (by omega)
                    by_cases q5 : zh = xh
                    · have q5' : ((zh : Int) == (xh : Int)) = true := beq_iff_eq.2 (by omega)
                      by_cases q6 : yr = zr
                      · have q6' : ((yr : Int) == (zr : Int)) = true := beq_iff_eq.2 (by omega)
                        have HE3 := Lib.hid (HE2.out.trans (decide_eq_true ⟨q4, q5, q6⟩))
                        clear q4 q5 q6
                        go_wp2_with fail
                        go_ret
                        rw [HE3.out]
                        exact ⟨rfl, (((HB5.out.alloc HB5.out.size _).alloc (by have := HB5.out.size; simp; omega) _)).drew⟩
                      · have q6' : ((yr : Int) == (zr : Int)) = false := by rw [beq_eq_false_iff_ne]; omega
                        have HE3 := Lib.hid (HE2.out.trans (decide_eq_false (fun h => q6 h.2.2)))
                        clear q4 q5 q6
                        go_wp2_with fail
                        go_ret
                        rw [HE3.out]
                        exact ⟨rfl, (((HB5.out.alloc HB5.out.size _).alloc (by have := HB5.out.size; simp; omega) _)).drew⟩
                    · have q5' : ((zh : Int) == (xh : Int)) = false := by rw [beq_eq_false_iff_ne]; omega
                      have HE3 := Lib.hid (HE2.out.trans (decide_eq_false (fun h => q5 h.2.1)))
                      clear q4 q5
                      go_wp2_with fail
                      go_ret
                      rw [HE3.out]
                      exact ⟨rfl, (((HB5.out.alloc HB5.out.size _).alloc (by have := HB5.out.size; simp; omega) _)).drew⟩
                  · have q4' : ((yt : Int) == (xt : Int)) = false := by rw [beq_eq_false_iff_ne]; omega
                    have HE3 := Lib.hid (HE2.out.trans (decide_eq_false (fun h => q4 h.1)))
                    clear q4
                    go_wp2_with fail
                    go_ret
                    rw [HE3.out]
                    exact ⟨rfl, (((HB5.out.alloc HB5.out.size _).alloc (by have := HB5.out.size; simp; omega) _)).drew⟩
end Go.Proofs.YtkcnnamghpdplaaDoor
/- Form and weight of a link: what the program asks of its list of ends is the plain answer. No program in sight. -/
set_option linter.unusedSimpArgs false
set_option linter.unusedVariables false
namespace Go.Proofs.YtkcnnamghpdplaaDoor

theorem endsT_lk {h : HierT} (hu : Fst h.node.length h.uf h.up.length) (hd : Fst h.node.length h.df h.dn.length) : (endsT h).map EndS.lk = h.up ++ h.dn := by
  unfold endsT
  rw [List.map_append, upEnds_lk hu rfl, dnEnds_lk hd rfl]
theorem endsT_len {h : HierT} (hu : Fst h.node.length h.uf h.up.length) (hd : Fst h.node.length h.df h.dn.length) : (endsT h).length = h.up.length + h.dn.length := by
  have := congrArg List.length (endsT_lk hu hd)
  rwa [List.length_map, List.length_append] at this
theorem upEnds_length {h : HierT} (hu : Fst h.node.length h.uf h.up.length) : (upEnds h.uf h.up h.node.length).length = h.up.length := by
  have := congrArg List.length (upEnds_lk hu rfl)
  rwa [List.length_map] at this
theorem endsT_rank {h : HierT} (hu : Fst h.node.length h.uf h.up.length) (hd : Fst h.node.length h.df h.dn.length) : (endsT h).map (fun e => (e.rank : Int)) = ranksT h := by
  unfold endsT ranksT
  rw [List.map_append, upEnds_rank hu rfl, dnEnds_rank hd rfl]
theorem upEnds_mem {f : List Nat} {ls : List Lk} {n : Nat} {x : EndS} (h : x ∈ upEnds f ls n) : x.tail = x.rank ∧ x.head = x.lk.to ∧ x.rank < n ∧ x.lk ∈ ls := by
  unfold upEnds at h
  obtain ⟨r, hr, hx⟩ := List.mem_flatMap.1 h
  obtain ⟨l, hl, rfl⟩ := List.mem_map.1 hx
  exact ⟨rfl, rfl, List.mem_range.1 hr, List.mem_of_mem_drop (List.mem_of_mem_take hl)⟩
theorem dnEnds_mem {f : List Nat} {ls : List Lk} {n : Nat} {x : EndS} (h : x ∈ dnEnds f ls n) : x.tail = x.lk.to ∧ x.head = x.rank ∧ x.rank < n ∧ x.lk ∈ ls := by
  unfold dnEnds at h
  obtain ⟨r, hr, hx⟩ := List.mem_flatMap.1 h
  obtain ⟨l, hl, rfl⟩ := List.mem_map.1 hx
  exact ⟨rfl, rfl, List.mem_range.1 hr, List.mem_of_mem_drop (List.mem_of_mem_take hl)⟩
structure EndIs (h : HierT) (i : Nat) (x : EndS) : Prop where
  lk : x.lk = lkOf h i
  rank : (x.rank : Int) = rkOf h i
  tail : (x.tail : Int) = tailOf h i
  head : (x.head : Int) = headOf h i
theorem endsT_at {h : HierT} (hu : Fst h.node.length h.uf h.up.length) (hd : Fst h.node.length h.df h.dn.length) {i : Nat} (hi : i < h.up.length + h.dn.length) : EndIs h i ((endsT h).getD i dE) := by
  have hlen := endsT_len hu hd
  have hil : i < (endsT h).length := by omega
  have e1 := at_map (endsT_lk hu hd) hil
  have e2 := at_map (endsT_rank hu hd) hil
  rw [getD_E hil]
  have h1 : (endsT h)[i].lk = lkOf h i := by
    unfold lkOf
    rw [List.getD_eq_getElem?_getD, e1]
    rfl
  have h2 : ((endsT h)[i].rank : Int) = rkOf h i := by
    unfold rkOf
    rw [List.getD_eq_getElem?_getD, e2]
    rfl
  by_cases hlt : i < h.up.length
  · have hm : (endsT h)[i] ∈ upEnds h.uf h.up h.node.length := by
      have e : (endsT h)[i] = (upEnds h.uf h.up h.node.length)[i]'(by rw [upEnds_length hu]; exact hlt) := by
        unfold endsT
        exact List.getElem_append_left _
      rw [e]
      exact List.getElem_mem _
    obtain ⟨a, b, -, -⟩ := upEnds_mem hm
    exact ⟨h1, h2, by unfold tailOf; rw [if_pos hlt, a, h2], by unfold headOf; rw [if_pos hlt, b, h1]⟩
  · have hm : (endsT h)[i] ∈ dnEnds h.df h.dn h.node.length := by
      have e : (endsT h)[i] = (dnEnds h.df h.dn h.node.length)[i - (upEnds h.uf h.up h.node.length).length]'(by
          have := hil; unfold endsT at this; rw [List.length_append] at this; rw [upEnds_length hu] at this ⊢; omega) := by
        unfold endsT
        exact List.getElem_append_right (by rw [upEnds_length hu]; omega)
      rw [e]
      exact List.getElem_mem _
    obtain ⟨a, b, -, -⟩ := dnEnds_mem hm
    exact ⟨h1, h2, by unfold tailOf; rw [if_neg hlt, a, h1], by unfold headOf; rw [if_neg hlt, b, h2]⟩
theorem endsT_in {h : HierT} (hu : Fst h.node.length h.uf h.up.length) (hd : Fst h.node.length h.df h.dn.length) (hn : h.node.length ≤ 65536) (hin : InH h) {i : Nat} (hi : i < h.up.length + h.dn.length) : InE h.node.length ((endsT h).getD i dE) := by
  have hlen := endsT_len hu hd
  have hil : i < (endsT h).length := by omega
  rw [getD_E hil]
  have hm : (endsT h)[i] ∈ endsT h := List.getElem_mem _
  generalize (endsT h)[i] = x at *
  unfold endsT at hm
  rcases List.mem_append.1 hm with hm | hm
  · obtain ⟨a, b, c, d⟩ := upEnds_mem hm
    have hk := hin.i2 _ d
    have := hk.to
    unfold In32 at this
    exact ⟨hk, by omega, by omega, c⟩
  · obtain ⟨a, b, c, d⟩ := dnEnds_mem hm
    have hk := hin.i4 _ d
    have := hk.to
    unfold In32 at this
    exact ⟨hk, by omega, by omega, c⟩
theorem shape_same {h : HierT} (hu : Fst h.node.length h.uf h.up.length) (hd : Fst h.node.length h.df h.dn.length) {i : Nat} (hi : i < h.up.length + h.dn.length) : shapeE h.node.length h.up.length (endsT h) i = shapeB h i := by
  have ei := endsT_at hu hd hi
  have e0 := endsT_at hu hd (i := i - 1) (by omega)
  have hlen := endsT_len hu hd
  have hl := fun hc => endsT_at hu hd (i := (lkOf h i).l) hc
  have hr := fun hc => endsT_at hu hd (i := (lkOf h i).r) hc
  unfold shapeE shapeB
  rw [hlen, ei.lk, e0.lk]
  have er := ei.rank
  have er0 := e0.rank
  have et := ei.tail
  have eh := ei.head
  congr 1
  · congr 1
    · rw [decide_eq_decide]; omega
    · congr 1
      rw [decide_eq_decide]; omega
  · congr 1
    rw [decide_eq_decide]
    constructor
    · rintro ⟨a, b, c, d, e, f⟩
      have h1 := hl (by omega)
      have h2 := hr (by omega)
      have := h1.rank
      have := h1.tail
      have := h2.rank
      have := h2.head
      exact ⟨a, b, c, by omega, by omega, by omega⟩
    · rintro ⟨a, b, c, d, e, f⟩
      have h1 := hl (by omega)
      have h2 := hr (by omega)
      have := h1.rank
      have := h1.tail
      have := h2.rank
      have := h2.head
      exact ⟨a, b, c, by omega, by omega, by omega⟩
theorem shape_children {h : HierT} {i : Nat} (hs : shapeB h i = true) (hp : plainB (lkOf h i) = false) : (lkOf h i).l < h.up.length + h.dn.length ∧ (lkOf h i).r < h.up.length := by
  unfold shapeB at hs
  rw [Bool.and_eq_true, Bool.or_eq_true, hp, decide_eq_true_eq] at hs
  rcases hs.2 with h1 | h1
  · cases h1
  · exact ⟨h1.2.1, h1.2.2.1⟩
theorem weight_same {h : HierT} (hu : Fst h.node.length h.uf h.up.length) (hd : Fst h.node.length h.df h.dn.length) {i : Nat} (hi : i < h.up.length + h.dn.length) (hs : shapeB h i = true) : weightE (endsT h) i = weightB h i := by
  have ei := endsT_at hu hd hi
  unfold weightE weightB
  rw [ei.lk]
  cases hp : plainB (lkOf h i) with
  | true => rfl
  | false =>
    obtain ⟨a, b⟩ := shape_children hs hp
    have h1 := endsT_at hu hd (i := (lkOf h i).l) (by omega)
    have h2 := endsT_at hu hd (i := (lkOf h i).r) (by omega)
    rw [h1.lk, h2.lk]
    rfl
theorem linksB_hit {h : HierT} {i : Nat} {c : Int} (hi : i < h.up.length + h.dn.length) (hb : ∀ r, r < i → linkB h r = none) (hc : linkB h i = some c) : linksB h = some (c, some (4, (i : Int))) := by
  unfold linksB
  rw [find_some (p := fun i => (linkB h i).isSome) (j := i) (fun r hr => by rw [hb r hr]; rfl) (by rw [hc]; rfl) hi]
  show (linkB h i).map _ = _
  rw [hc]
  rfl
theorem linksB_none {h : HierT} (hb : ∀ r, r < h.up.length + h.dn.length → linkB h r = none) : linksB h = none := by
  unfold linksB
  rw [find_none (p := fun i => (linkB h i).isSome) (fun r hr => by rw [hb r hr]; rfl)]
end Go.Proofs.YtkcnnamghpdplaaDoor
