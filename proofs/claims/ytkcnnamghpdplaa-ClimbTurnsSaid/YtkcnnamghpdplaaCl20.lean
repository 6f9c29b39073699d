/- Form and weight of a link: the program's. -/
import Derived.Test.YtkcnnamghpdplaaCl19
set_option linter.unusedSimpArgs false
set_option linter.unusedVariables false
namespace Go.Proofs.Ytkcnnamghpdplaa
open Go.RowKit

abbrev encE (x : EndS) : List Value := [.int .u32 (x.lk.to : Int), .int .u64 x.lk.w, .int .u32 (x.lk.l : Int), .int .u32 (x.lk.r : Int), .int .i64 (x.tail : Int), .int .i64 (x.head : Int), .int .i64 (x.rank : Int)]
theorem encE_len : ∀ x, (encE x).length = 7 := fun _ => rfl
theorem encE_one : ∀ x, ∀ u ∈ encE x, u.oneCell' = true := fun x u h => by
  simp at h
  rcases h with rfl | rfl | rfl | rfl | rfl | rfl | rfl <;> rfl
theorem info_end : (Try.prog.info? 97).map (fun i => (i.zero, i.size, i.bytes)) = some (some (.agg #[.int .u32 0, .int .u64 0, .int .u32 0, .int .u32 0, .int .i64 0, .int .i64 0, .int .i64 0]), 7, 48) := by kernel_rfl
abbrev OwnE (w : World) (base : Nat) (v : Value) (l : List EndS) : Prop := Own 97 7 encE w base v l
abbrev RdE (w : World) (A : Option Addr) (n : Nat) (l : List EndS) : Prop := Rd 7 encE w A n l
abbrev endV (x : EndS) : Value := .agg #[.int .u32 (x.lk.to : Int), .int .u64 x.lk.w, .int .u32 (x.lk.l : Int), .int .u32 (x.lk.r : Int), .int .i64 (x.tail : Int), .int .i64 (x.head : Int), .int .i64 (x.rank : Int)]
/-- the cells of an element of seven -/
theorem seven_cells {w : World} {ad : Addr} {j : Nat} {x : EndS} (h : ∀ i u, (encE x)[i]? = some u → w.cell? (ad.add (j * 7 + i)) = some u) :
    w.cell? (ad.add (j * 7)) = some (.int .u32 (x.lk.to : Int)) ∧ w.cell? ⟨(ad.add (j * 7)).block, (ad.add (j * 7)).off + 1, none⟩ = some (.int .u64 x.lk.w) ∧ w.cell? ⟨(ad.add (j * 7)).block, (ad.add (j * 7)).off + 2, none⟩ = some (.int .u32 (x.lk.l : Int)) ∧ w.cell? ⟨(ad.add (j * 7)).block, (ad.add (j * 7)).off + 3, none⟩ = some (.int .u32 (x.lk.r : Int)) ∧
    w.cell? ⟨(ad.add (j * 7)).block, (ad.add (j * 7)).off + 4, none⟩ = some (.int .i64 (x.tail : Int)) ∧ w.cell? ⟨(ad.add (j * 7)).block, (ad.add (j * 7)).off + 5, none⟩ = some (.int .i64 (x.head : Int)) ∧ w.cell? ⟨(ad.add (j * 7)).block, (ad.add (j * 7)).off + 6, none⟩ = some (.int .i64 (x.rank : Int)) := by
  have h0 := h 0 _ rfl
  have h1 := h 1 _ rfl
  have h2 := h 2 _ rfl
  have h3 := h 3 _ rfl
  have h4 := h 4 _ rfl
  have h5 := h 5 _ rfl
  have h6 := h 6 _ rfl
  rw [← add_of_add] at h1 h2 h3 h4 h5 h6
  rw [Nat.add_zero] at h0
  exact ⟨h0, h1, h2, h3, h4, h5, h6⟩
/-- what bounds an end's numbers -/
structure InE (n : Nat) (x : EndS) : Prop where
  k : InK x.lk
  t : x.tail ≤ 4294967295
  h : x.head ≤ 4294967295
  r : x.rank < n
def dE : EndS := ⟨⟨0, 0, 0, 0⟩, 0, 0, 0⟩
def weightE (l : List EndS) (i : Nat) : Bool :=
  if plainB (l.getD i dE).lk then decide ((l.getD i dE).lk.w ≤ 2147483647)
  else decide ((l.getD i dE).lk.w ≤ 140737488355328 ∧ (l.getD (l.getD i dE).lk.l dE).lk.w ≤ 140737488355328 ∧ (l.getD (l.getD i dE).lk.r dE).lk.w ≤ 140737488355328 ∧ (l.getD (l.getD i dE).lk.l dE).lk.w + (l.getD (l.getD i dE).lk.r dE).lk.w = (l.getD i dE).lk.w)
theorem getD_E {l : List EndS} {i : Nat} (h : i < l.length) : l.getD i dE = l[i] := by rw [List.getD_eq_getElem?_getD, List.getElem?_eq_getElem h]; rfl
theorem rdE_cells {w : World} {A : Option Addr} {n : Nat} {l : List EndS} (h : RdE w A n l) {i : Nat} (hi : i < n) : ∃ ad, A = some ad ∧ ∀ j u, (encE (l.getD i dE))[j]? = some u → w.cell? (ad.add (i * 7 + j)) = some u := by
  obtain ⟨ad, hA, cc⟩ := h.at_ hi
  refine ⟨ad, hA, ?_⟩
  rw [getD_E (by have := h.1; omega)]
  exact cc
set_option maxRecDepth 100000 in
theorem weight_any (A : Option Addr) (m cap i : Nat) (l : List EndS) (W : World) (hp : RdE W A m l) (hi : i < m) (hm : m ≤ 1048576) (hin : ∀ j, j < m → InK (l.getD j dE).lk) (hch : plainB (l.getD i dE).lk = false → (l.getD i dE).lk.l < m ∧ (l.getD i dE).lk.r < m) :
    Calls Try.prog 50 #[.slice A m cap, .int .i64 i] W (BoolBelow (weightE l i) W) := by
  obtain ⟨ad, rfl, cc⟩ := rdE_cells hp hi
  obtain ⟨c0, c1, c2, c3, -, -, -⟩ := seven_cells cc
  have hk := hin i hi
  have HPL := Lib.hid (plain_any (l.getD i dE).lk (W.alloc (.cells (encK (l.getD i dE).lk).toArray 68)) hk)
  have HW : Hid (weightE l i = weightE l i) := Lib.hid rfl
  cases hpl : plainB (l.getD i dE).lk with
  | true =>
    have HE : Hid (weightE l i = decide ((l.getD i dE).lk.w ≤ 2147483647)) := Lib.hid (by unfold weightE; rw [if_pos hpl])
    rw [hpl] at HPL
    have hkw := hk.w
    clear hp cc hin hch hk hpl
    generalize weightE l i = res at *
    generalize (l.getD i dE).lk = L at *
    obtain ⟨x0, x1, x2, x3⟩ := L
    unfold linkV at HPL
    dsimp only at *
    go_enter Try.func50, Try.ntmps50
    go_wp2_with fail
    refine HPL.out.mono ?_
    rintro e w2 ⟨rfl, hb2⟩
    have d1 := cell_below hb2 ((cells_new W #[.int .u32 x0, .int .u64 x1, .int .u32 x2, .int .u32 x3] 68).cell 1)
    have HB := Lib.hid (((Below.refl _ W).alloc (Nat.le_refl _) _).trans (hb2.mono (by simp)))
    clear hb2
    go_wp2_with fail
    go_ret
    rw [HE.out]
    exact ⟨rfl, HB.out⟩
  | false =>
    obtain ⟨hl, hr⟩ := hch hpl
    obtain ⟨ad', hA, cl⟩ := rdE_cells hp hl
    obtain rfl := Option.some.inj hA
    obtain ⟨ad', hA, cr⟩ := rdE_cells hp hr
    obtain rfl := Option.some.inj hA
    obtain ⟨-, y1, -, -, -, -, -⟩ := seven_cells cl
    obtain ⟨-, z1, -, -, -, -, -⟩ := seven_cells cr
    have hyk := (hin _ hl).w
    have hzk := (hin _ hr).w
    have hkw := hk.w
    have HE : Hid (weightE l i = decide ((l.getD i dE).lk.w ≤ 140737488355328 ∧ (l.getD (l.getD i dE).lk.l dE).lk.w ≤ 140737488355328 ∧ (l.getD (l.getD i dE).lk.r dE).lk.w ≤ 140737488355328 ∧ (l.getD (l.getD i dE).lk.l dE).lk.w + (l.getD (l.getD i dE).lk.r dE).lk.w = (l.getD i dE).lk.w)) := Lib.hid (by unfold weightE; rw [if_neg (by rw [hpl]; exact Bool.false_ne_true)])
    rw [hpl] at HPL
    clear hp cc cl cr hin hch hpl hk
    generalize weightE l i = res at *
    generalize (l.getD (l.getD i dE).lk.l dE).lk.w = y at *
    generalize (l.getD (l.getD i dE).lk.r dE).lk.w = z at *
    generalize (l.getD i dE).lk = L at *
    obtain ⟨x0, x1, x2, x3⟩ := L
    unfold linkV at HPL
    dsimp only at *
    have hb0 := (Below.refl W.heap.size W).alloc (Nat.le_refl _) (.cells #[.int .u32 x0, .int .u64 x1, .int .u32 x2, .int .u32 x3] 68)
    go_enter Try.func50, Try.ntmps50
    go_wp2_with fail
    refine HPL.out.mono ?_
    rintro e w2 ⟨rfl, hb2⟩
    have d1 : w2.cell? ⟨W.heap.size, 1, none⟩ = some (.int .u64 x1) := cell_below hb2 ((cells_new W #[.int .u32 x0, .int .u64 x1, .int .u32 x2, .int .u32 x3] 68).cell 1)
    have d2 : w2.cell? ⟨W.heap.size, 2, none⟩ = some (.int .u32 x2) := cell_below hb2 ((cells_new W #[.int .u32 x0, .int .u64 x1, .int .u32 x2, .int .u32 x3] 68).cell 2)
    have d3 : w2.cell? ⟨W.heap.size, 3, none⟩ = some (.int .u32 x3) := cell_below hb2 ((cells_new W #[.int .u32 x0, .int .u64 x1, .int .u32 x2, .int .u32 x3] 68).cell 3)
    have hb20 := hb0.trans (hb2.mono (by simp))
    have y1' := cell_below hb20 y1
    have z1' := cell_below hb20 z1
    have HB := Lib.hid hb20
    have i0 : (0 : Int) ≤ (x2 : Int) := by omega
    have i1 : (x2 : Int) < (m : Int) := by omega
    have i2 : (0 : Int) ≤ (x3 : Int) := by omega
    have i3 : (x3 : Int) < (m : Int) := by omega
    clear hb2 hb20 hb0 c0 c1 c2 c3 y1 z1
    go_wp2_with fail
    go_quiet (fail)
    have hdr := HB.out.trans ((Drawn.refl w2).step nq |>.below W.heap.size)
    have d1' : (w2.drewN nq).cell? ⟨W.heap.size, 1, none⟩ = some (.int .u64 x1) := by exact d1
    generalize w2.drewN nq = w3 at *
    have HB3 := Lib.hid hdr
    clear hdr d1 d2 d3 y1' z1' HB
    by_cases h1 : x1 ≤ 140737488355328
    · have g1 : decide (x1 ≤ 140737488355328) = true := decide_eq_true h1
      by_cases h2 : y ≤ 140737488355328
      · have g2 : decide (y ≤ 140737488355328) = true := decide_eq_true h2
        by_cases h3 : z ≤ 140737488355328
        · have g3 : decide (z ≤ 140737488355328) = true := decide_eq_true h3
          have w1 : IntKind.u64.wrap (y + z) = y + z := by rw [IntKind.wrap_u64]; omega
          by_cases h4 : y + z = x1
          · have HE2 := Lib.hid (HE.out.trans (decide_eq_true ⟨h1, h2, h3, h4⟩))
            have g4 : (y + z == x1) = true := beq_iff_eq.2 h4
            clear h4
            go_wp2_with fail
            go_ret
            rw [HE2.out]
            exact ⟨rfl, HB3.out⟩
          · have HE2 := Lib.hid (HE.out.trans (decide_eq_false (fun h => h4 h.2.2.2)))
            have g4 : (y + z == x1) = false := beq_eq_false_iff_ne.2 h4
            clear h4
            go_wp2_with fail
            go_ret
            rw [HE2.out]
            exact ⟨rfl, HB3.out⟩
        · have HE2 := Lib.hid (HE.out.trans (decide_eq_false (fun h => h3 h.2.2.1)))
          have g3 : decide (z ≤ 140737488355328) = false := decide_eq_false h3
          go_wp2_with fail
          go_ret
          rw [HE2.out]
          exact ⟨rfl, HB3.out⟩
      · have HE2 := Lib.hid (HE.out.trans (decide_eq_false (fun h => h2 h.2.1)))
        have g2 : decide (y ≤ 140737488355328) = false := decide_eq_false h2
        go_wp2_with fail
        go_ret
        rw [HE2.out]
        exact ⟨rfl, HB3.out⟩
    · have HE2 := Lib.hid (HE.out.trans (decide_eq_false (fun h => h1 h.1)))
      have g1 : decide (x1 ≤ 140737488355328) = false := decide_eq_false h1
      go_wp2_with fail
      go_ret
      rw [HE2.out]
      exact ⟨rfl, HB3.out⟩
end Go.Proofs.Ytkcnnamghpdplaa
