/- Several texts in one (squeeze.py): Heap1 Heap2 Heap3 Heap4 Heap5 Heap6 Heap7 Heap8. -/
import Derived.Test.YtkcnnamghpdplaaDoorHeapM
import Derived.Test.YtkcnnamghpdplaaDoorCells
import Derived.StillTailTactics
/- What a heap is in memory; two things compared; a thing put at a place. -/
set_option linter.unusedSimpArgs false
set_option linter.unusedVariables false
namespace Go.Proofs.YtkcnnamghpdplaaDoor
open Go.RowKit

abbrev encI (x : It) : List Value := [.int .u64 x.1, .int .u32 (x.2 : Int)]
theorem encI_len : ∀ x, (encI x).length = 2 := fun _ => rfl
abbrev itemV (x : It) : Value := .agg #[.int .u64 x.1, .int .u32 (x.2 : Int)]
def atA (ps : List Nat) : Array Value := (ps.map fun a : Nat => Value.int .i64 (a : Int)).toArray
theorem atA_at {ps : List Nat} {j a : Nat} (h : ps[j]? = some a) : (atA ps)[j]? = some (.int .i64 a) := by simp [atA, h]
theorem atA_set (ps : List Nat) (j a : Nat) : (atA ps).setIfInBounds j (.int .i64 (a : Int)) = atA (ps.set j a) := by
  apply Array.ext'
  simp [atA, List.map_set]
theorem flat_put : ∀ (l : List It) (i : Nat) (x : It), i < l.length → ((l.flatMap encI).set (i * 2) (.int .u64 x.1)).set (i * 2 + 1) (.int .u32 (x.2 : Int)) = (l.set i x).flatMap encI
  | [], i, x, h => by simp at h
  | y :: l, 0, x, h => by simp
  | y :: l, i + 1, x, h => by
    have e := flat_put l i x (by simpa using h)
    rw [List.flatMap_cons, List.set_cons_succ, List.flatMap_cons, ← e, show (i + 1) * 2 = i * 2 + 1 + 1 by omega]
    simp only [encI, List.cons_append, List.nil_append, List.set_cons_succ]
structure HP (w : World) (B b ga : Nat) (v : Value) (xs : List It) (ps : List Nat) : Prop where
  blk : Cells w b #[v, .slice (some ⟨ga, 0, none⟩) ps.length ps.length] 169
  own : Own 175 2 encI w B v xs
  row : Cells w ga (atA ps) 3
  lb : B ≤ b
  lg : B ≤ ga
  ne : b ≠ ga
  vb : v.ownBlock ≠ some b
  vg : v.ownBlock ≠ some ga
/-- the blocks of a heap -/
def mine (b ga : Nat) (v : Value) (k : Nat) : Prop := k = b ∨ k = ga ∨ v.ownBlock = some k
section
variable {w w' : World} {B b ga : Nat} {v : Value} {xs : List It} {ps : List Nat}
theorem HP.lt (h : HP w B b ga v xs ps) : ∀ k, mine b ga v k → B ≤ k ∧ k < w.heap.size := by
  rintro k (rfl | rfl | hk)
  · exact ⟨h.lb, h.blk.lt⟩
  · exact ⟨h.lg, h.row.lt⟩
  · exact h.own.block hk
theorem HP.kept {S : Nat → Prop} (h : HP w B b ga v xs ps) (hk : Kept S w w') (hS : ∀ k, mine b ga v k → ¬ S k) : HP w' B b ga v xs ps := by
  refine ⟨hk.cells h.blk (hS _ (.inl rfl)), ?_, hk.cells h.row (hS _ (.inr (.inl rfl))), h.lb, h.lg, h.ne, h.vb, h.vg⟩
  refine ⟨h.own.1, ?_⟩
  rcases h.own.2 with h0 | ⟨g, cap, cur, hv, hg, hh, r⟩
  · exact .inl h0
  · exact .inr ⟨g, cap, cur, hv, hg, hk.cells hh (hS g (.inr (.inr (by rw [hv]; rfl)))), r⟩
theorem HP.below (h : HP w B b ga v xs ps) (hb : Below w.heap.size w w') : HP w' B b ga v xs ps :=
  h.kept (S := fun _ => False) (.of_below hb) (fun _ _ h => h)
theorem HP.slice (h : HP w B b ga v xs ps) {i : Nat} (hi : i < xs.length) : ∃ g c, v = .slice (some ⟨g, 0, none⟩) xs.length c ∧ xs.length ≤ c ∧ b ≠ g ∧ ga ≠ g ∧ g < w.heap.size := by
  rcases h.own.2 with ⟨_, h0⟩ | ⟨g, c, cur, rfl, hg, hh, hc, _⟩
  · omega
  · exact ⟨g, c, rfl, hc, fun e => h.vb (by rw [e]; rfl), fun e => h.vg (by rw [e]; rfl), (Array.getElem?_eq_some_iff.1 hh).1⟩
theorem HP.item {g c : Nat} (h : HP w B b ga (.slice (some ⟨g, 0, none⟩) xs.length c) xs ps) {i : Nat} {x : It} (hi : xs[i]? = some x) : w.cell? ⟨g, i * 2, none⟩ = some (.int .u64 x.1) ∧ w.cell? ⟨g, i * 2 + 1, none⟩ = some (.int .u32 (x.2 : Int)) := by
  have hil := lt_of_get hi
  constructor
  · have e := flat_get encI_len xs i 0 (by omega)
    rw [hi, Nat.add_zero] at e
    exact (h.own.cellAt (i * 2) (by omega)).trans e
  · have e := flat_get encI_len xs i 1 (by omega)
    rw [hi] at e
    exact (h.own.cellAt (i * 2 + 1) (by omega)).trans e
theorem HP.place (h : HP w B b ga v xs ps) {j a : Nat} (hj : ps[j]? = some a) : w.cell? ⟨ga, j, none⟩ = some (.int .i64 a) := (h.row.cell j).trans (atA_at hj)
theorem HP.put {g c : Nat} (h : HP w B b ga (.slice (some ⟨g, 0, none⟩) xs.length c) xs ps) {i : Nat} (hi : i < xs.length) (x : It) :
    HP (((w.setCell ⟨g, i * 2, none⟩ (.int .u64 x.1)).setCell ⟨g, i * 2 + 1, none⟩ (.int .u32 (x.2 : Int))).setCell ⟨ga, x.2, none⟩ (.int .i64 ((i + 1 : Nat) : Int))) B b ga (.slice (some ⟨g, 0, none⟩) xs.length c) (xs.set i x) (ps.set x.2 (i + 1)) := by
  have hb : b ≠ g := fun e => h.vb (by rw [e]; rfl)
  have hg : ga ≠ g := fun e => h.vg (by rw [e]; rfl)
  refine ⟨?_, ?_, ?_, h.lb, h.lg, h.ne, h.vb, h.vg⟩
  · rw [List.length_set]
    exact ((h.blk.far _ _ hb).far _ _ hb).far _ _ h.ne
  · refine own_far2 ?_ (p := ⟨ga, x.2, none⟩) h.vg _
    have e := ((h.own.stored (i * 2) (.int .u64 x.1)).1.stored (i * 2 + 1) (.int .u32 (x.2 : Int))).1
    rw [flat_put xs i x hi] at e
    unfold Own
    rw [List.length_set]
    exact e
  · have e := ((h.row.far (k := g) (i * 2) (.int .u64 x.1) hg).far (k := g) (i * 2 + 1) (.int .u32 (x.2 : Int)) hg).set_ x.2 (.int .i64 ((i + 1 : Nat) : Int))
    rwa [atA_set] at e
end

theorem less_any (x y : It) (w : World) :
    Calls Tryd.prog 84 #[itemV x, itemV y] w fun e w' => (∃ r : Bool, e = .returned (.bool r) ∧ (r = true ↔ lessI x y)) ∧ Below w.heap.size w w' := by
  obtain ⟨k, i⟩ := x
  obtain ⟨k', i'⟩ := y
  unfold itemV
  simp only []
  by_cases h1 : k < k'
  · have g1 : decide (k < k') = true := decide_eq_true h1
    have H := Lib.hid (show lessI (k, i) (k', i') from .inl h1)
    clear h1
    go_enter Tryd.func84, Tryd.ntmps84
    go_wp2
    go_ret
    exact ⟨⟨true, rfl, by simp [H.out]⟩, by first | exact ((Below.refl _ w).alloc (Nat.le_refl _) _).alloc (by simp) _ | exact (((Below.refl _ w).alloc (Nat.le_refl _) _).alloc (by simp) _).drew⟩
  · have g1 : decide (k < k') = false := decide_eq_false h1
    by_cases h2 : k = k'
    · subst h2
      by_cases h3 : i < i'
      · have g3 : decide ((i : Int) < (i' : Int)) = true := decide_eq_true (by omega)
        have g4 : decide (i < i') = true := decide_eq_true h3
        have H := Lib.hid (show lessI (k, i) (k, i') from .inr ⟨rfl, h3⟩)
        clear h1 h3
        go_enter Tryd.func84, Tryd.ntmps84
        go_wp2
        go_ret
        exact ⟨⟨true, rfl, by simp [H.out]⟩, by first | exact ((Below.refl _ w).alloc (Nat.le_refl _) _).alloc (by simp) _ | exact (((Below.refl _ w).alloc (Nat.le_refl _) _).alloc (by simp) _).drew⟩
      · have g3 : decide ((i : Int) < (i' : Int)) = false := decide_eq_false (by omega)
        have g4 : decide (i < i') = false := decide_eq_false h3
        have H := Lib.hid (show ¬ lessI (k, i) (k, i') from fun h => by unfold lessI at h; simp only [] at h; omega)
        clear h1 h3
        go_enter Tryd.func84, Tryd.ntmps84
        go_wp2
        go_ret
        exact ⟨⟨false, rfl, by simp [H.out]⟩, by first | exact ((Below.refl _ w).alloc (Nat.le_refl _) _).alloc (by simp) _ | exact (((Below.refl _ w).alloc (Nat.le_refl _) _).alloc (by simp) _).drew⟩
    · have g2 : (k == k') = false := by simp [h2]
      have H := Lib.hid (show ¬ lessI (k, i) (k', i') from fun h => by unfold lessI at h; simp only [] at h; omega)
      clear h1 h2
      go_enter Tryd.func84, Tryd.ntmps84
      go_wp2
      go_ret
      exact ⟨⟨false, rfl, by simp [H.out]⟩, by first | exact ((Below.refl _ w).alloc (Nat.le_refl _) _).alloc (by simp) _ | exact (((Below.refl _ w).alloc (Nat.le_refl _) _).alloc (by simp) _).drew⟩

section
variable {w : World} {B b ga : Nat} {v : Value} {xs : List It} {ps : List Nat}
theorem put_any (h : HP w B b ga v xs ps) {i : Nat} (hi : i < xs.length) (hl : xs.length ≤ 65536) (x : It) (hx : x.2 < ps.length) (ha : ps.length ≤ 65536) :
    Calls Tryd.prog 81 #[.pointer (some ⟨b, 0, none⟩), .int .i64 i, itemV x] w fun e w' => e = .returned (.tuple #[]) ∧ HP w' B b ga v (xs.set i x) (ps.set x.2 (i + 1)) ∧ Kept (mine b ga v) w w' := by
  obtain ⟨g, c, rfl, hc, hbg, hgg, hgs⟩ := h.slice hi
  have hbs := h.blk.lt
  have hgas := h.row.lt
  have hbga := h.ne
  have c0 : w.cell? ⟨b, 0, none⟩ = some (.slice (some ⟨g, 0, none⟩) xs.length c) := h.blk.cell 0
  have c1 : w.cell? ⟨b, 1, none⟩ = some (.slice (some ⟨ga, 0, none⟩) ps.length ps.length) := h.blk.cell 1
  have hz := List.getElem?_eq_getElem hi
  generalize xs[i] = z at hz
  obtain ⟨i0, i1⟩ := h.item hz
  have f0 := h.own.frozenAt (i * 2)
  have f1 := h.own.frozenAt (i * 2 + 1)
  have hp := List.getElem?_eq_getElem hx
  generalize ps[x.2] = p at hp
  have p0 := h.place hp
  have pf := h.row.frozen x.2
  have H := Lib.hid h
  have HI := Lib.hid hi
  clear h hz hp
  obtain ⟨k, j⟩ := x
  unfold itemV
  dsimp only at *
  have n1 : ¬ b = g := hbg
  have n2 : ¬ g = b := fun e => hbg e.symm
  have n3 : ¬ ga = g := hgg
  have n4 : ¬ g = ga := fun e => hgg e.symm
  have n5 : ¬ b = ga := hbga
  have n6 : ¬ ga = b := fun e => hbga e.symm
  clear hbg hgg hbga
  go_enter Tryd.func81, Tryd.ntmps81
  go_wp2_with go_region
  go_returns
  exact ⟨rfl, (H.out.put HI.out (k, j)).below (Below.drew (Below.drew ((Below.refl _ _).alloc (Nat.le_refl _) _))), ((((Kept.refl _ w).set_ (.inl (.inr (.inr rfl))) _).set_ (.inl (.inr (.inr rfl))) _).set_ (.inl (.inr (.inl rfl))) _).trans (.of_below (Below.drew (Below.drew ((Below.refl _ _).alloc (Nat.le_refl _) _))))⟩
end
end Go.Proofs.YtkcnnamghpdplaaDoor
/- A thing goes up as far as it must. -/
set_option linter.unusedSimpArgs false
set_option linter.unusedVariables false
namespace Go.Proofs.YtkcnnamghpdplaaDoor
open Go.RowKit

theorem set_self {α : Type} {l : List α} {i : Nat} {a : α} (h : l[i]? = some a) : l.set i a = l := by
  apply List.ext_getElem?
  intro j
  rw [get_set _ (lt_of_get h)]
  by_cases e : j = i
  · rw [if_pos e, e, h]
  · rw [if_neg e]
theorem set_swap {l : List Nat} {i j a b c : Nat} (h : i ≠ j) : ((l.set i a).set j b).set i c = (l.set j b).set i c := by
  rw [List.set_comm _ _ h, List.set_set]
theorem HP.item2 {w : World} {B b ga g c s : Nat} {xs : List It} {ps : List Nat} (h : HP w B b ga (.slice (some ⟨g, 0, none⟩) s c) xs ps) (hs : xs.length = s) {i : Nat} {x : It} (hi : xs[i]? = some x) : w.cell? ⟨g, i * 2, none⟩ = some (.int .u64 x.1) ∧ w.cell? ⟨g, i * 2 + 1, none⟩ = some (.int .u32 (x.2 : Int)) := by
  subst hs; exact h.item hi
/-- x is at place q, though it is not written there yet. -/
structure Hole (w : World) (B b ga : Nat) (v : Value) (ys : List It) (qs : List Nat) (m : List (Option Int)) (q : Nat) (x : It) (n s : Nat) : Prop where
  hp : HP w B b ga v ys qs
  lt : q < ys.length
  len : ys.length = s
  leng : qs.length = n
  good : Good (ys.set q x) (qs.set x.2 (q + 1)) m
section
variable {w : World} {B b ga : Nat} {v : Value} {ys : List It} {qs : List Nat} {m : List (Option Int)} {q n s : Nat} {x : It}
theorem Hole.x_lt (h : Hole w B b ga v ys qs m q x n s) : x.2 < qs.length := by
  have e := h.good.id_lt (i := q) (x := x) (by rw [get_set _ h.lt, if_pos rfl])
  rwa [List.length_set] at e
theorem Hole.other (h : Hole w B b ga v ys qs m q x n s) {p : Nat} (hp : p ≠ q) : (ys.set q x)[p]? = ys[p]? := by rw [get_set _ h.lt, if_neg hp]
theorem Hole.at_ (h : Hole w B b ga v ys qs m q x n s) : (ys.set q x)[q]? = some x := by rw [get_set _ h.lt, if_pos rfl]
theorem Hole.id_ne (h : Hole w B b ga v ys qs m q x n s) {p : Nat} {y : It} (hp : p ≠ q) (hy : ys[p]? = some y) : x.2 ≠ y.2 :=
  fun e => hp (h.good.inj h.at_ ((h.other hp).trans hy) e).symm
theorem Hole.y_lt (h : Hole w B b ga v ys qs m q x n s) {p : Nat} {y : It} (hp : p ≠ q) (hy : ys[p]? = some y) : y.2 < qs.length := by
  have e := h.good.id_lt ((h.other hp).trans hy)
  rwa [List.length_set] at e
/-- one step: what was at p is written at q, x is at p -/
theorem Hole.step {w' : World} {p : Nat} {y : It} (h : Hole w B b ga v ys qs m q x n s) (hp : p ≠ q) (hy : ys[p]? = some y) (h' : HP w' B b ga v (ys.set q y) (qs.set y.2 (q + 1))) :
    Hole w' B b ga v (ys.set q y) (qs.set y.2 (q + 1)) m p x n s ∧ (ys.set q y).set p x = swap (ys.set q x) q p x y := by
  have e1 : (ys.set q y).set p x = swap (ys.set q x) q p x y := by unfold swap; rw [List.set_set]
  refine ⟨⟨h', by rw [List.length_set]; exact lt_of_get hy, by rw [List.length_set]; exact h.len, by rw [List.length_set]; exact h.leng, ?_⟩, e1⟩
  rw [e1]
  have g := good_swap h.good hp.symm h.at_ ((h.other hp).trans hy)
  rwa [set_swap (h.id_ne hp hy)] at g
end
def UpTo (w : World) (B b ga : Nat) (v : Value) (xs : List It) (ps : List Nat) (m : List (Option Int)) (x : It) (e : Ending) (w' : World) : Prop :=
  e = .returned (.tuple #[]) ∧ (∃ zs rs j, HP w' B b ga v zs rs ∧ Good zs rs m ∧ zs.length = xs.length ∧ rs.length = ps.length ∧ zs[j]? = some x ∧ DownInv j zs) ∧ Kept (mine b ga v) w w'
theorem up_any {w : World} {B b ga : Nat} {v : Value} {xs : List It} {ps : List Nat} {m : List (Option Int)} (h : HP w B b ga v xs ps) (hg : Good xs ps m) (hn : ps.length ≤ 65536) {i : Nat} (hal : Almost i xs) {x : It} (hi : xs[i]? = some x) :
    Calls Tryd.prog 82 #[.pointer (some ⟨b, 0, none⟩), .int .i64 i] w (UpTo w B b ga v xs ps m x) := by
  have hil := lt_of_get hi
  have hsm := hg.small
  obtain ⟨g, c, rfl, hc, hbg, hgg, hgs⟩ := h.slice hil
  have c0 : w.cell? ⟨b, 0, none⟩ = some (.slice (some ⟨g, 0, none⟩) xs.length c) := h.blk.cell 0
  obtain ⟨i0, i1⟩ := h.item hi
  have HO : Hid (Hole w B b ga (.slice (some ⟨g, 0, none⟩) xs.length c) xs ps m i x ps.length xs.length) := Lib.hid ⟨h, hil, rfl, rfl, by rw [set_self hi, set_self (hg.fwd i x hi).1]; exact hg⟩
  have HA := Lib.hid (show Almost i (xs.set i x) by rw [set_self hi]; exact hal)
  have HBL : Hid (∀ k, mine b ga (.slice (some ⟨g, 0, none⟩) xs.length c) k → k < w.heap.size) := Lib.hid (fun k hk => (h.lt k hk).2)
  have h0 := h.lt
  have HN : Hid (xs.length ≤ 65536) := Lib.hid (by omega)
  have HN2 := Lib.hid hn
  clear h hg hal hi hsm hn
  have HBO := Lib.hid h0
  clear h0
  generalize hs : xs.length = s at *
  generalize hn : ps.length = n at *
  unfold UpTo
  rw [hs, hn]
  clear hn
  have HX : Hid (Cells (w.alloc (.cells #[.int .u64 x.1, .int .u32 (x.2 : Int)] 175)) w.heap.size #[.int .u64 x.1, .int .u32 (x.2 : Int)] 175) := Lib.hid (cells_new _ _ _)
  have HO2 : Hid (Hole (w.alloc (.cells #[.int .u64 x.1, .int .u32 (x.2 : Int)] 175)) B b ga (.slice (some ⟨g, 0, none⟩) s c) xs ps m i x n s) := Lib.hid { HO.out with hp := HO.out.hp.below ((Below.refl _ _).alloc (Nat.le_refl _) _) }
  clear HO
  go_enter Tryd.func82, Tryd.ntmps82
  go_wp2_with fail
  clear i0 i1
  go_loopw [1] (fun iv wr => ∃ (q : Nat) (ys : List It) (qs : List Nat), iv = .int .i64 q ∧ Hole wr B b ga (.slice (some ⟨g, 0, none⟩) s c) ys qs m q x n s ∧ Almost q (ys.set q x) ∧ Cells wr w.heap.size #[.int .u64 x.1, .int .u32 (x.2 : Int)] 175 ∧ Kept (mine b ga (.slice (some ⟨g, 0, none⟩) s c)) w wr) (fun iv _ => (intOf iv).toNat)
  case atStart => exact ⟨i, xs, ps, rfl, HO2.out, HA.out, HX.out, (Kept.refl _ _).alloc _⟩
  case round =>
    obtain ⟨q, ys, qs, rfl, ho, ha, hx, hk⟩ := hrel
    have HO := Lib.hid ho
    have HA2 := Lib.hid ha
    have HX2 := Lib.hid hx
    have HK := Lib.hid hk
    have hql := ho.lt
    have hyl := ho.len
    have b0 : wr.cell? ⟨w.heap.size, 0, none⟩ = some (.int .u64 x.1) := hx.cell 0
    have b1 : wr.cell? ⟨w.heap.size, 1, none⟩ = some (.int .u32 (x.2 : Int)) := hx.cell 1
    have d0 : wr.cell? ⟨b, 0, none⟩ = some (.slice (some ⟨g, 0, none⟩) s c) := ho.hp.blk.cell 0
    clear ho ha hx hk HO2 HX HA
    have hqs : q < s := by omega
    have HNS := HN.out
    by_cases hq0 : 0 < q
    · obtain ⟨p, hpq⟩ : ∃ p, par q = p := ⟨_, rfl⟩
      have hpl : p < q := by rw [← hpq]; exact par_lt hq0
      have hpc : p < c := by omega
      have hps : p < s := by omega
      have hpy : p < ys.length := by omega
      have HW : Hid (((q : Int) - 1) / 4 = (p : Int)) := Lib.hid (by unfold par at hpq; omega)
      have hy := List.getElem?_eq_getElem hpy
      generalize ys[p] = y at hy
      obtain ⟨j0, j1⟩ := HO.out.hp.item2 hyl hy
      have HY := Lib.hid hy
      have HPQ := Lib.hid hpq
      clear hy hpq hpy
      go_wp2_with fail
      rw [HW.out]
      have HB1 : Hid (Below wr.heap.size wr wr.drew) := Lib.hid (Below.refl _ _).drew
      by_cases hl : lessI x y
      · have HLS := Lib.hid hl
        clear hl
        go_region_held3 (fun w' => w'.cell? ⟨w.heap.size, 0, none⟩ = some (.int .u64 x.1) ∧ w'.cell? ⟨w.heap.size, 1, none⟩ = some (.int .u32 (x.2 : Int)) ∧ w'.cell? ⟨b, 0, none⟩ = some (.slice (some ⟨g, 0, none⟩) s c) ∧ w'.cell? ⟨g, p * 2, none⟩ = some (.int .u64 y.1) ∧ w'.cell? ⟨g, p * 2 + 1, none⟩ = some (.int .u32 (y.2 : Int))) (first | exact ⟨b0, b1, d0, j0, j1⟩) (first
          | (go_at_call 84; refine (less_any x y _).mono ?_; rintro e w5 ⟨⟨r, rfl, hr⟩, hb5⟩; obtain rfl : r = true := hr.2 HLS.out; have HB5 := Lib.hid (HB1.out.trans hb5); have b0 := cell_below hb5 b0; have b1 := cell_below hb5 b1; have d0 := cell_below hb5 d0; have j0 := cell_below hb5 j0; have j1 := cell_below hb5 j1; clear hb5 hr))
        go_wp2_with fail
        refine (put_any (HO.out.hp.below HB5.out) hql (by omega) y (HO.out.y_lt (by omega) HY.out) (by rw [HO.out.leng]; exact HN2.out)).mono ?_
        rintro e w6 ⟨rfl, hp6, hk6⟩
        have HP6 := Lib.hid hp6
        have HK6 := Lib.hid ((HK.out.trans (.of_below HB5.out)).trans hk6)
        have HX6 := Lib.hid (hk6.cells (HX2.out.below HB5.out) (fun h => by have := HBL.out _ h; omega))
        clear hp6 hk6
        go_wp2_with fail
        go_roundw
        case rel =>
          obtain ⟨ho', he'⟩ := HO.out.step (by omega) HY.out HP6.out
          refine ⟨p, _, _, rfl, ho', ?_, HX6.out, HK6.out⟩
          rw [he', ← HPQ.out]
          have hy := HY.out
          rw [← HPQ.out] at hy
          exact up_step HA2.out hq0 HO.out.at_ ((HO.out.other (by have := par_lt hq0; omega)).trans hy) HLS.out
        case measure => simp [intOf]; omega
      · have HLS := Lib.hid hl
        clear hl
        have HD : Hid (DownInv q (ys.set q x)) := Lib.hid (up_stop HA2.out (fun h0 x' y' hx' hy' => by
          rw [HO.out.at_] at hx'
          rw [HPQ.out, HO.out.other (by omega), HY.out] at hy'
          rw [← Option.some.inj hx', ← Option.some.inj hy']
          exact HLS.out))
        go_region_held3 (fun w' => w'.cell? ⟨w.heap.size, 0, none⟩ = some (.int .u64 x.1) ∧ w'.cell? ⟨w.heap.size, 1, none⟩ = some (.int .u32 (x.2 : Int)) ∧ w'.cell? ⟨b, 0, none⟩ = some (.slice (some ⟨g, 0, none⟩) s c) ∧ w'.cell? ⟨g, p * 2, none⟩ = some (.int .u64 y.1) ∧ w'.cell? ⟨g, p * 2 + 1, none⟩ = some (.int .u32 (y.2 : Int))) (first | exact ⟨b0, b1, d0, j0, j1⟩) (first
          | (go_at_call 84; refine (less_any x y _).mono ?_; rintro e w5 ⟨⟨r, rfl, hr⟩, hb5⟩; obtain rfl : r = false := Bool.eq_false_iff.2 (fun h => HLS.out (hr.1 h)); have HB5 := Lib.hid (HB1.out.trans hb5); have b0 := cell_below hb5 b0; have b1 := cell_below hb5 b1; have d0 := cell_below hb5 d0; have j0 := cell_below hb5 j0; have j1 := cell_below hb5 j1; clear hb5 hr))
        go_wp2_with fail
        refine (put_any (HO.out.hp.below HB5.out) hql (by omega) x HO.out.x_lt (by rw [HO.out.leng]; exact HN2.out)).mono ?_
        rintro e w7 ⟨rfl, hp7, hk7⟩
        have HP7 := Lib.hid hp7
        have HK7 := Lib.hid ((HK.out.trans (.of_below HB5.out)).trans hk7)
        clear hp7 hk7
        go_wp2_with fail
        go_end0
        exact ⟨rfl, ⟨_, _, q, HP7.out, HO.out.good, by rw [List.length_set]; exact HO.out.len, by rw [List.length_set]; exact HO.out.leng, HO.out.at_, HD.out⟩, HK7.out⟩
    · obtain rfl : q = 0 := by omega
      have HD : Hid (DownInv 0 (ys.set 0 x)) := Lib.hid (up_stop HA2.out (fun h0 => absurd h0 (by omega)))
      go_wp2_with fail
      refine (put_any (HO.out.hp.below (Below.refl _ _)) hql (by omega) x HO.out.x_lt (by rw [HO.out.leng]; exact HN2.out)).mono ?_
      rintro e w7 ⟨rfl, hp7, hk7⟩
      have HP7 := Lib.hid hp7
      have HK7 := Lib.hid ((HK.out.trans (.of_below (Below.refl _ _))).trans hk7)
      clear hp7 hk7
      go_wp2_with fail
      go_end0
      exact ⟨rfl, ⟨_, _, 0, HP7.out, HO.out.good, by rw [List.length_set]; exact HO.out.len, by rw [List.length_set]; exact HO.out.leng, HO.out.at_, HD.out⟩, HK7.out⟩
end Go.Proofs.YtkcnnamghpdplaaDoor
/- A thing goes down as far as it must. -/
set_option linter.unusedSimpArgs false
set_option linter.unusedVariables false
namespace Go.Proofs.YtkcnnamghpdplaaDoor
open Go.RowKit

/-- the best child of q among the first k -/
def Best (ys : List It) (q k : Nat) (bv : Value) : Prop :=
  (bv = .int .i64 (-1) ∧ ∀ j, 4 * q + 1 ≤ j → j < 4 * q + 1 + k → ys.length ≤ j) ∨
  (∃ c : Nat, bv = .int .i64 c ∧ 4 * q + 1 ≤ c ∧ c < 4 * q + 1 + k ∧ c < ys.length ∧ ∀ j y z, 4 * q + 1 ≤ j → j < 4 * q + 1 + k → ys[c]? = some y → ys[j]? = some z → leI y z)
section
variable {ys : List It} {q k : Nat} {bv : Value}
theorem best_zero (ys : List It) (q : Nat) : Best ys q 0 (.int .i64 (-1)) := .inl ⟨rfl, fun j h1 h2 => by omega⟩
theorem best_beyond (h : Best ys q k bv) (hl : ys.length ≤ 4 * q + 1 + k) : Best ys q (k + 1) bv := by
  rcases h with ⟨e, h⟩ | ⟨c, e, h1, h2, h3, h4⟩
  · exact .inl ⟨e, fun j a b => by by_cases hj : j < 4 * q + 1 + k; exact h j a hj; omega⟩
  · refine .inr ⟨c, e, h1, by omega, h3, fun j y z a b hy hz => ?_⟩
    have := lt_of_get hz
    exact h4 j y z a (by omega) hy hz
theorem best_first (h : Best ys q k (.int .i64 (-1))) (hl : 4 * q + 1 + k < ys.length) : Best ys q (k + 1) (.int .i64 ((4 * q + 1 + k : Nat) : Int)) := by
  rcases h with ⟨e, h⟩ | ⟨c, e, h1, h2, h3, h4⟩
  · refine .inr ⟨_, rfl, by omega, by omega, hl, fun j y z a b hy hz => ?_⟩
    by_cases hj : j < 4 * q + 1 + k
    · have := h j a hj; have := lt_of_get hz; omega
    · obtain rfl : j = 4 * q + 1 + k := by omega
      rw [hy] at hz
      obtain rfl := Option.some.inj hz
      exact leI_refl _
  · injection e with _ e; omega
theorem best_less {c : Nat} {x y : It} (h : Best ys q k (.int .i64 c)) (hx : ys[4 * q + 1 + k]? = some x) (hy : ys[c]? = some y) (hl : lessI x y) : Best ys q (k + 1) (.int .i64 ((4 * q + 1 + k : Nat) : Int)) := by
  rcases h with ⟨e, h⟩ | ⟨c', e, h1, h2, h3, h4⟩
  · injection e with _ e; omega
  · obtain rfl : c = c' := by injection e with _ e; omega
    refine .inr ⟨_, rfl, by omega, by omega, lt_of_get hx, fun j y' z a b hy' hz => ?_⟩
    rw [hx] at hy'
    obtain rfl := Option.some.inj hy'
    by_cases hj : j < 4 * q + 1 + k
    · exact leI_trans (leI_of_less hl) (h4 j y z a hj hy hz)
    · obtain rfl : j = 4 * q + 1 + k := by omega
      rw [hx] at hz
      obtain rfl := Option.some.inj hz
      exact leI_refl _
theorem best_same {c : Nat} {x y : It} (h : Best ys q k (.int .i64 c)) (hx : ys[4 * q + 1 + k]? = some x) (hy : ys[c]? = some y) (hl : ¬ lessI x y) : Best ys q (k + 1) (.int .i64 c) := by
  rcases h with ⟨e, h⟩ | ⟨c', e, h1, h2, h3, h4⟩
  · injection e with _ e; omega
  · obtain rfl : c = c' := by injection e with _ e; omega
    refine .inr ⟨c, rfl, h1, by omega, h3, fun j y' z a b hy' hz => ?_⟩
    rw [hy] at hy'
    obtain rfl := Option.some.inj hy'
    by_cases hj : j < 4 * q + 1 + k
    · exact h4 j y z a hj hy hz
    · obtain rfl : j = 4 * q + 1 + k := by omega
      rw [hx] at hz
      obtain rfl := Option.some.inj hz
      exact leI_of_not hl
theorem par_iff {j : Nat} (h : 0 < j) : par j = q ↔ 4 * q + 1 ≤ j ∧ j < 4 * q + 1 + 4 := by unfold par; omega
end
def DownTo (w : World) (B b ga : Nat) (v : Value) (xs : List It) (ps : List Nat) (m : List (Option Int)) (e : Ending) (w' : World) : Prop :=
  e = .returned (.tuple #[]) ∧ (∃ zs rs, HP w' B b ga v zs rs ∧ Good zs rs m ∧ zs.length = xs.length ∧ rs.length = ps.length ∧ HeapL zs) ∧ Kept (mine b ga v) w w'
set_option maxHeartbeats 4000000 in
theorem down_any {w : World} {B b ga : Nat} {v : Value} {xs : List It} {ps : List Nat} {m : List (Option Int)} (h : HP w B b ga v xs ps) (hg : Good xs ps m) (hn : ps.length ≤ 65536) {i : Nat} (hal : DownInv i xs) {x : It} (hi : xs[i]? = some x) :
    Calls Tryd.prog 83 #[.pointer (some ⟨b, 0, none⟩), .int .i64 i] w (DownTo w B b ga v xs ps m) := by
  have hil := lt_of_get hi
  have hsm := hg.small
  obtain ⟨g, c, rfl, hc, hbg, hgg, hgs⟩ := h.slice hil
  have c0 : w.cell? ⟨b, 0, none⟩ = some (.slice (some ⟨g, 0, none⟩) xs.length c) := h.blk.cell 0
  obtain ⟨i0, i1⟩ := h.item hi
  have HO : Hid (Hole w B b ga (.slice (some ⟨g, 0, none⟩) xs.length c) xs ps m i x ps.length xs.length) := Lib.hid ⟨h, hil, rfl, rfl, by rw [set_self hi, set_self (hg.fwd i x hi).1]; exact hg⟩
  have HA := Lib.hid (show DownInv i (xs.set i x) by rw [set_self hi]; exact hal)
  have HBL : Hid (∀ k, mine b ga (.slice (some ⟨g, 0, none⟩) xs.length c) k → k < w.heap.size) := Lib.hid (fun k hk => (h.lt k hk).2)
  have HN : Hid (xs.length ≤ 65536) := Lib.hid (by omega)
  have HN2 := Lib.hid hn
  clear h hg hal hi hsm hn
  generalize hs : xs.length = s at *
  generalize hn : ps.length = n at *
  unfold DownTo
  rw [hs, hn]
  clear hn
  have HX : Hid (Cells (w.alloc (.cells #[.int .u64 x.1, .int .u32 (x.2 : Int)] 175)) w.heap.size #[.int .u64 x.1, .int .u32 (x.2 : Int)] 175) := Lib.hid (cells_new _ _ _)
  have HO2 : Hid (Hole (w.alloc (.cells #[.int .u64 x.1, .int .u32 (x.2 : Int)] 175)) B b ga (.slice (some ⟨g, 0, none⟩) s c) xs ps m i x n s) := Lib.hid { HO.out with hp := HO.out.hp.below ((Below.refl _ _).alloc (Nat.le_refl _) _) }
  clear HO
  go_enter Tryd.func83, Tryd.ntmps83
  go_wp2_with fail
  clear i0 i1 c0 hbg hgg hgs
  go_loopw [1] (fun iv wr => ∃ (q : Nat) (ys : List It) (qs : List Nat), iv = .int .i64 q ∧ Hole wr B b ga (.slice (some ⟨g, 0, none⟩) s c) ys qs m q x n s ∧ DownInv q (ys.set q x) ∧ Cells wr w.heap.size #[.int .u64 x.1, .int .u32 (x.2 : Int)] 175 ∧ Kept (mine b ga (.slice (some ⟨g, 0, none⟩) s c)) w wr) (fun iv _ => s - (intOf iv).toNat)
  case atStart => exact ⟨i, xs, ps, rfl, HO2.out, HA.out, HX.out, (Kept.refl _ _).alloc _⟩
  case round =>
    obtain ⟨q, ys, qs, rfl, ho, ha, hx, hk⟩ := hrel
    have HO := Lib.hid ho
    have HA2 := Lib.hid ha
    have HX2 := Lib.hid hx
    have HK := Lib.hid hk
    have hql := ho.lt
    have hyl := ho.len
    clear ho ha hx hk HO2 HX HA
    have hqs : q < s := by omega
    have HNS := HN.out
    go_wp2_with fail
    obtain ⟨W1, rfl⟩ : ∃ W1 : World, W1 = wr := ⟨_, rfl⟩
    go_loopw [5, 15] (fun bv kv wl => ∃ k : Nat, k ≤ 4 ∧ kv = .int .i64 k ∧ Best ys q k bv ∧ Below W1.heap.size W1 wl) (fun _ kv _ => 4 - (intOf kv).toNat)
    case atStart => exact ⟨0, by omega, rfl, best_zero ys q, Below.refl _ _⟩
    case round =>
      obtain ⟨k, hk, rfl, hbest, hbl⟩ := hrel
      have HBE := Lib.hid hbest
      have HBW := Lib.hid hbl
      clear hbest hbl
      have d0 : wr.cell? ⟨b, 0, none⟩ = some (.slice (some ⟨g, 0, none⟩) s c) := (HO.out.hp.below HBW.out).blk.cell 0
      by_cases hk4 : k < 4
      · have g0 : decide ((k : Int) < 4) = true := decide_eq_true (by omega)
        have g00 : decide (k < 4) = true := decide_eq_true hk4
        obtain ⟨cc, hcc⟩ : ∃ cc, 4 * q + 1 + k = cc := ⟨_, rfl⟩
        have HCC := Lib.hid hcc
        have HCI : Hid ((q : Int) * 4 + 1 + (k : Int) = (cc : Int)) := Lib.hid (by omega)
        by_cases hin : cc < s
        · have hci : cc < c := by omega
          have gA : decide (cc < s) = true := decide_eq_true hin
          have gA' : decide ((cc : Int) < (s : Int)) = true := decide_eq_true (by omega)
          rcases HBE.out with ⟨rfl, hno⟩ | ⟨c1, rfl, h1, h2, h3, h4⟩
          · clear hcc hno
            go_wp2_with fail
            rw [HCI.out]
            go_wp2_with (go_quiet (fail))
            go_roundw
            case rel => exact ⟨k + 1, by omega, by go_num, by rw [← HCC.out]; exact best_first HBE.out (by rw [HCC.out, hyl]; exact hin), HBW.out.trans ⟨rfl, rfl, rfl, Nat.le_refl _, fun _ _ => rfl⟩⟩
            case measure => simp [intOf]; omega
          · have hz := List.getElem?_eq_getElem (show cc < ys.length by omega)
            have hy := List.getElem?_eq_getElem h3
            generalize ys[cc] = z at hz
            generalize ys[c1] = y at hy
            obtain ⟨j0, j1⟩ := (HO.out.hp.below HBW.out).item2 hyl hz
            obtain ⟨k0, k1⟩ := (HO.out.hp.below HBW.out).item2 hyl hy
            have HZ := Lib.hid hz
            have HY := Lib.hid hy
            have gB : decide ((c1 : Int) < 0) = false := decide_eq_false (by omega)
            have hc1 : c1 < c := by omega
            have hc1s : c1 < s := by omega
            have HB1 : Hid (Below wr.heap.size wr wr.drew) := Lib.hid (Below.refl _ _).drew
            clear hcc h1 h2 h3 h4 hz hy
            by_cases hl : lessI z y
            · have HLS := Lib.hid hl
              clear hl
              go_wp2_with fail
              rw [HCI.out]
              go_region_held3 (fun w' => w'.cell? ⟨b, 0, none⟩ = some (.slice (some ⟨g, 0, none⟩) s c) ∧ w'.cell? ⟨g, cc * 2, none⟩ = some (.int .u64 z.1) ∧ w'.cell? ⟨g, cc * 2 + 1, none⟩ = some (.int .u32 (z.2 : Int)) ∧ w'.cell? ⟨g, c1 * 2, none⟩ = some (.int .u64 y.1) ∧ w'.cell? ⟨g, c1 * 2 + 1, none⟩ = some (.int .u32 (y.2 : Int))) (first | exact ⟨d0, j0, j1, k0, k1⟩) (first
            | (go_at_call 84; refine (less_any z y _).mono ?_; rintro e w5 ⟨⟨r, rfl, hr⟩, hb5⟩; obtain rfl : r = true := hr.2 HLS.out; have HB5 := Lib.hid (HB1.out.trans hb5); have d0 := cell_below hb5 d0; have j0 := cell_below hb5 j0; have j1 := cell_below hb5 j1; have k0 := cell_below hb5 k0; have k1 := cell_below hb5 k1; clear hb5 hr))
              go_wp2_with fail
              go_roundw
              case rel => exact ⟨k + 1, by omega, by go_num, by rw [← HCC.out]; exact best_less HBE.out (by rw [HCC.out]; exact HZ.out) HY.out HLS.out, HBW.out.trans (HB5.out.mono HBW.out.size)⟩
              case measure => simp [intOf]; omega
            · have HLS := Lib.hid hl
              clear hl
              go_wp2_with fail
              rw [HCI.out]
              go_region_held3 (fun w' => w'.cell? ⟨b, 0, none⟩ = some (.slice (some ⟨g, 0, none⟩) s c) ∧ w'.cell? ⟨g, cc * 2, none⟩ = some (.int .u64 z.1) ∧ w'.cell? ⟨g, cc * 2 + 1, none⟩ = some (.int .u32 (z.2 : Int)) ∧ w'.cell? ⟨g, c1 * 2, none⟩ = some (.int .u64 y.1) ∧ w'.cell? ⟨g, c1 * 2 + 1, none⟩ = some (.int .u32 (y.2 : Int))) (first | exact ⟨d0, j0, j1, k0, k1⟩) (first
            | (go_at_call 84; refine (less_any z y _).mono ?_; rintro e w5 ⟨⟨r, rfl, hr⟩, hb5⟩; obtain rfl : r = false := Bool.eq_false_iff.2 (fun h => HLS.out (hr.1 h)); have HB5 := Lib.hid (HB1.out.trans hb5); have d0 := cell_below hb5 d0; have j0 := cell_below hb5 j0; have j1 := cell_below hb5 j1; have k0 := cell_below hb5 k0; have k1 := cell_below hb5 k1; clear hb5 hr))
              go_wp2_with fail
              go_roundw
              case rel => exact ⟨k + 1, by omega, by go_num, best_same HBE.out (by rw [HCC.out]; exact HZ.out) HY.out HLS.out, HBW.out.trans (HB5.out.mono HBW.out.size)⟩
              case measure => simp [intOf]; omega
        · have gA : decide (cc < s) = false := decide_eq_false hin
          have gA' : decide ((cc : Int) < (s : Int)) = false := decide_eq_false (by omega)
          clear hcc
          go_wp2_with fail
          rw [HCI.out]
          go_wp2_with (go_quiet (fail))
          go_roundw
          case rel => exact ⟨k + 1, by omega, by go_num, best_beyond HBE.out (by rw [HCC.out, hyl]; omega), HBW.out.trans ⟨rfl, rfl, rfl, Nat.le_refl _, fun _ _ => rfl⟩⟩
          case measure => simp [intOf]; omega
      · obtain rfl : k = 4 := by omega
        have b0 : wr.cell? ⟨w.heap.size, 0, none⟩ = some (.int .u64 x.1) := (HX2.out.below HBW.out).cell 0
        have b1 : wr.cell? ⟨w.heap.size, 1, none⟩ = some (.int .u32 (x.2 : Int)) := (HX2.out.below HBW.out).cell 1
        rcases HBE.out with ⟨rfl, hno⟩ | ⟨c1, rfl, h1, h2, h3, h4⟩
        · have HD : Hid (HeapL (ys.set q x)) := Lib.hid (down_stop HA2.out HO.out.at_ (fun j y hj hp hy => by
            have hl := lt_of_get hy
            rw [List.length_set] at hl
            have hh := (par_iff hj).1 hp
            have := hno j hh.1 hh.2
            omega))
          clear hno
          go_wp2_with (go_quiet (fail))
          refine (put_any (HO.out.hp.below (show Below W1.heap.size W1 (wr.drewN nq) from HBW.out.trans ⟨rfl, rfl, rfl, Nat.le_refl _, fun _ _ => rfl⟩)) hql (by omega) x HO.out.x_lt (by rw [HO.out.leng]; exact HN2.out)).mono ?_
          rintro e w7 ⟨rfl, hp7, hk7⟩
          have HP7 := Lib.hid hp7
          have HK7 := Lib.hid ((HK.out.trans (.of_below (show Below W1.heap.size W1 (wr.drewN nq) from HBW.out.trans ⟨rfl, rfl, rfl, Nat.le_refl _, fun _ _ => rfl⟩))).trans hk7)
          clear hp7 hk7
          go_wp2_with fail
          go_end0
          exact ⟨rfl, ⟨_, _, HP7.out, HO.out.good, by rw [List.length_set]; exact HO.out.len, by rw [List.length_set]; exact HO.out.leng, HD.out⟩, HK7.out⟩
        · have hy := List.getElem?_eq_getElem h3
          generalize ys[c1] = y at hy
          obtain ⟨k0, k1⟩ := (HO.out.hp.below HBW.out).item2 hyl hy
          have HY := Lib.hid hy
          have gB : decide ((c1 : Int) < 0) = false := decide_eq_false (by omega)
          have hc1 : c1 < c := by omega
          have hc1s : c1 < s := by omega
          have HB1 : Hid (Below wr.heap.size wr wr.drew) := Lib.hid (Below.refl _ _).drew
          have HC : Hid (0 < c1 ∧ par c1 = q ∧ c1 ≠ q) := Lib.hid ⟨by omega, (par_iff (by omega)).2 ⟨h1, h2⟩, by omega⟩
          have HMIN : Hid (∀ j z, 0 < j → par j = q → (ys.set q x)[j]? = some z → leI y z) := Lib.hid (fun j z hj hp hz => by
            have hh := (par_iff hj).1 hp
            rw [HO.out.other (by omega)] at hz
            exact h4 j y z hh.1 hh.2 hy hz)
          have hqc : q < c1 := by omega
          clear h1 h2 h3 h4 hy
          by_cases hl : lessI y x
          · have HLS := Lib.hid hl
            clear hl
            go_wp2_with fail
            go_region_held3 (fun w' => w'.cell? ⟨b, 0, none⟩ = some (.slice (some ⟨g, 0, none⟩) s c) ∧ w'.cell? ⟨g, c1 * 2, none⟩ = some (.int .u64 y.1) ∧ w'.cell? ⟨g, c1 * 2 + 1, none⟩ = some (.int .u32 (y.2 : Int)) ∧ w'.cell? ⟨w.heap.size, 0, none⟩ = some (.int .u64 x.1) ∧ w'.cell? ⟨w.heap.size, 1, none⟩ = some (.int .u32 (x.2 : Int))) (first | exact ⟨d0, k0, k1, b0, b1⟩) (first
            | (go_at_call 84; refine (less_any y x _).mono ?_; rintro e w5 ⟨⟨r, rfl, hr⟩, hb5⟩; obtain rfl : r = true := hr.2 HLS.out; have HB5 := Lib.hid (HB1.out.trans hb5); have d0 := cell_below hb5 d0; have k0 := cell_below hb5 k0; have k1 := cell_below hb5 k1; have b0 := cell_below hb5 b0; have b1 := cell_below hb5 b1; clear hb5 hr))
            go_wp2_with fail
            refine (put_any (HO.out.hp.below (HBW.out.trans (HB5.out.mono HBW.out.size))) hql (by omega) y (HO.out.y_lt HC.out.2.2 HY.out) (by rw [HO.out.leng]; exact HN2.out)).mono ?_
            rintro e w6 ⟨rfl, hp6, hk6⟩
            have HP6 := Lib.hid hp6
            have HK6 := Lib.hid ((HK.out.trans (.of_below (HBW.out.trans (HB5.out.mono HBW.out.size)))).trans hk6)
            have HX6 := Lib.hid (hk6.cells (HX2.out.below (HBW.out.trans (HB5.out.mono HBW.out.size))) (fun h => by have := HBL.out _ h; omega))
            clear hp6 hk6
            go_wp2_with fail
            go_roundw
            case rel =>
              obtain ⟨ho', he'⟩ := HO.out.step HC.out.2.2 HY.out HP6.out
              refine ⟨c1, _, _, rfl, ho', ?_, HX6.out, HK6.out⟩
              rw [he']
              exact down_step HA2.out HC.out.1 HC.out.2.1 HO.out.at_ ((HO.out.other HC.out.2.2).trans HY.out) HLS.out HMIN.out
            case measure => simp [intOf]; omega
          · have HLS := Lib.hid hl
            clear hl
            have HD : Hid (HeapL (ys.set q x)) := Lib.hid (down_stop HA2.out HO.out.at_ (fun j z hj hp hz => leI_trans (leI_of_not HLS.out) (HMIN.out j z hj hp hz)))
            go_wp2_with fail
            go_region_held3 (fun w' => w'.cell? ⟨b, 0, none⟩ = some (.slice (some ⟨g, 0, none⟩) s c) ∧ w'.cell? ⟨g, c1 * 2, none⟩ = some (.int .u64 y.1) ∧ w'.cell? ⟨g, c1 * 2 + 1, none⟩ = some (.int .u32 (y.2 : Int)) ∧ w'.cell? ⟨w.heap.size, 0, none⟩ = some (.int .u64 x.1) ∧ w'.cell? ⟨w.heap.size, 1, none⟩ = some (.int .u32 (x.2 : Int))) (first | exact ⟨d0, k0, k1, b0, b1⟩) (first
            | (go_at_call 84; refine (less_any y x _).mono ?_; rintro e w5 ⟨⟨r, rfl, hr⟩, hb5⟩; obtain rfl : r = false := Bool.eq_false_iff.2 (fun h => HLS.out (hr.1 h)); have HB5 := Lib.hid (HB1.out.trans hb5); have d0 := cell_below hb5 d0; have k0 := cell_below hb5 k0; have k1 := cell_below hb5 k1; have b0 := cell_below hb5 b0; have b1 := cell_below hb5 b1; clear hb5 hr))
            go_wp2_with fail
            refine (put_any (HO.out.hp.below (HBW.out.trans (HB5.out.mono HBW.out.size))) hql (by omega) x HO.out.x_lt (by rw [HO.out.leng]; exact HN2.out)).mono ?_
            rintro e w7 ⟨rfl, hp7, hk7⟩
            have HP7 := Lib.hid hp7
            have HK7 := Lib.hid ((HK.out.trans (.of_below (HBW.out.trans (HB5.out.mono HBW.out.size)))).trans hk7)
            clear hp7 hk7
            go_wp2_with fail
            go_end0
            exact ⟨rfl, ⟨_, _, HP7.out, HO.out.good, by rw [List.length_set]; exact HO.out.len, by rw [List.length_set]; exact HO.out.leng, HD.out⟩, HK7.out⟩
end Go.Proofs.YtkcnnamghpdplaaDoor
/- A heap as a list of perhaps-keys; the calls that only look. -/
set_option linter.unusedSimpArgs false
set_option linter.unusedVariables false
namespace Go.Proofs.YtkcnnamghpdplaaDoor
open Go.RowKit

def Hp (w : World) (B b ga : Nat) (v : Value) (m : List (Option Int)) : Prop := ∃ xs ps, HP w B b ga v xs ps ∧ Good xs ps m ∧ HeapL xs ∧ m.length ≤ 65536
def Fresh (w : World) (v v' : Value) : Prop := ∀ k, v'.ownBlock = some k → v.ownBlock = some k ∨ w.heap.size ≤ k
/-- what a call leaves: another content, perhaps another row of things; nothing else has turned -/
def After (w : World) (B b ga : Nat) (v : Value) (m' : List (Option Int)) (w' : World) : Prop := ∃ v', Hp w' B b ga v' m' ∧ Kept (mine b ga v) w w' ∧ Fresh w v v'
theorem Fresh.refl (w : World) (v : Value) : Fresh w v v := fun k h => .inl h
theorem Hp.below {w w' : World} {B b ga : Nat} {v : Value} {m : List (Option Int)} (h : Hp w B b ga v m) (hb : Below w.heap.size w w') : Hp w' B b ga v m := by
  obtain ⟨xs, ps, h1, r⟩ := h
  exact ⟨xs, ps, h1.below hb, r⟩
theorem Hp.kept {w w' : World} {B b ga : Nat} {v : Value} {m : List (Option Int)} {S : Nat → Prop} (h : Hp w B b ga v m) (hk : Kept S w w') (hS : ∀ k, mine b ga v k → ¬ S k) : Hp w' B b ga v m := by
  obtain ⟨xs, ps, h1, r⟩ := h
  exact ⟨xs, ps, h1.kept hk hS, r⟩
theorem Hp.lt {w : World} {B b ga : Nat} {v : Value} {m : List (Option Int)} (h : Hp w B b ga v m) : ∀ k, mine b ga v k → B ≤ k ∧ k < w.heap.size := by
  obtain ⟨xs, ps, h1, r⟩ := h
  exact h1.lt
def lookH (m : List (Option Int)) (id : Nat) : Option Int := m.getD id none
def gotH : Option Int → Value
  | some v => .tuple #[.int .u64 v, .bool true]
  | none => .tuple #[.int .u64 0, .bool false]
theorem drawn_one (w : World) (n : Nat) : Drawn w (w.drewN n) := ⟨n, rfl⟩
section
variable {w : World} {B b ga : Nat} {v : Value} {xs : List It} {ps : List Nat} {m : List (Option Int)}
theorem check_in {n : Nat} (c1 : w.cell? ⟨b, 1, none⟩ = some (.slice (some ⟨ga, 0, none⟩) n n)) (hn : n ≤ 65536) {id : Nat} (hi : id < n) :
    Calls Tryd.prog 80 #[.pointer (some ⟨b, 0, none⟩), .int .u32 id] w fun e w' => e = .returned .nilIface ∧ w' = w := by
  have g1 : decide (n ≤ id) = false := decide_eq_false (by omega)
  have g2 : ¬ n ≤ id := by omega
  go_enter Tryd.func80, Tryd.ntmps80
  go_wp2_with fail
  go_ret
  exact ⟨rfl, rfl⟩
theorem check_out {n : Nat} (c1 : w.cell? ⟨b, 1, none⟩ = some (.slice (some ⟨ga, 0, none⟩) n n)) (hn : n ≤ 65536) {id : Nat} (hi : n ≤ id) (h1 : id ≤ 4294967295) :
    Calls Tryd.prog 80 #[.pointer (some ⟨b, 0, none⟩), .int .u32 id] w fun e w' => e = .returned (.iface 56 (.int .i64 7)) ∧ w' = w := by
  have g1 : decide (n ≤ id) = true := decide_eq_true hi
  go_enter Tryd.func80, Tryd.ntmps80
  go_wp2_with fail
  go_ret
  exact ⟨rfl, rfl⟩
theorem Key_any (h : Hp w B b ga v m) (id : Nat) (h1 : id ≤ 4294967295) :
    Calls Tryd.prog 74 #[.pointer (some ⟨b, 0, none⟩), .int .u32 id] w fun e w' => e = .returned (gotH (lookH m id)) ∧ Drawn w w' := by
  obtain ⟨xs, ps, hp, hg, hh, hm⟩ := h
  have hpl : ps.length ≤ 65536 := by rw [hg.len]; exact hm
  by_cases hi : id < ps.length
  · have hz := List.getElem?_eq_getElem hi
    generalize ps[id] = a at hz
    have c1 : w.cell? ⟨b, 1, none⟩ = some (.slice (some ⟨ga, 0, none⟩) ps.length ps.length) := hp.blk.cell 1
    have p0 := hp.place hz
    have C1 := Lib.hid c1
    have HPL := Lib.hid hpl
    rcases hg.bwd id a hz with ⟨rfl, hn⟩ | ⟨h0, x, hx, rfl⟩
    · have hl : lookH m id = none := by unfold lookH; rw [List.getD_eq_getElem?_getD, hn]; rfl
      rw [hl]
      clear hl hn hz hg hh hp
      go_enter Tryd.func74, Tryd.ntmps74
      go_wp2_with fail
      refine (check_in C1.out HPL.out hi).mono ?_
      rintro e w2 ⟨rfl, h⟩
      obtain rfl := h.symm
      clear h
      go_wp2_with (go_quiet (fail))
      go_ret2
      exact ⟨rfl, by first | exact Drawn.refl _ | exact drawn_one _ _⟩
    · have hl : lookH m x.2 = some x.1 := by unfold lookH; rw [List.getD_eq_getElem?_getD, (hg.fwd _ x hx).2]; rfl
      rw [hl]
      obtain ⟨g, c, rfl, hc, hbg, hgg, hgs⟩ := hp.slice (lt_of_get hx)
      have c0 : w.cell? ⟨b, 0, none⟩ = some (.slice (some ⟨g, 0, none⟩) xs.length c) := hp.blk.cell 0
      obtain ⟨r, rfl⟩ : ∃ r, a = r + 1 := ⟨a - 1, by omega⟩
      rw [Nat.add_sub_cancel] at hx
      obtain ⟨i0, i1⟩ := hp.item hx
      have hr := lt_of_get hx
      have hsm := hg.small
      have HPT := Lib.hid hp
      clear hl hz hg hh hp hx h0 hbg hgg
      generalize xs.length = s at *
      generalize ps.length = n at *
      go_enter Tryd.func74, Tryd.ntmps74
      go_wp2_with fail
      refine (check_in C1.out HPL.out hi).mono ?_
      rintro e w2 ⟨rfl, h⟩
      obtain rfl := h.symm
      clear h
      have hz1 : (((r + 1 : Nat) : Int) == 0) = false := by simp; omega
      have hw1 : IntKind.i64.wrap (((r + 1 : Nat) : Int) - 1) = (r : Int) := by rw [IntKind.wrap_i64]; omega
      have hw2 : IntKind.i64.wrap ((r : Int) + 1 - 1) = (r : Int) := by rw [IntKind.wrap_i64]; omega
      go_wp2_with (go_quiet (fail))
      go_ret2
      exact ⟨rfl, by first | exact Drawn.refl _ | exact drawn_one _ _⟩
  · have hl : lookH m id = none := by unfold lookH; rw [List.getD_eq_getElem?_getD, List.getElem?_eq_none (by rw [← hg.len]; omega)]; rfl
    rw [hl]
    have c1 : w.cell? ⟨b, 1, none⟩ = some (.slice (some ⟨ga, 0, none⟩) ps.length ps.length) := hp.blk.cell 1
    have C1 := Lib.hid c1
    have HPL := Lib.hid hpl
    have HI : Hid (ps.length ≤ id) := Lib.hid (by omega)
    clear hl hg hh hp
    go_enter Tryd.func74, Tryd.ntmps74
    go_wp2_with fail
    refine (check_out C1.out HPL.out HI.out h1).mono ?_
    rintro e w2 ⟨rfl, h⟩
    obtain rfl := h.symm
    clear h
    go_wp2_with (go_quiet (fail))
    go_ret2
    exact ⟨rfl, by first | exact Drawn.refl _ | exact drawn_one _ _⟩
/-- the least thing, if there is one -/
def IsTop (m : List (Option Int)) : Option It → Prop
  | none => ∀ j : Nat, lookH m j = none
  | some x => lookH m x.2 = some x.1 ∧ ∀ (j : Nat) (k : Int), lookH m j = some k → leI x (k, j)
def topV : Option It → Value
  | none => .tuple #[.int .u32 0, .int .u64 0, .bool false]
  | some x => .tuple #[.int .u32 (x.2 : Int), .int .u64 x.1, .bool true]
theorem Good.look (h : Good xs ps m) {j : Nat} {k : Int} (hl : lookH m j = some k) : ∃ i : Nat, xs[i]? = some (k, j) := by
  unfold lookH at hl
  rw [List.getD_eq_getElem?_getD] at hl
  have hm : m[j]? = some (some k) := by
    cases hx : m[j]? with
    | none => rw [hx] at hl; cases hl
    | some o => rw [hx] at hl; exact congrArg some hl
  have hj : j < ps.length := by rw [h.len]; exact lt_of_get hm
  rcases h.bwd j _ (List.getElem?_eq_getElem hj) with ⟨_, hn⟩ | ⟨h0, x, hx, rfl⟩
  · rw [hn] at hm; cases hm
  · have e := (h.fwd _ x hx).2
    rw [hm] at e
    obtain rfl := Option.some.inj (Option.some.inj e)
    exact ⟨_, hx⟩
theorem Good.look_at (h : Good xs ps m) {i : Nat} {x : It} (hx : xs[i]? = some x) : lookH m x.2 = some x.1 := by
  unfold lookH
  rw [List.getD_eq_getElem?_getD, (h.fwd i x hx).2]; rfl
theorem isTop_of (hg : Good xs ps m) (hh : HeapL xs) : IsTop m xs[0]? := by
  cases h0 : xs[0]? with
  | none =>
    intro j
    cases hl : lookH m j with
    | none => rfl
    | some k =>
      obtain ⟨i, hi⟩ := hg.look hl
      have := lt_of_get hi
      rw [List.getElem?_eq_none_iff] at h0
      omega
  | some x =>
    refine ⟨hg.look_at h0, fun j k hl => ?_⟩
    obtain ⟨i, hi⟩ := hg.look hl
    exact heap_min hh h0 i _ hi
theorem Top_any (h : Hp w B b ga v m) :
    Calls Tryd.prog 76 #[.pointer (some ⟨b, 0, none⟩)] w fun e w' => (∃ r, e = .returned (topV r) ∧ IsTop m r) ∧ Drawn w w' := by
  obtain ⟨xs, ps, hp, hg, hh, hm⟩ := h
  have HT := Lib.hid (isTop_of hg hh)
  cases h0 : xs[0]? with
  | none =>
    rw [h0] at HT
    have hnil : xs = [] := by rw [List.getElem?_eq_none_iff] at h0; exact List.length_eq_zero_iff.1 (by omega)
    subst hnil
    have hv : ∃ A c, v = .slice A 0 c := by
      rcases hp.own.2 with ⟨rfl, _⟩ | ⟨g, c, cur, rfl, _⟩
      · exact ⟨_, _, rfl⟩
      · exact ⟨_, _, rfl⟩
    obtain ⟨A, c, rfl⟩ := hv
    have c0 : w.cell? ⟨b, 0, none⟩ = some (.slice A 0 c) := hp.blk.cell 0
    clear hp hg hh h0
    go_enter Tryd.func76, Tryd.ntmps76
    go_wp2_with (go_quiet (fail))
    go_ret3
    exact ⟨⟨none, rfl, HT.out⟩, by first | exact Drawn.refl _ | exact drawn_one _ _⟩
  | some x =>
    rw [h0] at HT
    obtain ⟨g, c, rfl, hc, hbg, hgg, hgs⟩ := hp.slice (lt_of_get h0)
    have c0 : w.cell? ⟨b, 0, none⟩ = some (.slice (some ⟨g, 0, none⟩) xs.length c) := hp.blk.cell 0
    obtain ⟨i0, i1⟩ := hp.item h0
    rw [Nat.zero_mul] at i0 i1
    have hl := lt_of_get h0
    have hz : ((xs.length : Int) == 0) = false := by simp; intro e; rw [e] at hl; simp at hl
    have hsm := hg.small
    have hps : ps.length ≤ 65536 := by rw [hg.len]; exact hm
    have hsm2 : xs.length ≤ 65536 := by omega
    clear hp hg hh h0 hsm hps hbg hgg
    generalize xs.length = s at *
    go_enter Tryd.func76, Tryd.ntmps76
    go_wp2_with (go_quiet (fail))
    go_ret3
    exact ⟨⟨some x, rfl, HT.out⟩, by first | exact Drawn.refl _ | exact drawn_one _ _⟩
end
end Go.Proofs.YtkcnnamghpdplaaDoor
/- A thing is set to a key; pushed. -/
set_option linter.unusedSimpArgs false
set_option linter.unusedVariables false
namespace Go.Proofs.YtkcnnamghpdplaaDoor
open Go.RowKit

theorem encI_one : ∀ x, ∀ u ∈ encI x, u.oneCell' = true := fun x u h => by
  simp at h
  rcases h with rfl | rfl <;> rfl
theorem info_item : (Tryd.prog.info? 175).map (fun i => (i.zero, i.size, i.bytes)) = some (some (.agg #[.int .u64 0, .int .u32 0]), 2, 16) := by kernel_rfl
section
variable {w w' : World} {B b ga : Nat} {v : Value} {xs : List It} {ps : List Nat} {m : List (Option Int)}
/-- the end of Set: up, down -/
theorem After.of_down {w1 : World} (hk : Kept (mine b ga v) w w1) {zs : List It} {rs : List Nat} (h : HP w1 B b ga v zs rs) (hg : Good zs rs m) (hh : HeapL zs) (hm : m.length ≤ 65536) : After w B b ga v m w1 :=
  ⟨v, ⟨zs, rs, h, hg, hh, hm⟩, hk, Fresh.refl _ _⟩
theorem grown_kept {v : Value} (h : w.grownBy w' v.ownBlock) (b ga : Nat) : Kept (mine b ga v) w w' :=
  ⟨h.os, h.tape, h.output, h.size, fun k hk hn => h.block k hk (fun e => hn (.inr (.inr e.symm)))⟩
/-- a zero thing behind the others, in whichever row -/
theorem HP.longer {v' : Value} {z : It} (h : HP w B b ga v xs ps) (ho : Own 175 2 encI w' B v' (xs ++ [z])) (hg : w.grownBy w' v.ownBlock) (hv : v'.ownBlock = v.ownBlock ∨ v'.ownBlock = some w.heap.size) :
    HP (w'.setCell ⟨b, 0, none⟩ v') B b ga v' (xs ++ [z]) ps := by
  have hb : v'.ownBlock ≠ some b := by
    rcases hv with e | e
    · rw [e]; exact h.vb
    · rw [e]; intro e2; have := h.blk.lt; injection e2 with e2; omega
  have hga : v'.ownBlock ≠ some ga := by
    rcases hv with e | e
    · rw [e]; exact h.vg
    · rw [e]; intro e2; have := h.row.lt; injection e2 with e2; omega
  have hblk : Cells w' b #[v, .slice (some ⟨ga, 0, none⟩) ps.length ps.length] 169 := (hg.block b h.blk.lt h.vb.symm).trans h.blk
  have hrow : Cells w' ga (atA ps) 3 := (hg.block ga h.row.lt h.vg.symm).trans h.row
  refine ⟨?_, own_far2 ho (p := ⟨b, 0, none⟩) hb _, hrow.far (k := b) 0 v' h.ne.symm, h.lb, h.lg, h.ne, hb, hga⟩
  have e := hblk.set_ 0 v'
  simpa using e
end
theorem Set_in {w : World} {B b ga : Nat} {v : Value} {m : List (Option Int)} (h : Hp w B b ga v m) {id : Nat} (hi : id < m.length) (key : Int) (hB : B ≤ w.heap.size) :
    Calls Tryd.prog 75 #[.pointer (some ⟨b, 0, none⟩), .int .u32 id, .int .u64 key] w fun e w' => e = .returned .nilIface ∧ After w B b ga v (m.set id (some key)) w' := by
  obtain ⟨xs, ps, hp, hg, hh, hm⟩ := h
  have hpl : ps.length ≤ 65536 := by rw [hg.len]; exact hm
  have hil : id < ps.length := by rw [hg.len]; exact hi
  have hz := List.getElem?_eq_getElem hil
  generalize ps[id] = a at hz
  have c1 : w.cell? ⟨b, 1, none⟩ = some (.slice (some ⟨ga, 0, none⟩) ps.length ps.length) := hp.blk.cell 1
  have p0 := hp.place hz
  have HPT := Lib.hid hp
  have HG := Lib.hid hg
  have HH := Lib.hid hh
  have HM := Lib.hid hm
  have HPL := Lib.hid hpl
  have C1 := Lib.hid c1
  rcases hg.bwd id a hz with ⟨rfl, hn⟩ | ⟨h0, x, hx, rfl⟩
  · -- NEW
    have HZ := Lib.hid hz
    obtain ⟨A, c, rfl, hc, hcm⟩ := hp.own.form
    have c0 : w.cell? ⟨b, 0, none⟩ = some (.slice A xs.length c) := hp.blk.cell 0
    have hsm : xs.length ≤ 65536 := Nat.le_trans hg.small hpl
    have HOWN : Hid (Own 175 2 encI (w.alloc (.cells #[.int .u64 0, .int .u32 0] 175)) B (.slice A xs.length c) xs) := Lib.hid (hp.below ((Below.refl _ _).alloc (Nat.le_refl _) _)).own
    have HP3 : Hid (HP (w.alloc (.cells #[.int .u64 0, .int .u32 0] 175)) B b ga (.slice A xs.length c) xs ps) := Lib.hid (hp.below ((Below.refl _ _).alloc (Nat.le_refl _) _))
    have HRD : Hid (Rd 2 encI (w.alloc (.cells #[.int .u64 0, .int .u32 0] 175)) (some ⟨w.heap.size, 0, none⟩) 1 [((0, 0) : It)]) := Lib.hid (rd_new encI_len w _ [((0, 0) : It)])
    have HSM := Lib.hid hsm
    have hbs := hp.blk.lt
    clear hp hg hh hm hz hn
    go_enter Tryd.func75, Tryd.ntmps75
    go_wp2_with fail
    refine (check_in C1.out HPL.out hil).mono ?_
    rintro e w2 ⟨rfl, h⟩
    obtain rfl := h.symm
    clear h
    go_wp2_with (at_builtin; go_loud (refine wpList_append_rd rfl (.tmp 34) (.tmp 36) 167 rfl 175 (.agg #[.int .u64 0, .int .u32 0]) 16 Tryd.underlying167 info_item rfl (by omega) (by omega) encI_len encI_one B (.slice A xs.length c) xs rfl HOWN.out _ 1 1 [((0, 0) : It)] rfl HRD.out (by have := HSM.out; omega) (by simp; omega) ?_; intro v2 w2 ho2 hg2 hat2; have HP4 := Lib.hid (HP3.out.longer ho2 hg2 hat2); have HK4 : Hid (Kept (mine b ga (.slice A xs.length c)) w w2) := Lib.hid (((Kept.refl _ w).alloc _).trans (grown_kept hg2 b ga)); have HF4 : Hid (Fresh w (.slice A xs.length c) v2) := Lib.hid (fun k hk => by rcases hat2 with e | e; exact .inl (by rw [← e]; exact hk); exact .inr (by rw [e] at hk; injection hk with hk; rw [← hk]; simp)); have q0 : w2.cell? ⟨b, 0, none⟩ = some (.slice A xs.length c) := (World.cell?_of_block (hg2.block b HP3.out.blk.lt HP3.out.vb.symm)).trans (HP3.out.blk.cell 0); have q1 : w2.frozen? ⟨b, 0, none⟩ = false := (World.frozen?_of_block (hg2.block b HP3.out.blk.lt HP3.out.vb.symm)).trans (HP3.out.blk.frozen 0); obtain ⟨A2, c2, rfl, hc2, hm2⟩ := ho2.form; clear ho2 hg2 hat2))
    have hel : (xs ++ [((0, 0) : It)]).length = xs.length + 1 := by simp
    rw [hel] at HP4 HF4
    have HG5 := Lib.hid (good_push HG.out HZ.out key)
    have HSM2 : Hid (xs.length + 1 ≤ 65536) := Lib.hid (by have e := HG5.out.small; rw [List.length_append, List.length_set, List.length_singleton] at e; have := HPL.out; omega)
    refine (put_any HP4.out (i := xs.length) (by rw [hel]; omega) (by rw [hel]; exact HSM2.out) ((key, id) : It) hil HPL.out).mono ?_
    rintro e w5 ⟨rfl, hp5, hk5⟩
    have hes : (xs ++ [((0, 0) : It)]).set xs.length (key, id) = xs ++ [(key, id)] := by rw [List.set_append_right _ _ (Nat.le_refl _), Nat.sub_self]; rfl
    rw [hes] at hp5
    have HP5 := Lib.hid hp5
    have HS4 : Hid (∀ k, mine b ga (.slice A2 (xs.length + 1) c2) k → mine b ga (.slice A xs.length c) k ∨ w.heap.size ≤ k) := Lib.hid (fun k hk => by
      rcases hk with rfl | rfl | hk
      · exact .inl (.inl rfl)
      · exact .inl (.inr (.inl rfl))
      · exact (HF4.out k hk).imp (fun h => .inr (.inr h)) (fun h => h))
    have HK5 := Lib.hid ((HK4.out.set_ (p := ⟨b, 0, none⟩) (.inl (.inl rfl)) (.slice A2 (xs.length + 1) c2)).trans2 hk5 HS4.out)
    have HA5 := Lib.hid (heap_push HH.out ((key, id) : It))
    have HPL5 : Hid ((ps.set id (xs.length + 1)).length ≤ 65536) := Lib.hid (by rw [List.length_set]; exact HPL.out)
    have HS5 := HS4
    have HF5 := HF4
    clear hp5 hk5 hes hel
    have HX5 := Lib.hid (show (xs ++ [((key, id) : It)])[xs.length]? = some ((key, id) : It) from (by rw [List.getElem?_append_right (Nat.le_refl _), Nat.sub_self]; rfl))
    have HPM : Hid ((m.set id (some key)).length ≤ 65536) := Lib.hid (by rw [List.length_set]; exact HM.out)
    go_wp2_with fail
    refine (up_any HP5.out HG5.out HPL5.out HA5.out HX5.out).mono ?_
    rintro e w6 ⟨rfl, ⟨zs, rs, j, hp6, hg6, hzl, hrl, hzj, hdi⟩, hk6⟩
    have HP6 := Lib.hid hp6
    have HG6 := Lib.hid hg6
    have HK6 := Lib.hid (HK5.out.trans2 hk6 HS5.out)
    have HZJ := Lib.hid hzj
    have HDI := Lib.hid hdi
    have r0 := hp6.place (hg6.fwd j _ hzj).1
    have r1 : w6.cell? ⟨b, 1, none⟩ = some (.slice (some ⟨ga, 0, none⟩) rs.length rs.length) := hp6.blk.cell 1
    have hrid : id < rs.length := lt_of_get (hg6.fwd j _ hzj).1
    have HRL : Hid (rs.length ≤ 65536) := Lib.hid (by rw [hrl]; exact HPL5.out)
    have hjz : j ≤ 65536 := by have := lt_of_get hzj; have := hg6.small; have := HRL.out; omega
    clear hp6 hg6 hzl hrl hzj hdi hk6
    dsimp only at r0
    have hw1 : IntKind.i64.wrap (((j + 1 : Nat) : Int) - 1) = (j : Int) := by rw [IntKind.wrap_i64]; omega
    have hw2 : IntKind.i64.wrap ((j : Int) + 1 - 1) = (j : Int) := by rw [IntKind.wrap_i64]; omega
    go_wp2_with fail
    refine (down_any HP6.out HG6.out HRL.out HDI.out HZJ.out).mono ?_
    rintro e w7 ⟨rfl, ⟨zs', rs', hp7, hg7, hzl7, hrl7, hh7⟩, hk7⟩
    have HAF : Hid (After w B b ga (.slice A xs.length c) (m.set id (some key)) w7) := Lib.hid ⟨_, ⟨zs', rs', hp7, hg7, hh7, HPM.out⟩, HK6.out.trans2 hk7 HS5.out, HF5.out⟩
    clear hp7 hg7 hzl7 hrl7 hh7 hk7
    go_wp2_with fail
    go_ret
    exact ⟨rfl, HAF.out⟩
  · -- THERE
    obtain ⟨g, c, rfl, hc, hbg, hgg, hgs⟩ := hp.slice (lt_of_get hx)
    obtain ⟨i, rfl⟩ : ∃ i, a = i + 1 := ⟨a - 1, by omega⟩
    rw [Nat.add_sub_cancel] at hx
    obtain ⟨k0, id⟩ := x
    dsimp only at *
    have HX := Lib.hid hx
    have hsm : xs.length ≤ 65536 := Nat.le_trans hg.small hpl
    have hil2 := lt_of_get hx
    clear hp hg hh hm hx hbg hgg h0
    have hw1 : IntKind.i64.wrap (((i + 1 : Nat) : Int) - 1) = (i : Int) := by rw [IntKind.wrap_i64]; omega
    go_enter Tryd.func75, Tryd.ntmps75
    go_wp2_with fail
    refine (check_in C1.out HPL.out hil).mono ?_
    rintro e w2 ⟨rfl, h⟩
    obtain rfl := h.symm
    clear h
    go_wp2_with fail
    refine (put_any HPT.out (i := i) hil2 hsm ((key, id) : It) hil HPL.out).mono ?_
    rintro e w5 ⟨rfl, hp5, hk5⟩
    rw [set_self hz] at hp5
    have HP5 := Lib.hid hp5
    have HK5 := Lib.hid hk5
    have HG5 := Lib.hid (good_set HG.out HX.out key)
    have HA5 := Lib.hid (heap_set HH.out hil2 ((key, id) : It))
    have HPL5 := HPL
    have HS5 : Hid (∀ k, mine b ga (.slice (some ⟨g, 0, none⟩) xs.length c) k → mine b ga (.slice (some ⟨g, 0, none⟩) xs.length c) k ∨ w.heap.size ≤ k) := Lib.hid (fun k hk => .inl hk)
    have HF5 : Hid (Fresh w (.slice (some ⟨g, 0, none⟩) xs.length c) (.slice (some ⟨g, 0, none⟩) xs.length c)) := Lib.hid (Fresh.refl _ _)
    clear hp5 hk5 hw1
    have HX5 := Lib.hid (show (xs.set i ((key, id) : It))[i]? = some ((key, id) : It) from (by rw [get_set _ hil2, if_pos rfl]))
    have HPM : Hid ((m.set id (some key)).length ≤ 65536) := Lib.hid (by rw [List.length_set]; exact HM.out)
    go_wp2_with fail
    refine (up_any HP5.out HG5.out HPL5.out HA5.out HX5.out).mono ?_
    rintro e w6 ⟨rfl, ⟨zs, rs, j, hp6, hg6, hzl, hrl, hzj, hdi⟩, hk6⟩
    have HP6 := Lib.hid hp6
    have HG6 := Lib.hid hg6
    have HK6 := Lib.hid (HK5.out.trans2 hk6 HS5.out)
    have HZJ := Lib.hid hzj
    have HDI := Lib.hid hdi
    have r0 := hp6.place (hg6.fwd j _ hzj).1
    have r1 : w6.cell? ⟨b, 1, none⟩ = some (.slice (some ⟨ga, 0, none⟩) rs.length rs.length) := hp6.blk.cell 1
    have hrid : id < rs.length := lt_of_get (hg6.fwd j _ hzj).1
    have HRL : Hid (rs.length ≤ 65536) := Lib.hid (by rw [hrl]; exact HPL5.out)
    have hjz : j ≤ 65536 := by have := lt_of_get hzj; have := hg6.small; have := HRL.out; omega
    clear hp6 hg6 hzl hrl hzj hdi hk6
    dsimp only at r0
    have hw1 : IntKind.i64.wrap (((j + 1 : Nat) : Int) - 1) = (j : Int) := by rw [IntKind.wrap_i64]; omega
    have hw2 : IntKind.i64.wrap ((j : Int) + 1 - 1) = (j : Int) := by rw [IntKind.wrap_i64]; omega
    go_wp2_with fail
    refine (down_any HP6.out HG6.out HRL.out HDI.out HZJ.out).mono ?_
    rintro e w7 ⟨rfl, ⟨zs', rs', hp7, hg7, hzl7, hrl7, hh7⟩, hk7⟩
    have HAF : Hid (After w B b ga (.slice (some ⟨g, 0, none⟩) xs.length c) (m.set id (some key)) w7) := Lib.hid ⟨_, ⟨zs', rs', hp7, hg7, hh7, HPM.out⟩, HK6.out.trans2 hk7 HS5.out, HF5.out⟩
    clear hp7 hg7 hzl7 hrl7 hh7 hk7
    go_wp2_with fail
    go_ret
    exact ⟨rfl, HAF.out⟩
end Go.Proofs.YtkcnnamghpdplaaDoor
/- Pushed, removed, popped. -/
set_option linter.unusedSimpArgs false
set_option linter.unusedVariables false
namespace Go.Proofs.YtkcnnamghpdplaaDoor
open Go.RowKit

theorem take_flat : ∀ (xs : List It) (n : Nat), (xs.flatMap encI).take (n * 2) = (xs.take n).flatMap encI
  | [], n => by simp
  | x :: xs, 0 => by simp
  | x :: xs, n + 1 => by
    rw [List.flatMap_cons, List.take_succ_cons, List.flatMap_cons, ← take_flat xs n, show (n + 1) * 2 = n * 2 + 1 + 1 by omega]
    rfl
section
variable {w w' : World} {B b ga : Nat} {v : Value} {xs : List It} {ps : List Nat} {m : List (Option Int)}
theorem own_take {g c n : Nat} (h : Own 175 2 encI w B (.slice (some ⟨g, 0, none⟩) xs.length c) xs) (hn : n ≤ xs.length) : Own 175 2 encI w B (.slice (some ⟨g, 0, none⟩) n c) (xs.take n) := by
  have hl : (xs.take n).length = n := by rw [List.length_take]; omega
  unfold Own
  rw [hl]
  refine ⟨by rw [flat_len encI_len, hl], ?_⟩
  rcases h.2 with ⟨h0, _⟩ | ⟨g', cap, cur, hv, hg, hh, hnc, hm, hs, ht⟩
  · cases h0
  · simp only [Value.slice.injEq, Option.some.injEq, Addr.mk.injEq, and_true, true_and] at hv
    obtain ⟨rfl, rfl⟩ := hv
    refine .inr ⟨g, c, cur, rfl, hg, hh, by omega, hm, hs, ?_⟩
    rw [← take_flat, ← ht, List.take_take, Nat.min_eq_left (Nat.mul_le_mul_right _ hn)]
/-- the last thing is no longer there -/
theorem HP.shorter {g c n : Nat} (h : HP w B b ga (.slice (some ⟨g, 0, none⟩) xs.length c) xs ps) (hn : n ≤ xs.length) (id : Nat) :
    HP ((w.setCell ⟨b, 0, none⟩ (.slice (some ⟨g, 0, none⟩) n c)).setCell ⟨ga, id, none⟩ (.int .i64 0)) B b ga (.slice (some ⟨g, 0, none⟩) n c) (xs.take n) (ps.set id 0) := by
  have hb : b ≠ g := fun e => h.vb (by rw [e]; rfl)
  have hg : ga ≠ g := fun e => h.vg (by rw [e]; rfl)
  refine ⟨?_, ?_, ?_, h.lb, h.lg, h.ne, fun e => hb (by injection e with e; exact e.symm), fun e => hg (by injection e with e; exact e.symm)⟩
  · rw [List.length_set]
    have e := h.blk.set_ 0 (.slice (some ⟨g, 0, none⟩) n c)
    exact (by simpa using e : Cells (w.setCell ⟨b, 0, none⟩ (.slice (some ⟨g, 0, none⟩) n c)) b #[.slice (some ⟨g, 0, none⟩) n c, .slice (some ⟨ga, 0, none⟩) ps.length ps.length] 169).far _ _ h.ne
  · exact own_far2 (own_far2 (own_take h.own hn) (p := ⟨b, 0, none⟩) (fun e => hb (by injection e with e; exact e.symm)) _) (p := ⟨ga, id, none⟩) (fun e => hg (by injection e with e; exact e.symm)) _
  · have e := (h.row.far (k := b) 0 (.slice (some ⟨g, 0, none⟩) n c) h.ne.symm).set_ id (.int .i64 ((0 : Nat) : Int))
    rwa [atA_set] at e
end
def cId (n id : Nat) : Int := if id < n then 0 else 7
def errH7 (c : Int) : Value := if c = 0 then .nilIface else .iface 56 (.int .i64 c)
section
variable {w : World} {B b ga : Nat} {v : Value} {m : List (Option Int)}
theorem Set_any (h : Hp w B b ga v m) (id : Nat) (h1 : id ≤ 4294967295) (key : Int) (hB : B ≤ w.heap.size) :
    Calls Tryd.prog 75 #[.pointer (some ⟨b, 0, none⟩), .int .u32 id, .int .u64 key] w fun e w' => e = .returned (errH7 (cId m.length id)) ∧ After w B b ga v (m.set id (some key)) w' := by
  by_cases hi : id < m.length
  · have e : errH7 (cId m.length id) = .nilIface := by unfold cId errH7; rw [if_pos hi]; rfl
    rw [e]
    exact Set_in h hi key hB
  · have e : errH7 (cId m.length id) = .iface 56 (.int .i64 7) := by unfold cId errH7; rw [if_neg hi]; rfl
    rw [e, List.set_eq_of_length_le (by omega)]
    have HH := Lib.hid h
    obtain ⟨xs, ps, hp, hg, hh, hm⟩ := h
    have c1 : w.cell? ⟨b, 1, none⟩ = some (.slice (some ⟨ga, 0, none⟩) ps.length ps.length) := hp.blk.cell 1
    have C1 := Lib.hid c1
    have HI : Hid (ps.length ≤ id) := Lib.hid (by rw [hg.len]; omega)
    have HPL : Hid (ps.length ≤ 65536) := Lib.hid (by rw [hg.len]; exact hm)
    clear hp hg hh hm hi e
    go_enter Tryd.func75, Tryd.ntmps75
    go_wp2_with fail
    refine (check_out C1.out HPL.out HI.out h1).mono ?_
    rintro e w2 ⟨rfl, h⟩
    obtain rfl := h.symm
    clear h
    go_wp2_with fail
    go_ret
    exact ⟨rfl, _, HH.out, Kept.refl _ _, Fresh.refl _ _⟩
def pushM (m : List (Option Int)) (id : Nat) (key : Int) : List (Option Int) := match lookH m id with
  | some old => if old ≤ key then m else m.set id (some key)
  | none => m.set id (some key)
theorem pushM_len (m : List (Option Int)) (id : Nat) (key : Int) : (pushM m id key).length = m.length := by
  unfold pushM
  split
  · split <;> simp
  · simp
theorem look_lt {id : Nat} {k : Int} (h : lookH m id = some k) : id < m.length := by
  unfold lookH at h
  rw [List.getD_eq_getElem?_getD] at h
  cases hx : m[id]? with
  | none => rw [hx] at h; cases h
  | some o => exact lt_of_get hx
theorem Push_any (h : Hp w B b ga v m) (id : Nat) (h1 : id ≤ 4294967295) (key : Int) (hB : B ≤ w.heap.size) :
    Calls Tryd.prog 62 #[.pointer (some ⟨b, 0, none⟩), .int .u32 id, .int .u64 key] w fun e w' => e = .returned (errH7 (cId m.length id)) ∧ After w B b ga v (pushM m id key) w' := by
  have HH := Lib.hid h
  clear h
  cases hl : lookH m id with
  | none =>
    have HL := Lib.hid hl
    rw [show pushM m id key = m.set id (some key) by unfold pushM; rw [hl]]
    clear hl
    go_enter Tryd.func62, Tryd.ntmps62
    go_wp2_with fail
    refine (Key_any HH.out id h1).mono ?_
    rintro e w2 ⟨rfl, hd⟩
    rw [HL.out]
    simp only [gotH]
    have HD := Lib.hid hd
    have HH2 := Lib.hid (HH.out.below (hd.below _))
    clear hd
    go_wp2_with fail
    refine (Set_any HH2.out id h1 key (Nat.le_trans hB (HD.out.below w.heap.size).size)).mono ?_
    rintro e w3 ⟨rfl, v', h3, hk3, hf3⟩
    have HA : Hid (After w B b ga v (m.set id (some key)) w3) := Lib.hid ⟨v', h3, (Kept.of_below (HD.out.below _)).trans hk3, fun k hk => (hf3 k hk).imp (fun x => x) (fun x => Nat.le_trans (HD.out.below w.heap.size).size x)⟩
    clear h3 hk3 hf3
    go_wp2_with fail
    go_ret
    exact ⟨rfl, HA.out⟩
  | some old =>
    have HL := Lib.hid hl
    clear hl
    by_cases ho : old ≤ key
    · have g1 : decide (old ≤ key) = true := decide_eq_true ho
      rw [show pushM m id key = m by unfold pushM; rw [HL.out]; exact if_pos ho]
      have HO := Lib.hid ho
      clear ho
      go_enter Tryd.func62, Tryd.ntmps62
      go_wp2_with fail
      refine (Key_any HH.out id h1).mono ?_
      rintro e w2 ⟨rfl, hd⟩
      rw [HL.out]
      simp only [gotH]
      have HD := Lib.hid hd
      have HH2 := Lib.hid (HH.out.below (hd.below _))
      clear hd
      go_wp2_with fail
      go_ret
      exact ⟨by unfold cId errH7; rw [if_pos (look_lt HL.out)]; rfl, ⟨v, HH2.out, .of_below (HD.out.below _), Fresh.refl _ _⟩⟩
    · have g1 : decide (old ≤ key) = false := decide_eq_false ho
      rw [show pushM m id key = m.set id (some key) by unfold pushM; rw [HL.out]; exact if_neg ho]
      have HO := Lib.hid ho
      clear ho
      go_enter Tryd.func62, Tryd.ntmps62
      go_wp2_with fail
      refine (Key_any HH.out id h1).mono ?_
      rintro e w2 ⟨rfl, hd⟩
      rw [HL.out]
      simp only [gotH]
      have HD := Lib.hid hd
      have HH2 := Lib.hid (HH.out.below (hd.below _))
      clear hd
      go_wp2_with fail
      refine (Set_any HH2.out id h1 key (Nat.le_trans hB (HD.out.below w.heap.size).size)).mono ?_
      rintro e w3 ⟨rfl, v', h3, hk3, hf3⟩
      have HA : Hid (After w B b ga v (m.set id (some key)) w3) := Lib.hid ⟨v', h3, (Kept.of_below (HD.out.below _)).trans hk3, fun k hk => (hf3 k hk).imp (fun x => x) (fun x => Nat.le_trans (HD.out.below w.heap.size).size x)⟩
      clear h3 hk3 hf3
      go_wp2_with fail
      go_ret
      exact ⟨rfl, HA.out⟩
end
end Go.Proofs.YtkcnnamghpdplaaDoor
/- Removed, popped; a new heap. -/
set_option linter.unusedSimpArgs false
set_option linter.unusedVariables false
namespace Go.Proofs.YtkcnnamghpdplaaDoor
open Go.RowKit

theorem set_none {m : List (Option Int)} {id : Nat} (h : lookH m id = none) : m.set id none = m := by
  by_cases hi : id < m.length
  · refine set_self ?_
    unfold lookH at h
    rw [List.getD_eq_getElem?_getD, List.getElem?_eq_getElem hi] at h
    rw [List.getElem?_eq_getElem hi]
    exact congrArg some h
  · exact List.set_eq_of_length_le (by omega)
section
variable {w : World} {B b ga : Nat} {v : Value} {m : List (Option Int)}
theorem Remove_none (h : Hp w B b ga v m) (id : Nat) (h1 : id ≤ 4294967295) (hl : lookH m id = none) :
    Calls Tryd.prog 77 #[.pointer (some ⟨b, 0, none⟩), .int .u32 id] w fun e w' => e = .returned (.bool false) ∧ Drawn w w' := by
  have HH := Lib.hid h
  have HL := Lib.hid hl
  clear h hl
  go_enter Tryd.func77, Tryd.ntmps77
  go_wp2_with fail
  refine (Key_any HH.out id h1).mono ?_
  rintro e w2 ⟨rfl, hd⟩
  rw [HL.out]
  simp only [gotH]
  have HD := Lib.hid hd
  clear hd
  go_wp2_with fail
  go_ret
  exact ⟨rfl, HD.out⟩
set_option maxRecDepth 100000 in
set_option maxHeartbeats 4000000 in
theorem Remove_some (h : Hp w B b ga v m) (id : Nat) (h1 : id ≤ 4294967295) {old : Int} (hl : lookH m id = some old) :
    Calls Tryd.prog 77 #[.pointer (some ⟨b, 0, none⟩), .int .u32 id] w fun e w' => e = .returned (.bool true) ∧ After w B b ga v (m.set id none) w' := by
  have HH := Lib.hid h
  obtain ⟨xs, ps, hp, hg, hh, hm⟩ := h
  obtain ⟨i, hx⟩ := hg.look hl
  have hil := lt_of_get hx
  obtain ⟨g, c, rfl, hc, hbg, hgg, hgs⟩ := hp.slice hil
  have HL := Lib.hid hl
  have hpl : ps.length ≤ 65536 := by rw [hg.len]; exact hm
  have hsm : xs.length ≤ 65536 := Nat.le_trans hg.small hpl
  have HP0 := Lib.hid hp
  have HG := Lib.hid hg
  have HHE := Lib.hid hh
  have HX := Lib.hid hx
  have HPL := Lib.hid hpl
  have hidl : id < ps.length := hg.id_lt hx
  have HID := Lib.hid hidl
  have hps := (hg.fwd i _ hx).1
  have HPS := Lib.hid hps
  obtain ⟨n, hn⟩ : ∃ n, xs.length = n + 1 := ⟨xs.length - 1, by omega⟩
  have HN := Lib.hid hn
  have hy := List.getElem?_eq_getElem (show n < xs.length by omega)
  generalize xs[n] = y at hy
  have HY := Lib.hid hy
  have hbs := hp.blk.lt
  have hgas := hp.row.lt
  clear hp hg hh hm hx hl hy hps
  go_enter Tryd.func77, Tryd.ntmps77
  go_wp2_with fail
  refine (Key_any HH.out id h1).mono ?_
  rintro e w2 ⟨rfl, hd⟩
  rw [HL.out]
  simp only [gotH]
  have HD := Lib.hid hd
  have HP2 := Lib.hid (HP0.out.below (hd.below _))
  have hbs2 : b < w2.heap.size := HP2.out.blk.lt
  have hgas2 : ga < w2.heap.size := HP2.out.row.lt
  have hgs2 : g < w2.heap.size := Nat.lt_of_lt_of_le hgs (hd.below w.heap.size).size
  have c0 : w2.cell? ⟨b, 0, none⟩ = some (.slice (some ⟨g, 0, none⟩) xs.length c) := HP2.out.blk.cell 0
  have c1 : w2.cell? ⟨b, 1, none⟩ = some (.slice (some ⟨ga, 0, none⟩) ps.length ps.length) := HP2.out.blk.cell 1
  have bf : w2.frozen? ⟨b, 0, none⟩ = false := HP2.out.blk.frozen 0
  have p0 : w2.cell? ⟨ga, id, none⟩ = some (.int .i64 ((i + 1 : Nat) : Int)) := HP2.out.place HPS.out
  have pf : w2.frozen? ⟨ga, id, none⟩ = false := HP2.out.row.frozen id
  obtain ⟨i0, i1⟩ := HP2.out.item HY.out
  clear hd
  rw [hn] at c0 hc hsm hil
  clear hn
  generalize hpn : ps.length = pn at *
  have HPN := Lib.hid hpn
  clear hpn
  have n1 : ¬ b = ga := HP2.out.ne
  have n2 : ¬ ga = b := fun e => HP2.out.ne e.symm
  have n3 : ¬ b = g := hbg
  have n4 : ¬ g = b := fun e => hbg e.symm
  have n5 : ¬ ga = g := hgg
  have n6 : ¬ g = ga := fun e => hgg e.symm
  clear hbg hgg
  have hw1 : IntKind.i64.wrap (((i + 1 : Nat) : Int) - 1) = (i : Int) := by rw [IntKind.wrap_i64]; omega
  have hw2 : IntKind.i64.wrap ((i : Int) + 1 - 1) = (i : Int) := by rw [IntKind.wrap_i64]; omega
  have hw3 : IntKind.i64.wrap (((n + 1 : Nat) : Int) - 1) = (n : Int) := by rw [IntKind.wrap_i64]; omega
  have hw4 : IntKind.i64.wrap ((n : Int) + 1 - 1) = (n : Int) := by rw [IntKind.wrap_i64]; omega
  go_wp2_with fail
  go_quiet (fail)
  have HB3 : Hid (Below w2.heap.size w2 (w2.drewN nq)) := Lib.hid ⟨rfl, rfl, rfl, Nat.le_refl _, fun _ _ => rfl⟩
  generalize w2.drewN nq = w3 at *
  have HP3 := Lib.hid (HP2.out.below HB3.out)
  have HKK : Hid (Kept (mine b ga (.slice (some ⟨g, 0, none⟩) xs.length c)) w w3) := Lib.hid ((Kept.of_below (HD.out.below _)).trans (.of_below HB3.out))
  clear c0 c1 p0 pf bf i0 i1 hbs2 hgas2 hgs2 hw1 hw2 hw3 hw4
  have hbs3 : b < w3.heap.size := HP3.out.blk.lt
  have hgas3 : ga < w3.heap.size := HP3.out.row.lt
  have hgs3 : g < w3.heap.size := Nat.lt_of_lt_of_le hgs HKK.out.size
  have c0 : w3.cell? ⟨b, 0, none⟩ = some (.slice (some ⟨g, 0, none⟩) (n + 1) c) := by have e := HP3.out.blk.cell 0; rw [HN.out] at e; exact e
  have c1 : w3.cell? ⟨b, 1, none⟩ = some (.slice (some ⟨ga, 0, none⟩) pn pn) := by have e := HP3.out.blk.cell 1; rw [HPN.out] at e; exact e
  have bf : w3.frozen? ⟨b, 0, none⟩ = false := HP3.out.blk.frozen 0
  have p0 : w3.cell? ⟨ga, id, none⟩ = some (.int .i64 ((i + 1 : Nat) : Int)) := HP3.out.place HPS.out
  have pf : w3.frozen? ⟨ga, id, none⟩ = false := HP3.out.row.frozen id
  obtain ⟨i0, i1⟩ := HP3.out.item HY.out
  by_cases hin : i < n
  · have g1 : decide (i < n) = true := decide_eq_true hin
    have g2 : decide ((i : Int) < (n : Int)) = true := decide_eq_true (by omega)
    go_wp2_with fail
    have hnl : n ≤ xs.length := by rw [HN.out]; omega
    have htl : (xs.take n).length = n := by rw [List.length_take]; omega
    have hyl : y.2 < ps.length := HG.out.id_lt HY.out
    have HP4 := Lib.hid ((HP3.out.shorter hnl id).below ((Below.refl _ _).alloc (Nat.le_refl _) (.cells #[.int .u64 y.1, .int .u32 (y.2 : Int)] 175)))
    have HX4 : Hid (Cells (((w3.setCell ⟨b, 0, none⟩ (.slice (some ⟨g, 0, none⟩) n c)).setCell ⟨ga, id, none⟩ (.int .i64 0)).alloc (.cells #[.int .u64 y.1, .int .u32 (y.2 : Int)] 175)) w3.heap.size #[.int .u64 y.1, .int .u32 (y.2 : Int)] 175) := Lib.hid (by
      have e := cells_new ((w3.setCell ⟨b, 0, none⟩ (.slice (some ⟨g, 0, none⟩) n c)).setCell ⟨ga, id, none⟩ (.int .i64 0)) #[.int .u64 y.1, .int .u32 (y.2 : Int)] 175
      rwa [show ((w3.setCell ⟨b, 0, none⟩ (.slice (some ⟨g, 0, none⟩) n c)).setCell ⟨ga, id, none⟩ (.int .i64 0)).heap.size = w3.heap.size by simp] at e)
    have HK4 : Hid (Kept (mine b ga (.slice (some ⟨g, 0, none⟩) xs.length c)) w (((w3.setCell ⟨b, 0, none⟩ (.slice (some ⟨g, 0, none⟩) n c)).setCell ⟨ga, id, none⟩ (.int .i64 0)).alloc (.cells #[.int .u64 y.1, .int .u32 (y.2 : Int)] 175))) := Lib.hid (((HKK.out.set_ (p := ⟨b, 0, none⟩) (.inl (.inl rfl)) _).set_ (p := ⟨ga, id, none⟩) (.inl (.inr (.inl rfl))) _).alloc _)
    have HSS : Hid (∀ k, mine b ga (.slice (some ⟨g, 0, none⟩) n c) k → mine b ga (.slice (some ⟨g, 0, none⟩) xs.length c) k ∨ w.heap.size ≤ k) := Lib.hid (fun k hk => .inl hk)
    have HNM : Hid (¬ mine b ga (.slice (some ⟨g, 0, none⟩) n c) w3.heap.size) := Lib.hid (fun hk => by
      rcases hk with e | e | e
      · omega
      · omega
      · exact absurd (Option.some.inj e) (by show ¬ g = w3.heap.size; omega))
    have HGM := Lib.hid (good_mid HG.out HN.out hin HX.out HY.out)
    have HAL := Lib.hid (heap_set (heap_take HHE.out n) (show i < (xs.take n).length by omega) y)
    have HZI : Hid (((xs.take n).set i y)[i]? = some y) := Lib.hid (by rw [get_set _ (by omega), if_pos rfl])
    refine (put_any HP4.out (i := i) (by omega) (by omega) y (by rw [List.length_set]; exact hyl) (by rw [List.length_set, HPN.out]; exact hpl)).mono ?_
    rintro e w5 ⟨rfl, hp5, hk5⟩
    have HP5 := Lib.hid hp5
    have HK5 := Lib.hid (HK4.out.trans2 hk5 HSS.out)
    have HX5 := Lib.hid (hk5.cells HX4.out HNM.out)
    clear hp5 hk5
    have HPL5 : Hid (((ps.set id 0).set y.2 (i + 1)).length ≤ 65536) := Lib.hid (by rw [List.length_set, List.length_set, HPN.out]; exact hpl)
    go_wp2_with fail
    refine (up_any HP5.out HGM.out HPL5.out HAL.out HZI.out).mono ?_
    rintro e w6 ⟨rfl, ⟨zs, rs, j, hp6, hg6, hzl, hrl, hzj, hdi⟩, hk6⟩
    have HP6 := Lib.hid (hp6.below (Below.refl _ _).drew)
    have HG6 := Lib.hid hg6
    have HK6 := Lib.hid ((HK5.out.trans2 hk6 HSS.out).trans (.of_below (Below.refl _ _).drew))
    have HZJ := Lib.hid hzj
    have HDI := Lib.hid hdi
    have r0 : w6.cell? ⟨ga, y.2, none⟩ = some (.int .i64 ((j : Int) + 1)) := hp6.place (hg6.fwd j _ hzj).1
    have r1 : w6.cell? ⟨b, 1, none⟩ = some (.slice (some ⟨ga, 0, none⟩) rs.length rs.length) := hp6.blk.cell 1
    have r2 : w6.cell? ⟨w3.heap.size, 1, none⟩ = some (.int .u32 (y.2 : Int)) := (hk6.cells HX5.out HNM.out).cell 1
    have hrid : y.2 < rs.length := lt_of_get (hg6.fwd j _ hzj).1
    have HRL : Hid (rs.length ≤ 65536) := Lib.hid (by rw [hrl]; exact HPL5.out)
    have hjz : j ≤ 65536 := by have := lt_of_get hzj; have := hg6.small; have := HRL.out; omega
    have hrl2 := HRL.out
    have HPM : Hid ((m.set id none).length ≤ 65536) := Lib.hid (by rw [← hg6.len]; exact HRL.out)
    clear hp6 hg6 hzl hrl hzj hdi hk6 hnl htl hyl
    have hw1 : IntKind.i64.wrap (((j + 1 : Nat) : Int) - 1) = (j : Int) := by rw [IntKind.wrap_i64]; omega
    have hw2 : IntKind.i64.wrap ((j : Int) + 1 - 1) = (j : Int) := by rw [IntKind.wrap_i64]; omega
    go_wp2_with fail
    clear i0 i1 c0 c1 bf p0 pf n1 n2 n3 n4 n5 n6 g1 g2 hbs hgas hbs3 hgas3 hgs3 hgs
    go_still_tail 10, (by kernel_rfl)
    change wpList _ _ _ _ _ w6.drew
    generalize w6.drew = w7 at *
    clear r0 r1 r2 hw1 hw2
    go_wp2_with fail
    refine (down_any HP6.out HG6.out HRL.out HDI.out HZJ.out).mono ?_
    rintro e w8 ⟨rfl, ⟨zs', rs', hp7, hg7, hzl7, hrl7, hh7⟩, hk7⟩
    have HAF : Hid (After w B b ga (.slice (some ⟨g, 0, none⟩) xs.length c) (m.set id none) w8) := Lib.hid ⟨_, ⟨zs', rs', hp7, hg7, hh7, HPM.out⟩, HK6.out.trans2 hk7 HSS.out, fun k hk => .inl hk⟩
    clear hp7 hg7 hzl7 hrl7 hh7 hk7
    go_wp2_with fail
    go_ret
    exact ⟨rfl, HAF.out⟩
  · obtain rfl : i = n := by omega
    have hyx : y = (old, id) := Option.some.inj (HY.out.symm.trans HX.out)
    subst hyx
    have g1 : decide (i < i) = false := decide_eq_false hin
    have g2 : decide ((i : Int) < (i : Int)) = false := decide_eq_false (by omega)
    have hnl : i ≤ xs.length := by rw [HN.out]; omega
    have HP4 := Lib.hid ((HP3.out.shorter hnl id).below ((Below.refl _ _).alloc (Nat.le_refl _) (.cells #[.int .u64 old, .int .u32 (id : Int)] 175)))
    have HK4 : Hid (Kept (mine b ga (.slice (some ⟨g, 0, none⟩) xs.length c)) w (((w3.setCell ⟨b, 0, none⟩ (.slice (some ⟨g, 0, none⟩) i c)).setCell ⟨ga, id, none⟩ (.int .i64 0)).alloc (.cells #[.int .u64 old, .int .u32 (id : Int)] 175))) := Lib.hid (((HKK.out.set_ (p := ⟨b, 0, none⟩) (.inl (.inl rfl)) _).set_ (p := ⟨ga, id, none⟩) (.inl (.inr (.inl rfl))) _).alloc _)
    have HGM := Lib.hid (good_last HG.out HN.out HX.out)
    have HPM : Hid ((m.set id none).length ≤ 65536) := Lib.hid (by rw [List.length_set, ← HG.out.len, HPN.out]; exact hpl)
    have HAF : Hid (After w B b ga (.slice (some ⟨g, 0, none⟩) xs.length c) (m.set id none) (((w3.setCell ⟨b, 0, none⟩ (.slice (some ⟨g, 0, none⟩) i c)).setCell ⟨ga, id, none⟩ (.int .i64 0)).alloc (.cells #[.int .u64 old, .int .u32 (id : Int)] 175))) := Lib.hid ⟨_, ⟨_, _, HP4.out, HGM.out, heap_take HHE.out i, HPM.out⟩, HK4.out, fun k hk => .inl hk⟩
    dsimp only at i0 i1
    clear hin hnl
    go_wp2_with fail
    go_ret
    exact ⟨rfl, HAF.out⟩
/-- what is left when the least thing goes -/
def popM (m : List (Option Int)) : Option It → List (Option Int)
  | none => m
  | some x => m.set x.2 none
theorem popM_len (m : List (Option Int)) (r : Option It) : (popM m r).length = m.length := by cases r <;> simp [popM]
theorem Pop_any (h : Hp w B b ga v m) :
    Calls Tryd.prog 63 #[.pointer (some ⟨b, 0, none⟩)] w fun e w' => ∃ r, (e = .returned (topV r) ∧ IsTop m r) ∧ After w B b ga v (popM m r) w' := by
  have HH := Lib.hid h
  have hlen : m.length ≤ 65536 := by obtain ⟨xs, ps, hp, hg, hh, hm⟩ := h; exact hm
  clear h
  go_enter Tryd.func63, Tryd.ntmps63
  go_wp2_with fail
  refine (Top_any HH.out).mono ?_
  rintro e w2 ⟨⟨r, rfl, ht⟩, hd⟩
  have HT := Lib.hid ht
  have HD := Lib.hid hd
  have HH2 := Lib.hid (HH.out.below (hd.below _))
  clear ht hd
  cases r with
  | none =>
    simp only [topV]
    go_wp2_with fail
    go_ret3
    exact ⟨none, ⟨rfl, HT.out⟩, v, HH2.out, .of_below (HD.out.below _), Fresh.refl _ _⟩
  | some x =>
    simp only [topV]
    have hxl : x.2 ≤ 4294967295 := by have := look_lt HT.out.1; omega
    go_wp2_with fail
    refine (Remove_some HH2.out x.2 hxl HT.out.1).mono ?_
    rintro e w3 ⟨rfl, v', h3, hk3, hf3⟩
    have HA : Hid (After w B b ga v (m.set x.2 none) w3) := Lib.hid ⟨v', h3, (Kept.of_below (HD.out.below _)).trans hk3, fun k hk => (hf3 k hk).imp (fun x => x) (fun x => Nat.le_trans (HD.out.below w.heap.size).size x)⟩
    clear h3 hk3 hf3
    go_wp2_with fail
    go_ret3
    exact ⟨some x, ⟨rfl, HT.out⟩, HA.out⟩
end
end Go.Proofs.YtkcnnamghpdplaaDoor
/- A new heap; the law's own example. -/
set_option linter.unusedSimpArgs false
set_option linter.unusedVariables false
namespace Go.Proofs.YtkcnnamghpdplaaDoor
open Go.RowKit

def noneH (n : Nat) : List (Option Int) := List.replicate n none
theorem made_ats (n : Nat) : madeCells #[Value.int .i64 0] n = atA (List.replicate n 0) := by
  apply Array.toList_inj.1
  rw [toList_madeCells_one]
  simp [atA]
theorem info_i64 : (Tryd.prog.info? 3).map (fun i => (i.zero, i.size, i.bytes)) = some (some (.int .i64 0), 1, 8) := by kernel_rfl
theorem New_ok (n : Nat) (w : World) (hn : n ≤ 65536) (B : Nat) (hB : B ≤ w.heap.size) :
    Calls Tryd.prog 61 #[.int .i64 n] w fun e w' => ∃ b ga, e = .returned (.tuple #[.pointer (some ⟨b, 0, none⟩), .nilIface]) ∧
      Hp w' B b ga (.slice none 0 0) (noneH n) ∧ Below w.heap.size w w' ∧ w.heap.size ≤ b ∧ w.heap.size ≤ ga := by
  have hmk : ∀ W : World, (Instr.makeSlice 85 (.int .i64 (n : Int)) (.int .i64 (n : Int))).run Tryd.prog W = .ok (.slice (some ⟨W.heap.size, 0, none⟩) n n) (W.alloc (.cells (atA (List.replicate n 0)) 3)) := fun W => by
    obtain ⟨i, hi, hz0, hz1, hz2⟩ := info_parts info_i64
    have h := run_make (P := Tryd.prog) W 85 3 i _ Tryd.underlying85 hi hz0 .i64 .i64 (n : Int) (n : Int) (by omega) (by omega) (by rw [hz2]; omega) (by omega)
    rw [h, hz1, Nat.mul_one, Int.toNat_natCast]
    exact congrArg (fun c => Result.ok (Value.slice (some ⟨W.heap.size, 0, none⟩) n n) (W.alloc (.cells c 3))) (made_ats n)
  have g1 : decide ((n : Int) < 0) = false := decide_eq_false (by omega)
  have g2 : decide ((65536 : Int) < (n : Int)) = false := decide_eq_false (by omega)
  have g3 : decide (65536 < n) = false := decide_eq_false (by omega)
  go_enter Tryd.func61, Tryd.ntmps61
  go_wp2_with fail
  go_ret2
  refine ⟨w.heap.size + 1, w.heap.size, rfl, ⟨[], List.replicate n 0, ⟨?_, Own.nil _ _ _ _ _, ?_, by omega, hB, by omega, (fun e => by cases e), (fun e => by cases e)⟩, good_new n, heap_nil, by simp [noneH]; exact hn⟩, ((Below.refl _ w).alloc (Nat.le_refl _) _).alloc (by simp) _, by omega, Nat.le_refl _⟩
  · have e := cells_new (w.alloc (.cells (atA (List.replicate n 0)) 3)) #[.slice none 0 0, .slice (some ⟨w.heap.size, 0, none⟩) n n] 169
    rw [size_alloc] at e
    simpa using e
  · exact (cells_new w (atA (List.replicate n 0)) 3).below ((Below.refl _ _).alloc (Nat.le_refl _) _)
theorem top_unique {m : List (Option Int)} {r r' : Option It} (h : IsTop m r) (h' : IsTop m r') : r = r' := by
  cases r with
  | none =>
    cases r' with
    | none => rfl
    | some x => have := h x.2; rw [h'.1] at this; cases this
  | some x =>
    cases r' with
    | none => have := h' x.2; rw [h.1] at this; cases this
    | some y =>
      have h1 := h.2 y.2 y.1 h'.1
      have h2 := h'.2 x.2 x.1 h.1
      obtain ⟨a, b⟩ := x
      obtain ⟨c, d⟩ := y
      unfold leI at h1 h2
      simp only [] at h1 h2
      have e1 : a = c := by omega
      have e2 : b = d := by omega
      rw [e1, e2]
theorem top_one : IsTop [some 5, some 4, some 5] (some ((4, 1) : It)) := by
  refine ⟨rfl, fun j k h => ?_⟩
  have hj := look_lt h
  have hj' : j = 0 ∨ j = 1 ∨ j = 2 := by simp at hj; omega
  unfold leI
  rcases hj' with rfl | rfl | rfl <;> (simp [lookH] at h; subst h; simp)
theorem top_two : IsTop [some 5, none, some 5] (some ((5, 0) : It)) := by
  refine ⟨rfl, fun j k h => ?_⟩
  have hj := look_lt h
  have hj' : j = 0 ∨ j = 1 ∨ j = 2 := by simp at hj; omega
  unfold leI
  rcases hj' with rfl | rfl | rfl <;> (simp [lookH] at h; try subst h; try simp)
/-- what two calls leave, one behind the other -/
theorem After.trans {w w' w'' : World} {B b ga : Nat} {v v' : Value} {m' : List (Option Int)} (hk : Kept (mine b ga v) w w') (hf : Fresh w v v') (h : After w' B b ga v' m' w'') : After w B b ga v m' w'' := by
  obtain ⟨v2, h2, hk2, hf2⟩ := h
  refine ⟨v2, h2, hk.trans2 hk2 (fun k hk' => ?_), fun k hk' => ?_⟩
  · rcases hk' with rfl | rfl | e
    · exact .inl (.inl rfl)
    · exact .inl (.inr (.inl rfl))
    · exact (hf k e).imp (fun x => .inr (.inr x)) (fun x => x)
  · rcases hf2 k hk' with e | e
    · exact hf k e
    · exact .inr (Nat.le_trans hk.size e)
end Go.Proofs.YtkcnnamghpdplaaDoor
