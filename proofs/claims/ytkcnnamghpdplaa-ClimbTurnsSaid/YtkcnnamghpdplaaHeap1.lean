/- What a heap is in memory; two things compared; a thing put at a place. -/
import Derived.Test.YtkcnnamghpdplaaHeapM
import Derived.Test.YtkcnnamghpdplaaCells
set_option linter.unusedSimpArgs false
set_option linter.unusedVariables false
namespace Go.Proofs.Ytkcnnamghpdplaa
open Go.RowKit

abbrev encI (x : It) : List Value := [.int .u64 x.1, .int .u32 (x.2 : Int)]
theorem encI_len : ∀ x, (encI x).length = 2 := fun _ => rfl
abbrev itemV (x : It) : Value := .agg #[.int .u64 x.1, .int .u32 (x.2 : Int)]
def atA (ps : List Nat) : Array Value := (ps.map fun a : Nat => Value.int .i64 (a : Int)).toArray
theorem atA_at {ps : List Nat} {j a : Nat} (h : ps[j]? = some a) : (atA ps)[j]? = some (.int .i64 a) := by simp [atA, h]
theorem atA_set (ps : List Nat) (j a : Nat) : (atA ps).setIfInBounds j (.int .i64 (a : Int)) = atA (ps.set j a) := by
  apply Array.ext'
  simp [atA, List.map_set]
theorem flat_put : ∀ (l : List It) (i : Nat) (x : It), i < l.length → ((l.flatMap encI).set (i * 2) (.int .u64 x.1)).set (i * 2 + 1) (.int .u32 (x.2 : Int)) = (l.set i x).flatMap encI
  | [], i, x, h => by simp at h
  | y :: l, 0, x, h => by simp
  | y :: l, i + 1, x, h => by
    have e := flat_put l i x (by simpa using h)
    rw [List.flatMap_cons, List.set_cons_succ, List.flatMap_cons, ← e, show (i + 1) * 2 = i * 2 + 1 + 1 by omega]
    simp only [encI, List.cons_append, List.nil_append, List.set_cons_succ]
structure HP (w : World) (B b ga : Nat) (v : Value) (xs : List It) (ps : List Nat) : Prop where
  blk : Cells w b #[v, .slice (some ⟨ga, 0, none⟩) ps.length ps.length] 128
  own : Own 133 2 encI w B v xs
  row : Cells w ga (atA ps) 3
  lb : B ≤ b
  lg : B ≤ ga
  ne : b ≠ ga
  vb : v.ownBlock ≠ some b
  vg : v.ownBlock ≠ some ga
/-- the blocks of a heap -/
def mine (b ga : Nat) (v : Value) (k : Nat) : Prop := k = b ∨ k = ga ∨ v.ownBlock = some k
section
variable {w w' : World} {B b ga : Nat} {v : Value} {xs : List It} {ps : List Nat}
theorem HP.lt (h : HP w B b ga v xs ps) : ∀ k, mine b ga v k → B ≤ k ∧ k < w.heap.size := by
  rintro k (rfl | rfl | hk)
  · exact ⟨h.lb, h.blk.lt⟩
  · exact ⟨h.lg, h.row.lt⟩
  · exact h.own.block hk
theorem HP.kept {S : Nat → Prop} (h : HP w B b ga v xs ps) (hk : Kept S w w') (hS : ∀ k, mine b ga v k → ¬ S k) : HP w' B b ga v xs ps := by
  refine ⟨hk.cells h.blk (hS _ (.inl rfl)), ?_, hk.cells h.row (hS _ (.inr (.inl rfl))), h.lb, h.lg, h.ne, h.vb, h.vg⟩
  refine ⟨h.own.1, ?_⟩
  rcases h.own.2 with h0 | ⟨g, cap, cur, hv, hg, hh, r⟩
  · exact .inl h0
  · exact .inr ⟨g, cap, cur, hv, hg, hk.cells hh (hS g (.inr (.inr (by rw [hv]; rfl)))), r⟩
theorem HP.below (h : HP w B b ga v xs ps) (hb : Below w.heap.size w w') : HP w' B b ga v xs ps :=
  h.kept (S := fun _ => False) (.of_below hb) (fun _ _ h => h)
theorem HP.slice (h : HP w B b ga v xs ps) {i : Nat} (hi : i < xs.length) : ∃ g c, v = .slice (some ⟨g, 0, none⟩) xs.length c ∧ xs.length ≤ c ∧ b ≠ g ∧ ga ≠ g ∧ g < w.heap.size := by
  rcases h.own.2 with ⟨_, h0⟩ | ⟨g, c, cur, rfl, hg, hh, hc, _⟩
  · omega
  · exact ⟨g, c, rfl, hc, fun e => h.vb (by rw [e]; rfl), fun e => h.vg (by rw [e]; rfl), (Array.getElem?_eq_some_iff.1 hh).1⟩
theorem HP.item {g c : Nat} (h : HP w B b ga (.slice (some ⟨g, 0, none⟩) xs.length c) xs ps) {i : Nat} {x : It} (hi : xs[i]? = some x) : w.cell? ⟨g, i * 2, none⟩ = some (.int .u64 x.1) ∧ w.cell? ⟨g, i * 2 + 1, none⟩ = some (.int .u32 (x.2 : Int)) := by
  have hil := lt_of_get hi
  constructor
  · have e := flat_get encI_len xs i 0 (by omega)
    rw [hi, Nat.add_zero] at e
    exact (h.own.cellAt (i * 2) (by omega)).trans e
  · have e := flat_get encI_len xs i 1 (by omega)
    rw [hi] at e
    exact (h.own.cellAt (i * 2 + 1) (by omega)).trans e
theorem HP.place (h : HP w B b ga v xs ps) {j a : Nat} (hj : ps[j]? = some a) : w.cell? ⟨ga, j, none⟩ = some (.int .i64 a) := (h.row.cell j).trans (atA_at hj)
theorem HP.put {g c : Nat} (h : HP w B b ga (.slice (some ⟨g, 0, none⟩) xs.length c) xs ps) {i : Nat} (hi : i < xs.length) (x : It) :
    HP (((w.setCell ⟨g, i * 2, none⟩ (.int .u64 x.1)).setCell ⟨g, i * 2 + 1, none⟩ (.int .u32 (x.2 : Int))).setCell ⟨ga, x.2, none⟩ (.int .i64 ((i + 1 : Nat) : Int))) B b ga (.slice (some ⟨g, 0, none⟩) xs.length c) (xs.set i x) (ps.set x.2 (i + 1)) := by
  have hb : b ≠ g := fun e => h.vb (by rw [e]; rfl)
  have hg : ga ≠ g := fun e => h.vg (by rw [e]; rfl)
  refine ⟨?_, ?_, ?_, h.lb, h.lg, h.ne, h.vb, h.vg⟩
  · rw [List.length_set]
    exact ((h.blk.far _ _ hb).far _ _ hb).far _ _ h.ne
  · refine own_far2 ?_ (p := ⟨ga, x.2, none⟩) h.vg _
    have e := ((h.own.stored (i * 2) (.int .u64 x.1)).1.stored (i * 2 + 1) (.int .u32 (x.2 : Int))).1
    rw [flat_put xs i x hi] at e
    unfold Own
    rw [List.length_set]
    exact e
  · have e := ((h.row.far (k := g) (i * 2) (.int .u64 x.1) hg).far (k := g) (i * 2 + 1) (.int .u32 (x.2 : Int)) hg).set_ x.2 (.int .i64 ((i + 1 : Nat) : Int))
    rwa [atA_set] at e
end

theorem less_any (x y : It) (w : World) :
    Calls Try.prog 70 #[itemV x, itemV y] w fun e w' => (∃ r : Bool, e = .returned (.bool r) ∧ (r = true ↔ lessI x y)) ∧ Below w.heap.size w w' := by
  obtain ⟨k, i⟩ := x
  obtain ⟨k', i'⟩ := y
  unfold itemV
  simp only []
  by_cases h1 : k < k'
  · have g1 : decide (k < k') = true := decide_eq_true h1
    have H := Lib.hid (show lessI (k, i) (k', i') from .inl h1)
    clear h1
    go_enter Try.func70, Try.ntmps70
    go_wp2
    go_ret
    exact ⟨⟨true, rfl, by simp [H.out]⟩, by first | exact ((Below.refl _ w).alloc (Nat.le_refl _) _).alloc (by simp) _ | exact (((Below.refl _ w).alloc (Nat.le_refl _) _).alloc (by simp) _).drew⟩
  · have g1 : decide (k < k') = false := decide_eq_false h1
    by_cases h2 : k = k'
    · subst h2
      by_cases h3 : i < i'
      · have g3 : decide ((i : Int) < (i' : Int)) = true := decide_eq_true (by omega)
        have g4 : decide (i < i') = true := decide_eq_true h3
        have H := Lib.hid (show lessI (k, i) (k, i') from .inr ⟨rfl, h3⟩)
        clear h1 h3
        go_enter Try.func70, Try.ntmps70
        go_wp2
        go_ret
        exact ⟨⟨true, rfl, by simp [H.out]⟩, by first | exact ((Below.refl _ w).alloc (Nat.le_refl _) _).alloc (by simp) _ | exact (((Below.refl _ w).alloc (Nat.le_refl _) _).alloc (by simp) _).drew⟩
      · have g3 : decide ((i : Int) < (i' : Int)) = false := decide_eq_false (by omega)
        have g4 : decide (i < i') = false := decide_eq_false h3
        have H := Lib.hid (show ¬ lessI (k, i) (k, i') from fun h => by unfold lessI at h; simp only [] at h; omega)
        clear h1 h3
        go_enter Try.func70, Try.ntmps70
        go_wp2
        go_ret
        exact ⟨⟨false, rfl, by simp [H.out]⟩, by first | exact ((Below.refl _ w).alloc (Nat.le_refl _) _).alloc (by simp) _ | exact (((Below.refl _ w).alloc (Nat.le_refl _) _).alloc (by simp) _).drew⟩
    · have g2 : (k == k') = false := by simp [h2]
      have H := Lib.hid (show ¬ lessI (k, i) (k', i') from fun h => by unfold lessI at h; simp only [] at h; omega)
      clear h1 h2
      go_enter Try.func70, Try.ntmps70
      go_wp2
      go_ret
      exact ⟨⟨false, rfl, by simp [H.out]⟩, by first | exact ((Below.refl _ w).alloc (Nat.le_refl _) _).alloc (by simp) _ | exact (((Below.refl _ w).alloc (Nat.le_refl _) _).alloc (by simp) _).drew⟩

section
variable {w : World} {B b ga : Nat} {v : Value} {xs : List It} {ps : List Nat}
theorem put_any (h : HP w B b ga v xs ps) {i : Nat} (hi : i < xs.length) (hl : xs.length ≤ 65536) (x : It) (hx : x.2 < ps.length) (ha : ps.length ≤ 65536) :
    Calls Try.prog 67 #[.pointer (some ⟨b, 0, none⟩), .int .i64 i, itemV x] w fun e w' => e = .returned (.tuple #[]) ∧ HP w' B b ga v (xs.set i x) (ps.set x.2 (i + 1)) ∧ Kept (mine b ga v) w w' := by
  obtain ⟨g, c, rfl, hc, hbg, hgg, hgs⟩ := h.slice hi
  have hbs := h.blk.lt
  have hgas := h.row.lt
  have hbga := h.ne
  have c0 : w.cell? ⟨b, 0, none⟩ = some (.slice (some ⟨g, 0, none⟩) xs.length c) := h.blk.cell 0
  have c1 : w.cell? ⟨b, 1, none⟩ = some (.slice (some ⟨ga, 0, none⟩) ps.length ps.length) := h.blk.cell 1
  have hz := List.getElem?_eq_getElem hi
  generalize xs[i] = z at hz
  obtain ⟨i0, i1⟩ := h.item hz
  have f0 := h.own.frozenAt (i * 2)
  have f1 := h.own.frozenAt (i * 2 + 1)
  have hp := List.getElem?_eq_getElem hx
  generalize ps[x.2] = p at hp
  have p0 := h.place hp
  have pf := h.row.frozen x.2
  have H := Lib.hid h
  have HI := Lib.hid hi
  clear h hz hp
  obtain ⟨k, j⟩ := x
  unfold itemV
  dsimp only at *
  have n1 : ¬ b = g := hbg
  have n2 : ¬ g = b := fun e => hbg e.symm
  have n3 : ¬ ga = g := hgg
  have n4 : ¬ g = ga := fun e => hgg e.symm
  have n5 : ¬ b = ga := hbga
  have n6 : ¬ ga = b := fun e => hbga e.symm
  clear hbg hgg hbga
  go_enter Try.func67, Try.ntmps67
  go_wp2_with go_region
  go_returns
  exact ⟨rfl, (H.out.put HI.out (k, j)).below (Below.drew (Below.drew ((Below.refl _ _).alloc (Nat.le_refl _) _))), ((((Kept.refl _ w).set_ (.inl (.inr (.inr rfl))) _).set_ (.inl (.inr (.inr rfl))) _).set_ (.inl (.inr (.inl rfl))) _).trans (.of_below (Below.drew (Below.drew ((Below.refl _ _).alloc (Nat.le_refl _) _))))⟩
end
end Go.Proofs.Ytkcnnamghpdplaa
