/- The law HeapSorts: what was put in comes out by keys, alike ones by ids. -/
import Derived.Test.YthomeejkddgckaaHeap8
set_option linter.unusedSimpArgs false
set_option linter.unusedVariables false
namespace Go.Proofs.Ythomeejkddgckaa
open Go.RowKit

def numsA (vs : List Int) : Array Value := (vs.map (Value.int .u64)).toArray
def flagsA (m : List (Option Int)) : Array Value := (m.map fun o => Value.bool o.isSome).toArray
theorem numsA_get {vs : List Int} {i : Nat} {v : Int} (h : vs[i]? = some v) : (numsA vs)[i]? = some (.int .u64 v) := by simp [numsA, h]
theorem flagsA_get {m : List (Option Int)} {i : Nat} {o : Option Int} (h : m[i]? = some o) : (flagsA m)[i]? = some (.bool o.isSome) := by simp [flagsA, h]
theorem numsA_set (vs : List Int) (i : Nat) (v : Int) : (numsA vs).setIfInBounds i (.int .u64 v) = numsA (vs.set i v) := by
  apply Array.ext'
  simp [numsA, List.map_set]
theorem flagsA_set (m : List (Option Int)) (i : Nat) (o : Option Int) : (flagsA m).setIfInBounds i (.bool o.isSome) = flagsA (m.set i o) := by
  apply Array.ext'
  simp [flagsA, List.map_set]
theorem info_u64 : (Try.prog.info? 33).map (fun i => (i.zero, i.size, i.bytes)) = some (some (.int .u64 0), 1, 8) := by kernel_rfl
theorem info_bool : (Try.prog.info? 4).map (fun i => (i.zero, i.size, i.bytes)) = some (some (.bool false), 1, 1) := by kernel_rfl
theorem made_nums (n : Nat) : madeCells #[Value.int .u64 0] n = numsA (List.replicate n 0) := by
  apply Array.toList_inj.1
  rw [toList_madeCells_one]
  simp [numsA]
theorem made_flags (n : Nat) : madeCells #[Value.bool false] n = flagsA (noneH n) := by
  apply Array.toList_inj.1
  rw [toList_madeCells_one]
  simp [flagsA, noneH]
/-- the law's own lists: block x the least keys, block y which things are in -/
structure Doc (w : World) (x y : Nat) (vs : List Int) (m : List (Option Int)) : Prop where
  nums : Cells w x (numsA vs) 33
  flags : Cells w y (flagsA m) 4
  ne : x ≠ y
  len : vs.length = m.length
  val : ∀ (i : Nat) (v : Int), m[i]? = some (some v) → vs[i]? = some v
section
variable {w w' : World} {x y : Nat} {vs : List Int} {m : List (Option Int)}
theorem Doc.kept {S : Nat → Prop} (h : Doc w x y vs m) (hk : Kept S w w') (h1 : ¬ S x) (h2 : ¬ S y) : Doc w' x y vs m := ⟨hk.cells h.nums h1, hk.cells h.flags h2, h.ne, h.len, h.val⟩
theorem Doc.num (h : Doc w x y vs m) {i : Nat} {o : Option Int} (hi : m[i]? = some o) (k : Int) (o' : Option Int) (ho : o' = none ∧ o = none ∨ o' = some k ∧ o.isSome) : Doc (w.setCell ⟨x, i, none⟩ (.int .u64 k)) x y (vs.set i k) (m.set i o') := by
  have hil := lt_of_get hi
  have hvl : i < vs.length := by rw [h.len]; exact hil
  refine ⟨?_, ?_, h.ne, by rw [List.length_set, List.length_set, h.len], fun j v hj => ?_⟩
  · have e := h.nums.set_ i (.int .u64 k)
    rwa [numsA_set] at e
  · have e : flagsA (m.set i o') = flagsA m := by
      rw [← flagsA_set]
      have hb : o'.isSome = o.isSome := by rcases ho with ⟨rfl, rfl⟩ | ⟨rfl, h2⟩ <;> simp_all
      rw [hb]
      have hget := flagsA_get hi
      apply Array.ext_getElem?
      intro j
      rw [Array.getElem?_setIfInBounds]
      by_cases e : i = j
      · subst e
        have : i < (flagsA m).size := by simp [flagsA, hil]
        simp [this, hget]
        have h3 := Array.getElem?_eq_getElem this
        rw [hget] at h3
        exact (Option.some.inj h3)
      · rw [if_neg e]
    rw [e]
    exact h.flags.far i _ h.ne.symm
  · rw [get_set _ hil] at hj
    rw [get_set _ hvl]
    by_cases e : j = i
    · rw [if_pos e] at hj ⊢
      rcases ho with ⟨rfl, _⟩ | ⟨rfl, _⟩
      · cases hj
      · injection hj with hj
    · rw [if_neg e] at hj ⊢
      exact h.val j v hj
theorem Doc.flag (h : Doc w x y vs m) {i : Nat} {k : Int} (hk : vs[i]? = some k) : Doc (w.setCell ⟨y, i, none⟩ (.bool true)) x y vs (m.set i (some k)) := by
  have hil : i < m.length := by rw [← h.len]; exact lt_of_get hk
  refine ⟨h.nums.far i _ h.ne, ?_, h.ne, by rw [List.length_set, h.len], fun j v hj => ?_⟩
  · have e := h.flags.set_ i (.bool true)
    rwa [show Value.bool true = .bool (some k).isSome from rfl, flagsA_set m i (some k)] at e
  · rw [get_set _ hil] at hj
    by_cases e : j = i
    · rw [if_pos e] at hj
      injection hj with hj
      injection hj with hj
      rw [e, hk, hj]
    · rw [if_neg e] at hj
      exact h.val j v hj
theorem Doc.clear_ (h : Doc w x y vs m) {i : Nat} (hil : i < m.length) : Doc (w.setCell ⟨y, i, none⟩ (.bool false)) x y vs (m.set i none) := by
  refine ⟨h.nums.far i _ h.ne, ?_, h.ne, by rw [List.length_set, h.len], fun j v hj => ?_⟩
  · have e := h.flags.set_ i (.bool false)
    rwa [show Value.bool false = .bool (none : Option Int).isSome from rfl, flagsA_set m i none] at e
  · rw [get_set _ hil] at hj
    by_cases e : j = i
    · rw [if_pos e] at hj; cases hj
    · rw [if_neg e] at hj
      exact h.val j v hj
end
/-- the heap, and the law's own lists -/
structure Two (w0 w : World) (b ga : Nat) (v : Value) (x y : Nat) (vs : List Int) (m md : List (Option Int)) : Prop where
  hp : Hp w w0.heap.size b ga v m
  doc : Doc w x y vs md
  nx : ¬ mine b ga v x
  ny : ¬ mine b ga v y
  bel : Below w0.heap.size w0 w
  x0 : w0.heap.size ≤ x
  y0 : w0.heap.size ≤ y
section
variable {w0 w w' : World} {b ga x y : Nat} {v : Value} {vs vs' : List Int} {m m' md md' : List (Option Int)}
theorem Two.below (h : Two w0 w b ga v x y vs m md) (hb : Below w.heap.size w w') : Two w0 w' b ga v x y vs m md :=
  ⟨h.hp.below hb, h.doc.kept (S := fun _ => False) (.of_below hb) (fun h => h) (fun h => h), h.nx, h.ny, h.bel.trans (hb.mono h.bel.size), h.x0, h.y0⟩
theorem Two.after (h : Two w0 w b ga v x y vs m md) (ha : After w w0.heap.size b ga v m' w') : ∃ v', Two w0 w' b ga v' x y vs m' md := by
  obtain ⟨v', h', hk, hf⟩ := ha
  refine ⟨v', h', h.doc.kept hk h.nx h.ny, fun hm => ?_, fun hm => ?_, hk.below h.bel (fun k hk => (h.hp.lt k hk).1) h.bel.size, h.x0, h.y0⟩
  · rcases hm with e | e | e
    · exact h.nx (.inl e)
    · exact h.nx (.inr (.inl e))
    · rcases hf x e with e | e
      · exact h.nx (.inr (.inr e))
      · have := h.doc.nums.lt; omega
  · rcases hm with e | e | e
    · exact h.ny (.inl e)
    · exact h.ny (.inr (.inl e))
    · rcases hf y e with e | e
      · exact h.ny (.inr (.inr e))
      · have := h.doc.flags.lt; omega
theorem Two.set_ (h : Two w0 w b ga v x y vs m md) {p : Addr} (hp : p.block = x ∨ p.block = y) (u : Value) (hd : Doc (w.setCell p u) x y vs' md') : Two w0 (w.setCell p u) b ga v x y vs' m md' := by
  refine ⟨h.hp.kept (S := fun k => k = p.block) ((Kept.refl (fun k => k = p.block) w).set_ (p := p) (.inl rfl) u) (fun k hk e => ?_), hd, h.nx, h.ny, h.bel.setCell (by rcases hp with e | e <;> rw [e]; exact h.x0; exact h.y0) u, h.x0, h.y0⟩
  subst e
  rcases hp with e | e
  · rw [e] at hk; exact h.nx hk
  · rw [e] at hk; exact h.ny hk
end
theorem top_empty {m : List (Option Int)} (h : m.countP Option.isSome = 0) {r : Option It} (ht : IsTop m r) : r = none := by
  cases r with
  | none => rfl
  | some x =>
    have hl := ht.1
    have hx := look_lt hl
    unfold lookH at hl
    rw [List.getD_eq_getElem?_getD, List.getElem?_eq_getElem hx] at hl
    have : 0 < m.countP Option.isSome := List.countP_pos_iff.2 ⟨m[x.2], List.getElem_mem hx, by rw [show m[x.2] = some x.1 from hl]; rfl⟩
    omega
theorem top_there {m : List (Option Int)} (h : 0 < m.countP Option.isSome) {r : Option It} (ht : IsTop m r) : ∃ x, r = some x := by
  cases r with
  | some x => exact ⟨x, rfl⟩
  | none =>
    obtain ⟨o, ho, hs⟩ := List.countP_pos_iff.1 h
    obtain ⟨i, hi, rfl⟩ := List.mem_iff_getElem.1 ho
    have := ht i
    unfold lookH at this
    rw [List.getD_eq_getElem?_getD, List.getElem?_eq_getElem hi] at this
    rw [show m[i] = none from this] at hs
    cases hs
theorem count_set_none {m : List (Option Int)} {i : Nat} {k : Int} (h : m[i]? = some (some k)) : (m.set i none).countP Option.isSome + 1 = m.countP Option.isSome := by
  have hi := lt_of_get h
  have ha : m[i] = some k := by rw [List.getElem?_eq_getElem hi] at h; exact Option.some.inj h
  have : 0 < m.countP Option.isSome := List.countP_pos_iff.2 ⟨m[i], List.getElem_mem hi, by rw [ha]; rfl⟩
  rw [List.countP_set hi, ha]
  simp
  omega
theorem count_set_some {m : List (Option Int)} {i : Nat} (k : Int) (h : m[i]? = some none) : (m.set i (some k)).countP Option.isSome = m.countP Option.isSome + 1 := by
  have hi := lt_of_get h
  have ha : m[i] = none := by rw [List.getElem?_eq_getElem hi] at h; exact Option.some.inj h
  rw [List.countP_set hi, ha]
  simp
theorem count_same_some {m : List (Option Int)} {i : Nat} {k : Int} (k' : Int) (h : m[i]? = some (some k)) : (m.set i (some k')).countP Option.isSome = m.countP Option.isSome := by
  have hi := lt_of_get h
  have ha : m[i] = some k := by rw [List.getElem?_eq_getElem hi] at h; exact Option.some.inj h
  have : 0 < m.countP Option.isSome := List.countP_pos_iff.2 ⟨m[i], List.getElem_mem hi, by rw [ha]; rfl⟩
  rw [List.countP_set hi, ha]
  simp
  omega
theorem look_get {m : List (Option Int)} {i : Nat} {k : Int} (h : lookH m i = some k) : m[i]? = some (some k) := by
  have hi := look_lt h
  unfold lookH at h
  rw [List.getD_eq_getElem?_getD, List.getElem?_eq_getElem hi] at h
  rw [List.getElem?_eq_getElem hi]
  exact congrArg some h
theorem get_look {m : List (Option Int)} {i : Nat} {o : Option Int} (h : m[i]? = some o) : lookH m i = o := by
  unfold lookH
  rw [List.getD_eq_getElem?_getD, h]; rfl
/-- what is left when the least has gone comes behind it -/
theorem rest_behind {m : List (Option Int)} {x : It} (ht : IsTop m (some x)) (j : Nat) (k : Int) (h : lookH (m.set x.2 none) j = some k) : lessI x (k, j) := by
  have hx := look_lt ht.1
  have hg := look_get h
  rw [get_set _ hx] at hg
  split at hg
  · cases hg
  · rename_i e
    have hle := ht.2 j k (get_look hg)
    obtain ⟨a, c⟩ := x
    unfold leI at hle
    unfold lessI
    dsimp only at *
    omega
theorem doc_new {W : World} {x y n : Nat} (h1 : Cells W x (numsA (List.replicate n 0)) 33) (h2 : Cells W y (flagsA (noneH n)) 4) (hne : x ≠ y) : Doc W x y (List.replicate n 0) (noneH n) :=
  ⟨h1, h2, hne, by simp [noneH], fun i v h => by rw [noneH, List.getElem?_replicate] at h; split at h <;> cases h⟩
theorem not_mine {b ga k : Nat} (h1 : k ≠ b) (h2 : k ≠ ga) : ¬ mine b ga (.slice none 0 0) k := by
  rintro (e | e | e)
  · exact h1 e
  · exact h2 e
  · cases e
theorem two_new1 {w0 w : World} {b ga n : Nat} (h : Hp w w0.heap.size b ga (.slice none 0 0) (noneH n)) (hb : Below w0.heap.size w0 w) :
    Two w0 ((w.alloc (.cells (flagsA (noneH n)) 4)).alloc (.cells (numsA (List.replicate n 0)) 33)).drew b ga (.slice none 0 0) (w.heap.size + 1) w.heap.size (List.replicate n 0) (noneH n) (noneH n) := by
  have hl1 := (h.lt b (.inl rfl)).2
  have hl2 := (h.lt ga (.inr (.inl rfl))).2
  have hs := hb.size
  have hbb : Below w.heap.size w ((w.alloc (.cells (flagsA (noneH n)) 4)).alloc (.cells (numsA (List.replicate n 0)) 33)).drew := (((Below.refl _ w).alloc (Nat.le_refl _) _).alloc (by simp) _).drew
  refine ⟨h.below hbb, doc_new ?_ ?_ (by omega), not_mine (by omega) (by omega), not_mine (by omega) (by omega), hb.trans (hbb.mono hs), by omega, hs⟩
  · have e := cells_new (w.alloc (.cells (flagsA (noneH n)) 4)) (numsA (List.replicate n 0)) 33
    rw [size_alloc] at e
    exact e
  · exact (cells_new w (flagsA (noneH n)) 4).below ((Below.refl _ _).alloc (Nat.le_refl _) _).drew
theorem two_new2 {w0 w : World} {b ga n : Nat} (h : Hp w w0.heap.size b ga (.slice none 0 0) (noneH n)) (hb : Below w0.heap.size w0 w) :
    Two w0 ((w.alloc (.cells (numsA (List.replicate n 0)) 33)).alloc (.cells (flagsA (noneH n)) 4)).drew b ga (.slice none 0 0) w.heap.size (w.heap.size + 1) (List.replicate n 0) (noneH n) (noneH n) := by
  have hl1 := (h.lt b (.inl rfl)).2
  have hl2 := (h.lt ga (.inr (.inl rfl))).2
  have hs := hb.size
  have hbb : Below w.heap.size w ((w.alloc (.cells (numsA (List.replicate n 0)) 33)).alloc (.cells (flagsA (noneH n)) 4)).drew := (((Below.refl _ w).alloc (Nat.le_refl _) _).alloc (by simp) _).drew
  refine ⟨h.below hbb, doc_new ?_ ?_ (by omega), not_mine (by omega) (by omega), not_mine (by omega) (by omega), hb.trans (hbb.mono hs), hs, by omega⟩
  · exact (cells_new w (numsA (List.replicate n 0)) 33).below ((Below.refl _ _).alloc (Nat.le_refl _) _).drew
  · have e := cells_new (w.alloc (.cells (numsA (List.replicate n 0)) 33)) (flagsA (noneH n)) 4
    rw [size_alloc] at e
    exact e
theorem err_in {n id : Nat} (h : id < n) : errH7 (cId n id) = .nilIface := by simp [cId, errH7, h]
end Go.Proofs.Ythomeejkddgckaa
