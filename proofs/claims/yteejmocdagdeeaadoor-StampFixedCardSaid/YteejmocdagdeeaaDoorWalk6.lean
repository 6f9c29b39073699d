/- The document's stamp: two lists, and what each call does to them. -/
import Derived.Test.YteejmocdagdeeaaDoorMid
import Derived.Handy
set_option linter.unusedSimpArgs false
set_option linter.unusedVariables false
namespace Go.Proofs.YteejmocdagdeeaaDoor
open Go.RowKit

def numsA (vs : List Int) : Array Value := (vs.map (Value.int .u64)).toArray
def flagsA (m : List (Option Int)) : Array Value := (m.map fun o => Value.bool o.isSome).toArray
def docV (x y n : Nat) : Value := .agg #[.slice (some ⟨x, 0, none⟩) n n, .slice (some ⟨y, 0, none⟩) n n]
def noErr : Value := .agg #[.int .i64 0, .slice none 0 0]
/-- The document's stamp: block x its numbers, block y which places hold one. -/
structure Doc (w : World) (x y : Nat) (vs : List Int) (m : List (Option Int)) : Prop where
  nums : Cells w x (numsA vs) 44
  flags : Cells w y (flagsA m) 4
  ne : x ≠ y
  len : vs.length = m.length
  val : ∀ (i : Nat) (v : Int), m[i]? = some (some v) → vs[i]? = some v
theorem Doc.below {w w' : World} {x y : Nat} {vs : List Int} {m : List (Option Int)} (h : Doc w x y vs m) (hb : Below w.heap.size w w') : Doc w' x y vs m := ⟨h.nums.below hb, h.flags.below hb, h.ne, h.len, h.val⟩
theorem Doc.touch {w w' : World} {x y b g : Nat} {vs : List Int} {m : List (Option Int)} (h : Doc w x y vs m) (ht : Touch b g w w') (h1 : x ≠ b) (h2 : x ≠ g) (h3 : y ≠ b) (h4 : y ≠ g) : Doc w' x y vs m :=
  ⟨(ht.block x h1 h2).trans h.nums, (ht.block y h3 h4).trans h.flags, h.ne, h.len, h.val⟩
theorem info_u64 : (Tryd.prog.info? 44).map (fun i => (i.zero, i.size, i.bytes)) = some (some (.int .u64 0), 1, 8) := by kernel_rfl
theorem info_bool : (Tryd.prog.info? 4).map (fun i => (i.zero, i.size, i.bytes)) = some (some (.bool false), 1, 1) := by kernel_rfl
theorem made_nums (n : Nat) : madeCells #[Value.int .u64 0] n = numsA (List.replicate n 0) := by
  apply Array.toList_inj.1
  rw [toList_madeCells_one]
  simp [numsA]
theorem made_flags (n : Nat) : madeCells #[Value.bool false] n = flagsA (empty n) := by
  apply Array.toList_inj.1
  rw [toList_madeCells_one]
  simp [flagsA, empty]
theorem four_new (w : World) (a b c d : Obj) : ((((w.alloc a).alloc b).alloc c).alloc d).heap[w.heap.size + 1 + 1]? = some c ∧ ((((w.alloc a).alloc b).alloc c).alloc d).heap[w.heap.size + 1 + 1 + 1]? = some d := by
  have e : ((w.alloc a).alloc b).heap.size = w.heap.size + 1 + 1 := by rw [size_alloc, size_alloc]
  have h1 := heap_alloc_new ((w.alloc a).alloc b) c
  have h2 := second_new ((w.alloc a).alloc b) c d
  rw [e] at h1 h2
  exact ⟨(heap_alloc_old _ d (by rw [size_alloc, e]; omega)).trans h1, h2⟩
theorem four_below (w : World) (a b c d : Obj) : Below w.heap.size w ((((w.alloc a).alloc b).alloc c).alloc d) :=
  ((((Below.refl _ _).alloc (Nat.le_refl _) _).alloc (by rw [size_alloc]; omega) _).alloc (by rw [size_alloc, size_alloc]; omega) _).alloc (by rw [size_alloc, size_alloc, size_alloc]; omega) _
set_option maxHeartbeats 800000 in
theorem DocNew_ok (n : Nat) (w : World) (hn : n ≤ 65536) :
    Calls Tryd.prog 7 #[.int .i64 n] w fun e w' => ∃ x y, e = .returned (.tuple #[docV x y n, noErr]) ∧
      Doc w' x y (List.replicate n 0) (empty n) ∧ Below w.heap.size w w' ∧ w.heap.size ≤ x ∧ w.heap.size ≤ y := by
  have hmk : ∀ W : World, (Instr.makeSlice 30 (.int .i64 (n : Int)) (.int .i64 (n : Int))).run Tryd.prog W = .ok (.slice (some ⟨W.heap.size, 0, none⟩) n n) (W.alloc (.cells (numsA (List.replicate n 0)) 44)) := fun W => by
    obtain ⟨i, hi, hz0, hz1, hz2⟩ := info_parts info_u64
    have h := run_make (P := Tryd.prog) W 30 44 i _ Tryd.underlying30 hi hz0 .i64 .i64 (n : Int) (n : Int) (by omega) (by omega) (by rw [hz2]; omega) (by omega)
    rw [h, hz1, Nat.mul_one, Int.toNat_natCast]
    exact congrArg (fun c => Result.ok (Value.slice (some ⟨W.heap.size, 0, none⟩) n n) (W.alloc (.cells c 44))) (made_nums n)
  have hmk2 : ∀ W : World, (Instr.makeSlice 31 (.int .i64 (n : Int)) (.int .i64 (n : Int))).run Tryd.prog W = .ok (.slice (some ⟨W.heap.size, 0, none⟩) n n) (W.alloc (.cells (flagsA (empty n)) 4)) := fun W => by
    obtain ⟨i, hi, hz0, hz1, hz2⟩ := info_parts info_bool
    have h := run_make (P := Tryd.prog) W 31 4 i _ Tryd.underlying31 hi hz0 .i64 .i64 (n : Int) (n : Int) (by omega) (by omega) (by rw [hz2]; omega) (by omega)
    rw [h, hz1, Nat.mul_one, Int.toNat_natCast]
    exact congrArg (fun c => Result.ok (Value.slice (some ⟨W.heap.size, 0, none⟩) n n) (W.alloc (.cells c 4))) (made_flags n)
  go_enter Tryd.func7, Tryd.ntmps7
  go_wp2_with go_region
  all_goals go_returns
  · refine ⟨_, _, rfl, ⟨(four_new w _ _ _ _).1, (four_new w _ _ _ _).2, by omega, by simp [empty], fun i v h => ?_⟩, (four_below w _ _ _ _).drew, by omega, by omega⟩
    rw [empty, List.getElem?_replicate] at h
    split at h <;> cases h
  · refine ⟨_, _, rfl, ⟨(four_new w _ _ _ _).2, (four_new w _ _ _ _).1, by omega, by simp [empty], fun i v h => ?_⟩, (four_below w _ _ _ _).drew, by omega, by omega⟩
    rw [empty, List.getElem?_replicate] at h
    split at h <;> cases h

/-- Nothing but two blocks has turned; new ones may have come. -/
structure Near (x y : Nat) (w w' : World) : Prop where
  os : w'.os = w.os
  tape : w'.tape = w.tape
  output : w'.output = w.output
  size : w.heap.size ≤ w'.heap.size
  block : ∀ k, k < w.heap.size → k ≠ x → k ≠ y → w'.heap[k]? = w.heap[k]?
theorem Near.of_below {w w' : World} (h : Below w.heap.size w w') (x y : Nat) : Near x y w w' := ⟨h.os, h.tape, h.output, h.size, fun k hk _ _ => h.block k hk⟩
theorem Near.set_ {x y : Nat} {w w' : World} (h : Near x y w w') (p : Addr) (v : Value) (hp : p.block = x ∨ p.block = y ∨ w.heap.size ≤ p.block) : Near x y w (w'.setCell p v) :=
  ⟨h.os, h.tape, h.output, by simpa [World.setCell] using h.size, fun k hk hx hy => (heap_setCell_other w' p k v (by rcases hp with e | e | e <;> omega)).trans (h.block k hk hx hy)⟩
theorem Near.alloc {x y : Nat} {w w' : World} (h : Near x y w w') (o : Obj) : Near x y w (w'.alloc o) :=
  ⟨h.os, h.tape, h.output, by rw [size_alloc]; have := h.size; omega, fun k hk hx hy => (heap_alloc_old w' o (by have := h.size; omega)).trans (h.block k hk hx hy)⟩
theorem Near.below {x y B : Nat} {w0 w w' : World} (h : Near x y w w') (hb : Below B w0 w) (hx : B ≤ x) (hy : B ≤ y) (hB : B ≤ w.heap.size) : Below B w0 w' :=
  ⟨h.os.trans hb.os, h.tape.trans hb.tape, h.output.trans hb.output, Nat.le_trans hb.size h.size, fun k hk => (h.block k (by omega) (by omega) (by omega)).trans (hb.block k hk)⟩
theorem St.near {b g x y : Nat} {m : List (Option Int)} {w w' : World} (h : St w b g m) (hn : Near x y w w') (h1 : b ≠ x) (h2 : b ≠ y) (h3 : g ≠ x) (h4 : g ≠ y) : St w' b g m := by
  obtain ⟨hb, hg⟩ := h.lt
  obtain ⟨age, cnt, cs, hp, r⟩ := h
  exact ⟨age, cnt, cs, ⟨(hn.block b hb h1 h2).trans hp.blk, (hn.block g hg h3 h4).trans hp.row, hp.ne, hp.len⟩, r⟩

theorem numsA_at {vs : List Int} {i : Nat} (hi : i < vs.length) : (numsA vs)[i]? = some (.int .u64 vs[i]) := by
  simp [numsA, List.getElem?_eq_getElem hi]
theorem flagsA_at {m : List (Option Int)} {i : Nat} (hi : i < m.length) : (flagsA m)[i]? = some (.bool m[i].isSome) := by
  simp [flagsA, List.getElem?_eq_getElem hi]
theorem numsA_set (vs : List Int) (i : Nat) (v : Int) : (numsA vs).setIfInBounds i (.int .u64 v) = numsA (vs.set i v) := by
  simp [numsA, List.map_set]
theorem flagsA_set (m : List (Option Int)) (i : Nat) (v : Int) : (flagsA m).setIfInBounds i (.bool true) = flagsA (m.set i (some v)) := by
  simp [flagsA, List.map_set]

section
variable {x y : Nat} {vs : List Int} {m : List (Option Int)} {w : World}
theorem Doc.set_ (h : Doc w x y vs m) {i : Nat} (hi : i < m.length) (v : Int) : Doc ((w.setCell ⟨x, i, none⟩ (.int .u64 v)).setCell ⟨y, i, none⟩ (.bool true)) x y (vs.set i v) (m.set i (some v)) := by
  refine ⟨?_, ?_, h.ne, by rw [List.length_set, List.length_set, h.len], fun j u hj => ?_⟩
  · have e := (h.nums.set_ i (.int .u64 v)).far (k := y) i (.bool true) h.ne
    rwa [numsA_set] at e
  · have e := (h.flags.far (k := x) i (.int .u64 v) h.ne.symm).set_ i (.bool true)
    rwa [flagsA_set m i v] at e
  · by_cases e : i = j
    · subst e
      rw [List.getElem?_set_self hi] at hj
      rw [List.getElem?_set_self (by rw [h.len]; exact hi)]
      injection hj with hj
    · rw [List.getElem?_set_ne e] at hj ⊢
      exact h.val j u hj
theorem docSet_in (h : Doc w x y vs m) {n : Nat} (hn : m.length = n) {i : Nat} (hi : i < n) (v : Int) (hm : n ≤ 65536) :
    Calls Tryd.prog 20 #[docV x y n, .int .i64 i, .int .u64 v] w fun e w' => e = .returned noErr ∧ Doc w' x y (vs.set i v) (m.set i (some v)) ∧ Near x y w w' := by
  unfold docV
  have hi' : i < vs.length := by rw [h.len]; omega
  have d0 := (h.nums.cell i).trans (numsA_at hi')
  have d1 := (h.flags.cell i).trans (flagsA_at (by omega))
  have f0 := h.nums.frozen i
  have f1 := h.flags.frozen i
  have H := Lib.hid h
  have hxy : ¬ x = y := h.ne
  have hyx : ¬ y = x := h.ne.symm
  have hxl := h.nums.lt
  have hyl := h.flags.lt
  have HI := Lib.hid (show i < m.length by omega)
  generalize vs[i] = v0 at d0
  generalize m[i].isSome = b0 at d1
  clear h hn
  go_enter Tryd.func20, Tryd.ntmps20
  go_wp2
  go_returns
  exact ⟨rfl, (H.out.set_ HI.out v).below (((Below.refl _ _).alloc (Nat.le_refl _) _).alloc (by rw [size_alloc]; omega) _),
    ((((Near.of_below (Below.refl _ _) x y).set_ _ _ (.inl rfl)).set_ _ _ (.inr (.inl rfl))).alloc _).alloc _⟩

set_option maxHeartbeats 800000 in
theorem docAll_any (h : Doc w x y vs m) {n : Nat} (hn : m.length = n) (hm : n ≤ 65536) :
    Calls Tryd.prog 23 #[docV x y n] w (MadeI w (marks m)) := by
  unfold marks docV
  rw [hn]
  have H := Lib.hid h
  have hpick : ∀ j, Hid ((picks (fun i => (m.getD i none).isSome) j).length ≤ j) := fun j => Lib.hid (picks_len _ j)
  have hs : ∀ j, Hid (picks (fun i => (m.getD i none).isSome) (j + 1) = picks (fun i => (m.getD i none).isSome) j ++ if (m.getD j none).isSome then [(j : Int)] else []) := fun j => Lib.hid (picks_succ _ j)
  have hat : ∀ j (hj : j < m.length), Hid ((m.getD j none).isSome = m[j].isSome) := fun j hj => Lib.hid (by rw [List.getD_eq_getElem?_getD, List.getElem?_eq_getElem hj]; rfl)
  have hz : Hid (picks (fun i => (m.getD i none).isSome) 0 = []) := Lib.hid rfl
  generalize picks (fun i => (m.getD i none).isSome) = F at *
  clear h
  have HN := Lib.hid hn
  clear hn
  go_enter Tryd.func23, Tryd.ntmps23
  go_wp2_with fail
  go_loopw [3, 9] (fun v i wr => ∃ j : Nat, j ≤ n ∧ i = .int .i64 j ∧ OwnI wr w.heap.size v (F j) ∧ Below w.heap.size w wr ∧ w.heap.size + 1 ≤ wr.heap.size) (fun _ i _ => n - (intOf i).toNat)
  case atStart => exact ⟨0, by omega, rfl, by rw [hz.out]; exact Own.nil _ _ _ _ _, (Below.refl _ _).alloc (Nat.le_refl _) _, by rw [size_alloc]; omega⟩
  case round =>
    obtain ⟨j, hj, rfl, ho, hb, hsz⟩ := hrel
    have HO := Lib.hid ho
    have HB := Lib.hid hb
    have HS := Lib.hid hsz
    clear ho hb hsz
    by_cases hlt : j < n
    · have hjm : j < m.length := by rw [HN.out]; exact hlt
      have d1 := ((H.out.below HB.out).flags.cell j).trans (flagsA_at hjm)
      have e1 := hat j hjm
      have e2 := hs j
      have e3 := hpick j
      rw [e1.out] at e2
      clear hat hs hpick e1
      generalize m[j].isSome = q at *
      cases q with
      | true =>
        have HE : Hid (F (j + 1) = F j ++ [(j : Int)]) := Lib.hid (by rw [e2.out]; rfl)
        clear e2
        go_wp2_with (at_builtin; go_loud (refine wpList_append_rd rfl (.tmp 15) (.tmp 17) 51 rfl 3 (.int .i64 0) 8 Tryd.underlying51 info_int rfl (by omega) (by omega) i64s_len i64s_one w.heap.size u3 (F j) rfl (HO.out.below ((Below.refl _ _).alloc (Nat.le_refl _) _)) _ 1 1 [(j : Int)] rfl (rd_one rfl) (by have := e3.out; omega) (by have := HB.out.size; simp at this ⊢; omega) ?_; intro v2 w2 ho2 hg2 hat2; have HO2 := Lib.hid ho2; have HB2 : Hid (Below w.heap.size w w2) := Lib.hid (below_own (HB.out.alloc HB.out.size _) (HO.out.below ((Below.refl _ _).alloc (Nat.le_refl _) _)) hg2 (Nat.le_refl _) (by have := HB.out.size; simp at this ⊢; omega)); have HS2 : Hid (w.heap.size + 1 ≤ w2.heap.size) := Lib.hid (by have a := hg2.size; have b := HS.out; simp at a; omega); clear ho2 hg2 hat2))
        go_roundw
        case rel => exact ⟨j + 1, by omega, by go_num, by rw [HE.out]; exact HO2.out, HB2.out, HS2.out⟩
        case measure => simp [intOf]; omega
      | false =>
        have HE : Hid (F (j + 1) = F j) := Lib.hid (by rw [e2.out]; simp)
        clear e2
        go_wp2
        go_roundw
        case rel => exact ⟨j + 1, by omega, by go_num, by rw [HE.out]; exact HO.out, HB.out, HS.out⟩
        case measure => simp [intOf]; omega
    · obtain rfl : j = n := by omega
      go_wp2
      go_ret
      exact ⟨_, rfl, HO.out, HB.out⟩
end
end Go.Proofs.YteejmocdagdeeaaDoor
