/- Several texts in one (squeeze.py): StW1 StW3 StW4. -/
import Derived.Test.YtkcnnamghpdplaaDoorBase
import Derived.BigQuiet
import Derived.Deep.MidRow
import Derived.Deep.Upon
import Derived.Lib.SliceRun
/- The stamp's own functions: what each does to the two blocks of a stamp, whatever it holds. -/
set_option linter.unusedSimpArgs false
set_option linter.unusedVariables false
namespace Go.Proofs.YtkcnnamghpdplaaDoor.Stp
open Go.RowKit

def Cells (w : World) (g : Nat) (cs : Array Value) (t : TypeId) : Prop := w.heap[g]? = some (.cells cs t (0, 0))
theorem Cells.cell {w : World} {g : Nat} {cs : Array Value} {t : TypeId} (h : Cells w g cs t) (i : Nat) : w.cell? ⟨g, i, none⟩ = cs[i]? := cell_of_row w g i cs t (0, 0) h
theorem Cells.frozen {w : World} {g : Nat} {cs : Array Value} {t : TypeId} (h : Cells w g cs t) (i : Nat) : w.frozen? ⟨g, i, none⟩ = false := frozen_of_row w g i cs t h
theorem Cells.set_ {w : World} {g : Nat} {cs : Array Value} {t : TypeId} (h : Cells w g cs t) (i : Nat) (v : Value) : Cells (w.setCell ⟨g, i, none⟩ v) g (cs.setIfInBounds i v) t := heap_setCell_same w g i cs t v h
theorem Cells.lt {w : World} {g : Nat} {cs : Array Value} {t : TypeId} (h : Cells w g cs t) : g < w.heap.size := (Array.getElem?_eq_some_iff.1 h).1
theorem Cells.below {w w' : World} {g : Nat} {cs : Array Value} {t : TypeId} (h : Cells w g cs t) (hb : Below w.heap.size w w') : Cells w' g cs t := (hb.block g h.lt).trans h
theorem Cells.far {w : World} {g k : Nat} {cs : Array Value} {t : TypeId} (h : Cells w g cs t) (i : Nat) (v : Value) (hk : g ≠ k) : Cells (w.setCell ⟨k, i, none⟩ v) g cs t := (heap_setCell_other w ⟨k, i, none⟩ g v hk).trans h

abbrev encS (p : Int × Int) : List Value := [.int .u64 p.1, .int .u32 p.2]
theorem encS_len : ∀ p, (encS p).length = 2 := fun _ => rfl
def rowA (cs : List (Int × Int)) : Array Value := (cs.flatMap encS).toArray
theorem rowA_at {cs : List (Int × Int)} {i : Nat} (hi : i < cs.length) : (rowA cs)[i * 2]? = some (.int .u64 cs[i].1) ∧ (rowA cs)[i * 2 + 1]? = some (.int .u32 cs[i].2) := by
  have h0 := flat_get encS_len cs i 0 (by omega)
  have h1 := flat_get encS_len cs i 1 (by omega)
  rw [Nat.add_zero] at h0
  simp only [rowA, List.getElem?_toArray, h0, h1, List.getElem?_eq_getElem hi]
  exact ⟨rfl, rfl⟩
/-- A stamp: its own block b, and the block g of its cells. -/
structure Phys (w : World) (b g n : Nat) (age cnt : Int) (cs : List (Int × Int)) : Prop where
  blk : Cells w b #[.slice (some ⟨g, 0, none⟩) n n, .int .u32 age, .int .i64 cnt] 147
  row : Cells w g (rowA cs) 149
  ne : b ≠ g
  len : cs.length = n
def age1 (a : Int) : Int := if 1 ≤ a then a else 1

theorem size_alloc (w : World) (o : Obj) : (w.alloc o).heap.size = w.heap.size + 1 := Array.size_push _
theorem second_new (w : World) (o o' : Obj) : ((w.alloc o).alloc o').heap[w.heap.size + 1]? = some o' := by
  have h := heap_alloc_new (w.alloc o) o'
  rwa [size_alloc] at h
theorem info_cell : (Tryd.prog.info? 149).map (fun i => (i.zero, i.size, i.bytes)) = some (some (.agg #[.int .u64 0, .int .u32 0]), 2, 16) := by kernel_rfl
theorem made_cells (n : Nat) : madeCells (Value.agg #[.int .u64 0, .int .u32 0]).cells (n * 2) = rowA (List.replicate n (0, 0)) := by
  apply Array.ext_getElem?
  intro i
  have hsz : (Value.agg #[.int .u64 0, .int .u32 0]).cells.size = 2 := rfl
  by_cases hi : i < n * 2
  · have hd : i = i / 2 * 2 + i % 2 := by omega
    have e : (rowA (List.replicate n ((0 : Int), (0 : Int))))[i]? = (encS ((0 : Int), (0 : Int)))[i % 2]? := by
      simp only [rowA, List.getElem?_toArray]
      rw [hd, flat_get encS_len _ _ _ (by omega), List.getElem?_replicate, if_pos (by omega), ← hd]
      rfl
    rw [e]
    simp only [madeCells]
    rcases Nat.mod_two_eq_zero_or_one i with h | h <;> simp [h, hi, Value.cells, encS]
  · rw [Array.getElem?_eq_none (by simp [madeCells]; omega), Array.getElem?_eq_none]
    simp only [rowA, List.size_toArray, flat_len encS_len, List.length_replicate]; omega
set_option maxHeartbeats 400000 in
theorem New_phys (n : Nat) (age : Int) (w : World) (hn : n ≤ 65536) (h0 : 0 ≤ age) (h1 : age ≤ 4294967295) :
    Calls Tryd.prog 69 #[.int .i64 n, .int .u32 age] w fun e w' => e = .returned (.tuple #[.pointer (some ⟨w.heap.size + 1, 0, none⟩), .nilIface]) ∧
      Phys w' (w.heap.size + 1) w.heap.size n (age1 age) 0 (List.replicate n (0, 0)) ∧ Below w.heap.size w w' := by
  have hmk : ∀ W : World, (Instr.makeSlice 145 (.int .i64 (n : Int)) (.int .i64 (n : Int))).run Tryd.prog W = .ok (.slice (some ⟨W.heap.size, 0, none⟩) n n) (W.alloc (.cells (rowA (List.replicate n (0, 0))) 149)) := fun W => by
    obtain ⟨i, hi, hz0, hz1, hz2⟩ := info_parts info_cell
    have h := run_make (P := Tryd.prog) W 145 149 i _ Tryd.underlying145 hi hz0 .i64 .i64 (n : Int) (n : Int) (by omega) (by omega) (by rw [hz2]; omega) (by omega)
    rw [h, hz1, Int.toNat_natCast]
    exact congrArg (fun c => Result.ok (Value.slice (some ⟨W.heap.size, 0, none⟩) n n) (W.alloc (.cells c 149))) (made_cells n)
  go_enter Tryd.func69, Tryd.ntmps69
  go_wp2
  all_goals
    rename_i hage
    go_ret2
    refine ⟨rfl, ⟨?_, (heap_alloc_old _ _ (by rw [size_alloc]; omega)).trans (heap_alloc_new _ _), by omega, by simp⟩, ((Below.refl _ _).alloc (Nat.le_refl _) _).alloc (by rw [size_alloc]; omega) _⟩
  · have e : age1 age = 1 := by unfold age1; rw [if_neg (by omega)]
    rw [e]
    exact second_new _ _ _
  · have e : age1 age = age := by unfold age1; rw [if_pos (by omega)]
    rw [e]
    exact second_new _ _ _

/-- Nothing but the two blocks has turned. -/
structure Touch (b g : Nat) (w w' : World) : Prop where
  os : w'.os = w.os
  tape : w'.tape = w.tape
  output : w'.output = w.output
  size : w'.heap.size = w.heap.size
  block : ∀ k, k ≠ b → k ≠ g → w'.heap[k]? = w.heap[k]?
theorem Touch.refl (b g : Nat) (w : World) : Touch b g w w := ⟨rfl, rfl, rfl, rfl, fun _ _ _ => rfl⟩
theorem Touch.trans {b g : Nat} {w w1 w2 : World} (h : Touch b g w w1) (k : Touch b g w1 w2) : Touch b g w w2 :=
  ⟨k.os.trans h.os, k.tape.trans h.tape, k.output.trans h.output, k.size.trans h.size, fun i hb hg => (k.block i hb hg).trans (h.block i hb hg)⟩
theorem Touch.draws {b g : Nat} {w w1 : World} (h : Touch b g w w1) (n : Nat) : Touch b g w (w1.drewN n) := ⟨h.os, h.tape, h.output, h.size, h.block⟩
theorem Touch.setB {b g : Nat} {w w1 : World} (h : Touch b g w w1) (i : Nat) (v : Value) : Touch b g w (w1.setCell ⟨b, i, none⟩ v) :=
  ⟨h.os, h.tape, h.output, by simpa [World.setCell] using h.size, fun k hb hg => (heap_setCell_other w1 ⟨b, i, none⟩ k v hb).trans (h.block k hb hg)⟩
theorem Touch.setG {b g : Nat} {w w1 : World} (h : Touch b g w w1) (i : Nat) (v : Value) : Touch b g w (w1.setCell ⟨g, i, none⟩ v) :=
  ⟨h.os, h.tape, h.output, by simpa [World.setCell] using h.size, fun k hb hg => (heap_setCell_other w1 ⟨g, i, none⟩ k v hg).trans (h.block k hb hg)⟩
theorem Phys.below {w w' : World} {b g n : Nat} {age cnt : Int} {cs : List (Int × Int)} (h : Phys w b g n age cnt cs) (hb : Below w.heap.size w w') : Phys w' b g n age cnt cs := ⟨h.blk.below hb, h.row.below hb, h.ne, h.len⟩
theorem Phys.touch {w w' : World} {b g b' g' n : Nat} {age cnt : Int} {cs : List (Int × Int)} (h : Phys w b g n age cnt cs) (ht : Touch b' g' w w') (h1 : b ≠ b') (h2 : b ≠ g') (h3 : g ≠ b') (h4 : g ≠ g') : Phys w' b g n age cnt cs :=
  ⟨(ht.block b h1 h2).trans h.blk, (ht.block g h3 h4).trans h.row, h.ne, h.len⟩

section
variable {b g n : Nat} {age cnt : Int} {cs : List (Int × Int)} {w : World}
theorem rowA_set {cs : List (Int × Int)} {i : Nat} (hi : i < cs.length) (v a : Int) : ((rowA cs).setIfInBounds (i * 2) (.int .u64 v)).setIfInBounds (i * 2 + 1) (.int .u32 a) = rowA (cs.set i (v, a)) := by
  apply Array.ext_getElem?
  intro j
  have hl : (cs.flatMap encS).length = cs.length * 2 := flat_len encS_len cs
  have hd : j = j / 2 * 2 + j % 2 := by omega
  have hr : (rowA (cs.set i (v, a)))[j]? = ((cs.set i (v, a))[j / 2]?).bind fun x => (encS x)[j % 2]? := by
    simp only [rowA, List.getElem?_toArray]
    rw [hd, flat_get encS_len _ _ _ (by omega), ← hd]
  have hr0 : (rowA cs)[j]? = (cs[j / 2]?).bind fun x => (encS x)[j % 2]? := by
    simp only [rowA, List.getElem?_toArray]
    rw [hd, flat_get encS_len _ _ _ (by omega), ← hd]
  rw [hr, Array.getElem?_setIfInBounds, Array.getElem?_setIfInBounds, hr0, Array.size_setIfInBounds]
  have hs : (rowA cs).size = cs.length * 2 := by simp only [rowA, List.size_toArray, hl]
  rw [hs]
  by_cases h1 : i * 2 + 1 = j
  · have e : j / 2 = i := by omega
    have e2 : j % 2 = 1 := by omega
    rw [if_pos h1, if_pos (by omega), e, e2, List.getElem?_set_self hi]; rfl
  · rw [if_neg h1]
    by_cases h2 : i * 2 = j
    · have e : j / 2 = i := by omega
      have e2 : j % 2 = 0 := by omega
      rw [if_pos h2, if_pos (by omega), e, e2, List.getElem?_set_self hi]; rfl
    · rw [if_neg h2, List.getElem?_set_ne (by omega)]
theorem Phys.draws (h : Phys w b g n age cnt cs) (k : Nat) : Phys (w.drewN k) b g n age cnt cs := ⟨h.blk, h.row, h.ne, h.len⟩
theorem Phys.setCount (h : Phys w b g n age cnt cs) (c : Int) : Phys (w.setCell ⟨b, 2, none⟩ (.int .i64 c)) b g n age c cs := ⟨h.blk.set_ 2 _, h.row.far 2 _ h.ne.symm, h.ne, h.len⟩
theorem Phys.setAge (h : Phys w b g n age cnt cs) (c : Int) : Phys (w.setCell ⟨b, 1, none⟩ (.int .u32 c)) b g n c cnt cs := ⟨h.blk.set_ 1 _, h.row.far 1 _ h.ne.symm, h.ne, h.len⟩
theorem Phys.setAt (h : Phys w b g n age cnt cs) {i : Nat} (hi : i < n) (v a : Int) : Phys ((w.setCell ⟨g, i * 2, none⟩ (.int .u64 v)).setCell ⟨g, i * 2 + 1, none⟩ (.int .u32 a)) b g n age cnt (cs.set i (v, a)) :=
  ⟨(h.blk.far _ _ h.ne).far _ _ h.ne, by have e := (h.row.set_ (i * 2) (.int .u64 v)).set_ (i * 2 + 1) (.int .u32 a); rwa [rowA_set (by have := h.len; omega)] at e, h.ne, by rw [List.length_set, h.len]⟩

set_option maxHeartbeats 800000 in
theorem Set_in (h : Phys w b g n age cnt cs) {i : Nat} (hi : i < n) (v : Int) (hn : n ≤ 65536) (hc0 : 0 ≤ cnt) (hc1 : cnt ≤ 65536) :
    Calls Tryd.prog 70 #[.pointer (some ⟨b, 0, none⟩), .int .i64 i, .int .u64 v] w fun e w' => e = .returned .nilIface ∧
      Phys w' b g n age (if (cs[i]'(by have := h.len; omega)).2 = age then cnt else cnt + 1) (cs.set i (v, age)) ∧ Touch b g w w' := by
  have c0 := h.blk.cell 0
  have c1 := h.blk.cell 1
  have c2 := h.blk.cell 2
  have hi' : i < cs.length := by have := h.len; omega
  obtain ⟨r0, r1⟩ := rowA_at hi'
  have d0 := (h.row.cell (i * 2)).trans r0
  have d1 := (h.row.cell (i * 2 + 1)).trans r1
  have f0 := h.blk.frozen
  have f1 := h.row.frozen
  by_cases hage : cs[i].2 = age
  · rw [if_pos hage]
    rw [hage] at d1
    have H := Lib.hid h
    clear h r0 r1
    go_enter Tryd.func70, Tryd.ntmps70
    go_wp2_with (first | go_quiet (fail) | go_region)
    go_ret
    exact ⟨rfl, (H.out.draws _).setAt hi v age, ((Touch.refl b g w).draws _).setG _ _ |>.setG _ _⟩
  · rw [if_neg hage]
    have hne : (cs[i].2 == age) = false := by rw [beq_eq_false_iff_ne]; exact hage
    have hdg : decide (cs[i].2 = age) = false := decide_eq_false hage
    have hbg : ¬ b = g := h.ne
    have hgb : ¬ g = b := h.ne.symm
    have H := Lib.hid h
    clear h r0 r1
    generalize cs[i].2 = old at *
    go_enter Tryd.func70, Tryd.ntmps70
    go_wp2_with (first | go_quiet (fail) | go_region)
    go_ret
    exact ⟨rfl, (((H.out.draws _).setCount _).setAt hi v age).draws 1, (((((Touch.refl b g w).draws _).setB _ _).setG _ _).setG _ _).draws 1⟩
theorem Set_out (h : Phys w b g n age cnt cs) {i : Int} (hi : i < 0 ∨ (n : Int) ≤ i) (v : Int) (hn : n ≤ 65536) (h0 : -9223372036854775808 ≤ i) (h1 : i ≤ 9223372036854775807) :
    Calls Tryd.prog 70 #[.pointer (some ⟨b, 0, none⟩), .int .i64 i, .int .u64 v] w fun e w' => e = .returned (.iface 56 (.int .i64 7)) ∧ w' = w := by
  have c0 := h.blk.cell 0
  clear h
  rcases hi with hi | hi
  · go_enter Tryd.func70, Tryd.ntmps70
    go_wp2
    go_ret
    exact ⟨rfl, rfl⟩
  · have hneg : ¬ i < 0 := by omega
    obtain ⟨j, rfl⟩ : ∃ j : Nat, i = j := ⟨i.toNat, by omega⟩
    go_enter Tryd.func70, Tryd.ntmps70
    go_wp2
    go_ret
    exact ⟨rfl, rfl⟩

set_option maxHeartbeats 800000 in
theorem Get_in (h : Phys w b g n age cnt cs) {i : Nat} (hi : i < n) (hn : n ≤ 65536) :
    Calls Tryd.prog 48 #[.pointer (some ⟨b, 0, none⟩), .int .i64 i] w fun e w' =>
      e = .returned (if (cs[i]'(by have := h.len; omega)).2 = age then .tuple #[.int .u64 (cs[i]'(by have := h.len; omega)).1, .bool true] else .tuple #[.int .u64 0, .bool false]) ∧ Drawn w w' := by
  have c0 := h.blk.cell 0
  have c1 := h.blk.cell 1
  have hi' : i < cs.length := by have := h.len; omega
  obtain ⟨r0, r1⟩ := rowA_at hi'
  have d0 := (h.row.cell (i * 2)).trans r0
  have d1 := (h.row.cell (i * 2 + 1)).trans r1
  clear r0 r1
  have g1 : decide ((i : Int) < 0) = false := decide_eq_false (by omega)
  have g2 : decide (n ≤ i) = false := decide_eq_false (by omega)
  by_cases hage : cs[i].2 = age
  · rw [if_pos hage]
    rw [hage] at d1
    generalize cs[i].1 = x at *
    clear h hage
    go_enter Tryd.func48, Tryd.ntmps48
    go_wp2_with (go_quiet (fail))
    go_ret2
    exact ⟨rfl, _, rfl⟩
  · rw [if_neg hage]
    have hne : (cs[i].2 != age) = true := by simp [bne, hage]
    clear h hage
    generalize cs[i].2 = old at *
    go_enter Tryd.func48, Tryd.ntmps48
    go_wp2_with (go_quiet (fail))
    go_ret2
    exact ⟨rfl, _, rfl⟩
theorem Get_out (h : Phys w b g n age cnt cs) {i : Int} (hi : i < 0 ∨ (n : Int) ≤ i) (hn : n ≤ 65536) (h0 : -9223372036854775808 ≤ i) (h1 : i ≤ 9223372036854775807) :
    Calls Tryd.prog 48 #[.pointer (some ⟨b, 0, none⟩), .int .i64 i] w fun e w' => e = .returned (.tuple #[.int .u64 0, .bool false]) ∧ Drawn w w' := by
  have c0 := h.blk.cell 0
  clear h
  rcases hi with hi | hi
  · have g1 : decide (i < 0) = true := decide_eq_true hi
    go_enter Tryd.func48, Tryd.ntmps48
    go_wp2_with (go_quiet (fail))
    go_ret2
    exact ⟨rfl, _, rfl⟩
  · have hneg : ¬ i < 0 := by omega
    obtain ⟨j, rfl⟩ : ∃ j : Nat, i = j := ⟨i.toNat, by omega⟩
    have g1 : decide ((j : Int) < 0) = false := decide_eq_false (by omega)
    have g2 : decide (n ≤ j) = true := decide_eq_true (by omega)
    go_enter Tryd.func48, Tryd.ntmps48
    go_wp2_with (go_quiet (fail))
    go_ret2
    exact ⟨rfl, _, rfl⟩
end
end Go.Proofs.YtkcnnamghpdplaaDoor.Stp
/- The stamp's All, and the comparison of two lists of numbers. -/
set_option linter.unusedSimpArgs false
set_option linter.unusedVariables false
namespace Go.Proofs.YtkcnnamghpdplaaDoor.Stp
open Go.RowKit

abbrev i64s (x : Int) : List Value := [.int .i64 x]
theorem i64s_len : ∀ x, (i64s x).length = 1 := fun _ => rfl
theorem i64s_one : ∀ x, ∀ u ∈ i64s x, u.oneCell' = true := by
  intro x u hu
  simp only [List.mem_cons, List.not_mem_nil, or_false] at hu
  rw [hu]; rfl
abbrev OwnI (w : World) (base : Nat) (v : Value) (l : List Int) : Prop := Own 3 1 i64s w base v l
abbrev RdI (w : World) (A : Option Addr) (n : Nat) (l : List Int) : Prop := Rd 1 i64s w A n l
theorem info_int : (Tryd.prog.info? 3).map (fun i => (i.zero, i.size, i.bytes)) = some (some (.int .i64 0), 1, 8) := by kernel_rfl
theorem info_cell2 : (Tryd.prog.info? 149).map (·.size) = some 2 := by kernel_rfl
/-- A list of numbers made anew. -/
def MadeI (w : World) (l : List Int) (e : Ending) (w' : World) : Prop := ∃ v, e = .returned v ∧ OwnI w' w.heap.size v l ∧ Below w.heap.size w w'

theorem below_draw_alloc (w : World) (n : Nat) (o : Obj) : Below w.heap.size w ((w.drewN n).alloc o) :=
  Below.trans (b := w.drewN n) ⟨rfl, rfl, rfl, Nat.le_refl _, fun _ _ => rfl⟩ ((Below.refl w.heap.size (w.drewN n)).alloc (show w.heap.size ≤ w.heap.size from Nat.le_refl _) o)
theorem rd_one {w : World} {k : Nat} {x : Int} (hk : w.heap.size = k) : RdI (w.alloc (.cells #[.int .i64 x] 3)) (some ⟨k, 0, none⟩) 1 [x] := by
  subst hk
  exact rd_new i64s_len w 3 [x]
/-- the places below j at which p holds -/
def picks (p : Nat → Bool) (j : Nat) : List Int := ((List.range j).filter p).map Int.ofNat
theorem picks_succ (p : Nat → Bool) (j : Nat) : picks p (j + 1) = picks p j ++ if p j then [(j : Int)] else [] := by
  unfold picks
  rw [List.range_succ, List.filter_append, List.map_append]
  by_cases h : p j <;> simp [h]
theorem picks_zero (p : Nat → Bool) : picks p 0 = [] := rfl
theorem picks_len (p : Nat → Bool) (j : Nat) : (picks p j).length ≤ j := by
  unfold picks
  rw [List.length_map]
  exact Nat.le_trans (List.length_filter_le _ _) (Nat.le_of_eq List.length_range)
/-- is the place i set at this age? -/
def isAt (cs : List (Int × Int)) (age : Int) (i : Nat) : Bool := (cs.getD i (0, 0)).2 == age
theorem isAt_eq {cs : List (Int × Int)} {i : Nat} (hi : i < cs.length) (age : Int) : isAt cs age i = (cs[i].2 == age) := by
  unfold isAt
  rw [List.getD_eq_getElem?_getD, List.getElem?_eq_getElem hi]; rfl
section
variable {b g n : Nat} {age cnt : Int} {cs : List (Int × Int)} {w : World}
set_option maxHeartbeats 800000 in
theorem All_phys (h : Phys w b g n age cnt cs) (hn : n ≤ 65536) :
    Calls Tryd.prog 47 #[.pointer (some ⟨b, 0, none⟩)] w (MadeI w (picks (isAt cs age) n)) := by
  have c0 := h.blk.cell 0
  have H := Lib.hid h
  have hl := Lib.hid h.len
  clear h
  go_enter Tryd.func47, Tryd.ntmps47
  go_wp2_with fail
  go_loopw [3, 13] (fun v i wr => ∃ j : Nat, j ≤ n ∧ i = .int .i64 j ∧ OwnI wr w.heap.size v (picks (isAt cs age) j) ∧ Below w.heap.size w wr) (fun _ i _ => n - (intOf i).toNat)
  case atStart => exact ⟨0, by omega, rfl, by rw [picks_zero]; exact Own.nil _ _ _ _ _, Below.refl _ _⟩
  case round =>
    obtain ⟨j, hj, rfl, ho, hb⟩ := hrel
    have HO := Lib.hid ho
    have HB := Lib.hid hb
    clear ho hb
    by_cases hlt : j < n
    · have hs := Lib.hid (picks_succ (isAt cs age) j)
      have hp := H.out.below HB.out
      have hi' : j < cs.length := by have := hl.out; omega
      obtain ⟨r0, r1⟩ := rowA_at hi'
      have d0 := (hp.row.cell (j * 2)).trans r0
      have d1 := (hp.row.cell (j * 2 + 1)).trans r1
      have k1 := hp.blk.cell 1
      have hat := isAt_eq hi' age
      have HP := Lib.hid hp
      clear r0 r1 hp
      generalize cs[j].1 = x at *
      generalize cs[j].2 = a at *
      have hpl := Lib.hid (picks_len (isAt cs age) j)
      have B1 := HB.out.alloc HB.out.size (.cells #[.int .u64 x, .int .u32 a] 149)
      have HO1 := Lib.hid (HO.out.below ((Below.refl _ _).alloc (Nat.le_refl _) (.cells #[.int .u64 x, .int .u32 a] 149)))
      have HB1 := Lib.hid B1
      have q1 := (HP.out.below ((Below.refl _ _).alloc (Nat.le_refl _) (.cells #[.int .u64 x, .int .u32 a] 149))).blk.cell 1
      have q2 : (wr.alloc (.cells #[.int .u64 x, .int .u32 a] 149)).cell? ⟨wr.heap.size, 1, none⟩ = some (.int .u32 a) := (cell_of_row _ _ 1 _ _ _ (heap_alloc_new wr _)).trans rfl
      clear B1 k1
      by_cases ha : a = age
      · subst ha
        have hs1 : Hid (picks (isAt cs a) (j + 1) = picks (isAt cs a) j ++ [(j : Int)]) := Lib.hid (by rw [hs.out, hat]; simp)
        clear hs hat
        go_wp2_with (first | go_quiet (fail) | (at_builtin; go_loud (refine wpList_append_rd rfl (.tmp 25) (.tmp 27) 85 rfl 3 (.int .i64 0) 8 Tryd.underlying85 info_int rfl (by omega) (by omega) i64s_len i64s_one w.heap.size u3 (picks (isAt cs a) j) rfl (HO1.out.below (below_draw_alloc _ _ _)) _ 1 1 [(j : Int)] rfl (rd_one (by simp)) (by have := hpl.out; omega) (by have := HB1.out.size; simp at this ⊢; omega) ?_; intro v2 w2 ho2 hg2 hat2; have HO2 := Lib.hid ho2; have HB2 : Hid (Below w.heap.size w w2) := Lib.hid (below_own (HB1.out.trans (below_draw_alloc _ _ _ |>.mono HB1.out.size)) (HO1.out.below (below_draw_alloc _ _ _)) hg2 (Nat.le_refl _) (by have := HB1.out.size; simp at this ⊢; omega)); clear ho2 hg2 hat2)))
        go_roundw
        case rel => exact ⟨j + 1, by omega, by go_num, by rw [hs1.out]; exact HO2.out, HB2.out⟩
        case measure => simp [intOf]; omega
      · have ha2 : (a == age) = false := by rw [beq_eq_false_iff_ne]; exact ha
        have hs1 : Hid (picks (isAt cs age) (j + 1) = picks (isAt cs age) j) := Lib.hid (by rw [hs.out, hat, ha2]; simp)
        clear hs hat
        go_wp2_with (go_quiet (fail))
        go_roundw
        case rel => exact ⟨j + 1, by omega, by go_num, by rw [hs1.out]; exact HO1.out.below ⟨rfl, rfl, rfl, Nat.le_refl _, fun _ _ => rfl⟩, HB1.out.trans ⟨rfl, rfl, rfl, Nat.le_refl _, fun _ _ => rfl⟩⟩
        case measure => simp [intOf]; omega
    · obtain rfl : j = n := by omega
      go_wp2
      go_ret
      exact ⟨_, rfl, HO.out, HB.out⟩
end
end Go.Proofs.YtkcnnamghpdplaaDoor.Stp
/- What a stamp holds, as a list of perhaps-numbers; each call by it. The comparison of two lists of numbers. -/
set_option linter.unusedSimpArgs false
set_option linter.unusedVariables false
namespace Go.Proofs.YtkcnnamghpdplaaDoor.Stp
open Go.RowKit

/-! ### what a stamp holds -/
def seen (age : Int) (cs : List (Int × Int)) : List (Option Int) := cs.map fun p => if p.2 = age then some p.1 else none
def St (w : World) (b g : Nat) (m : List (Option Int)) : Prop :=
  ∃ age cnt cs, Phys w b g m.length age cnt cs ∧ 1 ≤ age ∧ age ≤ 4294967295 ∧ (∀ p ∈ cs, 0 ≤ p.2 ∧ p.2 ≤ age) ∧ cnt = (m.countP Option.isSome : Nat) ∧ seen age cs = m
def look (m : List (Option Int)) (i : Int) : Option Int := if 0 ≤ i then m.getD i.toNat none else none
def put (m : List (Option Int)) (i v : Int) : List (Option Int) := if 0 ≤ i then m.set i.toNat (some v) else m
def got : Option Int → Value
  | some v => .tuple #[.int .u64 v, .bool true]
  | none => .tuple #[.int .u64 0, .bool false]
def empty (n : Nat) : List (Option Int) := List.replicate n none
def marks (m : List (Option Int)) : List Int := picks (fun i => (m.getD i none).isSome) m.length
def held (m : List (Option Int)) : Int := (m.countP Option.isSome : Nat)
theorem put_len (m : List (Option Int)) (i v : Int) : (put m i v).length = m.length := by unfold put; split <;> simp
section
variable {b g : Nat} {m : List (Option Int)} {w : World}
theorem held_empty (n : Nat) : held (empty n) = 0 := by simp [held, empty, List.countP_replicate]
theorem seen_none {age : Int} {cs : List (Int × Int)} (h : ∀ p ∈ cs, ¬ p.2 = age) : seen age cs = empty cs.length := by
  unfold seen empty
  rw [List.eq_replicate_iff]
  refine ⟨by simp, fun x hx => ?_⟩
  obtain ⟨p, hp, rfl⟩ := List.mem_map.1 hx
  rw [if_neg (h p hp)]
theorem St.below {w' : World} (h : St w b g m) (hb : Below w.heap.size w w') : St w' b g m := by
  obtain ⟨age, cnt, cs, hp, r⟩ := h
  exact ⟨age, cnt, cs, hp.below hb, r⟩
theorem St.touch {b' g' : Nat} {w' : World} (h : St w b g m) (ht : Touch b' g' w w') (h1 : b ≠ b') (h2 : b ≠ g') (h3 : g ≠ b') (h4 : g ≠ g') : St w' b g m := by
  obtain ⟨age, cnt, cs, hp, r⟩ := h
  exact ⟨age, cnt, cs, hp.touch ht h1 h2 h3 h4, r⟩
theorem St.drawn {w' : World} (h : St w b g m) (hd : Drawn w w') : St w' b g m := h.below (hd.below _)
theorem St.lt (h : St w b g m) : b < w.heap.size ∧ g < w.heap.size := by
  obtain ⟨age, cnt, cs, hp, r⟩ := h
  exact ⟨hp.blk.lt, hp.row.lt⟩
theorem Touch.below {w0 w' : World} {B : Nat} (h : Touch b g w w') (hb : Below B w0 w) (h1 : B ≤ b) (h2 : B ≤ g) : Below B w0 w' :=
  ⟨h.os.trans hb.os, h.tape.trans hb.tape, h.output.trans hb.output, by rw [h.size]; exact hb.size, fun k hk => (h.block k (by omega) (by omega)).trans (hb.block k hk)⟩

theorem New_St (n : Nat) (age : Int) (w : World) (hn : n ≤ 65536) (h0 : 0 ≤ age) (h1 : age ≤ 4294967295) :
    Calls Tryd.prog 69 #[.int .i64 n, .int .u32 age] w fun e w' => e = .returned (.tuple #[.pointer (some ⟨w.heap.size + 1, 0, none⟩), .nilIface]) ∧
      St w' (w.heap.size + 1) w.heap.size (empty n) ∧ Below w.heap.size w w' := by
  refine (New_phys n age w hn h0 h1).mono ?_
  rintro e w' ⟨rfl, hp, hb⟩
  have ha : 1 ≤ age1 age ∧ age1 age ≤ 4294967295 := by unfold age1; split <;> omega
  have hr : ∀ p ∈ List.replicate n ((0 : Int), (0 : Int)), p = (0, 0) := fun p hp => List.eq_of_mem_replicate hp
  refine ⟨rfl, ⟨_, _, _, by rw [empty, List.length_replicate]; exact hp, ha.1, ha.2, fun p hp => ?_, (held_empty n).symm, ?_⟩, hb⟩
  · rw [hr p hp]; exact ⟨by simp, by simp; omega⟩
  · rw [seen_none (fun p hp => by rw [hr p hp]; simp; omega), List.length_replicate]
theorem Set_St (h : St w b g m) (i v : Int) (hm : m.length ≤ 65536) (h0 : -9223372036854775808 ≤ i) (h1 : i ≤ 9223372036854775807) :
    Calls Tryd.prog 70 #[.pointer (some ⟨b, 0, none⟩), .int .i64 i, .int .u64 v] w fun e w' =>
      e = .returned (if 0 ≤ i ∧ i < m.length then .nilIface else .iface 56 (.int .i64 7)) ∧ St w' b g (put m i v) ∧ Touch b g w w' := by
  obtain ⟨age, cnt, cs, hp, ha, hb, hc, hcnt, hs⟩ := h
  by_cases hi : 0 ≤ i ∧ i < m.length
  · obtain ⟨k, rfl⟩ : ∃ k : Nat, i = k := ⟨i.toNat, by omega⟩
    have hk : k < m.length := by omega
    have hk' : k < cs.length := by have := hp.len; omega
    have hmk : m[k] = if cs[k].2 = age then some cs[k].1 else none := by
      have e : m[k]? = some (if cs[k].2 = age then some cs[k].1 else none) := by rw [← hs]; simp [seen, List.getElem?_eq_getElem hk']
      rw [List.getElem?_eq_getElem hk] at e
      exact Option.some.inj e
    have hle : m.countP Option.isSome ≤ m.length := List.countP_le_length
    refine (Set_in hp hk v hm (by omega) (by omega)).mono ?_
    rintro e w' ⟨rfl, hp', ht⟩
    refine ⟨by rw [if_pos hi], ⟨age, _, _, by rw [put_len]; exact hp', ha, hb, fun p hp => ?_, ?_, ?_⟩, ht⟩
    · rcases List.mem_or_eq_of_mem_set hp with h | h
      · exact hc p h
      · subst h; exact ⟨by simp; omega, by simp⟩
    · unfold put
      rw [if_pos hi.1, Int.toNat_natCast, List.countP_set hk]
      by_cases hx : cs[k].2 = age
      · rw [if_pos hx] at hmk ⊢
        have hpos : 0 < m.countP Option.isSome := List.countP_pos_iff.2 ⟨m[k], List.getElem_mem hk, by rw [hmk]; rfl⟩
        rw [hmk]
        simp
        omega
      · rw [if_neg hx] at hmk ⊢
        rw [hmk]
        simp
        omega
    · unfold put seen
      rw [if_pos hi.1, Int.toNat_natCast, List.map_set, if_pos rfl]
      congr 1
  · have hout : i < 0 ∨ (m.length : Int) ≤ i := by omega
    refine (Set_out hp hout v hm h0 h1).mono ?_
    rintro e w' ⟨rfl, rfl⟩
    have e : put m i v = m := by
      unfold put
      split
      · rw [List.set_eq_of_length_le (by omega)]
      · rfl
    rw [e]
    exact ⟨by rw [if_neg hi], ⟨age, cnt, cs, hp, ha, hb, hc, hcnt, hs⟩, Touch.refl _ _ _⟩
theorem Get_St (h : St w b g m) (i : Int) (hm : m.length ≤ 65536) (h0 : -9223372036854775808 ≤ i) (h1 : i ≤ 9223372036854775807) :
    Calls Tryd.prog 48 #[.pointer (some ⟨b, 0, none⟩), .int .i64 i] w fun e w' => e = .returned (got (look m i)) ∧ Drawn w w' := by
  obtain ⟨age, cnt, cs, hp, ha, hb, hc, hcnt, hs⟩ := h
  by_cases hi : 0 ≤ i ∧ i < m.length
  · obtain ⟨k, rfl⟩ : ∃ k : Nat, i = k := ⟨i.toNat, by omega⟩
    have hk : k < m.length := by omega
    have hk' : k < cs.length := by have := hp.len; omega
    refine (Get_in hp hk hm).mono ?_
    rintro e w' ⟨rfl, hd⟩
    refine ⟨?_, hd⟩
    have e : m[k]? = some (if cs[k].2 = age then some cs[k].1 else none) := by rw [← hs]; simp [seen, List.getElem?_eq_getElem hk']
    unfold look
    rw [if_pos hi.1, Int.toNat_natCast, List.getD_eq_getElem?_getD, e]
    by_cases hx : cs[k].2 = age
    · simp only [if_pos hx]; rfl
    · simp only [if_neg hx]; rfl
  · have hout : i < 0 ∨ (m.length : Int) ≤ i := by omega
    refine (Get_out hp hout hm h0 h1).mono ?_
    rintro e w' ⟨rfl, hd⟩
    refine ⟨?_, hd⟩
    have e : look m i = none := by
      unfold look
      split
      · rw [List.getD_eq_getElem?_getD, List.getElem?_eq_none (by omega)]; rfl
      · rfl
    rw [e]; rfl
theorem All_St (h : St w b g m) (hm : m.length ≤ 65536) :
    Calls Tryd.prog 47 #[.pointer (some ⟨b, 0, none⟩)] w (MadeI w (marks m)) := by
  obtain ⟨age, cnt, cs, hp, ha, hb, hc, hcnt, hs⟩ := h
  have e : picks (isAt cs age) m.length = marks m := by
    unfold marks picks
    congr 1
    refine List.filter_congr fun i hi => ?_
    have hi' : i < cs.length := by rw [hp.len]; exact List.mem_range.1 hi
    have e : m[i]? = some (if cs[i].2 = age then some cs[i].1 else none) := by rw [← hs]; simp [seen, List.getElem?_eq_getElem hi']
    rw [isAt_eq hi', List.getD_eq_getElem?_getD, e]
    by_cases hx : cs[i].2 = age <;> simp [hx]
  have := All_phys hp hm
  rwa [e] at this
end
end Go.Proofs.YtkcnnamghpdplaaDoor.Stp
