/- The stamp's own functions: what each does to the two blocks of a stamp, whatever it holds. -/
import Derived.Test.YtkcnnamghpdplaaBase
import Derived.BigQuiet
import Derived.Deep.MidRow
import Derived.Deep.Upon
import Derived.Lib.SliceRun
set_option linter.unusedSimpArgs false
set_option linter.unusedVariables false
namespace Go.Proofs.Ytkcnnamghpdplaa.Stp
open Go.RowKit

def Cells (w : World) (g : Nat) (cs : Array Value) (t : TypeId) : Prop := w.heap[g]? = some (.cells cs t (0, 0))
theorem Cells.cell {w : World} {g : Nat} {cs : Array Value} {t : TypeId} (h : Cells w g cs t) (i : Nat) : w.cell? ⟨g, i, none⟩ = cs[i]? := cell_of_row w g i cs t (0, 0) h
theorem Cells.frozen {w : World} {g : Nat} {cs : Array Value} {t : TypeId} (h : Cells w g cs t) (i : Nat) : w.frozen? ⟨g, i, none⟩ = false := frozen_of_row w g i cs t h
theorem Cells.set_ {w : World} {g : Nat} {cs : Array Value} {t : TypeId} (h : Cells w g cs t) (i : Nat) (v : Value) : Cells (w.setCell ⟨g, i, none⟩ v) g (cs.setIfInBounds i v) t := heap_setCell_same w g i cs t v h
theorem Cells.lt {w : World} {g : Nat} {cs : Array Value} {t : TypeId} (h : Cells w g cs t) : g < w.heap.size := (Array.getElem?_eq_some_iff.1 h).1
theorem Cells.below {w w' : World} {g : Nat} {cs : Array Value} {t : TypeId} (h : Cells w g cs t) (hb : Below w.heap.size w w') : Cells w' g cs t := (hb.block g h.lt).trans h
theorem Cells.far {w : World} {g k : Nat} {cs : Array Value} {t : TypeId} (h : Cells w g cs t) (i : Nat) (v : Value) (hk : g ≠ k) : Cells (w.setCell ⟨k, i, none⟩ v) g cs t := (heap_setCell_other w ⟨k, i, none⟩ g v hk).trans h

abbrev encS (p : Int × Int) : List Value := [.int .u64 p.1, .int .u32 p.2]
theorem encS_len : ∀ p, (encS p).length = 2 := fun _ => rfl
def rowA (cs : List (Int × Int)) : Array Value := (cs.flatMap encS).toArray
theorem rowA_at {cs : List (Int × Int)} {i : Nat} (hi : i < cs.length) : (rowA cs)[i * 2]? = some (.int .u64 cs[i].1) ∧ (rowA cs)[i * 2 + 1]? = some (.int .u32 cs[i].2) := by
  have h0 := flat_get encS_len cs i 0 (by omega)
  have h1 := flat_get encS_len cs i 1 (by omega)
  rw [Nat.add_zero] at h0
  simp only [rowA, List.getElem?_toArray, h0, h1, List.getElem?_eq_getElem hi]
  exact ⟨rfl, rfl⟩
/-- A stamp: its own block b, and the block g of its cells. -/
structure Phys (w : World) (b g n : Nat) (age cnt : Int) (cs : List (Int × Int)) : Prop where
  blk : Cells w b #[.slice (some ⟨g, 0, none⟩) n n, .int .u32 age, .int .i64 cnt] 111
  row : Cells w g (rowA cs) 113
  ne : b ≠ g
  len : cs.length = n
def age1 (a : Int) : Int := if 1 ≤ a then a else 1

theorem size_alloc (w : World) (o : Obj) : (w.alloc o).heap.size = w.heap.size + 1 := Array.size_push _
theorem second_new (w : World) (o o' : Obj) : ((w.alloc o).alloc o').heap[w.heap.size + 1]? = some o' := by
  have h := heap_alloc_new (w.alloc o) o'
  rwa [size_alloc] at h
theorem info_cell : (Try.prog.info? 113).map (fun i => (i.zero, i.size, i.bytes)) = some (some (.agg #[.int .u64 0, .int .u32 0]), 2, 16) := by kernel_rfl
theorem made_cells (n : Nat) : madeCells (Value.agg #[.int .u64 0, .int .u32 0]).cells (n * 2) = rowA (List.replicate n (0, 0)) := by
  apply Array.ext_getElem?
  intro i
  have hsz : (Value.agg #[.int .u64 0, .int .u32 0]).cells.size = 2 := rfl
  by_cases hi : i < n * 2
  · have hd : i = i / 2 * 2 + i % 2 := by omega
    have e : (rowA (List.replicate n ((0 : Int), (0 : Int))))[i]? = (encS ((0 : Int), (0 : Int)))[i % 2]? := by
      simp only [rowA, List.getElem?_toArray]
      rw [hd, flat_get encS_len _ _ _ (by omega), List.getElem?_replicate, if_pos (by omega), ← hd]
      rfl
    rw [e]
    simp only [madeCells]
    rcases Nat.mod_two_eq_zero_or_one i with h | h <;> simp [h, hi, Value.cells, encS]
  · rw [Array.getElem?_eq_none (by simp [madeCells]; omega), Array.getElem?_eq_none]
    simp only [rowA, List.size_toArray, flat_len encS_len, List.length_replicate]; omega
set_option maxHeartbeats 400000 in
theorem New_phys (n : Nat) (age : Int) (w : World) (hn : n ≤ 65536) (h0 : 0 ≤ age) (h1 : age ≤ 4294967295) :
    Calls Try.prog 51 #[.int .i64 n, .int .u32 age] w fun e w' => e = .returned (.tuple #[.pointer (some ⟨w.heap.size + 1, 0, none⟩), .nilIface]) ∧
      Phys w' (w.heap.size + 1) w.heap.size n (age1 age) 0 (List.replicate n (0, 0)) ∧ Below w.heap.size w w' := by
  have hmk : ∀ W : World, (Instr.makeSlice 109 (.int .i64 (n : Int)) (.int .i64 (n : Int))).run Try.prog W = .ok (.slice (some ⟨W.heap.size, 0, none⟩) n n) (W.alloc (.cells (rowA (List.replicate n (0, 0))) 113)) := fun W => by
    obtain ⟨i, hi, hz0, hz1, hz2⟩ := info_parts info_cell
    have h := run_make (P := Try.prog) W 109 113 i _ Try.underlying109 hi hz0 .i64 .i64 (n : Int) (n : Int) (by omega) (by omega) (by rw [hz2]; omega) (by omega)
    rw [h, hz1, Int.toNat_natCast]
    exact congrArg (fun c => Result.ok (Value.slice (some ⟨W.heap.size, 0, none⟩) n n) (W.alloc (.cells c 113))) (made_cells n)
  go_enter Try.func51, Try.ntmps51
  go_wp2
  all_goals
    rename_i hage
    go_ret2
    refine ⟨rfl, ⟨?_, (heap_alloc_old _ _ (by rw [size_alloc]; omega)).trans (heap_alloc_new _ _), by omega, by simp⟩, ((Below.refl _ _).alloc (Nat.le_refl _) _).alloc (by rw [size_alloc]; omega) _⟩
  · have e : age1 age = 1 := by unfold age1; rw [if_neg (by omega)]
    rw [e]
    exact second_new _ _ _
  · have e : age1 age = age := by unfold age1; rw [if_pos (by omega)]
    rw [e]
    exact second_new _ _ _

/-- Nothing but the two blocks has turned. -/
structure Touch (b g : Nat) (w w' : World) : Prop where
  os : w'.os = w.os
  tape : w'.tape = w.tape
  output : w'.output = w.output
  size : w'.heap.size = w.heap.size
  block : ∀ k, k ≠ b → k ≠ g → w'.heap[k]? = w.heap[k]?
theorem Touch.refl (b g : Nat) (w : World) : Touch b g w w := ⟨rfl, rfl, rfl, rfl, fun _ _ _ => rfl⟩
theorem Touch.trans {b g : Nat} {w w1 w2 : World} (h : Touch b g w w1) (k : Touch b g w1 w2) : Touch b g w w2 :=
  ⟨k.os.trans h.os, k.tape.trans h.tape, k.output.trans h.output, k.size.trans h.size, fun i hb hg => (k.block i hb hg).trans (h.block i hb hg)⟩
theorem Touch.draws {b g : Nat} {w w1 : World} (h : Touch b g w w1) (n : Nat) : Touch b g w (w1.drewN n) := ⟨h.os, h.tape, h.output, h.size, h.block⟩
theorem Touch.setB {b g : Nat} {w w1 : World} (h : Touch b g w w1) (i : Nat) (v : Value) : Touch b g w (w1.setCell ⟨b, i, none⟩ v) :=
  ⟨h.os, h.tape, h.output, by simpa [World.setCell] using h.size, fun k hb hg => (heap_setCell_other w1 ⟨b, i, none⟩ k v hb).trans (h.block k hb hg)⟩
theorem Touch.setG {b g : Nat} {w w1 : World} (h : Touch b g w w1) (i : Nat) (v : Value) : Touch b g w (w1.setCell ⟨g, i, none⟩ v) :=
  ⟨h.os, h.tape, h.output, by simpa [World.setCell] using h.size, fun k hb hg => (heap_setCell_other w1 ⟨g, i, none⟩ k v hg).trans (h.block k hb hg)⟩
theorem Phys.below {w w' : World} {b g n : Nat} {age cnt : Int} {cs : List (Int × Int)} (h : Phys w b g n age cnt cs) (hb : Below w.heap.size w w') : Phys w' b g n age cnt cs := ⟨h.blk.below hb, h.row.below hb, h.ne, h.len⟩
theorem Phys.touch {w w' : World} {b g b' g' n : Nat} {age cnt : Int} {cs : List (Int × Int)} (h : Phys w b g n age cnt cs) (ht : Touch b' g' w w') (h1 : b ≠ b') (h2 : b ≠ g') (h3 : g ≠ b') (h4 : g ≠ g') : Phys w' b g n age cnt cs :=
  ⟨(ht.block b h1 h2).trans h.blk, (ht.block g h3 h4).trans h.row, h.ne, h.len⟩

section
variable {b g n : Nat} {age cnt : Int} {cs : List (Int × Int)} {w : World}
theorem rowA_set {cs : List (Int × Int)} {i : Nat} (hi : i < cs.length) (v a : Int) : ((rowA cs).setIfInBounds (i * 2) (.int .u64 v)).setIfInBounds (i * 2 + 1) (.int .u32 a) = rowA (cs.set i (v, a)) := by
  apply Array.ext_getElem?
  intro j
  have hl : (cs.flatMap encS).length = cs.length * 2 := flat_len encS_len cs
  have hd : j = j / 2 * 2 + j % 2 := by omega
  have hr : (rowA (cs.set i (v, a)))[j]? = ((cs.set i (v, a))[j / 2]?).bind fun x => (encS x)[j % 2]? := by
    simp only [rowA, List.getElem?_toArray]
    rw [hd, flat_get encS_len _ _ _ (by omega), ← hd]
  have hr0 : (rowA cs)[j]? = (cs[j / 2]?).bind fun x => (encS x)[j % 2]? := by
    simp only [rowA, List.getElem?_toArray]
    rw [hd, flat_get encS_len _ _ _ (by omega), ← hd]
  rw [hr, Array.getElem?_setIfInBounds, Array.getElem?_setIfInBounds, hr0, Array.size_setIfInBounds]
  have hs : (rowA cs).size = cs.length * 2 := by simp only [rowA, List.size_toArray, hl]
  rw [hs]
  by_cases h1 : i * 2 + 1 = j
  · have e : j / 2 = i := by omega
    have e2 : j % 2 = 1 := by omega
    rw [if_pos h1, if_pos (by omega), e, e2, List.getElem?_set_self hi]; rfl
  · rw [if_neg h1]
    by_cases h2 : i * 2 = j
    · have e : j / 2 = i := by omega
      have e2 : j % 2 = 0 := by omega
      rw [if_pos h2, if_pos (by omega), e, e2, List.getElem?_set_self hi]; rfl
    · rw [if_neg h2, List.getElem?_set_ne (by omega)]
theorem Phys.draws (h : Phys w b g n age cnt cs) (k : Nat) : Phys (w.drewN k) b g n age cnt cs := ⟨h.blk, h.row, h.ne, h.len⟩
theorem Phys.setCount (h : Phys w b g n age cnt cs) (c : Int) : Phys (w.setCell ⟨b, 2, none⟩ (.int .i64 c)) b g n age c cs := ⟨h.blk.set_ 2 _, h.row.far 2 _ h.ne.symm, h.ne, h.len⟩
theorem Phys.setAge (h : Phys w b g n age cnt cs) (c : Int) : Phys (w.setCell ⟨b, 1, none⟩ (.int .u32 c)) b g n c cnt cs := ⟨h.blk.set_ 1 _, h.row.far 1 _ h.ne.symm, h.ne, h.len⟩
theorem Phys.setAt (h : Phys w b g n age cnt cs) {i : Nat} (hi : i < n) (v a : Int) : Phys ((w.setCell ⟨g, i * 2, none⟩ (.int .u64 v)).setCell ⟨g, i * 2 + 1, none⟩ (.int .u32 a)) b g n age cnt (cs.set i (v, a)) :=
  ⟨(h.blk.far _ _ h.ne).far _ _ h.ne, by have e := (h.row.set_ (i * 2) (.int .u64 v)).set_ (i * 2 + 1) (.int .u32 a); rwa [rowA_set (by have := h.len; omega)] at e, h.ne, by rw [List.length_set, h.len]⟩

set_option maxHeartbeats 800000 in
theorem Set_in (h : Phys w b g n age cnt cs) {i : Nat} (hi : i < n) (v : Int) (hn : n ≤ 65536) (hc0 : 0 ≤ cnt) (hc1 : cnt ≤ 65536) :
    Calls Try.prog 55 #[.pointer (some ⟨b, 0, none⟩), .int .i64 i, .int .u64 v] w fun e w' => e = .returned .nilIface ∧
      Phys w' b g n age (if (cs[i]'(by have := h.len; omega)).2 = age then cnt else cnt + 1) (cs.set i (v, age)) ∧ Touch b g w w' := by
  have c0 := h.blk.cell 0
  have c1 := h.blk.cell 1
  have c2 := h.blk.cell 2
  have hi' : i < cs.length := by have := h.len; omega
  obtain ⟨r0, r1⟩ := rowA_at hi'
  have d0 := (h.row.cell (i * 2)).trans r0
  have d1 := (h.row.cell (i * 2 + 1)).trans r1
  have f0 := h.blk.frozen
  have f1 := h.row.frozen
  by_cases hage : cs[i].2 = age
  · rw [if_pos hage]
    rw [hage] at d1
    have H := Lib.hid h
    clear h r0 r1
    go_enter Try.func55, Try.ntmps55
    go_wp2_with (first | go_quiet (fail) | go_region)
    go_ret
    exact ⟨rfl, (H.out.draws _).setAt hi v age, ((Touch.refl b g w).draws _).setG _ _ |>.setG _ _⟩
  · rw [if_neg hage]
    have hne : (cs[i].2 == age) = false := by rw [beq_eq_false_iff_ne]; exact hage
    have hdg : decide (cs[i].2 = age) = false := decide_eq_false hage
    have hbg : ¬ b = g := h.ne
    have hgb : ¬ g = b := h.ne.symm
    have H := Lib.hid h
    clear h r0 r1
    generalize cs[i].2 = old at *
    go_enter Try.func55, Try.ntmps55
    go_wp2_with (first | go_quiet (fail) | go_region)
    go_ret
    exact ⟨rfl, (((H.out.draws _).setCount _).setAt hi v age).draws 1, (((((Touch.refl b g w).draws _).setB _ _).setG _ _).setG _ _).draws 1⟩
theorem Set_out (h : Phys w b g n age cnt cs) {i : Int} (hi : i < 0 ∨ (n : Int) ≤ i) (v : Int) (hn : n ≤ 65536) (h0 : -9223372036854775808 ≤ i) (h1 : i ≤ 9223372036854775807) :
    Calls Try.prog 55 #[.pointer (some ⟨b, 0, none⟩), .int .i64 i, .int .u64 v] w fun e w' => e = .returned (.iface 63 (.int .i64 7)) ∧ w' = w := by
  have c0 := h.blk.cell 0
  clear h
  rcases hi with hi | hi
  · go_enter Try.func55, Try.ntmps55
    go_wp2
    go_ret
    exact ⟨rfl, rfl⟩
  · have hneg : ¬ i < 0 := by omega
    obtain ⟨j, rfl⟩ : ∃ j : Nat, i = j := ⟨i.toNat, by omega⟩
    go_enter Try.func55, Try.ntmps55
    go_wp2
    go_ret
    exact ⟨rfl, rfl⟩

set_option maxHeartbeats 800000 in
theorem Get_in (h : Phys w b g n age cnt cs) {i : Nat} (hi : i < n) (hn : n ≤ 65536) :
    Calls Try.prog 36 #[.pointer (some ⟨b, 0, none⟩), .int .i64 i] w fun e w' =>
      e = .returned (if (cs[i]'(by have := h.len; omega)).2 = age then .tuple #[.int .u64 (cs[i]'(by have := h.len; omega)).1, .bool true] else .tuple #[.int .u64 0, .bool false]) ∧ Drawn w w' := by
  have c0 := h.blk.cell 0
  have c1 := h.blk.cell 1
  have hi' : i < cs.length := by have := h.len; omega
  obtain ⟨r0, r1⟩ := rowA_at hi'
  have d0 := (h.row.cell (i * 2)).trans r0
  have d1 := (h.row.cell (i * 2 + 1)).trans r1
  clear r0 r1
  have g1 : decide ((i : Int) < 0) = false := decide_eq_false (by omega)
  have g2 : decide (n ≤ i) = false := decide_eq_false (by omega)
  by_cases hage : cs[i].2 = age
  · rw [if_pos hage]
    rw [hage] at d1
    generalize cs[i].1 = x at *
    clear h hage
    go_enter Try.func36, Try.ntmps36
    go_wp2_with (go_quiet (fail))
    go_ret2
    exact ⟨rfl, _, rfl⟩
  · rw [if_neg hage]
    have hne : (cs[i].2 != age) = true := by simp [bne, hage]
    clear h hage
    generalize cs[i].2 = old at *
    go_enter Try.func36, Try.ntmps36
    go_wp2_with (go_quiet (fail))
    go_ret2
    exact ⟨rfl, _, rfl⟩
theorem Get_out (h : Phys w b g n age cnt cs) {i : Int} (hi : i < 0 ∨ (n : Int) ≤ i) (hn : n ≤ 65536) (h0 : -9223372036854775808 ≤ i) (h1 : i ≤ 9223372036854775807) :
    Calls Try.prog 36 #[.pointer (some ⟨b, 0, none⟩), .int .i64 i] w fun e w' => e = .returned (.tuple #[.int .u64 0, .bool false]) ∧ Drawn w w' := by
  have c0 := h.blk.cell 0
  clear h
  rcases hi with hi | hi
  · have g1 : decide (i < 0) = true := decide_eq_true hi
    go_enter Try.func36, Try.ntmps36
    go_wp2_with (go_quiet (fail))
    go_ret2
    exact ⟨rfl, _, rfl⟩
  · have hneg : ¬ i < 0 := by omega
    obtain ⟨j, rfl⟩ : ∃ j : Nat, i = j := ⟨i.toNat, by omega⟩
    have g1 : decide ((j : Int) < 0) = false := decide_eq_false (by omega)
    have g2 : decide (n ≤ j) = true := decide_eq_true (by omega)
    go_enter Try.func36, Try.ntmps36
    go_wp2_with (go_quiet (fail))
    go_ret2
    exact ⟨rfl, _, rfl⟩
end
end Go.Proofs.Ytkcnnamghpdplaa.Stp
