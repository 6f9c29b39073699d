/- The stamp's Reset, over the end of the ages too, and its list of what is set. -/
import Derived.Test.YteejmocdagdeeaaDoorWalk1
set_option linter.unusedSimpArgs false
set_option linter.unusedVariables false
namespace Go.Proofs.YteejmocdagdeeaaDoor
open Go.RowKit

def zeros (n : Nat) : List (Int × Int) := List.replicate n (0, 0)
theorem zero_cell (w : World) : (zeroValue 73).run Tryd.prog w = .ok (.agg #[.int .u64 0, .int .u32 0]) w := by kernel_rfl
theorem zeroCells_cells (n : Nat) : Builtin.zeroCells (Value.agg #[.int .u64 0, .int .u32 0]).cells n = rowA (zeros n) := by
  rw [zeros, ← made_cells]
  simp only [Builtin.zeroCells, madeCells]
  rfl
theorem enc_one (l : List (Int × Int)) : ∀ v ∈ l.flatMap encS, v.oneCell' = true := by
  intro v hv
  obtain ⟨x, _, hx⟩ := List.mem_flatMap.1 hv
  simp only [encS, List.mem_cons, List.not_mem_nil, or_false] at hx
  rcases hx with rfl | rfl <;> rfl
theorem run_clear_cells (w : World) (ty : TypeId) (g n : Nat) (cs : List (Int × Int)) (hl : cs.length = n) (h : Cells w g (rowA cs) 73) :
    (Builtin.clear_ #[53] ty #[.slice (some ⟨g, 0, none⟩) n n]).run Tryd.prog w = .ok (.tuple #[]) (w.setRow g (rowA (zeros n))) := by
  have hst := run_storeCells_from (P := Tryd.prog) g 73 ((zeros n).flatMap encS) 0 (rowA cs) w h
    (by rw [flat_len encS_len, Nat.zero_add, zeros, List.length_replicate, rowA, List.size_toArray, flat_len encS_len, hl]) (enc_one _)
  rw [List.take_zero, List.nil_append] at hst
  rcases n with _ | m
  · have e : w.setRow g (rowA (zeros 0)) = w := by
      have := setRow_self w g (rowA cs) 73 (0, 0) h
      obtain rfl : cs = [] := List.eq_nil_of_length_eq_zero hl
      exact this
    rw [e]
    simp [Builtin.clear_, run_underlying Tryd.underlying53]
  · have hz : (Builtin.zeroCells (Value.agg #[.int .u64 0, .int .u32 0]).cells (m + 1)).toList = (zeros (m + 1)).flatMap encS := by rw [zeroCells_cells]; rfl
    simp [Builtin.clear_, run_underlying Tryd.underlying53, zero_cell, hz, hst]
    rfl
section
variable {b g n : Nat} {age cnt : Int} {cs : List (Int × Int)} {w : World}
theorem Phys.setAll (h : Phys w b g n age cnt cs) (l : List (Int × Int)) (hl : l.length = n) : Phys (w.setRow g (rowA l)) b g n age cnt l :=
  ⟨by
    have e : (w.setRow g (rowA l)).heap[b]? = w.heap[b]? := by
      unfold World.setRow
      simp only [Array.getElem?_modify]
      rw [if_neg h.ne.symm]
    exact e.trans h.blk, setRow_heap w g _ _ _ _ h.row, h.ne, hl⟩
theorem Touch.setRow {w w1 : World} (h : Touch b g w w1) (l : Array Value) : Touch b g w (w1.setRow g l) :=
  ⟨h.os, h.tape, h.output, by simpa [World.setRow] using h.size, fun k hb hg => by
    have e : (w1.setRow g l).heap[k]? = w1.heap[k]? := by
      unfold World.setRow
      simp only [Array.getElem?_modify]
      rw [if_neg (Ne.symm hg)]
    exact e.trans (h.block k hb hg)⟩
/-- Reset: the next age. -/
theorem Reset_more (h : Phys w b g n age cnt cs) (hn : n ≤ 65536) (h0 : 0 ≤ age) (h1 : age < 4294967295) :
    Calls Tryd.prog 15 #[.pointer (some ⟨b, 0, none⟩)] w fun e w' => e = .returned (.tuple #[]) ∧ Phys w' b g n (age + 1) 0 cs ∧ Touch b g w w' := by
  have c0 := h.blk.cell 0
  have c1 := h.blk.cell 1
  have c2 := h.blk.cell 2
  have f0 := h.blk.frozen
  have hbg : ¬ b = g := h.ne
  have hgb : ¬ g = b := h.ne.symm
  have H := Lib.hid h
  have e1 : (age + 1) % 4294967296 = age + 1 := by omega
  have e2 : (age + 1 == 0) = false := by rw [beq_eq_false_iff_ne]; omega
  clear h
  go_enter Tryd.func15, Tryd.ntmps15
  go_wp2_with (fail)
  go_end0
  exact ⟨rfl, (H.out.setAge _).setCount _, ((Touch.refl b g w).setB _ _).setB _ _⟩
/-- Reset at the end of the ages: all is cleared and the ages begin anew. -/
theorem Reset_wrap (h : Phys w b g n age cnt cs) (hage : age = 4294967295) (hn : n ≤ 65536) :
    Calls Tryd.prog 15 #[.pointer (some ⟨b, 0, none⟩)] w fun e w' => e = .returned (.tuple #[]) ∧ Phys w' b g n 1 0 (zeros n) ∧ Touch b g w w' := by
  have c0 := h.blk.cell 0
  have c1 := h.blk.cell 1
  have c2 := h.blk.cell 2
  have f0 := h.blk.frozen
  have hbg : ¬ b = g := h.ne
  have hgb : ¬ g = b := h.ne.symm
  have H := Lib.hid h
  have e1 : (age + 1) % 4294967296 = 0 := by omega
  obtain ⟨W, hcl, hP, hT⟩ : ∃ W, (∀ ty, (Builtin.clear_ #[53] ty #[.slice (some ⟨g, 0, none⟩) n n]).run Tryd.prog ((w.setCell ⟨b, 1, none⟩ (.int .u32 0)).setCell ⟨b, 2, none⟩ (.int .i64 0)) = .ok (.tuple #[]) W) ∧ Phys W b g n 0 0 (zeros n) ∧ Touch b g w W :=
    ⟨_, fun ty => run_clear_cells _ ty g n cs h.len ((h.setAge 0).setCount 0).row, ((h.setAge 0).setCount 0).setAll _ (by simp [zeros]), (((Touch.refl b g w).setB _ _).setB _ _).setRow _⟩
  have k0 := hP.blk.cell 0
  have k1 := hP.blk.cell 1
  have k2 := hP.blk.cell 2
  have fk := hP.blk.frozen
  have HC := Lib.hid hcl
  have HP := Lib.hid hP
  have HT := Lib.hid hT
  clear hcl h hage hP hT
  go_enter Tryd.func15, Tryd.ntmps15
  go_wp2_with (simp only [HC.out])
  go_end0
  exact ⟨rfl, HP.out.setAge 1, HT.out.setB _ _⟩
end
end Go.Proofs.YteejmocdagdeeaaDoor
