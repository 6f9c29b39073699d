/- The stamp's All, and the comparison of two lists of numbers. -/
import Derived.Test.YtkcnnamghpdplaaStW1
set_option linter.unusedSimpArgs false
set_option linter.unusedVariables false
namespace Go.Proofs.Ytkcnnamghpdplaa.Stp
open Go.RowKit

abbrev i64s (x : Int) : List Value := [.int .i64 x]
theorem i64s_len : ∀ x, (i64s x).length = 1 := fun _ => rfl
theorem i64s_one : ∀ x, ∀ u ∈ i64s x, u.oneCell' = true := by
  intro x u hu
  simp only [List.mem_cons, List.not_mem_nil, or_false] at hu
  rw [hu]; rfl
abbrev OwnI (w : World) (base : Nat) (v : Value) (l : List Int) : Prop := Own 3 1 i64s w base v l
abbrev RdI (w : World) (A : Option Addr) (n : Nat) (l : List Int) : Prop := Rd 1 i64s w A n l
theorem info_int : (Try.prog.info? 3).map (fun i => (i.zero, i.size, i.bytes)) = some (some (.int .i64 0), 1, 8) := by kernel_rfl
theorem info_cell2 : (Try.prog.info? 113).map (·.size) = some 2 := by kernel_rfl
/-- A list of numbers made anew. -/
def MadeI (w : World) (l : List Int) (e : Ending) (w' : World) : Prop := ∃ v, e = .returned v ∧ OwnI w' w.heap.size v l ∧ Below w.heap.size w w'

theorem below_draw_alloc (w : World) (n : Nat) (o : Obj) : Below w.heap.size w ((w.drewN n).alloc o) :=
  Below.trans (b := w.drewN n) ⟨rfl, rfl, rfl, Nat.le_refl _, fun _ _ => rfl⟩ ((Below.refl w.heap.size (w.drewN n)).alloc (show w.heap.size ≤ w.heap.size from Nat.le_refl _) o)
theorem rd_one {w : World} {k : Nat} {x : Int} (hk : w.heap.size = k) : RdI (w.alloc (.cells #[.int .i64 x] 3)) (some ⟨k, 0, none⟩) 1 [x] := by
  subst hk
  exact rd_new i64s_len w 3 [x]
/-- the places below j at which p holds -/
def picks (p : Nat → Bool) (j : Nat) : List Int := ((List.range j).filter p).map Int.ofNat
theorem picks_succ (p : Nat → Bool) (j : Nat) : picks p (j + 1) = picks p j ++ if p j then [(j : Int)] else [] := by
  unfold picks
  rw [List.range_succ, List.filter_append, List.map_append]
  by_cases h : p j <;> simp [h]
theorem picks_zero (p : Nat → Bool) : picks p 0 = [] := rfl
theorem picks_len (p : Nat → Bool) (j : Nat) : (picks p j).length ≤ j := by
  unfold picks
  rw [List.length_map]
  exact Nat.le_trans (List.length_filter_le _ _) (Nat.le_of_eq List.length_range)
/-- is the place i set at this age? -/
def isAt (cs : List (Int × Int)) (age : Int) (i : Nat) : Bool := (cs.getD i (0, 0)).2 == age
theorem isAt_eq {cs : List (Int × Int)} {i : Nat} (hi : i < cs.length) (age : Int) : isAt cs age i = (cs[i].2 == age) := by
  unfold isAt
  rw [List.getD_eq_getElem?_getD, List.getElem?_eq_getElem hi]; rfl
section
variable {b g n : Nat} {age cnt : Int} {cs : List (Int × Int)} {w : World}
set_option maxHeartbeats 800000 in
theorem All_phys (h : Phys w b g n age cnt cs) (hn : n ≤ 65536) :
    Calls Try.prog 35 #[.pointer (some ⟨b, 0, none⟩)] w (MadeI w (picks (isAt cs age) n)) := by
  have c0 := h.blk.cell 0
  have H := Lib.hid h
  have hl := Lib.hid h.len
  clear h
  go_enter Try.func35, Try.ntmps35
  go_wp2_with fail
  go_loopw [3, 13] (fun v i wr => ∃ j : Nat, j ≤ n ∧ i = .int .i64 j ∧ OwnI wr w.heap.size v (picks (isAt cs age) j) ∧ Below w.heap.size w wr) (fun _ i _ => n - (intOf i).toNat)
  case atStart => exact ⟨0, by omega, rfl, by rw [picks_zero]; exact Own.nil _ _ _ _ _, Below.refl _ _⟩
  case round =>
    obtain ⟨j, hj, rfl, ho, hb⟩ := hrel
    have HO := Lib.hid ho
    have HB := Lib.hid hb
    clear ho hb
    by_cases hlt : j < n
    · have hs := Lib.hid (picks_succ (isAt cs age) j)
      have hp := H.out.below HB.out
      have hi' : j < cs.length := by have := hl.out; omega
      obtain ⟨r0, r1⟩ := rowA_at hi'
      have d0 := (hp.row.cell (j * 2)).trans r0
      have d1 := (hp.row.cell (j * 2 + 1)).trans r1
      have k1 := hp.blk.cell 1
      have hat := isAt_eq hi' age
      have HP := Lib.hid hp
      clear r0 r1 hp
      generalize cs[j].1 = x at *
      generalize cs[j].2 = a at *
      have hpl := Lib.hid (picks_len (isAt cs age) j)
      have B1 := HB.out.alloc HB.out.size (.cells #[.int .u64 x, .int .u32 a] 113)
      have HO1 := Lib.hid (HO.out.below ((Below.refl _ _).alloc (Nat.le_refl _) (.cells #[.int .u64 x, .int .u32 a] 113)))
      have HB1 := Lib.hid B1
      have q1 := (HP.out.below ((Below.refl _ _).alloc (Nat.le_refl _) (.cells #[.int .u64 x, .int .u32 a] 113))).blk.cell 1
      have q2 : (wr.alloc (.cells #[.int .u64 x, .int .u32 a] 113)).cell? ⟨wr.heap.size, 1, none⟩ = some (.int .u32 a) := (cell_of_row _ _ 1 _ _ _ (heap_alloc_new wr _)).trans rfl
      clear B1 k1
      by_cases ha : a = age
      · subst ha
        have hs1 : Hid (picks (isAt cs a) (j + 1) = picks (isAt cs a) j ++ [(j : Int)]) := Lib.hid (by rw [hs.out, hat]; simp)
        clear hs hat
        go_wp2_with (first | go_quiet (fail) | (at_builtin; go_loud (refine wpList_append_rd rfl (.tmp 25) (.tmp 27) 75 rfl 3 (.int .i64 0) 8 Try.underlying75 info_int rfl (by omega) (by omega) i64s_len i64s_one w.heap.size u3 (picks (isAt cs a) j) rfl (HO1.out.below (below_draw_alloc _ _ _)) _ 1 1 [(j : Int)] rfl (rd_one (by simp)) (by have := hpl.out; omega) (by have := HB1.out.size; simp at this ⊢; omega) ?_; intro v2 w2 ho2 hg2 hat2; have HO2 := Lib.hid ho2; have HB2 : Hid (Below w.heap.size w w2) := Lib.hid (below_own (HB1.out.trans (below_draw_alloc _ _ _ |>.mono HB1.out.size)) (HO1.out.below (below_draw_alloc _ _ _)) hg2 (Nat.le_refl _) (by have := HB1.out.size; simp at this ⊢; omega)); clear ho2 hg2 hat2)))
        go_roundw
        case rel => exact ⟨j + 1, by omega, by go_num, by rw [hs1.out]; exact HO2.out, HB2.out⟩
        case measure => simp [intOf]; omega
      · have ha2 : (a == age) = false := by rw [beq_eq_false_iff_ne]; exact ha
        have hs1 : Hid (picks (isAt cs age) (j + 1) = picks (isAt cs age) j) := Lib.hid (by rw [hs.out, hat, ha2]; simp)
        clear hs hat
        go_wp2_with (go_quiet (fail))
        go_roundw
        case rel => exact ⟨j + 1, by omega, by go_num, by rw [hs1.out]; exact HO1.out.below ⟨rfl, rfl, rfl, Nat.le_refl _, fun _ _ => rfl⟩, HB1.out.trans ⟨rfl, rfl, rfl, Nat.le_refl _, fun _ _ => rfl⟩⟩
        case measure => simp [intOf]; omega
    · obtain rfl : j = n := by omega
      go_wp2
      go_ret
      exact ⟨_, rfl, HO.out, HB.out⟩
end
end Go.Proofs.Ytkcnnamghpdplaa.Stp
