/- What is wrong with a list that must have each number once: the program's. -/
import Derived.Test.YtkcnnamghpdplaaCl14
set_option linter.unusedSimpArgs false
set_option linter.unusedVariables false
namespace Go.Proofs.Ytkcnnamghpdplaa
open Go.RowKit

/-- the marks of what has been met -/
def markG (t f : Value) (n : Nat) (s : List Nat) : Array Value := ((List.range n).map fun i => if i ∈ s then t else f).toArray
theorem markG_at {t f : Value} {n i : Nat} {s : List Nat} (h : i < n) : (markG t f n s)[i]? = some (if i ∈ s then t else f) := by
  unfold markG
  rw [List.getElem?_toArray, List.getElem?_map, List.getElem?_range h]
  rfl
theorem markG_set {t f : Value} {n v : Nat} (s : List Nat) (h : v < n) : (markG t f n s).setIfInBounds v t = markG t f n (s ++ [v]) := by
  unfold markG
  rw [List.setIfInBounds_toArray]
  congr 1
  apply List.ext_getElem?
  intro i
  rw [List.getElem?_set]
  by_cases e : v = i
  · subst e
    simp [h]
  · rw [if_neg e]
    by_cases hi : i < n
    · rw [List.getElem?_map, List.getElem?_map, List.getElem?_range hi]
      simp only [Option.map_some, List.mem_append, List.mem_singleton, show ¬ i = v from fun h => e h.symm, or_false]
    · rw [List.getElem?_eq_none (by simp; omega), List.getElem?_eq_none (by simp; omega)]
theorem made_mark (t f : Value) (n : Nat) : madeCells #[f] n = markG t f n [] := by
  apply Array.toList_inj.1
  rw [toList_madeCells_one]
  unfold markG
  symm
  rw [List.eq_replicate_iff]
  simp
theorem make_i64 (n : Nat) (hn : n ≤ 65536) (W : World) : (Instr.makeSlice 75 (.int .i64 (n : Int)) (.int .i64 (n : Int))).run Try.prog W = .ok (.slice (some ⟨W.heap.size, 0, none⟩) n n) (W.alloc (.cells (markG (.int .i64 1) (.int .i64 0) n []) 3)) := by
  obtain ⟨i, hi, hz0, hz1, hz2⟩ := info_parts info_i64
  have h := run_make (P := Try.prog) W 75 3 i _ Try.underlying75 hi hz0 .i64 .i64 (n : Int) (n : Int) (by omega) (by omega) (by rw [hz2]; omega) (by omega)
  rw [h, hz1, Int.toNat_natCast, Nat.mul_one]
  exact congrArg (fun c => Result.ok (Value.slice (some ⟨W.heap.size, 0, none⟩) n n) (W.alloc (.cells c 3))) (made_mark _ _ n)
def againB (l : List Nat) (n r : Nat) : Bool := decide (n ≤ l.getD r 0 ∨ l.getD r 0 ∈ l.take r)
def orderB (l : List Nat) (n : Nat) : Bug := match (List.range n).find? (againB l n) with
  | some r => some (20, some (3, (r : Int)))
  | none => none
set_option maxRecDepth 100000 in
theorem order_prog (A : Option Addr) (n cap : Nat) (l : List Nat) (W : World) (hf : Rd32 W A n l) (hin : ∀ x ∈ l, In32 x) (hn : n ≤ 65536) :
    Calls Try.prog 46 #[.slice A n cap] W (ErrProg (orderB l n) W) := by
  have HF := Lib.hid hf
  have HIN := Lib.hid hin
  have hmk := make_i64 n hn
  clear hf hin
  go_enter Try.func46, Try.ntmps46
  go_wp2_with fail
  have hc2 : Cells (W.alloc (.cells (markG (.int .i64 1) (.int .i64 0) n []) 3)) W.heap.size (markG (.int .i64 1) (.int .i64 0) n []) 3 := cells_new _ _ _
  have hb2 : Below W.heap.size W (W.alloc (.cells (markG (.int .i64 1) (.int .i64 0) n []) 3)) := (Below.refl _ _).alloc (Nat.le_refl _) _
  generalize (W.alloc (.cells (markG (.int .i64 1) (.int .i64 0) n []) 3)) = W2 at *
  have HC2 := Lib.hid hc2
  have HB2 := Lib.hid hb2
  clear hc2 hb2 hmk
  go_loopw [11] (fun iv wr => ∃ j : Nat, j ≤ n ∧ iv = .int .i64 j ∧ (∀ r, r < j → againB l n r = false) ∧ Cells wr W.heap.size (markG (.int .i64 1) (.int .i64 0) n (l.take j)) 3 ∧ Below W.heap.size W wr) (fun iv _ => n - (intOf iv).toNat)
  case atStart => exact ⟨0, by omega, rfl, fun r hr => absurd hr (by omega), HC2.out, HB2.out⟩
  case round =>
    obtain ⟨j, hj, rfl, hst, hc, hb⟩ := hrel
    have HST := Lib.hid hst
    have HC := Lib.hid hc
    have HB := Lib.hid hb
    clear hst hc hb HC2 HB2
    by_cases hlt : j < n
    · have g0 : decide ((j : Int) < (n : Int)) = true := decide_eq_true (by omega)
      obtain ⟨ad, hA, cc⟩ := (HF.out.below HB.out).at_ hlt
      subst hA
      have hjq : j < l.length := by have := HF.out.1; omega
      have c0 := cc 0 _ rfl
      rw [Nat.mul_one, Nat.add_zero] at c0
      have hx := HIN.out l[j] (List.getElem_mem _)
      have htk := List.take_succ_eq_append_getElem hjq
      have hgd : l.getD j 0 = l[j] := by rw [List.getD_eq_getElem?_getD, List.getElem?_eq_getElem hjq]; rfl
      generalize l[j] = v at *
      unfold In32 at hx
      have HTK := Lib.hid htk
      have HGD := Lib.hid hgd
      have w0 : IntKind.i64.wrap (v : Int) = v := by rw [IntKind.wrap_i64]; omega
      clear cc htk hgd hjq
      have HSTEP : Hid (againB l n j = false → ∀ r, r < j + 1 → againB l n r = false) := Lib.hid fun h r hr => by
        by_cases e : r = j
        · rw [e]; exact h
        · exact HST.out r (by omega)
      have HBAD : Hid (againB l n j = true → orderB l n = some (20, some (3, (j : Int)))) := Lib.hid fun h => by unfold orderB; rw [find_some HST.out h hlt]
      by_cases h1 : n ≤ v
      · have g1 : decide ((n : Int) ≤ (v : Int)) = true := decide_eq_true (by omega)
        have HE := Lib.hid (HBAD.out (decide_eq_true (.inl (by rw [HGD.out]; exact h1))))
        go_wp2_with (go_quiet (fail))
        refine (FaultAt_any 3 (j : Int) 20 wr).mono ?_
        rintro e w8 ⟨rfl, hc8, hb8⟩
        have HEND : Hid (ErrProg (orderB l n) W (.returned (.iface 123 (.pointer (some ⟨wr.heap.size, 0, none⟩)))) w8) := Lib.hid (by rw [HE.out]; exact ⟨HB.out.trans (hb8.mono HB.out.size), wr.heap.size, rfl, hc8, HB.out.size⟩)
        clear hc8 hb8
        go_wp2_with fail
        go_ret
        exact HEND.out
      · have g1 : decide ((n : Int) ≤ (v : Int)) = false := decide_eq_false (by omega)
        have cm := HC.out.cell v
        rw [markG_at (by omega)] at cm
        have hv0 : (0 : Int) ≤ (v : Int) := by omega
        have hv1 : (v : Int) < (n : Int) := by omega
        by_cases h2 : v ∈ l.take j
        · rw [if_pos h2] at cm
          have HE := Lib.hid (HBAD.out (decide_eq_true (.inr (by rw [HGD.out]; exact h2))))
          go_wp2_with (go_quiet (fail))
          refine (FaultAt_any 3 (j : Int) 20 wr).mono ?_
          rintro e w8 ⟨rfl, hc8, hb8⟩
          have HEND : Hid (ErrProg (orderB l n) W (.returned (.iface 123 (.pointer (some ⟨wr.heap.size, 0, none⟩)))) w8) := Lib.hid (by rw [HE.out]; exact ⟨HB.out.trans (hb8.mono HB.out.size), wr.heap.size, rfl, hc8, HB.out.size⟩)
          clear hc8 hb8
          go_wp2_with fail
          go_ret
          exact HEND.out
        · rw [if_neg h2] at cm
          have HN := Lib.hid (HSTEP.out (decide_eq_false (by rw [HGD.out]; exact fun h => h.elim h1 h2)))
          have ff := HC.out.frozen v
          go_wp2_with (go_quiet (fail))
          refine ⟨⟨j + 1, by omega, by go_num, HN.out, ?_, HB.out.setCell (Nat.le_refl _) _⟩, by simp [intOf]; omega⟩
          have e := HC.out.set_ v (.int .i64 1)
          rwa [markG_set _ (by omega), ← HTK.out] at e
    · obtain rfl : n = j := by omega
      have HE : Hid (orderB l n = none) := Lib.hid (by unfold orderB; rw [find_none HST.out])
      go_wp2_with fail
      go_ret
      rw [HE.out]
      exact ⟨HB.out, rfl⟩
end Go.Proofs.Ytkcnnamghpdplaa
