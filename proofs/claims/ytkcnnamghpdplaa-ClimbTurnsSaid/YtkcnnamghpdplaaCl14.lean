/- What is wrong with a list of firsts. -/
import Derived.Test.YtkcnnamghpdplaaCl13
set_option linter.unusedSimpArgs false
set_option linter.unusedVariables false
namespace Go.Proofs.Ytkcnnamghpdplaa
open Go.RowKit

/-- what is wrong: a number, and at most one place -/
abbrev Bug := Option (Int × Option (Int × Int))
def ErrDoc (b : Bug) (W : World) (e : Ending) (w' : World) : Prop := Below W.heap.size W w' ∧ match b with
  | none => e = .returned (.agg #[.int .i64 0, .slice none 0 0])
  | some (c, none) => e = .returned (.agg #[.int .i64 c, .slice none 0 0])
  | some (c, some (k, a)) => ∃ g cap, e = .returned (.agg #[.int .i64 c, .slice (some ⟨g, 0, none⟩) 1 cap]) ∧ Cells w' g #[.int .i64 k, .int .i64 a] 115 ∧ W.heap.size ≤ g
def ErrProg (b : Bug) (W : World) (e : Ending) (w' : World) : Prop := Below W.heap.size W w' ∧ match b with
  | none => e = .returned .nilIface
  | some (c, none) => e = .returned (.iface 63 (.int .i64 c))
  | some (c, some (k, a)) => ∃ g, e = .returned (.iface 123 (.pointer (some ⟨g, 0, none⟩))) ∧ Cells w' g #[.int .i64 k, .int .i64 a, .iface 63 (.int .i64 c)] 125 ∧ W.heap.size ≤ g
theorem find_some {n j : Nat} {p : Nat → Bool} (h : ∀ r, r < j → p r = false) (hp : p j = true) (hj : j < n) : (List.range n).find? p = some j := by
  rw [List.find?_range_eq_some]
  exact ⟨hp, by simpa using hj, fun r hr => by rw [h r hr]; rfl⟩
theorem find_none {n : Nat} {p : Nat → Bool} (h : ∀ r, r < n → p r = false) : (List.range n).find? p = none := by
  rw [List.find?_eq_none]
  intro r hr
  rw [h r (List.mem_range.1 hr)]
  exact Bool.false_ne_true
def stepsB (f : List Nat) (r : Nat) : Bool := decide (f.getD (r + 1) 0 < f.getD r 0)
def firstsB (f : List Nat) (n links : Nat) : Bug :=
  if f.getD 0 0 = 0 then
    match (List.range n).find? (stepsB f) with
    | some r => some (14, some (3, (r : Int)))
    | none => if f.getD n 0 = links then none else some (14, none)
  else some (14, none)
theorem one_first {w : World} {A : Option Addr} {n : Nat} {f : List Nat} (h : Rd32 w A (n + 1) f) : ∃ ad, A = some ad ∧ ∀ j, j < n + 1 → w.cell? (ad.add j) = some (.int .u32 (f.getD j 0 : Nat)) := by
  obtain ⟨ad, hA, hc⟩ := h.2 (by omega)
  have hl := h.1
  refine ⟨ad, hA, fun j hj => ?_⟩
  have h1 : f[j]? = some (f.getD j 0) := by rw [List.getD_eq_getElem?_getD, List.getElem?_eq_getElem (by omega)]; rfl
  have := hc j _ 0 _ h1 rfl
  rwa [Nat.mul_one, Nat.add_zero] at this
theorem getD_in {f : List Nat} (h : ∀ x ∈ f, In32 x) (j : Nat) : In32 (f.getD j 0) := by
  rw [List.getD_eq_getElem?_getD]
  cases hj : f[j]? with
  | none => exact Nat.zero_le _
  | some x => exact h x (List.mem_of_getElem? hj)
theorem firsts_prog (A : Option Addr) (n cap links : Nat) (f : List Nat) (W : World) (hf : Rd32 W A (n + 1) f) (hin : ∀ x ∈ f, In32 x) (hn : n ≤ 65536) (hl : links ≤ 1048576) :
    Calls Try.prog 45 #[.slice A (n + 1) cap, .int .i64 links] W (ErrProg (firstsB f n links) W) := by
  obtain ⟨ad, rfl, hcs⟩ := one_first hf
  have HF := Lib.hid hf
  have HIN := Lib.hid hin
  have h0 : W.cell? ad = some (.int .u32 (f.getD 0 0 : Nat)) := by have h := hcs 0 (by omega); rwa [show ad.add 0 = ad by cases ad; rfl] at h
  have hi0 := getD_in hin 0
  clear hf hin hcs
  have HB : Hid (firstsB f n links = firstsB f n links) := Lib.hid rfl
  by_cases hz : f.getD 0 0 = 0
  · have h0' : W.cell? ad = some (.int .u32 0) := by rw [h0, hz]; rfl
    clear h0 hi0
    go_enter Try.func45, Try.ntmps45
    go_wp2_with fail
    go_loopw [14] (fun iv wr => ∃ j : Nat, j ≤ n ∧ iv = .int .i64 j ∧ (∀ r, r < j → stepsB f r = false) ∧ Below W.heap.size W wr) (fun iv _ => n - (intOf iv).toNat)
    case atStart => exact ⟨0, by omega, rfl, fun r hr => absurd hr (by omega), Below.refl _ _⟩
    case round =>
      obtain ⟨j, hj, rfl, hst, hb⟩ := hrel
      have HST := Lib.hid hst
      have HBL := Lib.hid hb
      clear hst hb
      by_cases hlt : j < n
      · have g0 : decide ((j : Int) < (n : Int)) = true := decide_eq_true (by omega)
        obtain ⟨ad', hA, e0, e1⟩ := two_firsts (HF.out.below HBL.out) hlt
        obtain rfl := Option.some.inj hA
        have e1' : wr.cell? ⟨ad.block, ad.off + (j + 1), none⟩ = some (.int .u32 (f.getD (j + 1) 0 : Nat)) := e1
        have w1 : IntKind.i64.wrap ((j : Int) + 1) = (j : Int) + 1 := by rw [IntKind.wrap_i64]; omega
        have w2' : (0 : Int) ≤ (j : Int) + 1 := by omega
        have w3' : ((j : Int) + 1).toNat = j + 1 := by omega
        have i1 : (0 : Int) ≤ (j : Int) := by omega
        have i2 : (j : Int) < (n : Int) + 1 := by omega
        have i3 : (j : Int) + 1 < (n : Int) + 1 := by omega
        have i4 : (j : Int) < ((n + 1 : Nat) : Int) := by omega
        have i5 : (j : Int) + 1 < ((n + 1 : Nat) : Int) := by omega
        have hdr0 : ∀ k, Below W.heap.size W (wr.drewN k) := fun k => HBL.out.trans ⟨rfl, rfl, rfl, Nat.le_refl _, fun _ _ => rfl⟩
        have HDR := Lib.hid hdr0
        clear hdr0
        by_cases hs : f.getD (j + 1) 0 < f.getD j 0
        · have HE : Hid (firstsB f n links = some (14, some (3, (j : Int)))) := Lib.hid (by unfold firstsB; rw [if_pos hz, find_some HST.out (show stepsB f j = true from decide_eq_true hs) hlt])
          have g1 : decide (((f.getD (j + 1) 0 : Nat) : Int) < ((f.getD j 0 : Nat) : Int)) = true := decide_eq_true (by omega)
          clear hz
          generalize f.getD (j + 1) 0 = y1 at *
          generalize f.getD j 0 = y0 at *
          go_wp2_with fail
          go_quiet (fail)
          have hd7 := HDR.out nq
          generalize wr.drewN nq = w7 at hd7 ⊢
          have HD7 := Lib.hid hd7
          clear hd7
          go_wp2_with fail
          refine (FaultAt_any 3 (j : Int) 14 w7).mono ?_
          rintro e w8 ⟨rfl, hc8, hb8⟩
          have HEND : Hid (ErrProg (firstsB f n links) W (.returned (.iface 123 (.pointer (some ⟨w7.heap.size, 0, none⟩)))) w8) := Lib.hid (by rw [HE.out]; exact ⟨HD7.out.trans (hb8.mono HD7.out.size), w7.heap.size, rfl, hc8, HD7.out.size⟩)
          clear hc8 hb8
          go_wp2_with fail
          go_ret
          exact HEND.out
        · have HN : Hid (∀ r, r < j + 1 → stepsB f r = false) := Lib.hid fun r hr => by
            by_cases e : r = j
            · subst e; exact decide_eq_false hs
            · exact HST.out r (by omega)
          have g1 : decide (((f.getD (j + 1) 0 : Nat) : Int) < ((f.getD j 0 : Nat) : Int)) = false := decide_eq_false (by omega)
          generalize f.getD (j + 1) 0 = y1 at *
          generalize f.getD j 0 = y0 at *
          go_wp2_with fail
          go_quiet (fail)
          have hd7 := HDR.out nq
          generalize wr.drewN nq = w7 at hd7 ⊢
          have HD7 := Lib.hid hd7
          clear hd7
          go_wp2_with fail
          go_roundw
          case rel => exact ⟨j + 1, by omega, by go_num, HN.out, HD7.out⟩
          case measure => simp [intOf]; omega
      · obtain rfl : n = j := by omega
        obtain ⟨ad', hA, hcs⟩ := one_first (HF.out.below HBL.out)
        obtain rfl := Option.some.inj hA
        have e1 := hcs n (by omega)
        have hin := getD_in HIN.out n
        unfold In32 at hin
        have hfn := find_none HST.out
        by_cases hq : f.getD n 0 = links
        · have HE : Hid (firstsB f n links = none) := Lib.hid (by unfold firstsB; rw [if_pos hz, hfn]; exact if_pos hq)
          clear hcs hfn hz
          rw [hq] at e1
          go_wp2_with fail
          go_ret
          rw [HE.out]
          exact ⟨HBL.out, rfl⟩
        · have HE : Hid (firstsB f n links = some (14, none)) := Lib.hid (by unfold firstsB; rw [if_pos hz, hfn]; exact if_neg hq)
          clear hcs hfn hz
          generalize f.getD n 0 = y at *
          have g2 : ((y : Int) == (links : Int)) = false := by rw [beq_eq_false_iff_ne]; omega
          go_wp2_with fail
          go_ret
          rw [HE.out]
          exact ⟨HBL.out, rfl⟩
  · have g0 : (((f.getD 0 0 : Nat) : Int) == 0) = false := by rw [beq_eq_false_iff_ne]; omega
    have HE : Hid (firstsB f n links = some (14, none)) := Lib.hid (by unfold firstsB; rw [if_neg hz])
    generalize f.getD 0 0 = z at *
    go_enter Try.func45, Try.ntmps45
    go_wp2_with fail
    go_ret
    rw [HE.out]
    exact ⟨Below.refl _ _, rfl⟩
theorem firsts_doc (A : Option Addr) (n cap links : Nat) (f : List Nat) (W : World) (hf : Rd32 W A (n + 1) f) (hin : ∀ x ∈ f, In32 x) (hn : n ≤ 65536) (hl : links ≤ 1048576) :
    Calls Try.prog 39 #[.slice A (n + 1) cap, .int .i64 n, .int .i64 links] W (ErrDoc (firstsB f n links) W) := by
  obtain ⟨ad, rfl, hcs⟩ := one_first hf
  have HF := Lib.hid hf
  have HIN := Lib.hid hin
  have h0 : W.cell? ad = some (.int .u32 (f.getD 0 0 : Nat)) := by have h := hcs 0 (by omega); rwa [show ad.add 0 = ad by cases ad; rfl] at h
  have hi0 := getD_in hin 0
  have hba := (Below.refl W.heap.size W).alloc (Nat.le_refl _) (.cells #[.int .i64 0, .slice none 0 0] 42)
  have h0 := cell_below hba h0
  have hca := cells_new W #[.int .i64 0, .slice none 0 0] 42
  have hlw : (W.alloc (.cells #[.int .i64 0, .slice none 0 0] 42)).heap.size = W.heap.size + 1 := size_alloc _ _
  have HBA := Lib.hid hba
  have HCA := Lib.hid hca
  clear hf hin hcs hba hca
  have HB : Hid (firstsB f n links = firstsB f n links) := Lib.hid rfl
  by_cases hz : f.getD 0 0 = 0
  · have h0' : (W.alloc (.cells #[.int .i64 0, .slice none 0 0] 42)).cell? ad = some (.int .u32 0) := by rw [h0, hz]; rfl
    clear h0 hi0
    go_enter Try.func39, Try.ntmps39
    go_wp2_with fail
    generalize W.alloc (.cells #[.int .i64 0, .slice none 0 0] 42) = W2 at *
    go_loopw [7] (fun iv wr => ∃ j : Nat, j ≤ n ∧ iv = .int .i64 j ∧ (∀ r, r < j → stepsB f r = false) ∧ Below W2.heap.size W2 wr) (fun iv _ => n - (intOf iv).toNat)
    case atStart => exact ⟨0, by omega, rfl, fun r hr => absurd hr (by omega), Below.refl _ _⟩
    case round =>
      obtain ⟨j, hj, rfl, hst, hb⟩ := hrel
      have HST := Lib.hid hst
      have HBL := Lib.hid hb
      clear hst hb
      by_cases hlt : j < n
      · have g0 : decide ((j : Int) < (n : Int)) = true := decide_eq_true (by omega)
        obtain ⟨ad', hA, e0, e1⟩ := two_firsts (HF.out.below (HBA.out.trans (HBL.out.mono (by omega)))) hlt
        obtain rfl := Option.some.inj hA
        have e1' : wr.cell? ⟨ad.block, ad.off + (j + 1), none⟩ = some (.int .u32 (f.getD (j + 1) 0 : Nat)) := e1
        have w1 : IntKind.i64.wrap ((j : Int) + 1) = (j : Int) + 1 := by rw [IntKind.wrap_i64]; omega
        have w2' : (0 : Int) ≤ (j : Int) + 1 := by omega
        have w3' : ((j : Int) + 1).toNat = j + 1 := by omega
        have i1 : (0 : Int) ≤ (j : Int) := by omega
        have i2 : (j : Int) < (n : Int) + 1 := by omega
        have i3 : (j : Int) + 1 < (n : Int) + 1 := by omega
        have i4 : (j : Int) < ((n + 1 : Nat) : Int) := by omega
        have i5 : (j : Int) + 1 < ((n + 1 : Nat) : Int) := by omega
        have hdr0 : ∀ k, Below W2.heap.size W2 (wr.drewN k) := fun k => HBL.out.trans ⟨rfl, rfl, rfl, Nat.le_refl _, fun _ _ => rfl⟩
        have HDR := Lib.hid hdr0
        clear hdr0
        by_cases hs : f.getD (j + 1) 0 < f.getD j 0
        · have HE : Hid (firstsB f n links = some (14, some (3, (j : Int)))) := Lib.hid (by unfold firstsB; rw [if_pos hz, find_some HST.out (show stepsB f j = true from decide_eq_true hs) hlt])
          have g1 : decide (((f.getD (j + 1) 0 : Nat) : Int) < ((f.getD j 0 : Nat) : Int)) = true := decide_eq_true (by omega)
          clear hz
          generalize f.getD (j + 1) 0 = y1 at *
          generalize f.getD j 0 = y0 at *
          go_wp2_with fail
          go_quiet (fail)
          have hd7 := HDR.out nq
          generalize wr.drewN nq = w7 at hd7 ⊢
          have HD7 := Lib.hid hd7
          clear hd7
          go_wp2_with fail
          refine (E_any 14 w7).mono ?_
          rintro e w8 ⟨rfl, hb8⟩
          have HD8 : Hid (Below W2.heap.size W2 w8) := Lib.hid (HD7.out.trans (hb8.mono HD7.out.size))
          clear hb8
          go_wp2_with fail
          refine (At1_any 3 (j : Int) 14 w8).mono ?_
          rintro e w9 ⟨g, cg, rfl, hc9, hg9, hb9⟩
          have HC9 := Lib.hid hc9
          have HD9 : Hid (Below W2.heap.size W2 w9) := Lib.hid (HD8.out.trans (hb9.mono HD8.out.size))
          have hg : W.heap.size + 1 ≤ g := by have := HD8.out.size; omega
          have hcx := HCA.out.below HD9.out
          have b0 : w9.cell? ⟨W.heap.size, 0, none⟩ = some (.int .i64 0) := hcx.cell 0
          have b1 : w9.cell? ⟨W.heap.size, 1, none⟩ = some (.slice none 0 0) := hcx.cell 1
          have f0 := hcx.frozen 0
          have f1 := hcx.frozen 1
          have hfin := (hcx.set_ 0 (.int .i64 14)).set_ 1 (.slice (some ⟨g, 0, none⟩) 1 cg)
          clear hc9 hg9 hb9 hcx
          have HEND : Hid (ErrDoc (firstsB f n links) W (.returned (.agg #[.int .i64 14, .slice (some ⟨g, 0, none⟩) 1 cg])) ((w9.setCell ⟨W.heap.size, 0, none⟩ (.int .i64 14)).setCell ⟨W.heap.size, 1, none⟩ (.slice (some ⟨g, 0, none⟩) 1 cg))) := Lib.hid (by
            rw [HE.out]
            exact ⟨((HBA.out.trans (HD9.out.mono (by omega))).setCell (Nat.le_refl _) _).setCell (Nat.le_refl _) _, g, cg, rfl, (HC9.out.far (k := W.heap.size) 0 _ (by omega)).far (k := W.heap.size) 1 _ (by omega), by omega⟩)
          go_wp2_with fail
          generalize (w9.setCell ⟨W.heap.size, 0, none⟩ (.int .i64 14)).setCell ⟨W.heap.size, 1, none⟩ (.slice (some ⟨g, 0, none⟩) 1 cg) = wz at *
          have r0 : wz.cell? ⟨W.heap.size, 0, none⟩ = some (.int .i64 14) := hfin.cell 0
          have r1 : wz.cell? ⟨W.heap.size, 1, none⟩ = some (.slice (some ⟨g, 0, none⟩) 1 cg) := hfin.cell 1
          refine bodyPost_ret (by simp [results, Try.results39, go_sem, r0, r1]; try rfl) rfl ?_
          exact HEND.out
        · have HN : Hid (∀ r, r < j + 1 → stepsB f r = false) := Lib.hid fun r hr => by
            by_cases e : r = j
            · subst e; exact decide_eq_false hs
            · exact HST.out r (by omega)
          have g1 : decide (((f.getD (j + 1) 0 : Nat) : Int) < ((f.getD j 0 : Nat) : Int)) = false := decide_eq_false (by omega)
          generalize f.getD (j + 1) 0 = y1 at *
          generalize f.getD j 0 = y0 at *
          go_wp2_with fail
          go_quiet (fail)
          have hd7 := HDR.out nq
          generalize wr.drewN nq = w7 at hd7 ⊢
          have HD7 := Lib.hid hd7
          clear hd7
          go_wp2_with fail
          go_roundw
          case rel => exact ⟨j + 1, by omega, by go_num, HN.out, HD7.out⟩
          case measure => simp [intOf]; omega
      · obtain rfl : n = j := by omega
        obtain ⟨ad', hA, hcs⟩ := one_first (HF.out.below (HBA.out.trans (HBL.out.mono (by omega))))
        obtain rfl := Option.some.inj hA
        have e1 := hcs n (by omega)
        have hin := getD_in HIN.out n
        unfold In32 at hin
        have hfn := find_none HST.out
        by_cases hq : f.getD n 0 = links
        · have HE : Hid (firstsB f n links = none) := Lib.hid (by unfold firstsB; rw [if_pos hz, hfn]; exact if_pos hq)
          clear hcs hfn hz
          rw [hq] at e1
          have hcx := HCA.out.below HBL.out
          have b0 : wr.cell? ⟨W.heap.size, 0, none⟩ = some (.int .i64 0) := hcx.cell 0
          have b1 : wr.cell? ⟨W.heap.size, 1, none⟩ = some (.slice none 0 0) := hcx.cell 1
          have f0 := hcx.frozen 0
          have f1 := hcx.frozen 1
          have hfin := (hcx.set_ 0 (.int .i64 0)).set_ 1 (.slice none 0 0)
          clear hcx
          have HEND : Hid (ErrDoc (firstsB f n links) W (.returned (.agg #[.int .i64 0, .slice none 0 0])) ((wr.setCell ⟨W.heap.size, 0, none⟩ (.int .i64 0)).setCell ⟨W.heap.size, 1, none⟩ (.slice none 0 0))) := Lib.hid (by
            rw [HE.out]
            exact ⟨((HBA.out.trans (HBL.out.mono (by omega))).setCell (Nat.le_refl _) _).setCell (Nat.le_refl _) _, rfl⟩)
          go_wp2_with fail
          generalize (wr.setCell ⟨W.heap.size, 0, none⟩ (.int .i64 0)).setCell ⟨W.heap.size, 1, none⟩ (.slice none 0 0) = wz at *
          have r0 : wz.cell? ⟨W.heap.size, 0, none⟩ = some (.int .i64 0) := hfin.cell 0
          have r1 : wz.cell? ⟨W.heap.size, 1, none⟩ = some (.slice none 0 0) := hfin.cell 1
          refine bodyPost_ret (by simp [results, Try.results39, go_sem, r0, r1]; try rfl) rfl ?_
          exact HEND.out
        · have HE : Hid (firstsB f n links = some (14, none)) := Lib.hid (by unfold firstsB; rw [if_pos hz, hfn]; exact if_neg hq)
          clear hcs hfn hz
          generalize f.getD n 0 = y at *
          have g2 : ((y : Int) == (links : Int)) = false := by rw [beq_eq_false_iff_ne]; omega
          go_wp2_with fail
          refine (E_any 14 wr).mono ?_
          rintro e w8 ⟨rfl, hb8⟩
          have HD8 : Hid (Below W2.heap.size W2 w8) := Lib.hid (HBL.out.trans (hb8.mono HBL.out.size))
          clear hb8
          have hcx := HCA.out.below HD8.out
          have b0 : w8.cell? ⟨W.heap.size, 0, none⟩ = some (.int .i64 0) := hcx.cell 0
          have b1 : w8.cell? ⟨W.heap.size, 1, none⟩ = some (.slice none 0 0) := hcx.cell 1
          have f0 := hcx.frozen 0
          have f1 := hcx.frozen 1
          have hfin := (hcx.set_ 0 (.int .i64 14)).set_ 1 (.slice none 0 0)
          clear hcx
          have HEND : Hid (ErrDoc (firstsB f n links) W (.returned (.agg #[.int .i64 14, .slice none 0 0])) ((w8.setCell ⟨W.heap.size, 0, none⟩ (.int .i64 14)).setCell ⟨W.heap.size, 1, none⟩ (.slice none 0 0))) := Lib.hid (by
            rw [HE.out]
            exact ⟨((HBA.out.trans (HD8.out.mono (by omega))).setCell (Nat.le_refl _) _).setCell (Nat.le_refl _) _, rfl⟩)
          go_wp2_with fail
          generalize (w8.setCell ⟨W.heap.size, 0, none⟩ (.int .i64 14)).setCell ⟨W.heap.size, 1, none⟩ (.slice none 0 0) = wz at *
          have r0 : wz.cell? ⟨W.heap.size, 0, none⟩ = some (.int .i64 14) := hfin.cell 0
          have r1 : wz.cell? ⟨W.heap.size, 1, none⟩ = some (.slice none 0 0) := hfin.cell 1
          refine bodyPost_ret (by simp [results, Try.results39, go_sem, r0, r1]; try rfl) rfl ?_
          exact HEND.out
  · have g0 : (((f.getD 0 0 : Nat) : Int) == 0) = false := by rw [beq_eq_false_iff_ne]; omega
    have HE : Hid (firstsB f n links = some (14, none)) := Lib.hid (by unfold firstsB; rw [if_neg hz])
    generalize f.getD 0 0 = z at *
    go_enter Try.func39, Try.ntmps39
    go_wp2_with fail
    generalize W.alloc (.cells #[.int .i64 0, .slice none 0 0] 42) = W2 at *
    refine (E_any 14 W2).mono ?_
    rintro e w8 ⟨rfl, hb8⟩
    have HD8 : Hid (Below W2.heap.size W2 w8) := Lib.hid hb8
    clear hb8
    have hcx := HCA.out.below HD8.out
    have b0 : w8.cell? ⟨W.heap.size, 0, none⟩ = some (.int .i64 0) := hcx.cell 0
    have b1 : w8.cell? ⟨W.heap.size, 1, none⟩ = some (.slice none 0 0) := hcx.cell 1
    have f0 := hcx.frozen 0
    have f1 := hcx.frozen 1
    have hfin := (hcx.set_ 0 (.int .i64 14)).set_ 1 (.slice none 0 0)
    clear hcx
    have HEND : Hid (ErrDoc (firstsB f n links) W (.returned (.agg #[.int .i64 14, .slice none 0 0])) ((w8.setCell ⟨W.heap.size, 0, none⟩ (.int .i64 14)).setCell ⟨W.heap.size, 1, none⟩ (.slice none 0 0))) := Lib.hid (by
      rw [HE.out]
      exact ⟨((HBA.out.trans (HD8.out.mono (by omega))).setCell (Nat.le_refl _) _).setCell (Nat.le_refl _) _, rfl⟩)
    go_wp2_with fail
    generalize (w8.setCell ⟨W.heap.size, 0, none⟩ (.int .i64 14)).setCell ⟨W.heap.size, 1, none⟩ (.slice none 0 0) = wz at *
    have r0 : wz.cell? ⟨W.heap.size, 0, none⟩ = some (.int .i64 14) := hfin.cell 0
    have r1 : wz.cell? ⟨W.heap.size, 1, none⟩ = some (.slice none 0 0) := hfin.cell 1
    refine bodyPost_ret (by simp [results, Try.results39, go_sem, r0, r1]; try rfl) rfl ?_
    exact HEND.out
end Go.Proofs.Ytkcnnamghpdplaa
