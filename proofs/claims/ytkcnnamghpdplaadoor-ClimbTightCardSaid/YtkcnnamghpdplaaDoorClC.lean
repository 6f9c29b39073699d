/- Several texts in one (squeeze.py): Cl13 Cl14 Cl15 Cl16. -/
import Derived.Test.YtkcnnamghpdplaaDoorCl12
/- Errors; small things about links. -/
set_option linter.unusedSimpArgs false
set_option linter.unusedVariables false
namespace Go.Proofs.YtkcnnamghpdplaaDoor
open Go.RowKit

def noL : Nat := 4294967295
def plainB (l : Lk) : Bool := decide (l.l = 4294967295 ∧ l.r = 4294967295)
theorem E_any (c : Int) (W : World) : Calls Tryd.prog 20 #[.int .i64 c] W fun e w' => e = .returned (.agg #[.int .i64 c, .slice none 0 0]) ∧ Below W.heap.size W w' := by
  go_enter Tryd.func20, Tryd.ntmps20
  go_wp2_with fail
  go_returns
  exact ⟨rfl, (Below.refl _ W).alloc (Nat.le_refl _) _⟩
theorem Bad_any (c : Int) (A : Option Addr) (n cap : Nat) (W : World) : Calls Tryd.prog 18 #[.agg #[.int .i64 c, .slice A n cap]] W fun e w' => e = .returned (.bool (decide (c ≠ 0 ∨ 0 < n))) ∧ Below W.heap.size W w' := by
  by_cases hc : c = 0
  · subst hc
    have e0 : Hid (decide ((0 : Int) ≠ 0 ∨ 0 < n) = decide (0 < n)) := Lib.hid (by simp)
    by_cases hn : 0 < n
    · have g0 : decide ((0 : Int) < (n : Int)) = true := decide_eq_true (by omega)
      have e1 : Hid (decide (0 < n) = true) := Lib.hid (decide_eq_true hn)
      go_enter Tryd.func18, Tryd.ntmps18
      go_wp2_with (go_quiet (fail))
      go_ret
      exact ⟨by rw [e0.out, e1.out]; rfl, by first | exact (Below.refl _ W).alloc (Nat.le_refl _) _ | exact ((Below.refl _ W).alloc (Nat.le_refl _) _).drew⟩
    · have g0 : decide ((0 : Int) < (n : Int)) = false := decide_eq_false (by omega)
      have e1 : Hid (decide (0 < n) = false) := Lib.hid (decide_eq_false hn)
      go_enter Tryd.func18, Tryd.ntmps18
      go_wp2_with (go_quiet (fail))
      go_ret
      exact ⟨by rw [e0.out, e1.out]; rfl, by first | exact (Below.refl _ W).alloc (Nat.le_refl _) _ | exact ((Below.refl _ W).alloc (Nat.le_refl _) _).drew⟩
  · have g0 : (c == 0) = false := beq_eq_false_iff_ne.2 hc
    have e1 : Hid (decide (c ≠ 0 ∨ 0 < n) = true) := Lib.hid (decide_eq_true (.inl hc))
    go_enter Tryd.func18, Tryd.ntmps18
    go_wp2_with (go_quiet (fail))
    go_ret
    exact ⟨by rw [e1.out]; rfl, by first | exact (Below.refl _ W).alloc (Nat.le_refl _) _ | exact ((Below.refl _ W).alloc (Nat.le_refl _) _).drew⟩
theorem Plain_any (l : Lk) (W : World) (hi : InK l) : Calls Tryd.prog 59 #[linkV l] W fun e w' => e = .returned (.bool (plainB l)) ∧ Below W.heap.size W w' := by
  have HE : Hid (plainB l = decide (l.l = 4294967295 ∧ l.r = 4294967295)) := Lib.hid rfl
  generalize plainB l = res at *
  obtain ⟨x0, x1, x2, x3⟩ := l
  unfold linkV
  dsimp only at HE ⊢
  by_cases h2 : x2 = 4294967295
  · subst h2
    by_cases h3 : x3 = 4294967295
    · subst h3
      go_enter Tryd.func59, Tryd.ntmps59
      go_wp2_with (go_quiet (fail))
      go_ret
      exact ⟨by rw [HE.out]; rfl, by first | exact (Below.refl _ W).alloc (Nat.le_refl _) _ | exact ((Below.refl _ W).alloc (Nat.le_refl _) _).drew⟩
    · have g0 : ((x3 : Int) == 4294967295) = false := by rw [beq_eq_false_iff_ne]; omega
      have HE2 : Hid (res = false) := Lib.hid (HE.out.trans (decide_eq_false (fun h => h3 h.2)))
      go_enter Tryd.func59, Tryd.ntmps59
      go_wp2_with (go_quiet (fail))
      go_ret
      exact ⟨by rw [HE2.out]; rfl, by first | exact (Below.refl _ W).alloc (Nat.le_refl _) _ | exact ((Below.refl _ W).alloc (Nat.le_refl _) _).drew⟩
  · have g0 : ((x2 : Int) == 4294967295) = false := by rw [beq_eq_false_iff_ne]; omega
    have HE2 : Hid (res = false) := Lib.hid (HE.out.trans (decide_eq_false (fun h => h2 h.1)))
    go_enter Tryd.func59, Tryd.ntmps59
    go_wp2_with (go_quiet (fail))
    go_ret
    exact ⟨by rw [HE2.out]; rfl, by first | exact (Below.refl _ W).alloc (Nat.le_refl _) _ | exact ((Below.refl _ W).alloc (Nat.le_refl _) _).drew⟩
theorem plain_any (l : Lk) (W : World) (hi : InK l) : Calls Tryd.prog 79 #[linkV l] W fun e w' => e = .returned (.bool (plainB l)) ∧ Below W.heap.size W w' := by
  have HE : Hid (plainB l = decide (l.l = 4294967295 ∧ l.r = 4294967295)) := Lib.hid rfl
  generalize plainB l = res at *
  obtain ⟨x0, x1, x2, x3⟩ := l
  unfold linkV
  dsimp only at HE ⊢
  by_cases h2 : x2 = 4294967295
  · subst h2
    by_cases h3 : x3 = 4294967295
    · subst h3
      go_enter Tryd.func79, Tryd.ntmps79
      go_wp2_with (go_quiet (fail))
      go_ret
      exact ⟨by rw [HE.out]; rfl, by first | exact (Below.refl _ W).alloc (Nat.le_refl _) _ | exact ((Below.refl _ W).alloc (Nat.le_refl _) _).drew⟩
    · have g0 : ((x3 : Int) == 4294967295) = false := by rw [beq_eq_false_iff_ne]; omega
      have HE2 : Hid (res = false) := Lib.hid (HE.out.trans (decide_eq_false (fun h => h3 h.2)))
      go_enter Tryd.func79, Tryd.ntmps79
      go_wp2_with (go_quiet (fail))
      go_ret
      exact ⟨by rw [HE2.out]; rfl, by first | exact (Below.refl _ W).alloc (Nat.le_refl _) _ | exact ((Below.refl _ W).alloc (Nat.le_refl _) _).drew⟩
  · have g0 : ((x2 : Int) == 4294967295) = false := by rw [beq_eq_false_iff_ne]; omega
    have HE2 : Hid (res = false) := Lib.hid (HE.out.trans (decide_eq_false (fun h => h2 h.1)))
    go_enter Tryd.func79, Tryd.ntmps79
    go_wp2_with (go_quiet (fail))
    go_ret
    exact ⟨by rw [HE2.out]; rfl, by first | exact (Below.refl _ W).alloc (Nat.le_refl _) _ | exact ((Below.refl _ W).alloc (Nat.le_refl _) _).drew⟩
theorem At1_any (k a c : Int) (W : World) : Calls Tryd.prog 38 #[.int .i64 k, .int .i64 a, .agg #[.int .i64 c, .slice none 0 0]] W fun e w' => ∃ g cap, e = .returned (.agg #[.int .i64 c, .slice (some ⟨g, 0, none⟩) 1 cap]) ∧ Cells w' g #[.int .i64 k, .int .i64 a] 73 ∧ W.heap.size ≤ g ∧ Below W.heap.size W w' := by
  go_enter Tryd.func38, Tryd.ntmps38
  go_wp2_with fail
  go_returns
  refine ⟨_, _, rfl, ?_, by omega, (((Below.refl _ _).alloc (Nat.le_refl _) _).alloc (by simp) _).alloc (by simp; omega) _⟩
  have h := cells_new (((W.alloc (Obj.cells #[.int .i64 c, .slice none 0 0] 37)).alloc (Obj.cells #[.int .i64 c, .slice (some ⟨W.heap.size + 1 + 1, 0, none⟩) 1 1] 37))) #[.int .i64 k, .int .i64 a] 73
  rwa [size_alloc, size_alloc] at h
theorem FaultAt_any (k a c : Int) (W : World) :
    Calls Tryd.prog 44 #[.int .i64 k, .int .i64 a, .iface 56 (.int .i64 c)] W fun e w' => e = .returned (.iface 74 (.pointer (some ⟨W.heap.size, 0, none⟩))) ∧ Cells w' W.heap.size #[.int .i64 k, .int .i64 a, .iface 56 (.int .i64 c)] 78 ∧ Below W.heap.size W w' := by
  go_enter Tryd.func44, Tryd.ntmps44
  go_wp2_with fail
  go_ret
  exact ⟨rfl, cells_new W _ _, (Below.refl _ _).alloc (Nat.le_refl _) _⟩
end Go.Proofs.YtkcnnamghpdplaaDoor
/- What is wrong with a list of firsts. -/
set_option linter.unusedSimpArgs false
set_option linter.unusedVariables false
namespace Go.Proofs.YtkcnnamghpdplaaDoor
open Go.RowKit

/-- what is wrong: a number, and at most one place -/
abbrev Bug := Option (Int × Option (Int × Int))
def ErrDoc (b : Bug) (W : World) (e : Ending) (w' : World) : Prop := Below W.heap.size W w' ∧ match b with
  | none => e = .returned (.agg #[.int .i64 0, .slice none 0 0])
  | some (c, none) => e = .returned (.agg #[.int .i64 c, .slice none 0 0])
  | some (c, some (k, a)) => ∃ g cap, e = .returned (.agg #[.int .i64 c, .slice (some ⟨g, 0, none⟩) 1 cap]) ∧ Cells w' g #[.int .i64 k, .int .i64 a] 73 ∧ W.heap.size ≤ g
def ErrProg (b : Bug) (W : World) (e : Ending) (w' : World) : Prop := Below W.heap.size W w' ∧ match b with
  | none => e = .returned .nilIface
  | some (c, none) => e = .returned (.iface 56 (.int .i64 c))
  | some (c, some (k, a)) => ∃ g, e = .returned (.iface 74 (.pointer (some ⟨g, 0, none⟩))) ∧ Cells w' g #[.int .i64 k, .int .i64 a, .iface 56 (.int .i64 c)] 78 ∧ W.heap.size ≤ g
theorem find_some {n j : Nat} {p : Nat → Bool} (h : ∀ r, r < j → p r = false) (hp : p j = true) (hj : j < n) : (List.range n).find? p = some j := by
  rw [List.find?_range_eq_some]
  exact ⟨hp, by simpa using hj, fun r hr => by rw [h r hr]; rfl⟩
theorem find_none {n : Nat} {p : Nat → Bool} (h : ∀ r, r < n → p r = false) : (List.range n).find? p = none := by
  rw [List.find?_eq_none]
  intro r hr
  rw [h r (List.mem_range.1 hr)]
  exact Bool.false_ne_true
def stepsB (f : List Nat) (r : Nat) : Bool := decide (f.getD (r + 1) 0 < f.getD r 0)
def firstsB (f : List Nat) (n links : Nat) : Bug :=
  if f.getD 0 0 = 0 then
    match (List.range n).find? (stepsB f) with
    | some r => some (14, some (3, (r : Int)))
    | none => if f.getD n 0 = links then none else some (14, none)
  else some (14, none)
theorem one_first {w : World} {A : Option Addr} {n : Nat} {f : List Nat} (h : Rd32 w A (n + 1) f) : ∃ ad, A = some ad ∧ ∀ j, j < n + 1 → w.cell? (ad.add j) = some (.int .u32 (f.getD j 0 : Nat)) := by
  obtain ⟨ad, hA, hc⟩ := h.2 (by omega)
  have hl := h.1
  refine ⟨ad, hA, fun j hj => ?_⟩
  have h1 : f[j]? = some (f.getD j 0) := by rw [List.getD_eq_getElem?_getD, List.getElem?_eq_getElem (by omega)]; rfl
  have := hc j _ 0 _ h1 rfl
  rwa [Nat.mul_one, Nat.add_zero] at this
theorem getD_in {f : List Nat} (h : ∀ x ∈ f, In32 x) (j : Nat) : In32 (f.getD j 0) := by
  rw [List.getD_eq_getElem?_getD]
  cases hj : f[j]? with
  | none => exact Nat.zero_le _
  | some x => exact h x (List.mem_of_getElem? hj)
theorem firsts_prog (A : Option Addr) (n cap links : Nat) (f : List Nat) (W : World) (hf : Rd32 W A (n + 1) f) (hin : ∀ x ∈ f, In32 x) (hn : n ≤ 65536) (hl : links ≤ 1048576) :
    Calls Tryd.prog 64 #[.slice A (n + 1) cap, .int .i64 links] W (ErrProg (firstsB f n links) W) := by
  obtain ⟨ad, rfl, hcs⟩ := one_first hf
  have HF := Lib.hid hf
  have HIN := Lib.hid hin
  have h0 : W.cell? ad = some (.int .u32 (f.getD 0 0 : Nat)) := by have h := hcs 0 (by omega); rwa [show ad.add 0 = ad by cases ad; rfl] at h
  have hi0 := getD_in hin 0
  clear hf hin hcs
  have HB : Hid (firstsB f n links = firstsB f n links) := Lib.hid rfl
  by_cases hz : f.getD 0 0 = 0
  · have h0' : W.cell? ad = some (.int .u32 0) := by rw [h0, hz]; rfl
    clear h0 hi0
    go_enter Tryd.func64, Tryd.ntmps64
    go_wp2_with fail
    go_loopw [14] (fun iv wr => ∃ j : Nat, j ≤ n ∧ iv = .int .i64 j ∧ (∀ r, r < j → stepsB f r = false) ∧ Below W.heap.size W wr) (fun iv _ => n - (intOf iv).toNat)
    case atStart => exact ⟨0, by omega, rfl, fun r hr => absurd hr (by omega), Below.refl _ _⟩
    case round =>
      obtain ⟨j, hj, rfl, hst, hb⟩ := hrel
      have HST := Lib.hid hst
      have HBL := Lib.hid hb
      clear hst hb
      by_cases hlt : j < n
      · have g0 : decide ((j : Int) < (n : Int)) = true := decide_eq_true (by omega)
        obtain ⟨ad', hA, e0, e1⟩ := two_firsts (HF.out.below HBL.out) hlt
        obtain rfl := Option.some.inj hA
        have e1' : wr.cell? ⟨ad.block, ad.off + (j + 1), none⟩ = some (.int .u32 (f.getD (j + 1) 0 : Nat)) := e1
        have w1 : IntKind.i64.wrap ((j : Int) + 1) = (j : Int) + 1 := by rw [IntKind.wrap_i64]; omega
        have w2' : (0 : Int) ≤ (j : Int) + 1 := by omega
        have w3' : ((j : Int) + 1).toNat = j + 1 := by omega
        have i1 : (0 : Int) ≤ (j : Int) := by omega
        have i2 : (j : Int) < (n : Int) + 1 := by omega
        have i3 : (j : Int) + 1 < (n : Int) + 1 := by omega
        have i4 : (j : Int) < ((n + 1 : Nat) : Int) := by omega
        have i5 : (j : Int) + 1 < ((n + 1 : Nat) : Int) := by omega
        have hdr0 : ∀ k, Below W.heap.size W (wr.drewN k) := fun k => HBL.out.trans ⟨rfl, rfl, rfl, Nat.le_refl _, fun _ _ => rfl⟩
        have HDR := Lib.hid hdr0
        clear hdr0
        by_cases hs : f.getD (j + 1) 0 < f.getD j 0
        · have HE : Hid (firstsB f n links = some (14, some (3, (j : Int)))) := Lib.hid (by unfold firstsB; rw [if_pos hz, find_some HST.out (show stepsB f j = true from decide_eq_true hs) hlt])
          have g1 : decide (((f.getD (j + 1) 0 : Nat) : Int) < ((f.getD j 0 : Nat) : Int)) = true := decide_eq_true (by omega)
          clear hz
          generalize f.getD (j + 1) 0 = y1 at *
          generalize f.getD j 0 = y0 at *
          go_wp2_with fail
          go_quiet (fail)
          have hd7 := HDR.out nq
          generalize wr.drewN nq = w7 at hd7 ⊢
          have HD7 := Lib.hid hd7
          clear hd7
          go_wp2_with fail
          refine (FaultAt_any 3 (j : Int) 14 w7).mono ?_
          rintro e w8 ⟨rfl, hc8, hb8⟩
          have HEND : Hid (ErrProg (firstsB f n links) W (.returned (.iface 74 (.pointer (some ⟨w7.heap.size, 0, none⟩)))) w8) := Lib.hid (by rw [HE.out]; exact ⟨HD7.out.trans (hb8.mono HD7.out.size), w7.heap.size, rfl, hc8, HD7.out.size⟩)
          clear hc8 hb8
          go_wp2_with fail
          go_ret
          exact HEND.out
        · have HN : Hid (∀ r, r < j + 1 → stepsB f r = false) := Lib.hid fun r hr => by
            by_cases e : r = j
            · subst e; exact decide_eq_false hs
            · exact HST.out r (by omega)
          have g1 : decide (((f.getD (j + 1) 0 : Nat) : Int) < ((f.getD j 0 : Nat) : Int)) = false := decide_eq_false (by omega)
          generalize f.getD (j + 1) 0 = y1 at *
          generalize f.getD j 0 = y0 at *
          go_wp2_with fail
          go_quiet (fail)
          have hd7 := HDR.out nq
          generalize wr.drewN nq = w7 at hd7 ⊢
          have HD7 := Lib.hid hd7
          clear hd7
          go_wp2_with fail
          go_roundw
          case rel => exact ⟨j + 1, by omega, by go_num, HN.out, HD7.out⟩
          case measure => simp [intOf]; omega
      · obtain rfl : n = j := by omega
        obtain ⟨ad', hA, hcs⟩ := one_first (HF.out.below HBL.out)
        obtain rfl := Option.some.inj hA
        have e1 := hcs n (by omega)
        have hin := getD_in HIN.out n
        unfold In32 at hin
        have hfn := find_none HST.out
        by_cases hq : f.getD n 0 = links
        · have HE : Hid (firstsB f n links = none) := Lib.hid (by unfold firstsB; rw [if_pos hz, hfn]; exact if_pos hq)
          clear hcs hfn hz
          rw [hq] at e1
          go_wp2_with fail
          go_ret
          rw [HE.out]
          exact ⟨HBL.out, rfl⟩
        · have HE : Hid (firstsB f n links = some (14, none)) := Lib.hid (by unfold firstsB; rw [if_pos hz, hfn]; exact if_neg hq)
          clear hcs hfn hz
          generalize f.getD n 0 = y at *
          have g2 : ((y : Int) == (links : Int)) = false := by rw [beq_eq_false_iff_ne]; omega
          go_wp2_with fail
          go_ret
          rw [HE.out]
          exact ⟨HBL.out, rfl⟩
  · have g0 : (((f.getD 0 0 : Nat) : Int) == 0) = false := by rw [beq_eq_false_iff_ne]; omega
    have HE : Hid (firstsB f n links = some (14, none)) := Lib.hid (by unfold firstsB; rw [if_neg hz])
    generalize f.getD 0 0 = z at *
    go_enter Tryd.func64, Tryd.ntmps64
    go_wp2_with fail
    go_ret
    rw [HE.out]
    exact ⟨Below.refl _ _, rfl⟩
theorem firsts_doc (A : Option Addr) (n cap links : Nat) (f : List Nat) (W : World) (hf : Rd32 W A (n + 1) f) (hin : ∀ x ∈ f, In32 x) (hn : n ≤ 65536) (hl : links ≤ 1048576) :
    Calls Tryd.prog 37 #[.slice A (n + 1) cap, .int .i64 n, .int .i64 links] W (ErrDoc (firstsB f n links) W) := by
  obtain ⟨ad, rfl, hcs⟩ := one_first hf
  have HF := Lib.hid hf
  have HIN := Lib.hid hin
  have h0 : W.cell? ad = some (.int .u32 (f.getD 0 0 : Nat)) := by have h := hcs 0 (by omega); rwa [show ad.add 0 = ad by cases ad; rfl] at h
  have hi0 := getD_in hin 0
  have hba := (Below.refl W.heap.size W).alloc (Nat.le_refl _) (.cells #[.int .i64 0, .slice none 0 0] 37)
  have h0 := cell_below hba h0
  have hca := cells_new W #[.int .i64 0, .slice none 0 0] 37
  have hlw : (W.alloc (.cells #[.int .i64 0, .slice none 0 0] 37)).heap.size = W.heap.size + 1 := size_alloc _ _
  have HBA := Lib.hid hba
  have HCA := Lib.hid hca
  clear hf hin hcs hba hca
  have HB : Hid (firstsB f n links = firstsB f n links) := Lib.hid rfl
  by_cases hz : f.getD 0 0 = 0
  · have h0' : (W.alloc (.cells #[.int .i64 0, .slice none 0 0] 37)).cell? ad = some (.int .u32 0) := by rw [h0, hz]; rfl
    clear h0 hi0
    go_enter Tryd.func37, Tryd.ntmps37
    go_wp2_with fail
    generalize W.alloc (.cells #[.int .i64 0, .slice none 0 0] 37) = W2 at *
    go_loopw [7] (fun iv wr => ∃ j : Nat, j ≤ n ∧ iv = .int .i64 j ∧ (∀ r, r < j → stepsB f r = false) ∧ Below W2.heap.size W2 wr) (fun iv _ => n - (intOf iv).toNat)
    case atStart => exact ⟨0, by omega, rfl, fun r hr => absurd hr (by omega), Below.refl _ _⟩
    case round =>
      obtain ⟨j, hj, rfl, hst, hb⟩ := hrel
      have HST := Lib.hid hst
      have HBL := Lib.hid hb
      clear hst hb
      by_cases hlt : j < n
      · have g0 : decide ((j : Int) < (n : Int)) = true := decide_eq_true (by omega)
        obtain ⟨ad', hA, e0, e1⟩ := two_firsts (HF.out.below (HBA.out.trans (HBL.out.mono (by omega)))) hlt
        obtain rfl := Option.some.inj hA
        have e1' : wr.cell? ⟨ad.block, ad.off + (j + 1), none⟩ = some (.int .u32 (f.getD (j + 1) 0 : Nat)) := e1
        have w1 : IntKind.i64.wrap ((j : Int) + 1) = (j : Int) + 1 := by rw [IntKind.wrap_i64]; omega
        have w2' : (0 : Int) ≤ (j : Int) + 1 := by omega
        have w3' : ((j : Int) + 1).toNat = j + 1 := by omega
        have i1 : (0 : Int) ≤ (j : Int) := by omega
        have i2 : (j : Int) < (n : Int) + 1 := by omega
        have i3 : (j : Int) + 1 < (n : Int) + 1 := by omega
        have i4 : (j : Int) < ((n + 1 : Nat) : Int) := by omega
        have i5 : (j : Int) + 1 < ((n + 1 : Nat) : Int) := by omega
        have hdr0 : ∀ k, Below W2.heap.size W2 (wr.drewN k) := fun k => HBL.out.trans ⟨rfl, rfl, rfl, Nat.le_refl _, fun _ _ => rfl⟩
        have HDR := Lib.hid hdr0
        clear hdr0
        by_cases hs : f.getD (j + 1) 0 < f.getD j 0
        · have HE : Hid (firstsB f n links = some (14, some (3, (j : Int)))) := Lib.hid (by unfold firstsB; rw [if_pos hz, find_some HST.out (show stepsB f j = true from decide_eq_true hs) hlt])
          have g1 : decide (((f.getD (j + 1) 0 : Nat) : Int) < ((f.getD j 0 : Nat) : Int)) = true := decide_eq_true (by omega)
          clear hz
          generalize f.getD (j + 1) 0 = y1 at *
          generalize f.getD j 0 = y0 at *
          go_wp2_with fail
          go_quiet (fail)
          have hd7 := HDR.out nq
          generalize wr.drewN nq = w7 at hd7 ⊢
          have HD7 := Lib.hid hd7
          clear hd7
          go_wp2_with fail
          refine (E_any 14 w7).mono ?_
          rintro e w8 ⟨rfl, hb8⟩
          have HD8 : Hid (Below W2.heap.size W2 w8) := Lib.hid (HD7.out.trans (hb8.mono HD7.out.size))
          clear hb8
          go_wp2_with fail
          refine (At1_any 3 (j : Int) 14 w8).mono ?_
          rintro e w9 ⟨g, cg, rfl, hc9, hg9, hb9⟩
          have HC9 := Lib.hid hc9
          have HD9 : Hid (Below W2.heap.size W2 w9) := Lib.hid (HD8.out.trans (hb9.mono HD8.out.size))
          have hg : W.heap.size + 1 ≤ g := by have := HD8.out.size; omega
          have hcx := HCA.out.below HD9.out
          have b0 : w9.cell? ⟨W.heap.size, 0, none⟩ = some (.int .i64 0) := hcx.cell 0
          have b1 : w9.cell? ⟨W.heap.size, 1, none⟩ = some (.slice none 0 0) := hcx.cell 1
          have f0 := hcx.frozen 0
          have f1 := hcx.frozen 1
          have hfin := (hcx.set_ 0 (.int .i64 14)).set_ 1 (.slice (some ⟨g, 0, none⟩) 1 cg)
          clear hc9 hg9 hb9 hcx
          have HEND : Hid (ErrDoc (firstsB f n links) W (.returned (.agg #[.int .i64 14, .slice (some ⟨g, 0, none⟩) 1 cg])) ((w9.setCell ⟨W.heap.size, 0, none⟩ (.int .i64 14)).setCell ⟨W.heap.size, 1, none⟩ (.slice (some ⟨g, 0, none⟩) 1 cg))) := Lib.hid (by
            rw [HE.out]
            exact ⟨((HBA.out.trans (HD9.out.mono (by omega))).setCell (Nat.le_refl _) _).setCell (Nat.le_refl _) _, g, cg, rfl, (HC9.out.far (k := W.heap.size) 0 _ (by omega)).far (k := W.heap.size) 1 _ (by omega), by omega⟩)
          go_wp2_with fail
          generalize (w9.setCell ⟨W.heap.size, 0, none⟩ (.int .i64 14)).setCell ⟨W.heap.size, 1, none⟩ (.slice (some ⟨g, 0, none⟩) 1 cg) = wz at *
          have r0 : wz.cell? ⟨W.heap.size, 0, none⟩ = some (.int .i64 14) := hfin.cell 0
          have r1 : wz.cell? ⟨W.heap.size, 1, none⟩ = some (.slice (some ⟨g, 0, none⟩) 1 cg) := hfin.cell 1
          refine bodyPost_ret (by simp [results, Tryd.results37, go_sem, r0, r1]; try rfl) rfl ?_
          exact HEND.out
        · have HN : Hid (∀ r, r < j + 1 → stepsB f r = false) := Lib.hid fun r hr => by
            by_cases e : r = j
            · subst e; exact decide_eq_false hs
            · exact HST.out r (by omega)
          have g1 : decide (((f.getD (j + 1) 0 : Nat) : Int) < ((f.getD j 0 : Nat) : Int)) = false := decide_eq_false (by omega)
          generalize f.getD (j + 1) 0 = y1 at *
          generalize f.getD j 0 = y0 at *
          go_wp2_with fail
          go_quiet (fail)
          have hd7 := HDR.out nq
          generalize wr.drewN nq = w7 at hd7 ⊢
          have HD7 := Lib.hid hd7
          clear hd7
          go_wp2_with fail
          go_roundw
          case rel => exact ⟨j + 1, by omega, by go_num, HN.out, HD7.out⟩
          case measure => simp [intOf]; omega
      · obtain rfl : n = j := by omega
        obtain ⟨ad', hA, hcs⟩ := one_first (HF.out.below (HBA.out.trans (HBL.out.mono (by omega))))
        obtain rfl := Option.some.inj hA
        have e1 := hcs n (by omega)
        have hin := getD_in HIN.out n
        unfold In32 at hin
        have hfn := find_none HST.out
        by_cases hq : f.getD n 0 = links
        · have HE : Hid (firstsB f n links = none) := Lib.hid (by unfold firstsB; rw [if_pos hz, hfn]; exact if_pos hq)
          clear hcs hfn hz
          rw [hq] at e1
          have hcx := HCA.out.below HBL.out
          have b0 : wr.cell? ⟨W.heap.size, 0, none⟩ = some (.int .i64 0) := hcx.cell 0
          have b1 : wr.cell? ⟨W.heap.size, 1, none⟩ = some (.slice none 0 0) := hcx.cell 1
          have f0 := hcx.frozen 0
          have f1 := hcx.frozen 1
          have hfin := (hcx.set_ 0 (.int .i64 0)).set_ 1 (.slice none 0 0)
          clear hcx
          have HEND : Hid (ErrDoc (firstsB f n links) W (.returned (.agg #[.int .i64 0, .slice none 0 0])) ((wr.setCell ⟨W.heap.size, 0, none⟩ (.int .i64 0)).setCell ⟨W.heap.size, 1, none⟩ (.slice none 0 0))) := Lib.hid (by
            rw [HE.out]
            exact ⟨((HBA.out.trans (HBL.out.mono (by omega))).setCell (Nat.le_refl _) _).setCell (Nat.le_refl _) _, rfl⟩)
          go_wp2_with fail
          generalize (wr.setCell ⟨W.heap.size, 0, none⟩ (.int .i64 0)).setCell ⟨W.heap.size, 1, none⟩ (.slice none 0 0) = wz at *
          have r0 : wz.cell? ⟨W.heap.size, 0, none⟩ = some (.int .i64 0) := hfin.cell 0
          have r1 : wz.cell? ⟨W.heap.size, 1, none⟩ = some (.slice none 0 0) := hfin.cell 1
          refine bodyPost_ret (by simp [results, Tryd.results37, go_sem, r0, r1]; try rfl) rfl ?_
          exact HEND.out
        · have HE : Hid (firstsB f n links = some (14, none)) := Lib.hid (by unfold firstsB; rw [if_pos hz, hfn]; exact if_neg hq)
          clear hcs hfn hz
          generalize f.getD n 0 = y at *
          have g2 : ((y : Int) == (links : Int)) = false := by rw [beq_eq_false_iff_ne]; omega
          go_wp2_with fail
          refine (E_any 14 wr).mono ?_
          rintro e w8 ⟨rfl, hb8⟩
          have HD8 : Hid (Below W2.heap.size W2 w8) := Lib.hid (HBL.out.trans (hb8.mono HBL.out.size))
          clear hb8
          have hcx := HCA.out.below HD8.out
          have b0 : w8.cell? ⟨W.heap.size, 0, none⟩ = some (.int .i64 0) := hcx.cell 0
          have b1 : w8.cell? ⟨W.heap.size, 1, none⟩ = some (.slice none 0 0) := hcx.cell 1
          have f0 := hcx.frozen 0
          have f1 := hcx.frozen 1
          have hfin := (hcx.set_ 0 (.int .i64 14)).set_ 1 (.slice none 0 0)
          clear hcx
          have HEND : Hid (ErrDoc (firstsB f n links) W (.returned (.agg #[.int .i64 14, .slice none 0 0])) ((w8.setCell ⟨W.heap.size, 0, none⟩ (.int .i64 14)).setCell ⟨W.heap.size, 1, none⟩ (.slice none 0 0))) := Lib.hid (by
            rw [HE.out]
            exact ⟨((HBA.out.trans (HD8.out.mono (by omega))).setCell (Nat.le_refl _) _).setCell (Nat.le_refl _) _, rfl⟩)
          go_wp2_with fail
          generalize (w8.setCell ⟨W.heap.size, 0, none⟩ (.int .i64 14)).setCell ⟨W.heap.size, 1, none⟩ (.slice none 0 0) = wz at *
          have r0 : wz.cell? ⟨W.heap.size, 0, none⟩ = some (.int .i64 14) := hfin.cell 0
          have r1 : wz.cell? ⟨W.heap.size, 1, none⟩ = some (.slice none 0 0) := hfin.cell 1
          refine bodyPost_ret (by simp [results, Tryd.results37, go_sem, r0, r1]; try rfl) rfl ?_
          exact HEND.out
  · have g0 : (((f.getD 0 0 : Nat) : Int) == 0) = false := by rw [beq_eq_false_iff_ne]; omega
    have HE : Hid (firstsB f n links = some (14, none)) := Lib.hid (by unfold firstsB; rw [if_neg hz])
    generalize f.getD 0 0 = z at *
    go_enter Tryd.func37, Tryd.ntmps37
    go_wp2_with fail
    generalize W.alloc (.cells #[.int .i64 0, .slice none 0 0] 37) = W2 at *
    refine (E_any 14 W2).mono ?_
    rintro e w8 ⟨rfl, hb8⟩
    have HD8 : Hid (Below W2.heap.size W2 w8) := Lib.hid hb8
    clear hb8
    have hcx := HCA.out.below HD8.out
    have b0 : w8.cell? ⟨W.heap.size, 0, none⟩ = some (.int .i64 0) := hcx.cell 0
    have b1 : w8.cell? ⟨W.heap.size, 1, none⟩ = some (.slice none 0 0) := hcx.cell 1
    have f0 := hcx.frozen 0
    have f1 := hcx.frozen 1
    have hfin := (hcx.set_ 0 (.int .i64 14)).set_ 1 (.slice none 0 0)
    clear hcx
    have HEND : Hid (ErrDoc (firstsB f n links) W (.returned (.agg #[.int .i64 14, .slice none 0 0])) ((w8.setCell ⟨W.heap.size, 0, none⟩ (.int .i64 14)).setCell ⟨W.heap.size, 1, none⟩ (.slice none 0 0))) := Lib.hid (by
      rw [HE.out]
      exact ⟨((HBA.out.trans (HD8.out.mono (by omega))).setCell (Nat.le_refl _) _).setCell (Nat.le_refl _) _, rfl⟩)
    go_wp2_with fail
    generalize (w8.setCell ⟨W.heap.size, 0, none⟩ (.int .i64 14)).setCell ⟨W.heap.size, 1, none⟩ (.slice none 0 0) = wz at *
    have r0 : wz.cell? ⟨W.heap.size, 0, none⟩ = some (.int .i64 14) := hfin.cell 0
    have r1 : wz.cell? ⟨W.heap.size, 1, none⟩ = some (.slice none 0 0) := hfin.cell 1
    refine bodyPost_ret (by simp [results, Tryd.results37, go_sem, r0, r1]; try rfl) rfl ?_
    exact HEND.out
end Go.Proofs.YtkcnnamghpdplaaDoor
/- What is wrong with a list that must have each number once: the program's. -/
set_option linter.unusedSimpArgs false
set_option linter.unusedVariables false
namespace Go.Proofs.YtkcnnamghpdplaaDoor
open Go.RowKit

/-- the marks of what has been met -/
def markG (t f : Value) (n : Nat) (s : List Nat) : Array Value := ((List.range n).map fun i => if i ∈ s then t else f).toArray
theorem markG_at {t f : Value} {n i : Nat} {s : List Nat} (h : i < n) : (markG t f n s)[i]? = some (if i ∈ s then t else f) := by
  unfold markG
  rw [List.getElem?_toArray, List.getElem?_map, List.getElem?_range h]
  rfl
theorem markG_set {t f : Value} {n v : Nat} (s : List Nat) (h : v < n) : (markG t f n s).setIfInBounds v t = markG t f n (s ++ [v]) := by
  unfold markG
  rw [List.setIfInBounds_toArray]
  congr 1
  apply List.ext_getElem?
  intro i
  rw [List.getElem?_set]
  by_cases e : v = i
  · subst e
    simp [h]
  · rw [if_neg e]
    by_cases hi : i < n
    · rw [List.getElem?_map, List.getElem?_map, List.getElem?_range hi]
      simp only [Option.map_some, List.mem_append, List.mem_singleton, show ¬ i = v from fun h => e h.symm, or_false]
    · rw [List.getElem?_eq_none (by simp; omega), List.getElem?_eq_none (by simp; omega)]
theorem made_mark (t f : Value) (n : Nat) : madeCells #[f] n = markG t f n [] := by
  apply Array.toList_inj.1
  rw [toList_madeCells_one]
  unfold markG
  symm
  rw [List.eq_replicate_iff]
  simp
theorem make_i64 (n : Nat) (hn : n ≤ 65536) (W : World) : (Instr.makeSlice 85 (.int .i64 (n : Int)) (.int .i64 (n : Int))).run Tryd.prog W = .ok (.slice (some ⟨W.heap.size, 0, none⟩) n n) (W.alloc (.cells (markG (.int .i64 1) (.int .i64 0) n []) 3)) := by
  obtain ⟨i, hi, hz0, hz1, hz2⟩ := info_parts info_i64
  have h := run_make (P := Tryd.prog) W 85 3 i _ Tryd.underlying85 hi hz0 .i64 .i64 (n : Int) (n : Int) (by omega) (by omega) (by rw [hz2]; omega) (by omega)
  rw [h, hz1, Int.toNat_natCast, Nat.mul_one]
  exact congrArg (fun c => Result.ok (Value.slice (some ⟨W.heap.size, 0, none⟩) n n) (W.alloc (.cells c 3))) (made_mark _ _ n)
def againB (l : List Nat) (n r : Nat) : Bool := decide (n ≤ l.getD r 0 ∨ l.getD r 0 ∈ l.take r)
def orderB (l : List Nat) (n : Nat) : Bug := match (List.range n).find? (againB l n) with
  | some r => some (20, some (3, (r : Int)))
  | none => none
set_option maxRecDepth 100000 in
theorem order_prog (A : Option Addr) (n cap : Nat) (l : List Nat) (W : World) (hf : Rd32 W A n l) (hin : ∀ x ∈ l, In32 x) (hn : n ≤ 65536) :
    Calls Tryd.prog 65 #[.slice A n cap] W (ErrProg (orderB l n) W) := by
  have HF := Lib.hid hf
  have HIN := Lib.hid hin
  have hmk := make_i64 n hn
  clear hf hin
  go_enter Tryd.func65, Tryd.ntmps65
  go_wp2_with fail
  have hc2 : Cells (W.alloc (.cells (markG (.int .i64 1) (.int .i64 0) n []) 3)) W.heap.size (markG (.int .i64 1) (.int .i64 0) n []) 3 := cells_new _ _ _
  have hb2 : Below W.heap.size W (W.alloc (.cells (markG (.int .i64 1) (.int .i64 0) n []) 3)) := (Below.refl _ _).alloc (Nat.le_refl _) _
  generalize (W.alloc (.cells (markG (.int .i64 1) (.int .i64 0) n []) 3)) = W2 at *
  have HC2 := Lib.hid hc2
  have HB2 := Lib.hid hb2
  clear hc2 hb2 hmk
  go_loopw [11] (fun iv wr => ∃ j : Nat, j ≤ n ∧ iv = .int .i64 j ∧ (∀ r, r < j → againB l n r = false) ∧ Cells wr W.heap.size (markG (.int .i64 1) (.int .i64 0) n (l.take j)) 3 ∧ Below W.heap.size W wr) (fun iv _ => n - (intOf iv).toNat)
  case atStart => exact ⟨0, by omega, rfl, fun r hr => absurd hr (by omega), HC2.out, HB2.out⟩
  case round =>
    obtain ⟨j, hj, rfl, hst, hc, hb⟩ := hrel
    have HST := Lib.hid hst
    have HC := Lib.hid hc
    have HB := Lib.hid hb
    clear hst hc hb HC2 HB2
    by_cases hlt : j < n
    · have g0 : decide ((j : Int) < (n : Int)) = true := decide_eq_true (by omega)
      obtain ⟨ad, hA, cc⟩ := (HF.out.below HB.out).at_ hlt
      subst hA
      have hjq : j < l.length := by have := HF.out.1; omega
      have c0 := cc 0 _ rfl
      rw [Nat.mul_one, Nat.add_zero] at c0
      have hx := HIN.out l[j] (List.getElem_mem _)
      have htk := List.take_succ_eq_append_getElem hjq
      have hgd : l.getD j 0 = l[j] := by rw [List.getD_eq_getElem?_getD, List.getElem?_eq_getElem hjq]; rfl
      generalize l[j] = v at *
      unfold In32 at hx
      have HTK := Lib.hid htk
      have HGD := Lib.hid hgd
      have w0 : IntKind.i64.wrap (v : Int) = v := by rw [IntKind.wrap_i64]; omega
      clear cc htk hgd hjq
      have HSTEP : Hid (againB l n j = false → ∀ r, r < j + 1 → againB l n r = false) := Lib.hid fun h r hr => by
        by_cases e : r = j
        · rw [e]; exact h
        · exact HST.out r (by omega)
      have HBAD : Hid (againB l n j = true → orderB l n = some (20, some (3, (j : Int)))) := Lib.hid fun h => by unfold orderB; rw [find_some HST.out h hlt]
      by_cases h1 : n ≤ v
      · have g1 : decide ((n : Int) ≤ (v : Int)) = true := decide_eq_true (by omega)
        have HE := Lib.hid (HBAD.out (decide_eq_true (.inl (by rw [HGD.out]; exact h1))))
        go_wp2_with (go_quiet (fail))
        refine (FaultAt_any 3 (j : Int) 20 wr).mono ?_
        rintro e w8 ⟨rfl, hc8, hb8⟩
        have HEND : Hid (ErrProg (orderB l n) W (.returned (.iface 74 (.pointer (some ⟨wr.heap.size, 0, none⟩)))) w8) := Lib.hid (by rw [HE.out]; exact ⟨HB.out.trans (hb8.mono HB.out.size), wr.heap.size, rfl, hc8, HB.out.size⟩)
        clear hc8 hb8
        go_wp2_with fail
        go_ret
        exact HEND.out
      · have g1 : decide ((n : Int) ≤ (v : Int)) = false := decide_eq_false (by omega)
        have cm := HC.out.cell v
        rw [markG_at (by omega)] at cm
        have hv0 : (0 : Int) ≤ (v : Int) := by omega
        have hv1 : (v : Int) < (n : Int) := by omega
        by_cases h2 : v ∈ l.take j
        · rw [if_pos h2] at cm
          have HE := Lib.hid (HBAD.out (decide_eq_true (.inr (by rw [HGD.out]; exact h2))))
          go_wp2_with (go_quiet (fail))
          refine (FaultAt_any 3 (j : Int) 20 wr).mono ?_
          rintro e w8 ⟨rfl, hc8, hb8⟩
          have HEND : Hid (ErrProg (orderB l n) W (.returned (.iface 74 (.pointer (some ⟨wr.heap.size, 0, none⟩)))) w8) := Lib.hid (by rw [HE.out]; exact ⟨HB.out.trans (hb8.mono HB.out.size), wr.heap.size, rfl, hc8, HB.out.size⟩)
          clear hc8 hb8
          go_wp2_with fail
          go_ret
          exact HEND.out
        · rw [if_neg h2] at cm
          have HN := Lib.hid (HSTEP.out (decide_eq_false (by rw [HGD.out]; exact fun h => h.elim h1 h2)))
          have ff := HC.out.frozen v
          go_wp2_with (go_quiet (fail))
          refine ⟨⟨j + 1, by omega, by go_num, HN.out, ?_, HB.out.setCell (Nat.le_refl _) _⟩, by simp [intOf]; omega⟩
          have e := HC.out.set_ v (.int .i64 1)
          rwa [markG_set _ (by omega), ← HTK.out] at e
    · obtain rfl : n = j := by omega
      have HE : Hid (orderB l n = none) := Lib.hid (by unfold orderB; rw [find_none HST.out])
      go_wp2_with fail
      go_ret
      rw [HE.out]
      exact ⟨HB.out, rfl⟩
end Go.Proofs.YtkcnnamghpdplaaDoor
/- The ranks of the links: the document's. (Printed by gen_ranks.py.) -/
set_option linter.unusedSimpArgs false
set_option linter.unusedVariables false
namespace Go.Proofs.YtkcnnamghpdplaaDoor
open Go.RowKit

/-- a list of firsts that is right -/
structure Fst (n : Nat) (f : List Nat) (m : Nat) : Prop where
  fl : f.length = n + 1
  z : f.getD 0 0 = 0
  mono : ∀ r, r < n → f.getD r 0 ≤ f.getD (r + 1) 0
  e : f.getD n 0 = m
theorem Fst.of_none {n m : Nat} {f : List Nat} (hl : f.length = n + 1) (h : firstsB f n m = none) : Fst n f m := by
  unfold firstsB at h
  split at h
  · rename_i hz
    split at h
    · cases h
    · rename_i hn
      split at h
      · rename_i he
        refine ⟨hl, hz, fun r hr => ?_, he⟩
        have := List.find?_eq_none.1 hn r (List.mem_range.2 hr)
        unfold stepsB at this
        simp only [decide_eq_true_eq] at this
        omega
      · cases h
  · cases h
theorem Fst.le {n m : Nat} {f : List Nat} (h : Fst n f m) : ∀ {r : Nat}, r ≤ n → f.getD r 0 ≤ m := by
  intro r hr
  obtain ⟨k, hk⟩ : ∃ k, n = r + k := ⟨n - r, by omega⟩
  have : ∀ k, r + k ≤ n → f.getD r 0 ≤ f.getD (r + k) 0 := by
    intro k
    induction k with
    | zero => intro _; exact Nat.le_refl _
    | succ k ih => intro hk; exact Nat.le_trans (ih (by omega)) (h.mono (r + k) (by omega))
  have h2 := this k (by omega)
  rw [← hk, h.e] at h2
  exact h2
/-- the ranks at which the links stand, of the ranks below r -/
def rankTo (f : List Nat) (r : Nat) : List Int := (List.range r).flatMap fun x => List.replicate (f.getD (x + 1) 0 - f.getD x 0) (x : Int)
theorem rankTo_succ (f : List Nat) (r : Nat) : rankTo f (r + 1) = rankTo f r ++ List.replicate (f.getD (r + 1) 0 - f.getD r 0) (r : Int) := by
  unfold rankTo
  rw [List.range_succ, List.flatMap_append]
  simp
theorem rankTo_len {n m : Nat} {f : List Nat} (h : Fst n f m) : ∀ {r : Nat}, r ≤ n → (rankTo f r).length = f.getD r 0 := by
  intro r
  induction r with
  | zero => intro _; rw [h.z]; rfl
  | succ r ih =>
    intro hr
    rw [rankTo_succ, List.length_append, List.length_replicate, ih (by omega)]
    have := h.mono r (by omega)
    omega
def ranksT (h : HierT) : List Int := rankTo h.uf h.node.length ++ rankTo h.df h.node.length
def RanksIs (l : List Int) (W : World) (e : Ending) (w' : World) : Prop := ∃ A c, e = .returned (.slice A l.length c) ∧ Stp.OwnI w' W.heap.size (.slice A l.length c) l ∧ Below W.heap.size W w'
set_option maxRecDepth 100000 in
set_option maxHeartbeats 4000000 in
theorem Ranks_any (k : HV) (h : HierT) (W : World) (hp : RdH W k h) (hs : Small k h) (hu : Fst h.node.length h.uf h.up.length) (hd : Fst h.node.length h.df h.dn.length) (hn : h.node.length ≤ 65536) (hm : h.up.length + h.dn.length ≤ 1048576) :
    Calls Tryd.prog 39 #[hierV k h] W (RanksIs (ranksT h) W) := by
  have HF := Lib.hid hp.r1
  have HG := Lib.hid hp.r3
  have HU := Lib.hid hu
  have HD := Lib.hid hd
  have hfl := hu.fl
  have hgl := hd.fl
  have ht1 := hs.t1
  have ht3 := hs.t3
  unfold hierV ranksT
  clear hp hs hu hd
  generalize h.node.length = n at *
  generalize h.up.length = n2 at *
  generalize h.dn.length = n4 at *
  generalize h.uf = f at *
  generalize h.df = g at *
  rw [hfl] at HF ht1 ⊢
  rw [hgl] at HG ht3 ⊢
  clear hfl hgl
  go_enter Tryd.func39, Tryd.ntmps39
  go_wp2_with fail
  generalize hW1 : W.alloc (.cells #[.slice k.a0 n k.c0, .slice k.a1 (n + 1) k.c1, .slice k.a2 n2 k.c2, .slice k.a3 (n + 1) k.c3, .slice k.a4 n4 k.c4] 25) = W1
  have hb1 : Below W.heap.size W W1 := by rw [← hW1]; exact (Below.refl _ _).alloc (Nat.le_refl _) _
  have hc1 : Cells W1 W.heap.size #[.slice k.a0 n k.c0, .slice k.a1 (n + 1) k.c1, .slice k.a2 n2 k.c2, .slice k.a3 (n + 1) k.c3, .slice k.a4 n4 k.c4] 25 := by rw [← hW1]; exact cells_new _ _ _
  have HB1 := Lib.hid hb1
  have HBX := Lib.hid hc1
  have HF1 := Lib.hid (HF.out.below hb1)
  have HG1 := Lib.hid (HG.out.below hb1)
  clear hb1 hc1 hW1 HF HG
  go_loopw [3, 4] (fun sv iv wr => ∃ r : Nat, r ≤ n ∧ iv = .int .i64 r ∧ Stp.OwnI wr W1.heap.size sv (rankTo f r) ∧ Below W1.heap.size W1 wr) (fun _ iv _ => n - (intOf iv).toNat)
  case atStart => exact ⟨0, by omega, rfl, Own.nil _ _ _ _ _, Below.refl _ _⟩
  case round =>
    obtain ⟨r, hr, rfl, ho, hb⟩ := hrel
    have HO := Lib.hid ho
    have HB := Lib.hid hb
    clear ho hb
    have b1 : wr.cell? ⟨W.heap.size, 1, none⟩ = some (.slice k.a1 (n + 1) k.c1) := (HBX.out.below HB.out).cell 1
    have w1 : IntKind.i64.wrap ((r : Int) + 1) = (r : Int) + 1 := by rw [IntKind.wrap_i64]; omega
    by_cases hlt : r < n
    · have g0 : decide ((r : Int) + 1 < (n : Int) + 1) = true := decide_eq_true (by omega)
      have g0' : (r : Int) + 1 < (n : Int) + 1 := by omega
      obtain ⟨ad, hA, e0, e1⟩ := two_firsts (HF1.out.below HB.out) hlt
      rw [hA] at b1
      have hmono := HU.out.mono r hlt
      have hle := HU.out.le (r := r + 1) (by omega)
      have hlen := rankTo_len HU.out (r := r) (by omega)
      have hsu := rankTo_succ f r
      generalize hx0 : f.getD r 0 = x0 at *
      generalize hx1 : f.getD (r + 1) 0 = x1 at *
      have HLEN := Lib.hid hlen
      have HSU := Lib.hid hsu
      have HA := Lib.hid hA
      clear hlen hsu hA
      have i1 : (0 : Int) ≤ (r : Int) := by omega
      have i2 : (r : Int) < (n : Int) + 1 := by omega
      go_wp2_with fail
      have hs0 : W1.heap.size ≤ wr.heap.size := HB.out.size
      have HWR := Lib.hid HB.out
      clear b1 e0 e1
      go_loopw [3, 5] (fun sv iv wi => ∃ i : Nat, x0 ≤ i ∧ i ≤ x1 ∧ iv = .int .u32 i ∧ Stp.OwnI wi W1.heap.size sv ((rankTo f r) ++ List.replicate (i - x0) (r : Int)) ∧ Below W1.heap.size W1 wi) (fun _ iv _ => x1 - (intOf iv).toNat)
      case atStart => exact ⟨x0, Nat.le_refl _, hmono, rfl, by rw [Nat.sub_self]; simpa using HO.out, HB.out⟩
      case round =>
        clear HWR hs0
        clear HO HB
        obtain ⟨i, hi0, hi1, rfl, ho, hb⟩ := hrel
        have HO := Lib.hid ho
        have HB := Lib.hid hb
        clear ho hb
        have b1 : wr.cell? ⟨W.heap.size, 1, none⟩ = some (.slice k.a1 (n + 1) k.c1) := (HBX.out.below HB.out).cell 1
        obtain ⟨ad', hA', e0, e1⟩ := two_firsts (HF1.out.below HB.out) hlt
        rw [hA'] at b1
        clear hA'
        rw [hx1] at e1
        have e1' : wr.cell? ⟨ad'.block, ad'.off + (r + 1), none⟩ = some (.int .u32 (x1 : Nat)) := e1
        have w3' : ((r : Int) + 1).toNat = r + 1 := by omega
        have j1 : (0 : Int) ≤ (r : Int) + 1 := by omega
        by_cases hlt2 : i < x1
        · have g1 : decide ((i : Int) < (x1 : Int)) = true := decide_eq_true (by omega)
          have w2 : IntKind.u32.wrap ((i : Int) + 1) = (i : Int) + 1 := by rw [IntKind.wrap_u32]; omega
          have hrep : (rankTo f r) ++ List.replicate (i + 1 - x0) (r : Int) = ((rankTo f r) ++ List.replicate (i - x0) (r : Int)) ++ [(r : Int)] := by rw [show i + 1 - x0 = (i - x0) + 1 by omega, List.replicate_succ']; simp only [List.append_assoc]
          have HREP := Lib.hid hrep
          have hln : ((rankTo f r) ++ List.replicate (i - x0) (r : Int)).length ≤ 1048576 := by have := HLEN.out; simp only [List.length_append, List.length_replicate]; omega
          generalize hLL : (rankTo f r) ++ List.replicate (i - x0) (r : Int) = LL at *
          have hs5 : W1.heap.size ≤ wr.heap.size := HB.out.size
          clear hrep hLL
          go_wp2_with (at_builtin; go_loud (refine wpList_append_rd rfl (.tmp 31) (.tmp 33) 85 rfl 3 (.int .i64 0) 8 Tryd.underlying85 Stp.info_int rfl (by omega) (by omega) Stp.i64s_len Stp.i64s_one W1.heap.size _ LL rfl (HO.out.below ((Below.refl _ _).alloc (Nat.le_refl _) _)) _ 1 1 [(r : Int)] rfl (Stp.rd_one (by rfl)) (by omega) (by simp; omega) ?_; intro v6 w6 ho6 hg6 hat6; have HO6 := Lib.hid ho6; have HB6 : Hid (Below W1.heap.size W1 w6) := Lib.hid (below_own (HB.out.alloc HB.out.size _) (HO.out.below ((Below.refl _ _).alloc (Nat.le_refl _) _)) hg6 (Nat.le_refl _) (by simp; omega)); clear ho6 hg6 hat6))
          go_roundw
          case rel => exact ⟨i + 1, by omega, by omega, by go_num, by rw [HREP.out]; exact HO6.out, HB6.out⟩
          case measure => simp [intOf]; omega
        · obtain rfl : x1 = i := by omega
          have g1 : decide ((x1 : Int) < (x1 : Int)) = false := decide_eq_false (by omega)
          go_wp2_with fail
          go_roundw
          case rel => exact ⟨r + 1, by omega, by go_num, by rw [HSU.out]; simpa only [List.append_assoc] using HO.out, HB.out⟩
          case measure => simp [intOf]; omega
    · obtain rfl : n = r := by omega
      have g0 : decide ((n : Int) + 1 < (n : Int) + 1) = false := decide_eq_false (by omega)
      go_wp2_with fail
      have HLF : Hid ((rankTo f n).length = n2) := Lib.hid ((rankTo_len HU.out (Nat.le_refl _)).trans HU.out.e)
      have HO0 := HO
      have HB0 := HB
      clear HO HB b1
      go_loopw [3, 6] (fun sv iv wr => ∃ r : Nat, r ≤ n ∧ iv = .int .i64 r ∧ Stp.OwnI wr W1.heap.size sv (rankTo f n ++ rankTo g r) ∧ Below W1.heap.size W1 wr) (fun _ iv _ => n - (intOf iv).toNat)
      case atStart => exact ⟨0, by omega, rfl, by simpa [rankTo] using HO0.out, HB0.out⟩
      case round =>
        obtain ⟨r, hr, rfl, ho, hb⟩ := hrel
        have HO := Lib.hid ho
        have HB := Lib.hid hb
        clear ho hb
        have b1 : wr.cell? ⟨W.heap.size, 3, none⟩ = some (.slice k.a3 (n + 1) k.c3) := (HBX.out.below HB.out).cell 3
        have w1 : IntKind.i64.wrap ((r : Int) + 1) = (r : Int) + 1 := by rw [IntKind.wrap_i64]; omega
        by_cases hlt : r < n
        · have g0 : decide ((r : Int) + 1 < (n : Int) + 1) = true := decide_eq_true (by omega)
          have g0' : (r : Int) + 1 < (n : Int) + 1 := by omega
          obtain ⟨ad, hA, e0, e1⟩ := two_firsts (HG1.out.below HB.out) hlt
          rw [hA] at b1
          have hmono := HD.out.mono r hlt
          have hle := HD.out.le (r := r + 1) (by omega)
          have hlen := rankTo_len HD.out (r := r) (by omega)
          have hsu := rankTo_succ g r
          generalize hx0 : g.getD r 0 = x0 at *
          generalize hx1 : g.getD (r + 1) 0 = x1 at *
          have HLEN := Lib.hid hlen
          have HSU := Lib.hid hsu
          have HA := Lib.hid hA
          clear hlen hsu hA
          have i1 : (0 : Int) ≤ (r : Int) := by omega
          have i2 : (r : Int) < (n : Int) + 1 := by omega
          go_wp2_with fail
          have hs0 : W1.heap.size ≤ wr.heap.size := HB.out.size
          have HWR := Lib.hid HB.out
          clear b1 e0 e1
          go_loopw [3, 7] (fun sv iv wi => ∃ i : Nat, x0 ≤ i ∧ i ≤ x1 ∧ iv = .int .u32 i ∧ Stp.OwnI wi W1.heap.size sv ((rankTo f n ++ rankTo g r) ++ List.replicate (i - x0) (r : Int)) ∧ Below W1.heap.size W1 wi) (fun _ iv _ => x1 - (intOf iv).toNat)
          case atStart => exact ⟨x0, Nat.le_refl _, hmono, rfl, by rw [Nat.sub_self]; simpa using HO.out, HB.out⟩
          case round =>
            clear HWR hs0
            clear HO HB
            obtain ⟨i, hi0, hi1, rfl, ho, hb⟩ := hrel
            have HO := Lib.hid ho
            have HB := Lib.hid hb
            clear ho hb
            have b1 : wr.cell? ⟨W.heap.size, 3, none⟩ = some (.slice k.a3 (n + 1) k.c3) := (HBX.out.below HB.out).cell 3
            obtain ⟨ad', hA', e0, e1⟩ := two_firsts (HG1.out.below HB.out) hlt
            rw [hA'] at b1
            clear hA'
            rw [hx1] at e1
            have e1' : wr.cell? ⟨ad'.block, ad'.off + (r + 1), none⟩ = some (.int .u32 (x1 : Nat)) := e1
            have w3' : ((r : Int) + 1).toNat = r + 1 := by omega
            have j1 : (0 : Int) ≤ (r : Int) + 1 := by omega
            by_cases hlt2 : i < x1
            · have g1 : decide ((i : Int) < (x1 : Int)) = true := decide_eq_true (by omega)
              have w2 : IntKind.u32.wrap ((i : Int) + 1) = (i : Int) + 1 := by rw [IntKind.wrap_u32]; omega
              have hrep : (rankTo f n ++ rankTo g r) ++ List.replicate (i + 1 - x0) (r : Int) = ((rankTo f n ++ rankTo g r) ++ List.replicate (i - x0) (r : Int)) ++ [(r : Int)] := by rw [show i + 1 - x0 = (i - x0) + 1 by omega, List.replicate_succ']; simp only [List.append_assoc]
              have HREP := Lib.hid hrep
              have hln : ((rankTo f n ++ rankTo g r) ++ List.replicate (i - x0) (r : Int)).length ≤ 1048576 := by have := HLEN.out; simp only [List.length_append, List.length_replicate, HLF.out]; omega
              generalize hLL : (rankTo f n ++ rankTo g r) ++ List.replicate (i - x0) (r : Int) = LL at *
              have hs5 : W1.heap.size ≤ wr.heap.size := HB.out.size
              clear hrep hLL
              go_wp2_with (at_builtin; go_loud (refine wpList_append_rd rfl (.tmp 58) (.tmp 60) 85 rfl 3 (.int .i64 0) 8 Tryd.underlying85 Stp.info_int rfl (by omega) (by omega) Stp.i64s_len Stp.i64s_one W1.heap.size _ LL rfl (HO.out.below ((Below.refl _ _).alloc (Nat.le_refl _) _)) _ 1 1 [(r : Int)] rfl (Stp.rd_one (by rfl)) (by omega) (by simp; omega) ?_; intro v6 w6 ho6 hg6 hat6; have HO6 := Lib.hid ho6; have HB6 : Hid (Below W1.heap.size W1 w6) := Lib.hid (below_own (HB.out.alloc HB.out.size _) (HO.out.below ((Below.refl _ _).alloc (Nat.le_refl _) _)) hg6 (Nat.le_refl _) (by simp; omega)); clear ho6 hg6 hat6))
              go_roundw
              case rel => exact ⟨i + 1, by omega, by omega, by go_num, by rw [HREP.out]; exact HO6.out, HB6.out⟩
              case measure => simp [intOf]; omega
            · obtain rfl : x1 = i := by omega
              have g1 : decide ((x1 : Int) < (x1 : Int)) = false := decide_eq_false (by omega)
              go_wp2_with fail
              go_roundw
              case rel => exact ⟨r + 1, by omega, by go_num, by rw [HSU.out]; simpa only [List.append_assoc] using HO.out, HB.out⟩
              case measure => simp [intOf]; omega
        · obtain rfl : n = r := by omega
          have g0 : decide ((n : Int) + 1 < (n : Int) + 1) = false := decide_eq_false (by omega)
          obtain ⟨A2, c2, rfl, _, _⟩ := HO.out.form
          have HEND : Hid (RanksIs (rankTo f n ++ rankTo g n) W (.returned (.slice A2 (rankTo f n ++ rankTo g n).length c2)) wr) := Lib.hid ⟨A2, c2, rfl, HO.out.mono HB1.out.size, HB1.out.trans (HB.out.mono HB1.out.size)⟩
          go_wp2_with fail
          go_ret
          exact HEND.out
end Go.Proofs.YtkcnnamghpdplaaDoor
