/- FaultAts. -/
import Derived.Test.YtkncgpnnilcicaaDoorLNest
set_option linter.unusedSimpArgs false
set_option linter.unusedVariables false
namespace Go.Proofs.YtkncgpnnilcicaaDoor
open Go.RowKit Go.Extern.Stop Go.Stop Go.Extern

theorem typeOfES (v : Value) (w : World) : (ReflectliteType.typeOf #[.iface 89 v]).run Tryd.prog w = .ok (.iface 93 (.agg #[.pointer (some ⟨5, 89, none⟩)])) w := by kernel_rfl
theorem assignSF (w : World) : (ReflectliteType.relation "AssignableTo" ReflectliteType.assignableTo #[.agg #[.pointer (some ⟨5, 89, none⟩)], .iface 93 (.agg #[.pointer (some ⟨5, 30, none⟩)])]).run Tryd.prog w = .ok (.bool false) w := by kernel_rfl
theorem noAsS (v : Value) (xT : TypeId) (w : World) : (Instr.typeAssert (.iface 89 v) xT 97 true).run Tryd.prog w = .ok (.tuple #[.nilIface, .bool false]) w := run_typeAssert_lacksB Tryd.underlying97 (by kernel_rfl) (by kernel_rfl) v xT w
theorem noUnsS (v : Value) (xT : TypeId) (w : World) : (Instr.typeAssert (.iface 89 v) xT 102 true).run Tryd.prog w = .ok (.tuple #[.nilIface, .bool false]) w := run_typeAssert_lacksB Tryd.underlying102 (by kernel_rfl) (by kernel_rfl) v xT w
theorem as_missS {W : World} (a : Addr) (t : Addr) (vb : Nat) :
    Calls Tryd.prog 34 #[.iface 89 (.pointer (some a)), .iface 32 (.pointer (some t)), .agg #[.pointer (some ⟨5, 32, none⟩), .pointer (some ⟨vb, 0, none⟩), .int .u64 150], .iface 93 (.agg #[.pointer (some ⟨5, 30, none⟩)])] W fun ev w' => ∃ r : Bool, ev = .returned (.bool r) ∧ MissF W r w' := by
  have hto := @run_callFunc_extern Tryd.prog 35 _ ReflectliteType.typeOf Tryd.func35 (by kernel_rfl) (by kernel_rfl) (by kernel_rfl) (by kernel_rfl)
  have hat := @run_callFunc_extern Tryd.prog 95 _ (ReflectliteType.relation "AssignableTo" ReflectliteType.assignableTo) Tryd.func95 (by kernel_rfl) (by kernel_rfl) (by kernel_rfl) (by kernel_rfl)
  have tO := typeOfES
  have mA := mtAssign
  have aE := assignSF
  have nA := noAsS
  have uN := noUnS
  have sN := noUnsS
  go_enter Tryd.func34, Tryd.ntmps34
  go_wp2_with fail
  refine wp_loop_rounds 1 ?_
  rw [rounds_succ]
  go_wp2_with fail
  go_ret
  exact ⟨false, rfl, rfl, (Below.refl W.heap.size W).alloc (Nat.le_refl _) _⟩
theorem As_missS {W : World} (a : Addr) (t : Addr) (hg : ErrT W) :
    Calls Tryd.prog 14 #[.iface 89 (.pointer (some a)), .iface 32 (.pointer (some t))] W fun ev w' => ev = .returned (.bool false) ∧ Below W.heap.size W w' := by
  refine (As_ofF 89 (.pointer (some a)) t hg (as_missS a t W.heap.size)).mono ?_
  rintro ev w' ⟨r, rfl, rfl, hb⟩
  exact ⟨rfl, (two_allocs W _ _).trans (hb.mono (by simp; omega))⟩
set_option maxRecDepth 1000000 in
set_option maxHeartbeats 2000000 in
theorem FaultAts_walk (a0 a1 : Int) (a2 : Option Addr) (len2 cap2 : Nat) (z2 : List (Int × Int)) (a3 : Int) (a4 : Bool) (W : World) (w0 : (Lit.int .i64 a0).wf = true) (w1 : (Lit.int .i64 a1).wf = true) (w2 : IsPlaces W a2 len2 cap2 z2) (w3 : (Lit.int .i64 a3).wf = true) (hg : ErrT W) (ht : Tab W) :
    Calls Tryd.prog 3 #[.int .i64 a0, .int .i64 a1, .slice a2 len2 cap2, .int .i64 a3, .bool a4] W fun e w' => e = .returned (.bool true) ∧ Below W.heap.size W w' := by
  obtain ⟨hrd, hin, hcap, hmax⟩ := w2
  simp only [maxLen] at hmax
  have hzl := hrd.1
  have HZ := Lib.hid hzl
  have HRD := Lib.hid hrd
  have HG := Lib.hid hg
  have HT := Lib.hid ht
  clear hrd hin hg ht w0 w1 w3 hzl
  go_enter Tryd.func3, Tryd.ntmps3
  go_wp2_with fail
  refine (awake_any HG.out HT.out).mono ?_
  rintro e w1 ⟨rfl, hb⟩
  have HB1 := Lib.hid hb
  clear hb
  go_wp2_with fail
  refine (Chain_any a2 len2 cap2 z2 a3 a4 w1 (HRD.out.below HB1.out) (by omega)).mono ?_
  rintro e w2 ⟨E, hE, v, rfl, hw, hb⟩
  have HE := Lib.hid hE
  have HW2 := Lib.hid hw
  have HB2 := Lib.hid (HB1.out.trans (hb.mono HB1.out.size))
  rcases hw.form with rfl | ⟨u, x, rfl⟩
  · clear hE hw hb
    go_wp2_with fail
    refine (At_nil a0 a1 w2).mono ?_
    rintro e w3 ⟨rfl, h⟩
    obtain rfl := h.symm
    clear h
    go_wp2_with fail
    go_ret
    exact ⟨rfl, HB2.out⟩
  clear hE hw hb
  go_wp2_with fail
  refine (At_some a0 a1 E u x z2 HW2.out).mono ?_
  rintro e w3 ⟨rfl, hw3, hc3, hb⟩
  have HW3 := Lib.hid (HW2.out.keep hb)
  have HR3 := Lib.hid hw3
  have HB3 := Lib.hid (HB2.out.trans (hb.mono HB2.out.size))
  have HC3 := Lib.hid hc3
  have HX3 := Lib.hid hb
  clear hw3 hb hc3
  go_wp2_with fail
  have hw4 := (Below.refl w3.heap.size w3).alloc (Nat.le_refl _) (.cells #[.pointer none] 30)
  have ht4 : Cells (w3.alloc (.cells #[.pointer none] 30)) w3.heap.size #[.pointer none] 30 := cells_new _ _ _
  generalize w3.alloc (.cells #[.pointer none] 30) = w4 at *
  have HX4 := Lib.hid hw4
  have HT4 := Lib.hid ht4
  clear hw4 ht4
  refine (As_hitF ⟨w2.heap.size, 0, none⟩ ⟨w3.heap.size, 0, none⟩ (.pointer none) (HG.out.below (HB3.out.trans (HX4.out.mono HB3.out.size))) (HT4.out.cell 0) (HT4.out.frozen 0)).mono ?_
  rintro e w5 ⟨rfl, hgot⟩
  have t5 : w5.cell? ⟨w3.heap.size, 0, none⟩ = some (.pointer (some ⟨w2.heap.size, 0, none⟩)) := hgot.2
  have HX5 : Hid (Below w3.heap.size w3 w5) := Lib.hid (HX4.out.trans hgot.1)
  have hc5 := HC3.out.below HX5.out
  have f0 := hc5.cell 0
  have f1 := hc5.cell 1
  have f2 := hc5.cell 2
  simp only [List.getElem?_toArray, List.getElem?_cons_zero, List.getElem?_cons_succ] at f0 f1 f2
  have HB5 := Lib.hid (HB3.out.trans (HX5.out.mono HB3.out.size))
  clear hgot hc5
  have s3 := World.block_lt_of_cell? w5 _ t5
  have s2 := World.block_lt_of_cell? w5 _ f2
  simp only [] at s3 s2
  have HCH : Hid (a3 ≠ 0 → Calls Tryd.prog 15 #[.iface 30 (.pointer (some ⟨w2.heap.size, 0, none⟩)), .iface 24 (.int .i64 a3)] w5 fun e w' => e = .returned (.bool true) ∧ w' = w5) := Lib.hid fun h => by
    have hEN : E = .num a3 := by
      rcases HE.out with ⟨_, h2⟩ | ⟨h2, _⟩ | ⟨h2, _⟩
      · exact h2
      · exact absurd h2 h
      · exact absurd h2 h
    have hi := Is_chain a3 h _ _ _ a3 ((HR3.out.keep HX5.out).chain (.inr ⟨hEN, h⟩))
    rwa [decide_eq_true rfl] at hi
  by_cases hl0 : len2 = 0
  · subst hl0
    obtain rfl : z2 = [] := List.eq_nil_of_length_eq_zero HZ.out
    have hv := HW2.out.nil
    have HG6 : Hid (ErrT (w5.alloc (.cells #[.pointer none] 30))) := Lib.hid (HG.out.below (HB5.out.alloc HB5.out.size _))
    have HT6 : Hid (Cells (w5.alloc (.cells #[.pointer none] 30)) w5.heap.size #[.pointer none] 30) := Lib.hid (cells_new _ _ _)
    by_cases hn0 : a3 = 0
    · rcases HE.out with ⟨h, _⟩ | ⟨_, _, a, rfl⟩ | ⟨_, _, rfl⟩
      · exact absurd hn0 h
      · simp only [Core.val, Value.iface.injEq] at hv
        obtain ⟨rfl, rfl⟩ := hv
        subst hn0
        clear HCH
        go_wp2_with fail
        refine (As_missS a ⟨w5.heap.size, 0, none⟩ HG6.out).mono ?_
        rintro e w6 ⟨rfl, hb6⟩
        have HX6 : Hid (Below w5.heap.size w5 w6) := Lib.hid (((Below.refl _ w5).alloc (Nat.le_refl _) _).trans (hb6.mono (by simp)))
        clear hb6
        go_wp2_with fail
        go_ret
        exact ⟨rfl, HB5.out.trans (HX6.out.mono HB5.out.size)⟩
      · simp [Core.val] at hv
    · rcases HE.out with ⟨_, rfl⟩ | ⟨h, _⟩ | ⟨h, _⟩
      · simp only [Core.val, Value.iface.injEq] at hv
        obtain ⟨rfl, rfl⟩ := hv
        have g1 : (a3 != 0) = true := by simp [bne, hn0]
        have g2 : (a3 == 0) = false := by simp [hn0]
        have HI := Lib.hid (HCH.out hn0)
        have HI2 : Hid (∀ w, Calls Tryd.prog 15 #[.iface 24 (.int .i64 a3), .iface 24 (.int .i64 a3)] w fun e w' => e = .returned (.bool true) ∧ w' = w) := Lib.hid fun w => by
          have hi := Is_chain a3 hn0 _ _ _ a3 (Chain.num (W := w) a3 hn0)
          rwa [decide_eq_true rfl] at hi
        clear HCH hn0
        go_wp2_with fail
        refine HI.out.mono ?_
        rintro e w6 ⟨rfl, h⟩
        obtain rfl := h.symm
        clear h
        go_wp2_with fail
        refine (As_missF a3 ⟨w5.heap.size, 0, none⟩ HG6.out).mono ?_
        rintro e w6 ⟨rfl, hb6⟩
        have HX6 : Hid (Below w5.heap.size w5 w6) := Lib.hid (((Below.refl _ w5).alloc (Nat.le_refl _) _).trans (hb6.mono (by simp)))
        have t5 := cell_below HX6.out t5
        have f2 := cell_below HX6.out f2
        clear hb6
        go_wp2_with fail
        refine (HI2.out _).mono ?_
        rintro e w7 ⟨rfl, h⟩
        obtain rfl := h.symm
        clear h
        go_wp2_with fail
        go_ret
        exact ⟨rfl, HB5.out.trans (HX6.out.mono HB5.out.size)⟩
      · exact absurd h hn0
      · exact absurd h hn0
  · have g0 : ((len2 : Int) == 0) = false := by simp; omega
    have g00 : (len2 == 0) = false := by simp; omega
    have hpos : 0 < len2 := by omega
    obtain ⟨ad, hA, cc⟩ := (HRD.out.below HB5.out).at_ hpos
    subst hA
    obtain ⟨c0, c1⟩ := two_places cc
    have ea : ad.add (0 * 2) = ad := by simp [Addr.add]
    rw [ea] at c0 c1
    clear cc ea
    obtain ⟨y, r, hzr⟩ : ∃ y r, z2 = y :: r := by
      cases z2 with
      | nil => have := HZ.out; simp at this; omega
      | cons y r => exact ⟨y, r, rfl⟩
    subst hzr
    obtain ⟨b, o, v', hv, e0, e1, _, _⟩ := HW2.out.cons
    injection hv with h1 h2
    subst h1 h2
    have L0 := World.block_lt_of_cell? w2 _ e0
    simp only [] at L0
    have hb25 : Below w2.heap.size w2 w5 := HX3.out.trans (HX5.out.mono HX3.out.size)
    replace e0 := cell_below hb25 e0
    replace e1 := cell_below hb25 e1
    obtain ⟨k, a⟩ := y
    simp only [List.getElem_cons_zero] at c0 c1
    simp only [] at e0 e1
    have sb := World.block_lt_of_cell? w5 _ e0
    have sa := World.block_lt_of_cell? w5 _ c0
    simp only [] at sb
    have HG6 : Hid (ErrT (w5.alloc (.cells #[.pointer none] 30))) := Lib.hid (HG.out.below (HB5.out.alloc HB5.out.size _))
    have HT6 : Hid (Cells (w5.alloc (.cells #[.pointer none] 30)) w5.heap.size #[.pointer none] 30) := Lib.hid (cells_new _ _ _)
    have HAS : Hid (∀ w, w = w5.alloc (.cells #[.pointer none] 30) ∨ w = (w5.alloc (.cells #[.pointer none] 30)).drew → Calls Tryd.prog 14 #[.iface 30 (.pointer (some ⟨b, o, none⟩)), .iface 32 (.pointer (some ⟨w5.heap.size, 0, none⟩))] w fun e w' => e = .returned (.bool true) ∧ Below w5.heap.size w5 w' ∧ w'.cell? ⟨w5.heap.size, 0, none⟩ = some (.pointer (some ⟨b, o, none⟩))) := Lib.hid fun w hw => by
      rcases hw with rfl | rfl
      · refine (As_hitF ⟨b, o, none⟩ ⟨w5.heap.size, 0, none⟩ (.pointer none) HG6.out (HT6.out.cell 0) (HT6.out.frozen 0)).mono ?_
        rintro e w' ⟨rfl, hgot⟩
        exact ⟨rfl, ((Below.refl _ w5).alloc (Nat.le_refl _) _).trans hgot.1, hgot.2⟩
      · refine (As_hitF (W := (w5.alloc (.cells #[.pointer none] 30)).drew) ⟨b, o, none⟩ ⟨w5.heap.size, 0, none⟩ (.pointer none) (HG6.out : ErrT (w5.alloc (.cells #[.pointer none] 30)).drew) (HT6.out.cell 0) (HT6.out.frozen 0)).mono ?_
        rintro e w' ⟨rfl, hgot⟩
        exact ⟨rfl, (((Below.refl _ w5).alloc (Nat.le_refl _) _).drew).trans hgot.1, hgot.2⟩
    have HSZ : Hid (w5.heap.size ≤ w5.heap.size) := Lib.hid (Nat.le_refl _)
    clear hb25 L0
    have hcase : a3 = 0 ∨ (a3 ≠ 0 ∧ ¬ len2 < 100) ∨ (a3 ≠ 0 ∧ len2 < 100) := by omega
    rcases hcase with hn0 | ⟨hn0, hl⟩ | ⟨hn0, hl⟩
    · subst hn0
      clear HCH
      go_wp2_with fail
      go_region_with (first
        | (go_at_call 14; refine (HAS.out _ (by first | exact .inl rfl | exact .inr rfl)).mono ?_; rintro e w6 ⟨rfl, hb6, g0'⟩; have HX6 := Lib.hid hb6; have c0 := cell_below hb6 c0; have c1 := cell_below hb6 c1; have e0 := cell_below hb6 e0; have e1 := cell_below hb6 e1; clear hb6))
      all_goals
        go_wp2_with fail
        go_ret
        exact ⟨rfl, HB5.out.trans (HX6.out.mono HB5.out.size)⟩
    · have g1 : (a3 != 0) = true := by simp [bne, hn0]
      have g3 : decide ((len2 : Int) < 100) = false := decide_eq_false (by omega)
      have g4 : decide (len2 < 100) = false := decide_eq_false hl
      clear HCH hn0 hl
      go_wp2_with fail
      go_region_with (first
        | (go_at_call 14; refine (HAS.out _ (by first | exact .inl rfl | exact .inr rfl)).mono ?_; rintro e w6 ⟨rfl, hb6, g0'⟩; have HX6 := Lib.hid hb6; have c0 := cell_below hb6 c0; have c1 := cell_below hb6 c1; have e0 := cell_below hb6 e0; have e1 := cell_below hb6 e1; clear hb6))
      all_goals
        go_wp2_with fail
        go_ret
        exact ⟨rfl, HB5.out.trans (HX6.out.mono HB5.out.size)⟩
    · have g1 : (a3 != 0) = true := by simp [bne, hn0]
      have g3 : decide ((len2 : Int) < 100) = true := decide_eq_true (by omega)
      have g4 : decide (len2 < 100) = true := decide_eq_true hl
      have HI := Lib.hid (HCH.out hn0)
      clear HCH hn0 hl
      go_wp2_with fail
      refine HI.out.mono ?_
      rintro e w6 ⟨rfl, h⟩
      obtain rfl := h.symm
      clear h
      go_wp2_with fail
      go_region_with (first
        | (go_at_call 14; refine (HAS.out _ (by first | exact .inl rfl | exact .inr rfl)).mono ?_; rintro e w6 ⟨rfl, hb6, g0'⟩; have HX6 := Lib.hid hb6; have c0 := cell_below hb6 c0; have c1 := cell_below hb6 c1; have e0 := cell_below hb6 e0; have e1 := cell_below hb6 e1; clear hb6))
      all_goals
        go_wp2_with fail
        go_ret
        exact ⟨rfl, HB5.out.trans (HX6.out.mono HB5.out.size)⟩
end Go.Proofs.YtkncgpnnilcicaaDoor
