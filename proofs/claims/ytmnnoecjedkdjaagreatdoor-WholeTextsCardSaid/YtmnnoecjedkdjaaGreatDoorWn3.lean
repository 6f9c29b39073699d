/- normal.Of$1: are two arcs' ends the same? The order is a strict weak order. -/
import Derived.Test.YtmnnoecjedkdjaaGreatDoorWn2
import Derived.Shelf.SlSortCmp.Insertion
set_option linter.unusedSimpArgs false
set_option linter.unusedVariables false
namespace Go.Proofs.YtmnnoecjedkdjaaGreatDoor
open Go.RowKit Txt

theorem swoA : Go.Sort.SWO (ltOf cmpA) where
  irrefl x := by
    unfold ltOf
    exact decide_eq_false (by rw [cmpA_lt]; unfold lexA; omega)
  trans x y z h1 h2 := by
    unfold ltOf at *
    have h1 := of_decide_eq_true h1
    have h2 := of_decide_eq_true h2
    rw [cmpA_lt] at h1 h2
    exact decide_eq_true (by rw [cmpA_lt]; unfold lexA at *; omega)
  ntrans x y z h1 h2 := by
    unfold ltOf at *
    have h1 := of_decide_eq_false h1
    have h2 := of_decide_eq_false h2
    rw [cmpA_lt] at h1 h2
    exact decide_eq_false (by rw [cmpA_lt]; unfold lexA at *; omega)
theorem OfEq_any (x y : ArcT) (W : World) :
    Calls Tryz.prog 39 #[.agg #[.int .i64 x.f, .int .i64 x.t, .int .i64 x.w], .agg #[.int .i64 y.f, .int .i64 y.t, .int .i64 y.w]] W fun e w' => e = .returned (.bool (sameFT x y)) ∧ Below W.heap.size W w' := by
  have hx := (cells_new W #[.int .i64 x.f, .int .i64 x.t, .int .i64 x.w] 56).below ((Below.refl _ _).alloc (Nat.le_refl _) (.cells #[.int .i64 y.f, .int .i64 y.t, .int .i64 y.w] 56))
  have hy := cells_new (W.alloc (.cells #[.int .i64 x.f, .int .i64 x.t, .int .i64 x.w] 56)) #[.int .i64 y.f, .int .i64 y.t, .int .i64 y.w] 56
  rw [size_alloc] at hy
  have hg : Below W.heap.size W ((W.alloc (.cells #[.int .i64 x.f, .int .i64 x.t, .int .i64 x.w] 56)).alloc (.cells #[.int .i64 y.f, .int .i64 y.t, .int .i64 y.w] 56)) := ((Below.refl _ _).alloc (Nat.le_refl _) _).alloc (by simp) _
  have HG := Lib.hid hg
  clear hg
  go_enter Tryz.func39, Tryz.ntmps39
  refine wp_named ?_
  intro Q0 hQ0
  have HQ0 := Lib.hid hQ0
  clear hQ0
  go_upto_region 1 with fail
  generalize (W.alloc (.cells #[.int .i64 x.f, .int .i64 x.t, .int .i64 x.w] 56)).alloc (.cells #[.int .i64 y.f, .int .i64 y.t, .int .i64 y.w] 56) = w1 at *
  have x0 := hx.cell 0
  have x1 := hx.cell 1
  have y0 := hy.cell 0
  have y1 := hy.cell 1
  clear hx hy
  by_cases hf : x.f = y.f
  · by_cases ht : x.t = y.t
    · have HR : Hid (sameFT x y = true) := Lib.hid (decide_eq_true ⟨hf, ht⟩)
      have z0 : (x.f == y.f) = true := by rw [hf]; simp
      have z1 : (x.t == y.t) = true := by rw [ht]; simp
      clear hf ht
      go_wp2_with (go_quiet (fail))
      rw [HQ0.out]
      go_ret
      exact ⟨by rw [HR.out]; rfl, by first | exact HG.out | exact HG.out.drew⟩
    · have HR : Hid (sameFT x y = false) := Lib.hid (decide_eq_false (fun h => ht h.2))
      have z0 : (x.f == y.f) = true := by rw [hf]; simp
      have z1 : (x.t == y.t) = false := beq_eq_false_iff_ne.2 ht
      clear hf ht
      go_wp2_with (go_quiet (fail))
      rw [HQ0.out]
      go_ret
      exact ⟨by rw [HR.out]; rfl, by first | exact HG.out | exact HG.out.drew⟩
  · have HR : Hid (sameFT x y = false) := Lib.hid (decide_eq_false (fun h => hf h.1))
    have z0 : (x.f == y.f) = false := beq_eq_false_iff_ne.2 hf
    clear hf
    go_wp2_with (go_quiet (fail))
    rw [HQ0.out]
    go_ret
    exact ⟨by rw [HR.out]; rfl, by first | exact HG.out | exact HG.out.drew⟩
end Go.Proofs.YtmnnoecjedkdjaaGreatDoor
