/- viaductseen.Same by its contract: an error that is the chain which the document wants. -/
import Derived.Test.YtkcnnamghpdplaaDoorErrs3
import Derived.Deep.RegionHeld3
import Derived.BigQuiet
set_option linter.unusedVariables false
set_option linter.unusedSimpArgs false
namespace Go.Proofs.YtkcnnamghpdplaaDoor
open Go.RowKit Go.Extern.Stop Go.Stop Go.Extern

/-- What errors.As does where it finds something: the target holds it, nothing else of what was there has changed. -/
def Got (W w' : World) (t : Addr) (v : Value) : Prop := Below t.block W w' ∧ w'.cell? t = some v
theorem cell_set {W : World} {t : Addr} {old : Value} (v : Value) (h : W.cell? t = some old) : (W.setCell t v).cell? t = some v := World.cell?_setCell_same _ _ _ h
theorem As_nil (t : Value) (w : World) :
    Calls Tryd.prog 33 #[.nilIface, t] w fun e w' => e = .returned (.bool false) ∧ w' = w := by
  go_enter Tryd.func33, Tryd.ntmps33
  go_wp2_with fail
  go_ret
  exact ⟨rfl, rfl⟩
theorem two_allocs (W : World) (a b : Obj) : Below W.heap.size W ((W.alloc a).alloc b) := ((Below.refl _ W).alloc (Nat.le_refl _) a).alloc (by simp) b
theorem As_hitF {W : World} (e t : Addr) (old : Value) (hg : ErrT W) (ht : W.cell? t = some old) (hf : W.frozen? t = false) :
    Calls Tryd.prog 33 #[.iface 74 (.pointer (some e)), .iface 76 (.pointer (some t))] W fun ev w' => ev = .returned (.bool true) ∧ Got W w' t (.pointer (some e)) := by
  have bt := World.block_lt_of_cell? W _ ht
  refine (As_ofF 74 (.pointer (some e)) t hg (as_hitF e t W.heap.size old (by rw [World.cell?_alloc_lt _ _ _ (by simp)]; simp) (by rw [World.cell?_alloc_lt _ _ t (by simp; omega), World.cell?_alloc_lt _ _ t bt]; exact ht) (by rw [World.frozen?_alloc_old _ _ t (by simp; omega), World.frozen?_alloc_old _ _ t (by omega)]; exact hf))).mono ?_
  rintro ev w' ⟨r, rfl, rfl, W2, hb, rfl⟩
  have h2 := (two_allocs W _ _).trans (hb.mono (by simp; omega))
  exact ⟨rfl, (h2.mono (Nat.le_of_lt bt)).setCell (Nat.le_refl _) _, cell_set _ ((h2.cell bt).trans ht)⟩
theorem As_missF {W : World} (c : Int) (t : Addr) (hg : ErrT W) :
    Calls Tryd.prog 33 #[.iface 56 (.int .i64 c), .iface 76 (.pointer (some t))] W fun ev w' => ev = .returned (.bool false) ∧ Below W.heap.size W w' := by
  refine (As_ofF 56 (.int .i64 c) t hg (as_missF c t W.heap.size)).mono ?_
  rintro ev w' ⟨r, rfl, rfl, hb⟩
  exact ⟨rfl, (two_allocs W _ _).trans (hb.mono (by simp; omega))⟩
theorem As_N {W : World} (u : TypeId) (v : Value) (ps : List (Int × Int)) (c : Int) (hch : Chain W (.iface u v) ps c) (hc : c ≠ 0) (t : Addr) (old : Value) (hg : ErrT W) (ht : W.cell? t = some old) (hf : W.frozen? t = false) :
    Calls Tryd.prog 33 #[.iface u v, .iface 79 (.pointer (some t))] W fun ev w' => ev = .returned (.bool true) ∧ Got W w' t (.int .i64 c) := by
  have bt := World.block_lt_of_cell? W _ ht
  refine (As_ofN u v t hg (as_N u v ps c (hch.keep (two_allocs W _ _)) t W.heap.size old (by rw [World.cell?_alloc_lt _ _ _ (by simp)]; simp) (by rw [World.cell?_alloc_lt _ _ t (by simp; omega), World.cell?_alloc_lt _ _ t bt]; exact ht) (by rw [World.frozen?_alloc_old _ _ t (by simp; omega), World.frozen?_alloc_old _ _ t (by omega)]; exact hf))).mono ?_
  rintro ev w' ⟨r, rfl, rfl, W2, hb, rfl⟩
  have h2 := (two_allocs W _ _).trans (hb.mono (by simp; omega))
  rw [if_neg hc]
  exact ⟨by simp [hc], (h2.mono (Nat.le_of_lt bt)).setCell (Nat.le_refl _) _, cell_set _ ((h2.cell bt).trans ht)⟩
/-- nothing round which there is nothing -/
theorem As_N0 {W : World} (u : TypeId) (v : Value) (ps : List (Int × Int)) (hch : Chain W (.iface u v) ps 0) (t : Addr) (old : Value) (hg : ErrT W) (ht : W.cell? t = some old) (hf : W.frozen? t = false) :
    Calls Tryd.prog 33 #[.iface u v, .iface 79 (.pointer (some t))] W fun ev w' => ev = .returned (.bool false) ∧ Below W.heap.size W w' := by
  have bt := World.block_lt_of_cell? W _ ht
  refine (As_ofN u v t hg (as_N u v ps 0 (hch.keep (two_allocs W _ _)) t W.heap.size old (by rw [World.cell?_alloc_lt _ _ _ (by simp)]; simp) (by rw [World.cell?_alloc_lt _ _ t (by simp; omega), World.cell?_alloc_lt _ _ t bt]; exact ht) (by rw [World.frozen?_alloc_old _ _ t (by simp; omega), World.frozen?_alloc_old _ _ t (by omega)]; exact hf))).mono ?_
  rintro ev w' ⟨r, rfl, rfl, W2, hb, rfl⟩
  exact ⟨by simp, (two_allocs W _ _).trans (hb.mono (by simp; omega))⟩

/-! ### the document's errors -/
abbrev places (p : Int × Int) : List Value := [.int .i64 p.1, .int .i64 p.2]
abbrev RdP (w : World) (A : Option Addr) (n : Nat) (l : List (Int × Int)) : Prop := Rd 2 places w A n l
theorem BadE_any (c : Int) (A : Option Addr) (n cap : Nat) (w : World) (hn : n ≤ maxLen) :
    Calls Tryd.prog 18 #[.agg #[.int .i64 c, .slice A n cap]] w fun e w' => e = .returned (.bool (decide (c ≠ 0 ∨ 0 < n))) ∧ Below w.heap.size w w' := by
  by_cases h : c = 0
  · subst h
    by_cases h0 : 0 < n
    · have g1 : decide ((0 : Int) < (n : Int)) = true := decide_eq_true (by omega)
      have H0 := Lib.hid h0
      clear h0
      go_enter Tryd.func18, Tryd.ntmps18
      go_wp2_with (go_quiet (fail))
      go_ret
      exact ⟨by rw [decide_eq_true (Or.inr H0.out)]; exact congrArg (fun b => Ending.returned (.bool b)) (decide_eq_true H0.out), by first | exact (Below.refl _ w).alloc (Nat.le_refl _) _ | exact ((Below.refl _ w).alloc (Nat.le_refl _) _).drew | exact (((Below.refl _ w).alloc (Nat.le_refl _) _).drew).drew⟩
    · obtain rfl : n = 0 := by omega
      go_enter Tryd.func18, Tryd.ntmps18
      go_wp2_with (go_quiet (fail))
      go_ret
      exact ⟨rfl, by first | exact (Below.refl _ w).alloc (Nat.le_refl _) _ | exact ((Below.refl _ w).alloc (Nat.le_refl _) _).drew | exact (((Below.refl _ w).alloc (Nat.le_refl _) _).drew).drew⟩
  · have g1 : (c != 0) = true := by simp [bne, h]
    have H0 := Lib.hid h
    clear h
    go_enter Tryd.func18, Tryd.ntmps18
    go_wp2_with (go_quiet (fail))
    go_ret
    exact ⟨by rw [decide_eq_true (Or.inl H0.out)]; rfl, by first | exact (Below.refl _ w).alloc (Nat.le_refl _) _ | exact ((Below.refl _ w).alloc (Nat.le_refl _) _).drew | exact (((Below.refl _ w).alloc (Nat.le_refl _) _).drew).drew⟩
end Go.Proofs.YtkcnnamghpdplaaDoor
