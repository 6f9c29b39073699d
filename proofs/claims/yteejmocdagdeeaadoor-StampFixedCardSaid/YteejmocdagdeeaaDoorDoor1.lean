/- What the document's stamp answers to each call, right or wrong; New where the number is out of range. -/
import Derived.Test.YteejmocdagdeeaaDoorRecs
import Derived.Test.YteejmocdagdeeaaDoorErrs5
set_option linter.unusedSimpArgs false
set_option linter.unusedVariables false
namespace Go.Proofs.YteejmocdagdeeaaDoor
open Go.RowKit

/-- an error's number as the document tells it: 0 is none -/
def toldV (c : Int) : Value := .agg #[.int .i64 c, .slice none 0 0]
/-- .. and as the program does -/
def errV (c : Int) : Value := if c = 0 then .nilIface else .iface 49 (.int .i64 c)
theorem Same_told (c : Int) (w : World) (hg : ErrT w) :
    Calls Tryd.prog 8 #[errV c, toldV c] w fun e w' => e = .returned (.bool true) ∧ Below w.heap.size w w' := by
  by_cases hc : c = 0
  · subst hc
    exact Same_none none 0 w
  · unfold errV toldV
    rw [if_neg hc]
    exact Same_true _ [] c none 0 0 w (.num c hc) hc ⟨rfl, fun h => absurd h (by omega)⟩ hg (by simp [maxLen])
theorem Bad_told (c : Int) (w : World) :
    Calls Tryd.prog 9 #[toldV c] w fun e w' => e = .returned (.bool (decide (c ≠ 0))) ∧ Below w.heap.size w w' :=
  (Bad_any c none 0 0 w (by simp [maxLen])).mono fun e w' h => by simpa using h

section
variable {w : World} {x y : Nat} {vs : List Int} {m : List (Option Int)}
theorem new3 (w : World) (a b c : Obj) : Below w.heap.size w (((w.alloc a).alloc b).alloc c) :=
  (((Below.refl _ w).alloc (Nat.le_refl _) a).alloc (by simp) b).alloc (by simp; omega) c
theorem docSet_out (h : Doc w x y vs m) {n : Nat} {i : Int} (hi : i < 0 ∨ (n : Int) ≤ i) (v : Int) (hm : n ≤ 65536) (h0 : -9223372036854775808 ≤ i) (h1 : i ≤ 9223372036854775807) :
    Calls Tryd.prog 20 #[docV x y n, .int .i64 i, .int .u64 v] w fun e w' => e = .returned (toldV 7) ∧ Below w.heap.size w w' := by
  unfold docV
  clear h
  rcases hi with hi | hi
  · have g1 : decide (i < 0) = true := decide_eq_true hi
    go_enter Tryd.func20, Tryd.ntmps20
    go_wp2
    go_returns
    exact ⟨rfl, new3 _ _ _ _⟩
  · have hneg : ¬ i < 0 := by omega
    obtain ⟨j, rfl⟩ : ∃ j : Nat, i = j := ⟨i.toNat, by omega⟩
    go_enter Tryd.func20, Tryd.ntmps20
    go_wp2
    go_returns
    exact ⟨rfl, new3 _ _ _ _⟩
theorem docGet_any (h : Doc w x y vs m) {n : Nat} (hn : m.length = n) (i : Int) (hm : n ≤ 65536) (h0 : -9223372036854775808 ≤ i) (h1 : i ≤ 9223372036854775807) :
    Calls Tryd.prog 21 #[docV x y n, .int .i64 i] w fun e w' => e = .returned (got (look m i)) ∧ Below w.heap.size w w' := by
  unfold docV
  by_cases hi : 0 ≤ i ∧ i < n
  · obtain ⟨k, rfl⟩ : ∃ k : Nat, i = k := ⟨i.toNat, by omega⟩
    have hk : k < m.length := by omega
    have hk' : k < vs.length := by rw [h.len]; omega
    have d0 := (h.nums.cell k).trans (numsA_at hk')
    have d1 := (h.flags.cell k).trans (flagsA_at hk)
    have hl : look m k = m[k] := by simp [look, List.getD_eq_getElem?_getD, List.getElem?_eq_getElem hk]
    rw [hl]
    have hv := h.val k
    rw [List.getElem?_eq_getElem hk, List.getElem?_eq_getElem hk'] at hv
    generalize vs[k] = v0 at *
    generalize m[k] = o at *
    have g1 : decide ((k : Int) < 0) = false := decide_eq_false (by omega)
    have g2 : decide (n ≤ k) = false := decide_eq_false (by omega)
    have hx := h.nums.lt
    have hy := h.flags.lt
    clear h hl
    cases o with
    | none =>
      clear hv
      go_enter Tryd.func21, Tryd.ntmps21
      go_wp2_with (go_quiet (fail))
      go_ret2
      exact ⟨rfl, (Below.refl _ w).alloc (Nat.le_refl _) _⟩
    | some v =>
      obtain rfl : v0 = v := Option.some.inj (hv v rfl)
      clear hv
      go_enter Tryd.func21, Tryd.ntmps21
      go_wp2_with (go_quiet (fail))
      go_ret2
      exact ⟨rfl, (Below.refl _ w).alloc (Nat.le_refl _) _⟩
  · have hl : look m i = none := by
      unfold look
      split
      · rw [List.getD_eq_getElem?_getD, List.getElem?_eq_none (by omega)]; rfl
      · rfl
    rw [hl]
    clear h hl hn
    by_cases hi0 : i < 0
    · have g1 : decide (i < 0) = true := decide_eq_true hi0
      clear hi
      go_enter Tryd.func21, Tryd.ntmps21
      go_wp2
      go_ret2
      exact ⟨rfl, (Below.refl _ w).alloc (Nat.le_refl _) _⟩
    · obtain ⟨j, rfl⟩ : ∃ j : Nat, i = j := ⟨i.toNat, by omega⟩
      have g1 : decide ((j : Int) < 0) = false := decide_eq_false (by omega)
      have g2 : decide (n ≤ j) = true := decide_eq_true (by omega)
      have hneg : ¬ (j : Int) < 0 := hi0
      clear hi hi0
      go_enter Tryd.func21, Tryd.ntmps21
      go_wp2
      go_ret2
      exact ⟨rfl, (Below.refl _ w).alloc (Nat.le_refl _) _⟩
end
theorem DocNew_out (i : Int) (w : World) (hi : i < 0 ∨ 65536 < i) (h0 : -9223372036854775808 ≤ i) (h1 : i ≤ 9223372036854775807) :
    Calls Tryd.prog 7 #[.int .i64 i] w fun e w' => e = .returned (.tuple #[.agg #[.slice none 0 0, .slice none 0 0], toldV 1]) ∧ Below w.heap.size w w' := by
  rcases hi with hi | hi
  · have g1 : decide (i < 0) = true := decide_eq_true hi
    go_enter Tryd.func7, Tryd.ntmps7
    go_wp2
    go_returns
    exact ⟨rfl, new3 _ _ _ _⟩
  · have hneg : ¬ i < 0 := by omega
    have g1 : decide (i < 0) = false := decide_eq_false hneg
    have g2 : decide (65536 < i) = true := decide_eq_true hi
    go_enter Tryd.func7, Tryd.ntmps7
    go_wp2
    go_returns
    exact ⟨rfl, new3 _ _ _ _⟩
theorem New_out (i : Int) (age : Int) (w : World) (hi : i < 0 ∨ 65536 < i) (h0 : -9223372036854775808 ≤ i) (h1 : i ≤ 9223372036854775807) :
    Calls Tryd.prog 6 #[.int .i64 i, .int .u32 age] w fun e w' => e = .returned (.tuple #[.pointer none, .iface 49 (.int .i64 1)]) ∧ Below w.heap.size w w' := by
  rcases hi with hi | hi
  · have g1 : decide (i < 0) = true := decide_eq_true hi
    go_enter Tryd.func6, Tryd.ntmps6
    go_wp2
    go_ret2
    exact ⟨rfl, Below.refl _ _⟩
  · have hneg : ¬ i < 0 := by omega
    have g1 : decide (i < 0) = false := decide_eq_false hneg
    have g2 : decide (65536 < i) = true := decide_eq_true hi
    go_enter Tryd.func6, Tryd.ntmps6
    go_wp2
    go_ret2
    exact ⟨rfl, Below.refl _ _⟩
end Go.Proofs.YteejmocdagdeeaaDoor
