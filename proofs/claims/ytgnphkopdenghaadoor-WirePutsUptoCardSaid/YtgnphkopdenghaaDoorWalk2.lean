/- The error of bytes that end too early; Take. -/
import Derived.Test.YtgnphkopdenghaaDoorWalk1
import Derived.Handy
set_option linter.unusedSimpArgs false
set_option linter.unusedVariables false
namespace Go.Proofs.YtgnphkopdenghaaDoor
open Go.RowKit

/-- the number at a place of bytes -/
def num (p : List Int) (i n : Nat) : Int := le ((p.drop i).take n)
/-- the error of bytes that end too early: a new fault -/
def Short (w : World) (e : Ending) (w' : World) : Prop := ∃ g : Nat, e = .returned (.iface 50 (.pointer (some ⟨g, 0, none⟩))) ∧ w.heap.size ≤ g ∧ Below w.heap.size w w'
theorem short_any (A : Option Addr) (n cap : Nat) (w : World) : Calls Tryd.prog 21 #[.slice A n cap] w (Short w) := by
  have hAt : Calls Tryd.prog 30 #[.int .i64 2, .int .i64 n, .iface 43 (.int .i64 10)] w (Short w) := by
    go_enter Tryd.func30, Tryd.ntmps30
    go_wp2
    go_ret
    exact ⟨_, rfl, Nat.le_refl _, (Below.refl _ _).alloc (Nat.le_refl _) _⟩
  go_enter Tryd.func21, Tryd.ntmps21
  go_wp2_with fail
  refine hAt.mono ?_
  rintro e w1 ⟨g, rfl, hg, hb⟩
  go_wp2
  go_ret
  exact ⟨g, rfl, hg, hb⟩

/-- What Take answers. -/
inductive TakeIs (p : List Int) (at_ n : Int) : Value → Prop
  | arg : (n < 1 ∨ 8 < n ∨ at_ < 0) → TakeIs p at_ n (.tuple #[.int .u64 0, .iface 43 (.int .i64 1)])
  | short (g : Nat) : 1 ≤ n → n ≤ 8 → 0 ≤ at_ → (p.length : Int) < at_ + n → TakeIs p at_ n (.tuple #[.int .u64 0, .iface 50 (.pointer (some ⟨g, 0, none⟩))])
  | ok : 1 ≤ n → n ≤ 8 → 0 ≤ at_ → at_ + n ≤ p.length → TakeIs p at_ n (.tuple #[.int .u64 (num p at_.toNat n.toNat), .nilIface])
def TakePost (p : List Int) (at_ n : Int) (w : World) (e : Ending) (w' : World) : Prop := ∃ v, e = .returned v ∧ TakeIs p at_ n v ∧ Below w.heap.size w w'
theorem rd_piece {w : World} {A : Option Addr} {len : Nat} {p : List Int} (h : RdB w A len p) {i k : Nat} (hk : 0 < k) (hs : i + k ≤ len) : RdB w (Option.map (fun x => x.add i) A) k ((p.drop i).take k) := by
  have h2 := (h.drop (k := i) (cap := len) (by omega) (Nat.le_refl _)).take (k := k) (by omega)
  rw [if_neg (by omega)] at h2
  rwa [Nat.mul_one] at h2
theorem Take_any (A : Option Addr) (len cap : Nat) (p : List Int) (at_ n : Int) (w : World) (hr : RdB w A len p) (hb : InB p) (hc : len ≤ cap) (hm : cap ≤ maxLen)
    (h0 : -9223372036854775808 ≤ at_) (h1 : at_ ≤ 9223372036854775807) (h2 : -9223372036854775808 ≤ n) (h3 : n ≤ 9223372036854775807) :
    Calls Tryd.prog 13 #[.slice A len cap, .int .i64 at_, .int .i64 n] w (TakePost p at_ n w) := by
  simp only [maxLen] at hm
  have H := Lib.hid hr
  have HB := Lib.hid hb
  have HL := Lib.hid hr.1
  clear hr hb
  by_cases hn : 1 ≤ n ∧ n ≤ 8 ∧ 0 ≤ at_
  · have g1 : decide (n < 1) = false := decide_eq_false (by omega)
    have g2 : decide (8 < n) = false := decide_eq_false (by omega)
    have g3 : decide (at_ < 0) = false := decide_eq_false (by omega)
    obtain ⟨i, rfl⟩ : ∃ i : Nat, at_ = i := ⟨at_.toNat, by omega⟩
    obtain ⟨k, rfl⟩ : ∃ k : Nat, n = k := ⟨n.toNat, by omega⟩
    by_cases hs : i + k ≤ len
    · go_enter Tryd.func13, Tryd.ntmps13
      go_wp2_with fail
      refine (number_any _ _ _ ((p.drop i).take k) _ (rd_piece H.out (by omega) hs) ((HB.out.drop i).take k) (by omega)).mono ?_
      rintro e w1 ⟨rfl, rfl⟩
      go_wp2
      go_ret2
      exact ⟨_, rfl, by simpa [num] using TakeIs.ok (p := p) (at_ := i) (n := k) hn.1 hn.2.1 hn.2.2 (by have := HL.out; omega), Below.refl _ _⟩
    · have hs' : decide (len < i) = true ∨ (decide (len < i) = false ∧ decide ((len : Int) - i < k) = true) := by
        by_cases h : len < i
        · exact .inl (decide_eq_true h)
        · exact .inr ⟨decide_eq_false h, decide_eq_true (by omega)⟩
      rcases hs' with g4 | ⟨g4, g5⟩
      all_goals
        go_enter Tryd.func13, Tryd.ntmps13
        go_wp2_with fail
        refine (short_any _ _ _ w).mono ?_
        rintro e w1 ⟨g, rfl, hg, hb⟩
        have HBW := Lib.hid hb
        clear hb
        go_wp2
        go_ret2
        exact ⟨_, rfl, TakeIs.short g hn.1 hn.2.1 hn.2.2 (by have := HL.out; omega), HBW.out⟩
  · have hn' : decide (n < 1) = true ∨ (decide (n < 1) = false ∧ decide (8 < n) = true) ∨ (decide (n < 1) = false ∧ decide (8 < n) = false ∧ decide (at_ < 0) = true) := by
      by_cases h1 : n < 1
      · exact .inl (decide_eq_true h1)
      · by_cases h2 : 8 < n
        · exact .inr (.inl ⟨decide_eq_false h1, decide_eq_true h2⟩)
        · exact .inr (.inr ⟨decide_eq_false h1, decide_eq_false h2, decide_eq_true (by omega)⟩)
    have hc : n < 1 ∨ 8 < n ∨ at_ < 0 := by omega
    rcases hn' with g1 | ⟨g1, g2⟩ | ⟨g1, g2, g3⟩
    all_goals
      go_enter Tryd.func13, Tryd.ntmps13
      go_wp2_with fail
      go_ret2
      exact ⟨_, rfl, TakeIs.arg hc, Below.refl _ _⟩
end Go.Proofs.YtgnphkopdenghaaDoor
