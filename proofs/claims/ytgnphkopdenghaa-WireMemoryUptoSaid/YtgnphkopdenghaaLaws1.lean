/- The law WireBytes: a number of n bytes is its lowest byte, and 256 times what the others are. -/
import Derived.Test.YtgnphkopdenghaaWalk6
set_option linter.unusedSimpArgs false
set_option linter.unusedVariables false
namespace Go.Proofs.Ytgnphkopdenghaa
open Go.RowKit

theorem num_one {p : List Int} {i : Nat} (hi : i < p.length) : num p i 1 = p[i] := by
  unfold num
  rw [List.drop_eq_getElem_cons hi, List.take_succ_cons, List.take_zero]
  simp [le]
theorem num_step {p : List Int} {i k : Nat} (hi : i < p.length) : num p i (k + 1) = p[i] + 256 * num p (i + 1) k := by
  unfold num
  rw [List.drop_eq_getElem_cons hi, List.take_succ_cons]
  rfl
theorem num_bound {p : List Int} (hb : InB p) (i : Nat) {k : Nat} (hk : k ≤ 8) : 0 ≤ num p i k ∧ num p i k ≤ 18446744073709551615 := by
  have h := (hb.drop i).take k
  have h0 := le_nonneg _ h
  have h1 := le_lt _ h
  have h2 : ((p.drop i).take k).length ≤ 8 := by rw [List.length_take]; omega
  have h3 : (256 : Int) ^ ((p.drop i).take k).length ≤ 18446744073709551616 := by
    generalize ((p.drop i).take k).length = q at *
    have hq : q = 0 ∨ q = 1 ∨ q = 2 ∨ q = 3 ∨ q = 4 ∨ q = 5 ∨ q = 6 ∨ q = 7 ∨ q = 8 := by omega
    rcases hq with rfl | rfl | rfl | rfl | rfl | rfl | rfl | rfl | rfl <;> decide
  unfold num
  omega
theorem take_ok {p : List Int} {i k : Nat} {v : Value} (h : TakeIs p i k v) (h1 : 1 ≤ k) (h2 : k ≤ 8) (h3 : i + k ≤ p.length) : v = .tuple #[.int .u64 (num p i k), .nilIface] := by
  generalize hi : (i : Int) = at_ at h
  generalize hk : (k : Int) = n at h
  cases h with
  | arg h => omega
  | short g a b c d => omega
  | ok a b c d => rw [← hi, ← hk, Int.toNat_natCast, Int.toNat_natCast]
theorem take_bad {p : List Int} {at_ n : Int} {v : Value} (h : TakeIs p at_ n v) (hb : ¬ (1 ≤ n ∧ n ≤ 8 ∧ 0 ≤ at_ ∧ at_ + n ≤ p.length)) : ∃ t x, v = .tuple #[.int .u64 0, .iface t x] := by
  cases h with
  | arg h => exact ⟨_, _, rfl⟩
  | short g a b c d => exact ⟨_, _, rfl⟩
  | ok a b c d => exact absurd ⟨a, b, c, d⟩ hb

set_option maxHeartbeats 1600000 in
theorem WireBytes_walk (a0 : Option Addr) (len0 cap0 : Nat) (z0 : List Int) (a1 a2 : Int) (w : World) (w0 : IsRow .u8 w a0 len0 cap0 z0) (y0 : len0 * 1 ≤ 140737488351232) (w1 : (Lit.int .i64 a1).wf = true) (w2 : (Lit.int .i64 a2).wf = true) :
    Calls Try.prog 3 #[.slice a0 len0 cap0, .int .i64 a1, .int .i64 a2] w (BoolBelow true w) := by
  have h1 : -9223372036854775808 ≤ a1 ∧ a1 ≤ 9223372036854775807 := by simpa [Lit.wf, IntKind.min, IntKind.max, IntKind.signed, IntKind.bits] using w1
  have h2 : -9223372036854775808 ≤ a2 ∧ a2 ≤ 9223372036854775807 := by simpa [Lit.wf, IntKind.min, IntKind.max, IntKind.signed, IntKind.bits] using w2
  obtain ⟨hlc, hcm⟩ := w0.cap
  have hr := Lib.hid w0.rd
  have hb := Lib.hid w0.inB
  have hl := w0.rd.1
  clear w0 w1 w2
  generalize z0.take len0 = p at *
  obtain rfl := hl
  go_enter Try.func3, Try.ntmps3
  go_wp2_with fail
  refine (awake_any w).mono ?_
  rintro e w1 ⟨rfl, hb1⟩
  have B1 := Lib.hid hb1
  clear hb1
  go_wp2_with fail
  refine (Twin_any a0 p.length cap0 p w1 (hr.out.below B1.out) (by omega)).mono ?_
  rintro e w2 hm2
  obtain ⟨A2, c2, rfl, hc2, hx2, R2, -, -, B2⟩ := thenMade B1.out hm2
  go_wp2_with fail
  refine (Take_any A2 p.length c2 p a1 a2 w2 R2.out hb.out hc2 hx2 h1.1 h1.2 h2.1 h2.2).mono ?_
  rintro e w3 ⟨v3, rfl, ht, hb3⟩
  have B3 := Lib.hid (B2.out.trans (hb3.mono B2.out.size))
  clear hb3 hm2
  by_cases hok : 1 ≤ a2 ∧ a2 ≤ 8 ∧ 0 ≤ a1 ∧ a1 + a2 ≤ p.length
  · obtain ⟨i, rfl⟩ : ∃ i : Nat, a1 = i := ⟨a1.toNat, by omega⟩
    obtain ⟨k, rfl⟩ : ∃ k : Nat, a2 = k := ⟨a2.toNat, by omega⟩
    obtain rfl := take_ok ht (by omega) (by omega) (by omega)
    clear ht
    have hi : i < p.length := by omega
    have hsum : num p i k = p[i] + 256 * num p (i + 1) (k - 1) := by
      obtain ⟨q, rfl⟩ : ∃ q, k = q + 1 := ⟨k - 1, by omega⟩
      exact num_step hi
    have hV := num_bound hb.out i (k := k) (by omega)
    have hR := num_bound hb.out (i + 1) (k := k - 1) (by omega)
    have hX := hb.out.at_ hi
    have hone := num_one hi
    have HV := Lib.hid hV
    have HSUM := Lib.hid hsum
    have HONE := Lib.hid hone
    clear hsum hone
    go_wp2_with fail
    refine (Twin_any a0 p.length cap0 p w3 (hr.out.below B3.out) (by omega)).mono ?_
    rintro e w4 hm4
    obtain ⟨A4, c4, rfl, hc4, hx4, R4, -, -, B4⟩ := thenMade B3.out hm4
    clear hm4
    go_wp2_with fail
    refine (Take_any A4 p.length c4 p i (1 : Nat) w4 R4.out hb.out hc4 hx4 (by omega) (by omega) (by omega) (by omega)).mono ?_
    rintro e w5 ⟨v5, rfl, ht, hb5⟩
    have B5 := Lib.hid (B4.out.trans (hb5.mono B4.out.size))
    obtain rfl := take_ok ht (by omega) (by omega) (by omega)
    clear ht hb5
    rw [HONE.out]
    obtain ⟨ad, rfl, c0⟩ := (hr.out.below B5.out).at1 (f := Value.int .u8) hi
    by_cases hk1 : k = 1
    · subst hk1
      have hR0 : num p (i + 1) (1 - 1) = 0 := by simp [num, le]
      rw [hR0] at HSUM
      clear hR hR0
      generalize num p i 1 = V at *
      generalize p[i] = X at *
      have e0 : V = X := by have := HSUM.out; omega
      subst e0
      go_wp2_with fail
      go_ret
      exact ⟨by simp, B5.out⟩
    · by_cases hk4 : k = 4
      · have hnum4 := num_lt hb.out i
        have HK4 := Lib.hid hk4
        have g4 : ((k : Int) == 4) = true := by rw [beq_iff_eq]; omega
        have hk2 : 1 < k := by omega
        clear hk4 hk1
        go_wp2_with fail
        refine (Twin_any (some ad) p.length cap0 p w5 (hr.out.below B5.out) (by omega)).mono ?_
        rintro e w6 hm6
        obtain ⟨A6, c6, rfl, hc6, hx6, R6, -, -, B6⟩ := thenMade B5.out hm6
        clear hm6
        go_wp2_with fail
        have e1 : ((i : Int) + 1) = ((i + 1 : Nat) : Int) := by omega
        have e2 : ((k : Int) - 1) = ((k - 1 : Nat) : Int) := by omega
        rw [e1, e2]
        clear e1 e2
        refine (Take_any A6 p.length c6 p (i + 1 : Nat) (k - 1 : Nat) w6 R6.out hb.out hc6 hx6 (by omega) (by omega) (by omega) (by omega)).mono ?_
        rintro e w7 ⟨v7, rfl, ht, hb7⟩
        have B7 := Lib.hid (B6.out.trans (hb7.mono B6.out.size))
        obtain rfl := take_ok ht (by omega) (by omega) (by omega)
        clear ht hb7
        go_wp2_with fail
        refine (Twin_any (some ad) p.length cap0 p w7 (hr.out.below B7.out) (by omega)).mono ?_
        rintro e w8 hm8
        obtain ⟨A8, c8, rfl, hc8, hx8, R8, -, -, B8⟩ := thenMade B7.out hm8
        clear hm8
        go_wp2_with fail
        refine (Words_ok A8 p.length c8 p i 1 w8 R8.out hb.out hc8 (by have := HK4.out; omega) (by omega) hx8).mono ?_
        rintro e w9 ⟨v9, rfl, ho9, hb9⟩
        have B9 := Lib.hid (B8.out.trans (hb9.mono B8.out.size))
        obtain ⟨A9, c9, rfl, hc9, hx9⟩ := ho9.form
        obtain ⟨ad9, rfl, d0⟩ := (ho9.rd u32s_len rfl).at1 (f := Value.int .u32) (j := 0) (by rw [wordsL_len]; omega)
        have hw0 : (wordsL p i 1)[0]'(by rw [wordsL_len]; omega) = num p i k := by rw [HK4.out]; simp [wordsL]
        rw [hw0] at d0
        have hV4 : num p i k ≤ 4294967295 := by rw [HK4.out]; exact hnum4.2
        rw [wordsL_len] at *
        clear ho9 hb9 hw0 hnum4
        have d0' : w9.cell? ad9 = some (.int .u32 (num p i k)) := d0
        clear d0
        generalize num p (i + 1) (k - 1) = R at *
        generalize num p i k = V at *
        generalize p[i] = X at *
        have hs := HSUM.out
        clear HSUM HONE
        go_wp2_with fail
        go_ret
        exact ⟨by first | (simp; done) | (simp; omega), B9.out⟩
      · have g4 : ((k : Int) == 4) = false := by rw [beq_eq_false_iff_ne]; omega
        have hk2 : 1 < k := by omega
        clear hk4 hk1
        go_wp2_with fail
        refine (Twin_any (some ad) p.length cap0 p w5 (hr.out.below B5.out) (by omega)).mono ?_
        rintro e w6 hm6
        obtain ⟨A6, c6, rfl, hc6, hx6, R6, -, -, B6⟩ := thenMade B5.out hm6
        clear hm6
        go_wp2_with fail
        have e1 : ((i : Int) + 1) = ((i + 1 : Nat) : Int) := by omega
        have e2 : ((k : Int) - 1) = ((k - 1 : Nat) : Int) := by omega
        rw [e1, e2]
        clear e1 e2
        refine (Take_any A6 p.length c6 p (i + 1 : Nat) (k - 1 : Nat) w6 R6.out hb.out hc6 hx6 (by omega) (by omega) (by omega) (by omega)).mono ?_
        rintro e w7 ⟨v7, rfl, ht, hb7⟩
        have B7 := Lib.hid (B6.out.trans (hb7.mono B6.out.size))
        obtain rfl := take_ok ht (by omega) (by omega) (by omega)
        clear ht hb7
        generalize num p (i + 1) (k - 1) = R at *
        generalize num p i k = V at *
        generalize p[i] = X at *
        have hs := HSUM.out
        clear HSUM HONE
        go_wp2_with fail
        go_ret
        exact ⟨by first | (simp; done) | (simp; omega), B7.out⟩
  · obtain ⟨t, x, rfl⟩ := take_bad ht hok
    clear ht
    go_wp2
    go_ret
    exact ⟨rfl, B3.out⟩
end Go.Proofs.Ytgnphkopdenghaa
