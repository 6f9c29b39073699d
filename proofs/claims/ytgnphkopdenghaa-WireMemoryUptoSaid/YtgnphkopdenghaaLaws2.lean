/- The law WireThere: what was put behind bytes is taken from there again. -/
import Derived.Test.YtgnphkopdenghaaLaws1
set_option linter.unusedSimpArgs false
set_option linter.unusedVariables false
namespace Go.Proofs.Ytgnphkopdenghaa
open Go.RowKit

theorem le_snoc (l : List Int) (b : Int) : le (l ++ [b]) = le l + 256 ^ l.length * b := by
  induction l with
  | nil => simp [le]
  | cons x l ih =>
    simp only [List.cons_append, le, ih, List.length_cons, Int.pow_succ]
    rw [Int.mul_add, Int.mul_comm ((256 : Int) ^ l.length) 256, Int.mul_assoc]; omega
theorem le_bytesN (u : Nat) : ∀ k : Nat, le (bytesN u k) = (u % 2 ^ (8 * k) : Nat)
  | 0 => by simp [bytesN, le, Nat.mod_one]
  | k + 1 => by
    rw [bytesN_succ, le_snoc, le_bytesN u k, bytesN_len]
    have e : 2 ^ (8 * (k + 1)) = 2 ^ (8 * k) * 256 := by rw [show 8 * (k + 1) = 8 * k + 8 by omega, Nat.pow_add]
    have h := Nat.mod_mul (x := u) (a := 2 ^ (8 * k)) (b := 256)
    have e2 : (256 : Int) ^ k = ((2 ^ (8 * k) : Nat) : Int) := by rw [Nat.pow_mul]; rfl
    have e3 : (u : Int) / 2 ^ (8 * k) % 256 = ((u / 2 ^ (8 * k) % 256 : Nat) : Int) := by
      rw [Int.natCast_emod, Int.natCast_ediv, Int.natCast_pow]; rfl
    rw [e, h, e2, e3, Int.natCast_add, Int.natCast_mul]
theorem num_put (p : List Int) (v : Int) (k : Nat) (h0 : 0 ≤ v) (h1 : v ≤ 18446744073709551615) (hk : k ≤ 8) (hfit : k = 8 ∨ v / 2 ^ (8 * k) = 0) : num (p ++ bytesN v k) p.length k = v := by
  unfold num
  rw [List.drop_left' rfl, List.take_of_length_le (by rw [bytesN_len]; exact Nat.le_refl _)]
  obtain ⟨u, rfl⟩ := Int.eq_ofNat_of_zero_le h0
  rw [le_bytesN, Nat.mod_eq_of_lt]
  rcases hfit with rfl | hz
  · have : (2 : Nat) ^ (8 * 8) = 18446744073709551616 := by decide
    rw [this]; omega
  · have hp : 0 < 2 ^ (8 * k) := Nat.two_pow_pos _
    have e : (u : Int) / 2 ^ (8 * k) = ((u / 2 ^ (8 * k) : Nat) : Int) := by rw [Int.natCast_ediv, Int.natCast_pow]; rfl
    rw [e] at hz
    have hz' : u / 2 ^ (8 * k) = 0 := by exact_mod_cast hz
    exact (Nat.div_eq_zero_iff.1 hz').resolve_left (by omega)
theorem le_word {x : Int} (h : 0 ≤ x ∧ x ≤ 4294967295) : le (wordB x) = x := by
  simp only [wordB, le]; omega
theorem wordsL_put (p : List Int) {l : List Int} (hw : InW l) : wordsL (p ++ wordsB l) p.length l.length = l := by
  apply List.ext_getElem (by rw [wordsL_len])
  intro j h1 h2
  have hj : j < l.length := h2
  have e : (wordsL (p ++ wordsB l) p.length l.length)[j]'h1 = num (p ++ wordsB l) (p.length + 4 * j) 4 := by simp [wordsL]
  rw [e]
  unfold num
  have e2 : wordsB l = wordsB (l.take j) ++ (wordB l[j] ++ wordsB (l.drop (j + 1))) := by
    have h := (List.take_append_drop j l).symm
    rw [List.drop_eq_getElem_cons hj] at h
    have h2 := congrArg wordsB h
    rw [h2]
    simp only [wordsB, List.flatMap_append, List.flatMap_cons]
  have hl : (wordsB (l.take j)).length = 4 * j := by rw [wordsB_len, List.length_take]; omega
  rw [List.drop_append, List.drop_of_length_le (by omega), List.nil_append, show p.length + 4 * j - p.length = 4 * j by omega, e2, List.drop_left' hl, List.take_left' (show (wordB l[j]).length = 4 from rfl), le_word (hw _ (List.getElem_mem hj))]

set_option maxHeartbeats 3200000 in
theorem WireThere_walk (a0 : Option Addr) (len0 cap0 : Nat) (z0 : List Int) (a1 a2 : Int) (a3 : Option Addr) (len3 cap3 : Nat) (z3 : List Int) (w : World) (w0 : IsRow .u8 w a0 len0 cap0 z0) (y0 : len0 * 1 ≤ 140737488351232)
    (w1 : (Lit.int .u64 a1).wf = true) (w2 : (Lit.int .i64 a2).wf = true) (w3 : IsRow .u32 w a3 len3 cap3 z3) (y3 : len3 * 4 ≤ 140737488351232) (small : cap0 + cap3 ≤ 1048576) :
    Calls Try.prog 5 #[.slice a0 len0 cap0, .int .u64 a1, .int .i64 a2, .slice a3 len3 cap3] w (BoolBelow true w) := by
  have h1 : 0 ≤ a1 ∧ a1 ≤ 18446744073709551615 := by simpa [Lit.wf, IntKind.min, IntKind.max, IntKind.signed, IntKind.bits] using w1
  have h2 : -9223372036854775808 ≤ a2 ∧ a2 ≤ 9223372036854775807 := by simpa [Lit.wf, IntKind.min, IntKind.max, IntKind.signed, IntKind.bits] using w2
  obtain ⟨hlc, hcm⟩ := w0.cap
  obtain ⟨hlc3, hcm3⟩ := w3.cap
  have hr := Lib.hid w0.rd
  have hb := Lib.hid w0.inB
  have hl := w0.rd.1
  have hr3 := Lib.hid w3.rd
  have hl3 := w3.rd.1
  have hw3 : Hid (InW (z3.take len3)) := Lib.hid (fun b hb => by
    have h := w3.wf b hb
    simpa [Lit.wf, IntKind.min, IntKind.max, IntKind.signed, IntKind.bits] using h)
  clear w0 w1 w2 w3
  generalize z0.take len0 = p at *
  generalize z3.take len3 = l at *
  obtain rfl := hl
  obtain rfl := hl3
  have HLW : Hid ((p ++ wordsB l).length = p.length + 4 * l.length) := Lib.hid (by rw [List.length_append, wordsB_len])
  have hcase : (a2 < 1 ∨ 8 < a2) ∨ (∃ k : Nat, a2 = k ∧ 1 ≤ k ∧ k < 8 ∧ 0 < a1 / 2 ^ (8 * k)) ∨ (∃ k : Nat, a2 = k ∧ 1 ≤ k ∧ k ≤ 8 ∧ (k = 8 ∨ a1 / 2 ^ (8 * k) = 0)) := by
    by_cases h : a2 < 1 ∨ 8 < a2
    · exact .inl h
    · obtain ⟨k, hk⟩ : ∃ k : Nat, a2 = k := ⟨a2.toNat, by omega⟩
      have hnn : 0 ≤ a1 / 2 ^ (8 * k) := Int.ediv_nonneg h1.1 (Int.le_of_lt (Int.pow_pos (by omega)))
      by_cases h8 : k = 8
      · exact .inr (.inr ⟨k, hk, by omega, by omega, .inl h8⟩)
      · by_cases hz : a1 / 2 ^ (8 * k) = 0
        · exact .inr (.inr ⟨k, hk, by omega, by omega, .inr hz⟩)
        · exact .inr (.inl ⟨k, hk, by omega, by omega, by omega⟩)
  go_enter Try.func5, Try.ntmps5
  go_wp2_with fail
  refine (awake_any w).mono ?_
  rintro e w1 ⟨rfl, hb1⟩
  have B1 := Lib.hid hb1
  clear hb1
  go_wp2_with fail
  refine (Twin_any a0 p.length cap0 p w1 (hr.out.below B1.out) (by omega)).mono ?_
  rintro e w2 hm2
  obtain ⟨A2, c2, rfl, hc2, hx2, R2, -, -, B2⟩ := thenMade B1.out hm2
  clear hm2
  -- THE CASES
  rcases hcase with hk | ⟨k, rfl, hk1, hk7, hbig⟩ | ⟨k, rfl, hk1, hk8, hfit⟩
  · have hlw := HLW.out
    go_wp2_with fail
    refine (Put_arg A2 p.length c2 a1 a2 w2 hk h2.1 h2.2).mono ?_
    rintro e w3 ⟨rfl, hw3e⟩
    obtain rfl := hw3e.symm
    clear hw3e
    go_wp2_with fail
    refine (Twin_any a0 p.length cap0 p w2 (hr.out.below B2.out) (by omega)).mono ?_
    rintro e w6 hm6
    obtain ⟨A6, c6, rfl, hc6, hx6, R6, -, -, B6⟩ := thenMade B2.out hm6
    clear hm6
    go_wp2_with fail
    refine (Words10_any a3 l.length cap3 l w6 (hr3.out.below B6.out) (by omega)).mono ?_
    rintro e w7 ⟨v7, rfl, ho7, hb7⟩
    have B7 := Lib.hid (B6.out.trans (hb7.mono B6.out.size))
    have R7 := Lib.hid (R6.out.below hb7)
    obtain ⟨A7, c7, rfl, hc7, hx7⟩ := ho7.form
    have L7 := Lib.hid (ho7.rd u32s_len rfl)
    clear ho7 hb7
    go_wp2_with fail
    refine (PutWords_any A6 p.length c6 p A7 l.length c7 l w7 R7.out L7.out hw3.out (by omega)).mono ?_
    rintro e w8 hm8
    obtain ⟨A8, c8, rfl, hc8, hx8, R8, -, -, B8⟩ := thenMade B7.out hm8
    clear hm8
    have HW8 := Lib.hid hlw
    rw [hlw] at hc8 ⊢
    go_wp2_with fail
    refine (Words_ok A8 (p.length + 4 * l.length) c8 (p ++ wordsB l) p.length l.length w8 (by have h := R8.out; rwa [HW8.out] at h) (InB.append hb.out (wordsB_in hw3.out)) (by omega) (by omega) (by omega) hx8).mono ?_
    rintro e w9 ⟨v9, rfl, ho9, hb9⟩
    have B9 := Lib.hid (B8.out.trans (hb9.mono B8.out.size))
    have R9 := Lib.hid (R8.out.below hb9)
    rw [wordsL_put p hw3.out] at ho9
    obtain ⟨A9, c9, rfl, hc9, hx9⟩ := ho9.form
    have L9 := Lib.hid (ho9.rd u32s_len rfl)
    clear ho9 hb9
    go_wp2_with fail
    refine (SameWords_any A9 l.length c9 l a3 l.length cap3 l w9 L9.out (hr3.out.below B9.out) (by omega)).mono ?_
    rintro e w10 ⟨rfl, hd⟩
    rw [decide_eq_true rfl]
    have B10 := Lib.hid (B9.out.trans ((hd.below _).mono B9.out.size))
    have R10 := Lib.hid (R9.out.below (hd.below _))
    clear hd
    go_wp2_with fail
    refine (Same_any A8 p.length c8 p a0 p.length cap0 p w10 (by have h := R10.out.take (k := p.length) (by rw [HW8.out]; omega); rwa [List.take_left' rfl] at h) (hr.out.below B10.out) hb.out hb.out).mono ?_
    rintro e w11 ⟨rfl, rfl⟩
    rw [decide_eq_true rfl]
    go_wp2
    go_ret
    exact ⟨by simp, B10.out⟩
  · have hlw := HLW.out
    go_wp2_with fail
    refine (Put_limit A2 p.length c2 a1 k w2 hk1 hk7 h1.1 h1.2 hbig).mono ?_
    rintro e w3 ⟨rfl, hw3e⟩
    obtain rfl := hw3e.symm
    clear hw3e
    go_wp2_with fail
    refine (Twin_any a0 p.length cap0 p w2 (hr.out.below B2.out) (by omega)).mono ?_
    rintro e w6 hm6
    obtain ⟨A6, c6, rfl, hc6, hx6, R6, -, -, B6⟩ := thenMade B2.out hm6
    clear hm6
    go_wp2_with fail
    refine (Words10_any a3 l.length cap3 l w6 (hr3.out.below B6.out) (by omega)).mono ?_
    rintro e w7 ⟨v7, rfl, ho7, hb7⟩
    have B7 := Lib.hid (B6.out.trans (hb7.mono B6.out.size))
    have R7 := Lib.hid (R6.out.below hb7)
    obtain ⟨A7, c7, rfl, hc7, hx7⟩ := ho7.form
    have L7 := Lib.hid (ho7.rd u32s_len rfl)
    clear ho7 hb7
    go_wp2_with fail
    refine (PutWords_any A6 p.length c6 p A7 l.length c7 l w7 R7.out L7.out hw3.out (by omega)).mono ?_
    rintro e w8 hm8
    obtain ⟨A8, c8, rfl, hc8, hx8, R8, -, -, B8⟩ := thenMade B7.out hm8
    clear hm8
    have HW8 := Lib.hid hlw
    rw [hlw] at hc8 ⊢
    go_wp2_with fail
    refine (Words_ok A8 (p.length + 4 * l.length) c8 (p ++ wordsB l) p.length l.length w8 (by have h := R8.out; rwa [HW8.out] at h) (InB.append hb.out (wordsB_in hw3.out)) (by omega) (by omega) (by omega) hx8).mono ?_
    rintro e w9 ⟨v9, rfl, ho9, hb9⟩
    have B9 := Lib.hid (B8.out.trans (hb9.mono B8.out.size))
    have R9 := Lib.hid (R8.out.below hb9)
    rw [wordsL_put p hw3.out] at ho9
    obtain ⟨A9, c9, rfl, hc9, hx9⟩ := ho9.form
    have L9 := Lib.hid (ho9.rd u32s_len rfl)
    clear ho9 hb9
    go_wp2_with fail
    refine (SameWords_any A9 l.length c9 l a3 l.length cap3 l w9 L9.out (hr3.out.below B9.out) (by omega)).mono ?_
    rintro e w10 ⟨rfl, hd⟩
    rw [decide_eq_true rfl]
    have B10 := Lib.hid (B9.out.trans ((hd.below _).mono B9.out.size))
    have R10 := Lib.hid (R9.out.below (hd.below _))
    clear hd
    go_wp2_with fail
    refine (Same_any A8 p.length c8 p a0 p.length cap0 p w10 (by have h := R10.out.take (k := p.length) (by rw [HW8.out]; omega); rwa [List.take_left' rfl] at h) (hr.out.below B10.out) hb.out hb.out).mono ?_
    rintro e w11 ⟨rfl, rfl⟩
    rw [decide_eq_true rfl]
    go_wp2
    go_ret
    exact ⟨by simp, B10.out⟩
  · have hlw := HLW.out
    go_wp2_with fail
    refine (Put_ok A2 p.length c2 p a1 k w2 R2.out (by omega) (by omega) h1.1 h1.2 hfit (by omega)).mono ?_
    rintro e w3 ⟨v3, rfl, ho3, hb3⟩
    have B3 := Lib.hid (B2.out.trans (hb3.mono B2.out.size))
    obtain ⟨A3, c3, rfl, hc3, hx3⟩ := ho3.form
    have R3 := Lib.hid (ho3.rd u8s_len rfl)
    have hl3 : (p ++ bytesN a1 k).length = p.length + k := by rw [List.length_append, bytesN_len]
    have HL3 := Lib.hid hl3
    rw [hl3] at hc3 ⊢
    clear ho3 hb3 hl3
    go_wp2_with fail
    refine (Take_any A3 (p.length + k) c3 (p ++ bytesN a1 k) p.length k w3 (by have h := R3.out; rwa [HL3.out] at h) (InB.append hb.out (bytesN_in _ _)) hc3 hx3 (by omega) (by omega) (by omega) (by omega)).mono ?_
    rintro e w4 ⟨v4, rfl, ht, hb4⟩
    have B4 := Lib.hid (B3.out.trans (hb4.mono B3.out.size))
    have R4 := Lib.hid (R3.out.below hb4)
    obtain rfl := take_ok ht (by omega) (by omega) (by rw [HL3.out]; omega)
    rw [num_put p a1 k h1.1 h1.2 hk8 hfit]
    clear ht hb4
    go_wp2_with fail
    refine (Same_any A3 p.length c3 p a0 p.length cap0 p w4 (by have h := R4.out.take (k := p.length) (by rw [HL3.out]; omega); rwa [List.take_left' rfl] at h) (hr.out.below B4.out) hb.out hb.out).mono ?_
    rintro e w5 ⟨rfl, rfl⟩
    rw [decide_eq_true rfl]
    go_wp2_with fail
    refine (Twin_any a0 p.length cap0 p w4 (hr.out.below B4.out) (by omega)).mono ?_
    rintro e w6 hm6
    obtain ⟨A6, c6, rfl, hc6, hx6, R6, -, -, B6⟩ := thenMade B4.out hm6
    clear hm6
    go_wp2_with fail
    refine (Words10_any a3 l.length cap3 l w6 (hr3.out.below B6.out) (by omega)).mono ?_
    rintro e w7 ⟨v7, rfl, ho7, hb7⟩
    have B7 := Lib.hid (B6.out.trans (hb7.mono B6.out.size))
    have R7 := Lib.hid (R6.out.below hb7)
    obtain ⟨A7, c7, rfl, hc7, hx7⟩ := ho7.form
    have L7 := Lib.hid (ho7.rd u32s_len rfl)
    clear ho7 hb7
    go_wp2_with fail
    refine (PutWords_any A6 p.length c6 p A7 l.length c7 l w7 R7.out L7.out hw3.out (by omega)).mono ?_
    rintro e w8 hm8
    obtain ⟨A8, c8, rfl, hc8, hx8, R8, -, -, B8⟩ := thenMade B7.out hm8
    clear hm8
    have HW8 := Lib.hid hlw
    rw [hlw] at hc8 ⊢
    go_wp2_with fail
    refine (Words_ok A8 (p.length + 4 * l.length) c8 (p ++ wordsB l) p.length l.length w8 (by have h := R8.out; rwa [HW8.out] at h) (InB.append hb.out (wordsB_in hw3.out)) (by omega) (by omega) (by omega) hx8).mono ?_
    rintro e w9 ⟨v9, rfl, ho9, hb9⟩
    have B9 := Lib.hid (B8.out.trans (hb9.mono B8.out.size))
    have R9 := Lib.hid (R8.out.below hb9)
    rw [wordsL_put p hw3.out] at ho9
    obtain ⟨A9, c9, rfl, hc9, hx9⟩ := ho9.form
    have L9 := Lib.hid (ho9.rd u32s_len rfl)
    clear ho9 hb9
    go_wp2_with fail
    refine (SameWords_any A9 l.length c9 l a3 l.length cap3 l w9 L9.out (hr3.out.below B9.out) (by omega)).mono ?_
    rintro e w10 ⟨rfl, hd⟩
    rw [decide_eq_true rfl]
    have B10 := Lib.hid (B9.out.trans ((hd.below _).mono B9.out.size))
    have R10 := Lib.hid (R9.out.below (hd.below _))
    clear hd
    go_wp2_with fail
    refine (Same_any A8 p.length c8 p a0 p.length cap0 p w10 (by have h := R10.out.take (k := p.length) (by rw [HW8.out]; omega); rwa [List.take_left' rfl] at h) (hr.out.below B10.out) hb.out hb.out).mono ?_
    rintro e w11 ⟨rfl, rfl⟩
    rw [decide_eq_true rfl]
    go_wp2
    go_ret
    exact ⟨by simp, B10.out⟩
  -- THE END
end Go.Proofs.Ytgnphkopdenghaa
