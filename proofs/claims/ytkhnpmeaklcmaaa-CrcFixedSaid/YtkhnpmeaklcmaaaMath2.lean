/- Plain mathematics of bursts and of joined sums: bits turned over within 32 neighbouring ones change the check sum's rest; the sum of two lists out of their sums. No program in sight. -/
import Derived.Test.YtkhnpmeaklcmaaaMath
import Derived.Test.YtkhnpmeaklcmaaaWalk5
set_option linter.unusedSimpArgs false
set_option linter.unusedVariables false
namespace Go.Proofs.Ytkhnpmeaklcmaaa.Crc

theorem turns_bit : ∀ i, i < 32 → turns i (1#32 <<< i) = 1#32 := by decide +kernel
theorem turns_down {c i : Nat} (h : i < c) (hi : i < 32) : turns (c - i) 1#32 = turns c (1#32 <<< i) := by
  conv => rhs; rw [show c = i + (c - i) by omega, turns_add, turns_bit i hi]

/-- two bytes, bit by bit -/
def xorb (a b : Int) : Int := ((a.toNat ^^^ b.toNat : Nat) : Int)
theorem xorb_in {a b : Int} (ha : 0 ≤ a ∧ a ≤ 255) (hb : 0 ≤ b ∧ b ≤ 255) : 0 ≤ xorb a b ∧ xorb a b ≤ 255 := by
  have h : a.toNat ^^^ b.toNat < 2 ^ 8 := Nat.xor_lt_two_pow (by omega) (by omega)
  unfold xorb
  omega
theorem byte_xorb {a b : Int} (ha : 0 ≤ a) (hb : 0 ≤ b) : byte (xorb a b) = byte a ^^^ byte b := by
  unfold xorb byte
  obtain ⟨m, rfl⟩ := Int.eq_ofNat_of_zero_le ha
  obtain ⟨n, rfl⟩ := Int.eq_ofNat_of_zero_le hb
  simp only [Int.toNat_natCast, BitVec.ofInt_natCast]
  exact BitVec.ofNat_xor ..
theorem byte_pow : ∀ r, r < 8 → byte ((2 ^ r : Nat) : Int) = 1#32 <<< r := by decide

theorem upd_xor (x y : BitVec 32) (l : List Int) : upd (x ^^^ y) l = upd x l ^^^ turns (8 * l.length) y := by
  induction l generalizing x y with
  | nil => rfl
  | cons b l ih =>
    rw [upd_cons, upd_cons, show x ^^^ y ^^^ byte b = (x ^^^ byte b) ^^^ y by rw [BitVec.xor_assoc, BitVec.xor_comm y, ← BitVec.xor_assoc], turns_xor, ih, ← turns_add, List.length_cons]
    congr 2; omega
theorem upd_set (x : BitVec 32) (l : List Int) (j r : Nat) (hj : j < l.length) (hr : r < 8) (h0 : 0 ≤ l[j]) :
    upd x (l.set j (xorb l[j] ((2 ^ r : Nat) : Int))) = upd x l ^^^ turns (8 * (l.length - j) - r) 1#32 := by
  have e1 : l = l.take j ++ l[j] :: l.drop (j + 1) := by
    rw [← List.drop_eq_getElem_cons hj, List.take_append_drop]
  have e2 : l.set j (xorb l[j] ((2 ^ r : Nat) : Int)) = l.take j ++ xorb l[j] ((2 ^ r : Nat) : Int) :: l.drop (j + 1) := by
    rw [List.set_eq_take_append_cons_drop, if_pos hj]
  rw [e2]
  conv => rhs; rw [e1]
  rw [upd_append, upd_append, upd_cons, upd_cons, byte_xorb h0 (Int.natCast_nonneg _), byte_pow r hr, ← BitVec.xor_assoc, turns_xor, upd_xor, ← turns_add]
  congr 1
  simp only [List.length_append, List.length_take, List.length_cons, List.length_drop]
  have := turns_down (c := 8 + 8 * (l.length - (j + 1))) (i := r) (by omega) (by omega)
  rw [← this]
  congr 1
  omega

/-- the bits of the mask below i and below c -/
def low (mask : BitVec 32) (c : Nat) : Nat → BitVec 32
  | 0 => 0#32
  | i + 1 => if mask.getLsbD i = true ∧ i < c then low mask c i ^^^ (1#32 <<< i) else low mask c i
theorem low_bit (mask : BitVec 32) (c i : Nat) (hi : i ≤ 32) (j : Nat) (hj : i ≤ j) : (low mask c i).getLsbD j = false := by
  induction i with
  | zero => simp [low]
  | succ i ih =>
    simp only [low]
    split
    · rw [BitVec.getLsbD_xor, ih (by omega) (by omega)]
      simp only [BitVec.getLsbD_shiftLeft, Bool.false_xor]
      have : (1#32).getLsbD (j - i) = false := by
        have h2 : j - i ≠ 0 := by omega
        simp [BitVec.getLsbD_one, h2]
      simp [this]
    · exact ih (by omega) (by omega)
theorem low_hit (mask : BitVec 32) (c i : Nat) (hi : i < 32) : low mask c i ^^^ (1#32 <<< i) ≠ 0#32 := by
  intro h
  have h1 := congrArg (fun z => z.getLsbD i) h
  simp only [BitVec.getLsbD_xor, low_bit mask c i (by omega) i (Nat.le_refl _), Bool.false_xor, BitVec.getLsbD_shiftLeft, BitVec.getLsbD_zero] at h1
  simp [hi] at h1
/-- the list in which the first i bits of the mask have been turned over -/
def flips (l : List Int) (at_ : Nat) (mask : BitVec 32) (c : Nat) : Nat → List Int
  | 0 => l
  | i + 1 => if mask.getLsbD i = true ∧ i < c then (flips l at_ mask c i).set ((at_ + i) / 8) (xorb ((flips l at_ mask c i).getD ((at_ + i) / 8) 0) ((2 ^ ((at_ + i) % 8) : Nat) : Int)) else flips l at_ mask c i
theorem flips_len (l : List Int) (at_ : Nat) (mask : BitVec 32) (c i : Nat) : (flips l at_ mask c i).length = l.length := by
  induction i with
  | zero => rfl
  | succ i ih => simp only [flips]; split <;> simp [ih]
theorem pow_in {r : Nat} (hr : r < 8) : (0 : Int) ≤ ((2 ^ r : Nat) : Int) ∧ ((2 ^ r : Nat) : Int) ≤ 255 := by
  have : 2 ^ r ≤ 2 ^ 7 := Nat.pow_le_pow_right (by omega) (by omega)
  exact ⟨Int.natCast_nonneg _, by omega⟩
theorem getD_in {l : List Int} (h : InB l) (j : Nat) : 0 ≤ l.getD j 0 ∧ l.getD j 0 ≤ 255 := by
  by_cases hj : j < l.length
  · rw [List.getD_eq_getElem?_getD, List.getElem?_eq_getElem hj]; exact h _ (List.getElem_mem hj)
  · rw [List.getD_eq_getElem?_getD, List.getElem?_eq_none (by omega)]; exact ⟨by simp, by simp⟩
theorem flips_in {l : List Int} (h : InB l) (at_ : Nat) (mask : BitVec 32) (c i : Nat) : InB (flips l at_ mask c i) := by
  induction i with
  | zero => exact h
  | succ i ih =>
    simp only [flips]
    split
    · intro b hb
      rcases List.mem_or_eq_of_mem_set hb with hb | rfl
      · exact ih b hb
      · exact xorb_in (getD_in ih _) (pow_in (Nat.mod_lt _ (by omega)))
    · exact ih
theorem upd_flips (x : BitVec 32) {l : List Int} (h : InB l) (at_ : Nat) (hat : at_ < 8 * l.length) (mask : BitVec 32) (i : Nat) (hi : i ≤ 32) :
    upd x (flips l at_ mask (8 * l.length - at_) i) = upd x l ^^^ turns (8 * l.length - at_) (low mask (8 * l.length - at_) i) := by
  induction i with
  | zero => simp [flips, low, turns_zero]
  | succ i ih =>
    simp only [flips, low]
    split
    · rename_i hc
      have hlen := flips_len l at_ mask (8 * l.length - at_) i
      have hin := flips_in h at_ mask (8 * l.length - at_) i
      have ihh := ih (by omega)
      generalize flips l at_ mask (8 * l.length - at_) i = q at *
      have hj : (at_ + i) / 8 < q.length := by omega
      have hg : q.getD ((at_ + i) / 8) 0 = q[(at_ + i) / 8] := by rw [List.getD_eq_getElem?_getD, List.getElem?_eq_getElem hj]; rfl
      rw [hg, upd_set x q _ _ hj (Nat.mod_lt _ (by omega)) (hin _ (List.getElem_mem hj)).1, ihh, BitVec.xor_assoc, turns_xor]
      congr 2
      rw [← turns_down (c := 8 * l.length - at_) (i := i) hc.2 (by omega)]
      congr 1
      omega
    · exact ih (by omega)
def turnedB (mask : BitVec 32) (c i : Nat) : Bool := decide (low mask c i ≠ 0#32)

/-! ### what fits leaves one and the same rest -/
theorem byte_shl (b k : Nat) (h : b * 2 ^ k < 4294967296) : turns k (BitVec.ofNat 32 (b * 2 ^ k)) = BitVec.ofNat 32 b := by
  induction k with
  | zero => simp [turns]
  | succ k ih =>
    have h2 : b * 2 ^ (k + 1) = 2 * (b * 2 ^ k) := by rw [Nat.pow_succ, ← Nat.mul_assoc, Nat.mul_comm _ 2]
    rw [h2] at h ⊢
    simp only [turns]
    have h3 : turn (BitVec.ofNat 32 (2 * (b * 2 ^ k))) = BitVec.ofNat 32 (b * 2 ^ k) := by
      apply BitVec.eq_of_toNat_eq
      have h4 := turn_step0 (BitVec.ofNat 32 (2 * (b * 2 ^ k))) (by rw [BitVec.toNat_ofNat]; omega)
      rw [BitVec.toNat_ofNat] at h4 ⊢
      omega
    rw [h3]
    exact ih (by omega)
theorem word_parts (s : BitVec 32) : s = BitVec.ofNat 32 (s.toNat % 256) ^^^ BitVec.ofNat 32 (s.toNat / 256 % 256 * 2 ^ 8) ^^^ BitVec.ofNat 32 (s.toNat / 65536 % 256 * 2 ^ 16) ^^^ BitVec.ofNat 32 (s.toNat / 16777216 * 2 ^ 24) := by
  apply BitVec.eq_of_getLsbD_eq
  intro i hi
  simp only [BitVec.getLsbD_xor, BitVec.getLsbD_ofNat, hi, decide_true, Bool.true_and]
  rw [← BitVec.testBit_toNat]
  have e1 : s.toNat / 256 % 256 * 2 ^ 8 = (s.toNat >>> 8 % 2 ^ 8) <<< 8 := by rw [Nat.shiftLeft_eq, Nat.shiftRight_eq_div_pow]
  have e2 : s.toNat / 65536 % 256 * 2 ^ 16 = (s.toNat >>> 16 % 2 ^ 8) <<< 16 := by rw [Nat.shiftLeft_eq, Nat.shiftRight_eq_div_pow]
  have e3 : s.toNat / 16777216 * 2 ^ 24 = (s.toNat >>> 24) <<< 24 := by rw [Nat.shiftLeft_eq, Nat.shiftRight_eq_div_pow]
  have e0 : s.toNat % 256 = s.toNat % 2 ^ 8 := rfl
  rw [e0, e1, e2, e3]
  simp only [Nat.testBit_mod_two_pow, Nat.testBit_shiftLeft, Nat.testBit_shiftRight]
  rcases Nat.lt_or_ge i 8 with h | h
  · simp [h, show ¬ (8 ≤ i) by omega, show ¬ (16 ≤ i) by omega, show ¬ (24 ≤ i) by omega]
  · rcases Nat.lt_or_ge i 16 with h' | h'
    · simp [show ¬ (i < 8) by omega, h, show i - 8 < 8 by omega, show ¬ (16 ≤ i) by omega, show ¬ (24 ≤ i) by omega, show 8 + (i - 8) = i by omega]
    · rcases Nat.lt_or_ge i 24 with h'' | h''
      · simp [show ¬ (i < 8) by omega, h, h', show ¬ (i - 8 < 8) by omega, show i - 16 < 8 by omega, show ¬ (24 ≤ i) by omega, show 16 + (i - 16) = i by omega]
      · simp [show ¬ (i < 8) by omega, h, h', h'', show ¬ (i - 8 < 8) by omega, show ¬ (i - 16 < 8) by omega, show 24 + (i - 24) = i by omega]
theorem byte_ofNat (n : Nat) : byte (n : Int) = BitVec.ofNat 32 n := by unfold byte; exact BitVec.ofInt_natCast ..
theorem upd_four (x s : BitVec 32) : upd x (four s) = turns 32 (x ^^^ s) := by
  have hs := lt32 s
  unfold four
  simp only [upd_cons, upd_nil, byte_ofNat]
  conv => rhs; rw [word_parts s]
  generalize hb0 : s.toNat % 256 = b0
  generalize hb1 : s.toNat / 256 % 256 = b1
  generalize hb2 : s.toNat / 65536 % 256 = b2
  generalize hb3 : s.toNat / 16777216 = b3
  have t1 := byte_shl b1 8 (by omega)
  have t2 := byte_shl b2 16 (by omega)
  have t3 := byte_shl b3 24 (by omega)
  have s1 : turns 32 (BitVec.ofNat 32 (b1 * 2 ^ 8)) = turns 24 (BitVec.ofNat 32 b1) := by rw [← t1, ← turns_add]
  have s2 : turns 32 (BitVec.ofNat 32 (b2 * 2 ^ 16)) = turns 16 (BitVec.ofNat 32 b2) := by rw [← t2, ← turns_add]
  have s3 : turns 32 (BitVec.ofNat 32 (b3 * 2 ^ 24)) = turns 8 (BitVec.ofNat 32 b3) := by rw [← t3, ← turns_add]
  simp only [turns_xor, s1, s2, s3, ← turns_add, BitVec.xor_assoc]
theorem fits_rest {l : List Int} (h : fits l = true) : upd (~~~ 0#32) l = turns 32 (BitVec.allOnes 32) := by
  unfold fits at h
  simp only [Bool.and_eq_true, decide_eq_true_eq] at h
  have e : l = l.take (l.length - 4) ++ four (sum (l.take (l.length - 4))) := by rw [← h.2, List.take_append_drop]
  rw [e, upd_append, upd_four]
  unfold sum carry
  congr 1
  generalize upd (~~~ 0#32) (l.take (l.length - 4)) = u
  apply BitVec.eq_of_getLsbD_eq
  intro i hi
  simp only [BitVec.getLsbD_xor, BitVec.getLsbD_not, hi, decide_true, Bool.true_and, BitVec.getLsbD_allOnes]
  cases u.getLsbD i <;> rfl
theorem bursts {l : List Int} (hb : InB l) (at_ : Nat) (hat : at_ < 8 * l.length) (mask : BitVec 32) (ht : turnedB mask (8 * l.length - at_) 32 = true) (hf : fits l = true) :
    fits (flips l at_ mask (8 * l.length - at_) 32) = false := by
  cases h : fits (flips l at_ mask (8 * l.length - at_) 32) with
  | false => rfl
  | true =>
    exfalso
    have e := upd_flips (~~~ 0#32) hb at_ hat mask 32 (Nat.le_refl _)
    rw [fits_rest h, fits_rest hf] at e
    have e2 : turns (8 * l.length - at_) (low mask (8 * l.length - at_) 32) = 0#32 := by
      have := congrArg (fun z => turns 32 (BitVec.allOnes 32) ^^^ z) e
      simp only [BitVec.xor_self, ← BitVec.xor_assoc, BitVec.zero_xor] at this
      exact this.symm
    have e3 := turns_eq_zero e2
    unfold turnedB at ht
    simp [e3] at ht

/-! ### pieces -/
theorem carry_append (c : BitVec 32) (p q : List Int) : carry (carry c p) q = carry c (p ++ q) := by
  unfold carry
  rw [upd_append, BitVec.not_not]
theorem not_split (u : BitVec 32) : u = (~~~ 0#32) ^^^ ~~~ u := by
  apply BitVec.eq_of_getLsbD_eq
  intro i hi
  simp only [BitVec.getLsbD_xor, BitVec.getLsbD_not, hi, decide_true, Bool.true_and, BitVec.getLsbD_zero, Bool.not_false, Bool.true_xor, Bool.not_not]
theorem not_xor (u v : BitVec 32) : ~~~ (u ^^^ v) = v ^^^ ~~~ u := by
  apply BitVec.eq_of_getLsbD_eq
  intro i hi
  simp only [BitVec.getLsbD_xor, BitVec.getLsbD_not, hi, decide_true, Bool.true_and]
  cases u.getLsbD i <;> cases v.getLsbD i <;> rfl
theorem sum_append (p q : List Int) : sum (p ++ q) = turns (8 * q.length) (sum p) ^^^ sum q := by
  unfold sum carry
  rw [upd_append]
  conv => lhs; rw [not_split (upd (~~~ 0#32) p), upd_xor, not_xor]

/-! ### steps of words, told by what comes of each single bit -/
theorem low_get (mask : BitVec 32) (c i : Nat) (hi : i ≤ 32) (j : Nat) : (low mask c i).getLsbD j = (decide (j < i) && mask.getLsbD j && decide (j < c)) := by
  induction i with
  | zero => simp [low]
  | succ i ih =>
    have ih' := ih (by omega)
    simp only [low]
    have one : ((1#32 : BitVec 32) <<< i).getLsbD j = decide (j = i) := by
      by_cases h : j = i
      · subst h; simp; omega
      · simp only [BitVec.getLsbD_shiftLeft, BitVec.getLsbD_one]
        by_cases h2 : j < i
        · simp [h2, h]
        · have : j - i ≠ 0 := by omega
          simp [this, h]
    split
    · rename_i hc
      rw [BitVec.getLsbD_xor, ih', one]
      by_cases h : j = i
      · subst h; simp [hc.1, hc.2]
      · by_cases h2 : j < i
        · simp [h, h2, show j < i + 1 by omega]
        · simp [h, h2, show ¬ (j < i + 1) by omega]
    · rename_i hc
      rw [ih']
      by_cases h : j = i
      · subst h
        by_cases hm : mask.getLsbD j = true
        · have : ¬ (j < c) := fun h => hc ⟨hm, h⟩
          simp [this]
        · simp [hm]
      · by_cases h2 : j < i
        · simp [h2, show j < i + 1 by omega]
        · simp [h2, show ¬ (j < i + 1) by omega]
theorem low_all (mask : BitVec 32) : low mask 32 32 = mask := by
  apply BitVec.eq_of_getLsbD_eq
  intro i hi
  rw [low_get mask 32 32 (Nat.le_refl _)]
  simp [hi]
theorem turns_low (k : Nat) (c : BitVec 32) (i : Nat) (hi : i < 32) : turns k (low c 32 (i + 1)) = if c.getLsbD i = true then turns k (low c 32 i) ^^^ turns k (1#32 <<< i) else turns k (low c 32 i) := by
  simp only [low]
  by_cases h : c.getLsbD i = true
  · rw [if_pos ⟨h, hi⟩, if_pos h, turns_xor]
  · rw [if_neg (fun hh => h hh.1), if_neg h]
/-- the cells of a step -/
def stepL (k n : Nat) : List (BitVec 32) := (List.range n).map fun i => turns k (1#32 <<< i)
theorem stepL_get (k n : Nat) {i : Nat} (hi : i < n) : (stepL k n)[i]? = some (turns k (1#32 <<< i)) := by simp [stepL, hi]
theorem stepL_len (k n : Nat) : (stepL k n).length = n := by simp [stepL]
def stepA (k : Nat) : Array Value := ((stepL k 32).map fun x => Value.int .u32 (x.toNat : Int)).toArray
theorem stepA_get (k : Nat) {i : Nat} (hi : i < 32) : (stepA k)[i]? = some (.int .u32 ((turns k (1#32 <<< i)).toNat : Int)) := by
  simp [stepA, stepL_get k 32 hi]
theorem stepA_size (k : Nat) : (stepA k).size = 32 := by simp [stepA, stepL_len]
end Go.Proofs.Ytkhnpmeaklcmaaa.Crc
