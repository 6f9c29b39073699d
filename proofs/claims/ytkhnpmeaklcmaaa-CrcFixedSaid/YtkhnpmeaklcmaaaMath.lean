/- Plain mathematics of the check sum: words of 32 bits, the turn, its linearity, bytes. No program in sight. -/
import Derived.Laws.BitsAllLaws
set_option linter.unusedSimpArgs false
namespace Go.Proofs.Ytkhnpmeaklcmaaa.Crc

def poly : BitVec 32 := 0xedb88320#32
def turn (x : BitVec 32) : BitVec 32 := if x.getLsbD 0 then (x >>> 1) ^^^ poly else x >>> 1
def turns : Nat → BitVec 32 → BitVec 32
  | 0, x => x
  | n + 1, x => turns n (turn x)

theorem turns_add (n m : Nat) (x : BitVec 32) : turns (n + m) x = turns m (turns n x) := by
  induction n generalizing x with
  | zero => simp [turns]
  | succ n ih => rw [Nat.add_right_comm]; exact ih (turn x)
theorem turns_succ' (n : Nat) (x : BitVec 32) : turns (n + 1) x = turn (turns n x) := turns_add n 1 x

theorem turn_xor (x y : BitVec 32) : turn (x ^^^ y) = turn x ^^^ turn y := by
  unfold turn
  have h : (x ^^^ y) >>> 1 = (x >>> 1) ^^^ (y >>> 1) := BitVec.ushiftRight_xor_distrib x y 1
  rw [BitVec.getLsbD_xor, h]
  cases x.getLsbD 0 <;> cases y.getLsbD 0 <;> simp
  · rw [BitVec.xor_assoc]
  · rw [BitVec.xor_assoc, BitVec.xor_comm (y >>> 1), BitVec.xor_assoc]
  · generalize x >>> 1 = a; generalize y >>> 1 = b
    rw [BitVec.xor_comm b, ← BitVec.xor_assoc, BitVec.xor_assoc a, BitVec.xor_self, BitVec.xor_zero]
theorem turns_xor (n : Nat) (x y : BitVec 32) : turns n (x ^^^ y) = turns n x ^^^ turns n y := by
  induction n generalizing x y with
  | zero => rfl
  | succ n ih => simp only [turns]; rw [turn_xor, ih]
theorem turn_zero : turn 0#32 = 0#32 := by decide
theorem turns_zero (n : Nat) : turns n 0#32 = 0#32 := by
  induction n with
  | zero => rfl
  | succ n ih => rw [turns_succ', ih]; exact turn_zero
/-- the polynomial's top bit is 1, so a turn forgets nothing -/
theorem turn_top (x : BitVec 32) : (turn x).getLsbD 31 = x.getLsbD 0 := by
  unfold turn
  cases h : x.getLsbD 0
  · simp
  · simp; decide
theorem turn_eq_zero {x : BitVec 32} (h : turn x = 0#32) : x = 0#32 := by
  have h0 : x.getLsbD 0 = false := by rw [← turn_top, h]; rfl
  have h1 : x >>> 1 = 0#32 := by unfold turn at h; rw [h0] at h; simpa using h
  apply BitVec.eq_of_getLsbD_eq
  intro i hi
  match i with
  | 0 => rw [h0]; rfl
  | i + 1 =>
    have := congrArg (fun z => z.getLsbD i) h1
    simp [BitVec.getLsbD_ushiftRight] at this
    rw [Nat.add_comm] at this
    simpa using this
theorem turns_eq_zero {n : Nat} {x : BitVec 32} (h : turns n x = 0#32) : x = 0#32 := by
  induction n generalizing x with
  | zero => exact h
  | succ n ih => exact turn_eq_zero (ih h)
theorem xor_eq_zero {x y : BitVec 32} (h : x ^^^ y = 0#32) : x = y := by
  have h2 : (x ^^^ y) ^^^ y = 0#32 ^^^ y := by rw [h]
  rwa [BitVec.xor_assoc, BitVec.xor_self, BitVec.xor_zero, BitVec.zero_xor] at h2
theorem turns_inj {n : Nat} {x y : BitVec 32} (h : turns n x = turns n y) : x = y := by
  apply xor_eq_zero
  apply turns_eq_zero (n := n)
  rw [turns_xor, h, BitVec.xor_self]

/-- a byte as a word -/
def byte (b : Int) : BitVec 32 := BitVec.ofInt 32 b
def upd (x : BitVec 32) (l : List Int) : BitVec 32 := l.foldl (fun x b => turns 8 (x ^^^ byte b)) x
theorem upd_append (x : BitVec 32) (l m : List Int) : upd x (l ++ m) = upd (upd x l) m := by simp [upd]
theorem upd_nil (x : BitVec 32) : upd x [] = x := rfl
theorem upd_cons (x : BitVec 32) (b : Int) (l : List Int) : upd x (b :: l) = upd (turns 8 (x ^^^ byte b)) l := rfl
def carry (c : BitVec 32) (l : List Int) : BitVec 32 := ~~~ (upd (~~~ c) l)
def sum (l : List Int) : BitVec 32 := carry 0#32 l
/-- the four bytes of a word, the lowest first -/
def four (s : BitVec 32) : List Int := [(s.toNat % 256 : Nat), (s.toNat / 256 % 256 : Nat), (s.toNat / 65536 % 256 : Nat), (s.toNat / 16777216 : Nat)]
def fits (l : List Int) : Bool := decide (4 ≤ l.length) && decide (l.drop (l.length - 4) = four (sum (l.take (l.length - 4))))
def sealed (l : List Int) : List Int := l ++ four (sum l)

/-! ### how Go's arithmetic spells it -/
theorem lt32 (x : BitVec 32) : x.toNat < 4294967296 := x.isLt
theorem xor32 (x y : BitVec 32) : bits .xor .u32 (x.toNat : Int) (y.toNat : Int) = ((x ^^^ y).toNat : Int) := by
  rw [u32_xor_nat _ _ x.isLt y.isLt, BitVec.toNat_xor]
theorem and32 (x y : BitVec 32) : bits .and .u32 (x.toNat : Int) (y.toNat : Int) = ((x &&& y).toNat : Int) := by
  rw [u32_and_nat _ _ x.isLt y.isLt, BitVec.toNat_and]
theorem shr32 (x : BitVec 32) (k : Nat) : ((x.toNat : Int) / ((2 ^ k : Nat) : Int)) = ((x >>> k).toNat : Int) := by
  rw [BitVec.toNat_ushiftRight, Nat.shiftRight_eq_div_pow]; rfl
theorem shr1 (x : BitVec 32) : (x.toNat : Int) / (2 : Int) = ((x >>> 1).toNat : Int) := by
  rw [BitVec.toNat_ushiftRight, Nat.shiftRight_eq_div_pow]; omega
theorem bit0 (x : BitVec 32) : x.toNat % 2 = if x.getLsbD 0 then 1 else 0 := by
  rw [← BitVec.testBit_toNat, Nat.testBit_zero]
  rcases Nat.mod_two_eq_zero_or_one x.toNat with h | h <;> simp [h]
theorem half_step (x : BitVec 32) : bits .xor .u32 ((x.toNat : Int) / 2) (bits .and .u32 3988292384 (-bits .and .u32 (x.toNat : Int) 1 % 4294967296)) = ((turn x).toNat : Int) := by
  have h1 : bits .and .u32 (x.toNat : Int) 1 = ((x.toNat % 2 : Nat) : Int) := by
    have h := and32 x 1#32
    have e : ((1#32 : BitVec 32).toNat : Int) = 1 := by decide
    rw [e] at h
    rw [h, BitVec.toNat_and]
    show ((x.toNat &&& 1 : Nat) : Int) = _
    rw [nat_mask1]
  have h2 := shr1 x
  rw [h1, h2, bit0]
  unfold turn
  cases x.getLsbD 0
  · have e : bits .and .u32 3988292384 (-(((if false = true then 1 else 0 : Nat)) : Int) % 4294967296) = ((0#32 : BitVec 32).toNat : Int) := by decide
    rw [e, xor32]; simp
  · have e : bits .and .u32 3988292384 (-(((if true = true then 1 else 0 : Nat)) : Int) % 4294967296) = ((poly : BitVec 32).toNat : Int) := by decide
    rw [e, xor32]; simp
theorem turn_step1 (x : BitVec 32) (h : x.toNat % 2 = 1) : bits .xor .u32 ((x.toNat : Int) / 2) 3988292384 = ((turn x).toNat : Int) := by
  have h2 := shr1 x
  have e : (3988292384 : Int) = ((poly : BitVec 32).toNat : Int) := by decide
  rw [h2, e, xor32]
  unfold turn
  rw [if_pos]
  have := bit0 x
  cases hb : x.getLsbD 0 <;> simp_all
theorem turn_step0 (x : BitVec 32) (h : x.toNat % 2 = 0) : ((x.toNat : Int) / 2) = ((turn x).toNat : Int) := by
  have h2 := shr1 x
  rw [h2]
  unfold turn
  rw [if_neg]
  have := bit0 x
  cases hb : x.getLsbD 0 <;> simp_all
theorem not32 (x : BitVec 32) : bits .xor .u32 (IntKind.u32.max) (x.toNat : Int) = ((~~~ x).toNat : Int) := by
  have e : IntKind.u32.max = ((BitVec.allOnes 32).toNat : Int) := by decide
  rw [e, xor32]
  congr 2
theorem byte_nat (b : Int) (h0 : 0 ≤ b) (h1 : b ≤ 255) : ((byte b).toNat : Int) = b := by
  unfold byte
  obtain ⟨n, rfl⟩ := Int.eq_ofNat_of_zero_le h0
  rw [ofInt_u32 n (by omega)]
end Go.Proofs.Ytkhnpmeaklcmaaa.Crc
