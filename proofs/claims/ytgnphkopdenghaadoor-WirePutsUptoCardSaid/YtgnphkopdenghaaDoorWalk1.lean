/- The number that up to eight bytes are; taking it; the error of bytes that end too early. -/
import Derived.Test.YtgnphkopdenghaaDoorBytes
import Derived.Handy
set_option linter.unusedSimpArgs false
set_option linter.unusedVariables false
namespace Go.Proofs.YtgnphkopdenghaaDoor
open Go.RowKit

/-- what bytes are, the lowest first -/
def le : List Int → Int
  | [] => 0
  | b :: l => b + 256 * le l
theorem le_nonneg : ∀ l : List Int, InB l → 0 ≤ le l
  | [], _ => by simp [le]
  | b :: l, h => by
    have h1 := h b (List.mem_cons_self ..)
    have h2 := le_nonneg l (fun x hx => h x (List.mem_cons_of_mem _ hx))
    unfold le; omega
theorem le_lt : ∀ l : List Int, InB l → le l < 256 ^ l.length
  | [], _ => by simp [le]
  | b :: l, h => by
    have h1 := h b (List.mem_cons_self ..)
    have h2 := le_lt l (fun x hx => h x (List.mem_cons_of_mem _ hx))
    rw [List.length_cons, Int.pow_succ]
    unfold le; omega
theorem or_at {x y M : Int} (k : Nat) (hM : ((2 ^ k : Nat) : Int) = M) (hx : 0 ≤ x) (hd : x % M = 0) (hy : 0 ≤ y) (hy2 : y < M) (hl : x + y < 18446744073709551616) : bits .or .u64 x y = x + y := by
  rw [u64_or x y hx (by omega) hy (by omega)]
  obtain ⟨a, rfl⟩ := Int.eq_ofNat_of_zero_le hx
  obtain ⟨b, rfl⟩ := Int.eq_ofNat_of_zero_le hy
  rw [Int.toNat_natCast, Int.toNat_natCast]
  rw [← hM] at hd hy2
  have hd' : a % 2 ^ k = 0 := by exact_mod_cast hd
  have hb : b < 2 ^ k := by exact_mod_cast hy2
  have e : 2 ^ k * (a / 2 ^ k) = a := Nat.mul_div_cancel' (Nat.dvd_of_mod_eq_zero hd')
  have h := Nat.two_pow_add_eq_or_of_lt hb (a / 2 ^ k)
  rw [e] at h
  rw [← h]
  rfl
theorem or_zero {x : Int} (hx : 0 ≤ x) (hl : x < 18446744073709551616) : bits .or .u64 0 x = x := by
  rw [u64_or 0 x (by omega) (by omega) hx hl]
  have : (0 : Int).toNat ||| x.toNat = x.toNat := by simp
  rw [this]; omega
set_option maxHeartbeats 1000000 in
theorem number_any (A : Option Addr) (n cap : Nat) (l : List Int) (w : World) (hr : RdB w A n l) (hb : InB l) (hn : n ≤ 8) :
    Calls Tryd.prog 22 #[.slice A n cap] w fun e w' => e = .returned (.int .u64 (le l)) ∧ w' = w := by
  have hl := hr.1
  match l, hl with
  | [], hl =>
    obtain rfl : n = 0 := by simpa using hl.symm
    go_enter Tryd.func22, Tryd.ntmps22
    go_wp2
    go_ret
    exact ⟨rfl, rfl⟩
  | [b0], hl =>
    obtain rfl : n = 1 := by simpa using hl.symm
    obtain ⟨ad, rfl, c⟩ := hr.at1 (f := Value.int .u8) (j := 0) (by omega)
    have c0 : w.cell? ad = some (.int .u8 b0) := c
    clear c
    have h0 := hb b0 (by simp)
    clear hr hb hl
    go_enter Tryd.func22, Tryd.ntmps22
    go_wp2
    go_ret
    refine ⟨ret_int ?_, rfl⟩
    have e0 : bits .or .u64 0 (b0) = b0 := or_zero (by omega) (by omega)
    rw [e0]
    clear e0 c0
    simp only [le]
    omega
  | [b0, b1], hl =>
    obtain rfl : n = 2 := by simpa using hl.symm
    obtain ⟨ad, rfl, c⟩ := hr.at1 (f := Value.int .u8) (j := 0) (by omega)
    have c0 : w.cell? ad = some (.int .u8 b0) := c
    clear c
    have c1 : w.cell? ⟨ad.block, ad.off + 1, none⟩ = some (.int .u8 b1) := by
      obtain ⟨ad', e', c⟩ := hr.at1 (f := Value.int .u8) (j := 1) (by omega)
      injection e' with e'
      subst e'
      exact c
    have h0 := hb b0 (by simp)
    have h1 := hb b1 (by simp)
    clear hr hb hl
    go_enter Tryd.func22, Tryd.ntmps22
    go_wp2
    go_ret
    refine ⟨ret_int ?_, rfl⟩
    have e1 : bits .or .u64 0 (b1 * 256) = b1 * 256 := or_zero (by omega) (by omega)
    rw [e1]
    have e0 : bits .or .u64 (b1 * 256) (b0) = b1 * 256 + b0 := or_at 8 (by rfl) (by omega) (by omega) (by omega) (by omega) (by omega)
    rw [e0]
    clear e0 e1 c0 c1
    simp only [le]
    omega
  | [b0, b1, b2], hl =>
    obtain rfl : n = 3 := by simpa using hl.symm
    obtain ⟨ad, rfl, c⟩ := hr.at1 (f := Value.int .u8) (j := 0) (by omega)
    have c0 : w.cell? ad = some (.int .u8 b0) := c
    clear c
    have c1 : w.cell? ⟨ad.block, ad.off + 1, none⟩ = some (.int .u8 b1) := by
      obtain ⟨ad', e', c⟩ := hr.at1 (f := Value.int .u8) (j := 1) (by omega)
      injection e' with e'
      subst e'
      exact c
    have c2 : w.cell? ⟨ad.block, ad.off + 2, none⟩ = some (.int .u8 b2) := by
      obtain ⟨ad', e', c⟩ := hr.at1 (f := Value.int .u8) (j := 2) (by omega)
      injection e' with e'
      subst e'
      exact c
    have h0 := hb b0 (by simp)
    have h1 := hb b1 (by simp)
    have h2 := hb b2 (by simp)
    clear hr hb hl
    go_enter Tryd.func22, Tryd.ntmps22
    go_wp2
    go_ret
    refine ⟨ret_int ?_, rfl⟩
    have e2 : bits .or .u64 0 (b2 * 65536) = b2 * 65536 := or_zero (by omega) (by omega)
    rw [e2]
    have e1 : bits .or .u64 (b2 * 65536) (b1 * 256) = b2 * 65536 + b1 * 256 := or_at 16 (by rfl) (by omega) (by omega) (by omega) (by omega) (by omega)
    rw [e1]
    have e0 : bits .or .u64 (b2 * 65536 + b1 * 256) (b0) = b2 * 65536 + b1 * 256 + b0 := or_at 8 (by rfl) (by omega) (by omega) (by omega) (by omega) (by omega)
    rw [e0]
    clear e0 e1 e2 c0 c1 c2
    simp only [le]
    omega
  | [b0, b1, b2, b3], hl =>
    obtain rfl : n = 4 := by simpa using hl.symm
    obtain ⟨ad, rfl, c⟩ := hr.at1 (f := Value.int .u8) (j := 0) (by omega)
    have c0 : w.cell? ad = some (.int .u8 b0) := c
    clear c
    have c1 : w.cell? ⟨ad.block, ad.off + 1, none⟩ = some (.int .u8 b1) := by
      obtain ⟨ad', e', c⟩ := hr.at1 (f := Value.int .u8) (j := 1) (by omega)
      injection e' with e'
      subst e'
      exact c
    have c2 : w.cell? ⟨ad.block, ad.off + 2, none⟩ = some (.int .u8 b2) := by
      obtain ⟨ad', e', c⟩ := hr.at1 (f := Value.int .u8) (j := 2) (by omega)
      injection e' with e'
      subst e'
      exact c
    have c3 : w.cell? ⟨ad.block, ad.off + 3, none⟩ = some (.int .u8 b3) := by
      obtain ⟨ad', e', c⟩ := hr.at1 (f := Value.int .u8) (j := 3) (by omega)
      injection e' with e'
      subst e'
      exact c
    have h0 := hb b0 (by simp)
    have h1 := hb b1 (by simp)
    have h2 := hb b2 (by simp)
    have h3 := hb b3 (by simp)
    clear hr hb hl
    go_enter Tryd.func22, Tryd.ntmps22
    go_wp2
    go_ret
    refine ⟨ret_int ?_, rfl⟩
    have e3 : bits .or .u64 0 (b3 * 16777216) = b3 * 16777216 := or_zero (by omega) (by omega)
    rw [e3]
    have e2 : bits .or .u64 (b3 * 16777216) (b2 * 65536) = b3 * 16777216 + b2 * 65536 := or_at 24 (by rfl) (by omega) (by omega) (by omega) (by omega) (by omega)
    rw [e2]
    have e1 : bits .or .u64 (b3 * 16777216 + b2 * 65536) (b1 * 256) = b3 * 16777216 + b2 * 65536 + b1 * 256 := or_at 16 (by rfl) (by omega) (by omega) (by omega) (by omega) (by omega)
    rw [e1]
    have e0 : bits .or .u64 (b3 * 16777216 + b2 * 65536 + b1 * 256) (b0) = b3 * 16777216 + b2 * 65536 + b1 * 256 + b0 := or_at 8 (by rfl) (by omega) (by omega) (by omega) (by omega) (by omega)
    rw [e0]
    clear e0 e1 e2 e3 c0 c1 c2 c3
    simp only [le]
    omega
  | [b0, b1, b2, b3, b4], hl =>
    obtain rfl : n = 5 := by simpa using hl.symm
    obtain ⟨ad, rfl, c⟩ := hr.at1 (f := Value.int .u8) (j := 0) (by omega)
    have c0 : w.cell? ad = some (.int .u8 b0) := c
    clear c
    have c1 : w.cell? ⟨ad.block, ad.off + 1, none⟩ = some (.int .u8 b1) := by
      obtain ⟨ad', e', c⟩ := hr.at1 (f := Value.int .u8) (j := 1) (by omega)
      injection e' with e'
      subst e'
      exact c
    have c2 : w.cell? ⟨ad.block, ad.off + 2, none⟩ = some (.int .u8 b2) := by
      obtain ⟨ad', e', c⟩ := hr.at1 (f := Value.int .u8) (j := 2) (by omega)
      injection e' with e'
      subst e'
      exact c
    have c3 : w.cell? ⟨ad.block, ad.off + 3, none⟩ = some (.int .u8 b3) := by
      obtain ⟨ad', e', c⟩ := hr.at1 (f := Value.int .u8) (j := 3) (by omega)
      injection e' with e'
      subst e'
      exact c
    have c4 : w.cell? ⟨ad.block, ad.off + 4, none⟩ = some (.int .u8 b4) := by
      obtain ⟨ad', e', c⟩ := hr.at1 (f := Value.int .u8) (j := 4) (by omega)
      injection e' with e'
      subst e'
      exact c
    have h0 := hb b0 (by simp)
    have h1 := hb b1 (by simp)
    have h2 := hb b2 (by simp)
    have h3 := hb b3 (by simp)
    have h4 := hb b4 (by simp)
    clear hr hb hl
    go_enter Tryd.func22, Tryd.ntmps22
    go_wp2
    go_ret
    refine ⟨ret_int ?_, rfl⟩
    have e4 : bits .or .u64 0 (b4 * 4294967296) = b4 * 4294967296 := or_zero (by omega) (by omega)
    rw [e4]
    have e3 : bits .or .u64 (b4 * 4294967296) (b3 * 16777216) = b4 * 4294967296 + b3 * 16777216 := or_at 32 (by rfl) (by omega) (by omega) (by omega) (by omega) (by omega)
    rw [e3]
    have e2 : bits .or .u64 (b4 * 4294967296 + b3 * 16777216) (b2 * 65536) = b4 * 4294967296 + b3 * 16777216 + b2 * 65536 := or_at 24 (by rfl) (by omega) (by omega) (by omega) (by omega) (by omega)
    rw [e2]
    have e1 : bits .or .u64 (b4 * 4294967296 + b3 * 16777216 + b2 * 65536) (b1 * 256) = b4 * 4294967296 + b3 * 16777216 + b2 * 65536 + b1 * 256 := or_at 16 (by rfl) (by omega) (by omega) (by omega) (by omega) (by omega)
    rw [e1]
    have e0 : bits .or .u64 (b4 * 4294967296 + b3 * 16777216 + b2 * 65536 + b1 * 256) (b0) = b4 * 4294967296 + b3 * 16777216 + b2 * 65536 + b1 * 256 + b0 := or_at 8 (by rfl) (by omega) (by omega) (by omega) (by omega) (by omega)
    rw [e0]
    clear e0 e1 e2 e3 e4 c0 c1 c2 c3 c4
    simp only [le]
    omega
  | [b0, b1, b2, b3, b4, b5], hl =>
    obtain rfl : n = 6 := by simpa using hl.symm
    obtain ⟨ad, rfl, c⟩ := hr.at1 (f := Value.int .u8) (j := 0) (by omega)
    have c0 : w.cell? ad = some (.int .u8 b0) := c
    clear c
    have c1 : w.cell? ⟨ad.block, ad.off + 1, none⟩ = some (.int .u8 b1) := by
      obtain ⟨ad', e', c⟩ := hr.at1 (f := Value.int .u8) (j := 1) (by omega)
      injection e' with e'
      subst e'
      exact c
    have c2 : w.cell? ⟨ad.block, ad.off + 2, none⟩ = some (.int .u8 b2) := by
      obtain ⟨ad', e', c⟩ := hr.at1 (f := Value.int .u8) (j := 2) (by omega)
      injection e' with e'
      subst e'
      exact c
    have c3 : w.cell? ⟨ad.block, ad.off + 3, none⟩ = some (.int .u8 b3) := by
      obtain ⟨ad', e', c⟩ := hr.at1 (f := Value.int .u8) (j := 3) (by omega)
      injection e' with e'
      subst e'
      exact c
    have c4 : w.cell? ⟨ad.block, ad.off + 4, none⟩ = some (.int .u8 b4) := by
      obtain ⟨ad', e', c⟩ := hr.at1 (f := Value.int .u8) (j := 4) (by omega)
      injection e' with e'
      subst e'
      exact c
    have c5 : w.cell? ⟨ad.block, ad.off + 5, none⟩ = some (.int .u8 b5) := by
      obtain ⟨ad', e', c⟩ := hr.at1 (f := Value.int .u8) (j := 5) (by omega)
      injection e' with e'
      subst e'
      exact c
    have h0 := hb b0 (by simp)
    have h1 := hb b1 (by simp)
    have h2 := hb b2 (by simp)
    have h3 := hb b3 (by simp)
    have h4 := hb b4 (by simp)
    have h5 := hb b5 (by simp)
    clear hr hb hl
    go_enter Tryd.func22, Tryd.ntmps22
    go_wp2
    go_ret
    refine ⟨ret_int ?_, rfl⟩
    have e5 : bits .or .u64 0 (b5 * 1099511627776) = b5 * 1099511627776 := or_zero (by omega) (by omega)
    rw [e5]
    have e4 : bits .or .u64 (b5 * 1099511627776) (b4 * 4294967296) = b5 * 1099511627776 + b4 * 4294967296 := or_at 40 (by rfl) (by omega) (by omega) (by omega) (by omega) (by omega)
    rw [e4]
    have e3 : bits .or .u64 (b5 * 1099511627776 + b4 * 4294967296) (b3 * 16777216) = b5 * 1099511627776 + b4 * 4294967296 + b3 * 16777216 := or_at 32 (by rfl) (by omega) (by omega) (by omega) (by omega) (by omega)
    rw [e3]
    have e2 : bits .or .u64 (b5 * 1099511627776 + b4 * 4294967296 + b3 * 16777216) (b2 * 65536) = b5 * 1099511627776 + b4 * 4294967296 + b3 * 16777216 + b2 * 65536 := or_at 24 (by rfl) (by omega) (by omega) (by omega) (by omega) (by omega)
    rw [e2]
    have e1 : bits .or .u64 (b5 * 1099511627776 + b4 * 4294967296 + b3 * 16777216 + b2 * 65536) (b1 * 256) = b5 * 1099511627776 + b4 * 4294967296 + b3 * 16777216 + b2 * 65536 + b1 * 256 := or_at 16 (by rfl) (by omega) (by omega) (by omega) (by omega) (by omega)
    rw [e1]
    have e0 : bits .or .u64 (b5 * 1099511627776 + b4 * 4294967296 + b3 * 16777216 + b2 * 65536 + b1 * 256) (b0) = b5 * 1099511627776 + b4 * 4294967296 + b3 * 16777216 + b2 * 65536 + b1 * 256 + b0 := or_at 8 (by rfl) (by omega) (by omega) (by omega) (by omega) (by omega)
    rw [e0]
    clear e0 e1 e2 e3 e4 e5 c0 c1 c2 c3 c4 c5
    simp only [le]
    omega
  | [b0, b1, b2, b3, b4, b5, b6], hl =>
    obtain rfl : n = 7 := by simpa using hl.symm
    obtain ⟨ad, rfl, c⟩ := hr.at1 (f := Value.int .u8) (j := 0) (by omega)
    have c0 : w.cell? ad = some (.int .u8 b0) := c
    clear c
    have c1 : w.cell? ⟨ad.block, ad.off + 1, none⟩ = some (.int .u8 b1) := by
      obtain ⟨ad', e', c⟩ := hr.at1 (f := Value.int .u8) (j := 1) (by omega)
      injection e' with e'
      subst e'
      exact c
    have c2 : w.cell? ⟨ad.block, ad.off + 2, none⟩ = some (.int .u8 b2) := by
      obtain ⟨ad', e', c⟩ := hr.at1 (f := Value.int .u8) (j := 2) (by omega)
      injection e' with e'
      subst e'
      exact c
    have c3 : w.cell? ⟨ad.block, ad.off + 3, none⟩ = some (.int .u8 b3) := by
      obtain ⟨ad', e', c⟩ := hr.at1 (f := Value.int .u8) (j := 3) (by omega)
      injection e' with e'
      subst e'
      exact c
    have c4 : w.cell? ⟨ad.block, ad.off + 4, none⟩ = some (.int .u8 b4) := by
      obtain ⟨ad', e', c⟩ := hr.at1 (f := Value.int .u8) (j := 4) (by omega)
      injection e' with e'
      subst e'
      exact c
    have c5 : w.cell? ⟨ad.block, ad.off + 5, none⟩ = some (.int .u8 b5) := by
      obtain ⟨ad', e', c⟩ := hr.at1 (f := Value.int .u8) (j := 5) (by omega)
      injection e' with e'
      subst e'
      exact c
    have c6 : w.cell? ⟨ad.block, ad.off + 6, none⟩ = some (.int .u8 b6) := by
      obtain ⟨ad', e', c⟩ := hr.at1 (f := Value.int .u8) (j := 6) (by omega)
      injection e' with e'
      subst e'
      exact c
    have h0 := hb b0 (by simp)
    have h1 := hb b1 (by simp)
    have h2 := hb b2 (by simp)
    have h3 := hb b3 (by simp)
    have h4 := hb b4 (by simp)
    have h5 := hb b5 (by simp)
    have h6 := hb b6 (by simp)
    clear hr hb hl
    go_enter Tryd.func22, Tryd.ntmps22
    go_wp2
    go_ret
    refine ⟨ret_int ?_, rfl⟩
    have e6 : bits .or .u64 0 (b6 * 281474976710656) = b6 * 281474976710656 := or_zero (by omega) (by omega)
    rw [e6]
    have e5 : bits .or .u64 (b6 * 281474976710656) (b5 * 1099511627776) = b6 * 281474976710656 + b5 * 1099511627776 := or_at 48 (by rfl) (by omega) (by omega) (by omega) (by omega) (by omega)
    rw [e5]
    have e4 : bits .or .u64 (b6 * 281474976710656 + b5 * 1099511627776) (b4 * 4294967296) = b6 * 281474976710656 + b5 * 1099511627776 + b4 * 4294967296 := or_at 40 (by rfl) (by omega) (by omega) (by omega) (by omega) (by omega)
    rw [e4]
    have e3 : bits .or .u64 (b6 * 281474976710656 + b5 * 1099511627776 + b4 * 4294967296) (b3 * 16777216) = b6 * 281474976710656 + b5 * 1099511627776 + b4 * 4294967296 + b3 * 16777216 := or_at 32 (by rfl) (by omega) (by omega) (by omega) (by omega) (by omega)
    rw [e3]
    have e2 : bits .or .u64 (b6 * 281474976710656 + b5 * 1099511627776 + b4 * 4294967296 + b3 * 16777216) (b2 * 65536) = b6 * 281474976710656 + b5 * 1099511627776 + b4 * 4294967296 + b3 * 16777216 + b2 * 65536 := or_at 24 (by rfl) (by omega) (by omega) (by omega) (by omega) (by omega)
    rw [e2]
    have e1 : bits .or .u64 (b6 * 281474976710656 + b5 * 1099511627776 + b4 * 4294967296 + b3 * 16777216 + b2 * 65536) (b1 * 256) = b6 * 281474976710656 + b5 * 1099511627776 + b4 * 4294967296 + b3 * 16777216 + b2 * 65536 + b1 * 256 := or_at 16 (by rfl) (by omega) (by omega) (by omega) (by omega) (by omega)
    rw [e1]
    have e0 : bits .or .u64 (b6 * 281474976710656 + b5 * 1099511627776 + b4 * 4294967296 + b3 * 16777216 + b2 * 65536 + b1 * 256) (b0) = b6 * 281474976710656 + b5 * 1099511627776 + b4 * 4294967296 + b3 * 16777216 + b2 * 65536 + b1 * 256 + b0 := or_at 8 (by rfl) (by omega) (by omega) (by omega) (by omega) (by omega)
    rw [e0]
    clear e0 e1 e2 e3 e4 e5 e6 c0 c1 c2 c3 c4 c5 c6
    simp only [le]
    omega
  | [b0, b1, b2, b3, b4, b5, b6, b7], hl =>
    obtain rfl : n = 8 := by simpa using hl.symm
    obtain ⟨ad, rfl, c⟩ := hr.at1 (f := Value.int .u8) (j := 0) (by omega)
    have c0 : w.cell? ad = some (.int .u8 b0) := c
    clear c
    have c1 : w.cell? ⟨ad.block, ad.off + 1, none⟩ = some (.int .u8 b1) := by
      obtain ⟨ad', e', c⟩ := hr.at1 (f := Value.int .u8) (j := 1) (by omega)
      injection e' with e'
      subst e'
      exact c
    have c2 : w.cell? ⟨ad.block, ad.off + 2, none⟩ = some (.int .u8 b2) := by
      obtain ⟨ad', e', c⟩ := hr.at1 (f := Value.int .u8) (j := 2) (by omega)
      injection e' with e'
      subst e'
      exact c
    have c3 : w.cell? ⟨ad.block, ad.off + 3, none⟩ = some (.int .u8 b3) := by
      obtain ⟨ad', e', c⟩ := hr.at1 (f := Value.int .u8) (j := 3) (by omega)
      injection e' with e'
      subst e'
      exact c
    have c4 : w.cell? ⟨ad.block, ad.off + 4, none⟩ = some (.int .u8 b4) := by
      obtain ⟨ad', e', c⟩ := hr.at1 (f := Value.int .u8) (j := 4) (by omega)
      injection e' with e'
      subst e'
      exact c
    have c5 : w.cell? ⟨ad.block, ad.off + 5, none⟩ = some (.int .u8 b5) := by
      obtain ⟨ad', e', c⟩ := hr.at1 (f := Value.int .u8) (j := 5) (by omega)
      injection e' with e'
      subst e'
      exact c
    have c6 : w.cell? ⟨ad.block, ad.off + 6, none⟩ = some (.int .u8 b6) := by
      obtain ⟨ad', e', c⟩ := hr.at1 (f := Value.int .u8) (j := 6) (by omega)
      injection e' with e'
      subst e'
      exact c
    have c7 : w.cell? ⟨ad.block, ad.off + 7, none⟩ = some (.int .u8 b7) := by
      obtain ⟨ad', e', c⟩ := hr.at1 (f := Value.int .u8) (j := 7) (by omega)
      injection e' with e'
      subst e'
      exact c
    have h0 := hb b0 (by simp)
    have h1 := hb b1 (by simp)
    have h2 := hb b2 (by simp)
    have h3 := hb b3 (by simp)
    have h4 := hb b4 (by simp)
    have h5 := hb b5 (by simp)
    have h6 := hb b6 (by simp)
    have h7 := hb b7 (by simp)
    clear hr hb hl
    go_enter Tryd.func22, Tryd.ntmps22
    go_wp2
    go_ret
    refine ⟨ret_int ?_, rfl⟩
    have e7 : bits .or .u64 0 (b7 * 72057594037927936) = b7 * 72057594037927936 := or_zero (by omega) (by omega)
    rw [e7]
    have e6 : bits .or .u64 (b7 * 72057594037927936) (b6 * 281474976710656) = b7 * 72057594037927936 + b6 * 281474976710656 := or_at 56 (by rfl) (by omega) (by omega) (by omega) (by omega) (by omega)
    rw [e6]
    have e5 : bits .or .u64 (b7 * 72057594037927936 + b6 * 281474976710656) (b5 * 1099511627776) = b7 * 72057594037927936 + b6 * 281474976710656 + b5 * 1099511627776 := or_at 48 (by rfl) (by omega) (by omega) (by omega) (by omega) (by omega)
    rw [e5]
    have e4 : bits .or .u64 (b7 * 72057594037927936 + b6 * 281474976710656 + b5 * 1099511627776) (b4 * 4294967296) = b7 * 72057594037927936 + b6 * 281474976710656 + b5 * 1099511627776 + b4 * 4294967296 := or_at 40 (by rfl) (by omega) (by omega) (by omega) (by omega) (by omega)
    rw [e4]
    have e3 : bits .or .u64 (b7 * 72057594037927936 + b6 * 281474976710656 + b5 * 1099511627776 + b4 * 4294967296) (b3 * 16777216) = b7 * 72057594037927936 + b6 * 281474976710656 + b5 * 1099511627776 + b4 * 4294967296 + b3 * 16777216 := or_at 32 (by rfl) (by omega) (by omega) (by omega) (by omega) (by omega)
    rw [e3]
    have e2 : bits .or .u64 (b7 * 72057594037927936 + b6 * 281474976710656 + b5 * 1099511627776 + b4 * 4294967296 + b3 * 16777216) (b2 * 65536) = b7 * 72057594037927936 + b6 * 281474976710656 + b5 * 1099511627776 + b4 * 4294967296 + b3 * 16777216 + b2 * 65536 := or_at 24 (by rfl) (by omega) (by omega) (by omega) (by omega) (by omega)
    rw [e2]
    have e1 : bits .or .u64 (b7 * 72057594037927936 + b6 * 281474976710656 + b5 * 1099511627776 + b4 * 4294967296 + b3 * 16777216 + b2 * 65536) (b1 * 256) = b7 * 72057594037927936 + b6 * 281474976710656 + b5 * 1099511627776 + b4 * 4294967296 + b3 * 16777216 + b2 * 65536 + b1 * 256 := or_at 16 (by rfl) (by omega) (by omega) (by omega) (by omega) (by omega)
    rw [e1]
    have e0 : bits .or .u64 (b7 * 72057594037927936 + b6 * 281474976710656 + b5 * 1099511627776 + b4 * 4294967296 + b3 * 16777216 + b2 * 65536 + b1 * 256) (b0) = b7 * 72057594037927936 + b6 * 281474976710656 + b5 * 1099511627776 + b4 * 4294967296 + b3 * 16777216 + b2 * 65536 + b1 * 256 + b0 := or_at 8 (by rfl) (by omega) (by omega) (by omega) (by omega) (by omega)
    rw [e0]
    clear e0 e1 e2 e3 e4 e5 e6 e7 c0 c1 c2 c3 c4 c5 c6 c7
    simp only [le]
    omega
  | _ :: _ :: _ :: _ :: _ :: _ :: _ :: _ :: _ :: _, hl =>
    simp only [List.length_cons] at hl
    omega
end Go.Proofs.YtgnphkopdenghaaDoor
