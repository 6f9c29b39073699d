/- Contracts of the check sum's inner functions (a turn, eight turns, the sum carried on) in the program and in the reference: each computes what the plain mathematics says, whatever the bytes; the slice's length fits an int. -/
import Derived.Test.YtkhnpmeaklcmaaaBase
import Derived.Test.YtkhnpmeaklcmaaaMath
import Derived.Laws.BitsAllLaws
set_option linter.unusedSimpArgs false
set_option linter.unusedVariables false
namespace Go.Proofs.Ytkhnpmeaklcmaaa
open Go.RowKit Go.Proofs.Ytkhnpmeaklcmaaa.Crc

theorem half_any (x : BitVec 32) (w : World) :
    Calls Try.prog 24 #[.int .u32 (x.toNat : Int)] w fun e w' => e = .returned (.int .u32 ((turns 4 x).toNat : Int)) ∧ w = w' := by
  go_enter Try.func24, Try.ntmps24
  go_wp2
  go_loop [0, 3] (fun c i => ∃ k : Nat, k ≤ 4 ∧ i = .int .i64 k ∧ c = .int .u32 ((turns k x).toNat : Int)) (fun _ i => 4 - (intOf i).toNat)
  case atStart => exact ⟨0, by omega, rfl, rfl⟩
  case round =>
    obtain ⟨k, hk, rfl, rfl⟩ := hrel
    by_cases hlt : k < 4
    · go_wp2
      go_round
      case rel => exact ⟨k + 1, by omega, by go_num, val_int (by rw [half_step, turns_succ'])⟩
      case measure => simp [intOf]; omega
    · obtain rfl : k = 4 := by omega
      go_wp2
      go_ret
      exact ⟨rfl, rfl⟩

theorem turn_any (x : BitVec 32) (w : World) :
    Calls Try.prog 30 #[.int .u32 (x.toNat : Int)] w fun e w' => e = .returned (.int .u32 ((turn x).toNat : Int)) ∧ w = w' := by
  by_cases h : x.toNat % 2 = 1
  · have hs := Lib.hid (turn_step1 x h)
    have hb : (((x.toNat : Int) % 2) == 1) = true := beq_iff_eq.2 (by omega)
    clear h
    go_enter Try.func30, Try.ntmps30
    go_wp2
    go_ret
    exact ⟨ret_int hs.out, rfl⟩
  · have hs := Lib.hid (turn_step0 x (by omega))
    have hb : (((x.toNat : Int) % 2) == 1) = false := beq_eq_false_iff_ne.2 (by omega)
    clear h
    go_enter Try.func30, Try.ntmps30
    go_wp2
    go_ret
    exact ⟨ret_int hs.out, rfl⟩

theorem zed_any (x : BitVec 32) (w : World) :
    Calls Try.prog 25 #[.int .u32 (x.toNat : Int)] w fun e w' => e = .returned (.int .u32 ((turns 8 x).toNat : Int)) ∧ w = w' := by
  go_enter Try.func25, Try.ntmps25
  go_wp2
  go_loop [0, 3] (fun c i => ∃ k : Nat, k ≤ 8 ∧ i = .int .i64 k ∧ c = .int .u32 ((turns k x).toNat : Int)) (fun _ i => 8 - (intOf i).toNat)
  case atStart => exact ⟨0, by omega, rfl, rfl⟩
  case round =>
    obtain ⟨k, hk, rfl, rfl⟩ := hrel
    by_cases hlt : k < 8
    · go_wp2_with (go_at_call 30; refine (turn_any _ _).mono ?_; rintro e w' ⟨rfl, rfl⟩)
      go_round
      case rel => exact ⟨k + 1, by omega, by go_num, val_int (by rw [turns_succ'])⟩
      case measure => simp [intOf]; omega
    · obtain rfl : k = 8 := by omega
      go_wp2
      go_ret
      exact ⟨rfl, rfl⟩

theorem upd_take_succ (x : BitVec 32) (l : List Int) {k : Nat} (hk : k < l.length) : upd x (l.take (k + 1)) = turns 8 (upd x (l.take k) ^^^ byte l[k]) := by
  rw [List.take_succ_eq_append_getElem hk, upd_append]; rfl

theorem xor_byte (x : BitVec 32) (b : Int) (h0 : 0 ≤ b) (h1 : b ≤ 255) : bits .xor .u32 (x.toNat : Int) b = ((x ^^^ byte b).toNat : Int) := by
  rw [← xor32, byte_nat b h0 h1]
theorem half_of {v : Int} {x : BitVec 32} (h : v = (x.toNat : Int)) (w : World) :
    Calls Try.prog 24 #[.int .u32 v] w fun e w' => e = .returned (.int .u32 ((turns 4 x).toNat : Int)) ∧ w = w' := by
  subst h; exact half_any x w
theorem zed_of {v : Int} {x : BitVec 32} (h : v = (x.toNat : Int)) (w : World) :
    Calls Try.prog 25 #[.int .u32 v] w fun e w' => e = .returned (.int .u32 ((turns 8 x).toNat : Int)) ∧ w = w' := by
  subst h; exact zed_any x w
theorem half2 (x : BitVec 32) : turns 4 (turns 4 x) = turns 8 x := (turns_add 4 4 x).symm

theorem refUpdate_any (c : BitVec 32) (A : Option Addr) (n cap : Nat) (l : List Int) (w : World) (hr : RdB w A n l) (hb : InB l) (hn : n ≤ maxLen) :
    Calls Try.prog 13 #[.int .u32 (c.toNat : Int), .slice A n cap] w fun e w' => e = .returned (.int .u32 ((carry c l).toNat : Int)) ∧ w = w' := by
  unfold maxLen at hn
  have H := Lib.hid hr
  have HB := Lib.hid hb
  clear hr hb
  go_enter Try.func13, Try.ntmps13
  go_wp2
  go_loop [5, 12] (fun x i => ∃ k : Nat, k ≤ n ∧ i = .int .i64 k ∧ x = .int .u32 ((upd (~~~ c) (l.take k)).toNat : Int)) (fun _ i => n - (intOf i).toNat)
  case atStart => exact ⟨0, Nat.zero_le _, rfl, val_int (not32 c)⟩
  case round =>
    obtain ⟨k, hk, rfl, rfl⟩ := hrel
    have hln := Lib.hid H.out.1
    by_cases hlt : k < n
    · obtain ⟨ad, rfl, hc⟩ := H.out.at1 hlt
      have hbd := HB.out.at_ (j := k) (by have := hln.out; omega)
      have hx := Lib.hid (xor_byte (upd (~~~ c) (l.take k)) _ hbd.1 hbd.2)
      have hs := Lib.hid (upd_take_succ (~~~ c) l (k := k) (by have := hln.out; omega))
      go_wp2_with (go_at_call 25; refine (zed_of hx.out _).mono ?_; rintro e w' ⟨rfl, rfl⟩)
      go_round
      case rel => exact ⟨k + 1, by omega, by go_num, val_int (by rw [hs.out])⟩
      case measure => simp [intOf]; omega
    · obtain rfl : k = n := by omega
      have hs := Lib.hid (show upd (~~~ c) (l.take k) = upd (~~~ c) l by rw [List.take_of_length_le (by have := hln.out; omega)])
      go_wp2
      go_ret
      exact ⟨ret_int (by rw [hs.out, not32]; rfl), rfl⟩

theorem Update_any (c : BitVec 32) (A : Option Addr) (n cap : Nat) (l : List Int) (w : World) (hr : RdB w A n l) (hb : InB l) (hn : n ≤ maxLen) :
    Calls Try.prog 11 #[.int .u32 (c.toNat : Int), .slice A n cap] w fun e w' => e = .returned (.int .u32 ((carry c l).toNat : Int)) ∧ w = w' := by
  unfold maxLen at hn
  have H := Lib.hid hr
  have HB := Lib.hid hb
  clear hr hb
  go_enter Try.func11, Try.ntmps11
  go_wp2
  go_loop [5, 12] (fun x i => ∃ k : Nat, k ≤ n ∧ i = .int .i64 k ∧ x = .int .u32 ((upd (~~~ c) (l.take k)).toNat : Int)) (fun _ i => n - (intOf i).toNat)
  case atStart => exact ⟨0, Nat.zero_le _, rfl, val_int (not32 c)⟩
  case round =>
    obtain ⟨k, hk, rfl, rfl⟩ := hrel
    have hln := Lib.hid H.out.1
    by_cases hlt : k < n
    · obtain ⟨ad, rfl, hc⟩ := H.out.at1 hlt
      have hbd := HB.out.at_ (j := k) (by have := hln.out; omega)
      have hx := Lib.hid (xor_byte (upd (~~~ c) (l.take k)) _ hbd.1 hbd.2)
      have hs := Lib.hid (upd_take_succ (~~~ c) l (k := k) (by have := hln.out; omega))
      go_wp2_with fail
      refine (half_of hx.out _).mono ?_
      rintro e w' ⟨rfl, rfl⟩
      go_wp2_with fail
      refine (half_any _ _).mono ?_
      rintro e w' ⟨rfl, rfl⟩
      go_wp2
      go_round
      case rel => exact ⟨k + 1, by omega, by go_num, val_int (by rw [hs.out, half2])⟩
      case measure => simp [intOf]; omega
    · obtain rfl : k = n := by omega
      have hs := Lib.hid (show upd (~~~ c) (l.take k) = upd (~~~ c) l by rw [List.take_of_length_le (by have := hln.out; omega)])
      go_wp2
      go_ret
      exact ⟨ret_int (by rw [hs.out, not32]; rfl), rfl⟩

theorem Sum_any (A : Option Addr) (n cap : Nat) (l : List Int) (w : World) (hr : RdB w A n l) (hb : InB l) (hn : n ≤ maxLen) :
    Calls Try.prog 14 #[.slice A n cap] w fun e w' => e = .returned (.int .u32 ((sum l).toNat : Int)) ∧ w = w' := by
  have hc := Lib.hid (fun W (h : RdB W A n l) => Update_any 0#32 A n cap l W h hb hn)
  have H := Lib.hid hr
  clear hr
  go_enter Try.func14, Try.ntmps14
  go_wp2_with fail
  refine (hc.out _ H.out).mono ?_
  rintro e w' ⟨rfl, rfl⟩
  go_wp2
  go_ret
  exact ⟨rfl, rfl⟩
theorem refSum_any (A : Option Addr) (n cap : Nat) (l : List Int) (w : World) (hr : RdB w A n l) (hb : InB l) (hn : n ≤ maxLen) :
    Calls Try.prog 15 #[.slice A n cap] w fun e w' => e = .returned (.int .u32 ((sum l).toNat : Int)) ∧ w = w' := by
  have hc := Lib.hid (fun W (h : RdB W A n l) => refUpdate_any 0#32 A n cap l W h hb hn)
  have H := Lib.hid hr
  clear hr
  go_enter Try.func15, Try.ntmps15
  go_wp2_with fail
  refine (hc.out _ H.out).mono ?_
  rintro e w' ⟨rfl, rfl⟩
  go_wp2
  go_ret
  exact ⟨rfl, rfl⟩
end Go.Proofs.Ytkhnpmeaklcmaaa
