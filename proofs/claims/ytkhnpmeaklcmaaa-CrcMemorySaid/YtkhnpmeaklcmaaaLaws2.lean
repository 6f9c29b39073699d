/- The walks of CrcBursts, CrcJoins, CrcPieces (its two lists together at most 1,048,576 bytes) and CrcFixed: each returns true, whatever its arguments, and leaves old memory as it was. -/
import Derived.Test.YtkhnpmeaklcmaaaWalk7
import Derived.Test.YtkhnpmeaklcmaaaLaws1
set_option linter.unusedSimpArgs false
set_option linter.unusedVariables false
namespace Go.Proofs.Ytkhnpmeaklcmaaa
open Go.RowKit Go.Proofs.Ytkhnpmeaklcmaaa.Crc

def burstL (l : List Int) (at_ : Int) (mask : BitVec 32) : List Int := if at_ < 0 ∨ 8 * (l.length : Int) ≤ at_ then l else flips l at_.toNat mask (8 * l.length - at_.toNat) 32
def burstB (l : List Int) (at_ : Int) (mask : BitVec 32) : Bool := if at_ < 0 ∨ 8 * (l.length : Int) ≤ at_ then false else turnedB mask (8 * l.length - at_.toNat) 32
theorem Burst_any (A : Option Addr) (n cap : Nat) (l : List Int) (at_ : Int) (mask : BitVec 32) (w : World) (hr : RdB w A n l) (hb : InB l) (hn : n ≤ 140737488355328) :
    Calls Try.prog 21 #[.slice A n cap, .int .i64 at_, .int .u32 (mask.toNat : Int)] w (MadeBT w (burstL l at_ mask) (burstB l at_ mask)) := by
  obtain rfl := hr.1
  by_cases h : at_ < 0 ∨ 8 * (l.length : Int) ≤ at_
  · have e1 : burstL l at_ mask = l := if_pos h
    have e2 : burstB l at_ mask = false := if_pos h
    rw [e1, e2]
    exact Burst_out A _ cap l at_ mask w hr hn h
  · obtain ⟨k, rfl⟩ := Int.eq_ofNat_of_zero_le (show 0 ≤ at_ by omega)
    have e1 : burstL l (k : Int) mask = flips l k mask (8 * l.length - k) 32 := by unfold burstL; rw [if_neg h, Int.toNat_natCast]
    have e2 : burstB l (k : Int) mask = turnedB mask (8 * l.length - k) 32 := by unfold burstB; rw [if_neg h, Int.toNat_natCast]
    rw [e1, e2]
    exact Burst_in A _ cap l k mask w hr hb hn (by omega)
theorem burstL_in {l : List Int} (h : InB l) (at_ : Int) (mask : BitVec 32) : InB (burstL l at_ mask) := by
  unfold burstL
  split
  · exact h
  · exact flips_in h _ _ _ _
theorem burst_seen {l : List Int} (h : InB l) (at_ : Int) (mask : BitVec 32) (hf : fits l = true) (ht : burstB l at_ mask = true) : fits (burstL l at_ mask) = false := by
  unfold burstB at ht
  unfold burstL
  split at ht
  · cases ht
  · rename_i hc
    rw [if_neg hc]
    exact bursts h _ (by omega) mask ht hf
theorem thenMadeT {w0 w w' : World} {l : List Int} {b : Bool} {e : Ending} (hb : Below w0.heap.size w0 w) (h : MadeBT w l b e w') :
    ∃ A c, e = .returned (.tuple #[.slice A l.length c, .bool b]) ∧ l.length ≤ c ∧ c ≤ maxLen ∧ Hid (RdB w' A l.length l) ∧ Hid (Below w.heap.size w w') ∧ Hid (Below w0.heap.size w0 w') := by
  obtain ⟨v, rfl, ho, hb2⟩ := h
  obtain ⟨A, c, rfl, hc, hm⟩ := ho.form
  exact ⟨A, c, rfl, hc, hm, ho.rd u8s_len rfl, hb2, hb.trans (hb2.mono hb.size)⟩

set_option maxHeartbeats 800000 in
theorem CrcBursts_walk (a : Option Addr) (len cap : Nat) (zs : List Int) (at_ : Int) (m : Int) (w : World) (hz : IsRow .u8 w a len cap zs) (hy : len * 1 ≤ 140737488351232) (wat : (Lit.int .i64 at_).wf = true) (wm : (Lit.int .u32 m).wf = true) :
    Calls Try.prog 5 #[.slice a len cap, .int .i64 at_, .int .u32 m] w (BoolBelow true w) := by
  obtain ⟨mask, rfl⟩ := word_of wm
  obtain ⟨hlc, hcm⟩ := hz.cap
  have hr := Lib.hid hz.rd
  have hb := Lib.hid hz.inB
  have hl := Lib.hid hz.rd.1
  clear hz wm wat
  generalize zs.take len = l at *
  obtain rfl := hl.out
  have hs4 : (sealed l).length ≤ 140737488351236 := by rw [sealed_len]; omega
  have BS := Lib.hid (burst_seen (sealed_in hb.out) at_ mask (fits_sealed l))
  have BL := Lib.hid (burst_seen hb.out at_ mask)
  go_enter Try.func5, Try.ntmps5
  go_wp2_with fail
  refine (awake_any w).mono ?_
  rintro e w1 ⟨rfl, hb1⟩
  have B1 := Lib.hid hb1
  clear hb1
  go_wp2_with fail
  refine (Twin_any a l.length cap l w1 (hr.out.below B1.out) (by omega)).mono ?_
  rintro e w2 hm2
  obtain ⟨A2, c2, rfl, hc2, hm2, R2, -, -, B2⟩ := thenMade B1.out hm2
  go_wp2_with fail
  refine (Seal_any A2 l.length c2 l w2 R2.out hb.out (by omega)).mono ?_
  rintro e w3 hm3
  obtain ⟨A3, c3, rfl, hc3, hm3, R3, -, -, B3⟩ := thenMade B2.out hm3
  go_wp2_with fail
  refine (Burst_any A3 _ c3 (sealed l) at_ mask w3 R3.out (sealed_in hb.out) (by omega)).mono ?_
  rintro e w4 hm4
  obtain ⟨A4, c4, rfl, hc4, hx4, R4, -, B4⟩ := thenMadeT B3.out hm4
  have I4 := Lib.hid (burstL_in (sealed_in hb.out) at_ mask)
  generalize burstL (sealed l) at_ mask = q at *
  cases hT : burstB (sealed l) at_ mask
  case' true =>
    have F4 := Lib.hid (BS.out hT)
    clear hT BS
    go_wp2_with fail
    refine (Fits_any A4 _ c4 q w4 R4.out I4.out hc4 hx4).mono ?_
    rintro e w5 ⟨rfl, hb5⟩
    rw [F4.out]
    have B5 : Hid (Below w.heap.size w w5) := Lib.hid (B4.out.trans (hb5.mono B4.out.size))
    clear hb5
    go_wp2_with fail
  case' false =>
    clear hT BS
    obtain ⟨w5, rfl⟩ : ∃ w5 : World, w5 = w4 := ⟨_, rfl⟩
    have B5 := B4
    clear B4
    go_wp2_with fail
  all_goals
    refine (Burst_any a _ cap l at_ mask w5 (hr.out.below B5.out) hb.out (by omega)).mono ?_
    rintro e w6 hm6
    obtain ⟨A6, c6, rfl, hc6, hx6, R6, B56, B6⟩ := thenMadeT B5.out hm6
    have I6 := Lib.hid (burstL_in hb.out at_ mask)
    generalize burstL l at_ mask = r at *
    cases hU : burstB l at_ mask with
    | false =>
      clear hU BL
      go_wp2
      go_ret
      exact ⟨rfl, B6.out⟩
    | true =>
      go_wp2_with fail
      refine (Twin_any a l.length cap l w6 (hr.out.below B6.out) (by omega)).mono ?_
      rintro e w7 hm7
      obtain ⟨A7, c7, rfl, hc7, hm7, R7, -, B67, B7⟩ := thenMade B6.out hm7
      go_wp2_with fail
      refine (Fits_any A7 _ c7 l w7 R7.out hb.out hc7 hm7).mono ?_
      rintro e w8 ⟨rfl, hb8⟩
      have B78 := Lib.hid hb8
      have B8 : Hid (Below w.heap.size w w8) := Lib.hid (B7.out.trans (hb8.mono B7.out.size))
      clear hb8
      cases hF : fits l with
      | false =>
        clear hF hU BL
        go_wp2
        go_ret
        exact ⟨rfl, B8.out⟩
      | true =>
        have FR := Lib.hid (BL.out hF hU)
        clear hF hU BL
        go_wp2_with fail
        refine (Fits_any A6 _ c6 r w8 ((R6.out.below B67.out).below B78.out) I6.out hc6 hx6).mono ?_
        rintro e w9 ⟨rfl, hb9⟩
        rw [FR.out]
        have B9 : Hid (Below w.heap.size w w9) := Lib.hid (B8.out.trans (hb9.mono B8.out.size))
        clear hb9
        go_wp2
        go_ret
        exact ⟨rfl, B9.out⟩

def WordBelow (z : BitVec 32) (w : World) (e : Ending) (w' : World) : Prop := e = .returned (.int .u32 (z.toNat : Int)) ∧ Below w.heap.size w w'
theorem Join_word (a b : BitVec 32) (n : Int) (z : BitVec 32) (hz : turns (8 * n.toNat) a ^^^ b = z) (w : World) (hn : n ≤ 9223372036854775807) (hm : -9223372036854775808 ≤ n) :
    Calls Try.prog 22 #[.int .u32 (a.toNat : Int), .int .u32 (b.toNat : Int), .int .i64 n] w (WordBelow z w) := by
  subst hz; exact Join_any a b n w hn hm
theorem Join_out (a b : BitVec 32) (n : Int) (w : World) (hn : n ≤ 0) (hm : -9223372036854775808 ≤ n) :
    Calls Try.prog 22 #[.int .u32 (a.toNat : Int), .int .u32 (b.toNat : Int), .int .i64 n] w (WordBelow (a ^^^ b) w) :=
  Join_word a b n _ (by rw [show n.toNat = 0 by omega]; rfl) w (by omega) hm

set_option maxHeartbeats 800000 in
theorem CrcJoins_walk (a b n m : Int) (w : World) (wa : (Lit.int .u32 a).wf = true) (wb : (Lit.int .u32 b).wf = true) (wn : (Lit.int .i64 n).wf = true) (wm : (Lit.int .i64 m).wf = true) :
    Calls Try.prog 7 #[.int .u32 a, .int .u32 b, .int .i64 n, .int .i64 m] w (BoolBelow true w) := by
  obtain ⟨x, rfl⟩ := word_of wa
  obtain ⟨y, rfl⟩ := word_of wb
  have bn : -9223372036854775808 ≤ n ∧ n ≤ 9223372036854775807 := by simpa [Lit.wf, IntKind.min, IntKind.max, IntKind.signed, IntKind.bits] using wn
  have bm : -9223372036854775808 ≤ m ∧ m ≤ 9223372036854775807 := by simpa [Lit.wf, IntKind.min, IntKind.max, IntKind.signed, IntKind.bits] using wm
  clear wa wb wn wm
  obtain ⟨n1, n2⟩ := bn
  obtain ⟨m1, m2⟩ := bm
  go_enter Try.func7, Try.ntmps7
  go_wp2_with fail
  refine (awake_any w).mono ?_
  rintro e w1 ⟨rfl, hb1⟩
  have B1 := Lib.hid hb1
  clear hb1
  by_cases h4 : n ≤ 4000
  case' pos =>
    go_wp2_with fail
    refine (Join_any x y n w1 n2 n1).mono ?_
    rintro e w2 ⟨rfl, hb2⟩
    have B2 : Hid (Below w.heap.size w w2) := Lib.hid (B1.out.trans (hb2.mono B1.out.size))
    clear hb2
    go_wp2_with fail
    refine (Join_ref x y n w2 n2 n1).mono ?_
    rintro e w2' ⟨rfl, rfl⟩
  case' neg =>
    obtain ⟨w2, rfl⟩ : ∃ w2 : World, w2 = w1 := ⟨_, rfl⟩
    have B2 := B1
    clear B1
  all_goals
    by_cases hc : n < 0 ∨ m < 0 ∨ 4611686018427387904 ≤ n ∨ 4611686018427387904 ≤ m
    · go_wp2_with fail
      all_goals
        refine (Join_out x y _ w2 (by omega) (by omega)).mono ?_
        rintro e w3 ⟨rfl, hb3⟩
        have B3 : Hid (Below w.heap.size w w3) := Lib.hid (B2.out.trans (hb3.mono B2.out.size))
        clear hb3
        go_wp2
        go_ret
        exact ⟨by simp; rw [xor32, BitVec.toNat_xor], B3.out⟩
    · have k1 : 0 ≤ n := by omega
      have k2 : 0 ≤ m := by omega
      have k3 : n < 4611686018427387904 := by omega
      have k4 : m < 4611686018427387904 := by omega
      clear hc
      obtain ⟨Z, hZ⟩ : ∃ Z, Z = turns (8 * (n + m).toNat) x ^^^ y := ⟨_, rfl⟩
      obtain ⟨P, hP⟩ : ∃ P, P = turns (8 * n.toNat) x := ⟨_, rfl⟩
      have K1 := Lib.hid (Join_word x 0#32 n P (by rw [hP, BitVec.xor_zero]))
      have K2 := Lib.hid (Join_word P y m Z (by rw [hZ, hP, ← turns_add]; congr 2; omega))
      have K3 := Lib.hid (Join_word x y (n + m) Z hZ.symm)
      clear hZ hP
      go_wp2_with fail
      refine (K1.out w2 (by omega) (by omega)).mono ?_
      rintro e w3 ⟨rfl, hb3⟩
      have B3 : Hid (Below w.heap.size w w3) := Lib.hid (B2.out.trans (hb3.mono B2.out.size))
      clear hb3
      go_wp2_with fail
      refine (K2.out w3 (by omega) (by omega)).mono ?_
      rintro e w4 ⟨rfl, hb4⟩
      have B4 : Hid (Below w.heap.size w w4) := Lib.hid (B3.out.trans (hb4.mono B3.out.size))
      clear hb4
      go_wp2_with fail
      refine (K3.out w4 (by omega) (by omega)).mono ?_
      rintro e w5 ⟨rfl, hb5⟩
      have B5 : Hid (Below w.heap.size w w5) := Lib.hid (B4.out.trans (hb5.mono B4.out.size))
      clear hb5
      go_wp2
      go_ret
      exact ⟨rfl, B5.out⟩

end Go.Proofs.Ytkhnpmeaklcmaaa
