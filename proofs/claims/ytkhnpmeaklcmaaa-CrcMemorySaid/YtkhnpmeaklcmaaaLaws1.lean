/- The walks of CrcSums and CrcSeals: each returns true, whatever the word and the bytes, and leaves old memory as it was. -/
import Derived.Test.YtkhnpmeaklcmaaaWalk5
set_option linter.unusedSimpArgs false
set_option linter.unusedVariables false
namespace Go.Proofs.Ytkhnpmeaklcmaaa
open Go.RowKit Go.Proofs.Ytkhnpmeaklcmaaa.Crc

theorem word_of {c : Int} (hc : (Lit.int .u32 c).wf = true) : ∃ x : BitVec 32, c = (x.toNat : Int) := by
  have h : 0 ≤ c ∧ c ≤ 4294967295 := by simpa [Lit.wf, IntKind.min, IntKind.max, IntKind.signed, IntKind.bits] using hc
  refine ⟨BitVec.ofInt 32 c, ?_⟩
  obtain ⟨n, rfl⟩ := Int.eq_ofNat_of_zero_le h.1
  rw [ofInt_u32 n (by omega)]

/-- what a call leaves, seen from the world in which all began -/
theorem thenMade {w0 w w' : World} {l : List Int} {e : Ending} (hb : Below w0.heap.size w0 w) (h : MadeB w l e w') :
    ∃ A c, e = .returned (.slice A l.length c) ∧ l.length ≤ c ∧ c ≤ maxLen ∧ Hid (RdB w' A l.length l) ∧ Hid (OwnB w' w.heap.size (.slice A l.length c) l) ∧ Hid (Below w.heap.size w w') ∧ Hid (Below w0.heap.size w0 w') := by
  obtain ⟨v, rfl, ho, hb2⟩ := h
  obtain ⟨A, c, rfl, hc, hm⟩ := ho.form
  exact ⟨A, c, rfl, hc, hm, ho.rd u8s_len rfl, ho, hb2, hb.trans (hb2.mono hb.size)⟩

set_option maxHeartbeats 400000 in
theorem CrcSums_walk (c : Int) (a : Option Addr) (len cap : Nat) (zs : List Int) (w : World) (wc : (Lit.int .u32 c).wf = true) (hz : IsRow .u8 w a len cap zs) (hy : len * 1 ≤ 140737488351232) :
    Calls Try.prog 3 #[.int .u32 c, .slice a len cap] w (BoolBelow true w) := by
  obtain ⟨x, rfl⟩ := word_of wc
  obtain ⟨hlc, hcm⟩ := hz.cap
  have hr := Lib.hid hz.rd
  have hb := Lib.hid hz.inB
  have hl := Lib.hid hz.rd.1
  clear hz wc
  generalize zs.take len = l at *
  obtain rfl := hl.out
  go_enter Try.func3, Try.ntmps3
  go_wp2_with fail
  refine (awake_any w).mono ?_
  rintro e w1 ⟨rfl, hb1⟩
  have B1 := Lib.hid hb1
  clear hb1
  go_wp2_with fail
  refine (Twin_any a l.length cap l w1 (hr.out.below B1.out) (by omega)).mono ?_
  rintro e w2 hm2
  obtain ⟨A2, c2, rfl, hc2, hm2, R2, -, -, B2⟩ := thenMade B1.out hm2
  go_wp2_with fail
  refine (Update_any x A2 l.length c2 l w2 R2.out hb.out (by unfold maxLen; omega)).mono ?_
  rintro e w2' ⟨rfl, rfl⟩
  go_wp2_with fail
  refine (refUpdate_any x a l.length cap l w2 (hr.out.below B2.out) hb.out (by unfold maxLen; omega)).mono ?_
  rintro e w2' ⟨rfl, rfl⟩
  go_wp2_with fail
  refine (Twin_any a l.length cap l w2 (hr.out.below B2.out) (by omega)).mono ?_
  rintro e w3 hm3
  obtain ⟨A3, c3, rfl, hc3, hm3, R3, -, -, B3⟩ := thenMade B2.out hm3
  go_wp2_with fail
  refine (Sum_any A3 l.length c3 l w3 R3.out hb.out (by unfold maxLen; omega)).mono ?_
  rintro e w3' ⟨rfl, rfl⟩
  go_wp2_with fail
  refine (refSum_any a l.length cap l w3 (hr.out.below B3.out) hb.out (by unfold maxLen; omega)).mono ?_
  rintro e w3' ⟨rfl, rfl⟩
  go_wp2
  go_ret
  exact ⟨rfl, B3.out⟩

theorem fits_sealed (l : List Int) : fits (sealed l) = true := by
  rw [fits_long (m := l.length) (by rw [sealed_len])]
  simp [sealed]

set_option maxHeartbeats 400000 in
theorem CrcSeals_walk (a : Option Addr) (len cap : Nat) (zs : List Int) (w : World) (hz : IsRow .u8 w a len cap zs) (hy : len * 1 ≤ 140737488351232) :
    Calls Try.prog 4 #[.slice a len cap] w (BoolBelow true w) := by
  obtain ⟨hlc, hcm⟩ := hz.cap
  have hr := Lib.hid hz.rd
  have hb := Lib.hid hz.inB
  have hl := Lib.hid hz.rd.1
  clear hz
  generalize zs.take len = l at *
  obtain rfl := hl.out
  have hs4 : (sealed l).length ≤ 140737488351236 := by rw [sealed_len]; omega
  have FS := Lib.hid (fits_sealed l)
  go_enter Try.func4, Try.ntmps4
  go_wp2_with fail
  refine (awake_any w).mono ?_
  rintro e w1 ⟨rfl, hb1⟩
  have B1 := Lib.hid hb1
  clear hb1
  go_wp2_with fail
  refine (Twin_any a l.length cap l w1 (hr.out.below B1.out) (by omega)).mono ?_
  rintro e w2 hm2
  obtain ⟨A2, c2, rfl, hc2, hm2, R2, -, -, B2⟩ := thenMade B1.out hm2
  go_wp2_with fail
  refine (Seal_any A2 l.length c2 l w2 R2.out hb.out (by omega)).mono ?_
  rintro e w3 hm3
  obtain ⟨A3, c3, rfl, hc3, hm3, R3, -, -, B3⟩ := thenMade B2.out hm3
  go_wp2_with fail
  refine (refSeal_any a l.length cap l w3 (hr.out.below B3.out) hb.out (by omega)).mono ?_
  rintro e w4 hm4
  obtain ⟨A4, c4, rfl, hc4, hm4, R4, -, B34, B4⟩ := thenMade B3.out hm4
  go_wp2_with fail
  refine (Same_any A3 _ c3 (sealed l) A4 _ c4 (sealed l) w4 (R3.out.below B34.out) R4.out (sealed_in hb.out) (sealed_in hb.out)).mono ?_
  rintro e w4' ⟨rfl, rfl⟩
  rw [decide_eq_true rfl]
  go_wp2_with fail
  refine (Fits_any A3 _ c3 (sealed l) w4 (R3.out.below B34.out) (sealed_in hb.out) hc3 hm3).mono ?_
  rintro e w5 ⟨rfl, hb5⟩
  rw [FS.out]
  have B5 : Hid (Below w.heap.size w w5) := Lib.hid (B4.out.trans (hb5.mono B4.out.size))
  clear hb5
  go_wp2_with fail
  refine (Twin_any a l.length cap l w5 (hr.out.below B5.out) (by omega)).mono ?_
  rintro e w6 hm6
  obtain ⟨A6, c6, rfl, hc6, hm6, R6, -, -, B6⟩ := thenMade B5.out hm6
  go_wp2_with fail
  refine (Fits_any A6 _ c6 l w6 R6.out hb.out hc6 hm6).mono ?_
  rintro e w7 ⟨rfl, hb7⟩
  have B7 : Hid (Below w.heap.size w w7) := Lib.hid (B6.out.trans (hb7.mono B6.out.size))
  clear hb7
  go_wp2_with fail
  refine (refFits_any a l.length cap l w7 (hr.out.below B7.out) hb.out hlc hcm).mono ?_
  rintro e w7' ⟨rfl, rfl⟩
  go_wp2
  go_ret
  exact ⟨by simp, B7.out⟩
end Go.Proofs.Ytkhnpmeaklcmaaa
