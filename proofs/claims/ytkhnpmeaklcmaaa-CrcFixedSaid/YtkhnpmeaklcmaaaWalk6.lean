/- The contract of the reference's Burst: the list with the mask's bits turned over from a bit on, and whether any bit was; whatever the bytes (up to 2^47), the place and the mask. -/
import Derived.Test.YtkhnpmeaklcmaaaMath2
set_option linter.unusedSimpArgs false
set_option linter.unusedVariables false
namespace Go.Proofs.Ytkhnpmeaklcmaaa
open Go.RowKit Go.Proofs.Ytkhnpmeaklcmaaa.Crc

def MadeBT (w : World) (l : List Int) (b : Bool) (e : Ending) (w' : World) : Prop := ∃ v, e = .returned (.tuple #[v, .bool b]) ∧ OwnB w' w.heap.size v l ∧ Below w.heap.size w w'

theorem Burst_out (A : Option Addr) (n cap : Nat) (l : List Int) (at_ : Int) (mask : BitVec 32) (w : World) (hr : RdB w A n l) (hn : n ≤ 140737488355328) (hat : at_ < 0 ∨ 8 * (n : Int) ≤ at_) :
    Calls Try.prog 21 #[.slice A n cap, .int .i64 at_, .int .u32 (mask.toNat : Int)] w (MadeBT w l false) := by
  have H := Lib.hid hr
  have hl := Lib.hid hr.1
  clear hr
  rcases hat with h | h
  · have t1 : decide (at_ < 0) = true := by simpa using h
    go_enter Try.func21, Try.ntmps21
    go_wp2_with fail
    refine (Twin_any A n cap l w H.out hn).mono ?_
    rintro e w1 ⟨v, rfl, ho, hb⟩
    have HO := Lib.hid ho
    have HB := Lib.hid hb
    clear ho hb
    go_wp2
    go_ret2
    exact ⟨v, rfl, HO.out, HB.out⟩
  · have t1 : decide (at_ < 0) = false := by simp; omega
    have t2 : decide (8 * (n : Int) ≤ at_) = true := by simpa using h
    go_enter Try.func21, Try.ntmps21
    go_wp2_with fail
    refine (Twin_any A n cap l w H.out hn).mono ?_
    rintro e w1 ⟨v, rfl, ho, hb⟩
    obtain ⟨A', c, rfl, hc, hm⟩ := ho.form
    have HO := Lib.hid ho
    have HB := Lib.hid hb
    clear ho hb
    have hl2 : l.length = n := hl.out
    subst hl2
    go_wp2
    go_ret2
    exact ⟨_, rfl, HO.out, HB.out⟩

theorem mask_bit (mask : BitVec 32) (k : Nat) : ((mask.toNat : Int) / 2 ^ k).tmod 2 = if mask.getLsbD k = true then 1 else 0 := by
  have e : ((mask.toNat : Int) / 2 ^ k) = ((mask.toNat / 2 ^ k : Nat) : Int) := by rw [Int.natCast_ediv, Int.natCast_pow]; rfl
  rw [e, ← BitVec.testBit_toNat, Nat.testBit_eq_decide_div_mod_eq]
  have : (((mask.toNat / 2 ^ k : Nat) : Int).tmod 2) = ((mask.toNat / 2 ^ k % 2 : Nat) : Int) := by
    rw [Int.tmod_eq_emod_of_nonneg (Int.natCast_nonneg _)]; rfl
  rw [this]
  rcases Nat.mod_two_eq_zero_or_one (mask.toNat / 2 ^ k) with h | h <;> simp [h]
theorem turnedB_skip {mask : BitVec 32} {c k : Nat} (h : ¬ (mask.getLsbD k = true ∧ k < c)) : turnedB mask c (k + 1) = turnedB mask c k :=
  congrArg (fun z => decide (z ≠ 0#32)) (show low mask c (k + 1) = low mask c k by simp only [low]; rw [if_neg h])
theorem turnedB_hit {mask : BitVec 32} {c k : Nat} (hk : k < 32) (h : mask.getLsbD k = true ∧ k < c) : turnedB mask c (k + 1) = true := by
  have e : low mask c (k + 1) = low mask c k ^^^ (1#32 <<< k) := by simp only [low]; rw [if_pos h]
  unfold turnedB
  rw [e]
  exact decide_eq_true (low_hit mask c k hk)
theorem xor_pow {x : Int} {r : Nat} (h0 : 0 ≤ x) (h1 : x ≤ 255) (hr : r < 8) : bits .xor .u8 x ((2 : Int) ^ r % 256) = xorb x ((2 ^ r : Nat) : Int) := by
  have p := pow_in hr
  have e0 : ((2 ^ r : Nat) : Int) = (2 : Int) ^ r := Int.natCast_pow 2 r
  have e : ((2 : Int) ^ r % 256) = ((2 ^ r : Nat) : Int) := by rw [← e0]; omega
  rw [e, u8_xor x _ h0 (by omega) p.1 (by omega)]
  rfl
theorem own_get {w : World} {base g c : Nat} {l : List Int} (h : OwnB w base (.slice (some ⟨g, 0, none⟩) l.length c) l) {j : Nat} (hj : j < l.length) : w.cell? ⟨g, j, none⟩ = some (.int .u8 (l.getD j 0)) ∧ w.frozen? ⟨g, j, none⟩ = false := by
  constructor
  · rw [World.ownsRow.cellAt h j (by omega)]
    have := flat_get u8s_len l j 0 (by omega)
    rw [Nat.mul_one, Nat.add_zero] at this
    rw [this, List.getElem?_eq_getElem hj, List.getD_eq_getElem?_getD, List.getElem?_eq_getElem hj]; rfl
  · exact World.ownsRow.frozenAt h j
theorem own_put {w : World} {base g c : Nat} {l : List Int} (h : OwnB w base (.slice (some ⟨g, 0, none⟩) l.length c) l) (j : Nat) (x : Int) :
    OwnB (w.setCell ⟨g, j, none⟩ (.int .u8 x)) base (.slice (some ⟨g, 0, none⟩) (l.set j x).length c) (l.set j x) := by
  have h2 := (World.ownsRow.stored h j (.int .u8 x)).1
  have e : (l.flatMap u8s).set j (.int .u8 x) = (l.set j x).flatMap u8s := by
    have m : ∀ k : List Int, k.flatMap u8s = k.map (Value.int .u8) := fun k => by induction k <;> simp_all
    rw [m, m, List.map_set]
  rw [e] at h2
  unfold OwnB Own
  rw [List.length_set]
  exact h2

set_option maxHeartbeats 1600000 in
theorem Burst_in (A : Option Addr) (n cap : Nat) (l : List Int) (at_ : Nat) (mask : BitVec 32) (w : World) (hr : RdB w A n l) (hb : InB l) (hn : n ≤ 140737488355328) (hat : at_ < 8 * n) :
    Calls Try.prog 21 #[.slice A n cap, .int .i64 at_, .int .u32 (mask.toNat : Int)] w (MadeBT w (flips l at_ mask (8 * l.length - at_) 32) (turnedB mask (8 * l.length - at_) 32)) := by
  obtain rfl := hr.1
  have H := Lib.hid hr
  have HI := Lib.hid hb
  clear hr hb
  have t1 : decide ((at_ : Int) < 0) = false := by simp
  have t2 : decide (8 * (l.length : Int) ≤ at_) = false := by simp; omega
  go_enter Try.func21, Try.ntmps21
  go_wp2_with fail
  refine (Twin_any A _ cap l w H.out hn).mono ?_
  rintro e w1 ⟨v, rfl, ho, hb⟩
  obtain ⟨g, c, rfl, hgb, hglt⟩ := World.ownsRow.form ho (by omega)
  have HO := Lib.hid ho
  have HB := Lib.hid hb
  clear ho hb
  go_wp2
  go_loopw [9, 10] (fun t i wr => ∃ k : Nat, k ≤ 32 ∧ i = .int .i64 k ∧ t = .bool (turnedB mask (8 * l.length - at_) k) ∧ OwnB wr w.heap.size (.slice (some ⟨g, 0, none⟩) (flips l at_ mask (8 * l.length - at_) k).length c) (flips l at_ mask (8 * l.length - at_) k) ∧ Below w.heap.size w wr) (fun _ i _ => 32 - (intOf i).toNat)
  case atStart => exact ⟨0, by omega, rfl, rfl, HO.out, HB.out⟩
  case round =>
    obtain ⟨k, hk, rfl, rfl, ho, hb⟩ := hrel
    have HO1 := Lib.hid ho
    have HB1 := Lib.hid hb
    clear ho hb
    by_cases hlt : k < 32
    · by_cases hm : mask.getLsbD k = true
      · have q1 : (((mask.toNat : Int) / 2 ^ k).tmod 2 == 1) = true := by rw [mask_bit, if_pos hm]; rfl
        by_cases hc : k < 8 * l.length - at_
        · have hfl := Lib.hid (flips_len l at_ mask (8 * l.length - at_) k)
          have hg := own_get (l := flips l at_ mask (8 * l.length - at_) k) HO1.out (j := (at_ + k) / 8) (by rw [hfl.out]; omega)
          obtain ⟨hg1, hg2⟩ := hg
          have b0 := getD_in (flips_in HI.out at_ mask (8 * l.length - at_) k) ((at_ + k) / 8)
          generalize hx : (flips l at_ mask (8 * l.length - at_) k).getD ((at_ + k) / 8) 0 = x at *
          have HX := Lib.hid hx
          clear hx
          obtain ⟨b1, b2⟩ := b0
          have q2 : decide ((k : Int) < 8 * (l.length : Int) - at_) = true := by simp; omega
          have q3 : (at_ : Int) + k < 8 * (l.length : Int) := by omega
          have q4 : ((at_ : Int) + k) / 8 < (l.length : Int) := by omega
          have q5 : (0 : Int) ≤ ((at_ : Int) + k) / 8 := by omega
          have e1 := Lib.hid (show flips l at_ mask (8 * l.length - at_) (k + 1) = (flips l at_ mask (8 * l.length - at_) k).set ((at_ + k) / 8) (xorb x ((2 ^ ((at_ + k) % 8) : Nat) : Int)) by simp only [flips]; rw [if_pos ⟨hm, hc⟩, HX.out])
          have e2 := Lib.hid (turnedB_hit hlt ⟨hm, hc⟩)
          have e3 := Lib.hid (xor_pow b1 b2 (Nat.mod_lt (at_ + k) (by omega)))
          clear hm hc
          go_wp2
          go_region
          rw [e3.out]
          go_wp2
          go_roundw
          case rel =>
            refine ⟨k + 1, by omega, by go_num, by rw [e2.out], ?_, ?_⟩
            · rw [e1.out]
              exact own_put HO1.out _ _
            · exact (HB1.out.setCell (p := ⟨g, (at_ + k) / 8, none⟩) hgb _).drew
          case measure => simp [intOf]; omega
        · have q2 : decide ((k : Int) < 8 * (l.length : Int) - at_) = false := by simp; omega
          have e1 := Lib.hid (show flips l at_ mask (8 * l.length - at_) (k + 1) = flips l at_ mask (8 * l.length - at_) k by simp only [flips]; rw [if_neg (by omega)])
          have e2 := Lib.hid (turnedB_skip (mask := mask) (c := 8 * l.length - at_) (k := k) (by omega))
          clear hm hc
          go_wp2
          go_roundw
          case rel => exact ⟨k + 1, by omega, by go_num, by rw [e2.out], by rw [e1.out]; exact HO1.out, HB1.out⟩
          case measure => simp [intOf]; omega
      · have q1 : (((mask.toNat : Int) / 2 ^ k).tmod 2 == 1) = false := by rw [mask_bit, if_neg hm]; rfl
        have e1 := Lib.hid (show flips l at_ mask (8 * l.length - at_) (k + 1) = flips l at_ mask (8 * l.length - at_) k by simp only [flips]; rw [if_neg (fun h => hm h.1)])
        have e2 := Lib.hid (turnedB_skip (mask := mask) (c := 8 * l.length - at_) (k := k) (fun h => hm h.1))
        clear hm
        go_wp2
        go_roundw
        case rel => exact ⟨k + 1, by omega, by go_num, by rw [e2.out], by rw [e1.out]; exact HO1.out, HB1.out⟩
        case measure => simp [intOf]; omega
    · obtain rfl : k = 32 := by omega
      go_wp2
      go_ret2
      have h := HO1.out
      rw [flips_len] at h
      exact ⟨_, rfl, h, HB1.out⟩

set_option maxHeartbeats 800000 in
theorem Join_ref (a b : BitVec 32) (n : Int) (w : World) (hn : n ≤ 9223372036854775807) (hm : -9223372036854775808 ≤ n) :
    Calls Try.prog 23 #[.int .u32 (a.toNat : Int), .int .u32 (b.toNat : Int), .int .i64 n] w fun e w' => e = .returned (.int .u32 ((turns (8 * n.toNat) a ^^^ b).toNat : Int)) ∧ w = w' := by
  go_enter Try.func23, Try.ntmps23
  go_wp2
  go_loop [0, 7] (fun x i => ∃ k : Nat, k ≤ n.toNat ∧ i = .int .i64 k ∧ x = .int .u32 ((turns (8 * k) a).toNat : Int)) (fun _ i => n.toNat - (intOf i).toNat)
  case atStart => exact ⟨0, by omega, rfl, rfl⟩
  case round =>
    obtain ⟨k, hk, rfl, rfl⟩ := hrel
    by_cases hlt : (k : Int) < n
    · have hs := Lib.hid (show turns (8 * (k + 1)) a = turns 8 (turns (8 * k) a) by rw [← turns_add]; congr 1)
      go_wp2_with (go_at_call 25; refine (zed_any _ _).mono ?_; rintro e w' ⟨rfl, rfl⟩)
      go_round
      case rel => exact ⟨k + 1, by omega, by go_num, val_int (by rw [hs.out])⟩
      case measure => simp [intOf]; omega
    · have hs := Lib.hid (show n.toNat = k by omega)
      go_wp2
      go_ret
      exact ⟨ret_int (by rw [hs.out, ← BitVec.toNat_xor, xor32]), rfl⟩
end Go.Proofs.Ytkhnpmeaklcmaaa
