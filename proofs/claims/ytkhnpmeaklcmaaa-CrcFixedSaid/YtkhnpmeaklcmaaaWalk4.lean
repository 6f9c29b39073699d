/- The contract of the reference's Fits, whatever the bytes. -/
import Derived.Test.YtkhnpmeaklcmaaaWalk3
set_option linter.unusedSimpArgs false
set_option linter.unusedVariables false
namespace Go.Proofs.Ytkhnpmeaklcmaaa
open Go.RowKit Go.Proofs.Ytkhnpmeaklcmaaa.Crc

theorem four_of_len {l : List Int} (h : l.length = 4) : ∃ a b c d, l = [a, b, c, d] := by
  match l, h with
  | [a, b, c, d], _ => exact ⟨a, b, c, d, rfl⟩
theorem fourZ (x : BitVec 32) : four x = [(x.toNat : Int) % 256, (x.toNat : Int) / 256 % 256, (x.toNat : Int) / 65536 % 256, (x.toNat : Int) / 16777216] := by
  unfold four
  simp only [Int.natCast_emod, Int.natCast_ediv]
  rfl
theorem cell_back {w : World} {A : Option Addr} {m : Nat} {l : List Int} {a b c d : Int} (h : RdB w A (m + 4) l) (e : l.drop m = [a, b, c, d]) :
    ∃ ad, A = some ad ∧ w.cell? (ad.add m) = some (.int .u8 a) ∧ w.cell? ⟨ad.block, ad.off + (m + 1), none⟩ = some (.int .u8 b) ∧ w.cell? ⟨ad.block, ad.off + (m + 2), none⟩ = some (.int .u8 c) ∧ w.cell? ⟨ad.block, ad.off + (m + 3), none⟩ = some (.int .u8 d) := by
  obtain ⟨ad, rfl, hc⟩ := h.2 (by omega)
  have get : ∀ j x, [a, b, c, d][j]? = some x → w.cell? (ad.add (m + j)) = some (.int .u8 x) := fun j x hj => by
    have := hc (m + j) x 0 _ (by rw [← hj, ← e, List.getElem?_drop]) rfl
    rwa [Nat.mul_one, Nat.add_zero] at this
  have pl : ∀ j, 0 < j → ad.add (m + j) = ⟨ad.block, ad.off + (m + j), none⟩ := fun j hj => by unfold Addr.add; rw [if_neg (by omega)]
  exact ⟨ad, rfl, get 0 a rfl, by rw [← pl 1 (by omega)]; exact get 1 b rfl, by rw [← pl 2 (by omega)]; exact get 2 c rfl, by rw [← pl 3 (by omega)]; exact get 3 d rfl⟩

set_option maxHeartbeats 1600000 in
set_option maxRecDepth 100000 in
theorem refFits_any (A : Option Addr) (n cap : Nat) (l : List Int) (w : World) (hr : RdB w A n l) (hb : InB l) (hc : n ≤ cap) (hm : cap ≤ maxLen) :
    Calls Try.prog 20 #[.slice A n cap] w fun e w' => e = .returned (.bool (fits l)) ∧ w = w' := by
  unfold maxLen at hm
  by_cases h4 : n < 4
  · have e2 := Lib.hid (fits_short (l := l) (by rw [hr.1]; exact h4))
    clear hr
    have t1 : decide ((n : Int) - 4 < (0 : Int)) = true := by simp; omega
    have t2 : decide ((n : Int) < 4) = true := by simp; omega
    go_enter Try.func20, Try.ntmps20
    go_wp2
    go_ret
    exact ⟨by rw [e2.out]; rfl, rfl⟩
  · obtain ⟨m, rfl⟩ : ∃ m, n = m + 4 := ⟨n - 4, by omega⟩
    have e2 := Lib.hid (fits_long (l := l) (m := m) hr.1)
    obtain ⟨x0, x1, x2, x3, e4⟩ := four_of_len (l := l.drop m) (by rw [List.length_drop, hr.1]; omega)
    obtain ⟨ad, rfl, c0, c1, c2, c3⟩ := cell_back hr e4
    have E4 := Lib.hid e4
    have hs0 := refSum_any (some ad) m cap (l.take m) w (hr.take (by omega)) (hb.take m) (by unfold maxLen; omega)
    have hz0 := fourZ (sum (l.take m))
    obtain ⟨s, hsv, hsa, hsb⟩ : ∃ s : Int, ((sum (l.take m)).toNat : Int) = s ∧ 0 ≤ s ∧ s < 4294967296 := ⟨_, rfl, by omega, by have := lt32 (sum (l.take m)); omega⟩
    rw [hsv] at hs0 hz0
    have hs := Lib.hid hs0
    have key : ∀ b : Bool, decide ([x0, x1, x2, x3] = [s % 256, s / 256 % 256, s / 65536 % 256, s / 16777216]) = b → fits l = b := fun b hb => by rw [e2.out, e4, hz0, hb]
    have KEY := Lib.hid key
    clear hr e4 key hz0 hs0 hsv e2
    have b1 : (m : Int) + 4 ≤ cap := by omega
    have b4 : (cap : Int) ≤ 9223372036854775807 := by omega
    go_enter Try.func20, Try.ntmps20
    go_wp2_with fail
    refine (hs.out).mono ?_
    rintro e w' ⟨rfl, rfl⟩
    by_cases q0 : x0 = s % 256
    · subst q0
      by_cases q1 : x1 = s / 256 % 256
      · subst q1
        by_cases q2 : x2 = s / 65536 % 256
        · subst q2
          by_cases q3 : x3 = s / 16777216
          · subst q3
            have hk := Lib.hid (KEY.out true (by simp))
            go_wp2
            go_ret
            exact ⟨by rw [hk.out]; rfl, rfl⟩
          · have hk := Lib.hid (KEY.out false (by simp [q3]))
            have t : (x3 == s / 16777216) = false := by simpa using q3
            clear q3
            go_wp2
            go_ret
            exact ⟨by rw [hk.out]; rfl, rfl⟩
        · have hk := Lib.hid (KEY.out false (by simp [q2]))
          have t : (x2 == s / 65536 % 256) = false := by simpa using q2
          clear q2
          go_wp2
          go_ret
          exact ⟨by rw [hk.out]; rfl, rfl⟩
      · have hk := Lib.hid (KEY.out false (by simp [q1]))
        have t : (x1 == s / 256 % 256) = false := by simpa using q1
        clear q1
        go_wp2
        go_ret
        exact ⟨by rw [hk.out]; rfl, rfl⟩
    · have hk := Lib.hid (KEY.out false (by simp [q0]))
      have t : (x0 == s % 256) = false := by simpa using q0
      clear q0
      go_wp2
      go_ret
      exact ⟨by rw [hk.out]; rfl, rfl⟩
end Go.Proofs.Ytkhnpmeaklcmaaa
