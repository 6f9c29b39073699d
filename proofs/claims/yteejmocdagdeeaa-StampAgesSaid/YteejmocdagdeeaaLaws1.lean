/- The law StampWraps: however many Resets, nothing of before is there. -/
import Derived.Test.YteejmocdagdeeaaWalk5
set_option linter.unusedSimpArgs false
set_option linter.unusedVariables false
namespace Go.Proofs.Yteejmocdagdeeaa
open Go.RowKit

def BoolBelow (b : Bool) (w : World) (e : Ending) (w' : World) : Prop := e = .returned (.bool b) ∧ Below w.heap.size w w'

theorem one_set (q : Nat) (v : Int) : held (put (empty 4) ((q : Int) % 4) v) = 1 := by
  have h : (q : Int) % 4 = 0 ∨ (q : Int) % 4 = 1 ∨ (q : Int) % 4 = 2 ∨ (q : Int) % 4 = 3 := by omega
  rcases h with h | h | h | h <;> rw [h] <;> rfl
theorem one_look (q : Nat) (v : Int) : look (put (empty 4) ((q : Int) % 4) v) ((q : Int) % 4) = some v := by
  have h : (q : Int) % 4 = 0 ∨ (q : Int) % 4 = 1 ∨ (q : Int) % 4 = 2 ∨ (q : Int) % 4 = 3 := by omega
  rcases h with h | h | h | h <;> rw [h] <;> rfl
theorem one_other (q : Nat) (v : Int) : look (put (empty 4) ((q : Int) % 4) v) (((q : Int) + 1) % 4) = none := by
  have h : ((q : Int) % 4 = 0 ∧ ((q : Int) + 1) % 4 = 1) ∨ ((q : Int) % 4 = 1 ∧ ((q : Int) + 1) % 4 = 2) ∨ ((q : Int) % 4 = 2 ∧ ((q : Int) + 1) % 4 = 3) ∨ ((q : Int) % 4 = 3 ∧ ((q : Int) + 1) % 4 = 0) := by omega
  rcases h with ⟨h, h'⟩ | ⟨h, h'⟩ | ⟨h, h'⟩ | ⟨h, h'⟩ <;> rw [h, h'] <;> rfl

theorem New_ex (n : Nat) (age : Int) (w : World) (hn : n ≤ 65536) (h0 : 0 ≤ age) (h1 : age ≤ 4294967295) :
    Calls Try.prog 7 #[.int .i64 n, .int .u32 age] w fun e w' => ∃ b g, e = .returned (.tuple #[.pointer (some ⟨b, 0, none⟩), .nilIface]) ∧
      St w' b g (empty n) ∧ Below w.heap.size w w' ∧ w.heap.size ≤ b ∧ w.heap.size ≤ g :=
  (New_St n age w hn h0 h1).mono fun e w' ⟨he, hs, hb⟩ => ⟨_, _, he, hs, hb, by omega, by omega⟩
/-- The whole number's rest by 4 that the walk writes. -/
theorem look_empty (n : Nat) (i : Int) : look (empty n) i = none := by
  unfold look empty
  split
  · rw [List.getD_eq_getElem?_getD, List.getElem?_replicate]; split <;> rfl
  · rfl
theorem marks_empty (n : Nat) : marks (empty n) = [] := by
  have e : (fun i => ((empty n).getD i none).isSome) = fun _ => false := by
    funext i
    unfold empty
    rw [List.getD_eq_getElem?_getD, List.getElem?_replicate]
    split <;> rfl
  unfold marks picks
  rw [e]; simp

set_option maxHeartbeats 800000 in
theorem StampWraps_walk (a0 a1 a2 : Int) (w : World) (w0 : (Lit.int .u8 a0).wf = true) (w1 : (Lit.int .u8 a1).wf = true) (w2 : (Lit.int .u64 a2).wf = true) :
    Calls Try.prog 4 #[.int .u8 a0, .int .u8 a1, .int .u64 a2] w (BoolBelow true w) := by
  have h0 : 0 ≤ a0 ∧ a0 ≤ 255 := by simpa [Lit.wf, IntKind.min, IntKind.max, IntKind.signed, IntKind.bits] using w0
  have h1 : 0 ≤ a1 ∧ a1 ≤ 255 := by simpa [Lit.wf, IntKind.min, IntKind.max, IntKind.signed, IntKind.bits] using w1
  obtain ⟨n, rfl⟩ : ∃ n : Nat, a1 = n := ⟨a1.toNat, by omega⟩
  clear w0 w1 w2
  go_enter Try.func4, Try.ntmps4
  go_wp2_with fail
  refine (awake_any w).mono ?_
  rintro e w1 ⟨rfl, hb1⟩
  have B1 := Lib.hid hb1
  clear hb1
  go_wp2_with fail
  refine (New_ex 4 _ w1 (by omega) (by omega) (by omega)).mono ?_
  rintro e w2 ⟨b, g, rfl, hs2, hb2, hb, hg⟩
  have B2 : Hid (Below w.heap.size w w2) := Lib.hid (B1.out.trans (hb2.mono B1.out.size))
  have S2 := Lib.hid hs2
  have Hb : Hid (w.heap.size ≤ b) := Lib.hid (Nat.le_trans B1.out.size hb)
  have Hg : Hid (w.heap.size ≤ g) := Lib.hid (Nat.le_trans B1.out.size hg)
  clear hs2 hb2 hb hg
  go_wp2_with fail
  go_loopw [31] (fun i wr => ∃ j : Nat, j ≤ n ∧ i = .int .i64 j ∧ St wr b g (empty 4) ∧ Below w.heap.size w wr) (fun i _ => n - (intOf i).toNat)
  case atStart => exact ⟨0, by omega, rfl, S2.out, B2.out⟩
  case round =>
    obtain ⟨j, hj, rfl, hs, hb⟩ := hrel
    have S3 := Lib.hid hs
    have B3 := Lib.hid hb
    clear hs hb
    by_cases hlt : j < n
    · have hlen : (empty 4).length ≤ 65536 := by simp [empty]
      have hq : 0 ≤ (j : Int) % 4 ∧ (j : Int) % 4 < ((empty 4).length : Nat) := by rw [empty, List.length_replicate]; omega
      have HQ := Lib.hid hq
      have HL := Lib.hid hlen
      clear hq hlen
      go_wp2_with fail
      refine (Set_St S3.out _ a2 HL.out (by omega) (by omega)).mono ?_
      rintro e w4 ⟨rfl, hs, ht⟩
      rw [if_pos HQ.out]
      have B4 := Lib.hid (ht.below B3.out Hb.out Hg.out)
      have S4 := Lib.hid hs
      have HL4 : Hid ((put (empty 4) ((j : Int) % 4) a2).length ≤ 65536) := Lib.hid (by rw [put_len]; exact HL.out)
      clear hs ht
      go_wp2_with fail
      refine (Len_St S4.out).mono ?_
      rintro e w5 ⟨rfl, rfl⟩
      rw [one_set]
      go_wp2_with fail
      refine (Get_St S4.out _ HL4.out (by omega) (by omega)).mono ?_
      rintro e w5 ⟨rfl, hd⟩
      rw [one_look, got]
      have B5 := Lib.hid (B4.out.trans (hd.below _))
      have S5 := Lib.hid (S4.out.drawn hd)
      clear hd
      go_wp2_with fail
      refine (Get_St S5.out _ HL4.out (by omega) (by omega)).mono ?_
      rintro e w6 ⟨rfl, hd⟩
      rw [one_other, got]
      have B6 := Lib.hid (B5.out.trans (hd.below _))
      have S6 := Lib.hid (S5.out.drawn hd)
      clear hd
      go_wp2_with fail
      refine (Reset_St S6.out HL4.out).mono ?_
      rintro e w7 ⟨rfl, hs, ht⟩
      rw [put_len, show (empty 4).length = 4 by simp [empty]] at hs
      have B7 := Lib.hid (ht.below B6.out Hb.out Hg.out)
      have S7 := Lib.hid hs
      clear hs ht
      go_wp2_with fail
      refine (Len_St S7.out).mono ?_
      rintro e w8 ⟨rfl, rfl⟩
      rw [held_empty]
      go_wp2_with fail
      refine (All_St S7.out HL.out).mono ?_
      rintro e w8 ⟨v, rfl, ho, hb⟩
      rw [marks_empty] at ho
      obtain ⟨A, c, rfl, hc, hm⟩ := ho.form
      have B8 := Lib.hid (B7.out.trans (hb.mono B7.out.size))
      have S8 := Lib.hid (S7.out.below hb)
      clear hb ho hc hm
      rw [List.length_nil]
      go_wp2_with fail
      go_loopw [81] (fun i wr => ∃ q : Nat, q ≤ 4 ∧ i = .int .i64 q ∧ St wr b g (empty 4) ∧ Below w.heap.size w wr) (fun i _ => 4 - (intOf i).toNat)
      case atStart => exact ⟨0, by omega, rfl, S8.out, B8.out⟩
      case round =>
        obtain ⟨q, hq, rfl, hs, hb⟩ := hrel
        have S9 := Lib.hid hs
        have B9 := Lib.hid hb
        clear hs hb
        by_cases hlt4 : q < 4
        · go_wp2_with fail
          refine (Get_St S9.out _ HL.out (by omega) (by omega)).mono ?_
          rintro e w10 ⟨rfl, hd⟩
          rw [look_empty, got]
          have B10 := Lib.hid (B9.out.trans (hd.below _))
          have S10 := Lib.hid (S9.out.drawn hd)
          clear hd
          go_wp2
          go_roundw
          case rel => exact ⟨q + 1, by omega, by go_num, S10.out, B10.out⟩
          case measure => simp [intOf]; omega
        · go_wp2
          go_roundw
          case rel => exact ⟨j + 1, by omega, by go_num, S9.out, B9.out⟩
          case measure => simp [intOf]; omega
    · obtain rfl : j = n := by omega
      go_wp2
      go_ret
      exact ⟨rfl, B3.out⟩
end Go.Proofs.Yteejmocdagdeeaa
