/- Contracts of the reference's Seal, of Same, slices.Equal and Fits, whatever the bytes. -/
import Derived.Test.YtkhnpmeaklcmaaaWalk2
import Derived.Deep.RegionWith
set_option linter.unusedSimpArgs false
set_option linter.unusedVariables false
namespace Go.Proofs.Ytkhnpmeaklcmaaa
open Go.RowKit Go.Proofs.Ytkhnpmeaklcmaaa.Crc

theorem rd_four (x : BitVec 32) (W : World) : RdB (W.alloc (.cells #[.int .u8 ((x.toNat : Int) % 256), .int .u8 ((x.toNat : Int) / 256 % 256), .int .u8 ((x.toNat : Int) / 65536 % 256), .int .u8 ((x.toNat : Int) / 16777216)] 5)) (some ⟨W.heap.size, 0, none⟩) 4 (four x) := by
  have h := rd_new u8s_len W 5 (four x)
  rw [← fourV_eq] at h
  exact h

theorem refSeal_any (A : Option Addr) (n cap : Nat) (l : List Int) (w : World) (hr : RdB w A n l) (hb : InB l) (hn : n + 4 ≤ 140737488355328) :
    Calls Try.prog 18 #[.slice A n cap] w (MadeB w (sealed l)) := by
  have hc := Lib.hid (refSum_any A n cap l w hr hb (by unfold maxLen; omega))
  have H := Lib.hid hr
  have hl := Lib.hid hr.1
  clear hr
  go_enter Try.func18, Try.ntmps18
  go_wp2_with fail
  refine (hc.out).mono ?_
  rintro e w1 ⟨rfl, rfl⟩
  go_wp2_with (first | (at_builtin; refine wpList_append_rd rfl (.tmp 7) (.tmp 8) 23 rfl 5 (.int .u8 0) 1 Try.underlying23 info_u8 rfl (by omega) (by omega) u8s_len u8s_one w.heap.size (.slice none 0 0) [] rfl (Own.nil _ _ _ _ _) A n cap l rfl H.out (by simp only [List.length_nil]; omega) (Nat.le_refl _) ?_; intro v1 w1 ho hg hat; have HO := Lib.hid ho; have HG := Lib.hid hg; have HB := Lib.hid ((Below.refl _ _).grown hg (Nat.le_refl _) (by simp [Value.ownBlock])); clear ho hg hat) | (at_builtin; refine wpList_append_rd rfl (.tmp 10) (.tmp 22) 23 rfl 5 (.int .u8 0) 1 Try.underlying23 info_u8 rfl (by omega) (by omega) u8s_len u8s_one w.heap.size v1 ([] ++ l) rfl (HO.out.below ((Below.refl _ _).alloc (Nat.le_refl _) _)) _ 4 4 (four (sum l)) rfl (rd_four _ _) (by have := hl.out; simp only [List.nil_append]; omega) (by have := HB.out.size; simp; omega) ?_; intro v2 w2 ho2 hg2 hat2))
  go_ret
  refine ⟨v2, rfl, by simpa [sealed] using ho2, ?_⟩
  exact below_own (HB.out.alloc HB.out.size _) (HO.out.below ((Below.refl _ _).alloc (Nat.le_refl _) _)) hg2 (Nat.le_refl _) (by have := HB.out.size; simp; omega)

theorem Same_any (A : Option Addr) (n cap : Nat) (l : List Int) (A' : Option Addr) (n' cap' : Nat) (l' : List Int) (w : World) (hr : RdB w A n l) (hr' : RdB w A' n' l') (hb : InB l) (hb' : InB l') :
    Calls Try.prog 17 #[.slice A n cap, .slice A' n' cap'] w fun e w' => e = .returned (.bool (decide (l = l'))) ∧ w = w' := by
  have h1 := string_of_rd (P := Try.prog) (c := cap) Try.underlying23 Try.underlying5 Try.underlying9 hr
  have h2 := string_of_rd (P := Try.prog) (c := cap') Try.underlying23 Try.underlying5 Try.underlying9 hr'
  have he := Lib.hid (str_eq hb hb')
  clear hr hr' hb hb'
  go_enter Try.func17, Try.ntmps17
  go_wp2
  go_ret
  exact ⟨by show Ending.returned (.bool _) = _; rw [he.out], rfl⟩

def BoolDrawn (b : Bool) (w : World) (e : Ending) (w' : World) : Prop := e = .returned (.bool b) ∧ Drawn w w'

theorem take_eq_succ {l m : List Int} {k : Nat} (h1 : k < l.length) (h2 : k < m.length) (h : l.take k = m.take k) (he : l[k] = m[k]) : l.take (k + 1) = m.take (k + 1) := by
  rw [List.take_succ_eq_append_getElem h1, List.take_succ_eq_append_getElem h2, h, he]

theorem Equal_any (A : Option Addr) (n cap : Nat) (l : List Int) (A' : Option Addr) (n' cap' : Nat) (l' : List Int) (w : World) (hr : RdB w A n l) (hr' : RdB w A' n' l') (hn : n ≤ maxLen) (hn' : n' ≤ maxLen) :
    Calls Try.prog 28 #[.slice A n cap, .slice A' n' cap'] w (BoolDrawn (decide (l = l')) w) := by
  unfold maxLen at hn hn'
  have H := Lib.hid hr
  have H' := Lib.hid hr'
  have hl := Lib.hid hr.1
  have hl' := Lib.hid hr'.1
  clear hr hr'
  by_cases hnn : n = n'
  · subst hnn
    have t0 : (n == n) = true := by simp
    have t1 : ((n : Int) != (n : Int)) = false := by simp
    go_enter Try.func28, Try.ntmps28
    go_wp2
    go_loopw [13] (fun i wr => ∃ k : Nat, k ≤ n ∧ i = .int .i64 k ∧ Hid (l.take k = l'.take k) ∧ Drawn w wr) (fun i _ => n - (intOf i).toNat)
    case atStart => exact ⟨0, Nat.zero_le _, rfl, rfl, Drawn.refl _⟩
    case round =>
      obtain ⟨k, hk, rfl, he, hd⟩ := hrel
      have HD := Lib.hid hd
      clear hd
      by_cases hlt : k < n
      · obtain ⟨ad, rfl, hc⟩ := (H.out.drawn HD.out).at1 hlt
        obtain ⟨ad', rfl, hc'⟩ := (H'.out.drawn HD.out).at1 hlt
        by_cases hx : l[k]'(by have := hl.out; omega) = l'[k]'(by have := hl'.out; omega)
        · have hs := Lib.hid (take_eq_succ (by have := hl.out; omega) (by have := hl'.out; omega) he.out hx)
          rw [← hx] at hc'
          clear hx
          generalize l[k]'(by have := hl.out; omega) = x at *
          have hx2 : (x != x) = false := by simp
          go_wp2
          go_quiet (fail)
          go_wp2
          go_roundw
          case rel => exact ⟨k + 1, by omega, by go_num, hs, HD.out.step _⟩
          case measure => simp [intOf]; omega
        · have e2 := Lib.hid (decide_eq_false (show l ≠ l' from fun e => hx (by subst e; rfl)))
          generalize l[k]'(by have := hl.out; omega) = x at *
          generalize l'[k]'(by have := hl'.out; omega) = y at *
          have hx2 : (x != y) = true := by simpa using hx
          clear hx
          go_wp2
          go_quiet (fail)
          go_wp2
          go_ret
          exact ⟨by rw [e2.out]; rfl, HD.out.step _⟩
      · obtain rfl : k = n := by omega
        have e : l = l' := by
          have h := he.out
          rwa [List.take_of_length_le (by have := hl.out; omega), List.take_of_length_le (by have := hl'.out; omega)] at h
        have e2 := Lib.hid (decide_eq_true e)
        clear e
        go_wp2
        go_ret
        exact ⟨by rw [e2.out]; rfl, HD.out⟩
  · have e2 := Lib.hid (decide_eq_false (show l ≠ l' from fun e => hnn (by rw [← hl.out, ← hl'.out, e])))
    have t0 : (n == n') = false := by simpa using hnn
    have t1 : ((n : Int) != (n' : Int)) = true := by simp; omega
    go_enter Try.func28, Try.ntmps28
    go_wp2
    go_ret
    exact ⟨by rw [e2.out]; rfl, Drawn.refl _⟩

theorem fits_short {l : List Int} (h : l.length < 4) : fits l = false := by
  unfold fits
  rw [decide_eq_false (by omega)]; rfl
theorem fits_long {l : List Int} {m : Nat} (h : l.length = m + 4) : fits l = decide (l.drop m = four (sum (l.take m))) := by
  unfold fits
  rw [decide_eq_true (by omega), show l.length - 4 = m by omega]; rfl
def BoolBelow (b : Bool) (w : World) (e : Ending) (w' : World) : Prop := e = .returned (.bool b) ∧ Below w.heap.size w w'

set_option maxHeartbeats 400000 in
theorem Fits_any (A : Option Addr) (n cap : Nat) (l : List Int) (w : World) (hr : RdB w A n l) (hb : InB l) (hc : n ≤ cap) (hm : cap ≤ maxLen) :
    Calls Try.prog 19 #[.slice A n cap] w (BoolBelow (fits l) w) := by
  unfold maxLen at hm
  by_cases h4 : n < 4
  · have e2 := Lib.hid (fits_short (l := l) (by rw [hr.1]; exact h4))
    clear hr
    have t1 : decide ((0 : Int) ≤ (n : Int) - 4) = false := by simp; omega
    have t2 : decide ((4 : Int) ≤ (n : Int)) = false := by simp; omega
    go_enter Try.func19, Try.ntmps19
    go_wp2
    go_quiet (fail)
    go_wp2
    go_ret
    exact ⟨by rw [e2.out]; rfl, (Drawn.refl _).step _ |>.below _⟩
  · obtain ⟨m, rfl⟩ : ∃ m, n = m + 4 := ⟨n - 4, by omega⟩
    have e2 := Lib.hid (fits_long (l := l) (m := m) hr.1)
    have H1 : ∀ W, Drawn w W → Hid (RdB W A m (l.take m)) := fun W hd => (hr.take (by omega)).drawn hd
    have H2 : ∀ W, Below w.heap.size w W → Hid (RdB W (A.map (·.add (m * 1))) 4 (l.drop m)) := fun W hd => by
      have h := (hr.below hd).drop (k := m) (cap := cap) (by omega) hc
      rw [if_neg (by omega), show m + 4 - m = 4 by omega] at h
      exact h
    have HH1 := Lib.hid H1
    have HH2 := Lib.hid H2
    have hs := Lib.hid (fun W (h : RdB W A m (l.take m)) => sum_post A m cap (l.take m) W h (hb.take m) (by unfold maxLen; omega))
    clear hr H1 H2
    have t1 : decide ((0 : Int) ≤ (m : Int)) = true := by simp
    have b1 : (m : Int) + 4 ≤ cap := by omega
    have b2 : (m : Int) ≤ (m : Int) + 4 := by omega
    have b3 : (m : Int) ≤ cap := by omega
    have b4 : (cap : Int) ≤ 9223372036854775807 := by omega
    have b5 : ¬ (cap = m) := by omega
    go_enter Try.func19, Try.ntmps19
    go_wp2
    refine wp_region_any (by kernel_rfl) ?_
    refine wpAny_takes (fuel := 4) (by kernel_rfl) (fun _ _ _ d _ h => by cases d <;> exact h) [0, 1, 2, 3, 4, 5, 6, 7, 8] _ _ _ (by kernel_rfl) ?_
    iterate 9 (refine YTo.cons (v := ?_) rfl (by rfl) ?_ ?_; rotate_left 1; (focus (intro w; go_simp; try with_reducible rfl)); go_frame)
    refine YTo.nil ?_
    refine wpAny_ready (rs := [9]) (by kernel_rfl) (by simp) (AllReady.cons rfl (fun K hK => ?_) AllReady.nil)
    go_simp
    refine (hs.out _ (HH1.out _ ⟨1, rfl⟩).out).mono ?_
    rintro e w1 ⟨rfl, h4, hb1, hs1⟩
    have HB : Hid (Below w.heap.size w w1) := Lib.hid ((Drawn.below ⟨1, rfl⟩ _).trans hb1)
    have H4 := Lib.hid h4
    clear h4 hb1 hs1
    refine hK _ _ ?_
    clear hK K
    refine wpAny_ready (rs := [10]) (by kernel_rfl) (by simp) (AllReady.cons rfl (fun K hK => ?_) AllReady.nil)
    go_simp
    have h5 := Lib.hid (HH2.out _ HB.out).out
    rw [Nat.mul_one] at h5
    refine (Equal_any _ _ _ (l.drop m) _ _ _ (four (sum (l.take m))) _ h5.out H4.out (by unfold maxLen; omega) (by unfold maxLen; omega)).mono ?_
    rintro e w2 ⟨rfl, hd⟩
    have HB2 : Hid (Below w.heap.size w w2) := Lib.hid (HB.out.trans (hd.below _))
    clear hd
    refine hK _ _ ?_
    clear hK K
    refine wpAny_takes (fuel := 0) (by kernel_rfl) (fun _ _ _ d _ h => by cases d <;> exact h) [11, 12] _ _ _ (by kernel_rfl) ?_
    iterate 2 (refine YTo.cons (v := ?_) rfl (by rfl) ?_ ?_; rotate_left 1; (focus (intro w; go_simp; try with_reducible rfl)); go_frame)
    refine YTo.nil ?_
    refine wpAny_done (by kernel_rfl) ?_ _
    go_wp2
    go_ret
    exact ⟨by rw [e2.out]; rfl, HB2.out⟩
end Go.Proofs.Ytkhnpmeaklcmaaa
