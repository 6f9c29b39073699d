/- The walk of CrcPieces: it returns true, whatever the word and the two lists (together at most 1,048,576 bytes), and leaves old memory as it was. -/
import Derived.Test.YtkhnpmeaklcmaaaLaws2
set_option linter.unusedSimpArgs false
set_option linter.unusedVariables false
namespace Go.Proofs.Ytkhnpmeaklcmaaa
open Go.RowKit Go.Proofs.Ytkhnpmeaklcmaaa.Crc

set_option maxHeartbeats 800000 in
theorem CrcPieces_walk (c : Int) (a : Option Addr) (len cap : Nat) (zs : List Int) (a' : Option Addr) (len' cap' : Nat) (zs' : List Int) (w : World) (wc : (Lit.int .u32 c).wf = true) (hz : IsRow .u8 w a len cap zs) (hy : len * 1 ≤ 140737488351232)
    (hz' : IsRow .u8 w a' len' cap' zs') (hy' : len' * 1 ≤ 140737488351232) (small : cap + cap' ≤ 1048576) :
    Calls Try.prog 8 #[.int .u32 c, .slice a len cap, .slice a' len' cap'] w (BoolBelow true w) := by
  obtain ⟨x, rfl⟩ := word_of wc
  obtain ⟨hlc, hcm⟩ := hz.cap
  obtain ⟨hlc', hcm'⟩ := hz'.cap
  have hr := Lib.hid hz.rd
  have hb := Lib.hid hz.inB
  have hl := Lib.hid hz.rd.1
  have hr' := Lib.hid hz'.rd
  have hb' := Lib.hid hz'.inB
  have hl' := Lib.hid hz'.rd.1
  clear hz hz' wc
  generalize zs.take len = p at *
  generalize zs'.take len' = q at *
  obtain rfl := hl.out
  obtain rfl := hl'.out
  obtain ⟨r, hpq⟩ : ∃ r, p ++ q = r := ⟨_, rfl⟩
  have hrl : r.length ≤ 1048576 := by rw [← hpq, List.length_append]; omega
  have KU := Lib.hid (carry_append x p q)
  have KS := Lib.hid (sum_append p q)
  rw [hpq] at KU KS
  have HPQ := Lib.hid hpq
  clear hpq
  go_enter Try.func8, Try.ntmps8
  go_wp2_with fail
  refine (awake_any w).mono ?_
  rintro e w1 ⟨rfl, hb1⟩
  have B1 := Lib.hid hb1
  clear hb1
  go_wp2_with (first | (at_builtin; refine wpList_append_rd rfl (.tmp 10) (.tmp 11) 23 rfl 5 (.int .u8 0) 1 Try.underlying23 info_u8 rfl (by omega) (by omega) u8s_len u8s_one w.heap.size (.slice none 0 0) [] rfl (Own.nil _ _ _ _ _) a _ cap p rfl (hr.out.below B1.out) (by simp only [List.length_nil]; omega) B1.out.size ?_; intro v2 w2 ho2 hg2 hat2; have B2 : Hid (Below w.heap.size w w2) := Lib.hid (B1.out.grown hg2 B1.out.size (by simp [Value.ownBlock])); have HO2 := Lib.hid ho2; clear ho2 hg2 hat2) | (at_builtin; refine wpList_append_rd rfl (.tmp 13) (.tmp 14) 23 rfl 5 (.int .u8 0) 1 Try.underlying23 info_u8 rfl (by omega) (by omega) u8s_len u8s_one w.heap.size v2 ([] ++ p) rfl HO2.out a' _ cap' q rfl (hr'.out.below B2.out) (by simp only [List.nil_append]; omega) B2.out.size ?_; intro v3 w3 ho3 hg3 hat3; have B3 : Hid (Below w.heap.size w w3) := Lib.hid (below_own B2.out HO2.out hg3 (Nat.le_refl _) B2.out.size); have HO3 := Lib.hid ho3; clear ho3 hg3 hat3))
  have ho4 := HO3.out
  rw [List.nil_append, HPQ.out] at ho4
  obtain ⟨A3, c3, hv3, hc3, hm3⟩ := ho4.form
  have R3 := Lib.hid (ho4.rd u8s_len hv3)
  rw [hv3]
  clear ho4 hv3 HO3
  have I3 := Lib.hid (hb.out.append hb'.out)
  rw [HPQ.out] at I3
  refine (Update_any x a _ cap p w3 (hr.out.below B3.out) hb.out (by unfold maxLen; omega)).mono ?_
  rintro e w3' ⟨rfl, rfl⟩
  go_wp2_with fail
  refine (Update_any (carry x p) a' _ cap' q w3 (hr'.out.below B3.out) hb'.out (by unfold maxLen; omega)).mono ?_
  rintro e w3' ⟨rfl, rfl⟩
  rw [KU.out]
  go_wp2_with fail
  refine (Update_any x A3 _ c3 r w3 R3.out I3.out (by unfold maxLen; omega)).mono ?_
  rintro e w3' ⟨rfl, rfl⟩
  go_wp2_with fail
  refine (Sum_any a _ cap p w3 (hr.out.below B3.out) hb.out (by unfold maxLen; omega)).mono ?_
  rintro e w3' ⟨rfl, rfl⟩
  go_wp2_with fail
  refine (Sum_any a' _ cap' q w3 (hr'.out.below B3.out) hb'.out (by unfold maxLen; omega)).mono ?_
  rintro e w3' ⟨rfl, rfl⟩
  go_wp2_with fail
  refine (Join_word (sum p) (sum q) (q.length : Int) (sum r) (by rw [KS.out, Int.toNat_natCast]) w3 (by omega) (by omega)).mono ?_
  rintro e w4 ⟨rfl, hb4⟩
  have R4 := Lib.hid (R3.out.below hb4)
  have B4 : Hid (Below w.heap.size w w4) := Lib.hid (B3.out.trans (hb4.mono B3.out.size))
  clear hb4
  go_wp2_with fail
  refine (Sum_any A3 _ c3 r w4 R4.out I3.out (by unfold maxLen; omega)).mono ?_
  rintro e w4' ⟨rfl, rfl⟩
  go_wp2
  go_ret
  exact ⟨rfl, B4.out⟩
end Go.Proofs.Ytkhnpmeaklcmaaa
