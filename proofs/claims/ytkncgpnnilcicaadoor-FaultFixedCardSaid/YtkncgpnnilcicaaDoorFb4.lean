/- The document's text of an error; texts joined piece by piece. -/
import Derived.Test.YtkncgpnnilcicaaDoorFb3
set_option linter.unusedSimpArgs false
set_option linter.unusedVariables false
namespace Go.Proofs.YtkncgpnnilcicaaDoor
open Go.RowKit Go.Extern.Stop Go.Stop Go.Extern

theorem joinB_nil : joinB [] = ⟨#[]⟩ := by unfold joinB; simp [Lib.join, List.intercalate]
theorem joinB_one (x : ByteArray) : joinB [x] = x := by unfold joinB; simp [Lib.join, List.intercalate]
theorem join_cons2 (x y : List UInt8) (l : List (List UInt8)) (s : List UInt8) : Lib.join (x :: y :: l) s = x ++ s ++ Lib.join (y :: l) s := by
  simp [Lib.join, List.intercalate, List.intersperse]
theorem join_snoc (s y : List UInt8) : ∀ l : List (List UInt8), l ≠ [] → Lib.join (l ++ [y]) s = Lib.join l s ++ s ++ y
  | [], h => absurd rfl h
  | [x], _ => by simp [Lib.join, List.intercalate, List.intersperse]
  | x :: z :: l, _ => by
    have ih := join_snoc s y (z :: l) (by simp)
    have e : (x :: z :: l) ++ [y] = x :: ((z :: l) ++ [y]) := rfl
    rw [e]
    cases hzl : (z :: l) ++ [y] with
    | nil => simp at hzl
    | cons a r =>
      rw [join_cons2, ← hzl, ih, join_cons2]
      simp [List.append_assoc]
theorem bytes_eq {a b : ByteArray} (h : a.data.toList = b.data.toList) : a = b := ByteArray.ext (Array.toList_inj.1 h)
theorem toList_append (a b : ByteArray) : (a ++ b).data.toList = a.data.toList ++ b.data.toList := by
  rw [ByteArray.data_append, Array.toList_append]
theorem joinB_snoc {l : List ByteArray} (h : l ≠ []) (y : ByteArray) : joinB (l ++ [y]) = joinB l ++ sepB ++ y := by
  apply bytes_eq
  rw [toList_append, toList_append]
  show Lib.join ((l ++ [y]).map (·.data.toList)) sepB.data.toList = Lib.join (l.map (·.data.toList)) sepB.data.toList ++ sepB.data.toList ++ y.data.toList
  rw [List.map_append, List.map_cons, List.map_nil, join_snoc _ _ _ (by simpa using h)]
theorem joinB_cons {l : List ByteArray} (h : l ≠ []) (x : ByteArray) : joinB (x :: l) = x ++ sepB ++ joinB l := by
  apply bytes_eq
  rw [toList_append, toList_append]
  show Lib.join ((x :: l).map (·.data.toList)) sepB.data.toList = x.data.toList ++ sepB.data.toList ++ Lib.join (l.map (·.data.toList)) sepB.data.toList
  cases l with
  | nil => exact absurd rfl h
  | cons y r => rw [List.map_cons, List.map_cons, join_cons2]
theorem joinB_size {M : Nat} {l : List ByteArray} (h : ∀ b ∈ l, b.size ≤ M) : (joinB l).size ≤ (M + 2) * l.length := by
  have := joinB_len M l h
  exact this
theorem words_size {ps : List (Int × Int)} (h : ∀ p ∈ ps, I64 p.2) : (joinB (ps.map wordB)).size ≤ 66 * ps.length := by
  have := joinB_size (M := 64) (l := ps.map wordB) (fun b hb => by obtain ⟨p, hp, rfl⟩ := List.mem_map.1 hb; have := wordB_size p (h p hp); omega)
  rwa [List.length_map] at this
set_option maxRecDepth 100000 in
theorem RText_any {W : World} (c : Int) (A : Option Addr) (n cap : Nat) (xs : List (Int × Int)) (hp : RdP W A n xs) (hn : n ≤ 64) (hps : ∀ p ∈ xs, I64 p.2) (hc : I64 c) (ht : Tab W) :
    Calls Tryd.prog 26 #[.agg #[.int .i64 c, .slice A n cap]] W fun e w' => e = .returned (.string (textB xs c)) ∧ Below W.heap.size W w' := by
  have HP := Lib.hid hp
  have HPS := Lib.hid hps
  have HC := Lib.hid hc
  have HT := Lib.hid ht
  clear hp hps hc ht
  generalize htx : textB xs c = tx
  have HT0 := Lib.hid htx
  clear htx
  go_enter Tryd.func26, Tryd.ntmps26
  go_wp2_with fail
  generalize hW1 : W.alloc (.cells #[.int .i64 c, .slice A n cap] 46) = W1
  have hcell : Cells W1 W.heap.size #[.int .i64 c, .slice A n cap] 46 := by rw [← hW1]; exact cells_new _ _ _
  have hb1 : Below W.heap.size W W1 := by rw [← hW1]; exact (Below.refl _ _).alloc (Nat.le_refl _) _
  have HCELL := Lib.hid hcell
  have HB1 := Lib.hid hb1
  clear hcell hb1 hW1
  go_loopw [3, 9] (fun sv iv wr => ∃ j : Nat, j ≤ n ∧ iv = .int .i64 j ∧ sv = .string (joinB ((xs.take j).map wordB)) ∧ Below W1.heap.size W1 wr) (fun _ iv _ => n - (intOf iv).toNat)
  case atStart => exact ⟨0, by omega, rfl, by rw [List.take_zero, List.map_nil, joinB_nil], Below.refl _ _⟩
  case round =>
    obtain ⟨j, hj, rfl, rfl, hb⟩ := hrel
    have HB := Lib.hid hb
    clear hb
    by_cases hlt : j < n
    · have g0 : decide ((j : Int) < (n : Int)) = true := decide_eq_true (by omega)
      obtain ⟨ad, hA, cc⟩ := (HP.out.below (HB1.out.trans (HB.out.mono HB1.out.size))).at_ hlt
      subst hA
      obtain ⟨c0, c1⟩ := two_places cc
      clear cc
      have hjx : j < xs.length := by have := HP.out.1; omega
      have htk := List.take_succ_eq_append_getElem hjx
      have hx := HPS.out xs[j] (List.getElem_mem _)
      generalize xs[j] = x at *
      obtain ⟨xk, xa⟩ := x
      dsimp only at c0 c1 hx
      have hz := wordB_size (xk, xa) hx
      have hs := words_size (ps := xs.take j) (fun p hp => HPS.out p (List.mem_of_mem_take hp))
      rw [List.length_take, Nat.min_eq_left (by omega)] at hs
      have hz1 : ¬ 9223372036854775807 < (joinB ((xs.take j).map wordB)).size + 2 := by omega
      have hz2 : ¬ 9223372036854775807 < (joinB ((xs.take j).map wordB)).size + 2 + (wordB (xk, xa)).size := by omega
      have hz3 : ¬ 9223372036854775807 < (joinB ((xs.take j).map wordB)).size + (wordB (xk, xa)).size := by omega
      have HTK := Lib.hid htk
      have HI := Lib.hid hx
      clear htk hx
      by_cases hj0 : 0 < j
      · have g1 : decide ((0 : Int) < (j : Int)) = true := decide_eq_true (by omega)
        have HJN : Hid (joinB ((xs.take (j + 1)).map wordB) = joinB ((xs.take j).map wordB) ++ sepB ++ wordB (xk, xa)) := Lib.hid (by
          rw [HTK.out, List.map_append, List.map_cons, List.map_nil, joinB_snoc]
          intro h
          have := congrArg List.length h
          rw [List.length_map, List.length_take, Nat.min_eq_left (by omega), List.length_nil] at this
          omega)
        generalize joinB ((xs.take j).map wordB) = s at *
        go_wp2_with fail
        refine (Word_any xk xa _ HI.out (tab_below HT.out (HB1.out.trans ((HB.out.trans ((Below.refl _ wr).alloc (Nat.le_refl _) _ |>.mono HB.out.size)).mono HB1.out.size)))).mono ?_
        rintro e w5 ⟨rfl, hb5⟩
        have HB5 := Lib.hid (HB.out.trans (((Below.refl _ wr).alloc (Nat.le_refl _) _).trans (hb5.mono (by simp)) |>.mono HB.out.size))
        clear hb5
        go_wp2_with fail
        go_roundw
        case rel => exact ⟨j + 1, by omega, by go_num, by rw [HJN.out]; rfl, HB5.out⟩
        case measure => simp [intOf]; omega
      · obtain rfl : j = 0 := by omega
        have ea : ad.add (0 * 2) = ad := by simp [Addr.add]
        rw [ea] at c0 c1
        clear ea
        have HJN : Hid (joinB ((xs.take (0 + 1)).map wordB) = joinB ((xs.take 0).map wordB) ++ wordB (xk, xa)) := Lib.hid (by
          rw [HTK.out, List.take_zero, List.map_append, List.map_cons, List.map_nil, List.nil_append, joinB_one, joinB_nil]
          apply bytes_eq
          rw [toList_append]; rfl)
        generalize joinB ((xs.take 0).map wordB) = s at *
        go_wp2_with fail
        refine (Word_any xk xa _ HI.out (tab_below HT.out (HB1.out.trans ((HB.out.trans ((Below.refl _ wr).alloc (Nat.le_refl _) _ |>.mono HB.out.size)).mono HB1.out.size)))).mono ?_
        rintro e w5 ⟨rfl, hb5⟩
        have HB5 := Lib.hid (HB.out.trans (((Below.refl _ wr).alloc (Nat.le_refl _) _).trans (hb5.mono (by simp)) |>.mono HB.out.size))
        clear hb5
        go_wp2_with fail
        go_roundw
        case rel => exact ⟨1, by omega, by go_num, by rw [HJN.out], HB5.out⟩
        case measure => simp [intOf]; omega
    · obtain rfl : j = n := by omega
      have htk : xs.take j = xs := List.take_of_length_le (by have := HP.out.1; omega)
      rw [htk]
      have hc := HCELL.out.below HB.out
      have d0 := hc.cell 0
      have d1 := hc.cell 1
      simp only [List.getElem?_toArray, List.getElem?_cons_zero, List.getElem?_cons_succ] at d0 d1
      have hs := words_size HPS.out
      have hlen := HP.out.1
      have hcs := sayB_size c HC.out
      have HB2 := Lib.hid (HB1.out.trans (HB.out.mono HB1.out.size))
      clear htk hc
      by_cases hc0 : c = 0
      · have HTX : Hid (textB xs c = joinB (xs.map wordB)) := Lib.hid (by unfold textB wordsB; rw [if_pos hc0, List.append_nil])
        have HTT : Hid (joinB (xs.map wordB) = tx) := Lib.hid (HTX.out.symm.trans HT0.out)
        clear HTX HT0
        subst hc0
        generalize hjs : joinB (xs.map wordB) = s at *
        clear hjs
        go_wp2_with fail
        go_ret
        exact ⟨by rw [← HTT.out]; rfl, HB2.out⟩
      · have g1 : (c != 0) = true := by simp [bne, hc0]
        have HWD := Lib.hid (Words_any c wr HC.out (tab_below HT.out HB2.out))
        by_cases hj0 : 0 < j
        · have g2 : decide ((0 : Int) < (j : Int)) = true := decide_eq_true (by omega)
          have HTX : Hid (textB xs c = joinB (xs.map wordB) ++ sepB ++ sayB c) := Lib.hid (by
            unfold textB wordsB
            rw [if_neg hc0, joinB_snoc]
            intro h
            have := congrArg List.length h
            rw [List.length_map, hlen, List.length_nil] at this
            omega)
          have HTT : Hid (joinB (xs.map wordB) ++ sepB ++ sayB c = tx) := Lib.hid (HTX.out.symm.trans HT0.out)
          clear HTX HT0
          generalize hjs : joinB (xs.map wordB) = s at *
          clear hjs
          have hz1 : ¬ 9223372036854775807 < s.size + 2 := by omega
          have hz2 : ¬ 9223372036854775807 < s.size + 2 + (sayB c).size := by omega
          clear hc0
          go_wp2_with fail
          refine HWD.out.mono ?_
          rintro e w5 ⟨rfl, hb5⟩
          have HB5 := Lib.hid (HB2.out.trans (hb5.mono HB2.out.size))
          clear hb5
          go_wp2_with fail
          go_ret
          exact ⟨by rw [← HTT.out]; rfl, HB5.out⟩
        · obtain rfl : j = 0 := by omega
          obtain rfl : xs = [] := List.eq_nil_of_length_eq_zero hlen
          have HTX : Hid (textB [] c = joinB (([] : List (Int × Int)).map wordB) ++ sayB c) := Lib.hid (by
            unfold textB wordsB
            rw [if_neg hc0, List.map_nil, List.nil_append, joinB_one, joinB_nil]
            apply bytes_eq
            rw [toList_append]; rfl)
          have HTT : Hid (joinB (([] : List (Int × Int)).map wordB) ++ sayB c = tx) := Lib.hid (HTX.out.symm.trans HT0.out)
          clear HTX HT0
          generalize hjs : joinB (([] : List (Int × Int)).map wordB) = s at *
          clear hjs
          have hz1 : ¬ 9223372036854775807 < s.size + (sayB c).size := by rw [List.length_nil] at hs; omega
          clear hc0
          go_wp2_with fail
          refine HWD.out.mono ?_
          rintro e w5 ⟨rfl, hb5⟩
          have HB5 := Lib.hid (HB2.out.trans (hb5.mono HB2.out.size))
          clear hb5
          go_wp2_with fail
          go_ret
          exact ⟨by rw [← HTT.out]; rfl, HB5.out⟩
end Go.Proofs.YtkncgpnnilcicaaDoor
