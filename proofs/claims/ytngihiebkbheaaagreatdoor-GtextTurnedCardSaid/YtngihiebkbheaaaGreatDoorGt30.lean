/- GtextTurned. -/
import Derived.Test.YtngihiebkbheaaaGreatDoorGt28
set_option linter.unusedSimpArgs false
set_option linter.unusedVariables false
namespace Go.Proofs.YtngihiebkbheaaaGreatDoor
open Go.RowKit Txt

theorem eqB10 (b : UInt8) : (((b.toNat : Nat) : Int) == 10) = decide (b = 10) := by
  by_cases h : b = 10
  · subst h; rfl
  · rw [decide_eq_false h, beq_eq_false_iff_ne]
    intro e
    exact h (UInt8.toNat_inj.1 (by have : (10 : UInt8).toNat = 10 := rfl; omega))
/-- lines with their ends -/
def flatL (l : List Bs) : Bs := l.flatMap fun x => x ++ [10]
theorem flatL_append (l m : List Bs) : flatL (l ++ m) = flatL l ++ flatL m := by unfold flatL; rw [List.flatMap_append]
theorem flatL_one (x : Bs) : flatL [x] = x ++ [10] := by simp [flatL]
theorem flatL_join (L : List (List Bs)) : flatL (L.map joinW) = textOf L := by
  unfold flatL textOf
  rw [List.flatMap_map]
theorem textOf_append (l m : List (List Bs)) : textOf (l ++ m) = textOf l ++ textOf m := by unfold textOf; rw [List.flatMap_append]
/-- the first j lines, with something else in the place of the line number k -/
def seqJ (P : List Bs) (z : Bs) (Q : List Bs) (M : Bs) (j : Nat) : Bs := if j ≤ P.length then flatL ((P ++ z :: Q).take j) else flatL P ++ M ++ flatL (Q.take (j - P.length - 1))
theorem seqJ_lo {P : List Bs} {z : Bs} {Q : List Bs} {M : Bs} {j : Nat} (hj : j < P.length) {l : Bs} (hl : (P ++ z :: Q)[j]? = some l) : seqJ P z Q M (j + 1) = seqJ P z Q M j ++ (l ++ [10]) := by
  unfold seqJ
  rw [if_pos (by omega), if_pos (by omega), List.take_add_one, hl, flatL_append]
  show _ ++ flatL [l] = _
  rw [flatL_one]
theorem seqJ_at {P : List Bs} {z : Bs} {Q : List Bs} {M : Bs} : seqJ P z Q M (P.length + 1) = seqJ P z Q M P.length ++ M := by
  unfold seqJ
  rw [if_neg (by omega), if_pos (Nat.le_refl _), List.take_left, show P.length + 1 - P.length - 1 = 0 by omega, List.take_zero]
  simp [flatL]
theorem seqJ_hi {P : List Bs} {z : Bs} {Q : List Bs} {M : Bs} {j : Nat} (hj : P.length < j) {l : Bs} (hl : (P ++ z :: Q)[j]? = some l) : seqJ P z Q M (j + 1) = seqJ P z Q M j ++ (l ++ [10]) := by
  unfold seqJ
  obtain ⟨i, rfl⟩ : ∃ i, j = P.length + 1 + i := ⟨j - P.length - 1, by omega⟩
  rw [List.getElem?_append_right (by omega), show P.length + 1 + i - P.length = i + 1 by omega, List.getElem?_cons_succ] at hl
  rw [if_neg (by omega), if_neg (by omega), show P.length + 1 + i + 1 - P.length - 1 = i + 1 by omega, show P.length + 1 + i - P.length - 1 = i by omega, List.take_add_one, hl, flatL_append]
  show _ ++ (_ ++ flatL [l]) = _
  rw [flatL_one]
  simp only [List.append_assoc]
theorem seqJ_end {P : List Bs} {z : Bs} {Q : List Bs} {M : Bs} : seqJ P z Q M (P ++ z :: Q).length = flatL P ++ M ++ flatL Q := by
  unfold seqJ
  rw [if_neg (by simp), List.length_append, List.length_cons, show P.length + (Q.length + 1) - P.length - 1 = Q.length by omega, List.take_length]
theorem flatL_len : ∀ l : List Bs, (∀ x ∈ l, x.length ≤ 200) → (flatL l).length ≤ 201 * l.length
  | [], _ => Nat.le_refl _
  | x :: l, h => by
    have ih := flatL_len l fun y hy => h y (by simp [hy])
    have h1 := h x (by simp)
    unfold flatL at ih ⊢
    rw [List.flatMap_cons, List.length_append, List.length_append]
    simp only [List.length_cons, List.length_nil]
    omega
theorem seqJ_len {P : List Bs} {z : Bs} {Q : List Bs} {M : Bs} {j : Nat} (h : ∀ x ∈ P ++ z :: Q, x.length ≤ 200) (hl : (P ++ z :: Q).length ≤ 202) (hM : M.length ≤ 402) : (seqJ P z Q M j).length ≤ 50000 := by
  have hP := flatL_len P fun x hx => h x (by simp [hx])
  have hQ := flatL_len (Q.take (j - P.length - 1)) fun x hx => h x (by have := List.mem_of_mem_take hx; simp [this])
  have hT := flatL_len ((P ++ z :: Q).take j) fun x hx => h x (List.mem_of_mem_take hx)
  rw [List.length_take] at hQ hT
  rw [List.length_append, List.length_cons] at hl hT
  unfold seqJ
  split
  · omega
  · rw [List.length_append, List.length_append]
    omega
/-- a graph's rows parted at a row -/
theorem graphL_at {g : GrT} {k : Nat} (hk1 : 1 ≤ k) (hk2 : k ≤ g.arcs.length) : ∃ p z q, g.arcs = p ++ z :: q ∧ p.length + 1 = k ∧ graphL g = (headRow g :: p.map arcW4) ++ arcW4 z :: (q.map arcW4 ++ [[endW]]) := by
  obtain ⟨j, rfl⟩ : ∃ j, k = j + 1 := ⟨k - 1, by omega⟩
  have hj : j < g.arcs.length := by omega
  have e : g.arcs = g.arcs.take j ++ g.arcs[j] :: g.arcs.drop (j + 1) := by rw [← List.drop_eq_getElem_cons hj, List.take_append_drop]
  refine ⟨g.arcs.take j, g.arcs[j], g.arcs.drop (j + 1), e, by rw [List.length_take]; omega, ?_⟩
  show headRow g :: (g.arcs.map arcW4 ++ [[endW]]) = _
  have e2 : g.arcs.map arcW4 = (g.arcs.take j).map arcW4 ++ arcW4 g.arcs[j] :: (g.arcs.drop (j + 1)).map arcW4 := by
    conv => lhs; rw [e]
    rw [List.map_append, List.map_cons]
  rw [e2, List.append_assoc]
  rfl
theorem join_more (z : ArcT) : joinW (arcW4 z) ++ [32, 48] = joinW (arcW4 z ++ [[48]]) := by
  simp [joinW, arcW4]
/-- the three texts that the law makes, and how they are read -/
theorem turned_texts {g : GrT} (hc : chkT g = none) (hm : g.arcs.length ≤ 200) {k : Nat} (hk1 : 1 ≤ k) (hk2 : k ≤ g.arcs.length) :
    ∃ P z Q, (graphL g).map joinW = P ++ z :: Q ∧ P.length = k ∧
      parseT (flatL P ++ [] ++ flatL Q) = .error (3, some (1, (g.arcs.length : Int) + 1)) ∧
      parseT (flatL P ++ (z ++ [10] ++ (z ++ [10])) ++ flatL Q) = .error (3, some (1, (g.arcs.length : Int) + 2)) ∧
      parseT (flatL P ++ (z ++ [32, 48] ++ [10]) ++ flatL Q) = .error (6, some (1, (k : Int) + 1)) := by
  obtain ⟨p, z, q, e, hpk, hL⟩ := graphL_at hk1 hk2
  have hAl : (headRow g :: p.map arcW4).length = k := by simp; omega
  refine ⟨(headRow g :: p.map arcW4).map joinW, joinW (arcW4 z), (q.map arcW4 ++ [[endW]]).map joinW, by rw [hL, List.map_append, List.map_cons (l := q.map arcW4 ++ [[endW]])], by rw [List.length_map, hAl], ?_, ?_, ?_⟩
  · rw [flatL_join, flatL_join, List.append_nil, ← textOf_append]
    have h := parse_out hc hm hk1 hk2
    rw [hL, List.eraseIdx_append_of_length_le (by omega), hAl, Nat.sub_self] at h
    exact h
  · rw [flatL_join, flatL_join, ← flatL_one, show flatL [joinW (arcW4 z)] = textOf [arcW4 z] from flatL_join [arcW4 z], ← textOf_append, ← textOf_append, ← textOf_append]
    have h := parse_twice hc hm hk1 hk2
    have e1 : (graphL g).take (k + 1) = (headRow g :: p.map arcW4) ++ [arcW4 z] := by
      rw [hL, show (headRow g :: p.map arcW4) ++ arcW4 z :: (q.map arcW4 ++ [[endW]]) = ((headRow g :: p.map arcW4) ++ [arcW4 z]) ++ (q.map arcW4 ++ [[endW]]) by simp]
      exact List.take_left' (by rw [List.length_append, hAl]; rfl)
    have e2 : (graphL g).drop k = arcW4 z :: (q.map arcW4 ++ [[endW]]) := by
      rw [hL, ← hAl, List.drop_left]
    rw [e1, e2] at h
    rw [← h]
    congr 2
    simp
  · rw [flatL_join, flatL_join, join_more, ← flatL_one, show flatL [joinW (arcW4 z ++ [[48]])] = textOf [arcW4 z ++ [[48]]] from flatL_join [arcW4 z ++ [[48]]], ← textOf_append, ← textOf_append]
    have h := parse_more hc hm e
    have e0 : (p.length : Int) + 2 = (k : Int) + 1 := by omega
    rw [e0] at h
    rw [← h]
    congr 2
    simp
/-- a text's lines, as the law finds them -/
theorem lines_one : ∀ x : Bs, (∀ b ∈ x, b ≠ 10) → linesL x = [x]
  | [], _ => rfl
  | b :: x, h => by
    rw [linesL, if_neg (h b (by simp)), lines_one x (fun c hc => h c (by simp [hc]))]
    rfl
theorem piece_list (s : ByteArray) (a b : Nat) : (s.extract a b).data.toList = (s.data.toList.drop a).take (b - a) := by rw [extract_piece]; rfl
set_option maxRecDepth 100000 in
set_option maxHeartbeats 32000000 in
theorem GtextTurned_walk (A0 : Option Addr) (kk0 : Nat) (g0 : GrT) (a1 : Int) (W : World) (rd0 : RdA W A0 g0.arcs.length g0.arcs) (sh0 : g0.arcs.length * 24 ≤ 140737488351232) (w1 : (Lit.int .i64 a1).wf = true) (hw : Env W) :
    Calls Tryz.prog 7 #[.agg #[.int .i64 g0.n, .slice A0 g0.arcs.length kk0], .int .i64 a1] W (BoolBelow true W) := by
  clear w1
  have HRD := Lib.hid rd0
  have HW := Lib.hid hw
  obtain ⟨n, hn⟩ : ∃ n, g0.arcs.length = n := ⟨_, rfl⟩
  have HN := Lib.hid hn
  have HPR := Lib.hid (fun w (hb : Below W.heap.size W w) => Print_any g0 A0 kk0 w (rd0.below hb) (by omega) (hw.below hb).tab)
  have HCK := Lib.hid (fun w (hb : Below W.heap.size W w) => GCheck_any g0 A0 kk0 w (rd0.below hb) (by omega))
  rw [hn] at HRD HPR HCK sh0 ⊢
  clear hn rd0 hw
  have HB1 := Lib.hid (law_start (n := g0.n) (A := A0) (m := n) (kk := kk0) W).1
  have HP1 := Lib.hid (law_start (n := g0.n) (A := A0) (m := n) (kk := kk0) W).2
  go_enter Tryz.func7, Tryz.ntmps7
  refine wp_named ?_
  intro Q0 hQ0
  have HQ0 := Lib.hid hQ0
  clear hQ0
  go_upto_region 1 with fail
  generalize W.alloc (.cells #[.int .i64 g0.n, .slice A0 n kk0] 24) = w1 at *
  go_wp2_with fail
  refine (awake_any w1 (HW.out.below HB1.out)).mono ?_
  rintro e w2 ⟨rfl, hb2⟩
  have HB2 := Lib.hid (HB1.out.trans (hb2.mono HB1.out.size))
  have HP2 := Lib.hid (HP1.out.below hb2)
  have hs2 := hb2.size
  clear hb2
  have Pc0 : w2.cell? ⟨W.heap.size, 0, none⟩ = some (.int .i64 g0.n) := HP2.out.cell 0
  have Pc1 : w2.cell? ⟨W.heap.size, 1, none⟩ = some (.slice A0 n kk0) := HP2.out.cell 1
  go_wp2_with fail
  refine (HCK.out w2 HB2.out).mono ?_
  rintro e w3 ⟨hb3, he⟩
  cases hc : chkT g0 with
  | some b =>
    rw [hc] at he
    obtain ⟨c, q⟩ := b
    cases q with
    | none =>
      dsimp only at he
      subst he
      clear hc
      have HB3 := Lib.hid (HB2.out.trans (hb3.mono HB2.out.size))
      have HP3 := Lib.hid (HP2.out.below hb3)
      have hs3 := hb3.size
      clear hb3 Pc0 Pc1
      have Pc0 : w3.cell? ⟨W.heap.size, 0, none⟩ = some (.int .i64 g0.n) := HP3.out.cell 0
      have Pc1 : w3.cell? ⟨W.heap.size, 1, none⟩ = some (.slice A0 n kk0) := HP3.out.cell 1
      go_wp2_with fail
      rw [HQ0.out]
      go_ret
      exact ⟨rfl, HB3.out⟩
    | some q =>
      obtain ⟨kx, ax⟩ := q
      obtain ⟨r, rfl, -, -⟩ := he
      clear hc
      have HB3 := Lib.hid (HB2.out.trans (hb3.mono HB2.out.size))
      have HP3 := Lib.hid (HP2.out.below hb3)
      have hs3 := hb3.size
      clear hb3 Pc0 Pc1
      have Pc0 : w3.cell? ⟨W.heap.size, 0, none⟩ = some (.int .i64 g0.n) := HP3.out.cell 0
      have Pc1 : w3.cell? ⟨W.heap.size, 1, none⟩ = some (.slice A0 n kk0) := HP3.out.cell 1
      go_wp2_with fail
      rw [HQ0.out]
      go_ret
      exact ⟨rfl, HB3.out⟩
  | none =>
    rw [hc] at he
    dsimp only at he
    subst he
    have HCN := Lib.hid hc
    clear hc
    have HB3 := Lib.hid (HB2.out.trans (hb3.mono HB2.out.size))
    have HP3 := Lib.hid (HP2.out.below hb3)
    have hs3 := hb3.size
    clear hb3 Pc0 Pc1
    have Pc0 : w3.cell? ⟨W.heap.size, 0, none⟩ = some (.int .i64 g0.n) := HP3.out.cell 0
    have Pc1 : w3.cell? ⟨W.heap.size, 1, none⟩ = some (.slice A0 n kk0) := HP3.out.cell 1
    by_cases hl1 : n < 1
    · have q0 : decide ((n : Int) < 1) = true := decide_eq_true (by omega)
      have q0' : decide (n < 1) = true := decide_eq_true hl1
      go_wp2_with fail
      rw [HQ0.out]
      go_ret
      exact ⟨rfl, HB3.out⟩
    · have q0 : decide ((n : Int) < 1) = false := decide_eq_false (by omega)
      have q0' : decide (n < 1) = false := decide_eq_false hl1
      by_cases hl2 : 200 < n
      · have q1 : decide ((200 : Int) < (n : Int)) = true := decide_eq_true (by omega)
        have q1' : decide (200 < n) = true := decide_eq_true hl2
        go_wp2_with fail
        rw [HQ0.out]
        go_ret
        exact ⟨rfl, HB3.out⟩
      · have q1 : decide ((200 : Int) < (n : Int)) = false := decide_eq_false (by omega)
        have q1' : decide (200 < n) = false := decide_eq_false hl2
        have HPT : Hid (printT g0 = .ok (printB g0)) := Lib.hid (by unfold printT; rw [HCN.out])
        go_upto_region 5 with fail
        go_wp2_with fail
        refine (HPR.out w3 HB3.out).mono ?_
        rintro e w4 ⟨hb4, he⟩
        rw [HPT.out] at he
        dsimp only at he
        subst he
        have HB4 := Lib.hid (HB3.out.trans (hb4.mono HB3.out.size))
        have HP4 := Lib.hid (HP3.out.below hb4)
        have hs4 := hb4.size
        clear hb4 Pc0 Pc1
        have Pc0 : w4.cell? ⟨W.heap.size, 0, none⟩ = some (.int .i64 g0.n) := HP4.out.cell 0
        have Pc1 : w4.cell? ⟨W.heap.size, 1, none⟩ = some (.slice A0 n kk0) := HP4.out.cell 1
        have hss : (toB (printB g0)).size = (printB g0).length := toB_size _
        have hpl : (printB g0).length ≤ 50000 := by
          have h1 := textOf_len (graphL g0) (graphL_ok HCN.out)
          have h2 : (graphL g0).length = n + 2 := by unfold graphL; simp [HN.out]
          rw [h2] at h1
          have h3 : (printB g0).length ≤ 201 * (n + 2) := h1
          omega
        have hsl : (toB (printB g0)).data.toList = printB g0 := rfl
        have HSL := Lib.hid hsl
        have HPLN : Hid (linesL (printB g0) = (graphL g0).map joinW ++ [[]]) := Lib.hid (linesL_text (fun ws hw => (graphL_ok HCN.out ws hw).2.1))
        have HLL : Hid (((graphL g0).map joinW).length = n + 2) := Lib.hid (by unfold graphL; simp [HN.out])
        have HJL : Hid (∀ x ∈ (graphL g0).map joinW, x.length ≤ 200) := Lib.hid (fun x hx => by
          obtain ⟨ws, hw, rfl⟩ := List.mem_map.1 hx
          exact (graphL_ok HCN.out ws hw).2.2)
        clear hsl
        generalize toB (printB g0) = S at *
        have hSl := size_list S
        go_upto_region 11 with fail
        go_loopw [7, 8, 9] (fun lv av iv wr => ∃ (j b : Nat) (Ls : List ByteArray), j ≤ S.size ∧ b ≤ j ∧ iv = .int .i64 (j : Int) ∧ av = .int .i64 (b : Int) ∧ Ls.length ≤ j ∧ OwnSt wr w4.heap.size lv Ls ∧ Below w4.heap.size w4 wr ∧ Ls.map (fun x => x.data.toList) ++ linesL (S.data.toList.drop b) = (graphL g0).map joinW ++ [[]] ∧ ∀ x ∈ (S.data.toList.drop b).take (j - b), x ≠ 10) (fun _ _ iv _ => S.size - (intOf iv).toNat)
        case atStart => exact ⟨0, 0, [], by omega, by omega, rfl, rfl, by simp, Own.nil _ _ _ _ _, Below.refl _ _, by rw [List.drop_zero, HSL.out, HPLN.out]; rfl, fun x hx => by simp at hx⟩
        case round =>
          obtain ⟨j, b, Ls, hj, hbj, rfl, rfl, hLj, ho, hb, hln, hno⟩ := hrel
          have HOr := Lib.hid ho
          have HBr := Lib.hid hb
          have HLN := Lib.hid hln
          have HNO := Lib.hid hno
          have hsr := hb.size
          clear ho hb hln hno
          by_cases hlt : j < S.size
          · have g0' : decide ((j : Int) < (S.size : Int)) = true := decide_eq_true (by omega)
            obtain ⟨bb, hbb, hdr, htk, hat⟩ := byte_at S hlt
            have he1 := eqB10 bb
            have hw1 : IntKind.i64.wrap ((j : Int) + 1) = (j : Int) + 1 := by rw [IntKind.wrap_i64]; omega
            have hpc : (S.data.toList.drop b).take (j + 1 - b) = (S.data.toList.drop b).take (j - b) ++ [bb] := by
              have hlt2 : j - b < (S.data.toList.drop b).length := by rw [List.length_drop]; omega
              rw [show j + 1 - b = (j - b) + 1 by omega, List.take_succ_eq_append_getElem hlt2]
              congr 2
              rw [List.getElem_drop]
              have := List.getElem?_eq_some_iff.1 hat
              obtain ⟨h1, h2⟩ := this
              rw [← h2]
              congr 1
              omega
            have hdd : S.data.toList.drop b = (S.data.toList.drop b).take (j - b) ++ bb :: S.data.toList.drop (j + 1) := by
              conv => lhs; rw [← List.take_append_drop (j - b) (S.data.toList.drop b)]
              rw [List.drop_drop, show b + (j - b) = j by omega, hdr]
            have HPC := Lib.hid hpc
            have HDD := Lib.hid hdd
            clear hdr htk hat hpc hdd
            by_cases h10 : bb = 10
            · rw [decide_eq_true h10] at he1
              have HR : Hid ((Ls ++ [S.extract b j]).map (fun x => x.data.toList) ++ linesL (S.data.toList.drop (j + 1)) = (graphL g0).map joinW ++ [[]]) := Lib.hid (by
                rw [List.map_append, List.append_assoc]
                have h := HLN.out
                rw [HDD.out, h10, linesL_line _ _ HNO.out] at h
                rw [← h]
                congr 1
                show [(S.extract b j).data.toList] ++ _ = _
                rw [piece_list]
                rfl)
              have hw0 : IntKind.i64.wrap ((b : Int) + 1) = (b : Int) + 1 := by rw [IntKind.wrap_i64]; omega
              have p1 : (b : Int) ≤ (j : Int) := by omega
              have p2 : (j : Int) ≤ (S.size : Int) := by omega
              clear h10
              go_upto_region 14 with fail
              go_wp2_with (at_builtin; go_loud (refine wpList_append_rd rfl (.tmp 54) (.tmp 59) 45 rfl 9 (.string ⟨#[]⟩) 16 Tryz.underlying45 info_str rfl (by omega) (by omega) encS_len encS_one w4.heap.size _ Ls rfl (HOr.out.below ((Below.refl _ _).alloc (Nat.le_refl _) _)) _ 1 1 [S.extract b j] rfl (rd_str rfl) (by omega) (by simp; omega) ?_; intro v2 w5 ho2 hg2 hat2; have HO5 := Lib.hid ho2; have HB5 : Hid (Below w4.heap.size w4 w5) := Lib.hid (below_own (HBr.out.alloc HBr.out.size _) (HOr.out.below ((Below.refl _ _).alloc (Nat.le_refl _) _)) hg2 (Nat.le_refl _) (by simp; omega)); clear ho2 hg2 hat2))
              go_roundw
              case rel => exact ⟨j + 1, j + 1, Ls ++ [S.extract b j], by omega, by omega, by go_num, by go_num, by rw [List.length_append, List.length_singleton]; omega, HO5.out, HB5.out, HR.out, by rw [Nat.sub_self]; intro x hx; simp at hx⟩
              case measure => simp [intOf]; omega
            · rw [decide_eq_false h10] at he1
              have HNO2 : Hid (∀ x ∈ (S.data.toList.drop b).take (j + 1 - b), x ≠ 10) := Lib.hid (fun x hx => by
                rw [HPC.out] at hx
                rcases List.mem_append.1 hx with h | h
                · exact HNO.out x h
                · rw [List.mem_singleton.1 h]; exact h10)
              clear h10
              go_wp2_with fail
              go_roundw
              case rel => exact ⟨j + 1, b, Ls, by omega, by omega, by go_num, rfl, by omega, HOr.out, HBr.out, HLN.out, HNO2.out⟩
              case measure => simp [intOf]; omega
          · obtain rfl : j = S.size := by omega
            have g0' : decide ((S.size : Int) < (S.size : Int)) = false := decide_eq_false (by omega)
            have hls : Ls.map (fun x => x.data.toList) = (graphL g0).map joinW := by
              have h := HLN.out
              rw [lines_one (S.data.toList.drop b) (fun x hx => HNO.out x (by rw [List.take_of_length_le (by rw [List.length_drop]; omega)]; exact hx))] at h
              exact (List.append_inj' h rfl).1
            have HLS := Lib.hid hls
            have hll : Ls.length = n + 2 := by
              have h := congrArg List.length hls
              rw [List.length_map, HLL.out] at h
              exact h
            have HBW : Hid (Below W.heap.size W wr) := Lib.hid (HB4.out.trans (HBr.out.mono HB4.out.size))
            have HPr := Lib.hid (HP4.out.below HBr.out)
            obtain ⟨A7, c7, rfl, h2c, h2m⟩ := HOr.out.form
            have HRS := Lib.hid (HOr.out.rd encS_len rfl)
            have HLL2 := Lib.hid hll
            rw [hll] at HRS ⊢
            clear hls hll HLN HNO HOr h2c h2m HPLN
            clear Pc0 Pc1
            have Pc0 : wr.cell? ⟨W.heap.size, 0, none⟩ = some (.int .i64 g0.n) := HPr.out.cell 0
            have Pc1 : wr.cell? ⟨W.heap.size, 1, none⟩ = some (.slice A0 n kk0) := HPr.out.cell 1
            have hw2 : IntKind.i64.wrap ((n : Int) + 2) = (n : Int) + 2 := by rw [IntKind.wrap_i64]; omega
            have hw3 : IntKind.i64.wrap ((n : Int) + 1) = (n : Int) + 1 := by rw [IntKind.wrap_i64]; omega
            by_cases hk1 : a1 < 1
            · have q2 : decide (a1 < 1) = true := decide_eq_true hk1
              go_wp2_with fail
              rw [HQ0.out]
              go_ret
              exact ⟨rfl, HBW.out⟩
            · have q2 : decide (a1 < 1) = false := decide_eq_false hk1
              by_cases hk2 : (n : Int) < a1
              · have q3 : decide ((n : Int) < a1) = true := decide_eq_true hk2
                go_wp2_with fail
                rw [HQ0.out]
                go_ret
                exact ⟨rfl, HBW.out⟩
              · have q3 : decide ((n : Int) < a1) = false := decide_eq_false hk2
                obtain ⟨kn, rfl⟩ : ∃ kn : Nat, a1 = (kn : Int) := ⟨a1.toNat, by omega⟩
                obtain ⟨P, z, Q, hPQ, hPk, t1, t2, t3⟩ := turned_texts HCN.out (by rw [HN.out]; omega) (show 1 ≤ kn by omega) (by rw [HN.out]; omega)
                rw [HN.out] at t1 t2
                have HT1 := Lib.hid t1
                have HT2 := Lib.hid t2
                have HT3 := Lib.hid t3
                have HPQ := Lib.hid hPQ
                have HPK := Lib.hid hPk
                clear t1 t2 t3 hPQ hPk
                clear hSl hss
                have HPZ : Hid ((P ++ z :: Q).length = n + 2) := Lib.hid (by rw [← HPQ.out]; exact HLL.out)
                have HPX : Hid (∀ x ∈ P ++ z :: Q, x.length ≤ 200) := Lib.hid (by rw [← HPQ.out]; exact HJL.out)
                have hzl : z.length ≤ 200 := HPX.out z (by simp)
                go_upto_region 20 with fail
                go_loop [10, 11, 12, 90] (fun ov tv mv iv => ∃ (j : Nat) (X1 X2 X3 : ByteArray), j ≤ n + 2 ∧ iv = .int .i64 (j : Int) ∧ ov = .string X1 ∧ tv = .string X2 ∧ mv = .string X3 ∧ X1.data.toList = seqJ P z Q [] j ∧ X2.data.toList = seqJ P z Q (z ++ [10] ++ (z ++ [10])) j ∧ X3.data.toList = seqJ P z Q (z ++ [32, 48] ++ [10]) j) (fun _ _ _ iv => n + 2 - (intOf iv).toNat)
                case atStart => exact ⟨0, _, _, _, by omega, rfl, rfl, rfl, rfl, rfl, rfl, rfl⟩
                case round =>
                obtain ⟨j, X1, X2, X3, hj, rfl, rfl, rfl, rfl, h1, h2, h3⟩ := hrel
                have e1 := size_list X1
                have e2 := size_list X2
                have e3 := size_list X3
                have s1 := seqJ_len (M := []) (j := j) HPX.out (by rw [HPZ.out]; omega) (by simp)
                have s2 := seqJ_len (M := z ++ [10] ++ (z ++ [10])) (j := j) HPX.out (by rw [HPZ.out]; omega) (by simp; omega)
                have s3 := seqJ_len (M := z ++ [32, 48] ++ [10]) (j := j) HPX.out (by rw [HPZ.out]; omega) (by simp; omega)
                rw [← h1] at s1
                rw [← h2] at s2
                rw [← h3] at s3
                have z1 : X1.size ≤ 50000 := by omega
                have z2 : X2.size ≤ 50000 := by omega
                have z3 : X3.size ≤ 50000 := by omega
                have H1 := Lib.hid h1
                have H2 := Lib.hid h2
                have H3 := Lib.hid h3
                clear h1 h2 h3 e1 e2 e3 s1 s2 s3
                by_cases hlt : j < n + 2
                · have g0' : decide ((j : Int) < ((n + 2 : Nat) : Int)) = true := decide_eq_true (by omega)
                  have g0'' : decide ((j : Int) < (n : Int) + 2) = true := decide_eq_true (by omega)
                  obtain ⟨ad, hA, cc⟩ := HRS.out.at1 (f := Value.string) hlt
                  subst hA
                  have hjl : j < Ls.length := by rw [HLL2.out]; exact hlt
                  have hat : (P ++ z :: Q)[j]? = some (Ls[j]).data.toList := by
                    rw [← HPQ.out, ← HLS.out, List.getElem?_map, List.getElem?_eq_getElem hjl]
                    rfl
                  generalize Ls[j] = l at *
                  have hl := size_list l
                  have hls : l.size ≤ 200 := by
                    have := HPX.out _ (List.mem_of_getElem? hat)
                    omega
                  have hw1 : IntKind.i64.wrap ((j : Int) + 1) = (j : Int) + 1 := by rw [IntKind.wrap_i64]; omega
                  have HAT := Lib.hid hat
                  clear hat hl hjl
                  have y1 : (9223372036854775807 < l.size + 1) = False := eq_false (by omega)
                  have y2 : (9223372036854775807 < X1.size + (l.size + 1)) = False := eq_false (by omega)
                  have y3 : (9223372036854775807 < X2.size + (l.size + 1)) = False := eq_false (by omega)
                  have y4 : (9223372036854775807 < X3.size + l.size) = False := eq_false (by omega)
                  have y5 : (9223372036854775807 < X3.size + l.size + 1) = False := eq_false (by omega)
                  have y6 : (9223372036854775807 < X3.size + l.size + 2) = False := eq_false (by omega)
                  have y7 : (9223372036854775807 < X3.size + l.size + 2 + 1) = False := eq_false (by omega)
                  have y8 : (9223372036854775807 < X2.size + (l.size + 1) + (l.size + 1)) = False := eq_false (by omega)
                  rcases Nat.lt_trichotomy j kn with hk | hk | hk
                  · have n1 : ((j : Int) == (kn : Int)) = false := by rw [beq_eq_false_iff_ne]; omega
                    have n2 : ((j : Int) != (kn : Int)) = true := by rw [bne_iff_ne]; omega
                    have n3 : (j == kn) = false := by rw [beq_eq_false_iff_ne]; omega
                    have R1 : Hid ((X1 ++ (l ++ ⟨#[10]⟩)).data.toList = seqJ P z Q [] (j + 1)) := Lib.hid (by simp only [list_append']; rw [seqJ_lo (by rw [HPK.out]; exact hk) HAT.out, H1.out])
                    have R2 : Hid ((X2 ++ (l ++ ⟨#[10]⟩)).data.toList = seqJ P z Q (z ++ [10] ++ (z ++ [10])) (j + 1)) := Lib.hid (by simp only [list_append']; rw [seqJ_lo (by rw [HPK.out]; exact hk) HAT.out, H2.out])
                    have R3 : Hid ((X3 ++ l ++ ⟨#[10]⟩).data.toList = seqJ P z Q (z ++ [32, 48] ++ [10]) (j + 1)) := Lib.hid (by simp only [list_append']; rw [seqJ_lo (by rw [HPK.out]; exact hk) HAT.out, H3.out, List.append_assoc])
                    clear hk
                    go_wp2_with fail
                    go_round
                    case rel => exact ⟨j + 1, _, _, _, by omega, by go_num, rfl, rfl, rfl, R1.out, R2.out, R3.out⟩
                    case measure => simp [intOf]; omega
                  · subst hk
                    have hlz : l.data.toList = z := by
                      have h := HAT.out
                      have hpk := HPK.out
                      rw [List.getElem?_append_right (by omega), show j - P.length = 0 by omega] at h
                      simpa using h.symm
                    have R1 : Hid (X1.data.toList = seqJ P z Q [] (j + 1)) := Lib.hid (by have h := seqJ_at (P := P) (z := z) (Q := Q) (M := []); rw [HPK.out] at h; rw [h, List.append_nil]; exact H1.out)
                    have R2 : Hid ((X2 ++ (l ++ ⟨#[10]⟩) ++ (l ++ ⟨#[10]⟩)).data.toList = seqJ P z Q (z ++ [10] ++ (z ++ [10])) (j + 1)) := Lib.hid (by
                      have h := seqJ_at (P := P) (z := z) (Q := Q) (M := z ++ [10] ++ (z ++ [10]))
                      rw [HPK.out] at h
                      simp only [list_append']
                      rw [h, H2.out, hlz]
                      simp only [List.append_assoc])
                    have R3 : Hid ((X3 ++ l ++ ⟨#[32, 48]⟩ ++ ⟨#[10]⟩).data.toList = seqJ P z Q (z ++ [32, 48] ++ [10]) (j + 1)) := Lib.hid (by
                      have h := seqJ_at (P := P) (z := z) (Q := Q) (M := z ++ [32, 48] ++ [10])
                      rw [HPK.out] at h
                      simp only [list_append']
                      rw [h, H3.out, hlz]
                      simp only [List.append_assoc])
                    clear hlz
                    go_wp2_with fail
                    go_round
                    case rel => exact ⟨j + 1, _, _, _, by omega, by go_num, rfl, rfl, rfl, R1.out, R2.out, R3.out⟩
                    case measure => simp [intOf]; omega
                  · have n1 : ((j : Int) == (kn : Int)) = false := by rw [beq_eq_false_iff_ne]; omega
                    have n2 : ((j : Int) != (kn : Int)) = true := by rw [bne_iff_ne]; omega
                    have n3 : (j == kn) = false := by rw [beq_eq_false_iff_ne]; omega
                    have R1 : Hid ((X1 ++ (l ++ ⟨#[10]⟩)).data.toList = seqJ P z Q [] (j + 1)) := Lib.hid (by simp only [list_append']; rw [seqJ_hi (by rw [HPK.out]; exact hk) HAT.out, H1.out])
                    have R2 : Hid ((X2 ++ (l ++ ⟨#[10]⟩)).data.toList = seqJ P z Q (z ++ [10] ++ (z ++ [10])) (j + 1)) := Lib.hid (by simp only [list_append']; rw [seqJ_hi (by rw [HPK.out]; exact hk) HAT.out, H2.out])
                    have R3 : Hid ((X3 ++ l ++ ⟨#[10]⟩).data.toList = seqJ P z Q (z ++ [32, 48] ++ [10]) (j + 1)) := Lib.hid (by simp only [list_append']; rw [seqJ_hi (by rw [HPK.out]; exact hk) HAT.out, H3.out, List.append_assoc])
                    clear hk
                    go_wp2_with fail
                    go_round
                    case rel => exact ⟨j + 1, _, _, _, by omega, by go_num, rfl, rfl, rfl, R1.out, R2.out, R3.out⟩
                    case measure => simp [intOf]; omega
                · obtain rfl : j = n + 2 := by omega
                  have g0' : decide (((n + 2 : Nat) : Int) < ((n + 2 : Nat) : Int)) = false := decide_eq_false (by omega)
                  have g0'' : decide ((n : Int) + 2 < (n : Int) + 2) = false := decide_eq_false (by omega)
                  have hz := HPZ.out
                  have f1 := H1.out
                  have f2 := H2.out
                  have f3 := H3.out
                  rw [← hz, seqJ_end] at f1 f2 f3
                  have F1 : Hid (parseT X1.data.toList = .error (3, some (1, (n : Int) + 1))) := Lib.hid (by rw [f1]; exact HT1.out)
                  have F2 : Hid (parseT X2.data.toList = .error (3, some (1, (n : Int) + 2))) := Lib.hid (by rw [f2]; exact HT2.out)
                  have F3 : Hid (parseT X3.data.toList = .error (6, some (1, (kn : Int) + 1))) := Lib.hid (by rw [f3]; exact HT3.out)
                  clear f1 f2 f3 hz H1 H2 H3 HT1 HT2 HT3 HPQ HPK HPZ HPX
                  have hw4 : IntKind.i64.wrap ((n : Int) + 1 + 1) = (n : Int) + 2 := by rw [IntKind.wrap_i64]; omega
                  have hw5 : IntKind.i64.wrap ((kn : Int) + 1) = (kn : Int) + 1 := by rw [IntKind.wrap_i64]; omega
                  have hw6 : (n : Int) + 1 + 1 = (n : Int) + 2 := by omega
                  go_upto_region 31 with fail
                  go_wp2_with fail
                  refine (Parse_any X1 wr (by omega) (HW.out.below HBW.out).maxL (HW.out.below HBW.out).rng).mono ?_
                  rintro e w20 ⟨hb20, he⟩
                  rw [F1.out] at he
                  obtain ⟨v1, rfl, hpx1⟩ := he
                  have HU20 := Lib.hid (hpx1.mono (Nat.zero_le _))
                  have HB20 := Lib.hid (HBW.out.trans (hb20.mono HBW.out.size))
                  have HP20 := Lib.hid (HPr.out.below hb20)
                  clear hb20 hpx1 Pc0 Pc1
                  go_upto_region 32 with fail
                  go_wp2_with fail
                  refine (Parse_any X2 w20 (by omega) (HW.out.below HB20.out).maxL (HW.out.below HB20.out).rng).mono ?_
                  rintro e w21 ⟨hb21, he⟩
                  rw [F2.out] at he
                  obtain ⟨v2, rfl, hpx2⟩ := he
                  have HV21 := Lib.hid (hpx2.mono (Nat.zero_le _))
                  clear hpx2
                  have HB21 := Lib.hid (HB20.out.trans (hb21.mono HB20.out.size))
                  have HP21 := Lib.hid (HP20.out.below hb21)
                  have HU21 := Lib.hid (HU20.out.below hb21)
                  have hs21 := hb21.size
                  clear hb21
                  have hb22 := (Below.refl w21.heap.size w21).alloc (Nat.le_refl _) (.cells #[.int .i64 0, .slice none 0 0] 24)
                  have hx22 := cells_new w21 #[.int .i64 0, .slice none 0 0] 24
                  have HB22 := Lib.hid (HB21.out.trans (hb22.mono HB21.out.size))
                  have HP22 := Lib.hid (HP21.out.below hb22)
                  have HU22 := Lib.hid (HU21.out.below hb22)
                  have HV22 := Lib.hid (HV21.out.below hb22)
                  have hs22 := hb22.size
                  clear hb22
                  have HQ22 := Lib.hid hx22
                  clear hx22
                  go_upto_region 33 with fail
                  generalize w21.alloc (.cells #[.int .i64 0, .slice none 0 0] 24) = w22 at *
                  go_wp2_with fail
                  refine (Parse_any X3 w22 (by omega) (HW.out.below HB22.out).maxL (HW.out.below HB22.out).rng).mono ?_
                  rintro e w23 ⟨hb23, he⟩
                  rw [F3.out] at he
                  obtain ⟨v3, rfl, hpx3⟩ := he
                  have HX23 := Lib.hid (hpx3.mono (Nat.zero_le _))
                  clear hpx3
                  have HB23 := Lib.hid (HB22.out.trans (hb23.mono HB22.out.size))
                  have HP23 := Lib.hid (HP22.out.below hb23)
                  have HU23 := Lib.hid (HU22.out.below hb23)
                  have HV23 := Lib.hid (HV22.out.below hb23)
                  have hs23 := hb23.size
                  clear hb23
                  have hb24 := (Below.refl w23.heap.size w23).alloc (Nat.le_refl _) (.cells #[.int .i64 0, .slice none 0 0] 24)
                  have hx24 := cells_new w23 #[.int .i64 0, .slice none 0 0] 24
                  have HB24 := Lib.hid (HB23.out.trans (hb24.mono HB23.out.size))
                  have HP24 := Lib.hid (HP23.out.below hb24)
                  have HU24 := Lib.hid (HU23.out.below hb24)
                  have HV24 := Lib.hid (HV23.out.below hb24)
                  have HX24 := Lib.hid (HX23.out.below hb24)
                  have hs24 := hb24.size
                  clear hb24
                  have HQ24 := Lib.hid hx24
                  clear hx24
                  go_upto_region 34 with fail
                  generalize w23.alloc (.cells #[.int .i64 0, .slice none 0 0] 24) = w24 at *
                  have Pc0 : w24.cell? ⟨W.heap.size, 0, none⟩ = some (.int .i64 g0.n) := HP24.out.cell 0
                  have Pc1 : w24.cell? ⟨W.heap.size, 1, none⟩ = some (.slice A0 n kk0) := HP24.out.cell 1
                  go_wp2_with fail
                  refine (E_any 3 w24).mono ?_
                  rintro e w25 ⟨rfl, hb25⟩
                  have HB25 := Lib.hid (HB24.out.trans (hb25.mono HB24.out.size))
                  have HP25 := Lib.hid (HP24.out.below hb25)
                  have HU25 := Lib.hid (HU24.out.below hb25)
                  have HV25 := Lib.hid (HV24.out.below hb25)
                  have HX25 := Lib.hid (HX24.out.below hb25)
                  have hs25 := hb25.size
                  clear hb25 Pc0 Pc1
                  go_wp2_with fail
                  refine (At1_any 1 ((n : Int) + 1) 3 w25).mono ?_
                  rintro e w26 ⟨g26, k26, rfl, hx26, -, hb26⟩
                  have HS := Lib.hid (same_bug (bug := some (3, some (1, ((n : Int) + 1)))) (x := ⟨3, some ⟨g26, 0, none⟩, 1, k26⟩) (base := 0) (HU25.out.below hb26) ⟨g26, k26, rfl, hx26, Nat.zero_le _⟩ (fun p hp => by injection hp with hp; subst hp; exact (by decide : (3 : Int) ≠ 0)) (HW.out.below (HB25.out.trans (hb26.mono HB25.out.size))).errT)
                  clear hx26
                  have HB26 := Lib.hid (HB25.out.trans (hb26.mono HB25.out.size))
                  have HP26 := Lib.hid (HP25.out.below hb26)
                  have HU26 := Lib.hid (HU25.out.below hb26)
                  have HV26 := Lib.hid (HV25.out.below hb26)
                  have HX26 := Lib.hid (HX25.out.below hb26)
                  have hs26 := hb26.size
                  clear hb26
                  go_wp2_with fail
                  refine HS.out.mono ?_
                  rintro e w27 ⟨rfl, hb27⟩
                  clear HS
                  have HB27 := Lib.hid (HB26.out.trans (hb27.mono HB26.out.size))
                  have HP27 := Lib.hid (HP26.out.below hb27)
                  have HU27 := Lib.hid (HU26.out.below hb27)
                  have HV27 := Lib.hid (HV26.out.below hb27)
                  have HX27 := Lib.hid (HX26.out.below hb27)
                  have hs27 := hb27.size
                  clear hb27
                  go_wp2_with fail
                  refine (E_any 3 w27).mono ?_
                  rintro e w28 ⟨rfl, hb28⟩
                  have HB28 := Lib.hid (HB27.out.trans (hb28.mono HB27.out.size))
                  have HP28 := Lib.hid (HP27.out.below hb28)
                  have HU28 := Lib.hid (HU27.out.below hb28)
                  have HV28 := Lib.hid (HV27.out.below hb28)
                  have HX28 := Lib.hid (HX27.out.below hb28)
                  have hs28 := hb28.size
                  clear hb28
                  go_wp2_with fail
                  refine (At1_any 1 ((n : Int) + 2) 3 w28).mono ?_
                  rintro e w29 ⟨g29, k29, rfl, hx29, -, hb29⟩
                  have HS := Lib.hid (same_bug (bug := some (3, some (1, ((n : Int) + 2)))) (x := ⟨3, some ⟨g29, 0, none⟩, 1, k29⟩) (base := 0) (HV28.out.below hb29) ⟨g29, k29, rfl, hx29, Nat.zero_le _⟩ (fun p hp => by injection hp with hp; subst hp; exact (by decide : (3 : Int) ≠ 0)) (HW.out.below (HB28.out.trans (hb29.mono HB28.out.size))).errT)
                  clear hx29
                  have HB29 := Lib.hid (HB28.out.trans (hb29.mono HB28.out.size))
                  have HP29 := Lib.hid (HP28.out.below hb29)
                  have HU29 := Lib.hid (HU28.out.below hb29)
                  have HV29 := Lib.hid (HV28.out.below hb29)
                  have HX29 := Lib.hid (HX28.out.below hb29)
                  have hs29 := hb29.size
                  clear hb29
                  go_wp2_with fail
                  refine HS.out.mono ?_
                  rintro e w30 ⟨rfl, hb30⟩
                  clear HS
                  have HB30 := Lib.hid (HB29.out.trans (hb30.mono HB29.out.size))
                  have HP30 := Lib.hid (HP29.out.below hb30)
                  have HU30 := Lib.hid (HU29.out.below hb30)
                  have HV30 := Lib.hid (HV29.out.below hb30)
                  have HX30 := Lib.hid (HX29.out.below hb30)
                  have hs30 := hb30.size
                  clear hb30
                  go_wp2_with fail
                  refine (E_any 6 w30).mono ?_
                  rintro e w31 ⟨rfl, hb31⟩
                  have HB31 := Lib.hid (HB30.out.trans (hb31.mono HB30.out.size))
                  have HP31 := Lib.hid (HP30.out.below hb31)
                  have HU31 := Lib.hid (HU30.out.below hb31)
                  have HV31 := Lib.hid (HV30.out.below hb31)
                  have HX31 := Lib.hid (HX30.out.below hb31)
                  have hs31 := hb31.size
                  clear hb31
                  go_wp2_with fail
                  refine (At1_any 1 ((kn : Int) + 1) 6 w31).mono ?_
                  rintro e w32 ⟨g32, k32, rfl, hx32, -, hb32⟩
                  have HS := Lib.hid (same_bug (bug := some (6, some (1, ((kn : Int) + 1)))) (x := ⟨6, some ⟨g32, 0, none⟩, 1, k32⟩) (base := 0) (HX31.out.below hb32) ⟨g32, k32, rfl, hx32, Nat.zero_le _⟩ (fun p hp => by injection hp with hp; subst hp; exact (by decide : (6 : Int) ≠ 0)) (HW.out.below (HB31.out.trans (hb32.mono HB31.out.size))).errT)
                  clear hx32
                  have HB32 := Lib.hid (HB31.out.trans (hb32.mono HB31.out.size))
                  have HP32 := Lib.hid (HP31.out.below hb32)
                  have HU32 := Lib.hid (HU31.out.below hb32)
                  have HV32 := Lib.hid (HV31.out.below hb32)
                  have HX32 := Lib.hid (HX31.out.below hb32)
                  have hs32 := hb32.size
                  clear hb32
                  go_wp2_with fail
                  refine HS.out.mono ?_
                  rintro e w33 ⟨rfl, hb33⟩
                  clear HS
                  have HB33 := Lib.hid (HB32.out.trans (hb33.mono HB32.out.size))
                  have HP33 := Lib.hid (HP32.out.below hb33)
                  have HU33 := Lib.hid (HU32.out.below hb33)
                  have HV33 := Lib.hid (HV32.out.below hb33)
                  have HX33 := Lib.hid (HX32.out.below hb33)
                  have hs33 := hb33.size
                  clear hb33
                  go_wp2_with fail
                  rw [HQ0.out]
                  go_ret
                  exact ⟨rfl, HB33.out⟩
end Go.Proofs.YtngihiebkbheaaaGreatDoor
