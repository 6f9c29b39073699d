/- The rows of a text: the document's. (Printed by gen_gt6.py.) -/
import Derived.Test.YtngihiebkbheaaaGreatDoorGt5
set_option linter.unusedSimpArgs false
set_option linter.unusedVariables false
namespace Go.Proofs.YtngihiebkbheaaaGreatDoor
open Go.RowKit Txt

theorem lines_cons {b : UInt8} {r : Bs} (h : b ≠ 10) : linesL (b :: r) = consLine b (linesL r) := by rw [linesL, if_neg h]
theorem lines_seg : ∀ (q : Bs), (∀ b ∈ q, b ≠ 10) → linesL q = [q]
  | [], _ => rfl
  | b :: q, h => by rw [lines_cons (h b (by simp)), lines_seg q (fun x hx => h x (by simp [hx]))]; rfl
theorem lines_feed : ∀ (q r : Bs), (∀ b ∈ q, b ≠ 10) → linesL (q ++ 10 :: r) = q :: linesL r
  | [], r, _ => by rw [List.nil_append, linesL, if_pos rfl]
  | b :: q, r, h => by rw [List.cons_append, lines_cons (h b (by simp)), lines_feed q r (fun x hx => h x (by simp [hx]))]; rfl
theorem rows_empty (n : Int) : rowsGo n [[]] = .ok [] := rfl
theorem rows_one (n : Int) (l : Bs) : rowsGo n [l] = rowsGo n (l :: [[]]) := by
  show rowPut n (lineT l) (.ok []) = rowPut n (lineT l) (rowsGo (n + 1) [[]])
  rw [rows_empty]
theorem keptS_own {α : Type} {e sz : Nat} {enc : α → List Value} {w w' : World} {base : Nat} {v : Value} {l : List α} {S : Nat → Prop} (h : Own e sz enc w base v l) (hk : Kept S w w') (hn : ∀ k, v.ownBlock = some k → ¬ S k) : Own e sz enc w' base v l := by
  refine ⟨h.1, ?_⟩
  rcases h.2 with hn' | ⟨g, cap, cur, rfl, hb, hg, r⟩
  · exact .inl hn'
  · exact .inr ⟨g, cap, cur, rfl, hb, (hk.block g (Array.getElem?_eq_some_iff.1 hg).1 (hn g rfl)).trans hg, r⟩
theorem rd_kept {S : Nat → Prop} {w w' : World} {A : Option Addr} {n : Nat} {l : List ByteArray} (h : RdS w A n l) (hk : Kept S w w') (hne : ∀ ad, A = some ad → ¬ S ad.block) : RdS w' A n l := by
  refine ⟨h.1, fun hp => ?_⟩
  obtain ⟨ad, hA, hc⟩ := h.2 hp
  refine ⟨ad, hA, fun j x i u hj hi => ?_⟩
  have h1 := hc j x i u hj hi
  have hlt : (ad.add (j * 1 + i)).block < w.heap.size := World.block_lt_of_cell? _ _ h1
  have hb : w'.heap[(ad.add (j * 1 + i)).block]? = w.heap[(ad.add (j * 1 + i)).block]? := hk.block _ hlt (by rw [block_of_add]; exact hne ad hA)
  unfold World.cell? at h1 ⊢
  rw [hb]
  exact h1
/-- one line off the text -/
theorem rows_cut (s : Bs) (n : Int) (pl : List RowT) {a e : Nat} (hae : a ≤ e) (hseg : ∀ b ∈ Lib.pieceU s a e, b ≠ 10) (hend : s.length ≤ e ∧ e = s.length ∨ s.drop e = 10 :: s.drop (e + 1)) :
    addRows pl (rowsGo n (linesL (s.drop a))) = lineStep pl n (linesL (s.drop (e + 1))) (lineT (Lib.pieceU s a e)) := by
  have hsplit : s.drop a = Lib.pieceU s a e ++ s.drop e := by
    unfold Lib.pieceU
    have : s.drop e = (s.drop a).drop (e - a) := by rw [List.drop_drop]; congr 1; omega
    rw [this, List.take_append_drop]
  have key : rowsGo n (linesL (s.drop a)) = rowsGo n (Lib.pieceU s a e :: linesL (s.drop (e + 1))) := by
    rcases hend with ⟨h, -⟩ | h
    · rw [hsplit, List.drop_eq_nil_of_le h, List.drop_eq_nil_of_le (Nat.le_succ_of_le h), List.append_nil, lines_seg _ hseg]
      exact rows_one n _
    · rw [hsplit, h, lines_feed _ _ hseg]
  rw [key, rows_step]
theorem info_rowD : (Tryz.prog.info? 118).map (fun i => (i.zero, i.size, i.bytes)) = some (some (.agg #[.int .i64 0, .slice none 0 0]), 2, 32) := by kernel_rfl
theorem rd_rowD {w : World} {k : Nat} {x : RowV} (hk : w.heap.size = k) : Rd 2 encRw (w.alloc (.cells #[.int .i64 x.line, .slice x.A x.ws.length x.k] 118)) (some ⟨k, 0, none⟩) 1 [x] := by
  subst hk
  exact rd_new encRw_len w 118 [x]
def RowsDoc (r : Except Er (List RowT)) (W : World) (e : Ending) (w' : World) : Prop := Below W.heap.size W w' ∧ match r with
  | .error b => ∃ x, e = .returned (.tuple #[.slice none 0 0, errV x]) ∧ DocX (some b) W.heap.size x w'
  | .ok rows => ∃ A k L, e = .returned (.tuple #[.slice A L.length k, errV zX]) ∧ L.length ≤ k ∧ k ≤ maxLen ∧ L.length ≤ 1048577 ∧ RdRow w' A L.length L ∧ L.map RowV.t = rows
set_option maxRecDepth 100000 in
set_option maxHeartbeats 8000000 in
theorem DocRows_any (s : ByteArray) (W : World) (hs : s.size ≤ 140737488355328) :
    Calls Tryz.prog 35 #[.string s] W (RowsDoc (rowsT s.data.toList) W) := by
  have hlen := size_list s
  go_enter Tryz.func35, Tryz.ntmps35
  refine wp_named ?_
  intro Q0 hQ0
  have HQ0 := Lib.hid hQ0
  clear hQ0
  go_upto_region 1 with fail
  have hb1 := (Below.refl W.heap.size W).alloc (Nat.le_refl _) (.cells #[.int .i64 0, .slice none 0 0] 32)
  have hc1 := cells_new W #[.int .i64 0, .slice none 0 0] 32
  have hz1 : (W.alloc (.cells #[.int .i64 0, .slice none 0 0] 32)).heap.size = W.heap.size + 1 := by simp
  generalize W.alloc (.cells #[.int .i64 0, .slice none 0 0] 32) = w1 at *
  have HB1 := Lib.hid hb1
  have HC1 := Lib.hid hc1
  clear hb1 hc1
  by_cases h200 : 1048576 < s.size
  · have g0 : decide ((1048576 : Int) < (s.size : Int)) = true := decide_eq_true (by omega)
    have hl : rowsT s.data.toList = .error (2, none) := by unfold rowsT; rw [if_pos (by omega)]
    go_wp2_with fail
    refine (E_any 2 w1).mono ?_
    rintro e w2 ⟨rfl, hb⟩
    have HB2 := Lib.hid (HB1.out.trans (hb.mono (by omega)))
    have HC2 := Lib.hid (HC1.out.below hb)
    clear hb
    have c0 : w2.cell? ⟨W.heap.size, 0, none⟩ = some (.int .i64 0) := HC2.out.cell 0
    have c1 : w2.cell? ⟨W.heap.size, 1, none⟩ = some (.slice none 0 0) := HC2.out.cell 1
    have f0 := HC2.out.frozen 0
    have f1 := HC2.out.frozen 1
    have hfin := (HC2.out.set_ 0 (.int .i64 2)).set_ 1 (.slice none 0 0)
    simp only [List.setIfInBounds_toArray, List.set_cons_zero, List.set_cons_succ] at hfin
    have hbz : Below W.heap.size W ((w2.setCell ⟨W.heap.size, 0, none⟩ (.int .i64 2)).setCell ⟨W.heap.size, 1, none⟩ (.slice none 0 0)) := (HB2.out.setCell (p := ⟨W.heap.size, 0, none⟩) (Nat.le_refl _) _).setCell (p := ⟨W.heap.size, 1, none⟩) (Nat.le_refl _) _
    have hkz : Kept (fun k => k = W.heap.size) w2 ((w2.setCell ⟨W.heap.size, 0, none⟩ (.int .i64 2)).setCell ⟨W.heap.size, 1, none⟩ (.slice none 0 0)) := ((Kept.refl (fun k => k = W.heap.size) w2).set_ (p := ⟨W.heap.size, 0, none⟩) (.inl rfl) _).set_ (p := ⟨W.heap.size, 1, none⟩) (.inl rfl) _
    have HFIN := Lib.hid hfin
    have HBZ := Lib.hid hbz
    have HKZ := Lib.hid hkz
    clear hfin hbz hkz
    go_wp2_with fail
    generalize (w2.setCell ⟨W.heap.size, 0, none⟩ (.int .i64 2)).setCell ⟨W.heap.size, 1, none⟩ (.slice none 0 0) = wz at *
    have r0 : wz.cell? ⟨W.heap.size, 0, none⟩ = some (.int .i64 2) := HFIN.out.cell 0
    have r1 : wz.cell? ⟨W.heap.size, 1, none⟩ = some (.slice none 0 0) := HFIN.out.cell 1
    have HEND : Hid (RowsDoc (rowsT s.data.toList) W (.returned (.tuple #[.slice none 0 0, .agg #[.int .i64 2, .slice none 0 0]])) wz) := Lib.hid (by rw [hl]; exact ⟨HBZ.out, ⟨2, none, 0, 0⟩, rfl, rfl⟩)
    rw [HQ0.out]
    refine bodyPost_ret (v := .tuple #[.slice none 0 0, .agg #[.int .i64 2, .slice none 0 0]]) ?hres rfl HEND.out
    case hres => simp [results, Tryz.results35, go_sem, r0, r1]
  · have g0 : decide ((1048576 : Int) < (s.size : Int)) = false := decide_eq_false (by omega)
    have hT : rowsT s.data.toList = lineEr (rowsGo 1 (linesL s.data.toList)) := by unfold rowsT; rw [if_neg (by omega)]
    have HT := Lib.hid hT
    clear hT
    go_wp2_with fail
    go_loopw [4, 5, 6] (fun sv lv av wr => ∃ (a : Nat) (ln : Nat) (L : List RowV), a ≤ s.size + 1 ∧ av = .int .i64 (a : Int) ∧ lv = .int .i64 (ln : Int) ∧ ln ≤ a + 1 ∧ L.length ≤ a ∧ Own 118 2 encRw wr w1.heap.size sv L ∧ WsIn wr L ∧ Off sv w1.heap.size L ∧ rowsGo 1 (linesL s.data.toList) = addRows (L.map RowV.t) (rowsGo (ln : Int) (linesL (s.data.toList.drop a))) ∧ Below w1.heap.size w1 wr) (fun _ _ av _ => s.size + 1 - (intOf av).toNat)
    case atStart => exact ⟨0, 1, [], by omega, rfl, rfl, by omega, by simp, Own.nil _ _ _ _ _, fun x hx => by simp at hx, fun x hx => by simp at hx, by simp only [List.map_nil, List.drop_zero]; show rowsGo 1 _ = addRows [] (rowsGo 1 _); cases rowsGo 1 (linesL s.data.toList) <;> rfl, Below.refl _ _⟩
    case round =>
      obtain ⟨a, ln, L, ha, rfl, rfl, hln, hLa, ho, hws, hof, hst, hb⟩ := hrel
      have HB := Lib.hid hb
      have HO := Lib.hid ho
      have HWS := Lib.hid hws
      have HOF := Lib.hid hof
      have HST := Lib.hid hst
      have hsb := hb.size
      clear ho hb hws hof hst
      by_cases hlt : a < s.size
      · have q0 : decide ((a : Int) < (s.size : Int)) = true := decide_eq_true (by omega)
        go_wp2_with fail
        go_loop [7] (fun ev => ∃ e : Nat, a ≤ e ∧ e ≤ s.size ∧ ev = .int .i64 (e : Int) ∧ ∀ b ∈ Lib.pieceU s.data.toList a e, b ≠ 10) (fun ev => s.size - (intOf ev).toNat)
        case atStart => exact ⟨a, by omega, by omega, rfl, fun b hb => by unfold Lib.pieceU at hb; rw [Nat.sub_self] at hb; simp at hb⟩
        case round =>
          obtain ⟨e, hae, hes, rfl, hseg⟩ := hrel
          have HSEG := Lib.hid hseg
          clear hseg
          by_cases hlte : e < s.size
          · have q1 : decide ((e : Int) < (s.size : Int)) = true := decide_eq_true (by omega)
            obtain ⟨b, hb, hdr, htk, hat⟩ := byte_at s hlte
            by_cases h10 : b = 10
            · subst h10
              have q2 : ((((10 : UInt8).toNat : Nat) : Int) == 10) = true := rfl
              have HCUT := Lib.hid (rows_cut s.data.toList (ln : Int) (L.map RowV.t) hae HSEG.out (.inr hdr))
              clear hdr htk hat
              have hw1 : IntKind.i64.wrap ((e : Int) - (a : Int)) = (e : Int) - (a : Int) := by rw [IntKind.wrap_i64]; omega
              have hw2 : IntKind.i64.wrap ((e : Int) + 1) = (e : Int) + 1 := by rw [IntKind.wrap_i64]; omega
              have hw3 : IntKind.i64.wrap ((ln : Int) + 1) = (ln : Int) + 1 := by rw [IntKind.wrap_i64]; omega
              have hplen : (Lib.pieceU s.data.toList a e).length = e - a := by unfold Lib.pieceU; rw [List.length_take, List.length_drop]; omega
              have hst := HST.out
              rw [HCUT.out] at hst
              by_cases h2 : 200 < e - a
              · have q3 : decide ((200 : Int) < (e : Int) - (a : Int)) = true := decide_eq_true (by omega)
                have hl : lineT (Lib.pieceU s.data.toList a e) = .error 2 := by unfold lineT; rw [if_pos (by omega)]
                rw [hl] at hst
                have HST2 := Lib.hid hst
                clear hst hl
                go_wp2_with fail
                refine (E_any 2 wr).mono ?_
                rintro e3 w3 ⟨rfl, hb3⟩
                have HB3 := Lib.hid (HB1.out.trans ((HB.out.trans (hb3.mono hsb)).mono (by omega)))
                have HC3 := Lib.hid ((HC1.out.below HB.out).below hb3)
                clear hb3
                go_wp2_with fail
                refine (At1_any 1 (ln : Int) 2 w3).mono ?_
                rintro e4 w4 ⟨g4, k4, rfl, hx4, hg4, hb4⟩
                have HB4 := Lib.hid (HB3.out.trans (hb4.mono HB3.out.size))
                have HC4 := Lib.hid (HC3.out.below hb4)
                have HX4 := Lib.hid hx4
                have hlt4 := HC3.out.lt
                clear hb4 hx4
                have c0 : w4.cell? ⟨W.heap.size, 0, none⟩ = some (.int .i64 0) := HC4.out.cell 0
                have c1 : w4.cell? ⟨W.heap.size, 1, none⟩ = some (.slice none 0 0) := HC4.out.cell 1
                have f0 := HC4.out.frozen 0
                have f1 := HC4.out.frozen 1
                have hfin := (HC4.out.set_ 0 (.int .i64 2)).set_ 1 (.slice (some ⟨g4, 0, none⟩) 1 k4)
                simp only [List.setIfInBounds_toArray, List.set_cons_zero, List.set_cons_succ] at hfin
                have hbz : Below W.heap.size W ((w4.setCell ⟨W.heap.size, 0, none⟩ (.int .i64 2)).setCell ⟨W.heap.size, 1, none⟩ (.slice (some ⟨g4, 0, none⟩) 1 k4)) := (HB4.out.setCell (p := ⟨W.heap.size, 0, none⟩) (Nat.le_refl _) _).setCell (p := ⟨W.heap.size, 1, none⟩) (Nat.le_refl _) _
                have hkz : Kept (fun k => k = W.heap.size) w4 ((w4.setCell ⟨W.heap.size, 0, none⟩ (.int .i64 2)).setCell ⟨W.heap.size, 1, none⟩ (.slice (some ⟨g4, 0, none⟩) 1 k4)) := ((Kept.refl (fun k => k = W.heap.size) w4).set_ (p := ⟨W.heap.size, 0, none⟩) (.inl rfl) _).set_ (p := ⟨W.heap.size, 1, none⟩) (.inl rfl) _
                have HFIN := Lib.hid hfin
                have HBZ := Lib.hid hbz
                have HKZ := Lib.hid hkz
                clear hfin hbz hkz
                go_wp2_with fail
                generalize (w4.setCell ⟨W.heap.size, 0, none⟩ (.int .i64 2)).setCell ⟨W.heap.size, 1, none⟩ (.slice (some ⟨g4, 0, none⟩) 1 k4) = wz at *
                have r0 : wz.cell? ⟨W.heap.size, 0, none⟩ = some (.int .i64 2) := HFIN.out.cell 0
                have r1 : wz.cell? ⟨W.heap.size, 1, none⟩ = some (.slice (some ⟨g4, 0, none⟩) 1 k4) := HFIN.out.cell 1
                have HEND : Hid (RowsDoc (rowsT s.data.toList) W (.returned (.tuple #[.slice none 0 0, .agg #[.int .i64 2, .slice (some ⟨g4, 0, none⟩) 1 k4]])) wz) := Lib.hid (by rw [HT.out, HST2.out]; exact ⟨HBZ.out, ⟨2, some ⟨g4, 0, none⟩, 1, k4⟩, rfl, g4, k4, rfl, HKZ.out.cells HX4.out (by omega), by have := HB3.out.size; omega⟩)
                rw [HQ0.out]
                refine bodyPost_ret (v := .tuple #[.slice none 0 0, .agg #[.int .i64 2, .slice (some ⟨g4, 0, none⟩) 1 k4]]) ?hres rfl HEND.out
                case hres => simp [results, Tryz.results35, go_sem, r0, r1]
              · have q3 : decide ((200 : Int) < (e : Int) - (a : Int)) = false := decide_eq_false (by omega)
                have hl : lineT (Lib.pieceU s.data.toList a e) = if rightB (cutHash (Lib.pieceU s.data.toList a e)) = true then .ok (wordsL (cutHash (Lib.pieceU s.data.toList a e))) else .error 3 := by unfold lineT; rw [if_neg (by omega)]
                have hwd := wordsD_any (s.extract a e) wr (by rw [← size_list, extract_piece, hplen]; omega)
                rw [extract_piece] at hwd
                rw [hl] at hst
                have hcl := wordsGo_len (cutHash (Lib.pieceU s.data.toList a e)) []
                have hcl2 := cutHash_len (Lib.pieceU s.data.toList a e)
                unfold WordsDoc at hwd
                generalize hrb : rightB (cutHash (Lib.pieceU s.data.toList a e)) = rb at *
                have hwl : (wordsL (cutHash (Lib.pieceU s.data.toList a e))).length ≤ 201 := by unfold wordsL; omega
                generalize wordsL (cutHash (Lib.pieceU s.data.toList a e)) = ws at *
                have HWD := Lib.hid hwd
                clear hwd hl hcl hcl2
                go_wp2_with fail
                refine HWD.out.mono ?_
                rintro e3 w3 ⟨hb3, A3, c3, rfl, ho3⟩
                have HB3 := Lib.hid (HB.out.trans (hb3.mono hsb))
                have HO3 := Lib.hid (HO.out.below hb3)
                have HWS3 := Lib.hid (HWS.out.below hb3)
                have hs3 := HB3.out.size
                have HBW3 := Lib.hid (HB1.out.trans (HB3.out.mono (by omega)))
                have HC3 := Lib.hid (HC1.out.below HB3.out)
                obtain ⟨A3', c3', hv3, hc31, hc32⟩ := ho3.form
                rw [List.length_map] at hv3 hc31
                injection hv3 with hv31 hv32 hv33
                subst hv31 hv33
                have HRW := Lib.hid (ho3.rd encS_len rfl)
                cases rb with
                | false =>
                  rw [if_neg Bool.false_ne_true] at hst
                  have HST2 := Lib.hid hst
                  clear hst hb3 ho3
                  go_wp2_with fail
                  refine (E_any 3 w3).mono ?_
                  rintro e4 w4 ⟨rfl, hb4⟩
                  have HB4 := Lib.hid (HBW3.out.trans (hb4.mono HBW3.out.size))
                  have HC4 := Lib.hid (HC3.out.below hb4)
                  clear hb4
                  go_wp2_with fail
                  refine (At1_any 1 (ln : Int) 3 w4).mono ?_
                  rintro e5 w5 ⟨g4, k4, rfl, hx4, hg4, hb4⟩
                  have HB5 := Lib.hid (HB4.out.trans (hb4.mono HB4.out.size))
                  have HC5 := Lib.hid (HC4.out.below hb4)
                  have HX4 := Lib.hid hx4
                  have hlt4 := HC4.out.lt
                  clear hb4 hx4
                  have c0 : w5.cell? ⟨W.heap.size, 0, none⟩ = some (.int .i64 0) := HC5.out.cell 0
                  have c1 : w5.cell? ⟨W.heap.size, 1, none⟩ = some (.slice none 0 0) := HC5.out.cell 1
                  have f0 := HC5.out.frozen 0
                  have f1 := HC5.out.frozen 1
                  have hfin := (HC5.out.set_ 0 (.int .i64 3)).set_ 1 (.slice (some ⟨g4, 0, none⟩) 1 k4)
                  simp only [List.setIfInBounds_toArray, List.set_cons_zero, List.set_cons_succ] at hfin
                  have hbz : Below W.heap.size W ((w5.setCell ⟨W.heap.size, 0, none⟩ (.int .i64 3)).setCell ⟨W.heap.size, 1, none⟩ (.slice (some ⟨g4, 0, none⟩) 1 k4)) := (HB5.out.setCell (p := ⟨W.heap.size, 0, none⟩) (Nat.le_refl _) _).setCell (p := ⟨W.heap.size, 1, none⟩) (Nat.le_refl _) _
                  have hkz : Kept (fun k => k = W.heap.size) w5 ((w5.setCell ⟨W.heap.size, 0, none⟩ (.int .i64 3)).setCell ⟨W.heap.size, 1, none⟩ (.slice (some ⟨g4, 0, none⟩) 1 k4)) := ((Kept.refl (fun k => k = W.heap.size) w5).set_ (p := ⟨W.heap.size, 0, none⟩) (.inl rfl) _).set_ (p := ⟨W.heap.size, 1, none⟩) (.inl rfl) _
                  have HFIN := Lib.hid hfin
                  have HBZ := Lib.hid hbz
                  have HKZ := Lib.hid hkz
                  clear hfin hbz hkz
                  go_wp2_with fail
                  generalize (w5.setCell ⟨W.heap.size, 0, none⟩ (.int .i64 3)).setCell ⟨W.heap.size, 1, none⟩ (.slice (some ⟨g4, 0, none⟩) 1 k4) = wz at *
                  have r0 : wz.cell? ⟨W.heap.size, 0, none⟩ = some (.int .i64 3) := HFIN.out.cell 0
                  have r1 : wz.cell? ⟨W.heap.size, 1, none⟩ = some (.slice (some ⟨g4, 0, none⟩) 1 k4) := HFIN.out.cell 1
                  have HEND : Hid (RowsDoc (rowsT s.data.toList) W (.returned (.tuple #[.slice none 0 0, .agg #[.int .i64 3, .slice (some ⟨g4, 0, none⟩) 1 k4]])) wz) := Lib.hid (by rw [HT.out, HST2.out]; exact ⟨HBZ.out, ⟨3, some ⟨g4, 0, none⟩, 1, k4⟩, rfl, g4, k4, rfl, HKZ.out.cells HX4.out (by omega), by have := HB4.out.size; omega⟩)
                  rw [HQ0.out]
                  refine bodyPost_ret (v := .tuple #[.slice none 0 0, .agg #[.int .i64 3, .slice (some ⟨g4, 0, none⟩) 1 k4]]) ?hres rfl HEND.out
                  case hres => simp [results, Tryz.results35, go_sem, r0, r1]
                | true =>
                  rw [if_pos rfl] at hst
                  dsimp only [lineStep] at hst
                  have hc1 : ((ln + 1 : Nat) : Int) = (ln : Int) + 1 := by omega
                  have hc2 : ((e + 1 : Nat) : Int) = (e : Int) + 1 := by omega
                  by_cases hws : ws = []
                  · subst hws
                    rw [if_pos rfl] at hst
                    have HST2 := Lib.hid hst
                    clear hst hb3 ho3
                    go_wp2_with fail
                    go_roundw
                    case rel => exact ⟨e + 1, ln + 1, L, by omega, by rw [hc2], by rw [hc1], by omega, by omega, HO3.out, HWS3.out, HOF.out, by rw [hc1]; exact HST2.out, HB3.out⟩
                    case measure => simp [intOf]; omega
                  · rw [if_neg hws] at hst
                    have HST2 := Lib.hid hst
                    have hpos : 0 < ws.length := List.length_pos_iff.2 hws
                    have hA3 : ∀ ad, A3 = some ad → wr.heap.size ≤ ad.block := fun ad hA => (ho3.block (k := ad.block) (by rw [hA]; rfl)).1
                    have HA3 := Lib.hid hA3
                    have q5 : decide ((0 : Int) < (ws.length : Int)) = true := decide_eq_true (by omega)
                    clear hst hb3 ho3 hv32 hA3
                    go_wp2_with (at_builtin; go_loud (refine wpList_append_rd rfl (.tmp 56) (.tmp 60) 86 rfl 118 (.agg #[.int .i64 0, .slice none 0 0]) 32 Tryz.underlying86 info_rowD rfl (by omega) (by omega) encRw_len encRw_one w1.heap.size _ L rfl (HO3.out.below ((Below.refl _ _).alloc (Nat.le_refl _) _)) _ 1 1 [(⟨(ln : Int), A3, c3, ws⟩ : RowV)] rfl (rd_rowD rfl) (by omega) (by simp; omega) ?_; intro v2 w5 ho2 hg2 hat2; have HO5 := Lib.hid ho2; have hb5 := below_own (HB3.out.alloc hs3 _) (HO3.out.below ((Below.refl _ _).alloc (Nat.le_refl _) _)) hg2 (Nat.le_refl _) (by simp; omega); have HB5 : Hid (Below w1.heap.size w1 w5) := Lib.hid hb5; have HG5 := Lib.hid hg2; have HAT := Lib.hid hat2; clear ho2 hg2 hat2 hb5))
                    go_roundw
                    case rel =>
                      refine ⟨e + 1, ln + 1, L ++ [⟨(ln : Int), A3, c3, ws⟩], by omega, by rw [hc2], by rw [hc1], by omega, by simp; omega, HO5.out, fun z hz => ?_, fun z hz ad hA => ?_, by rw [hc1, List.map_append]; exact HST2.out, HB5.out⟩
                      · have hrd3 : RdS w3 z.A z.ws.length (z.ws.map toB) ∧ 0 < z.ws.length ∧ z.ws.length ≤ z.k ∧ z.k ≤ maxLen := by
                          rcases List.mem_append.1 hz with h | h
                          · exact HWS3.out z h
                          · rw [List.mem_singleton.1 h]
                            exact ⟨HRW.out, hpos, hc31, hc32⟩
                        refine ⟨rd_grown (hrd3.1.below ((Below.refl _ _).alloc (Nat.le_refl _) _)) HG5.out fun ad hA => ?_, hrd3.2⟩
                        rcases List.mem_append.1 hz with h | h
                        · exact (HOF.out z h ad hA).1
                        · rw [List.mem_singleton.1 h] at hA
                          intro e
                          have h1 := (HO.out.block e).2
                          have h2 := HA3.out ad hA
                          omega
                      · have hlt3 : ad.block < w3.heap.size := by
                          rcases List.mem_append.1 hz with h | h
                          · exact rd_lt (HWS3.out z h).1 (HWS3.out z h).2.1 ad hA
                          · rw [List.mem_singleton.1 h] at hA
                            exact rd_lt HRW.out hpos ad hA
                        refine ⟨?_, ?_⟩
                        rotate_left
                        · rcases List.mem_append.1 hz with h | h
                          · exact (HOF.out z h ad hA).2
                          · rw [List.mem_singleton.1 h] at hA
                            have h2 := HA3.out ad hA
                            omega
                        rcases HAT.out with e | e
                        · rw [e]
                          rcases List.mem_append.1 hz with h | h
                          · exact (HOF.out z h ad hA).1
                          · rw [List.mem_singleton.1 h] at hA
                            intro e
                            have h1 := (HO.out.block e).2
                            have h2 := HA3.out ad hA
                            omega
                        · rw [e, size_alloc]
                          intro h
                          have := Option.some.inj h
                          omega
                    case measure => simp [intOf]; omega
            · have q2 : (((b.toNat : Nat) : Int) == 10) = false := by
                rw [beq_eq_false_iff_ne]
                exact fun hh => h10 (UInt8.toNat_inj.1 (show b.toNat = 10 by omega))
              have hw2 : IntKind.i64.wrap ((e : Int) + 1) = (e : Int) + 1 := by rw [IntKind.wrap_i64]; omega
              have hgrow : Lib.pieceU s.data.toList a (e + 1) = Lib.pieceU s.data.toList a e ++ [b] := by
                rw [← Lib.pieceU_grow _ _ _ _ hae, hdr]
                rfl
              have HGR := Lib.hid hgrow
              clear hdr htk hat hgrow
              go_wp2_with fail
              go_round
              case rel =>
                refine ⟨e + 1, by omega, by omega, by go_num, fun x hx => ?_⟩
                rw [HGR.out] at hx
                rcases List.mem_append.1 hx with h | h
                · exact HSEG.out x h
                · rw [List.mem_singleton.1 h]; exact h10
              case measure => simp [intOf]; omega
          · have q1 : decide ((e : Int) < (s.size : Int)) = false := decide_eq_false (by omega)
            have HCUT := Lib.hid (rows_cut s.data.toList (ln : Int) (L.map RowV.t) hae HSEG.out (.inl ⟨by omega, by omega⟩))
            have hw1 : IntKind.i64.wrap ((e : Int) - (a : Int)) = (e : Int) - (a : Int) := by rw [IntKind.wrap_i64]; omega
            have hw2 : IntKind.i64.wrap ((e : Int) + 1) = (e : Int) + 1 := by rw [IntKind.wrap_i64]; omega
            have hw3 : IntKind.i64.wrap ((ln : Int) + 1) = (ln : Int) + 1 := by rw [IntKind.wrap_i64]; omega
            have hplen : (Lib.pieceU s.data.toList a e).length = e - a := by unfold Lib.pieceU; rw [List.length_take, List.length_drop]; omega
            have hst := HST.out
            rw [HCUT.out] at hst
            by_cases h2 : 200 < e - a
            · have q3 : decide ((200 : Int) < (e : Int) - (a : Int)) = true := decide_eq_true (by omega)
              have hl : lineT (Lib.pieceU s.data.toList a e) = .error 2 := by unfold lineT; rw [if_pos (by omega)]
              rw [hl] at hst
              have HST2 := Lib.hid hst
              clear hst hl
              go_wp2_with fail
              refine (E_any 2 wr).mono ?_
              rintro e3 w3 ⟨rfl, hb3⟩
              have HB3 := Lib.hid (HB1.out.trans ((HB.out.trans (hb3.mono hsb)).mono (by omega)))
              have HC3 := Lib.hid ((HC1.out.below HB.out).below hb3)
              clear hb3
              go_wp2_with fail
              refine (At1_any 1 (ln : Int) 2 w3).mono ?_
              rintro e4 w4 ⟨g4, k4, rfl, hx4, hg4, hb4⟩
              have HB4 := Lib.hid (HB3.out.trans (hb4.mono HB3.out.size))
              have HC4 := Lib.hid (HC3.out.below hb4)
              have HX4 := Lib.hid hx4
              have hlt4 := HC3.out.lt
              clear hb4 hx4
              have c0 : w4.cell? ⟨W.heap.size, 0, none⟩ = some (.int .i64 0) := HC4.out.cell 0
              have c1 : w4.cell? ⟨W.heap.size, 1, none⟩ = some (.slice none 0 0) := HC4.out.cell 1
              have f0 := HC4.out.frozen 0
              have f1 := HC4.out.frozen 1
              have hfin := (HC4.out.set_ 0 (.int .i64 2)).set_ 1 (.slice (some ⟨g4, 0, none⟩) 1 k4)
              simp only [List.setIfInBounds_toArray, List.set_cons_zero, List.set_cons_succ] at hfin
              have hbz : Below W.heap.size W ((w4.setCell ⟨W.heap.size, 0, none⟩ (.int .i64 2)).setCell ⟨W.heap.size, 1, none⟩ (.slice (some ⟨g4, 0, none⟩) 1 k4)) := (HB4.out.setCell (p := ⟨W.heap.size, 0, none⟩) (Nat.le_refl _) _).setCell (p := ⟨W.heap.size, 1, none⟩) (Nat.le_refl _) _
              have hkz : Kept (fun k => k = W.heap.size) w4 ((w4.setCell ⟨W.heap.size, 0, none⟩ (.int .i64 2)).setCell ⟨W.heap.size, 1, none⟩ (.slice (some ⟨g4, 0, none⟩) 1 k4)) := ((Kept.refl (fun k => k = W.heap.size) w4).set_ (p := ⟨W.heap.size, 0, none⟩) (.inl rfl) _).set_ (p := ⟨W.heap.size, 1, none⟩) (.inl rfl) _
              have HFIN := Lib.hid hfin
              have HBZ := Lib.hid hbz
              have HKZ := Lib.hid hkz
              clear hfin hbz hkz
              go_wp2_with fail
              generalize (w4.setCell ⟨W.heap.size, 0, none⟩ (.int .i64 2)).setCell ⟨W.heap.size, 1, none⟩ (.slice (some ⟨g4, 0, none⟩) 1 k4) = wz at *
              have r0 : wz.cell? ⟨W.heap.size, 0, none⟩ = some (.int .i64 2) := HFIN.out.cell 0
              have r1 : wz.cell? ⟨W.heap.size, 1, none⟩ = some (.slice (some ⟨g4, 0, none⟩) 1 k4) := HFIN.out.cell 1
              have HEND : Hid (RowsDoc (rowsT s.data.toList) W (.returned (.tuple #[.slice none 0 0, .agg #[.int .i64 2, .slice (some ⟨g4, 0, none⟩) 1 k4]])) wz) := Lib.hid (by rw [HT.out, HST2.out]; exact ⟨HBZ.out, ⟨2, some ⟨g4, 0, none⟩, 1, k4⟩, rfl, g4, k4, rfl, HKZ.out.cells HX4.out (by omega), by have := HB3.out.size; omega⟩)
              rw [HQ0.out]
              refine bodyPost_ret (v := .tuple #[.slice none 0 0, .agg #[.int .i64 2, .slice (some ⟨g4, 0, none⟩) 1 k4]]) ?hres rfl HEND.out
              case hres => simp [results, Tryz.results35, go_sem, r0, r1]
            · have q3 : decide ((200 : Int) < (e : Int) - (a : Int)) = false := decide_eq_false (by omega)
              have hl : lineT (Lib.pieceU s.data.toList a e) = if rightB (cutHash (Lib.pieceU s.data.toList a e)) = true then .ok (wordsL (cutHash (Lib.pieceU s.data.toList a e))) else .error 3 := by unfold lineT; rw [if_neg (by omega)]
              have hwd := wordsD_any (s.extract a e) wr (by rw [← size_list, extract_piece, hplen]; omega)
              rw [extract_piece] at hwd
              rw [hl] at hst
              have hcl := wordsGo_len (cutHash (Lib.pieceU s.data.toList a e)) []
              have hcl2 := cutHash_len (Lib.pieceU s.data.toList a e)
              unfold WordsDoc at hwd
              generalize hrb : rightB (cutHash (Lib.pieceU s.data.toList a e)) = rb at *
              have hwl : (wordsL (cutHash (Lib.pieceU s.data.toList a e))).length ≤ 201 := by unfold wordsL; omega
              generalize wordsL (cutHash (Lib.pieceU s.data.toList a e)) = ws at *
              have HWD := Lib.hid hwd
              clear hwd hl hcl hcl2
              go_wp2_with fail
              refine HWD.out.mono ?_
              rintro e3 w3 ⟨hb3, A3, c3, rfl, ho3⟩
              have HB3 := Lib.hid (HB.out.trans (hb3.mono hsb))
              have HO3 := Lib.hid (HO.out.below hb3)
              have HWS3 := Lib.hid (HWS.out.below hb3)
              have hs3 := HB3.out.size
              have HBW3 := Lib.hid (HB1.out.trans (HB3.out.mono (by omega)))
              have HC3 := Lib.hid (HC1.out.below HB3.out)
              obtain ⟨A3', c3', hv3, hc31, hc32⟩ := ho3.form
              rw [List.length_map] at hv3 hc31
              injection hv3 with hv31 hv32 hv33
              subst hv31 hv33
              have HRW := Lib.hid (ho3.rd encS_len rfl)
              cases rb with
              | false =>
                rw [if_neg Bool.false_ne_true] at hst
                have HST2 := Lib.hid hst
                clear hst hb3 ho3
                go_wp2_with fail
                refine (E_any 3 w3).mono ?_
                rintro e4 w4 ⟨rfl, hb4⟩
                have HB4 := Lib.hid (HBW3.out.trans (hb4.mono HBW3.out.size))
                have HC4 := Lib.hid (HC3.out.below hb4)
                clear hb4
                go_wp2_with fail
                refine (At1_any 1 (ln : Int) 3 w4).mono ?_
                rintro e5 w5 ⟨g4, k4, rfl, hx4, hg4, hb4⟩
                have HB5 := Lib.hid (HB4.out.trans (hb4.mono HB4.out.size))
                have HC5 := Lib.hid (HC4.out.below hb4)
                have HX4 := Lib.hid hx4
                have hlt4 := HC4.out.lt
                clear hb4 hx4
                have c0 : w5.cell? ⟨W.heap.size, 0, none⟩ = some (.int .i64 0) := HC5.out.cell 0
                have c1 : w5.cell? ⟨W.heap.size, 1, none⟩ = some (.slice none 0 0) := HC5.out.cell 1
                have f0 := HC5.out.frozen 0
                have f1 := HC5.out.frozen 1
                have hfin := (HC5.out.set_ 0 (.int .i64 3)).set_ 1 (.slice (some ⟨g4, 0, none⟩) 1 k4)
                simp only [List.setIfInBounds_toArray, List.set_cons_zero, List.set_cons_succ] at hfin
                have hbz : Below W.heap.size W ((w5.setCell ⟨W.heap.size, 0, none⟩ (.int .i64 3)).setCell ⟨W.heap.size, 1, none⟩ (.slice (some ⟨g4, 0, none⟩) 1 k4)) := (HB5.out.setCell (p := ⟨W.heap.size, 0, none⟩) (Nat.le_refl _) _).setCell (p := ⟨W.heap.size, 1, none⟩) (Nat.le_refl _) _
                have hkz : Kept (fun k => k = W.heap.size) w5 ((w5.setCell ⟨W.heap.size, 0, none⟩ (.int .i64 3)).setCell ⟨W.heap.size, 1, none⟩ (.slice (some ⟨g4, 0, none⟩) 1 k4)) := ((Kept.refl (fun k => k = W.heap.size) w5).set_ (p := ⟨W.heap.size, 0, none⟩) (.inl rfl) _).set_ (p := ⟨W.heap.size, 1, none⟩) (.inl rfl) _
                have HFIN := Lib.hid hfin
                have HBZ := Lib.hid hbz
                have HKZ := Lib.hid hkz
                clear hfin hbz hkz
                go_wp2_with fail
                generalize (w5.setCell ⟨W.heap.size, 0, none⟩ (.int .i64 3)).setCell ⟨W.heap.size, 1, none⟩ (.slice (some ⟨g4, 0, none⟩) 1 k4) = wz at *
                have r0 : wz.cell? ⟨W.heap.size, 0, none⟩ = some (.int .i64 3) := HFIN.out.cell 0
                have r1 : wz.cell? ⟨W.heap.size, 1, none⟩ = some (.slice (some ⟨g4, 0, none⟩) 1 k4) := HFIN.out.cell 1
                have HEND : Hid (RowsDoc (rowsT s.data.toList) W (.returned (.tuple #[.slice none 0 0, .agg #[.int .i64 3, .slice (some ⟨g4, 0, none⟩) 1 k4]])) wz) := Lib.hid (by rw [HT.out, HST2.out]; exact ⟨HBZ.out, ⟨3, some ⟨g4, 0, none⟩, 1, k4⟩, rfl, g4, k4, rfl, HKZ.out.cells HX4.out (by omega), by have := HB4.out.size; omega⟩)
                rw [HQ0.out]
                refine bodyPost_ret (v := .tuple #[.slice none 0 0, .agg #[.int .i64 3, .slice (some ⟨g4, 0, none⟩) 1 k4]]) ?hres rfl HEND.out
                case hres => simp [results, Tryz.results35, go_sem, r0, r1]
              | true =>
                rw [if_pos rfl] at hst
                dsimp only [lineStep] at hst
                have hc1 : ((ln + 1 : Nat) : Int) = (ln : Int) + 1 := by omega
                have hc2 : ((e + 1 : Nat) : Int) = (e : Int) + 1 := by omega
                by_cases hws : ws = []
                · subst hws
                  rw [if_pos rfl] at hst
                  have HST2 := Lib.hid hst
                  clear hst hb3 ho3
                  go_wp2_with fail
                  go_roundw
                  case rel => exact ⟨e + 1, ln + 1, L, by omega, by rw [hc2], by rw [hc1], by omega, by omega, HO3.out, HWS3.out, HOF.out, by rw [hc1]; exact HST2.out, HB3.out⟩
                  case measure => simp [intOf]; omega
                · rw [if_neg hws] at hst
                  have HST2 := Lib.hid hst
                  have hpos : 0 < ws.length := List.length_pos_iff.2 hws
                  have hA3 : ∀ ad, A3 = some ad → wr.heap.size ≤ ad.block := fun ad hA => (ho3.block (k := ad.block) (by rw [hA]; rfl)).1
                  have HA3 := Lib.hid hA3
                  have q5 : decide ((0 : Int) < (ws.length : Int)) = true := decide_eq_true (by omega)
                  clear hst hb3 ho3 hv32 hA3
                  go_wp2_with (at_builtin; go_loud (refine wpList_append_rd rfl (.tmp 56) (.tmp 60) 86 rfl 118 (.agg #[.int .i64 0, .slice none 0 0]) 32 Tryz.underlying86 info_rowD rfl (by omega) (by omega) encRw_len encRw_one w1.heap.size _ L rfl (HO3.out.below ((Below.refl _ _).alloc (Nat.le_refl _) _)) _ 1 1 [(⟨(ln : Int), A3, c3, ws⟩ : RowV)] rfl (rd_rowD rfl) (by omega) (by simp; omega) ?_; intro v2 w5 ho2 hg2 hat2; have HO5 := Lib.hid ho2; have hb5 := below_own (HB3.out.alloc hs3 _) (HO3.out.below ((Below.refl _ _).alloc (Nat.le_refl _) _)) hg2 (Nat.le_refl _) (by simp; omega); have HB5 : Hid (Below w1.heap.size w1 w5) := Lib.hid hb5; have HG5 := Lib.hid hg2; have HAT := Lib.hid hat2; clear ho2 hg2 hat2 hb5))
                  go_roundw
                  case rel =>
                    refine ⟨e + 1, ln + 1, L ++ [⟨(ln : Int), A3, c3, ws⟩], by omega, by rw [hc2], by rw [hc1], by omega, by simp; omega, HO5.out, fun z hz => ?_, fun z hz ad hA => ?_, by rw [hc1, List.map_append]; exact HST2.out, HB5.out⟩
                    · have hrd3 : RdS w3 z.A z.ws.length (z.ws.map toB) ∧ 0 < z.ws.length ∧ z.ws.length ≤ z.k ∧ z.k ≤ maxLen := by
                        rcases List.mem_append.1 hz with h | h
                        · exact HWS3.out z h
                        · rw [List.mem_singleton.1 h]
                          exact ⟨HRW.out, hpos, hc31, hc32⟩
                      refine ⟨rd_grown (hrd3.1.below ((Below.refl _ _).alloc (Nat.le_refl _) _)) HG5.out fun ad hA => ?_, hrd3.2⟩
                      rcases List.mem_append.1 hz with h | h
                      · exact (HOF.out z h ad hA).1
                      · rw [List.mem_singleton.1 h] at hA
                        intro e
                        have h1 := (HO.out.block e).2
                        have h2 := HA3.out ad hA
                        omega
                    · have hlt3 : ad.block < w3.heap.size := by
                        rcases List.mem_append.1 hz with h | h
                        · exact rd_lt (HWS3.out z h).1 (HWS3.out z h).2.1 ad hA
                        · rw [List.mem_singleton.1 h] at hA
                          exact rd_lt HRW.out hpos ad hA
                      refine ⟨?_, ?_⟩
                      rotate_left
                      · rcases List.mem_append.1 hz with h | h
                        · exact (HOF.out z h ad hA).2
                        · rw [List.mem_singleton.1 h] at hA
                          have h2 := HA3.out ad hA
                          omega
                      rcases HAT.out with e | e
                      · rw [e]
                        rcases List.mem_append.1 hz with h | h
                        · exact (HOF.out z h ad hA).1
                        · rw [List.mem_singleton.1 h] at hA
                          intro e
                          have h1 := (HO.out.block e).2
                          have h2 := HA3.out ad hA
                          omega
                      · rw [e, size_alloc]
                        intro h
                        have := Option.some.inj h
                        omega
                  case measure => simp [intOf]; omega
      · have q0 : decide ((a : Int) < (s.size : Int)) = false := decide_eq_false (by omega)
        have hst := HST.out
        rw [List.drop_eq_nil_of_le (by omega)] at hst
        have hst2 : rowsGo 1 (linesL s.data.toList) = .ok (L.map RowV.t) := by
          rw [hst]
          show addRows _ (rowsGo _ [[]]) = _
          rw [rows_empty]
          simp [addRows]
        obtain ⟨A2, c2, rfl, hc1, hc2⟩ := HO.out.form
        have HST2 := Lib.hid hst2
        have HBW := Lib.hid (HB1.out.trans (HB.out.mono (by omega)))
        have HC := Lib.hid (HC1.out.below HB.out)
        have hA2 : ∀ ad, A2 = some ad → W.heap.size + 1 ≤ ad.block := fun ad hA => by
          have := (HO.out.block (k := ad.block) (by rw [hA]; rfl)).1
          omega
        have HA2 := Lib.hid hA2
        clear hst hst2 hA2
        have c0 : wr.cell? ⟨W.heap.size, 0, none⟩ = some (.int .i64 0) := HC.out.cell 0
        have c1 : wr.cell? ⟨W.heap.size, 1, none⟩ = some (.slice none 0 0) := HC.out.cell 1
        have f0 := HC.out.frozen 0
        have f1 := HC.out.frozen 1
        have hfin := (HC.out.set_ 0 (.int .i64 0)).set_ 1 (.slice none 0 0)
        simp only [List.setIfInBounds_toArray, List.set_cons_zero, List.set_cons_succ] at hfin
        have hbz : Below W.heap.size W ((wr.setCell ⟨W.heap.size, 0, none⟩ (.int .i64 0)).setCell ⟨W.heap.size, 1, none⟩ (.slice none 0 0)) := (HBW.out.setCell (p := ⟨W.heap.size, 0, none⟩) (Nat.le_refl _) _).setCell (p := ⟨W.heap.size, 1, none⟩) (Nat.le_refl _) _
        have hkz : Kept (fun k => k = W.heap.size) wr ((wr.setCell ⟨W.heap.size, 0, none⟩ (.int .i64 0)).setCell ⟨W.heap.size, 1, none⟩ (.slice none 0 0)) := ((Kept.refl (fun k => k = W.heap.size) wr).set_ (p := ⟨W.heap.size, 0, none⟩) (.inl rfl) _).set_ (p := ⟨W.heap.size, 1, none⟩) (.inl rfl) _
        have HFIN := Lib.hid hfin
        have HBZ := Lib.hid hbz
        have HKZ := Lib.hid hkz
        clear hfin hbz hkz
        go_wp2_with fail
        generalize (wr.setCell ⟨W.heap.size, 0, none⟩ (.int .i64 0)).setCell ⟨W.heap.size, 1, none⟩ (.slice none 0 0) = wz at *
        have r0 : wz.cell? ⟨W.heap.size, 0, none⟩ = some (.int .i64 0) := HFIN.out.cell 0
        have r1 : wz.cell? ⟨W.heap.size, 1, none⟩ = some (.slice none 0 0) := HFIN.out.cell 1
        have HEND : Hid (RowsDoc (rowsT s.data.toList) W (.returned (.tuple #[.slice A2 L.length c2, .agg #[.int .i64 0, .slice none 0 0]])) wz) := Lib.hid (by
          rw [HT.out, HST2.out]
          refine ⟨HBZ.out, A2, c2, L, rfl, hc1, hc2, by omega, ⟨(keptS_own HO.out HKZ.out (fun k hk e => by have := (HO.out.block hk).1; omega)).rd encRw_len rfl, fun x hx => ?_⟩, rfl⟩
          obtain ⟨h1, h2, h3⟩ := HWS.out x hx
          exact ⟨rd_kept h1 HKZ.out (fun ad hA e => by have := (HOF.out x hx ad hA).2; omega), h2, h3⟩)
        rw [HQ0.out]
        refine bodyPost_ret (v := .tuple #[.slice A2 L.length c2, .agg #[.int .i64 0, .slice none 0 0]]) ?hres rfl HEND.out
        case hres => simp [results, Tryz.results35, go_sem, r0, r1]
end Go.Proofs.YtngihiebkbheaaaGreatDoor
