/- The document's side: copies of places, what is told of a chain, lists alike. -/
import Derived.Test.YtkncgpnnilcicaaDoorFa8
set_option linter.unusedSimpArgs false
set_option linter.unusedVariables false
namespace Go.Proofs.YtkncgpnnilcicaaDoor
open Go.RowKit Go.Extern.Stop Go.Stop Go.Extern

theorem rd_place2 (w : World) (o : Obj) (x : Int × Int) : RdP ((w.alloc o).alloc (.cells #[.int .i64 x.1, .int .i64 x.2] 34)) (some ⟨w.heap.size + 1, 0, none⟩) 1 [x] := by
  have h := rd_place (w.alloc o) x
  rwa [size_alloc] at h
set_option maxRecDepth 100000 in
theorem Twin_any (A : Option Addr) (n cap : Nat) (ps : List (Int × Int)) (W : World) (hp : RdP W A n ps) (hn : n ≤ 64) :
    Calls Tryd.prog 43 #[.slice A n cap] W fun e w' => ∃ v, e = .returned v ∧ OwnP w' W.heap.size v ps ∧ Below W.heap.size W w' := by
  have HP := Lib.hid hp
  clear hp
  go_enter Tryd.func43, Tryd.ntmps43
  go_wp2_with fail
  go_loopw [3, 8] (fun sv iv wr => ∃ j : Nat, j ≤ n ∧ iv = .int .i64 j ∧ OwnP wr W.heap.size sv (ps.take j) ∧ Below W.heap.size W wr) (fun _ iv _ => n - (intOf iv).toNat)
  case atStart => exact ⟨0, by omega, rfl, Own.nil _ _ _ _ _, Below.refl _ _⟩
  case round =>
    obtain ⟨j, hj, rfl, ho, hb⟩ := hrel
    have HB := Lib.hid hb
    have HO := Lib.hid ho
    clear ho hb
    by_cases hlt : j < n
    · have g0 : decide ((j : Int) < (n : Int)) = true := decide_eq_true (by omega)
      obtain ⟨ad, hA, cc⟩ := (HP.out.below HB.out).at_ hlt
      subst hA
      have hjq : j < ps.length := by have := HP.out.1; omega
      obtain ⟨c0, c1⟩ := two_places cc
      clear cc
      have htk := List.take_succ_eq_append_getElem hjq
      generalize ps[j] = x at *
      obtain ⟨xk, xa⟩ := x
      dsimp only at c0 c1
      have HTK := Lib.hid htk
      have HJQ := Lib.hid hjq
      clear htk hjq
      go_wp2_with (at_builtin; go_loud (refine wpList_append_rd rfl (.tmp 12) (.tmp 14) 23 rfl 34 (.agg #[.int .i64 0, .int .i64 0]) 16 Tryd.underlying23 info_place rfl (by omega) (by omega) places_len places_one W.heap.size _ (ps.take j) rfl (HO.out.below (((Below.refl _ _).alloc (Nat.le_refl _) _).alloc (by simp) _)) _ 1 1 [((xk, xa) : Int × Int)] rfl (rd_place2 wr _ (xk, xa)) (by rw [List.length_take]; omega) (by have := HB.out.size; simp; omega) ?_; intro v2 w2 ho2 hg2 hat2; have HO2 := Lib.hid ho2; have HB2 : Hid (Below W.heap.size W w2) := Lib.hid (below_own (HB.out.trans ((two_allocs wr _ _).mono HB.out.size)) (HO.out.below (((Below.refl _ _).alloc (Nat.le_refl _) _).alloc (by simp) _)) hg2 (Nat.le_refl _) (by have := HB.out.size; simp; omega)); clear ho2 hg2 hat2))
      go_roundw
      case rel => exact ⟨j + 1, by omega, by go_num, by rw [HTK.out]; exact HO2.out, HB2.out⟩
      case measure => simp [intOf]; omega
    · obtain rfl : j = n := by omega
      have htk : ps.take j = ps := List.take_of_length_le (by have := HP.out.1; omega)
      rw [htk] at HO
      clear htk
      go_wp2_with fail
      go_ret
      exact ⟨_, rfl, HO.out, HB.out⟩
theorem Alike_any (A B : Option Addr) (n m c d : Nat) (ps qs : List (Int × Int)) (W : World) (hp : RdP W A n ps) (hq : RdP W B m qs) (hn : n ≤ 9223372036854775807) (hm : m ≤ 9223372036854775807) :
    Calls Tryd.prog 18 #[.slice A n c, .slice B m d] W (BoolBelow (decide (ps = qs)) W) := by
  have HP := Lib.hid hp
  have HQ := Lib.hid hq
  clear hp hq
  by_cases hnm : n = m
  · subst hnm
    generalize hres : decide (ps = qs) = r
    go_enter Tryd.func18, Tryd.ntmps18
    go_wp2_with fail
    go_loopw [13] (fun iv wr => ∃ j : Nat, j ≤ n ∧ iv = .int .i64 j ∧ Below W.heap.size W wr ∧ ps.take j = qs.take j) (fun iv _ => n - (intOf iv).toNat)
    case atStart => exact ⟨0, by omega, rfl, Below.refl _ _, rfl⟩
    case round =>
      obtain ⟨j, hj, rfl, hb, he⟩ := hrel
      have HB := Lib.hid hb
      have HE := Lib.hid he
      clear hb he
      by_cases hlt : j < n
      · have g0 : decide ((j : Int) < (n : Int)) = true := decide_eq_true (by omega)
        obtain ⟨ad, hA, cc⟩ := (HP.out.below HB.out).at_ hlt
        subst hA
        obtain ⟨be, hB, dd⟩ := (HQ.out.below HB.out).at_ hlt
        subst hB
        have hjp : j < ps.length := by have := HP.out.1; omega
        have hjq : j < qs.length := by have := HQ.out.1; omega
        obtain ⟨c0, c1⟩ := two_places cc
        obtain ⟨d0, d1⟩ := two_places dd
        clear cc dd
        have htp := List.take_succ_eq_append_getElem hjp
        have htq := List.take_succ_eq_append_getElem hjq
        have hgp : ps[j]? = some ps[j] := List.getElem?_eq_getElem hjp
        have hgq : qs[j]? = some qs[j] := List.getElem?_eq_getElem hjq
        generalize ps[j] = x at *
        generalize qs[j] = y at *
        obtain ⟨xk, xa⟩ := x
        obtain ⟨yk, ya⟩ := y
        dsimp only at c0 c1 d0 d1
        have HTP := Lib.hid htp
        have HTQ := Lib.hid htq
        have HGP := Lib.hid hgp
        have HGQ := Lib.hid hgq
        clear htp htq hgp hgq hjp hjq
        by_cases hx : xk = yk ∧ xa = ya
        · obtain ⟨rfl, rfl⟩ := hx
          go_wp2_with (go_quiet (fail))
          go_roundw
          case rel => exact ⟨j + 1, by omega, by go_num, HB.out.trans ⟨rfl, rfl, rfl, Nat.le_refl _, fun _ _ => rfl⟩, by rw [HTP.out, HTQ.out, HE.out]⟩
          case measure => simp [intOf]; omega
        · have hr : r = false := by
            rw [← hres]
            exact decide_eq_false (fun h => by
              subst h
              have := Option.some.inj (HGP.out.symm.trans HGQ.out)
              simp only [Prod.mk.injEq] at this
              exact hx this)
          subst hr
          clear hres
          by_cases hk : xk = yk
          · subst hk
            have g2 : (xa == ya) = false := by simpa using fun h => hx ⟨rfl, h⟩
            have g3 : ¬ xa = ya := fun h => hx ⟨rfl, h⟩
            clear hx
            go_wp2_with (go_quiet (fail))
            go_ret
            exact ⟨rfl, HB.out.trans ⟨rfl, rfl, rfl, Nat.le_refl _, fun _ _ => rfl⟩⟩
          · have g2 : (xk == yk) = false := by simpa using hk
            clear hx
            go_wp2_with (go_quiet (fail))
            go_ret
            exact ⟨rfl, HB.out.trans ⟨rfl, rfl, rfl, Nat.le_refl _, fun _ _ => rfl⟩⟩
      · obtain rfl : j = n := by omega
        have hr : r = true := by
          rw [← hres]
          have h1 : ps.take j = ps := List.take_of_length_le (by have := HP.out.1; omega)
          have h2 : qs.take j = qs := List.take_of_length_le (by have := HQ.out.1; omega)
          have := HE.out
          rw [h1, h2] at this
          exact decide_eq_true this
        subst hr
        clear hres
        go_wp2_with fail
        go_ret
        exact ⟨rfl, HB.out⟩
  · have hr : decide (ps = qs) = false := decide_eq_false (fun h => hnm (by rw [← HP.out.1, ← HQ.out.1, h]))
    rw [hr]
    have g1 : ((n : Int) != (m : Int)) = true := by simp only [bne, Bool.not_eq_true', beq_eq_false_iff_ne]; omega
    clear hr hnm
    go_enter Tryd.func18, Tryd.ntmps18
    go_wp2_with fail
    go_ret
    exact ⟨rfl, Below.refl _ _⟩
def toldC (ps : List (Int × Int)) (c : Int) : Int := if ps.length < 64 then c else 0
theorem Told_any (A : Option Addr) (n cap : Nat) (ps : List (Int × Int)) (c : Int) (W : World) (hp : RdP W A n ps) (hn : n ≤ cap) (hcap : cap ≤ 9223372036854775807) :
    Calls Tryd.prog 21 #[.slice A n cap, .int .i64 c] W fun e w' => ∃ v, e = .returned (.agg #[.int .i64 (toldC ps c), v]) ∧ OwnP w' W.heap.size v (linkPs ps) ∧ Below W.heap.size W w' := by
  by_cases hlt : n < 64
  · have g0 : decide ((64 : Int) ≤ (n : Int)) = false := decide_eq_false (by omega)
    have HC : Hid (toldC ps c = c) := Lib.hid (by unfold toldC; rw [if_pos (by have := hp.1; omega)])
    have HL : Hid (linkPs ps = ps) := Lib.hid (List.take_of_length_le (by have := hp.1; omega))
    have HT := Lib.hid (Twin_any A n cap ps _ (hp.below (two_allocs W (.cells #[.int .i64 0, .slice none 0 0] 46) (.cells #[.int .i64 c, .slice none 0 0] 46))) (by omega))
    rw [HC.out, HL.out]
    clear hp
    go_enter Tryd.func21, Tryd.ntmps21
    go_wp2_with fail
    refine HT.out.mono ?_
    rintro e w2 ⟨v, rfl, ho, hb⟩
    have he := ((cells_new W #[.int .i64 0, .slice none 0 0] 46).below ((Below.refl _ _).alloc (Nat.le_refl _) (.cells #[.int .i64 c, .slice none 0 0] 46))).below hb
    have hc := (cells_new (W.alloc (.cells #[.int .i64 0, .slice none 0 0] 46)) #[.int .i64 c, .slice none 0 0] 46).below hb
    rw [size_alloc] at hc
    have hk : ∀ k, v.ownBlock = some k → W.heap.size + 2 ≤ k := fun k h => by have := (ho.block h).1; simp at this; omega
    have HO := Lib.hid (ho.mono (by simp; omega) : OwnP w2 W.heap.size v ps)
    have HB := Lib.hid ((two_allocs W _ _).trans (hb.mono (by simp; omega)))
    have HKB := Lib.hid hk
    obtain ⟨A', c', rfl, hc1, hc2⟩ := ho.form
    generalize ps.length = pl at *
    have e0 := he.cell 0
    have e1 := he.cell 1
    have d0 := hc.cell 0
    have d1 := hc.cell 1
    have f0 := he.frozen 0
    have f1 := he.frozen 1
    have h0 := hc.frozen 0
    have h1 := hc.frozen 1
    simp only [List.getElem?_toArray, List.getElem?_cons_zero, List.getElem?_cons_succ] at e0 e1 d0 d1
    have HFIN : Hid (Cells (((w2.setCell ⟨W.heap.size + 1, 1, none⟩ (.slice A' pl c')).setCell ⟨W.heap.size, 0, none⟩ (.int .i64 c)).setCell ⟨W.heap.size, 1, none⟩ (.slice A' pl c')) W.heap.size #[.int .i64 c, .slice A' pl c'] 46) := Lib.hid (((he.far 1 _ (by omega)).set_ 0 (.int .i64 c)).set_ 1 (.slice A' pl c'))
    clear ho hb hc he hk HT hc1 hc2
    go_wp2_with fail
    have HO3 := Lib.hid (own_far2 (own_far2 (own_far2 HO.out (p := ⟨W.heap.size + 1, 1, none⟩) (fun h => by have := HKB.out _ h; simp at this) (.slice A' pl c')) (p := ⟨W.heap.size, 0, none⟩) (fun h => by have := HKB.out _ h; simp at this; omega) (.int .i64 c)) (p := ⟨W.heap.size, 1, none⟩) (fun h => by have := HKB.out _ h; simp at this; omega) (.slice A' pl c'))
    have HB3 := Lib.hid (((HB.out.setCell (p := ⟨W.heap.size + 1, 1, none⟩) (by simp) (.slice A' pl c')).setCell (p := ⟨W.heap.size, 0, none⟩) (Nat.le_refl _) (.int .i64 c)).setCell (p := ⟨W.heap.size, 1, none⟩) (Nat.le_refl _) (.slice A' pl c'))
    generalize ((w2.setCell ⟨W.heap.size + 1, 1, none⟩ (.slice A' pl c')).setCell ⟨W.heap.size, 0, none⟩ (.int .i64 c)).setCell ⟨W.heap.size, 1, none⟩ (.slice A' pl c') = w3 at HFIN HO3 HB3 ⊢
    have r0 : w3.cell? ⟨W.heap.size, 0, none⟩ = some (.int .i64 c) := HFIN.out.cell 0
    have r1 : w3.cell? ⟨W.heap.size, 1, none⟩ = some (.slice A' pl c') := HFIN.out.cell 1
    refine bodyPost_ret (by simp [results, Tryd.results21, go_sem, r0, r1]; try rfl) rfl ?_
    exact ⟨_, rfl, HO3.out, HB3.out⟩
  · have g0 : decide ((64 : Int) ≤ (n : Int)) = true := decide_eq_true (by omega)
    have HC : Hid (toldC ps c = 0) := Lib.hid (by unfold toldC; rw [if_neg (by have := hp.1; omega)])
    have HT := Lib.hid (Twin_any A 64 cap (linkPs ps) _ ((hp.below (two_allocs W (.cells #[.int .i64 0, .slice none 0 0] 46) (.cells #[.int .i64 c, .slice none 0 0] 46))).take (by omega)) (by omega))
    rw [HC.out]
    generalize linkPs ps = qs at *
    clear hp
    go_enter Tryd.func21, Tryd.ntmps21
    go_wp2_with fail
    refine HT.out.mono ?_
    rintro e w2 ⟨v, rfl, ho, hb⟩
    have he := ((cells_new W #[.int .i64 0, .slice none 0 0] 46).below ((Below.refl _ _).alloc (Nat.le_refl _) (.cells #[.int .i64 c, .slice none 0 0] 46))).below hb
    have hk : ∀ k, v.ownBlock = some k → W.heap.size + 2 ≤ k := fun k h => by have := (ho.block h).1; simp at this; omega
    have HO := Lib.hid (ho.mono (by simp; omega) : OwnP w2 W.heap.size v qs)
    have HB := Lib.hid ((two_allocs W _ _).trans (hb.mono (by simp; omega)))
    have HKB := Lib.hid hk
    obtain ⟨A', c', rfl, hc1, hc2⟩ := ho.form
    generalize qs.length = pl at *
    have e0 := he.cell 0
    have e1 := he.cell 1
    have f0 := he.frozen 0
    have f1 := he.frozen 1
    simp only [List.getElem?_toArray, List.getElem?_cons_zero, List.getElem?_cons_succ] at e0 e1
    have HFIN : Hid (Cells ((w2.setCell ⟨W.heap.size, 0, none⟩ (.int .i64 0)).setCell ⟨W.heap.size, 1, none⟩ (.slice A' pl c')) W.heap.size #[.int .i64 0, .slice A' pl c'] 46) := Lib.hid ((he.set_ 0 (.int .i64 0)).set_ 1 (.slice A' pl c'))
    clear ho hb he hk HT hc1 hc2
    go_wp2_with fail
    have HO3 := Lib.hid (own_far2 (own_far2 HO.out (p := ⟨W.heap.size, 0, none⟩) (fun h => by have := HKB.out _ h; simp at this; omega) (.int .i64 0)) (p := ⟨W.heap.size, 1, none⟩) (fun h => by have := HKB.out _ h; simp at this; omega) (.slice A' pl c'))
    have HB3 := Lib.hid ((HB.out.setCell (p := ⟨W.heap.size, 0, none⟩) (Nat.le_refl _) (.int .i64 0)).setCell (p := ⟨W.heap.size, 1, none⟩) (Nat.le_refl _) (.slice A' pl c'))
    generalize (w2.setCell ⟨W.heap.size, 0, none⟩ (.int .i64 0)).setCell ⟨W.heap.size, 1, none⟩ (.slice A' pl c') = w3 at HFIN HO3 HB3 ⊢
    have r0 : w3.cell? ⟨W.heap.size, 0, none⟩ = some (.int .i64 0) := HFIN.out.cell 0
    have r1 : w3.cell? ⟨W.heap.size, 1, none⟩ = some (.slice A' pl c') := HFIN.out.cell 1
    refine bodyPost_ret (by simp [results, Tryd.results21, go_sem, r0, r1]; try rfl) rfl ?_
    exact ⟨_, rfl, HO3.out, HB3.out⟩
end Go.Proofs.YtkncgpnnilcicaaDoor
