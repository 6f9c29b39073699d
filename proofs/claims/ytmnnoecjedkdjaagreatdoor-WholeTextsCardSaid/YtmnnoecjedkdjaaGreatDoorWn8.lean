/- normal.Of at a right graph. -/
import Derived.Test.YtmnnoecjedkdjaaGreatDoorWn6
import Derived.Test.YtmnnoecjedkdjaaGreatDoorWn7
import Derived.Test.YtmnnoecjedkdjaaGreatDoorGt22
import Derived.Shelf.SlSortCmp.NoneTotal
set_option linter.unusedSimpArgs false
set_option linter.unusedVariables false
namespace Go.Proofs.YtmnnoecjedkdjaaGreatDoor
open Go.RowKit Txt

theorem own_cases {base : Nat} {v : Value} {l : List ArcT} {W : World} (h : OwnA W base v l) : (v = .slice none 0 0 ∧ l = []) ∨ ∃ g cap, v = .slice (some ⟨g, 0, none⟩) l.length cap := by
  rcases h.2 with ⟨h1, h2⟩ | ⟨g, cap, cur, h1, _⟩
  · exact .inl ⟨h1, List.length_eq_zero_iff.1 h2⟩
  · exact .inr ⟨g, cap, h1⟩
theorem Sort_own {base : Nat} {v : Value} {l : List ArcT} {W : World} (h : OwnA W base v l) (hsz : l.length < 4611686018427387904) :
    Calls Tryz.prog 36 #[v, .func (.func 37) #[] #[]] W fun e w' => e = .returned (.tuple #[]) ∧ ∃ s : List ArcT, s.Perm l ∧ (s.Pairwise fun x y => ¬ lexA y x) ∧ OwnA w' base v s ∧ Kept (fun k => v.ownBlock = some k) W w' := by
  rcases own_cases h with ⟨rfl, rfl⟩ | ⟨g, cap, rfl⟩
  · refine (AnyF.slices_SortFunc_none Tryz.sortArc none 0 _ W).mono ?_
    rintro e w' ⟨rfl, rfl⟩
    exact ⟨rfl, [], List.Perm.refl _, List.Pairwise.nil, h, Kept.refl _ _⟩
  · refine (Sort_any h rfl hsz).mono ?_
    rintro e w' ⟨rfl, s, h1, h2, h3, h4⟩
    exact ⟨rfl, s, h1, h2, h3, h4.os, h4.tape, h4.output, h4.size, fun k hk hs => h4.block k hk (fun e => hs (by rw [e]; rfl))⟩
theorem Compact_own {base : Nat} {v : Value} {l : List ArcT} {W : World} (h : OwnA W base v l) :
    Calls Tryz.prog 38 #[v, .func (.func 39) #[] #[]] W fun e w' => ∃ v', e = .returned v' ∧ v'.ownBlock = v.ownBlock ∧ OwnA w' base v' (compL l) ∧ Kept (fun k => v.ownBlock = some k) W w' := by
  rcases own_cases h with ⟨rfl, rfl⟩ | ⟨g, cap, rfl⟩
  · refine (Compact_nil W).mono ?_
    rintro e w' ⟨rfl, rfl⟩
    exact ⟨_, rfl, rfl, h, Kept.refl _ _⟩
  · refine (Compact_any h rfl).mono ?_
    rintro e w' ⟨k, rfl, h1, h2, h3⟩
    exact ⟨_, rfl, rfl, h2, h3.os, h3.tape, h3.output, h3.size, fun k hk hs => h3.block k hk (fun e => hs (by rw [e]; rfl))⟩
def OfIs (n : Int) (l : List ArcT) (W : World) (e : Ending) (w' : World) : Prop := ∃ al A c, e = .returned (.tuple #[.agg #[.int .i64 n, .slice A al.length c], .nilIface]) ∧ OwnA w' W.heap.size (.slice A al.length c) al ∧ NormOf l al ∧ Below W.heap.size W w'
set_option maxRecDepth 100000 in
set_option maxHeartbeats 8000000 in
theorem Of_any (n : Int) (l : List ArcT) (A : Option Addr) (m kk : Nat) (W : World) (hrd : RdA W A m l) (hok : chkT ⟨n, l⟩ = none) :
    Calls Tryz.prog 15 #[.agg #[.int .i64 n, .slice A m kk]] W (OfIs n l W) := by
  have HRD := Lib.hid hrd
  have hml := hrd.1
  have hlen : m ≤ 262144 := by have := (chkT_none.1 hok).2.2.1; dsimp only at this; omega
  have hck : ∀ w, Below W.heap.size W w → Calls Tryz.prog 12 #[.agg #[.int .i64 n, .slice A m kk]] w (fun e w' => e = .returned .nilIface ∧ Below w.heap.size w w') := fun w hb => by
    have h := GCheck_any ⟨n, l⟩ A kk w (by rw [hml]; exact hrd.below hb) (by dsimp only; omega)
    rw [hok] at h
    dsimp only at h
    rw [hml] at h
    exact h.mono fun e w' he => ⟨he.2, he.1⟩
  have HCK := Lib.hid hck
  clear hrd hck hok
  have hb1 := ((Below.refl W.heap.size W).alloc (Nat.le_refl _) (.cells #[.int .i64 n, .slice A m kk] 30)).alloc (by simp) (.cells #[.int .i64 0, .slice none 0 0] 30)
  have hx0 := (cells_new W #[.int .i64 n, .slice A m kk] 30).below (w' := (W.alloc (.cells #[.int .i64 n, .slice A m kk] 30)).alloc (.cells #[.int .i64 0, .slice none 0 0] 30)) ((Below.refl _ _).alloc (Nat.le_refl _) _)
  have hx1 := cells_new (W.alloc (.cells #[.int .i64 n, .slice A m kk] 30)) #[.int .i64 0, .slice none 0 0] 30
  have hsz : ((W.alloc (.cells #[.int .i64 n, .slice A m kk] 30)).alloc (.cells #[.int .i64 0, .slice none 0 0] 30)).heap.size = W.heap.size + 1 + 1 := by simp
  rw [size_alloc] at hx1
  go_enter Tryz.func15, Tryz.ntmps15
  refine wp_named ?_
  intro Q0 hQ0
  have HQ0 := Lib.hid hQ0
  clear hQ0
  go_upto_region 1 with fail
  generalize (W.alloc (.cells #[.int .i64 n, .slice A m kk] 30)).alloc (.cells #[.int .i64 0, .slice none 0 0] 30) = w1 at *
  have HB1 := Lib.hid hb1
  have HX0 := Lib.hid hx0
  have HX1 := Lib.hid hx1
  have d0 := hx0.cell 0
  have d1 := hx0.cell 1
  clear hb1 hx0 hx1
  go_wp2_with fail
  refine (HCK.out w1 HB1.out).mono ?_
  rintro e w2 ⟨rfl, hb⟩
  have HB2 := Lib.hid (HB1.out.trans (hb.mono HB1.out.size))
  have HY0 := Lib.hid (HX0.out.below hb)
  have HY1 := Lib.hid (HX1.out.below hb)
  have hs2 := hb.size
  clear hb d0 d1 HX0 HX1 HCK
  have d0 := HY0.out.cell 0
  go_upto_region 5 with fail
  have hx3 := cells_new w2 #[.int .i64 n, .slice none 0 0] 30
  have hb3 := (Below.refl w2.heap.size w2).alloc (Nat.le_refl _) (.cells #[.int .i64 n, .slice none 0 0] 30)
  have hz3 : (w2.alloc (.cells #[.int .i64 n, .slice none 0 0] 30)).heap.size = w2.heap.size + 1 := size_alloc _ _
  have HX0 := Lib.hid (HY0.out.below hb3)
  have HX1 := Lib.hid (HY1.out.below hb3)
  have HB3 := Lib.hid (HB2.out.trans (hb3.mono HB2.out.size))
  have HX2 := Lib.hid hx3
  clear hx3 hb3 HY0 HY1
  generalize w2.alloc (.cells #[.int .i64 n, .slice none 0 0] 30) = w3 at *
  generalize w2.heap.size = G at *
  clear d0
  have d1 := HX0.out.cell 1
  go_wp2_with fail
  clear d1
  go_loopw [20] (fun jv wr => ∃ (j q : Nat) (A2 : Option Addr) (c2 : Nat), j ≤ m ∧ jv = .int .i64 j ∧ q = ((l.take j).filter noLoop).length ∧ Cells wr G #[.int .i64 n, .slice A2 q c2] 30 ∧ OwnA wr w3.heap.size (.slice A2 q c2) ((l.take j).filter noLoop) ∧ Kept (fun k => k = G) w3 wr) (fun jv _ => m - (intOf jv).toNat)
  case atStart => exact ⟨0, 0, none, 0, by omega, rfl, rfl, HX2.out, Own.nil _ _ _ _ _, Kept.refl _ _⟩
  case round =>
    obtain ⟨j, q, A2, c2, hj, rfl, hq, hcg, ho, hk⟩ := hrel
    have hbw : Below W.heap.size W wr := hk.below HB3.out (fun k h => by omega) (by omega)
    have HBW := Lib.hid hbw
    have HCG := Lib.hid hcg
    have HO := Lib.hid ho
    have HK := Lib.hid hk
    have hzz := hk.size
    clear hcg ho hk hbw
    by_cases hlt : j < m
    · have g0 : decide ((j : Int) < (m : Int)) = true := decide_eq_true (by omega)
      obtain ⟨ad, hA, cc⟩ := (HRD.out.below HBW.out).at_ hlt
      subst hA
      obtain ⟨c0, c1, c2'⟩ := arc_cells cc
      have hjl : j < l.length := by omega
      have htk : l.take (j + 1) = l.take j ++ [l[j]] := List.take_succ_eq_append_getElem hjl
      have hqm : ((l.take j).filter noLoop).length ≤ j := Nat.le_trans (List.length_filter_le _ _) (by rw [List.length_take]; omega)
      generalize l[j] = a at *
      have htf : (l.take (j + 1)).filter noLoop = (l.take j).filter noLoop ++ (if noLoop a = true then [a] else []) := by
        rw [htk, List.filter_append]
        congr 1
        by_cases h : noLoop a = true
        · rw [if_pos h, List.filter_cons_of_pos h, List.filter_nil]
        · rw [if_neg h, List.filter_cons_of_neg h, List.filter_nil]
      have HTF := Lib.hid htf
      have HAL := Lib.hid hq
      have hqj : q ≤ j := by omega
      generalize (l.take j).filter noLoop = al at *
      clear cc htk hjl htf hq hqm
      go_upto_region 8 with fail
      have hb7 := (Below.refl wr.heap.size wr).alloc (Nat.le_refl _) (.cells #[.int .i64 a.f, .int .i64 a.t, .int .i64 a.w] 56)
      have hx7 := cells_new wr #[.int .i64 a.f, .int .i64 a.t, .int .i64 a.w] 56
      generalize wr.alloc (.cells #[.int .i64 a.f, .int .i64 a.t, .int .i64 a.w] 56) = w7 at *
      have HX7 := Lib.hid hx7
      have HB7 := Lib.hid hb7
      clear hb7 hx7 c0 c1 c2'
      have HG7 := Lib.hid (HCG.out.below HB7.out)
      have HO7 := Lib.hid (HO.out.below HB7.out)
      have HK7 := Lib.hid (HK.out.trans (.of_below HB7.out))
      have hs7 : w3.heap.size ≤ w7.heap.size := by have h2 := HB7.out.size; omega
      have y0 := HX7.out.cell 0
      have y1 := HX7.out.cell 1
      have hw1 : IntKind.i64.wrap ((j : Int) + 1) = (j : Int) + 1 := by rw [IntKind.wrap_i64]; omega
      by_cases hft : a.f = a.t
      · have e0 : (a.f == a.t) = true := beq_iff_eq.2 hft
        have e1 : (a.f != a.t) = false := by rw [hft]; simp
        have hnl : ¬ noLoop a = true := by unfold noLoop; simp [hft]
        have HTG := HTF.out
        rw [if_neg hnl, List.append_nil] at HTG
        have HTH := Lib.hid HTG
        clear HTG hft
        go_wp2_with fail
        go_roundw
        case rel => exact ⟨j + 1, q, A2, c2, by omega, by go_num, by rw [HTH.out]; exact HAL.out, HG7.out, by rw [HTH.out]; exact HO7.out, HK7.out⟩
        case measure => simp [intOf]; omega
      · have e0 : (a.f == a.t) = false := beq_eq_false_iff_ne.2 hft
        have e1 : (a.f != a.t) = true := bne_iff_ne.2 hft
        have hnl : noLoop a = true := by unfold noLoop; simp [hft]
        have HTG := HTF.out
        rw [if_pos hnl] at HTG
        have HTH := Lib.hid HTG
        clear HTG hft
        have y2 := HX7.out.cell 2
        have d1 := HG7.out.cell 1
        go_upto_region 9 with fail
        have hoG : ∀ k, (Value.slice A2 q c2).ownBlock = some k → w3.heap.size ≤ k := fun k h => (HO.out.block h).1
        go_wp2_with (at_builtin; go_loud (refine wpList_append_rd rfl (.tmp 30) (.tmp 32) 28 rfl 56 (.agg #[.int .i64 0, .int .i64 0, .int .i64 0]) 24 Tryz.underlying28 info_arc rfl (by omega) (by omega) encA_len encA_one w3.heap.size _ al rfl (HO7.out.below ((Below.refl _ _).alloc (Nat.le_refl _) _)) _ 1 1 [a] rfl (rd_arc rfl) (by rw [← HAL.out]; omega) (by simp; omega) ?_; intro v2 w8 ho2 hg2 hat2; obtain ⟨A3, c3, rfl, h2c, h2m⟩ := ho2.form; have hl2 : (al ++ [a]).length = q + 1 := (by rw [List.length_append, ← HAL.out]; rfl); rw [hl2] at ho2 ⊢; have HO8 := Lib.hid ho2; have HK8 : Hid (Kept (fun k => (Value.slice A2 q c2).ownBlock = some k) w7 w8) := Lib.hid (((Kept.refl _ w7).alloc _).trans ⟨hg2.1, hg2.2, hg2.3, hg2.4, fun k hk hs => hg2.5 k hk (fun e => hs e.symm)⟩); have hg8 := HK8.out.cells HG7.out (fun h => by have := hoG _ h; omega); have q1 := hg8.cell 1; have p1 := hg8.frozen 1; have HG8 := Lib.hid hg8; clear ho2 hg2 hat2 hg8 h2c h2m hl2))
        have hg9 := HG8.out.set_ 1 (.slice A3 (q + 1) c3)
        simp only [List.setIfInBounds_toArray, List.set_cons_zero, List.set_cons_succ] at hg9
        have hk9 : Kept (fun k => k = G) w8 (w8.setCell ⟨G, 1, none⟩ (.slice A3 (q + 1) c3)) := (Kept.refl (fun k => k = G) w8).set_ (p := ⟨G, 1, none⟩) (.inl rfl) _
        have ho9 := keptS_own HO8.out hk9 (fun k h => by have := (HO8.out.block h).1; omega)
        rw [← HTH.out] at ho9
        have hk10 : Kept (fun k => k = G) w3 (w8.setCell ⟨G, 1, none⟩ (.slice A3 (q + 1) c3)) := (HK7.out.trans2 HK8.out (fun k h => .inr (hoG k h))).trans hk9
        exact ⟨⟨j + 1, q + 1, A3, c3, by omega, by go_num, by rw [HTH.out, List.length_append, ← HAL.out]; rfl, hg9, ho9, hk10⟩, by simp [intOf]; omega⟩
    · obtain rfl : m = j := by omega
      have htk : l.take m = l := List.take_of_length_le (by omega)
      rw [htk] at HO hq
      have hq2 : q ≤ m := by rw [hq]; exact Nat.le_trans (List.length_filter_le _ _) (by omega)
      have HQL := Lib.hid hq
      clear hq htk
      have c1 := HCG.out.cell 1
      have HSO := Lib.hid (Sort_own HO.out (by rw [← HQL.out]; omega))
      go_wp2_with fail
      refine HSO.out.mono ?_
      rintro e w5 ⟨rfl, s, hp, hs, ho5, hk5⟩
      have HC5 := Lib.hid (hk5.cells HCG.out (fun h => by have := (HO.out.block h).1; omega))
      have HK5 := Lib.hid (HK.out.trans2 hk5 (fun k h => .inr (HO.out.block h).1))
      have HNO := Lib.hid (normOf l s hp hs)
      have HO5 := Lib.hid ho5
      have HCO := Lib.hid (Compact_own ho5)
      clear c1 hp hs ho5 hk5 HSO
      have c1 := HC5.out.cell 1
      go_wp2_with fail
      refine HCO.out.mono ?_
      rintro e w6 ⟨v', rfl, hv', ho6, hk6⟩
      have HC6 := Lib.hid (hk6.cells HC5.out (fun h => by have := (HO5.out.block h).1; omega))
      have HK6 := Lib.hid (HK5.out.trans2 hk6 (fun k h => .inr (HO5.out.block h).1))
      generalize compL s = al at *
      obtain ⟨A4, c4, rfl, -, -⟩ := ho6.form
      have HO6 := Lib.hid ho6
      clear c1 hv' ho6 hk6 HCO
      have c1 := HC6.out.cell 1
      have f1 := HC6.out.frozen 1
      have hg7 := HC6.out.set_ 1 (.slice A4 al.length c4)
      simp only [List.setIfInBounds_toArray, List.set_cons_zero, List.set_cons_succ] at hg7
      have hk7 : Kept (fun k => k = G) w6 (w6.setCell ⟨G, 1, none⟩ (.slice A4 al.length c4)) := (Kept.refl (fun k => k = G) w6).set_ (p := ⟨G, 1, none⟩) (.inl rfl) _
      have HO7 := Lib.hid (keptS_own HO6.out hk7 (fun k h => by have := (HO6.out.block h).1; omega))
      have HK7 := Lib.hid (HK6.out.trans hk7)
      have HC7 := Lib.hid hg7
      clear hg7 hk7
      go_upto_region 13 with fail
      generalize w6.setCell ⟨G, 1, none⟩ (.slice A4 al.length c4) = w7 at *
      clear c1 f1
      have hbw : Below W.heap.size W w7 := HK7.out.below HB3.out (fun k h => by omega) (by omega)
      have c0 := HC7.out.cell 0
      have c1 := HC7.out.cell 1
      have hx1 := HK7.out.cells HX1.out (by omega)
      have e0 := hx1.cell 0
      have e1 := hx1.cell 1
      have f0 := hx1.frozen 0
      have f1 := hx1.frozen 1
      have hfin := (hx1.set_ 0 (.int .i64 n)).set_ 1 (.slice A4 al.length c4)
      simp only [List.setIfInBounds_toArray, List.set_cons_zero, List.set_cons_succ] at hfin
      have hkz : Kept (fun k => k = W.heap.size + 1) w7 ((w7.setCell ⟨W.heap.size + 1, 0, none⟩ (.int .i64 n)).setCell ⟨W.heap.size + 1, 1, none⟩ (.slice A4 al.length c4)) := ((Kept.refl (fun k => k = W.heap.size + 1) w7).set_ (p := ⟨W.heap.size + 1, 0, none⟩) (.inl rfl) _).set_ (p := ⟨W.heap.size + 1, 1, none⟩) (.inl rfl) _
      have HFIN := Lib.hid hfin
      have HKZ := Lib.hid hkz
      have HBW := Lib.hid hbw
      clear hfin hkz hx1 hbw
      go_wp2_with fail
      generalize (w7.setCell ⟨W.heap.size + 1, 0, none⟩ (.int .i64 n)).setCell ⟨W.heap.size + 1, 1, none⟩ (.slice A4 al.length c4) = wz at *
      have r0 : wz.cell? ⟨W.heap.size + 1, 0, none⟩ = some (.int .i64 n) := HFIN.out.cell 0
      have r1 : wz.cell? ⟨W.heap.size + 1, 1, none⟩ = some (.slice A4 al.length c4) := HFIN.out.cell 1
      have HOZ := keptS_own HO7.out HKZ.out (fun k h => by have := (HO7.out.block h).1; omega)
      have HEND : Hid (OfIs n l W (.returned (.tuple #[.agg #[.int .i64 n, .slice A4 al.length c4], .nilIface])) wz) := Lib.hid ⟨al, A4, c4, rfl, HOZ.mono (by omega), HNO.out, HKZ.out.below HBW.out (fun k h => by omega) (by have := HK7.out.size; omega)⟩
      rw [HQ0.out]
      refine bodyPost_ret (v := .tuple #[.agg #[.int .i64 n, .slice A4 al.length c4], .nilIface]) ?hres rfl HEND.out
      case hres => simp [results, Tryz.results15, go_sem, r0, r1]
end Go.Proofs.YtmnnoecjedkdjaaGreatDoor
