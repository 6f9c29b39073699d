/- gtext's Parse. -/
import Derived.Test.YtmnnoecjedkdjaaGreatDoorGt13
set_option linter.unusedSimpArgs false
set_option linter.unusedVariables false
namespace Go.Proofs.YtmnnoecjedkdjaaGreatDoor
open Go.RowKit Txt

theorem rowsGo_words : ∀ (ls : List Bs) (n : Int) (rows : List RowT), rowsGo n ls = .ok rows → ∀ r ∈ rows, ∀ y ∈ r.ws, y.length ≤ 1048576
  | [], n, rows, h, r, hr, y, hy => by
    rw [rowsGo] at h
    injection h with h
    subst h
    simp at hr
  | l :: ls, n, rows, h, r, hr, y, hy => by
    rw [rowsGo] at h
    cases hl : lineT l with
    | error c => rw [hl, rowPut] at h; cases h
    | ok ws =>
      cases hg : rowsGo (n + 1) ls with
      | error e => rw [hl, hg, rowPut] at h; cases h
      | ok rs =>
        rw [hl, hg, rowPut] at h
        injection h with h
        have ih := rowsGo_words ls (n + 1) rs hg
        subst h
        split at hr
        · exact ih r hr y hy
        · rcases List.mem_cons.1 hr with rfl | h
          · unfold lineT at hl
            split at hl
            · cases hl
            · split at hl
              · injection hl with hl
                rename_i h200 _
                have h1 := (wordsGo_len (cutHash l) []).2 y (by show y ∈ wordsL _; rw [hl]; exact hy)
                have h2 := cutHash_len l
                rw [List.length_nil] at h1
                omega
              · cases hl
          · exact ih r h y hy
theorem rowsT_words {t : Bs} {rows : List RowT} (h : rowsT t = .ok rows) : ∀ r ∈ rows, ∀ y ∈ r.ws, y.length ≤ 1048576 := by
  unfold rowsT at h
  split at h
  · cases h
  · cases hg : rowsGo 1 (linesL t) with
    | error e => rw [hg] at h; cases h
    | ok rs =>
      rw [hg] at h
      injection h with h
      subst h
      exact rowsGo_words _ _ _ hg
def ParseIs (r : Except Er GrT) (W : World) (e : Ending) (w' : World) : Prop := Below W.heap.size W w' ∧ match r with
  | .error b => ∃ v, e = .returned (.tuple #[.agg #[.int .i64 0, .slice none 0 0], v]) ∧ ProgX (some b) W.heap.size v w'
  | .ok g => ∃ A k, e = .returned (.tuple #[.agg #[.int .i64 g.n, .slice A g.arcs.length k], .nilIface]) ∧ Own 56 3 encA w' W.heap.size (.slice A g.arcs.length k) g.arcs
set_option maxRecDepth 100000 in
set_option maxHeartbeats 8000000 in
theorem Parse_any (s : ByteArray) (W : World) (hs : s.size ≤ 140737488355328) (hm : MaxL W) (hv : RangeV W) :
    Calls Tryz.prog 7 #[.string s] W (ParseIs (parseT s.data.toList) W) := by
  have hb0 := (Below.refl W.heap.size W).alloc (Nat.le_refl _) (.cells #[.int .i64 0, .slice none 0 0] 30)
  have hc0 := cells_new W #[.int .i64 0, .slice none 0 0] 30
  have hz0 : (W.alloc (.cells #[.int .i64 0, .slice none 0 0] 30)).heap.size = W.heap.size + 1 := by simp
  have hrows := Rows_any s (W.alloc (.cells #[.int .i64 0, .slice none 0 0] 30)) hs (hm.below hb0)
  have hv0 := hv.below hb0
  have HROWS := Lib.hid hrows
  have HC0 := Lib.hid hc0
  have HB0 := Lib.hid hb0
  have HV0 := Lib.hid hv0
  clear hrows hc0 hb0 hv0 hv hm
  go_enter Tryz.func7, Tryz.ntmps7
  refine wp_named ?_
  intro Q0 hQ0
  have HQ0 := Lib.hid hQ0
  clear hQ0
  go_wp2_with fail
  refine HROWS.out.mono ?_
  rintro e w1 ⟨hb, hm⟩
  rw [hz0] at hb
  have HB1 : Hid (Below W.heap.size W w1) := Lib.hid (HB0.out.trans (hb.mono (by omega)))
  have HC1 := Lib.hid (HC0.out.below (by rw [hz0]; exact hb))
  have HV1 := Lib.hid (HV0.out.below (by rw [hz0]; exact hb))
  have hlt1 := HC1.out.lt
  clear hb HROWS HC0 HB0 HV0
  cases hR : rowsT s.data.toList with
  | error b =>
    rw [hR] at hm
    dsimp only at hm
    obtain ⟨v, rfl, hp⟩ := hm
    have hT : parseT s.data.toList = .error b := by unfold parseT; rw [hR]
    have HT := Lib.hid hT
    rw [hz0] at hp
    have HP := Lib.hid hp
    obtain ⟨c, bq⟩ := b
    clear hT hR
    cases bq with
    | none =>
      obtain rfl : v = .iface 27 (.int .i64 c) := hp
      have c0 : w1.cell? ⟨W.heap.size, 0, none⟩ = some (.int .i64 0) := HC1.out.cell 0
      have c1 : w1.cell? ⟨W.heap.size, 1, none⟩ = some (.slice none 0 0) := HC1.out.cell 1
      have f0 := HC1.out.frozen 0
      have f1 := HC1.out.frozen 1
      have hfin := (HC1.out.set_ 0 (.int .i64 0)).set_ 1 (.slice none 0 0)
      simp only [List.setIfInBounds_toArray, List.set_cons_zero, List.set_cons_succ] at hfin
      have hkz : Kept (fun k => k = W.heap.size) w1 ((w1.setCell ⟨W.heap.size, 0, none⟩ (.int .i64 0)).setCell ⟨W.heap.size, 1, none⟩ (.slice none 0 0)) := ((Kept.refl (fun k => k = W.heap.size) w1).set_ (p := ⟨W.heap.size, 0, none⟩) (.inl rfl) _).set_ (p := ⟨W.heap.size, 1, none⟩) (.inl rfl) _
      have HFIN := Lib.hid hfin
      have HKZ := Lib.hid hkz
      clear hfin hkz
      go_wp2_with fail
      generalize (w1.setCell ⟨W.heap.size, 0, none⟩ (.int .i64 0)).setCell ⟨W.heap.size, 1, none⟩ (.slice none 0 0) = wz at *
      have r0 : wz.cell? ⟨W.heap.size, 0, none⟩ = some (.int .i64 0) := HFIN.out.cell 0
      have r1 : wz.cell? ⟨W.heap.size, 1, none⟩ = some (.slice none 0 0) := HFIN.out.cell 1
      have hbz : Below W.heap.size W wz := HKZ.out.below HB1.out (fun k h => by rw [h]; exact Nat.le_refl _) HB1.out.size
      have HEND : Hid (ParseIs (parseT s.data.toList) W (.returned (.tuple #[.agg #[.int .i64 0, .slice none 0 0], .iface 27 (.int .i64 c)])) wz) := Lib.hid (by rw [HT.out]; exact ⟨hbz, _, rfl, rfl⟩)
      rw [HQ0.out]
      refine bodyPost_ret (v := .tuple #[.agg #[.int .i64 0, .slice none 0 0], .iface 27 (.int .i64 c)]) ?hres rfl HEND.out
      case hres => simp [results, Tryz.results7, go_sem, r0, r1]
    | some p =>
      obtain ⟨k, a⟩ := p
      obtain ⟨g, rfl, hcg, hg⟩ := hp
      have HCG := Lib.hid hcg
      clear hcg
      have c0 : w1.cell? ⟨W.heap.size, 0, none⟩ = some (.int .i64 0) := HC1.out.cell 0
      have c1 : w1.cell? ⟨W.heap.size, 1, none⟩ = some (.slice none 0 0) := HC1.out.cell 1
      have f0 := HC1.out.frozen 0
      have f1 := HC1.out.frozen 1
      have hfin := (HC1.out.set_ 0 (.int .i64 0)).set_ 1 (.slice none 0 0)
      simp only [List.setIfInBounds_toArray, List.set_cons_zero, List.set_cons_succ] at hfin
      have hkz : Kept (fun k => k = W.heap.size) w1 ((w1.setCell ⟨W.heap.size, 0, none⟩ (.int .i64 0)).setCell ⟨W.heap.size, 1, none⟩ (.slice none 0 0)) := ((Kept.refl (fun k => k = W.heap.size) w1).set_ (p := ⟨W.heap.size, 0, none⟩) (.inl rfl) _).set_ (p := ⟨W.heap.size, 1, none⟩) (.inl rfl) _
      have HFIN := Lib.hid hfin
      have HKZ := Lib.hid hkz
      clear hfin hkz
      go_wp2_with fail
      generalize (w1.setCell ⟨W.heap.size, 0, none⟩ (.int .i64 0)).setCell ⟨W.heap.size, 1, none⟩ (.slice none 0 0) = wz at *
      have r0 : wz.cell? ⟨W.heap.size, 0, none⟩ = some (.int .i64 0) := HFIN.out.cell 0
      have r1 : wz.cell? ⟨W.heap.size, 1, none⟩ = some (.slice none 0 0) := HFIN.out.cell 1
      have hbz : Below W.heap.size W wz := HKZ.out.below HB1.out (fun k h => by rw [h]; exact Nat.le_refl _) HB1.out.size
      have HEND : Hid (ParseIs (parseT s.data.toList) W (.returned (.tuple #[.agg #[.int .i64 0, .slice none 0 0], .iface 50 (.pointer (some ⟨g, 0, none⟩))])) wz) := Lib.hid (by rw [HT.out]; exact ⟨hbz, _, rfl, g, rfl, HKZ.out.cells HCG.out (fun h => by omega), by omega⟩)
      rw [HQ0.out]
      refine bodyPost_ret (v := .tuple #[.agg #[.int .i64 0, .slice none 0 0], .iface 50 (.pointer (some ⟨g, 0, none⟩))]) ?hres rfl HEND.out
      case hres => simp [results, Tryz.results7, go_sem, r0, r1]
  | ok rows =>
    rw [hR] at hm
    dsimp only at hm
    obtain ⟨A, k, L, rfl, hLk, hkm, hLl, hrd, hLr⟩ := hm
    have hwords := rowsT_words hR
    have hT : parseT s.data.toList = lineEr (graphT (L.map RowV.t)) := by unfold parseT; rw [hR, hLr]
    have HT := Lib.hid hT
    have hwl : ∀ x ∈ L, ∀ y ∈ x.ws, y.length ≤ 1048576 := fun x hx y hy => hwords x.t (by rw [← hLr]; exact List.mem_map_of_mem hx) y hy
    have HWL := Lib.hid hwl
    have HRD := Lib.hid hrd
    have hb2 := (Below.refl w1.heap.size w1).alloc (Nat.le_refl _) (.cells #[.slice A L.length k, .int .i64 0] 70)
    have hc2 := cells_new w1 #[.slice A L.length k, .int .i64 0] 70
    have hz2 : (w1.alloc (.cells #[.slice A L.length k, .int .i64 0] 70)).heap.size = w1.heap.size + 1 := by simp
    have HRDR : Hid (RdrAt w1 w1.heap.size L 0 (w1.alloc (.cells #[.slice A L.length k, .int .i64 0] 70))) := Lib.hid (by
      refine ⟨Kept.of_below hb2, A, k, hc2, hLk, hkm, HRD.out, fun hp ad hA => ?_, fun x hx ad hA => ?_⟩
      · obtain ⟨ad', hA', cc⟩ := HRD.out.rows.at_ (j := 0) hp
        have h0 := World.block_lt_of_cell? _ _ (cc 0 _ rfl)
        rw [block_of_add] at h0
        rw [hA] at hA'
        injection hA' with hA'
        subst hA'
        omega
      · obtain ⟨hw1, hw2, _⟩ := HRD.out.ws x hx
        obtain ⟨ad', hA', cc⟩ := hw1.at_ (j := 0) hw2
        have h0 := World.block_lt_of_cell? _ _ (cc 0 _ rfl)
        rw [block_of_add] at h0
        rw [hA] at hA'
        injection hA' with hA'
        subst hA'
        omega)
    have hE1 : 1 < w1.heap.size := by
      obtain ⟨_, ha⟩ := HV1.out
      exact World.block_lt_of_cell? _ _ ha
    have HGR := Lib.hid (graph_any w1.heap.size L w1 _ hLl HRDR.out (HV1.out.below hb2) (fun h => by omega) HWL.out)
    have HC2 := Lib.hid (HC1.out.below hb2)
    have HB2 := Lib.hid (HB1.out.trans (hb2.mono HB1.out.size))
    clear hT hwl hwords hrd hb2 hc2 hR hLr HWL HRD HRDR HV1 HC1
    go_wp2_with fail
    refine HGR.out.mono ?_
    rintro e w5 ⟨hk5, hm⟩
    have HC5 := Lib.hid (hk5.cells HC2.out (fun h => by omega))
    have HB5 : Hid (Below W.heap.size W w5) := Lib.hid (hk5.below HB2.out (fun k h => by omega) (by rw [hz2]; omega))
    have hs5 := hk5.size
    clear hk5 HGR HC2 HB2
    cases hG : graphT (L.map RowV.t) with
    | error b =>
      obtain ⟨c, ln⟩ := b
      rw [hG] at hm
      dsimp only at hm
      obtain ⟨rfl, L9, hr5⟩ := hm
      have HTE : Hid (parseT s.data.toList = .error (c, some (1, ln))) := Lib.hid (by rw [HT.out, hG]; rfl)
      obtain ⟨_, A9, k9, hc9, _⟩ := hr5
      clear hG HT
      have HC9 := Lib.hid hc9
      clear hc9
      have hb6 := (Below.refl w5.heap.size w5).alloc (Nat.le_refl _) (.cells #[.int .i64 0, .slice none 0 0] 30)
      have HB6 := Lib.hid hb6
      clear hb6
      go_upto_region 6 with fail
      generalize w5.alloc (.cells #[.int .i64 0, .slice none 0 0] 30) = w6 at *
      have HC6 := Lib.hid (HC5.out.below HB6.out)
      have HC96 := Lib.hid (HC9.out.below HB6.out)
      have d1 : w6.cell? ⟨w1.heap.size, 1, none⟩ = some (.int .i64 ln) := HC96.out.cell 1
      have HB66 := Lib.hid (HB5.out.trans (HB6.out.mono HB5.out.size))
      go_wp2_with fail
      refine (FaultAt_any 1 ln c w6).mono ?_
      rintro e w7 ⟨rfl, hx7, hb7⟩
      have HX7 := Lib.hid hx7
      have HC7 := Lib.hid (HC6.out.below hb7)
      have HB77 := Lib.hid (HB66.out.trans (hb7.mono HB66.out.size))
      have hs6 := HB66.out.size
      have hlt6 := HC6.out.lt
      clear hx7 hb7
      have c0 : w7.cell? ⟨W.heap.size, 0, none⟩ = some (.int .i64 0) := HC7.out.cell 0
      have c1 : w7.cell? ⟨W.heap.size, 1, none⟩ = some (.slice none 0 0) := HC7.out.cell 1
      have f0 := HC7.out.frozen 0
      have f1 := HC7.out.frozen 1
      have hfin := (HC7.out.set_ 0 (.int .i64 0)).set_ 1 (.slice none 0 0)
      simp only [List.setIfInBounds_toArray, List.set_cons_zero, List.set_cons_succ] at hfin
      have hkz : Kept (fun k => k = W.heap.size) w7 ((w7.setCell ⟨W.heap.size, 0, none⟩ (.int .i64 0)).setCell ⟨W.heap.size, 1, none⟩ (.slice none 0 0)) := ((Kept.refl (fun k => k = W.heap.size) w7).set_ (p := ⟨W.heap.size, 0, none⟩) (.inl rfl) _).set_ (p := ⟨W.heap.size, 1, none⟩) (.inl rfl) _
      have HFIN := Lib.hid hfin
      have HKZ := Lib.hid hkz
      clear hfin hkz
      go_wp2_with fail
      generalize (w7.setCell ⟨W.heap.size, 0, none⟩ (.int .i64 0)).setCell ⟨W.heap.size, 1, none⟩ (.slice none 0 0) = wz at *
      have r0 : wz.cell? ⟨W.heap.size, 0, none⟩ = some (.int .i64 0) := HFIN.out.cell 0
      have r1 : wz.cell? ⟨W.heap.size, 1, none⟩ = some (.slice none 0 0) := HFIN.out.cell 1
      have hbz : Below W.heap.size W wz := HKZ.out.below HB77.out (fun k h => by rw [h]; exact Nat.le_refl _) HB77.out.size
      have HEND : Hid (ParseIs (parseT s.data.toList) W (.returned (.tuple #[.agg #[.int .i64 0, .slice none 0 0], .iface 50 (.pointer (some ⟨w6.heap.size, 0, none⟩))])) wz) := Lib.hid (by rw [HTE.out]; exact ⟨hbz, _, rfl, w6.heap.size, rfl, HKZ.out.cells HX7.out (fun h => by omega), by omega⟩)
      rw [HQ0.out]
      refine bodyPost_ret (v := .tuple #[.agg #[.int .i64 0, .slice none 0 0], .iface 50 (.pointer (some ⟨w6.heap.size, 0, none⟩))]) ?hres rfl HEND.out
      case hres => simp [results, Tryz.results7, go_sem, r0, r1]
    | ok g =>
      rw [hG] at hm
      dsimp only at hm
      obtain ⟨A6, c6, rfl, ho⟩ := hm
      have HO := Lib.hid ho
      have HTO : Hid (parseT s.data.toList = .ok g) := Lib.hid (by rw [HT.out, hG]; rfl)
      clear ho hG HT
      have hb6 := (Below.refl w5.heap.size w5).alloc (Nat.le_refl _) (.cells #[.int .i64 g.n, .slice A6 g.arcs.length c6] 30)
      have hc6 := cells_new w5 #[.int .i64 g.n, .slice A6 g.arcs.length c6] 30
      have HB6 := Lib.hid hb6
      have HC66 := Lib.hid hc6
      clear hb6 hc6
      go_upto_region 6 with fail
      generalize w5.alloc (.cells #[.int .i64 g.n, .slice A6 g.arcs.length c6] 30) = w6 at *
      have HC6 := Lib.hid (HC5.out.below HB6.out)
      have d0 := HC66.out.cell 0
      have d1 := HC66.out.cell 1
      have HO6 := Lib.hid (HO.out.below HB6.out)
      have HB66 := Lib.hid (HB5.out.trans (HB6.out.mono HB5.out.size))
      have c0 : w6.cell? ⟨W.heap.size, 0, none⟩ = some (.int .i64 0) := HC6.out.cell 0
      have c1 : w6.cell? ⟨W.heap.size, 1, none⟩ = some (.slice none 0 0) := HC6.out.cell 1
      have f0 := HC6.out.frozen 0
      have f1 := HC6.out.frozen 1
      have hfin := (HC6.out.set_ 0 (.int .i64 g.n)).set_ 1 (.slice A6 g.arcs.length c6)
      simp only [List.setIfInBounds_toArray, List.set_cons_zero, List.set_cons_succ] at hfin
      have hkz : Kept (fun k => k = W.heap.size) w6 ((w6.setCell ⟨W.heap.size, 0, none⟩ (.int .i64 g.n)).setCell ⟨W.heap.size, 1, none⟩ (.slice A6 g.arcs.length c6)) := ((Kept.refl (fun k => k = W.heap.size) w6).set_ (p := ⟨W.heap.size, 0, none⟩) (.inl rfl) _).set_ (p := ⟨W.heap.size, 1, none⟩) (.inl rfl) _
      have HFIN := Lib.hid hfin
      have HKZ := Lib.hid hkz
      clear hfin hkz
      go_wp2_with fail
      generalize (w6.setCell ⟨W.heap.size, 0, none⟩ (.int .i64 g.n)).setCell ⟨W.heap.size, 1, none⟩ (.slice A6 g.arcs.length c6) = wz at *
      have r0 : wz.cell? ⟨W.heap.size, 0, none⟩ = some (.int .i64 g.n) := HFIN.out.cell 0
      have r1 : wz.cell? ⟨W.heap.size, 1, none⟩ = some (.slice A6 g.arcs.length c6) := HFIN.out.cell 1
      have hbz : Below W.heap.size W wz := HKZ.out.below HB66.out (fun k h => by rw [h]; exact Nat.le_refl _) HB66.out.size
      have HEND : Hid (ParseIs (parseT s.data.toList) W (.returned (.tuple #[.agg #[.int .i64 g.n, .slice A6 g.arcs.length c6], .nilIface])) wz) := Lib.hid (by rw [HTO.out]; exact ⟨hbz, A6, c6, rfl, (keptS_own HO6.out HKZ.out (fun k h => by have := (HO6.out.block h).1; omega)).mono (by omega)⟩)
      rw [HQ0.out]
      refine bodyPost_ret (v := .tuple #[.agg #[.int .i64 g.n, .slice A6 g.arcs.length c6], .nilIface]) ?hres rfl HEND.out
      case hres => simp [results, Tryz.results7, go_sem, r0, r1]
end Go.Proofs.YtmnnoecjedkdjaaGreatDoor
