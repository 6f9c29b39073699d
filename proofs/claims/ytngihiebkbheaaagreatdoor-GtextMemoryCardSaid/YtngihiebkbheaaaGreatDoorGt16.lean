/- The document's: the error of a row by its form. -/
import Derived.Test.YtngihiebkbheaaaGreatDoorGt15
import Derived.BigRegion
import Derived.RegionTactic
set_option linter.unusedSimpArgs false
set_option linter.unusedVariables false
namespace Go.Proofs.YtngihiebkbheaaaGreatDoor
open Go.RowKit Txt

/-- an error of the document's, and new blocks at most -/
def ErrAt (b : Bug) (W : World) (e : Ending) (w' : World) : Prop := Below W.heap.size W w' ∧ ∃ x, e = .returned (errV x) ∧ DocX b W.heap.size x w'
def formBug (x : RowV) (word : Bs) (cnt : Nat) : Bug := match formR x.t word cnt with
  | none => none
  | some c => some (c, some (1, x.line))
set_option maxRecDepth 100000 in
set_option maxHeartbeats 8000000 in
theorem form_any (x : RowV) (s : ByteArray) (cnt : Nat) (W : World) (hcnt : cnt ≤ 1000) (hx1 : RdS W x.A x.ws.length (x.ws.map toB)) (hx2 : 0 < x.ws.length) (hx4 : x.ws.length ≤ 9223372036854775807) :
    Calls Tryz.prog 54 #[.agg #[.int .i64 x.line, .slice x.A x.ws.length x.k], .string s, .int .i64 (cnt : Int)] W (ErrAt (formBug x s.data.toList cnt) W) := by
  have hb1 := (Below.refl W.heap.size W).alloc (Nat.le_refl _) (.cells #[.int .i64 x.line, .slice x.A x.ws.length x.k] 118)
  have hr1 := cells_new W #[.int .i64 x.line, .slice x.A x.ws.length x.k] 118
  have hz1 : (W.alloc (.cells #[.int .i64 x.line, .slice x.A x.ws.length x.k] 118)).heap.size = W.heap.size + 1 := by simp
  have hb2 := (Below.refl (W.alloc (.cells #[.int .i64 x.line, .slice x.A x.ws.length x.k] 118)).heap.size (W.alloc (.cells #[.int .i64 x.line, .slice x.A x.ws.length x.k] 118))).alloc (Nat.le_refl _) (.cells #[.int .i64 0, .slice none 0 0] 32)
  have hc2 := cells_new (W.alloc (.cells #[.int .i64 x.line, .slice x.A x.ws.length x.k] 118)) #[.int .i64 0, .slice none 0 0] 32
  have hr2 := hr1.below hb2
  have hx := hx1.below (hb1.trans (hb2.mono (by rw [hz1]; omega)))
  have hb := hb1.trans (hb2.mono (by rw [hz1]; omega))
  have hz2 : ((W.alloc (.cells #[.int .i64 x.line, .slice x.A x.ws.length x.k] 118)).alloc (.cells #[.int .i64 0, .slice none 0 0] 32)).heap.size = W.heap.size + 1 + 1 := by simp
  rw [hz1] at hc2
  have HB := Lib.hid hb
  have HR := Lib.hid hr2
  have HC := Lib.hid hc2
  have HX := Lib.hid hx
  clear hb1 hr1 hb2 hc2 hr2 hx hb hx1
  go_enter Tryz.func54, Tryz.ntmps54
  refine wp_named ?_
  intro Q0 hQ0
  have HQ0 := Lib.hid hQ0
  clear hQ0
  go_upto_region 1 with fail
  generalize ((W.alloc (.cells #[.int .i64 x.line, .slice x.A x.ws.length x.k] 118)).alloc (.cells #[.int .i64 0, .slice none 0 0] 32)) = w1 at *
  have l0 := HR.out.cell 0
  have l1 := HR.out.cell 1
  have c0 := HC.out.cell 0
  have c1 := HC.out.cell 1
  have f0 := HC.out.frozen 0
  have f1 := HC.out.frozen 1
  obtain ⟨ad2, hA2, cc2⟩ := HX.out.at_ (j := 0) hx2
  have e0 := cc2 0 _ rfl
  have ea : ad2.add (0 * 1 + 0) = ad2 := rfl
  rw [ea] at e0
  obtain ⟨w0, wr, hws⟩ : ∃ w0 wr, x.ws = w0 :: wr := by
    cases h : x.ws with
    | nil => rw [h] at hx2; simp at hx2
    | cons a b => exact ⟨a, b, rfl⟩
  have e0' : w1.cell? ad2 = some (.string (toB w0)) := by
    rw [e0]
    congr 1
    simp [hws]
  have hcmp := str_eqB (x := toB w0) (y := s)
  rw [toB_list] at hcmp
  have hform : formR x.t s.data.toList cnt = if w0 ≠ s.data.toList then some 3 else if x.ws.length < cnt then some 5 else if cnt < x.ws.length then some 6 else none := by
    have hh : x.t.ws.head? = some w0 := by show x.ws.head? = _; rw [hws]; rfl
    unfold formR
    rw [hh]
    by_cases h : w0 = s.data.toList
    · have a1 : ¬ (some w0 ≠ some s.data.toList) := by simp [h]
      have a2 : ¬ (w0 ≠ s.data.toList) := by simp [h]
      rw [if_neg a1, if_neg a2]; rfl
    · have a1 : some w0 ≠ some s.data.toList := by simpa using h
      rw [if_pos a1, if_pos h]
  have HFO := Lib.hid hform
  rw [hA2] at l1
  have p0 : (0 : Int) < (x.ws.length : Int) := by omega
  clear cc2 e0 ea hws hform
  generalize hE : x.ws.length = n at *
  clear hE
  by_cases hw : w0 = s.data.toList
  · rw [decide_eq_true hw] at hcmp
    have a2 : ¬ (w0 ≠ s.data.toList) := fun h => h hw
    rw [if_neg a2] at HFO
    clear a2 hw
    by_cases h1 : n < cnt
    · have g1 : decide ((n : Int) < (cnt : Int)) = true := decide_eq_true (by omega)
      rw [if_pos h1] at HFO
      have HBUG : Hid (formBug x s.data.toList cnt = some (5, some (1, x.line))) := Lib.hid (by unfold formBug; rw [HFO.out])
      go_upto_region 9 with fail
      have hQ := HQ0.out
      clear HQ0
      subst hQ
      go_region_with (first
        | (go_at_call 21; refine (E_any 5 _).mono ?_; rintro e w5 ⟨rfl, hb5⟩; have HB5 : Hid (Below W.heap.size W w5) := Lib.hid (by first | exact HB.out.trans (hb5.mono HB.out.size) | exact HB.out.drew.trans (hb5.mono HB.out.drew.size)); have HC5 := Lib.hid (show Cells w5 (W.heap.size + 1) #[.int .i64 0, .slice none 0 0] 32 by first | exact HC.out.below hb5 | exact (HC.out.below (Below.drew (Below.refl _ _))).below hb5); have l0 := cell_below hb5 l0; clear hb5)
        | (go_at_call 20; refine (At1_any 1 x.line 5 _).mono ?_; rintro e w6 ⟨g6, k6, rfl, hx6, hg6, hb6⟩; have HB6 := Lib.hid (HB5.out.trans (hb6.mono HB5.out.size)); have HC6 := Lib.hid (HC5.out.below hb6); have HX6 := Lib.hid hx6; have hs5 := HB5.out.size; have hlt5 := HC5.out.lt; have c0 := HC6.out.cell 0; have c1 := HC6.out.cell 1; have f0 := HC6.out.frozen 0; have f1 := HC6.out.frozen 1; have l0 := cell_below hb6 l0; clear hx6 hb6))
      all_goals
        have hfin := (HC6.out.set_ 0 (.int .i64 5)).set_ 1 (.slice (some ⟨g6, 0, none⟩) 1 k6)
        simp only [List.setIfInBounds_toArray, List.set_cons_zero, List.set_cons_succ] at hfin
        have hkz : Kept (fun k => k = W.heap.size + 1) w6 ((w6.setCell ⟨W.heap.size + 1, 0, none⟩ (.int .i64 5)).setCell ⟨W.heap.size + 1, 1, none⟩ (.slice (some ⟨g6, 0, none⟩) 1 k6)) := ((Kept.refl (fun k => k = W.heap.size + 1) w6).set_ (p := ⟨W.heap.size + 1, 0, none⟩) (.inl rfl) _).set_ (p := ⟨W.heap.size + 1, 1, none⟩) (.inl rfl) _
        generalize (w6.setCell ⟨W.heap.size + 1, 0, none⟩ (.int .i64 5)).setCell ⟨W.heap.size + 1, 1, none⟩ (.slice (some ⟨g6, 0, none⟩) 1 k6) = wz at *
        have r0 : wz.cell? ⟨W.heap.size + 1, 0, none⟩ = some (.int .i64 5) := hfin.cell 0
        have r1 : wz.cell? ⟨W.heap.size + 1, 1, none⟩ = some (.slice (some ⟨g6, 0, none⟩) 1 k6) := hfin.cell 1
        have hbz : Below W.heap.size W wz := hkz.below HB6.out (fun k h => by omega) HB6.out.size
        have HEND : Hid (ErrAt (formBug x s.data.toList cnt) W (.returned (.agg #[.int .i64 5, .slice (some ⟨g6, 0, none⟩) 1 k6])) wz) := Lib.hid ⟨hbz, ⟨5, some ⟨g6, 0, none⟩, 1, k6⟩, rfl, by rw [HBUG.out]; exact ⟨g6, k6, rfl, hkz.cells HX6.out (fun h => by omega), by omega⟩⟩
        clear hfin hkz
        go_wp2_with fail
        refine bodyPost_ret (v := .agg #[.int .i64 5, .slice (some ⟨g6, 0, none⟩) 1 k6]) ?hres rfl HEND.out
        case hres => simp [results, Tryz.results54, go_sem, r0, r1]
    · have g1 : decide ((n : Int) < (cnt : Int)) = false := decide_eq_false (by omega)
      rw [if_neg h1] at HFO
      by_cases h2 : cnt < n
      · have g2 : decide ((cnt : Int) < (n : Int)) = true := decide_eq_true (by omega)
        rw [if_pos h2] at HFO
        have HBUG : Hid (formBug x s.data.toList cnt = some (6, some (1, x.line))) := Lib.hid (by unfold formBug; rw [HFO.out])
        go_upto_region 9 with fail
        have hQ := HQ0.out
        clear HQ0
        subst hQ
        go_region_with (first
          | (go_at_call 21; refine (E_any 6 _).mono ?_; rintro e w5 ⟨rfl, hb5⟩; have HB5 : Hid (Below W.heap.size W w5) := Lib.hid (by first | exact HB.out.trans (hb5.mono HB.out.size) | exact HB.out.drew.trans (hb5.mono HB.out.drew.size)); have HC5 := Lib.hid (show Cells w5 (W.heap.size + 1) #[.int .i64 0, .slice none 0 0] 32 by first | exact HC.out.below hb5 | exact (HC.out.below (Below.drew (Below.refl _ _))).below hb5); have l0 := cell_below hb5 l0; clear hb5)
          | (go_at_call 20; refine (At1_any 1 x.line 6 _).mono ?_; rintro e w6 ⟨g6, k6, rfl, hx6, hg6, hb6⟩; have HB6 := Lib.hid (HB5.out.trans (hb6.mono HB5.out.size)); have HC6 := Lib.hid (HC5.out.below hb6); have HX6 := Lib.hid hx6; have hs5 := HB5.out.size; have hlt5 := HC5.out.lt; have c0 := HC6.out.cell 0; have c1 := HC6.out.cell 1; have f0 := HC6.out.frozen 0; have f1 := HC6.out.frozen 1; have l0 := cell_below hb6 l0; clear hx6 hb6))
        all_goals
          have hfin := (HC6.out.set_ 0 (.int .i64 6)).set_ 1 (.slice (some ⟨g6, 0, none⟩) 1 k6)
          simp only [List.setIfInBounds_toArray, List.set_cons_zero, List.set_cons_succ] at hfin
          have hkz : Kept (fun k => k = W.heap.size + 1) w6 ((w6.setCell ⟨W.heap.size + 1, 0, none⟩ (.int .i64 6)).setCell ⟨W.heap.size + 1, 1, none⟩ (.slice (some ⟨g6, 0, none⟩) 1 k6)) := ((Kept.refl (fun k => k = W.heap.size + 1) w6).set_ (p := ⟨W.heap.size + 1, 0, none⟩) (.inl rfl) _).set_ (p := ⟨W.heap.size + 1, 1, none⟩) (.inl rfl) _
          generalize (w6.setCell ⟨W.heap.size + 1, 0, none⟩ (.int .i64 6)).setCell ⟨W.heap.size + 1, 1, none⟩ (.slice (some ⟨g6, 0, none⟩) 1 k6) = wz at *
          have r0 : wz.cell? ⟨W.heap.size + 1, 0, none⟩ = some (.int .i64 6) := hfin.cell 0
          have r1 : wz.cell? ⟨W.heap.size + 1, 1, none⟩ = some (.slice (some ⟨g6, 0, none⟩) 1 k6) := hfin.cell 1
          have hbz : Below W.heap.size W wz := hkz.below HB6.out (fun k h => by omega) HB6.out.size
          have HEND : Hid (ErrAt (formBug x s.data.toList cnt) W (.returned (.agg #[.int .i64 6, .slice (some ⟨g6, 0, none⟩) 1 k6])) wz) := Lib.hid ⟨hbz, ⟨6, some ⟨g6, 0, none⟩, 1, k6⟩, rfl, by rw [HBUG.out]; exact ⟨g6, k6, rfl, hkz.cells HX6.out (fun h => by omega), by omega⟩⟩
          clear hfin hkz
          go_wp2_with fail
          refine bodyPost_ret (v := .agg #[.int .i64 6, .slice (some ⟨g6, 0, none⟩) 1 k6]) ?hres rfl HEND.out
          case hres => simp [results, Tryz.results54, go_sem, r0, r1]
      · have g2 : decide ((cnt : Int) < (n : Int)) = false := decide_eq_false (by omega)
        rw [if_neg h2] at HFO
        have HBUG : Hid (formBug x s.data.toList cnt = none) := Lib.hid (by unfold formBug; rw [HFO.out])
        have hfin := (HC.out.set_ 0 (.int .i64 0)).set_ 1 (.slice none 0 0)
        simp only [List.setIfInBounds_toArray, List.set_cons_zero, List.set_cons_succ] at hfin
        have hkz : Kept (fun k => k = W.heap.size + 1) w1 ((w1.setCell ⟨W.heap.size + 1, 0, none⟩ (.int .i64 0)).setCell ⟨W.heap.size + 1, 1, none⟩ (.slice none 0 0)) := ((Kept.refl (fun k => k = W.heap.size + 1) w1).set_ (p := ⟨W.heap.size + 1, 0, none⟩) (.inl rfl) _).set_ (p := ⟨W.heap.size + 1, 1, none⟩) (.inl rfl) _
        have HFIN := Lib.hid hfin
        have HKZ := Lib.hid hkz
        clear hfin hkz
        go_wp2_with fail
        generalize (w1.setCell ⟨W.heap.size + 1, 0, none⟩ (.int .i64 0)).setCell ⟨W.heap.size + 1, 1, none⟩ (.slice none 0 0) = wz at *
        have r0 : wz.cell? ⟨W.heap.size + 1, 0, none⟩ = some (.int .i64 0) := HFIN.out.cell 0
        have r1 : wz.cell? ⟨W.heap.size + 1, 1, none⟩ = some (.slice none 0 0) := HFIN.out.cell 1
        have hbz : Below W.heap.size W wz := HKZ.out.below HB.out (fun k h => by omega) HB.out.size
        have HEND : Hid (ErrAt (formBug x s.data.toList cnt) W (.returned (.agg #[.int .i64 0, .slice none 0 0])) wz) := Lib.hid ⟨hbz, zX, rfl, by rw [HBUG.out]; rfl⟩
        rw [HQ0.out]
        refine bodyPost_ret (v := .agg #[.int .i64 0, .slice none 0 0]) ?hres rfl HEND.out
        case hres => simp [results, Tryz.results54, go_sem, r0, r1]
  · rw [decide_eq_false hw] at hcmp
    rw [if_pos hw] at HFO
    clear hw
    have HBUG : Hid (formBug x s.data.toList cnt = some (3, some (1, x.line))) := Lib.hid (by unfold formBug; rw [HFO.out])
    go_upto_region 9 with fail
    have hQ := HQ0.out
    clear HQ0
    subst hQ
    go_region_with (first
      | (go_at_call 21; refine (E_any 3 _).mono ?_; rintro e w5 ⟨rfl, hb5⟩; have HB5 : Hid (Below W.heap.size W w5) := Lib.hid (by first | exact HB.out.trans (hb5.mono HB.out.size) | exact HB.out.drew.trans (hb5.mono HB.out.drew.size)); have HC5 := Lib.hid (show Cells w5 (W.heap.size + 1) #[.int .i64 0, .slice none 0 0] 32 by first | exact HC.out.below hb5 | exact (HC.out.below (Below.drew (Below.refl _ _))).below hb5); have l0 := cell_below hb5 l0; clear hb5)
      | (go_at_call 20; refine (At1_any 1 x.line 3 _).mono ?_; rintro e w6 ⟨g6, k6, rfl, hx6, hg6, hb6⟩; have HB6 := Lib.hid (HB5.out.trans (hb6.mono HB5.out.size)); have HC6 := Lib.hid (HC5.out.below hb6); have HX6 := Lib.hid hx6; have hs5 := HB5.out.size; have hlt5 := HC5.out.lt; have c0 := HC6.out.cell 0; have c1 := HC6.out.cell 1; have f0 := HC6.out.frozen 0; have f1 := HC6.out.frozen 1; have l0 := cell_below hb6 l0; clear hx6 hb6))
    all_goals
      have hfin := (HC6.out.set_ 0 (.int .i64 3)).set_ 1 (.slice (some ⟨g6, 0, none⟩) 1 k6)
      simp only [List.setIfInBounds_toArray, List.set_cons_zero, List.set_cons_succ] at hfin
      have hkz : Kept (fun k => k = W.heap.size + 1) w6 ((w6.setCell ⟨W.heap.size + 1, 0, none⟩ (.int .i64 3)).setCell ⟨W.heap.size + 1, 1, none⟩ (.slice (some ⟨g6, 0, none⟩) 1 k6)) := ((Kept.refl (fun k => k = W.heap.size + 1) w6).set_ (p := ⟨W.heap.size + 1, 0, none⟩) (.inl rfl) _).set_ (p := ⟨W.heap.size + 1, 1, none⟩) (.inl rfl) _
      generalize (w6.setCell ⟨W.heap.size + 1, 0, none⟩ (.int .i64 3)).setCell ⟨W.heap.size + 1, 1, none⟩ (.slice (some ⟨g6, 0, none⟩) 1 k6) = wz at *
      have r0 : wz.cell? ⟨W.heap.size + 1, 0, none⟩ = some (.int .i64 3) := hfin.cell 0
      have r1 : wz.cell? ⟨W.heap.size + 1, 1, none⟩ = some (.slice (some ⟨g6, 0, none⟩) 1 k6) := hfin.cell 1
      have hbz : Below W.heap.size W wz := hkz.below HB6.out (fun k h => by omega) HB6.out.size
      have HEND : Hid (ErrAt (formBug x s.data.toList cnt) W (.returned (.agg #[.int .i64 3, .slice (some ⟨g6, 0, none⟩) 1 k6])) wz) := Lib.hid ⟨hbz, ⟨3, some ⟨g6, 0, none⟩, 1, k6⟩, rfl, by rw [HBUG.out]; exact ⟨g6, k6, rfl, hkz.cells HX6.out (fun h => by omega), by omega⟩⟩
      clear hfin hkz
      go_wp2_with fail
      refine bodyPost_ret (v := .agg #[.int .i64 3, .slice (some ⟨g6, 0, none⟩) 1 k6]) ?hres rfl HEND.out
      case hres => simp [results, Tryz.results54, go_sem, r0, r1]
end Go.Proofs.YtngihiebkbheaaaGreatDoor
