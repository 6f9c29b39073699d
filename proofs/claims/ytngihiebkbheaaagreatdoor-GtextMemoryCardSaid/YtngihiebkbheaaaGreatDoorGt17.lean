/- The document's: the number of a word of a row. -/
import Derived.Test.YtngihiebkbheaaaGreatDoorGt16
set_option linter.unusedSimpArgs false
set_option linter.unusedVariables false
namespace Go.Proofs.YtngihiebkbheaaaGreatDoor
open Go.RowKit Txt

def NumRow (r : Except Int Nat) (line : Int) (W : World) (e : Ending) (w' : World) : Prop := Below W.heap.size W w' ∧ match r with
  | .error c => ∃ ex, e = .returned (.tuple #[.int .i64 0, errV ex]) ∧ DocX (some (c, some (1, line))) W.heap.size ex w'
  | .ok v => e = .returned (.tuple #[.int .i64 (v : Int), errV zX])
theorem numE_of (y : Bs) (most : Nat) (beyond : Int) : numE y (most : Int) beyond = match numT y most with
    | .error c => .error (if c = 1 then beyond else c)
    | .ok v => .ok v := by
  unfold numE numT
  by_cases h : formB y = true
  · rw [if_pos h, if_pos h]
    by_cases h2 : most < valN y
    · rw [if_pos h2, if_pos (by omega)]; rfl
    · rw [if_neg h2, if_neg (by omega)]
  · rw [if_neg h, if_neg h]; rfl
theorem numT_cases (y : Bs) (most : Nat) : numT y most = .error 1 ∨ numT y most = .error 4 ∨ ∃ v, numT y most = .ok v ∧ v ≤ most := by
  unfold numT
  split
  · split
    · exact .inl rfl
    · exact .inr (.inr ⟨_, rfl, by omega⟩)
  · exact .inr (.inl rfl)
set_option maxRecDepth 100000 in
set_option maxHeartbeats 8000000 in
theorem docnum_any (x : RowV) (i most : Nat) (beyond : Int) (W : World) (hi : i < x.ws.length) (hm : most ≤ 2147483647) (hx1 : RdS W x.A x.ws.length (x.ws.map toB)) (hx4 : x.ws.length ≤ 9223372036854775807) (hsz : (x.ws[i]).length ≤ 1048576) :
    Calls Tryz.prog 55 #[.agg #[.int .i64 x.line, .slice x.A x.ws.length x.k], .int .i64 (i : Int), .int .u64 (most : Int), .int .i64 beyond] W (NumRow (numE x.ws[i] (most : Int) beyond) x.line W) := by
  have hb1 := (Below.refl W.heap.size W).alloc (Nat.le_refl _) (.cells #[.int .i64 x.line, .slice x.A x.ws.length x.k] 118)
  have hr1 := cells_new W #[.int .i64 x.line, .slice x.A x.ws.length x.k] 118
  have hz1 : (W.alloc (.cells #[.int .i64 x.line, .slice x.A x.ws.length x.k] 118)).heap.size = W.heap.size + 1 := by simp
  have hb2 := (Below.refl (W.alloc (.cells #[.int .i64 x.line, .slice x.A x.ws.length x.k] 118)).heap.size (W.alloc (.cells #[.int .i64 x.line, .slice x.A x.ws.length x.k] 118))).alloc (Nat.le_refl _) (.cells #[.int .i64 0, .slice none 0 0] 32)
  have hc2 := cells_new (W.alloc (.cells #[.int .i64 x.line, .slice x.A x.ws.length x.k] 118)) #[.int .i64 0, .slice none 0 0] 32
  have hr2 := hr1.below hb2
  have hb := hb1.trans (hb2.mono (by rw [hz1]; omega))
  have hx := hx1.below hb
  have hz2 : ((W.alloc (.cells #[.int .i64 x.line, .slice x.A x.ws.length x.k] 118)).alloc (.cells #[.int .i64 0, .slice none 0 0] 32)).heap.size = W.heap.size + 1 + 1 := by simp
  rw [hz1] at hc2
  have HB := Lib.hid hb
  have HR := Lib.hid hr2
  have HC := Lib.hid hc2
  have HX := Lib.hid hx
  clear hb1 hr1 hb2 hc2 hr2 hx hb hx1
  go_enter Tryz.func55, Tryz.ntmps55
  refine wp_named ?_
  intro Q0 hQ0
  have HQ0 := Lib.hid hQ0
  clear hQ0
  go_upto_region 1 with fail
  generalize ((W.alloc (.cells #[.int .i64 x.line, .slice x.A x.ws.length x.k] 118)).alloc (.cells #[.int .i64 0, .slice none 0 0] 32)) = w1 at *
  have l0 := HR.out.cell 0
  have l1 := HR.out.cell 1
  obtain ⟨ad2, hA2, cc2⟩ := HX.out.at_ (j := i) hi
  have e0 := cc2 0 _ rfl
  have ea : ad2.add (i * 1 + 0) = ad2.add i := by rw [Nat.mul_one, Nat.add_zero]
  rw [ea, List.getElem_map] at e0
  have e0' : w1.cell? (ad2.add (i * 1)) = some (.string (toB x.ws[i])) := by rw [Nat.mul_one]; exact e0
  have hdn := DocNumber_any (toB x.ws[i]) most w1 (by rw [toB_size]; omega) (by omega)
  rw [toB_list] at hdn
  have hne := numE_of x.ws[i] most beyond
  have hcs := numT_cases x.ws[i] most
  rw [hA2] at l1
  have p0 : (i : Int) < (x.ws.length : Int) := by omega
  have p1 : decide ((i : Int) < (x.ws.length : Int)) = true := decide_eq_true p0
  generalize x.ws[i] = y at *
  clear cc2 ea
  generalize hE : x.ws.length = n at *
  clear hE
  generalize numT y most = r at *
  have HDN := Lib.hid hdn
  have HNE := Lib.hid hne
  have HCS := Lib.hid hcs
  clear hdn hne hcs hz1
  go_wp2_with fail
  refine HDN.out.mono ?_
  rintro e w2 ⟨hb2, he⟩
  have HB2 : Hid (Below W.heap.size W w2) := Lib.hid (HB.out.trans (hb2.mono (by omega)))
  have HC2 := Lib.hid (HC.out.below hb2)
  have HR2 := Lib.hid (HR.out.below hb2)
  have hs2 := hb2.size
  clear hb2 HDN
  rcases HCS.out with rfl | rfl | ⟨v, rfl, hv⟩
  · dsimp only at he
    subst he
    have hb3 := (Below.refl w2.heap.size w2).alloc (Nat.le_refl _) (.cells #[.int .i64 1, .slice none 0 0] 32)
    have hx3 := cells_new w2 #[.int .i64 1, .slice none 0 0] 32
    have HB3 := Lib.hid (HB2.out.trans (hb3.mono HB2.out.size))
    have HC3 := Lib.hid (HC2.out.below hb3)
    have HR3 := Lib.hid (HR2.out.below hb3)
    have HX3 := Lib.hid hx3
    clear hb3 hx3
    go_upto_region 2 with fail
    generalize w2.alloc (.cells #[.int .i64 1, .slice none 0 0] 32) = w3 at *
    have x0 := HX3.out.cell 0
    have x1 := HX3.out.cell 1
    have fx0 := HX3.out.frozen 0
    have fx1 := HX3.out.frozen 1
    go_wp2_with fail
    refine (Bad_any 1 none 0 0 w3).mono ?_
    rintro e w4 ⟨rfl, hb4⟩
    have HB4 := Lib.hid (HB3.out.trans (hb4.mono HB3.out.size))
    have HC4 := Lib.hid (HC3.out.below hb4)
    have HR4 := Lib.hid (HR3.out.below hb4)
    have HX4 := Lib.hid (HX3.out.below hb4)
    clear hb4 x0 x1 fx0 fx1
    have x0 := HX4.out.cell 0
    have x1 := HX4.out.cell 1
    have fx0 := HX4.out.frozen 0
    have fx1 := HX4.out.frozen 1
    have l0 := HR4.out.cell 0
    go_wp2_with fail
    refine (E_any beyond w4).mono ?_
    rintro e w5 ⟨rfl, hb5⟩
    have HB5 := Lib.hid (HB4.out.trans (hb5.mono HB4.out.size))
    have HC5 := Lib.hid (HC4.out.below hb5)
    have HR5 := Lib.hid (HR4.out.below hb5)
    have HX5 := Lib.hid (HX4.out.below hb5)
    clear hb5 x0 x1 fx0 fx1 l0
    have x0 := HX5.out.cell 0
    have x1 := HX5.out.cell 1
    have fx0 := HX5.out.frozen 0
    have fx1 := HX5.out.frozen 1
    have hkx : Kept (fun k => k = w2.heap.size) w5 ((w5.setCell ⟨w2.heap.size, 0, none⟩ (.int .i64 beyond)).setCell ⟨w2.heap.size, 1, none⟩ (.slice none 0 0)) := ((Kept.refl (fun k => k = w2.heap.size) w5).set_ (p := ⟨w2.heap.size, 0, none⟩) (.inl rfl) _).set_ (p := ⟨w2.heap.size, 1, none⟩) (.inl rfl) _
    have HC5' := Lib.hid (hkx.cells HC5.out (fun h => by omega))
    have hR5 := hkx.cells HR5.out (fun h => by omega)
    have l0 := hR5.cell 0
    have hX5 := (HX5.out.set_ 0 (.int .i64 beyond)).set_ 1 (.slice none 0 0)
    simp only [List.setIfInBounds_toArray, List.set_cons_zero, List.set_cons_succ] at hX5
    have y0 := hX5.cell 0
    have y1 := hX5.cell 1
    have HB5' : Hid (Below W.heap.size W ((w5.setCell ⟨w2.heap.size, 0, none⟩ (.int .i64 beyond)).setCell ⟨w2.heap.size, 1, none⟩ (.slice none 0 0))) := Lib.hid (hkx.below HB5.out (fun k h => by omega) HB5.out.size)
    clear hkx hR5 hX5
    go_wp2_with fail
    refine (At1_any 1 x.line beyond _).mono ?_
    rintro e w6 ⟨g6, k6, rfl, hx6, hg6, hb6⟩
    have HB6 := Lib.hid (HB5'.out.trans (hb6.mono HB5'.out.size))
    have HC6 := Lib.hid (HC5'.out.below hb6)
    have HX6 := Lib.hid hx6
    have hs6 := HB5'.out.size
    have hlt6 := HC5'.out.lt
    clear hx6 hb6
    have c0 := HC6.out.cell 0
    have c1 := HC6.out.cell 1
    have f0 := HC6.out.frozen 0
    have f1 := HC6.out.frozen 1
    have hfin := (HC6.out.set_ 0 (.int .i64 beyond)).set_ 1 (.slice (some ⟨g6, 0, none⟩) 1 k6)
    simp only [List.setIfInBounds_toArray, List.set_cons_zero, List.set_cons_succ] at hfin
    have hkz : Kept (fun k => k = W.heap.size + 1) w6 ((w6.setCell ⟨W.heap.size + 1, 0, none⟩ (.int .i64 beyond)).setCell ⟨W.heap.size + 1, 1, none⟩ (.slice (some ⟨g6, 0, none⟩) 1 k6)) := ((Kept.refl (fun k => k = W.heap.size + 1) w6).set_ (p := ⟨W.heap.size + 1, 0, none⟩) (.inl rfl) _).set_ (p := ⟨W.heap.size + 1, 1, none⟩) (.inl rfl) _
    have HFIN := Lib.hid hfin
    have HKZ := Lib.hid hkz
    clear hfin hkz
    go_wp2_with fail
    generalize (w6.setCell ⟨W.heap.size + 1, 0, none⟩ (.int .i64 beyond)).setCell ⟨W.heap.size + 1, 1, none⟩ (.slice (some ⟨g6, 0, none⟩) 1 k6) = wz at *
    have r0 : wz.cell? ⟨W.heap.size + 1, 0, none⟩ = some (.int .i64 beyond) := HFIN.out.cell 0
    have r1 : wz.cell? ⟨W.heap.size + 1, 1, none⟩ = some (.slice (some ⟨g6, 0, none⟩) 1 k6) := HFIN.out.cell 1
    have hbz : Below W.heap.size W wz := HKZ.out.below HB6.out (fun k h => by omega) HB6.out.size
    have HEND : Hid (NumRow (numE y (most : Int) beyond) x.line W (.returned (.tuple #[.int .i64 0, .agg #[.int .i64 beyond, .slice (some ⟨g6, 0, none⟩) 1 k6]])) wz) := Lib.hid (by rw [HNE.out]; exact ⟨hbz, ⟨beyond, some ⟨g6, 0, none⟩, 1, k6⟩, rfl, g6, k6, rfl, HKZ.out.cells HX6.out (fun h => by omega), by omega⟩)
    rw [HQ0.out]
    refine bodyPost_ret (v := .tuple #[.int .i64 0, .agg #[.int .i64 beyond, .slice (some ⟨g6, 0, none⟩) 1 k6]]) ?hres rfl HEND.out
    case hres => simp [results, Tryz.results55, go_sem, r0, r1]
  · dsimp only at he
    subst he
    have hb3 := (Below.refl w2.heap.size w2).alloc (Nat.le_refl _) (.cells #[.int .i64 4, .slice none 0 0] 32)
    have hx3 := cells_new w2 #[.int .i64 4, .slice none 0 0] 32
    have HB3 := Lib.hid (HB2.out.trans (hb3.mono HB2.out.size))
    have HC3 := Lib.hid (HC2.out.below hb3)
    have HR3 := Lib.hid (HR2.out.below hb3)
    have HX3 := Lib.hid hx3
    clear hb3 hx3
    go_upto_region 2 with fail
    generalize w2.alloc (.cells #[.int .i64 4, .slice none 0 0] 32) = w3 at *
    have x0 := HX3.out.cell 0
    have x1 := HX3.out.cell 1
    have fx0 := HX3.out.frozen 0
    have fx1 := HX3.out.frozen 1
    go_wp2_with fail
    refine (Bad_any 4 none 0 0 w3).mono ?_
    rintro e w4 ⟨rfl, hb4⟩
    have HB4 := Lib.hid (HB3.out.trans (hb4.mono HB3.out.size))
    have HC4 := Lib.hid (HC3.out.below hb4)
    have HR4 := Lib.hid (HR3.out.below hb4)
    have HX4 := Lib.hid (HX3.out.below hb4)
    clear hb4 x0 x1 fx0 fx1
    have x0 := HX4.out.cell 0
    have x1 := HX4.out.cell 1
    have fx0 := HX4.out.frozen 0
    have fx1 := HX4.out.frozen 1
    have l0 := HR4.out.cell 0
    go_wp2_with fail
    refine (At1_any 1 x.line 4 _).mono ?_
    rintro e w6 ⟨g6, k6, rfl, hx6, hg6, hb6⟩
    have HB6 := Lib.hid (HB4.out.trans (hb6.mono HB4.out.size))
    have HC6 := Lib.hid (HC4.out.below hb6)
    have HX6 := Lib.hid hx6
    have hs6 := HB4.out.size
    have hlt6 := HC4.out.lt
    clear hx6 hb6
    have c0 := HC6.out.cell 0
    have c1 := HC6.out.cell 1
    have f0 := HC6.out.frozen 0
    have f1 := HC6.out.frozen 1
    have hfin := (HC6.out.set_ 0 (.int .i64 4)).set_ 1 (.slice (some ⟨g6, 0, none⟩) 1 k6)
    simp only [List.setIfInBounds_toArray, List.set_cons_zero, List.set_cons_succ] at hfin
    have hkz : Kept (fun k => k = W.heap.size + 1) w6 ((w6.setCell ⟨W.heap.size + 1, 0, none⟩ (.int .i64 4)).setCell ⟨W.heap.size + 1, 1, none⟩ (.slice (some ⟨g6, 0, none⟩) 1 k6)) := ((Kept.refl (fun k => k = W.heap.size + 1) w6).set_ (p := ⟨W.heap.size + 1, 0, none⟩) (.inl rfl) _).set_ (p := ⟨W.heap.size + 1, 1, none⟩) (.inl rfl) _
    have HFIN := Lib.hid hfin
    have HKZ := Lib.hid hkz
    clear hfin hkz
    go_wp2_with fail
    generalize (w6.setCell ⟨W.heap.size + 1, 0, none⟩ (.int .i64 4)).setCell ⟨W.heap.size + 1, 1, none⟩ (.slice (some ⟨g6, 0, none⟩) 1 k6) = wz at *
    have r0 : wz.cell? ⟨W.heap.size + 1, 0, none⟩ = some (.int .i64 4) := HFIN.out.cell 0
    have r1 : wz.cell? ⟨W.heap.size + 1, 1, none⟩ = some (.slice (some ⟨g6, 0, none⟩) 1 k6) := HFIN.out.cell 1
    have hbz : Below W.heap.size W wz := HKZ.out.below HB6.out (fun k h => by omega) HB6.out.size
    have HEND : Hid (NumRow (numE y (most : Int) beyond) x.line W (.returned (.tuple #[.int .i64 0, .agg #[.int .i64 4, .slice (some ⟨g6, 0, none⟩) 1 k6]])) wz) := Lib.hid (by rw [HNE.out]; exact ⟨hbz, ⟨4, some ⟨g6, 0, none⟩, 1, k6⟩, rfl, g6, k6, rfl, HKZ.out.cells HX6.out (fun h => by omega), by omega⟩)
    rw [HQ0.out]
    refine bodyPost_ret (v := .tuple #[.int .i64 0, .agg #[.int .i64 4, .slice (some ⟨g6, 0, none⟩) 1 k6]]) ?hres rfl HEND.out
    case hres => simp [results, Tryz.results55, go_sem, r0, r1]
  · dsimp only at he
    subst he
    have hb3 := (Below.refl w2.heap.size w2).alloc (Nat.le_refl _) (.cells #[.int .i64 0, .slice none 0 0] 32)
    have hx3 := cells_new w2 #[.int .i64 0, .slice none 0 0] 32
    have HB3 := Lib.hid (HB2.out.trans (hb3.mono HB2.out.size))
    have HC3 := Lib.hid (HC2.out.below hb3)
    have HR3 := Lib.hid (HR2.out.below hb3)
    have HX3 := Lib.hid hx3
    clear hb3 hx3
    go_upto_region 2 with fail
    generalize w2.alloc (.cells #[.int .i64 0, .slice none 0 0] 32) = w3 at *
    have x0 := HX3.out.cell 0
    have x1 := HX3.out.cell 1
    have fx0 := HX3.out.frozen 0
    have fx1 := HX3.out.frozen 1
    go_wp2_with fail
    refine (Bad_any 0 none 0 0 w3).mono ?_
    rintro e w4 ⟨rfl, hb4⟩
    have HB4 := Lib.hid (HB3.out.trans (hb4.mono HB3.out.size))
    have HC4 := Lib.hid (HC3.out.below hb4)
    have HR4 := Lib.hid (HR3.out.below hb4)
    have HX4 := Lib.hid (HX3.out.below hb4)
    clear hb4 x0 x1 fx0 fx1
    have x0 := HX4.out.cell 0
    have x1 := HX4.out.cell 1
    have fx0 := HX4.out.frozen 0
    have fx1 := HX4.out.frozen 1
    have l0 := HR4.out.cell 0
    have hw1 : IntKind.i64.wrap (v : Int) = (v : Int) := by rw [IntKind.wrap_i64]; omega
    have c0 := HC4.out.cell 0
    have c1 := HC4.out.cell 1
    have f0 := HC4.out.frozen 0
    have f1 := HC4.out.frozen 1
    go_upto_region 3 with fail
    have hQ := HQ0.out
    clear HQ0
    subst hQ
    have hlt := HC2.out.lt
    have hfin := (HC4.out.set_ 0 (.int .i64 0)).set_ 1 (.slice none 0 0)
    simp only [List.setIfInBounds_toArray, List.set_cons_zero, List.set_cons_succ] at hfin
    have hkz : Kept (fun k => k = W.heap.size + 1) w4 ((w4.setCell ⟨W.heap.size + 1, 0, none⟩ (.int .i64 0)).setCell ⟨W.heap.size + 1, 1, none⟩ (.slice none 0 0)) := ((Kept.refl (fun k => k = W.heap.size + 1) w4).set_ (p := ⟨W.heap.size + 1, 0, none⟩) (.inl rfl) _).set_ (p := ⟨W.heap.size + 1, 1, none⟩) (.inl rfl) _
    have HFIN := Lib.hid hfin
    have HKZ := Lib.hid hkz
    clear hfin hkz
    go_region
    all_goals
      generalize (w4.setCell ⟨W.heap.size + 1, 0, none⟩ (.int .i64 0)).setCell ⟨W.heap.size + 1, 1, none⟩ (.slice none 0 0) = wz at *
      have hfd := HFIN.out.below (Below.drew (Below.refl wz.heap.size wz))
      have hkd := HKZ.out.trans (Kept.of_below (Below.drew (Below.refl wz.heap.size wz)))
      generalize wz.drew = wy at *
      have r0 : wy.cell? ⟨W.heap.size + 1, 0, none⟩ = some (.int .i64 0) := hfd.cell 0
      have r1 : wy.cell? ⟨W.heap.size + 1, 1, none⟩ = some (.slice none 0 0) := hfd.cell 1
      have hbz : Below W.heap.size W wy := hkd.below HB4.out (fun k h => by omega) HB4.out.size
      have HEND : Hid (NumRow (numE y (most : Int) beyond) x.line W (.returned (.tuple #[.int .i64 (v : Int), .agg #[.int .i64 0, .slice none 0 0]])) wy) := Lib.hid (by rw [HNE.out]; exact ⟨hbz, rfl⟩)
      clear hfd hkd
      go_wp2_with fail
      refine bodyPost_ret (v := .tuple #[.int .i64 (v : Int), .agg #[.int .i64 0, .slice none 0 0]]) ?hres rfl HEND.out
      case hres => simp [results, Tryz.results55, go_sem, r0, r1]
end Go.Proofs.YtngihiebkbheaaaGreatDoor
