/- The document's: a row that isn't there. -/
import Derived.Test.YtngihiebkbheaaaGreatDoorGt17
set_option linter.unusedSimpArgs false
set_option linter.unusedVariables false
namespace Go.Proofs.YtngihiebkbheaaaGreatDoor
open Go.RowKit Txt

def lastLine (L : List RowV) : Int := match L.getLast? with
  | none => 0
  | some x => x.line
set_option maxRecDepth 100000 in
set_option maxHeartbeats 4000000 in
theorem lacks_any (A : Option Addr) (k : Nat) (L : List RowV) (W : World) (hL : L.length ≤ 1048577) (hrd : RdRow W A L.length L) :
    Calls Tryz.prog 53 #[.slice A L.length k] W (ErrAt (some (5, some (1, lastLine L))) W) := by
  have hb1 := (Below.refl W.heap.size W).alloc (Nat.le_refl _) (.cells #[.int .i64 0, .slice none 0 0] 32)
  have hc1 := cells_new W #[.int .i64 0, .slice none 0 0] 32
  have hr1 := hrd.below hb1
  have HB := Lib.hid hb1
  have HC := Lib.hid hc1
  have HRD := Lib.hid hr1
  clear hb1 hc1 hr1 hrd
  generalize hw1 : W.alloc (.cells #[.int .i64 0, .slice none 0 0] 32) = w1 at *
  by_cases hp : 0 < L.length
  · obtain ⟨ad, hA, cc⟩ := HRD.out.rows.at_ (j := L.length - 1) (by omega)
    have e0 := cc 0 _ rfl
    have hll : lastLine L = (L[L.length - 1]'(by omega)).line := by
      unfold lastLine
      rw [List.getLast?_eq_getElem?, List.getElem?_eq_getElem (by omega)]
    have g0 : decide ((0 : Int) < (L.length : Int)) = true := decide_eq_true (by omega)
    have g1 : decide ((0 : Int) < L.length) = true := decide_eq_true (by omega)
    generalize (L[L.length - 1]'(by omega)).line = ln at *
    obtain ⟨n, hn⟩ : ∃ n, L.length = n + 1 := ⟨L.length - 1, by omega⟩
    have e0' : w1.cell? (ad.add (n * 2)) = some (.int .i64 ln) := by rw [show n = L.length - 1 by omega]; exact e0
    have HLL := Lib.hid hll
    clear e0 cc hll g1
    generalize L.length = m at *
    subst hn
    have q0 : IntKind.i64.wrap (((n + 1 : Nat) : Int) - 1) = (n : Int) := by rw [IntKind.wrap_i64]; omega
    have q1 : IntKind.i64.wrap ((n : Int) + 1 - 1) = (n : Int) := by rw [IntKind.wrap_i64]; omega
    have q2 : (n : Int) < ((n + 1 : Nat) : Int) := by omega
    have q3 : (0 : Int) < ((n + 1 : Nat) : Int) := by omega
    subst hA
    subst hw1
    go_enter Tryz.func53, Tryz.ntmps53
    refine wp_named ?_
    intro Q0 hQ0
    have HQ0 := Lib.hid hQ0
    clear hQ0
    go_wp2_with fail
    refine (E_any 5 _).mono ?_
    rintro e w5 ⟨rfl, hb5⟩
    have HB5 := Lib.hid (HB.out.trans (hb5.mono HB.out.size))
    have HC5 := Lib.hid (HC.out.below hb5)
    clear hb5
    go_wp2_with fail
    refine (At1_any 1 ln 5 w5).mono ?_
    rintro e w6 ⟨g6, k6, rfl, hx6, hg6, hb6⟩
    have HB6 := Lib.hid (HB5.out.trans (hb6.mono HB5.out.size))
    have HC6 := Lib.hid (HC5.out.below hb6)
    have HX6 := Lib.hid hx6
    have hs6 := HB5.out.size
    have hlt6 := HC5.out.lt
    clear hx6 hb6
    have c0 := HC6.out.cell 0
    have c1 := HC6.out.cell 1
    have f0 := HC6.out.frozen 0
    have f1 := HC6.out.frozen 1
    have hfin := (HC6.out.set_ 0 (.int .i64 5)).set_ 1 (.slice (some ⟨g6, 0, none⟩) 1 k6)
    simp only [List.setIfInBounds_toArray, List.set_cons_zero, List.set_cons_succ] at hfin
    have hkz : Kept (fun k => k = W.heap.size) w6 ((w6.setCell ⟨W.heap.size, 0, none⟩ (.int .i64 5)).setCell ⟨W.heap.size, 1, none⟩ (.slice (some ⟨g6, 0, none⟩) 1 k6)) := ((Kept.refl (fun k => k = W.heap.size) w6).set_ (p := ⟨W.heap.size, 0, none⟩) (.inl rfl) _).set_ (p := ⟨W.heap.size, 1, none⟩) (.inl rfl) _
    have HFIN := Lib.hid hfin
    have HKZ := Lib.hid hkz
    clear hfin hkz
    go_wp2_with fail
    generalize (w6.setCell ⟨W.heap.size, 0, none⟩ (.int .i64 5)).setCell ⟨W.heap.size, 1, none⟩ (.slice (some ⟨g6, 0, none⟩) 1 k6) = wz at *
    have r0 : wz.cell? ⟨W.heap.size, 0, none⟩ = some (.int .i64 5) := HFIN.out.cell 0
    have r1 : wz.cell? ⟨W.heap.size, 1, none⟩ = some (.slice (some ⟨g6, 0, none⟩) 1 k6) := HFIN.out.cell 1
    have hbz : Below W.heap.size W wz := HKZ.out.below HB6.out (fun k h => by omega) HB6.out.size
    have HEND : Hid (ErrAt (some (5, some (1, lastLine L))) W (.returned (.agg #[.int .i64 5, .slice (some ⟨g6, 0, none⟩) 1 k6])) wz) := Lib.hid ⟨hbz, ⟨5, some ⟨g6, 0, none⟩, 1, k6⟩, rfl, by rw [HLL.out]; exact ⟨g6, k6, rfl, HKZ.out.cells HX6.out (fun h => by omega), by omega⟩⟩
    rw [HQ0.out]
    refine bodyPost_ret (v := .agg #[.int .i64 5, .slice (some ⟨g6, 0, none⟩) 1 k6]) ?hres rfl HEND.out
    case hres => simp [results, Tryz.results53, go_sem, r0, r1]
  · obtain rfl : L = [] := List.eq_nil_of_length_eq_zero (by omega)
    have HLL : Hid (lastLine [] = 0) := Lib.hid rfl
    rw [List.length_nil] at *
    subst hw1
    go_enter Tryz.func53, Tryz.ntmps53
    refine wp_named ?_
    intro Q0 hQ0
    have HQ0 := Lib.hid hQ0
    clear hQ0
    go_wp2_with fail
    refine (E_any 5 _).mono ?_
    rintro e w5 ⟨rfl, hb5⟩
    have HB5 := Lib.hid (HB.out.trans (hb5.mono HB.out.size))
    have HC5 := Lib.hid (HC.out.below hb5)
    clear hb5
    go_wp2_with fail
    refine (At1_any 1 0 5 w5).mono ?_
    rintro e w6 ⟨g6, k6, rfl, hx6, hg6, hb6⟩
    have HB6 := Lib.hid (HB5.out.trans (hb6.mono HB5.out.size))
    have HC6 := Lib.hid (HC5.out.below hb6)
    have HX6 := Lib.hid hx6
    have hs6 := HB5.out.size
    have hlt6 := HC5.out.lt
    clear hx6 hb6
    have c0 := HC6.out.cell 0
    have c1 := HC6.out.cell 1
    have f0 := HC6.out.frozen 0
    have f1 := HC6.out.frozen 1
    have hfin := (HC6.out.set_ 0 (.int .i64 5)).set_ 1 (.slice (some ⟨g6, 0, none⟩) 1 k6)
    simp only [List.setIfInBounds_toArray, List.set_cons_zero, List.set_cons_succ] at hfin
    have hkz : Kept (fun k => k = W.heap.size) w6 ((w6.setCell ⟨W.heap.size, 0, none⟩ (.int .i64 5)).setCell ⟨W.heap.size, 1, none⟩ (.slice (some ⟨g6, 0, none⟩) 1 k6)) := ((Kept.refl (fun k => k = W.heap.size) w6).set_ (p := ⟨W.heap.size, 0, none⟩) (.inl rfl) _).set_ (p := ⟨W.heap.size, 1, none⟩) (.inl rfl) _
    have HFIN := Lib.hid hfin
    have HKZ := Lib.hid hkz
    clear hfin hkz
    go_wp2_with fail
    generalize (w6.setCell ⟨W.heap.size, 0, none⟩ (.int .i64 5)).setCell ⟨W.heap.size, 1, none⟩ (.slice (some ⟨g6, 0, none⟩) 1 k6) = wz at *
    have r0 : wz.cell? ⟨W.heap.size, 0, none⟩ = some (.int .i64 5) := HFIN.out.cell 0
    have r1 : wz.cell? ⟨W.heap.size, 1, none⟩ = some (.slice (some ⟨g6, 0, none⟩) 1 k6) := HFIN.out.cell 1
    have hbz : Below W.heap.size W wz := HKZ.out.below HB6.out (fun k h => by omega) HB6.out.size
    have HEND : Hid (ErrAt (some (5, some (1, lastLine []))) W (.returned (.agg #[.int .i64 5, .slice (some ⟨g6, 0, none⟩) 1 k6])) wz) := Lib.hid ⟨hbz, ⟨5, some ⟨g6, 0, none⟩, 1, k6⟩, rfl, by rw [HLL.out]; exact ⟨g6, k6, rfl, HKZ.out.cells HX6.out (fun h => by omega), by omega⟩⟩
    rw [HQ0.out]
    refine bodyPost_ret (v := .agg #[.int .i64 5, .slice (some ⟨g6, 0, none⟩) 1 k6]) ?hres rfl HEND.out
    case hres => simp [results, Tryz.results53, go_sem, r0, r1]
end Go.Proofs.YtngihiebkbheaaaGreatDoor
