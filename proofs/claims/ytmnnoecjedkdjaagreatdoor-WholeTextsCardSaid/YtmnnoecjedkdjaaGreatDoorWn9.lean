/- Few and small at a right graph. -/
import Derived.Test.YtmnnoecjedkdjaaGreatDoorGt23
import Derived.Test.YtmnnoecjedkdjaaGreatDoorWn8
set_option linter.unusedSimpArgs false
set_option linter.unusedVariables false
namespace Go.Proofs.YtmnnoecjedkdjaaGreatDoor
open Go.RowKit Txt

theorem doc_right (n : Int) (l : List ArcT) (A : Option Addr) (m kk : Nat) (W : World) (hrd : RdA W A m l) (hok : chkT ⟨n, l⟩ = none) (hlen : m ≤ 100) :
    Calls Tryz.prog 60 #[.agg #[.int .i64 n, .slice A m kk]] W fun e w' => e = .returned (.agg #[.int .i64 0, .slice none 0 0]) ∧ Below W.heap.size W w' := by
  have hml := hrd.1
  have h := DocCheck_any ⟨n, l⟩ A kk W (by dsimp only; rw [hml]; exact hrd) (by dsimp only; omega)
  rw [hok] at h
  dsimp only at h
  rw [hml] at h
  refine h.mono ?_
  rintro e w' ⟨hb, x, rfl, hx⟩
  have hx' : x = zX := hx
  subst hx'
  exact ⟨rfl, hb⟩
set_option maxRecDepth 100000 in
set_option maxHeartbeats 4000000 in
theorem Few_any (n : Int) (l : List ArcT) (A : Option Addr) (m kk : Nat) (W : World) (hrd : RdA W A m l) (hok : chkT ⟨n, l⟩ = none) (hlen : m ≤ 100) :
    Calls Tryz.prog 40 #[.agg #[.int .i64 n, .slice A m kk], .int .i64 10] W (BoolBelow (decide (n ≤ 10)) W) := by
  have HDC : Hid (∀ w, Below W.heap.size W w → Calls Tryz.prog 60 #[.agg #[.int .i64 n, .slice A m kk]] w fun e w' => e = .returned (.agg #[.int .i64 0, .slice none 0 0]) ∧ Below w.heap.size w w') := Lib.hid fun w hb => doc_right n l A m kk w (hrd.below hb) hok hlen
  clear hrd hok
  have hb1 := (Below.refl W.heap.size W).alloc (Nat.le_refl _) (.cells #[.int .i64 n, .slice A m kk] 30)
  have hc1 := cells_new W #[.int .i64 n, .slice A m kk] 30
  generalize hd : decide (n ≤ 10) = bd at *
  have HD := Lib.hid hd
  go_enter Tryz.func40, Tryz.ntmps40
  refine wp_named ?_
  intro Q0 hQ0
  have HQ0 := Lib.hid hQ0
  clear hQ0
  go_upto_region 1 with fail
  generalize W.alloc (.cells #[.int .i64 n, .slice A m kk] 30) = w1 at *
  have HB1 := Lib.hid hb1
  have HC1 := Lib.hid hc1
  have d0 := hc1.cell 0
  have d1 := hc1.cell 1
  clear hb1 hc1
  go_wp2_with fail
  refine (HDC.out w1 HB1.out).mono ?_
  rintro e w2 ⟨rfl, hb⟩
  have HB2 := Lib.hid (HB1.out.trans (hb.mono HB1.out.size))
  have HC2 := Lib.hid (HC1.out.below hb)
  clear hb d0 d1 HC1
  go_upto_region 2 with fail
  have hb3 := (Below.refl w2.heap.size w2).alloc (Nat.le_refl _) (.cells #[.int .i64 0, .slice none 0 0] 136)
  have HB3 := Lib.hid (HB2.out.trans (hb3.mono HB2.out.size))
  have HC3 := Lib.hid (HC2.out.below hb3)
  have HE3 := Lib.hid (cells_new w2 #[.int .i64 0, .slice none 0 0] 136)
  clear hb3
  generalize w2.alloc (.cells #[.int .i64 0, .slice none 0 0] 136) = w3 at *
  generalize w2.heap.size = E at *
  have y0 : w3.cell? ⟨E, 0, none⟩ = some (.int .i64 0) := HE3.out.cell 0
  have y1 : w3.cell? ⟨E, 1, none⟩ = some (.slice none 0 0) := HE3.out.cell 1
  go_wp2_with fail
  refine (BadE_any 0 none 0 0 w3 (by unfold maxLen; omega)).mono ?_
  rintro e w4 ⟨rfl, hb⟩
  have HB4 := Lib.hid (HB3.out.trans (hb.mono HB3.out.size))
  have HC4 := Lib.hid (HC3.out.below hb)
  clear hb y0 y1 HE3 HC3
  have d0 : w4.cell? ⟨W.heap.size, 0, none⟩ = some (.int .i64 n) := HC4.out.cell 0
  have d1 : w4.cell? ⟨W.heap.size, 1, none⟩ = some (.slice A m kk) := HC4.out.cell 1
  have g1 : decide ((m : Int) ≤ 2000) = true := decide_eq_true (by omega)
  have g2 : decide (m ≤ 2000) = true := decide_eq_true (by omega)
  cases bd with
  | true =>
    go_wp2_with fail
    rw [HQ0.out]
    go_ret
    exact ⟨rfl, HB4.out⟩
  | false =>
    go_wp2_with fail
    rw [HQ0.out]
    go_ret
    exact ⟨rfl, HB4.out⟩
set_option maxRecDepth 100000 in
set_option maxHeartbeats 4000000 in
theorem small_any (n : Int) (l : List ArcT) (A : Option Addr) (m kk : Nat) (W : World) (hrd : RdA W A m l) (hok : chkT ⟨n, l⟩ = none) (hlen : m ≤ 100) :
    Calls Tryz.prog 16 #[.agg #[.int .i64 n, .slice A m kk], .int .i64 10] W (BoolBelow (decide (n ≤ 10)) W) := by
  have HFW : Hid (∀ w, Below W.heap.size W w → Calls Tryz.prog 40 #[.agg #[.int .i64 n, .slice A m kk], .int .i64 10] w (BoolBelow (decide (n ≤ 10)) w)) := Lib.hid fun w hb => Few_any n l A m kk w (hrd.below hb) hok hlen
  clear hrd hok
  have hb1 := (Below.refl W.heap.size W).alloc (Nat.le_refl _) (.cells #[.int .i64 n, .slice A m kk] 30)
  have hc1 := cells_new W #[.int .i64 n, .slice A m kk] 30
  go_enter Tryz.func16, Tryz.ntmps16
  refine wp_named ?_
  intro Q0 hQ0
  have HQ0 := Lib.hid hQ0
  clear hQ0
  go_upto_region 1 with fail
  generalize W.alloc (.cells #[.int .i64 n, .slice A m kk] 30) = w1 at *
  have HB1 := Lib.hid hb1
  have HC1 := Lib.hid hc1
  have d0 := hc1.cell 0
  have d1 := hc1.cell 1
  clear hb1 hc1
  go_wp2_with fail
  refine (HFW.out w1 HB1.out).mono ?_
  rintro e w2 ⟨rfl, hb⟩
  have HB2 := Lib.hid (HB1.out.trans (hb.mono HB1.out.size))
  have HC2 := Lib.hid (HC1.out.below hb)
  clear hb d0 d1 HC1 HFW
  generalize decide (n ≤ 10) = bd at *
  have d1 : w2.cell? ⟨W.heap.size, 1, none⟩ = some (.slice A m kk) := HC2.out.cell 1
  have g1 : decide ((m : Int) ≤ 200) = true := decide_eq_true (by omega)
  have g2 : decide (m ≤ 200) = true := decide_eq_true (by omega)
  cases bd with
  | true =>
    go_wp2_with fail
    rw [HQ0.out]
    go_ret
    exact ⟨rfl, HB2.out⟩
  | false =>
    go_wp2_with fail
    rw [HQ0.out]
    go_ret
    exact ⟨rfl, HB2.out⟩
end Go.Proofs.YtmnnoecjedkdjaaGreatDoor
