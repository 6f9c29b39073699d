/- GtextChecks, GtextThere. -/
import Derived.Test.YtngihiebkbheaaaGreatDoorGt27
set_option linter.unusedSimpArgs false
set_option linter.unusedVariables false
namespace Go.Proofs.YtngihiebkbheaaaGreatDoor
open Go.RowKit Txt

theorem ErrProg.px2 {b : Bug} {W w' : World} {e : Ending} (h : ErrProg b W e w') : ∃ v, e = .returned v ∧ ProgX b W.heap.size v w' ∧ Below W.heap.size W w' := by
  obtain ⟨h1, h2⟩ := h
  cases b with
  | none => exact ⟨_, h2, rfl, h1⟩
  | some p =>
    obtain ⟨c, q⟩ := p
    cases q with
    | none => exact ⟨_, h2, rfl, h1⟩
    | some q =>
      obtain ⟨k, a⟩ := q
      obtain ⟨g, e1, e2, e3⟩ := h2
      exact ⟨_, e1, ⟨g, rfl, e2, e3⟩, h1⟩
/-- a law with a graph: its box, and awake -/
theorem law_start {n : Int} {A : Option Addr} {m kk : Nat} (W : World) : Below W.heap.size W (W.alloc (.cells #[.int .i64 n, .slice A m kk] 24)) ∧ Cells (W.alloc (.cells #[.int .i64 n, .slice A m kk] 24)) W.heap.size #[.int .i64 n, .slice A m kk] 24 :=
  ⟨(Below.refl _ _).alloc (Nat.le_refl _) _, cells_new _ _ _⟩
set_option maxRecDepth 100000 in
set_option maxHeartbeats 16000000 in
theorem GtextChecks_walk (A0 : Option Addr) (kk0 : Nat) (g0 : GrT) (W : World) (rd0 : RdA W A0 g0.arcs.length g0.arcs) (sh0 : g0.arcs.length * 24 ≤ 140737488351232) (hw : Env W) :
    Calls Tryz.prog 3 #[.agg #[.int .i64 g0.n, .slice A0 g0.arcs.length kk0]] W (BoolBelow true W) := by
  have HRD := Lib.hid rd0
  have HW := Lib.hid hw
  obtain ⟨n, hn⟩ : ∃ n, g0.arcs.length = n := ⟨_, rfl⟩
  have HN := Lib.hid hn
  have HPR := Lib.hid (fun w (hb : Below W.heap.size W w) => Print_any g0 A0 kk0 w (rd0.below hb) (by omega) (hw.below hb).tab)
  have HDP := Lib.hid (fun w (hb : Below W.heap.size W w) => DocPrint_any g0 A0 kk0 w (rd0.below hb) (by omega) (hw.below hb).tab)
  have HCK := Lib.hid (fun w (hb : Below W.heap.size W w) => GCheck_any g0 A0 kk0 w (rd0.below hb) (by omega))
  have HDC := Lib.hid (fun w (hb : Below W.heap.size W w) => DocCheck_any g0 A0 kk0 w (rd0.below hb) (by omega))
  rw [hn] at HRD HPR HDP HCK HDC sh0 ⊢
  clear hn rd0 hw
  have HB1 := Lib.hid (law_start (n := g0.n) (A := A0) (m := n) (kk := kk0) W).1
  have HP1 := Lib.hid (law_start (n := g0.n) (A := A0) (m := n) (kk := kk0) W).2
  go_enter Tryz.func3, Tryz.ntmps3
  go_upto_region 1 with fail
  generalize W.alloc (.cells #[.int .i64 g0.n, .slice A0 n kk0] 24) = w1 at *
  go_wp2_with fail
  refine (awake_any w1 (HW.out.below HB1.out)).mono ?_
  rintro e w2 ⟨rfl, hb2⟩
  have HB2 := Lib.hid (HB1.out.trans (hb2.mono HB1.out.size))
  have HP2 := Lib.hid (HP1.out.below hb2)
  have hs2 := hb2.size
  clear hb2
  have Pc0 : w2.cell? ⟨W.heap.size, 0, none⟩ = some (.int .i64 g0.n) := HP2.out.cell 0
  have Pc1 : w2.cell? ⟨W.heap.size, 1, none⟩ = some (.slice A0 n kk0) := HP2.out.cell 1
  go_upto_region 3 with fail
  go_wp2_with fail
  refine (HPR.out w2 HB2.out).mono ?_
  rintro e w3 ⟨hb3, he⟩
  cases hp : printT g0 with
  | error b =>
    rw [hp] at he
    obtain ⟨v, rfl, hpx⟩ := he
    have HPX3 := Lib.hid hpx
    clear hpx
    have HB3 := Lib.hid (HB2.out.trans (hb3.mono HB2.out.size))
    have HP3 := Lib.hid (HP2.out.below hb3)
    have hs3 := hb3.size
    clear hb3 Pc0 Pc1
    have Pc0 : w3.cell? ⟨W.heap.size, 0, none⟩ = some (.int .i64 g0.n) := HP3.out.cell 0
    have Pc1 : w3.cell? ⟨W.heap.size, 1, none⟩ = some (.slice A0 n kk0) := HP3.out.cell 1
    go_upto_region 4 with fail
    go_wp2_with fail
    refine (HDP.out w3 HB3.out).mono ?_
    rintro e w4 ⟨hb4, he⟩
    rw [hp] at he
    obtain ⟨x, rfl, hdx⟩ := he
    have HDX4 := Lib.hid hdx
    have hgood : GoodB (some b) := by
      have h := hp
      unfold printT at h
      split at h
      · rename_i e' he'
        injection h with h
        subst h
        rw [← he']
        exact chkT_good
      · cases h
    clear hdx hp
    unfold errV
    have HB4 := Lib.hid (HB3.out.trans (hb4.mono HB3.out.size))
    have HP4 := Lib.hid (HP3.out.below hb4)
    have HPX4 := Lib.hid (HPX3.out.below hb4)
    have hs4 := hb4.size
    clear hb4 Pc0 Pc1
    have hb5 := (Below.refl w4.heap.size w4).alloc (Nat.le_refl _) (.cells #[.int .i64 x.c, .slice x.A x.n x.k] 32)
    have hx5 := cells_new w4 #[.int .i64 x.c, .slice x.A x.n x.k] 32
    have HB5 := Lib.hid (HB4.out.trans (hb5.mono HB4.out.size))
    have HP5 := Lib.hid (HP4.out.below hb5)
    have HPX5 := Lib.hid (HPX4.out.below hb5)
    have HDX5 := Lib.hid (HDX4.out.below hb5)
    have hs5 := hb5.size
    clear hb5
    have HF5 := Lib.hid hx5
    clear hx5
    go_upto_region 5 with fail
    generalize w4.alloc (.cells #[.int .i64 x.c, .slice x.A x.n x.k] 32) = w5 at *
    have Pc0 : w5.cell? ⟨W.heap.size, 0, none⟩ = some (.int .i64 g0.n) := HP5.out.cell 0
    have Pc1 : w5.cell? ⟨W.heap.size, 1, none⟩ = some (.slice A0 n kk0) := HP5.out.cell 1
    have Fc0 : w5.cell? ⟨w4.heap.size, 0, none⟩ = some (.int .i64 x.c) := HF5.out.cell 0
    have Fc1 : w5.cell? ⟨w4.heap.size, 1, none⟩ = some (.slice x.A x.n x.k) := HF5.out.cell 1
    have HS1 : Hid (∀ w, Below w5.heap.size w5 w → Calls Tryz.prog 13 #[v, .agg #[.int .i64 x.c, .slice x.A x.n x.k]] w (BoolBelow true w)) := Lib.hid (fun w hb => same_bug (HPX5.out.below hb) (HDX5.out.below hb) hgood (HW.out.below (HB5.out.trans (hb.mono HB5.out.size))).errT)
    have HC1 : Hid (∀ w, Below w5.heap.size w5 w → Calls Tryz.prog 14 #[.agg #[.int .i64 g0.n, .slice A0 n kk0]] w (ErrProg (chkT g0) w)) := Lib.hid (fun w hb => HCK.out w (HB5.out.trans (hb.mono HB5.out.size)))
    have HC2 : Hid (∀ w, Below w5.heap.size w5 w → Calls Tryz.prog 15 #[.agg #[.int .i64 g0.n, .slice A0 n kk0]] w (ErrAt (chkT g0) w)) := Lib.hid (fun w hb => HDC.out w (HB5.out.trans (hb.mono HB5.out.size)))
    have HE1 : Hid (∀ w, Below w5.heap.size w5 w → Env w) := Lib.hid (fun w hb => HW.out.below (HB5.out.trans (hb.mono HB5.out.size)))
    have HX : Hid (Below w5.heap.size w5 w5) := Lib.hid (Below.refl _ _)

    go_upto_region 5 with fail
    go_region_held3 (fun w' => (w'.cell? ⟨W.heap.size, 0, none⟩ = some (.int .i64 g0.n) ∧ w'.cell? ⟨W.heap.size, 1, none⟩ = some (.slice A0 n kk0)) ∧ w'.cell? ⟨w4.heap.size, 0, none⟩ = some (.int .i64 x.c) ∧ w'.cell? ⟨w4.heap.size, 1, none⟩ = some (.slice x.A x.n x.k)) (first | with_reducible exact ⟨⟨Pc0, Pc1⟩, Fc0, Fc1⟩ | go_keep) (first
      | (go_at_call 13; (with_reducible refine (HS1.out _ (by first | exact HX.out | exact HX.out.drew)).mono ?_); rintro e v0 ⟨rfl, hb5⟩; have Pc0 := cell_below hb5 Pc0; have Pc1 := cell_below hb5 Pc1; have Fc0 := cell_below hb5 Fc0; have Fc1 := cell_below hb5 Fc1; have HX : Hid (Below w5.heap.size w5 v0) := Lib.hid (by first | exact HX.out.trans (hb5.mono HX.out.size) | exact HX.out.drew.trans (hb5.mono HX.out.drew.size)); clear hb5)
      | (go_at_call 14; (with_reducible refine (HC1.out _ (by first | exact HX.out | exact HX.out.drew)).mono ?_); intro e v1 he5; obtain ⟨pv, rfl, hpx, hb5⟩ := he5.px2; have Pc0 := cell_below hb5 Pc0; have Pc1 := cell_below hb5 Pc1; have Fc0 := cell_below hb5 Fc0; have Fc1 := cell_below hb5 Fc1; have HX : Hid (Below w5.heap.size w5 v1) := Lib.hid (by first | exact HX.out.trans (hb5.mono HX.out.size) | exact HX.out.drew.trans (hb5.mono HX.out.drew.size)); have HPX := Lib.hid (hpx.mono (Nat.zero_le _)); (try (have HDX := Lib.hid (HDX.out.below hb5))); clear hb5 hpx he5)
      | (go_at_call 15; (with_reducible refine (HC2.out _ (by first | exact HX.out | exact HX.out.drew)).mono ?_); rintro e v2 ⟨hb5, dx, rfl, hdx⟩; have Pc0 := cell_below hb5 Pc0; have Pc1 := cell_below hb5 Pc1; have Fc0 := cell_below hb5 Fc0; have Fc1 := cell_below hb5 Fc1; have HX : Hid (Below w5.heap.size w5 v2) := Lib.hid (by first | exact HX.out.trans (hb5.mono HX.out.size) | exact HX.out.drew.trans (hb5.mono HX.out.drew.size)); have HDX := Lib.hid (hdx.mono (Nat.zero_le _)); (try (have HPX := Lib.hid (HPX.out.below hb5))); clear hb5 hdx)
      | (go_at_call 13; refine (same_bug (by first | exact HPX.out | exact HPX.out.below (Below.drew (Below.refl _ _))) (by first | exact HDX.out | exact HDX.out.below (Below.drew (Below.refl _ _))) chkT_good (HE1.out _ (by first | exact HX.out | exact HX.out.drew)).errT).mono ?_; rintro e v3 ⟨rfl, hb5⟩; have Pc0 := cell_below hb5 Pc0; have Pc1 := cell_below hb5 Pc1; have Fc0 := cell_below hb5 Fc0; have Fc1 := cell_below hb5 Fc1; have HX : Hid (Below w5.heap.size w5 v3) := Lib.hid (by first | exact HX.out.trans (hb5.mono HX.out.size) | exact HX.out.drew.trans (hb5.mono HX.out.drew.size)); clear hb5))
    all_goals
      go_wp2_with fail
      go_ret
      exact ⟨rfl, HB5.out.trans ((by first | exact HX.out | exact HX.out.drew : Below w5.heap.size w5 _).mono HB5.out.size)⟩
  | ok s =>
    rw [hp] at he
    dsimp only at he
    subst he
    have HB3 := Lib.hid (HB2.out.trans (hb3.mono HB2.out.size))
    have HP3 := Lib.hid (HP2.out.below hb3)
    have hs3 := hb3.size
    clear hb3 Pc0 Pc1
    have Pc0 : w3.cell? ⟨W.heap.size, 0, none⟩ = some (.int .i64 g0.n) := HP3.out.cell 0
    have Pc1 : w3.cell? ⟨W.heap.size, 1, none⟩ = some (.slice A0 n kk0) := HP3.out.cell 1
    go_upto_region 4 with fail
    go_wp2_with fail
    refine (HDP.out w3 HB3.out).mono ?_
    rintro e w4 ⟨hb4, he⟩
    rw [hp] at he
    dsimp only at he
    subst he
    clear hp
    unfold errV zX
    have HB4 := Lib.hid (HB3.out.trans (hb4.mono HB3.out.size))
    have HP4 := Lib.hid (HP3.out.below hb4)
    have hs4 := hb4.size
    clear hb4 Pc0 Pc1
    have hb5 := (Below.refl w4.heap.size w4).alloc (Nat.le_refl _) (.cells #[.int .i64 0, .slice none 0 0] 32)
    have hx5 := cells_new w4 #[.int .i64 0, .slice none 0 0] 32
    have HB5 := Lib.hid (HB4.out.trans (hb5.mono HB4.out.size))
    have HP5 := Lib.hid (HP4.out.below hb5)
    have hs5 := hb5.size
    clear hb5
    have HF5 := Lib.hid hx5
    clear hx5
    go_upto_region 5 with fail
    generalize w4.alloc (.cells #[.int .i64 0, .slice none 0 0] 32) = w5 at *
    have Pc0 : w5.cell? ⟨W.heap.size, 0, none⟩ = some (.int .i64 g0.n) := HP5.out.cell 0
    have Pc1 : w5.cell? ⟨W.heap.size, 1, none⟩ = some (.slice A0 n kk0) := HP5.out.cell 1
    have Fc0 : w5.cell? ⟨w4.heap.size, 0, none⟩ = some (.int .i64 0) := HF5.out.cell 0
    have Fc1 : w5.cell? ⟨w4.heap.size, 1, none⟩ = some (.slice none 0 0) := HF5.out.cell 1
    have HS1 : Hid (∀ w, Below w5.heap.size w5 w → Calls Tryz.prog 13 #[.nilIface, .agg #[.int .i64 0, .slice none 0 0]] w (BoolBelow true w)) := Lib.hid (fun w hb => same_bug (bug := none) (w := w) (v := .nilIface) (x := zX) (base := 0) (base' := 0) rfl rfl (fun p hp => by cases hp) (HW.out.below (HB5.out.trans (hb.mono HB5.out.size))).errT)
    have HC1 : Hid (∀ w, Below w5.heap.size w5 w → Calls Tryz.prog 14 #[.agg #[.int .i64 g0.n, .slice A0 n kk0]] w (ErrProg (chkT g0) w)) := Lib.hid (fun w hb => HCK.out w (HB5.out.trans (hb.mono HB5.out.size)))
    have HC2 : Hid (∀ w, Below w5.heap.size w5 w → Calls Tryz.prog 15 #[.agg #[.int .i64 g0.n, .slice A0 n kk0]] w (ErrAt (chkT g0) w)) := Lib.hid (fun w hb => HDC.out w (HB5.out.trans (hb.mono HB5.out.size)))
    have HE1 : Hid (∀ w, Below w5.heap.size w5 w → Env w) := Lib.hid (fun w hb => HW.out.below (HB5.out.trans (hb.mono HB5.out.size)))
    have HX : Hid (Below w5.heap.size w5 w5) := Lib.hid (Below.refl _ _)
    have hse : ((toB s).toList == (toB s).toList) = true := beq_self_eq_true _
    go_upto_region 5 with fail
    go_region_held3 (fun w' => (w'.cell? ⟨W.heap.size, 0, none⟩ = some (.int .i64 g0.n) ∧ w'.cell? ⟨W.heap.size, 1, none⟩ = some (.slice A0 n kk0)) ∧ w'.cell? ⟨w4.heap.size, 0, none⟩ = some (.int .i64 0) ∧ w'.cell? ⟨w4.heap.size, 1, none⟩ = some (.slice none 0 0)) (first | with_reducible exact ⟨⟨Pc0, Pc1⟩, Fc0, Fc1⟩ | go_keep) (first
      | (go_at_call 13; (with_reducible refine (HS1.out _ (by first | exact HX.out | exact HX.out.drew)).mono ?_); rintro e v0 ⟨rfl, hb5⟩; have Pc0 := cell_below hb5 Pc0; have Pc1 := cell_below hb5 Pc1; have Fc0 := cell_below hb5 Fc0; have Fc1 := cell_below hb5 Fc1; have HX : Hid (Below w5.heap.size w5 v0) := Lib.hid (by first | exact HX.out.trans (hb5.mono HX.out.size) | exact HX.out.drew.trans (hb5.mono HX.out.drew.size)); clear hb5)
      | (go_at_call 14; (with_reducible refine (HC1.out _ (by first | exact HX.out | exact HX.out.drew)).mono ?_); intro e v1 he5; obtain ⟨pv, rfl, hpx, hb5⟩ := he5.px2; have Pc0 := cell_below hb5 Pc0; have Pc1 := cell_below hb5 Pc1; have Fc0 := cell_below hb5 Fc0; have Fc1 := cell_below hb5 Fc1; have HX : Hid (Below w5.heap.size w5 v1) := Lib.hid (by first | exact HX.out.trans (hb5.mono HX.out.size) | exact HX.out.drew.trans (hb5.mono HX.out.drew.size)); have HPX := Lib.hid (hpx.mono (Nat.zero_le _)); (try (have HDX := Lib.hid (HDX.out.below hb5))); clear hb5 hpx he5)
      | (go_at_call 15; (with_reducible refine (HC2.out _ (by first | exact HX.out | exact HX.out.drew)).mono ?_); rintro e v2 ⟨hb5, dx, rfl, hdx⟩; have Pc0 := cell_below hb5 Pc0; have Pc1 := cell_below hb5 Pc1; have Fc0 := cell_below hb5 Fc0; have Fc1 := cell_below hb5 Fc1; have HX : Hid (Below w5.heap.size w5 v2) := Lib.hid (by first | exact HX.out.trans (hb5.mono HX.out.size) | exact HX.out.drew.trans (hb5.mono HX.out.drew.size)); have HDX := Lib.hid (hdx.mono (Nat.zero_le _)); (try (have HPX := Lib.hid (HPX.out.below hb5))); clear hb5 hdx)
      | (go_at_call 13; refine (same_bug (by first | exact HPX.out | exact HPX.out.below (Below.drew (Below.refl _ _))) (by first | exact HDX.out | exact HDX.out.below (Below.drew (Below.refl _ _))) chkT_good (HE1.out _ (by first | exact HX.out | exact HX.out.drew)).errT).mono ?_; rintro e v3 ⟨rfl, hb5⟩; have Pc0 := cell_below hb5 Pc0; have Pc1 := cell_below hb5 Pc1; have Fc0 := cell_below hb5 Fc0; have Fc1 := cell_below hb5 Fc1; have HX : Hid (Below w5.heap.size w5 v3) := Lib.hid (by first | exact HX.out.trans (hb5.mono HX.out.size) | exact HX.out.drew.trans (hb5.mono HX.out.drew.size)); clear hb5))
    all_goals
      go_wp2_with fail
      go_ret
      exact ⟨rfl, HB5.out.trans ((by first | exact HX.out | exact HX.out.drew : Below w5.heap.size w5 _).mono HB5.out.size)⟩
set_option maxRecDepth 100000 in
set_option maxHeartbeats 16000000 in
theorem GtextThere_walk (A0 : Option Addr) (kk0 : Nat) (g0 : GrT) (W : World) (rd0 : RdA W A0 g0.arcs.length g0.arcs) (sh0 : g0.arcs.length * 24 ≤ 140737488351232) (hw : Env W) :
    Calls Tryz.prog 5 #[.agg #[.int .i64 g0.n, .slice A0 g0.arcs.length kk0]] W (BoolBelow true W) := by
  have HRD := Lib.hid rd0
  have HW := Lib.hid hw
  obtain ⟨n, hn⟩ : ∃ n, g0.arcs.length = n := ⟨_, rfl⟩
  have HN := Lib.hid hn
  have HPR := Lib.hid (fun w (hb : Below W.heap.size W w) => Print_any g0 A0 kk0 w (rd0.below hb) (by omega) (hw.below hb).tab)
  have HDP := Lib.hid (fun w (hb : Below W.heap.size W w) => DocPrint_any g0 A0 kk0 w (rd0.below hb) (by omega) (hw.below hb).tab)
  have HCK := Lib.hid (fun w (hb : Below W.heap.size W w) => GCheck_any g0 A0 kk0 w (rd0.below hb) (by omega))
  have HDC := Lib.hid (fun w (hb : Below W.heap.size W w) => DocCheck_any g0 A0 kk0 w (rd0.below hb) (by omega))
  rw [hn] at HRD HPR HDP HCK HDC sh0 ⊢
  clear hn rd0 hw
  have HB1 := Lib.hid (law_start (n := g0.n) (A := A0) (m := n) (kk := kk0) W).1
  have HP1 := Lib.hid (law_start (n := g0.n) (A := A0) (m := n) (kk := kk0) W).2
  go_enter Tryz.func5, Tryz.ntmps5
  go_upto_region 1 with fail
  generalize W.alloc (.cells #[.int .i64 g0.n, .slice A0 n kk0] 24) = w1 at *
  go_wp2_with fail
  refine (awake_any w1 (HW.out.below HB1.out)).mono ?_
  rintro e w2 ⟨rfl, hb2⟩
  have HB2 := Lib.hid (HB1.out.trans (hb2.mono HB1.out.size))
  have HP2 := Lib.hid (HP1.out.below hb2)
  have hs2 := hb2.size
  clear hb2
  have Pc0 : w2.cell? ⟨W.heap.size, 0, none⟩ = some (.int .i64 g0.n) := HP2.out.cell 0
  have Pc1 : w2.cell? ⟨W.heap.size, 1, none⟩ = some (.slice A0 n kk0) := HP2.out.cell 1
  go_upto_region 3 with fail
  go_wp2_with fail
  refine (HPR.out w2 HB2.out).mono ?_
  rintro e w3 ⟨hb3, he⟩
  cases hc : chkT g0 with
  | some b =>
    have hp : printT g0 = .error b := by unfold printT; rw [hc]
    rw [hp] at he
    obtain ⟨v, rfl, hpx⟩ := he
    obtain ⟨c, q⟩ := b
    cases q with
    | none =>
      obtain rfl : v = .iface 49 (.int .i64 c) := hpx
      clear hp hc
      have HB3 := Lib.hid (HB2.out.trans (hb3.mono HB2.out.size))
      have HP3 := Lib.hid (HP2.out.below hb3)
      have hs3 := hb3.size
      clear hb3 Pc0 Pc1
      go_wp2_with fail
      go_ret
      exact ⟨rfl, HB3.out⟩
    | some q =>
      obtain ⟨kx, ax⟩ := q
      obtain ⟨r, rfl, -, -⟩ := hpx
      clear hp hc
      have HB3 := Lib.hid (HB2.out.trans (hb3.mono HB2.out.size))
      have HP3 := Lib.hid (HP2.out.below hb3)
      have hs3 := hb3.size
      clear hb3 Pc0 Pc1
      go_wp2_with fail
      go_ret
      exact ⟨rfl, HB3.out⟩
  | none =>
    have hp : printT g0 = .ok (printB g0) := by unfold printT; rw [hc]
    rw [hp] at he
    dsimp only at he
    subst he
    clear hp
    have hss : (toB (printB g0)).size = (printB g0).length := toB_size _
    by_cases hl : 1048576 < (printB g0).length
    · have q0 : decide ((1048576 : Int) < ((toB (printB g0)).size : Int)) = true := decide_eq_true (by omega)
      have q0' : decide (1048576 < (toB (printB g0)).size) = true := decide_eq_true (by omega)
      clear hss hl
      generalize toB (printB g0) = S at *
      have HB3 := Lib.hid (HB2.out.trans (hb3.mono HB2.out.size))
      have HP3 := Lib.hid (HP2.out.below hb3)
      have hs3 := hb3.size
      clear hb3 Pc0 Pc1
      go_wp2_with fail
      go_ret
      exact ⟨rfl, HB3.out⟩
    · have q0 : decide ((1048576 : Int) < ((toB (printB g0)).size : Int)) = false := decide_eq_false (by omega)
      have q0' : decide (1048576 < (toB (printB g0)).size) = false := decide_eq_false (by omega)
      have HB3 := Lib.hid (HB2.out.trans (hb3.mono HB2.out.size))
      have HP3 := Lib.hid (HP2.out.below hb3)
      have hs3 := hb3.size
      clear hb3 Pc0 Pc1
      have hpp : parseT (toB (printB g0)).data.toList = .ok g0 := parse_print hc (by omega)
      have HPP := Lib.hid hpp
      have hsz : (toB (printB g0)).size ≤ 140737488355328 := by omega
      clear hpp hss
      generalize toB (printB g0) = S at *
      have HPS := Lib.hid (Parse_any S w3 hsz (HW.out.below HB3.out).maxL (HW.out.below HB3.out).rng)
      go_upto_region 6 with fail
      go_wp2_with fail
      refine HPS.out.mono ?_
      rintro e w4 ⟨hb4, he⟩
      rw [HPP.out] at he
      obtain ⟨A4, k4, rfl, ho⟩ := he
      rw [HN.out] at ho ⊢
      have HO4 := Lib.hid ho
      clear ho HPS
      have HB4 := Lib.hid (HB3.out.trans (hb4.mono HB3.out.size))
      have HP4 := Lib.hid (HP3.out.below hb4)
      have hs4 := hb4.size
      clear hb4
      have hb5 := (Below.refl w4.heap.size w4).alloc (Nat.le_refl _) (.cells #[.int .i64 g0.n, .slice A4 n k4] 24)
      have hx5 := cells_new w4 #[.int .i64 g0.n, .slice A4 n k4] 24
      have HB5 := Lib.hid (HB4.out.trans (hb5.mono HB4.out.size))
      have HP5 := Lib.hid (HP4.out.below hb5)
      have HO5 := Lib.hid (HO4.out.below hb5)
      have hs5 := hb5.size
      clear hb5
      have HQ5 := Lib.hid hx5
      clear hx5
      go_upto_region 7 with fail
      generalize w4.alloc (.cells #[.int .i64 g0.n, .slice A4 n k4] 24) = w5 at *
      have Pc0 : w5.cell? ⟨W.heap.size, 0, none⟩ = some (.int .i64 g0.n) := HP5.out.cell 0
      have Pc1 : w5.cell? ⟨W.heap.size, 1, none⟩ = some (.slice A0 n kk0) := HP5.out.cell 1
      have Qc0 : w5.cell? ⟨w4.heap.size, 0, none⟩ = some (.int .i64 g0.n) := HQ5.out.cell 0
      have Qc1 : w5.cell? ⟨w4.heap.size, 1, none⟩ = some (.slice A4 n k4) := HQ5.out.cell 1
      have HS := Lib.hid (Same03_eq A0 A4 n kk0 k4 g0.n g0.arcs w5 (HRD.out.below HB5.out) (HO5.out.rd encA_len rfl) (by omega))
      go_wp2_with fail
      refine HS.out.mono ?_
      rintro e w6 ⟨rfl, hb6⟩
      clear HS
      have HB6 := Lib.hid (HB5.out.trans (hb6.mono HB5.out.size))
      have HP6 := Lib.hid (HP5.out.below hb6)
      have HQ6 := Lib.hid (HQ5.out.below hb6)
      have HO6 := Lib.hid (HO5.out.below hb6)
      have hs6 := hb6.size
      clear hb6 Pc0 Pc1 Qc0 Qc1
      have Qc0 : w6.cell? ⟨w4.heap.size, 0, none⟩ = some (.int .i64 g0.n) := HQ6.out.cell 0
      have Qc1 : w6.cell? ⟨w4.heap.size, 1, none⟩ = some (.slice A4 n k4) := HQ6.out.cell 1
      have HC6 := GCheck_any g0 A4 k4 w6 (by rw [HN.out]; exact HO6.out.rd encA_len rfl) (by have := HN.out; omega)
      rw [HN.out] at HC6
      have HC := Lib.hid HC6
      clear HC6
      go_wp2_with fail
      refine HC.out.mono ?_
      rintro e w7 ⟨hb7, he⟩
      rw [hc] at he
      dsimp only at he
      subst he
      have HB7 := Lib.hid (HB6.out.trans (hb7.mono HB6.out.size))
      have HP7 := Lib.hid (HP6.out.below hb7)
      have HQ7 := Lib.hid (HQ6.out.below hb7)
      have HO7 := Lib.hid (HO6.out.below hb7)
      have hs7 := hb7.size
      clear hb7 Qc0 Qc1
      clear hc
      go_wp2_with fail
      go_ret
      exact ⟨rfl, HB7.out⟩
end Go.Proofs.YtngihiebkbheaaaGreatDoor
