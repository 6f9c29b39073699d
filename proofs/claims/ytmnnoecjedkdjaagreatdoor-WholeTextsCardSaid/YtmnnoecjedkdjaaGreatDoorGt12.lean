/- The reader's next arc. -/
import Derived.Test.YtmnnoecjedkdjaaGreatDoorGt11
set_option linter.unusedSimpArgs false
set_option linter.unusedVariables false
namespace Go.Proofs.YtmnnoecjedkdjaaGreatDoor
open Go.RowKit Txt

theorem RangeV.kept {w w' : World} {S : Nat → Prop} (h : RangeV w) (hk : Kept S w w') (hS : ¬ S 1) : RangeV w' := by
  obtain ⟨a, ha⟩ := h
  refine ⟨a, ?_⟩
  rw [World.cell?_of_block (hk.block _ (World.block_lt_of_cell? _ _ ha) hS)]
  exact ha
theorem form_none {r : RowT} {word : Bs} {cnt : Nat} (h : formR r word cnt = none) : r.ws.head? = some word ∧ r.ws.length = cnt := by
  unfold formR at h
  split at h
  · cases h
  · split at h
    · cases h
    · split at h
      · cases h
      · rename_i h1 h2 h3
        exact ⟨by simpa using h1, by omega⟩
theorem rds3 {w : World} {ad : Addr} {x y z : ByteArray} (h : RdS w (some ad) 3 [x, y, z]) : w.cell? ad = some (.string x) ∧ w.cell? ⟨ad.block, ad.off + 1, none⟩ = some (.string y) ∧ w.cell? ⟨ad.block, ad.off + 2, none⟩ = some (.string z) := by
  obtain ⟨_, h0, c0⟩ := h.at_ (j := 0) (by decide)
  obtain ⟨_, h1, c1⟩ := h.at_ (j := 1) (by decide)
  obtain ⟨_, h2, c2⟩ := h.at_ (j := 2) (by decide)
  injection h0 with h0
  injection h1 with h1
  injection h2 with h2
  subst h0 h1 h2
  exact ⟨c0 0 _ rfl, c1 0 _ rfl, c2 0 _ rfl⟩
abbrev arcV (a : ArcT) : Value := .agg #[.int .i64 a.f, .int .i64 a.t, .int .i64 a.w]
def ArcIs (W0 : World) (R : Nat) (L : List RowV) (ln : Int) (n : Nat) (W : World) (e : Ending) (w' : World) : Prop := Kept (fun k => k = R) W w' ∧ match L with
  | [] => e = .returned (.tuple #[arcV ⟨0, 0, 0⟩, .iface 27 (.int .i64 5)]) ∧ RdrAt W0 R [] ln w'
  | x :: L' => RdrAt W0 R L' x.line w' ∧ match arcR x.t n with
    | .error c => e = .returned (.tuple #[arcV ⟨0, 0, 0⟩, .iface 27 (.int .i64 c)])
    | .ok a => e = .returned (.tuple #[arcV a, .nilIface])
set_option maxRecDepth 100000 in
set_option maxHeartbeats 4000000 in
theorem arc_any (R : Nat) (L : List RowV) (ln : Int) (n : Nat) (W0 W : World) (hn : n ≤ 65536) (hlL : L.length ≤ 1048577) (hr : RdrAt W0 R L ln W) (hv : RangeV W) (hR : R ≠ 1) (hwl : ∀ x ∈ L, ∀ y ∈ x.ws, y.length ≤ 1048576) :
    Calls Tryz.prog 53 #[.pointer (some ⟨R, 0, none⟩), .int .i64 (n : Int)] W (ArcIs W0 R L ln n W) := by
  have hRX : R < W.heap.size := by
    obtain ⟨_, A, k, hc, _⟩ := hr
    exact hc.lt
  have hWX : W0.heap.size ≤ W.heap.size := hr.kept.size
  have hb0 := (Below.refl W.heap.size W).alloc (Nat.le_refl _) (.cells #[.int .i64 0, .int .i64 0, .int .i64 0] 56)
  have hc0 := cells_new W #[.int .i64 0, .int .i64 0, .int .i64 0] 56
  have hnx := next_any R L ln ⟨#[97, 114, 99]⟩ 4 W0 (W.alloc (.cells #[.int .i64 0, .int .i64 0, .int .i64 0] 56)) (by omega) hlL (hr.below hb0)
  have HNX := Lib.hid hnx
  have HC0 := Lib.hid hc0
  have HB0 := Lib.hid hb0
  have HV := Lib.hid hv
  have HWL := Lib.hid hwl
  clear hnx hc0 hb0 hv hwl
  have e1 : IntKind.i64.wrap ((n : Int) - 1) = (n : Int) - 1 := by rw [IntKind.wrap_i64]; omega
  go_enter Tryz.func53, Tryz.ntmps53
  refine wp_named ?_
  intro Q0 hQ0
  have HQ0 := Lib.hid hQ0
  clear hQ0
  go_wp2_with fail
  --@WALK
  refine HNX.out.mono ?_
  rintro e w1 ⟨hk, hm⟩
  have HK1 : Hid (Kept (fun k => k = R) W w1) := Lib.hid ((Kept.of_below HB0.out).trans hk)
  have HC1 := Lib.hid (hk.cells HC0.out (show ¬ W.heap.size = R by omega))
  clear hk HNX HC0 HB0
  cases L with
  | nil =>
    obtain ⟨rfl, hr1⟩ := hm
    have HR1 := Lib.hid hr1
    clear hr1
    have c0 : w1.cell? ⟨W.heap.size, 0, none⟩ = some (.int .i64 0) := HC1.out.cell 0
    have c1 : w1.cell? ⟨W.heap.size, 1, none⟩ = some (.int .i64 0) := HC1.out.cell 1
    have c2 : w1.cell? ⟨W.heap.size, 2, none⟩ = some (.int .i64 0) := HC1.out.cell 2
    have f0 := HC1.out.frozen 0
    have f1 := HC1.out.frozen 1
    have f2 := HC1.out.frozen 2
    have hfin := ((HC1.out.set_ 0 (.int .i64 0)).set_ 1 (.int .i64 0)).set_ 2 (.int .i64 0)
    simp only [List.setIfInBounds_toArray, List.set_cons_zero, List.set_cons_succ] at hfin
    have hkz : Kept (fun k => k = W.heap.size) w1 (((w1.setCell ⟨W.heap.size, 0, none⟩ (.int .i64 0)).setCell ⟨W.heap.size, 1, none⟩ (.int .i64 0)).setCell ⟨W.heap.size, 2, none⟩ (.int .i64 0)) := (((Kept.refl (fun k => k = W.heap.size) w1).set_ (p := ⟨W.heap.size, 0, none⟩) (.inl rfl) _).set_ (p := ⟨W.heap.size, 1, none⟩) (.inl rfl) _).set_ (p := ⟨W.heap.size, 2, none⟩) (.inl rfl) _
    have HFIN := Lib.hid hfin
    have HKZ := Lib.hid hkz
    clear hfin hkz
    go_wp2_with fail
    generalize ((w1.setCell ⟨W.heap.size, 0, none⟩ (.int .i64 0)).setCell ⟨W.heap.size, 1, none⟩ (.int .i64 0)).setCell ⟨W.heap.size, 2, none⟩ (.int .i64 0) = wz at *
    have r0 : wz.cell? ⟨W.heap.size, 0, none⟩ = some (.int .i64 0) := HFIN.out.cell 0
    have r1 : wz.cell? ⟨W.heap.size, 1, none⟩ = some (.int .i64 0) := HFIN.out.cell 1
    have r2 : wz.cell? ⟨W.heap.size, 2, none⟩ = some (.int .i64 0) := HFIN.out.cell 2
    have hrz := HR1.out.step HKZ.out (fun k hk => by subst hk; exact ⟨by omega, hWX⟩)
    have hkw : Kept (fun k => k = R) W wz := HK1.out.trans2 HKZ.out (fun k hk => .inr (by rw [hk]; exact Nat.le_refl _))
    have HEND : Hid (ArcIs W0 R [] ln n W (.returned (.tuple #[arcV ⟨0, 0, 0⟩, .iface 27 (.int .i64 5)])) wz) := Lib.hid (⟨hkw, rfl, hrz⟩)
    rw [HQ0.out]
    refine bodyPost_ret (v := .tuple #[arcV ⟨0, 0, 0⟩, .iface 27 (.int .i64 5)]) ?hres rfl HEND.out
    case hres => simp [results, Tryz.results53, go_sem, r0, r1, r2]
  | cons x L' =>
    obtain ⟨hr1, hm⟩ := hm
    have HR1 := Lib.hid hr1
    clear hr1
    have hform : formR x.t arcW 4 = formR x.t [97, 114, 99] 4 := rfl
    cases hfo : formR x.t [97, 114, 99] 4 with
    | some c =>
      have hm' : e = .returned (.tuple #[.slice none 0 0, .iface 27 (.int .i64 c)]) := by
        have h := hm
        rw [hfo] at h
        exact h
      clear hm
      subst hm'
      have hA : arcR x.t n = .error c := by unfold arcR; rw [hform, hfo]
      have HA := Lib.hid hA
      clear hA hform hfo
      have c0 : w1.cell? ⟨W.heap.size, 0, none⟩ = some (.int .i64 0) := HC1.out.cell 0
      have c1 : w1.cell? ⟨W.heap.size, 1, none⟩ = some (.int .i64 0) := HC1.out.cell 1
      have c2 : w1.cell? ⟨W.heap.size, 2, none⟩ = some (.int .i64 0) := HC1.out.cell 2
      have f0 := HC1.out.frozen 0
      have f1 := HC1.out.frozen 1
      have f2 := HC1.out.frozen 2
      have hfin := ((HC1.out.set_ 0 (.int .i64 0)).set_ 1 (.int .i64 0)).set_ 2 (.int .i64 0)
      simp only [List.setIfInBounds_toArray, List.set_cons_zero, List.set_cons_succ] at hfin
      have hkz : Kept (fun k => k = W.heap.size) w1 (((w1.setCell ⟨W.heap.size, 0, none⟩ (.int .i64 0)).setCell ⟨W.heap.size, 1, none⟩ (.int .i64 0)).setCell ⟨W.heap.size, 2, none⟩ (.int .i64 0)) := (((Kept.refl (fun k => k = W.heap.size) w1).set_ (p := ⟨W.heap.size, 0, none⟩) (.inl rfl) _).set_ (p := ⟨W.heap.size, 1, none⟩) (.inl rfl) _).set_ (p := ⟨W.heap.size, 2, none⟩) (.inl rfl) _
      have HFIN := Lib.hid hfin
      have HKZ := Lib.hid hkz
      clear hfin hkz
      go_wp2_with fail
      generalize ((w1.setCell ⟨W.heap.size, 0, none⟩ (.int .i64 0)).setCell ⟨W.heap.size, 1, none⟩ (.int .i64 0)).setCell ⟨W.heap.size, 2, none⟩ (.int .i64 0) = wz at *
      have r0 : wz.cell? ⟨W.heap.size, 0, none⟩ = some (.int .i64 0) := HFIN.out.cell 0
      have r1 : wz.cell? ⟨W.heap.size, 1, none⟩ = some (.int .i64 0) := HFIN.out.cell 1
      have r2 : wz.cell? ⟨W.heap.size, 2, none⟩ = some (.int .i64 0) := HFIN.out.cell 2
      have hrz := HR1.out.step HKZ.out (fun k hk => by subst hk; exact ⟨by omega, hWX⟩)
      have hkw : Kept (fun k => k = R) W wz := HK1.out.trans2 HKZ.out (fun k hk => .inr (by rw [hk]; exact Nat.le_refl _))
      have HEND : Hid (ArcIs W0 R (x :: L') ln n W (.returned (.tuple #[arcV ⟨0, 0, 0⟩, .iface 27 (.int .i64 c)])) wz) := Lib.hid (⟨hkw, hrz, by rw [HA.out]⟩)
      rw [HQ0.out]
      refine bodyPost_ret (v := .tuple #[arcV ⟨0, 0, 0⟩, .iface 27 (.int .i64 c)]) ?hres rfl HEND.out
      case hres => simp [results, Tryz.results53, go_sem, r0, r1, r2]
    | none =>
      obtain ⟨A, k, hm', hrs⟩ : ∃ A k, e = .returned (.tuple #[.slice A (x.ws.length - 1) k, .nilIface]) ∧ RdS w1 A (x.ws.length - 1) ((x.ws.drop 1).map toB) := by
        have h := hm
        rw [hfo] at h
        exact h
      clear hm
      obtain ⟨hh, hl4⟩ := form_none hfo
      obtain ⟨a0, a1, a2, a3, hws⟩ : ∃ a0 a1 a2 a3, x.ws = [a0, a1, a2, a3] := by
        have hl : x.ws.length = 4 := hl4
        match h : x.ws, hl with
        | [a0, a1, a2, a3], _ => exact ⟨a0, a1, a2, a3, rfl⟩
      have hA : arcR x.t n = match numE a1 ((n : Int) - 1) 7 with
        | .error c => .error c
        | .ok a => match numE a2 ((n : Int) - 1) 7 with
          | .error c => .error c
          | .ok b => match numE a3 2147483647 8 with
            | .error c => .error c
            | .ok w => .ok ⟨a, b, w⟩ := by
        have hws' : x.t.ws = [a0, a1, a2, a3] := hws
        unfold arcR
        rw [hform, hfo, hws']
        rfl
      have hz1 : a1.length ≤ 1048576 := HWL.out x (by simp) a1 (by rw [hws]; simp)
      have hz2 : a2.length ≤ 1048576 := HWL.out x (by simp) a2 (by rw [hws]; simp)
      have hz3 : a3.length ≤ 1048576 := HWL.out x (by simp) a3 (by rw [hws]; simp)
      rw [hws] at hm' hrs
      simp only [List.length_cons, List.length_nil, List.drop_succ_cons, List.drop_zero, List.map_cons, List.map_nil] at hm' hrs
      subst hm'
      have HA := Lib.hid hA
      clear hA hform hfo hh hl4 hws
      obtain ⟨ad, rfl, hbX⟩ : ∃ ad, A = some ad ∧ ad.block < w1.heap.size := by
        obtain ⟨ad, hAd, cc⟩ := hrs.at_ (j := 0) (by decide)
        have s0 := cc 0 _ rfl
        have := World.block_lt_of_cell? _ _ s0
        rw [block_of_add] at this
        exact ⟨ad, hAd, this⟩
      have HRS := Lib.hid hrs
      clear hrs
      have hk2 : Kept (fun _ => False) w1 (w1.alloc (.cells #[.int .i64 0, .int .i64 0, .int .i64 0] 56)) := (Kept.refl _ _).alloc _
      have hx2 := cells_new w1 #[.int .i64 0, .int .i64 0, .int .i64 0] 56
      have HK2 := Lib.hid hk2
      have HX2 := Lib.hid hx2
      clear hk2 hx2
      obtain ⟨s0, s1, s2⟩ := rds3 (rd_kept HRS.out HK2.out (fun _ _ h => h))
      go_wp2_with fail

      have hv0 : RangeV (w1.alloc (.cells #[.int .i64 0, .int .i64 0, .int .i64 0] 56)) := (HV.out.kept HK1.out (fun h => hR h.symm)).kept HK2.out (fun h => h)
      refine (number_any (toB a1) ((n : Int) - 1) 7 _ (by rw [toB_size]; omega) (by omega) (by omega) hv0).mono ?_
      rintro e w3 ⟨hb, he⟩
      rw [toB_list] at he
      have HK3a : Hid (Kept (fun _ => False) w1 w3) := Lib.hid (HK2.out.trans (.of_below hb))
      have HX3a := Lib.hid (HX2.out.below hb)
      clear hb hv0
      have x0 := HX3a.out.cell 0
      have fx0 := HX3a.out.frozen 0
      cases hN0 : numE a1 ((n : Int) - 1) 7 with
      | error c =>
        rw [hN0] at he HA
        dsimp only at he HA
        subst he
        have hks : Kept (fun _ => False) w1 (w3.setCell ⟨w1.heap.size, 0, none⟩ (.int .i64 0)) := HK3a.out.set_ (p := ⟨w1.heap.size, 0, none⟩) (.inr (Nat.le_refl _)) _
        have hrs2 := HR1.out.step hks (fun _ h => h.elim)
        have HRSS := Lib.hid hrs2
        have HKWS : Hid (Kept (fun k => k = R) W (w3.setCell ⟨w1.heap.size, 0, none⟩ (.int .i64 0))) := Lib.hid (HK1.out.trans2 hks (fun _ h => h.elim))
        have HCS := Lib.hid (hks.cells HC1.out (fun h => h))
        clear hks hrs2
        have c0 : (w3.setCell ⟨w1.heap.size, 0, none⟩ (.int .i64 0)).cell? ⟨W.heap.size, 0, none⟩ = some (.int .i64 0) := HCS.out.cell 0
        have c1 : (w3.setCell ⟨w1.heap.size, 0, none⟩ (.int .i64 0)).cell? ⟨W.heap.size, 1, none⟩ = some (.int .i64 0) := HCS.out.cell 1
        have c2 : (w3.setCell ⟨w1.heap.size, 0, none⟩ (.int .i64 0)).cell? ⟨W.heap.size, 2, none⟩ = some (.int .i64 0) := HCS.out.cell 2
        have f0 := HCS.out.frozen 0
        have f1 := HCS.out.frozen 1
        have f2 := HCS.out.frozen 2
        have hfin := ((HCS.out.set_ 0 (.int .i64 0)).set_ 1 (.int .i64 0)).set_ 2 (.int .i64 0)
        simp only [List.setIfInBounds_toArray, List.set_cons_zero, List.set_cons_succ] at hfin
        have hkz : Kept (fun k => k = W.heap.size) (w3.setCell ⟨w1.heap.size, 0, none⟩ (.int .i64 0)) ((((w3.setCell ⟨w1.heap.size, 0, none⟩ (.int .i64 0)).setCell ⟨W.heap.size, 0, none⟩ (.int .i64 0)).setCell ⟨W.heap.size, 1, none⟩ (.int .i64 0)).setCell ⟨W.heap.size, 2, none⟩ (.int .i64 0)) := (((Kept.refl (fun k => k = W.heap.size) (w3.setCell ⟨w1.heap.size, 0, none⟩ (.int .i64 0))).set_ (p := ⟨W.heap.size, 0, none⟩) (.inl rfl) _).set_ (p := ⟨W.heap.size, 1, none⟩) (.inl rfl) _).set_ (p := ⟨W.heap.size, 2, none⟩) (.inl rfl) _
        have HFIN := Lib.hid hfin
        have HKZ := Lib.hid hkz
        clear hfin hkz
        go_wp2_with fail
        generalize (((w3.setCell ⟨w1.heap.size, 0, none⟩ (.int .i64 0)).setCell ⟨W.heap.size, 0, none⟩ (.int .i64 0)).setCell ⟨W.heap.size, 1, none⟩ (.int .i64 0)).setCell ⟨W.heap.size, 2, none⟩ (.int .i64 0) = wz at *
        have r0 : wz.cell? ⟨W.heap.size, 0, none⟩ = some (.int .i64 0) := HFIN.out.cell 0
        have r1 : wz.cell? ⟨W.heap.size, 1, none⟩ = some (.int .i64 0) := HFIN.out.cell 1
        have r2 : wz.cell? ⟨W.heap.size, 2, none⟩ = some (.int .i64 0) := HFIN.out.cell 2
        have hrz := HRSS.out.step HKZ.out (fun k hk => by subst hk; exact ⟨by omega, hWX⟩)
        have hkw : Kept (fun k => k = R) W wz := HKWS.out.trans2 HKZ.out (fun k hk => .inr (by rw [hk]; exact Nat.le_refl _))
        have HEND : Hid (ArcIs W0 R (x :: L') ln n W (.returned (.tuple #[arcV ⟨0, 0, 0⟩, .iface 27 (.int .i64 c)])) wz) := Lib.hid (⟨hkw, hrz, by rw [HA.out]⟩)
        rw [HQ0.out]
        refine bodyPost_ret (v := .tuple #[arcV ⟨0, 0, 0⟩, .iface 27 (.int .i64 c)]) ?hres rfl HEND.out
        case hres => simp [results, Tryz.results53, go_sem, r0, r1, r2]
      | ok v0 =>
        rw [hN0] at he HA
        dsimp only at he HA
        subst he
        have hxs := HX3a.out.set_ 0 (.int .i64 (v0 : Int))
        simp only [List.setIfInBounds_toArray, List.set_cons_zero, List.set_cons_succ] at hxs
        have hks : Kept (fun _ => False) w1 (w3.setCell ⟨w1.heap.size, 0, none⟩ (.int .i64 (v0 : Int))) := HK3a.out.set_ (p := ⟨w1.heap.size, 0, none⟩) (.inr (Nat.le_refl _)) _
        have HK3 := Lib.hid hks
        have HX3 := Lib.hid hxs
        clear hks hxs
        obtain ⟨s0, s1, s2⟩ := rds3 (rd_kept HRS.out HK3.out (fun _ _ h => h))
        go_wp2_with fail
        have hv1 : RangeV (w3.setCell ⟨w1.heap.size, 0, none⟩ (.int .i64 (v0 : Int))) := (HV.out.kept HK1.out (fun h => hR h.symm)).kept HK3.out (fun h => h)
        refine (number_any (toB a2) ((n : Int) - 1) 7 _ (by rw [toB_size]; omega) (by omega) (by omega) hv1).mono ?_
        rintro e w4 ⟨hb, he⟩
        rw [toB_list] at he
        have HK4a : Hid (Kept (fun _ => False) w1 w4) := Lib.hid (HK3.out.trans (.of_below hb))
        have HX4a := Lib.hid (HX3.out.below hb)
        clear hb hv1
        have x1 := HX4a.out.cell 1
        have fx1 := HX4a.out.frozen 1
        cases hN1 : numE a2 ((n : Int) - 1) 7 with
        | error c =>
          rw [hN1] at he HA
          dsimp only at he HA
          subst he
          have hks : Kept (fun _ => False) w1 (w4.setCell ⟨w1.heap.size, 1, none⟩ (.int .i64 0)) := HK4a.out.set_ (p := ⟨w1.heap.size, 1, none⟩) (.inr (Nat.le_refl _)) _
          have hrs2 := HR1.out.step hks (fun _ h => h.elim)
          have HRSS := Lib.hid hrs2
          have HKWS : Hid (Kept (fun k => k = R) W (w4.setCell ⟨w1.heap.size, 1, none⟩ (.int .i64 0))) := Lib.hid (HK1.out.trans2 hks (fun _ h => h.elim))
          have HCS := Lib.hid (hks.cells HC1.out (fun h => h))
          clear hks hrs2
          have c0 : (w4.setCell ⟨w1.heap.size, 1, none⟩ (.int .i64 0)).cell? ⟨W.heap.size, 0, none⟩ = some (.int .i64 0) := HCS.out.cell 0
          have c1 : (w4.setCell ⟨w1.heap.size, 1, none⟩ (.int .i64 0)).cell? ⟨W.heap.size, 1, none⟩ = some (.int .i64 0) := HCS.out.cell 1
          have c2 : (w4.setCell ⟨w1.heap.size, 1, none⟩ (.int .i64 0)).cell? ⟨W.heap.size, 2, none⟩ = some (.int .i64 0) := HCS.out.cell 2
          have f0 := HCS.out.frozen 0
          have f1 := HCS.out.frozen 1
          have f2 := HCS.out.frozen 2
          have hfin := ((HCS.out.set_ 0 (.int .i64 0)).set_ 1 (.int .i64 0)).set_ 2 (.int .i64 0)
          simp only [List.setIfInBounds_toArray, List.set_cons_zero, List.set_cons_succ] at hfin
          have hkz : Kept (fun k => k = W.heap.size) (w4.setCell ⟨w1.heap.size, 1, none⟩ (.int .i64 0)) ((((w4.setCell ⟨w1.heap.size, 1, none⟩ (.int .i64 0)).setCell ⟨W.heap.size, 0, none⟩ (.int .i64 0)).setCell ⟨W.heap.size, 1, none⟩ (.int .i64 0)).setCell ⟨W.heap.size, 2, none⟩ (.int .i64 0)) := (((Kept.refl (fun k => k = W.heap.size) (w4.setCell ⟨w1.heap.size, 1, none⟩ (.int .i64 0))).set_ (p := ⟨W.heap.size, 0, none⟩) (.inl rfl) _).set_ (p := ⟨W.heap.size, 1, none⟩) (.inl rfl) _).set_ (p := ⟨W.heap.size, 2, none⟩) (.inl rfl) _
          have HFIN := Lib.hid hfin
          have HKZ := Lib.hid hkz
          clear hfin hkz
          go_wp2_with fail
          generalize (((w4.setCell ⟨w1.heap.size, 1, none⟩ (.int .i64 0)).setCell ⟨W.heap.size, 0, none⟩ (.int .i64 0)).setCell ⟨W.heap.size, 1, none⟩ (.int .i64 0)).setCell ⟨W.heap.size, 2, none⟩ (.int .i64 0) = wz at *
          have r0 : wz.cell? ⟨W.heap.size, 0, none⟩ = some (.int .i64 0) := HFIN.out.cell 0
          have r1 : wz.cell? ⟨W.heap.size, 1, none⟩ = some (.int .i64 0) := HFIN.out.cell 1
          have r2 : wz.cell? ⟨W.heap.size, 2, none⟩ = some (.int .i64 0) := HFIN.out.cell 2
          have hrz := HRSS.out.step HKZ.out (fun k hk => by subst hk; exact ⟨by omega, hWX⟩)
          have hkw : Kept (fun k => k = R) W wz := HKWS.out.trans2 HKZ.out (fun k hk => .inr (by rw [hk]; exact Nat.le_refl _))
          have HEND : Hid (ArcIs W0 R (x :: L') ln n W (.returned (.tuple #[arcV ⟨0, 0, 0⟩, .iface 27 (.int .i64 c)])) wz) := Lib.hid (⟨hkw, hrz, by rw [HA.out]⟩)
          rw [HQ0.out]
          refine bodyPost_ret (v := .tuple #[arcV ⟨0, 0, 0⟩, .iface 27 (.int .i64 c)]) ?hres rfl HEND.out
          case hres => simp [results, Tryz.results53, go_sem, r0, r1, r2]
        | ok v1 =>
          rw [hN1] at he HA
          dsimp only at he HA
          subst he
          have hxs := HX4a.out.set_ 1 (.int .i64 (v1 : Int))
          simp only [List.setIfInBounds_toArray, List.set_cons_zero, List.set_cons_succ] at hxs
          have hks : Kept (fun _ => False) w1 (w4.setCell ⟨w1.heap.size, 1, none⟩ (.int .i64 (v1 : Int))) := HK4a.out.set_ (p := ⟨w1.heap.size, 1, none⟩) (.inr (Nat.le_refl _)) _
          have HK4 := Lib.hid hks
          have HX4 := Lib.hid hxs
          clear hks hxs
          obtain ⟨s0, s1, s2⟩ := rds3 (rd_kept HRS.out HK4.out (fun _ _ h => h))
          go_wp2_with fail
          have hv2 : RangeV (w4.setCell ⟨w1.heap.size, 1, none⟩ (.int .i64 (v1 : Int))) := (HV.out.kept HK1.out (fun h => hR h.symm)).kept HK4.out (fun h => h)
          refine (number_any (toB a3) 2147483647 8 _ (by rw [toB_size]; omega) (by omega) (by omega) hv2).mono ?_
          rintro e w5 ⟨hb, he⟩
          rw [toB_list] at he
          have HK5a : Hid (Kept (fun _ => False) w1 w5) := Lib.hid (HK4.out.trans (.of_below hb))
          have HX5a := Lib.hid (HX4.out.below hb)
          clear hb hv2
          have x2 := HX5a.out.cell 2
          have fx2 := HX5a.out.frozen 2
          cases hN2 : numE a3 2147483647 8 with
          | error c =>
            rw [hN2] at he HA
            dsimp only at he HA
            subst he
            have hks : Kept (fun _ => False) w1 (w5.setCell ⟨w1.heap.size, 2, none⟩ (.int .i64 0)) := HK5a.out.set_ (p := ⟨w1.heap.size, 2, none⟩) (.inr (Nat.le_refl _)) _
            have hrs2 := HR1.out.step hks (fun _ h => h.elim)
            have HRSS := Lib.hid hrs2
            have HKWS : Hid (Kept (fun k => k = R) W (w5.setCell ⟨w1.heap.size, 2, none⟩ (.int .i64 0))) := Lib.hid (HK1.out.trans2 hks (fun _ h => h.elim))
            have HCS := Lib.hid (hks.cells HC1.out (fun h => h))
            clear hks hrs2
            have c0 : (w5.setCell ⟨w1.heap.size, 2, none⟩ (.int .i64 0)).cell? ⟨W.heap.size, 0, none⟩ = some (.int .i64 0) := HCS.out.cell 0
            have c1 : (w5.setCell ⟨w1.heap.size, 2, none⟩ (.int .i64 0)).cell? ⟨W.heap.size, 1, none⟩ = some (.int .i64 0) := HCS.out.cell 1
            have c2 : (w5.setCell ⟨w1.heap.size, 2, none⟩ (.int .i64 0)).cell? ⟨W.heap.size, 2, none⟩ = some (.int .i64 0) := HCS.out.cell 2
            have f0 := HCS.out.frozen 0
            have f1 := HCS.out.frozen 1
            have f2 := HCS.out.frozen 2
            have hfin := ((HCS.out.set_ 0 (.int .i64 0)).set_ 1 (.int .i64 0)).set_ 2 (.int .i64 0)
            simp only [List.setIfInBounds_toArray, List.set_cons_zero, List.set_cons_succ] at hfin
            have hkz : Kept (fun k => k = W.heap.size) (w5.setCell ⟨w1.heap.size, 2, none⟩ (.int .i64 0)) ((((w5.setCell ⟨w1.heap.size, 2, none⟩ (.int .i64 0)).setCell ⟨W.heap.size, 0, none⟩ (.int .i64 0)).setCell ⟨W.heap.size, 1, none⟩ (.int .i64 0)).setCell ⟨W.heap.size, 2, none⟩ (.int .i64 0)) := (((Kept.refl (fun k => k = W.heap.size) (w5.setCell ⟨w1.heap.size, 2, none⟩ (.int .i64 0))).set_ (p := ⟨W.heap.size, 0, none⟩) (.inl rfl) _).set_ (p := ⟨W.heap.size, 1, none⟩) (.inl rfl) _).set_ (p := ⟨W.heap.size, 2, none⟩) (.inl rfl) _
            have HFIN := Lib.hid hfin
            have HKZ := Lib.hid hkz
            clear hfin hkz
            go_wp2_with fail
            generalize (((w5.setCell ⟨w1.heap.size, 2, none⟩ (.int .i64 0)).setCell ⟨W.heap.size, 0, none⟩ (.int .i64 0)).setCell ⟨W.heap.size, 1, none⟩ (.int .i64 0)).setCell ⟨W.heap.size, 2, none⟩ (.int .i64 0) = wz at *
            have r0 : wz.cell? ⟨W.heap.size, 0, none⟩ = some (.int .i64 0) := HFIN.out.cell 0
            have r1 : wz.cell? ⟨W.heap.size, 1, none⟩ = some (.int .i64 0) := HFIN.out.cell 1
            have r2 : wz.cell? ⟨W.heap.size, 2, none⟩ = some (.int .i64 0) := HFIN.out.cell 2
            have hrz := HRSS.out.step HKZ.out (fun k hk => by subst hk; exact ⟨by omega, hWX⟩)
            have hkw : Kept (fun k => k = R) W wz := HKWS.out.trans2 HKZ.out (fun k hk => .inr (by rw [hk]; exact Nat.le_refl _))
            have HEND : Hid (ArcIs W0 R (x :: L') ln n W (.returned (.tuple #[arcV ⟨0, 0, 0⟩, .iface 27 (.int .i64 c)])) wz) := Lib.hid (⟨hkw, hrz, by rw [HA.out]⟩)
            rw [HQ0.out]
            refine bodyPost_ret (v := .tuple #[arcV ⟨0, 0, 0⟩, .iface 27 (.int .i64 c)]) ?hres rfl HEND.out
            case hres => simp [results, Tryz.results53, go_sem, r0, r1, r2]
          | ok v2 =>
            rw [hN2] at he HA
            dsimp only at he HA
            subst he
            have hxs := HX5a.out.set_ 2 (.int .i64 (v2 : Int))
            simp only [List.setIfInBounds_toArray, List.set_cons_zero, List.set_cons_succ] at hxs
            have hks : Kept (fun _ => False) w1 (w5.setCell ⟨w1.heap.size, 2, none⟩ (.int .i64 (v2 : Int))) := HK5a.out.set_ (p := ⟨w1.heap.size, 2, none⟩) (.inr (Nat.le_refl _)) _
            have HK5 := Lib.hid hks
            have HX5 := Lib.hid hxs
            clear hks hxs
            obtain ⟨s0, s1, s2⟩ := rds3 (rd_kept HRS.out HK5.out (fun _ _ h => h))
            have y0 := HX5.out.cell 0
            have y1 := HX5.out.cell 1
            have y2 := HX5.out.cell 2
            have HC5 := Lib.hid (HK5.out.cells HC1.out (fun h => h))
            have hrs2 := HR1.out.step HK5.out (fun _ h => h.elim)
            have HR5 := Lib.hid hrs2
            have HKW5 : Hid (Kept (fun k => k = R) W (w5.setCell ⟨w1.heap.size, 2, none⟩ (.int .i64 (v2 : Int)))) := Lib.hid (HK1.out.trans2 HK5.out (fun _ h => h.elim))
            clear hrs2
            have c0 : (w5.setCell ⟨w1.heap.size, 2, none⟩ (.int .i64 (v2 : Int))).cell? ⟨W.heap.size, 0, none⟩ = some (.int .i64 0) := HC5.out.cell 0
            have c1 : (w5.setCell ⟨w1.heap.size, 2, none⟩ (.int .i64 (v2 : Int))).cell? ⟨W.heap.size, 1, none⟩ = some (.int .i64 0) := HC5.out.cell 1
            have c2 : (w5.setCell ⟨w1.heap.size, 2, none⟩ (.int .i64 (v2 : Int))).cell? ⟨W.heap.size, 2, none⟩ = some (.int .i64 0) := HC5.out.cell 2
            have f0 := HC5.out.frozen 0
            have f1 := HC5.out.frozen 1
            have f2 := HC5.out.frozen 2
            have hfin := ((HC5.out.set_ 0 (.int .i64 (v0 : Int))).set_ 1 (.int .i64 (v1 : Int))).set_ 2 (.int .i64 (v2 : Int))
            simp only [List.setIfInBounds_toArray, List.set_cons_zero, List.set_cons_succ] at hfin
            have hkz : Kept (fun k => k = W.heap.size) (w5.setCell ⟨w1.heap.size, 2, none⟩ (.int .i64 (v2 : Int))) ((((w5.setCell ⟨w1.heap.size, 2, none⟩ (.int .i64 (v2 : Int))).setCell ⟨W.heap.size, 0, none⟩ (.int .i64 (v0 : Int))).setCell ⟨W.heap.size, 1, none⟩ (.int .i64 (v1 : Int))).setCell ⟨W.heap.size, 2, none⟩ (.int .i64 (v2 : Int))) := (((Kept.refl (fun k => k = W.heap.size) (w5.setCell ⟨w1.heap.size, 2, none⟩ (.int .i64 (v2 : Int)))).set_ (p := ⟨W.heap.size, 0, none⟩) (.inl rfl) _).set_ (p := ⟨W.heap.size, 1, none⟩) (.inl rfl) _).set_ (p := ⟨W.heap.size, 2, none⟩) (.inl rfl) _
            have HFIN := Lib.hid hfin
            have HKZ := Lib.hid hkz
            clear hfin hkz
            go_wp2_with fail
            generalize (((w5.setCell ⟨w1.heap.size, 2, none⟩ (.int .i64 (v2 : Int))).setCell ⟨W.heap.size, 0, none⟩ (.int .i64 (v0 : Int))).setCell ⟨W.heap.size, 1, none⟩ (.int .i64 (v1 : Int))).setCell ⟨W.heap.size, 2, none⟩ (.int .i64 (v2 : Int)) = wz at *
            have r0 : wz.cell? ⟨W.heap.size, 0, none⟩ = some (.int .i64 (v0 : Int)) := HFIN.out.cell 0
            have r1 : wz.cell? ⟨W.heap.size, 1, none⟩ = some (.int .i64 (v1 : Int)) := HFIN.out.cell 1
            have r2 : wz.cell? ⟨W.heap.size, 2, none⟩ = some (.int .i64 (v2 : Int)) := HFIN.out.cell 2
            have hrz := HR5.out.step HKZ.out (fun k hk => by subst hk; exact ⟨by omega, hWX⟩)
            have hkw : Kept (fun k => k = R) W wz := HKW5.out.trans2 HKZ.out (fun k hk => .inr (by rw [hk]; exact Nat.le_refl _))
            have HEND : Hid (ArcIs W0 R (x :: L') ln n W (.returned (.tuple #[arcV ⟨v0, v1, v2⟩, .nilIface])) wz) := Lib.hid (⟨hkw, hrz, by rw [HA.out]⟩)
            rw [HQ0.out]
            refine bodyPost_ret (v := .tuple #[arcV ⟨v0, v1, v2⟩, .nilIface]) ?hres rfl HEND.out
            case hres => simp [results, Tryz.results53, go_sem, r0, r1, r2]
end Go.Proofs.YtmnnoecjedkdjaaGreatDoor
