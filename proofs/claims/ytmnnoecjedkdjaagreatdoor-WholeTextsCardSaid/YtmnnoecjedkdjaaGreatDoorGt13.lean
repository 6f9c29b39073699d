/- The reader's graph. -/
import Derived.Test.YtmnnoecjedkdjaaGreatDoorGt12
set_option linter.unusedSimpArgs false
set_option linter.unusedVariables false
namespace Go.Proofs.YtmnnoecjedkdjaaGreatDoor
open Go.RowKit Txt

def addArcs (p : List ArcT) (r : Except (Int × Int) (List ArcT × Int × List RowT)) : Except (Int × Int) (List ArcT × Int × List RowT) := match r with
  | .error e => .error e
  | .ok (al, l, rs) => .ok (p ++ al, l, rs)
theorem addArcs_nil (r : Except (Int × Int) (List ArcT × Int × List RowT)) : addArcs [] r = r := by cases r <;> rfl
theorem addArcs_step (p : List ArcT) (n m : Nat) (ln : Int) (r : RowT) (rs : List RowT) (a : ArcT) (h : arcR r n = .ok a) : addArcs p (arcsGo n (m + 1) ln (r :: rs)) = addArcs (p ++ [a]) (arcsGo n m r.line rs) := by
  rw [arcsGo, h]
  dsimp only
  cases arcsGo n m r.line rs with
  | error e => rfl
  | ok x => obtain ⟨al, l, q⟩ := x; simp [addArcs]
theorem addArcs_bad (p : List ArcT) (n m : Nat) (ln : Int) (r : RowT) (rs : List RowT) (c : Int) (h : arcR r n = .error c) : addArcs p (arcsGo n (m + 1) ln (r :: rs)) = .error (c, r.line) := by
  rw [arcsGo, h]
  rfl
abbrev encA (a : ArcT) : List Value := [.int .i64 a.f, .int .i64 a.t, .int .i64 a.w]
theorem encA_len : ∀ x, (encA x).length = 3 := fun _ => rfl
theorem encA_one : ∀ x, ∀ u ∈ encA x, u.oneCell' = true := fun x u h => by
  simp only [encA, List.mem_cons, List.not_mem_nil, or_false] at h
  rcases h with rfl | rfl | rfl <;> rfl
theorem info_arc : (Tryz.prog.info? 56).map (fun i => (i.zero, i.size, i.bytes)) = some (some (.agg #[.int .i64 0, .int .i64 0, .int .i64 0]), 3, 24) := by kernel_rfl
theorem rd_arc {w : World} {k : Nat} {x : ArcT} (hk : w.heap.size = k) : Rd 3 encA (w.alloc (.cells #[.int .i64 x.f, .int .i64 x.t, .int .i64 x.w] 56)) (some ⟨k, 0, none⟩) 1 [x] := by
  subst hk
  exact rd_new encA_len w 56 [x]
theorem rds2 {w : World} {ad : Addr} {x y : ByteArray} (h : RdS w (some ad) 2 [x, y]) : w.cell? ad = some (.string x) ∧ w.cell? ⟨ad.block, ad.off + 1, none⟩ = some (.string y) := by
  obtain ⟨_, h0, c0⟩ := h.at_ (j := 0) (by decide)
  obtain ⟨_, h1, c1⟩ := h.at_ (j := 1) (by decide)
  injection h0 with h0
  injection h1 with h1
  subst h0 h1
  exact ⟨c0 0 _ rfl, c1 0 _ rfl⟩
theorem RdrAt.line_ {W0 w : World} {R : Nat} {L : List RowV} {ln : Int} (h : RdrAt W0 R L ln w) (ln' : Int) : RdrAt W0 R L ln' (w.setCell ⟨R, 1, none⟩ (.int .i64 ln')) := by
  obtain ⟨h0, A, k, hc, r⟩ := h
  have hc' := hc.set_ 1 (.int .i64 ln')
  simp only [List.setIfInBounds_toArray, List.set_cons_zero, List.set_cons_succ] at hc'
  exact ⟨h0.set_ (p := ⟨R, 1, none⟩) (.inl rfl) _, A, k, hc', r⟩
theorem graphT_cons (r : RowT) (rs : List RowT) : graphT (r :: rs) = match formR r [103, 114, 97, 112, 104] 3 with
    | some c => .error (c, r.line)
    | none => match numE (r.ws.getD 1 []) 65536 9 with
      | .error c => .error (c, r.line)
      | .ok n => match numE (r.ws.getD 2 []) 262144 9 with
        | .error c => .error (c, r.line)
        | .ok m => match arcsGo n m r.line rs with
          | .error e => .error e
          | .ok (al, ln, rs') => endR n al ln rs' := rfl
def GrIs (W0 : World) (R : Nat) (L : List RowV) (W : World) (e : Ending) (w' : World) : Prop := Kept (fun k => k = R) W w' ∧ match graphT (L.map RowV.t) with
  | .error (c, ln) => e = .returned (.tuple #[.agg #[.int .i64 0, .slice none 0 0], .iface 27 (.int .i64 c)]) ∧ ∃ L', RdrAt W0 R L' ln w'
  | .ok g => ∃ A k, e = .returned (.tuple #[.agg #[.int .i64 g.n, .slice A g.arcs.length k], .nilIface]) ∧ Own 56 3 encA w' W.heap.size (.slice A g.arcs.length k) g.arcs
theorem numE_le {w : Bs} {most beyond : Int} {v : Nat} (h : numE w most beyond = .ok v) : (v : Int) ≤ most := by
  unfold numE at h
  split at h
  · split at h
    · cases h
    · injection h with h
      omega
  · cases h
/-- the tail of the graph's rows -/
def tailT (n : Nat) : Except (Int × Int) (List ArcT × Int × List RowT) → Except (Int × Int) GrT
  | .error e => .error e
  | .ok (al, ln, rs) => endR n al ln rs
set_option maxRecDepth 100000 in
set_option maxHeartbeats 8000000 in
theorem graph_any (R : Nat) (L : List RowV) (W0 W : World) (hlL : L.length ≤ 1048577) (hr : RdrAt W0 R L 0 W) (hv : RangeV W) (hR : R ≠ 1) (hwl : ∀ x ∈ L, ∀ y ∈ x.ws, y.length ≤ 1048576) :
    Calls Tryz.prog 27 #[.pointer (some ⟨R, 0, none⟩)] W (GrIs W0 R L W) := by
  have hRX : R < W.heap.size := by
    obtain ⟨_, A, k, hc, _⟩ := hr
    exact hc.lt
  have hWX : W0.heap.size ≤ W.heap.size := hr.kept.size
  have hb0 := (Below.refl W.heap.size W).alloc (Nat.le_refl _) (.cells #[.int .i64 0, .slice none 0 0] 30)
  have hc0 := cells_new W #[.int .i64 0, .slice none 0 0] 30
  have hnx := next_any R L 0 ⟨#[103, 114, 97, 112, 104]⟩ 3 W0 (W.alloc (.cells #[.int .i64 0, .slice none 0 0] 30)) (by omega) hlL (hr.below hb0)
  have HNX := Lib.hid hnx
  have HC0 := Lib.hid hc0
  have HB0 := Lib.hid hb0
  have HV := Lib.hid hv
  have HWL := Lib.hid hwl
  clear hnx hc0 hb0 hv hwl hr
  go_enter Tryz.func27, Tryz.ntmps27
  refine wp_named ?_
  intro Q0 hQ0
  have HQ0 := Lib.hid hQ0
  clear hQ0
  go_wp2_with fail
  refine HNX.out.mono ?_
  rintro e w1 ⟨hk, hm⟩
  have HK1 : Hid (Kept (fun k => k = R) W w1) := Lib.hid ((Kept.of_below HB0.out).trans hk)
  have HC1 := Lib.hid (hk.cells HC0.out (show ¬ W.heap.size = R by omega))
  clear hk HNX HC0 HB0
  cases L with
  | nil =>
    obtain ⟨rfl, hr1⟩ := hm
    have HR1 := Lib.hid hr1
    have HG : Hid (graphT (([] : List RowV).map RowV.t) = .error (5, 0)) := Lib.hid rfl
    clear hr1
    have c0 : w1.cell? ⟨W.heap.size, 0, none⟩ = some (.int .i64 0) := HC1.out.cell 0
    have c1 : w1.cell? ⟨W.heap.size, 1, none⟩ = some (.slice none 0 0) := HC1.out.cell 1
    have f0 := HC1.out.frozen 0
    have f1 := HC1.out.frozen 1
    have hfin := (HC1.out.set_ 0 (.int .i64 0)).set_ 1 (.slice none 0 0)
    simp only [List.setIfInBounds_toArray, List.set_cons_zero, List.set_cons_succ] at hfin
    have hkz : Kept (fun k => k = W.heap.size) w1 ((w1.setCell ⟨W.heap.size, 0, none⟩ (.int .i64 0)).setCell ⟨W.heap.size, 1, none⟩ (.slice none 0 0)) := ((Kept.refl (fun k => k = W.heap.size) w1).set_ (p := ⟨W.heap.size, 0, none⟩) (.inl rfl) _).set_ (p := ⟨W.heap.size, 1, none⟩) (.inl rfl) _
    have HFIN := Lib.hid hfin
    have HKZ := Lib.hid hkz
    clear hfin hkz
    go_wp2_with fail
    generalize (w1.setCell ⟨W.heap.size, 0, none⟩ (.int .i64 0)).setCell ⟨W.heap.size, 1, none⟩ (.slice none 0 0) = wz at *
    have r0 : wz.cell? ⟨W.heap.size, 0, none⟩ = some (.int .i64 0) := HFIN.out.cell 0
    have r1 : wz.cell? ⟨W.heap.size, 1, none⟩ = some (.slice none 0 0) := HFIN.out.cell 1
    have hrz := HR1.out.step HKZ.out (fun k hk => by subst hk; exact ⟨by omega, hWX⟩)
    have hkw : Kept (fun k => k = R) W wz := HK1.out.trans2 HKZ.out (fun k hk => .inr (by rw [hk]; exact Nat.le_refl _))
    have HEND : Hid (GrIs W0 R [] W (.returned (.tuple #[.agg #[.int .i64 0, .slice none 0 0], .iface 27 (.int .i64 5)])) wz) := Lib.hid (⟨hkw, by rw [HG.out]; exact ⟨rfl, _, hrz⟩⟩)
    rw [HQ0.out]
    refine bodyPost_ret (v := .tuple #[.agg #[.int .i64 0, .slice none 0 0], .iface 27 (.int .i64 5)]) ?hres rfl HEND.out
    case hres => simp [results, Tryz.results27, go_sem, r0, r1]
  | cons x L' =>
    obtain ⟨hr1, hm⟩ := hm
    have HR1 := Lib.hid hr1
    clear hr1
    have hform : formR x.t graphW 3 = formR x.t [103, 114, 97, 112, 104] 3 := rfl
    cases hfo : formR x.t [103, 114, 97, 112, 104] 3 with
    | some c =>
      have hm' : e = .returned (.tuple #[.slice none 0 0, .iface 27 (.int .i64 c)]) := by
        have h := hm
        rw [hfo] at h
        exact h
      clear hm
      subst hm'
      have hA : graphT ((x :: L').map RowV.t) = .error (c, x.line) := by show graphT (x.t :: L'.map RowV.t) = _; rw [graphT_cons, hfo]; rfl
      have HG := Lib.hid hA
      clear hA hform hfo
      have c0 : w1.cell? ⟨W.heap.size, 0, none⟩ = some (.int .i64 0) := HC1.out.cell 0
      have c1 : w1.cell? ⟨W.heap.size, 1, none⟩ = some (.slice none 0 0) := HC1.out.cell 1
      have f0 := HC1.out.frozen 0
      have f1 := HC1.out.frozen 1
      have hfin := (HC1.out.set_ 0 (.int .i64 0)).set_ 1 (.slice none 0 0)
      simp only [List.setIfInBounds_toArray, List.set_cons_zero, List.set_cons_succ] at hfin
      have hkz : Kept (fun k => k = W.heap.size) w1 ((w1.setCell ⟨W.heap.size, 0, none⟩ (.int .i64 0)).setCell ⟨W.heap.size, 1, none⟩ (.slice none 0 0)) := ((Kept.refl (fun k => k = W.heap.size) w1).set_ (p := ⟨W.heap.size, 0, none⟩) (.inl rfl) _).set_ (p := ⟨W.heap.size, 1, none⟩) (.inl rfl) _
      have HFIN := Lib.hid hfin
      have HKZ := Lib.hid hkz
      clear hfin hkz
      go_wp2_with fail
      generalize (w1.setCell ⟨W.heap.size, 0, none⟩ (.int .i64 0)).setCell ⟨W.heap.size, 1, none⟩ (.slice none 0 0) = wz at *
      have r0 : wz.cell? ⟨W.heap.size, 0, none⟩ = some (.int .i64 0) := HFIN.out.cell 0
      have r1 : wz.cell? ⟨W.heap.size, 1, none⟩ = some (.slice none 0 0) := HFIN.out.cell 1
      have hrz := HR1.out.step HKZ.out (fun k hk => by subst hk; exact ⟨by omega, hWX⟩)
      have hkw : Kept (fun k => k = R) W wz := HK1.out.trans2 HKZ.out (fun k hk => .inr (by rw [hk]; exact Nat.le_refl _))
      have HEND : Hid (GrIs W0 R (x :: L') W (.returned (.tuple #[.agg #[.int .i64 0, .slice none 0 0], .iface 27 (.int .i64 c)])) wz) := Lib.hid (⟨hkw, by rw [HG.out]; exact ⟨rfl, _, hrz⟩⟩)
      rw [HQ0.out]
      refine bodyPost_ret (v := .tuple #[.agg #[.int .i64 0, .slice none 0 0], .iface 27 (.int .i64 c)]) ?hres rfl HEND.out
      case hres => simp [results, Tryz.results27, go_sem, r0, r1]
    | none =>
      obtain ⟨A, k, hm', hrs⟩ : ∃ A k, e = .returned (.tuple #[.slice A (x.ws.length - 1) k, .nilIface]) ∧ RdS w1 A (x.ws.length - 1) ((x.ws.drop 1).map toB) := by
        have h := hm
        rw [hfo] at h
        exact h
      clear hm
      obtain ⟨hh, hl4⟩ := form_none hfo
      obtain ⟨a0, a1, a2, hws⟩ : ∃ a0 a1 a2, x.ws = [a0, a1, a2] := by
        have hl : x.ws.length = 3 := hl4
        match h : x.ws, hl with
        | [a0, a1, a2], _ => exact ⟨a0, a1, a2, rfl⟩
      have hA : graphT ((x :: L').map RowV.t) = match numE a1 65536 9 with
        | .error c => .error (c, x.line)
        | .ok n => match numE a2 262144 9 with
          | .error c => .error (c, x.line)
          | .ok m => tailT n (arcsGo n m x.line (L'.map RowV.t)) := by
        have hws' : x.t.ws = [a0, a1, a2] := hws
        show graphT (x.t :: L'.map RowV.t) = _
        rw [graphT_cons, hfo, hws']
        rfl
      have hz1 : a1.length ≤ 1048576 := HWL.out x (by simp) a1 (by rw [hws]; simp)
      have hz2 : a2.length ≤ 1048576 := HWL.out x (by simp) a2 (by rw [hws]; simp)
      rw [hws] at hm' hrs
      simp only [List.length_cons, List.length_nil, List.drop_succ_cons, List.drop_zero, List.map_cons, List.map_nil] at hm' hrs
      subst hm'
      have HA := Lib.hid hA
      clear hA hform hfo hh hl4 hws
      obtain ⟨ad, rfl, hbX⟩ : ∃ ad, A = some ad ∧ ad.block < w1.heap.size := by
        obtain ⟨ad, hAd, cc⟩ := hrs.at_ (j := 0) (by decide)
        have s0 := cc 0 _ rfl
        have := World.block_lt_of_cell? _ _ s0
        rw [block_of_add] at this
        exact ⟨ad, hAd, this⟩
      have HRS := Lib.hid hrs
      clear hrs
      have HK2 : Hid (Kept (fun _ => False) w1 w1) := Lib.hid (Kept.refl _ _)
      obtain ⟨s0, s1⟩ := rds2 HRS.out
      go_wp2_with fail
      have hv0 : RangeV w1 := (HV.out.kept HK1.out (fun h => hR h.symm)).kept HK2.out (fun h => h)
      refine (number_any (toB a1) 65536 9 _ (by rw [toB_size]; omega) (by omega) (by omega) hv0).mono ?_
      rintro e w3 ⟨hb, he⟩
      rw [toB_list] at he
      have HK3 : Hid (Kept (fun _ => False) w1 w3) := Lib.hid (HK2.out.trans (.of_below hb))
      clear hb hv0
      cases hN0 : numE a1 65536 9 with
      | error c =>
        rw [hN0] at he HA
        dsimp only at he HA
        have HG := HA
        subst he
        have hks := HK3.out
        have hrs2 := HR1.out.step hks (fun _ h => h.elim)
        have HRSS := Lib.hid hrs2
        have HKWS : Hid (Kept (fun k => k = R) W w3) := Lib.hid (HK1.out.trans2 hks (fun _ h => h.elim))
        have HCS := Lib.hid (hks.cells HC1.out (fun h => h))
        clear hks hrs2
        have c0 : w3.cell? ⟨W.heap.size, 0, none⟩ = some (.int .i64 0) := HCS.out.cell 0
        have c1 : w3.cell? ⟨W.heap.size, 1, none⟩ = some (.slice none 0 0) := HCS.out.cell 1
        have f0 := HCS.out.frozen 0
        have f1 := HCS.out.frozen 1
        have hfin := (HCS.out.set_ 0 (.int .i64 0)).set_ 1 (.slice none 0 0)
        simp only [List.setIfInBounds_toArray, List.set_cons_zero, List.set_cons_succ] at hfin
        have hkz : Kept (fun k => k = W.heap.size) w3 ((w3.setCell ⟨W.heap.size, 0, none⟩ (.int .i64 0)).setCell ⟨W.heap.size, 1, none⟩ (.slice none 0 0)) := ((Kept.refl (fun k => k = W.heap.size) w3).set_ (p := ⟨W.heap.size, 0, none⟩) (.inl rfl) _).set_ (p := ⟨W.heap.size, 1, none⟩) (.inl rfl) _
        have HFIN := Lib.hid hfin
        have HKZ := Lib.hid hkz
        clear hfin hkz
        go_wp2_with fail
        generalize (w3.setCell ⟨W.heap.size, 0, none⟩ (.int .i64 0)).setCell ⟨W.heap.size, 1, none⟩ (.slice none 0 0) = wz at *
        have r0 : wz.cell? ⟨W.heap.size, 0, none⟩ = some (.int .i64 0) := HFIN.out.cell 0
        have r1 : wz.cell? ⟨W.heap.size, 1, none⟩ = some (.slice none 0 0) := HFIN.out.cell 1
        have hrz := HRSS.out.step HKZ.out (fun k hk => by subst hk; exact ⟨by omega, hWX⟩)
        have hkw : Kept (fun k => k = R) W wz := HKWS.out.trans2 HKZ.out (fun k hk => .inr (by rw [hk]; exact Nat.le_refl _))
        have HEND : Hid (GrIs W0 R (x :: L') W (.returned (.tuple #[.agg #[.int .i64 0, .slice none 0 0], .iface 27 (.int .i64 c)])) wz) := Lib.hid (⟨hkw, by rw [HG.out]; exact ⟨rfl, _, hrz⟩⟩)
        rw [HQ0.out]
        refine bodyPost_ret (v := .tuple #[.agg #[.int .i64 0, .slice none 0 0], .iface 27 (.int .i64 c)]) ?hres rfl HEND.out
        case hres => simp [results, Tryz.results27, go_sem, r0, r1]
      | ok v0 =>
        rw [hN0] at he HA
        dsimp only at he HA
        subst he
        obtain ⟨s0, s1⟩ := rds2 (rd_kept HRS.out HK3.out (fun _ _ h => h))
        go_wp2_with fail
        have hv1 : RangeV w3 := (HV.out.kept HK1.out (fun h => hR h.symm)).kept HK3.out (fun h => h)
        refine (number_any (toB a2) 262144 9 _ (by rw [toB_size]; omega) (by omega) (by omega) hv1).mono ?_
        rintro e w4 ⟨hb, he⟩
        rw [toB_list] at he
        have HK4 : Hid (Kept (fun _ => False) w1 w4) := Lib.hid (HK3.out.trans (.of_below hb))
        clear hb hv1
        cases hN1 : numE a2 262144 9 with
        | error c =>
          rw [hN1] at he HA
          dsimp only at he HA
          have HG := HA
          subst he
          have hks := HK4.out
          have hrs2 := HR1.out.step hks (fun _ h => h.elim)
          have HRSS := Lib.hid hrs2
          have HKWS : Hid (Kept (fun k => k = R) W w4) := Lib.hid (HK1.out.trans2 hks (fun _ h => h.elim))
          have HCS := Lib.hid (hks.cells HC1.out (fun h => h))
          clear hks hrs2
          have c0 : w4.cell? ⟨W.heap.size, 0, none⟩ = some (.int .i64 0) := HCS.out.cell 0
          have c1 : w4.cell? ⟨W.heap.size, 1, none⟩ = some (.slice none 0 0) := HCS.out.cell 1
          have f0 := HCS.out.frozen 0
          have f1 := HCS.out.frozen 1
          have hfin := (HCS.out.set_ 0 (.int .i64 0)).set_ 1 (.slice none 0 0)
          simp only [List.setIfInBounds_toArray, List.set_cons_zero, List.set_cons_succ] at hfin
          have hkz : Kept (fun k => k = W.heap.size) w4 ((w4.setCell ⟨W.heap.size, 0, none⟩ (.int .i64 0)).setCell ⟨W.heap.size, 1, none⟩ (.slice none 0 0)) := ((Kept.refl (fun k => k = W.heap.size) w4).set_ (p := ⟨W.heap.size, 0, none⟩) (.inl rfl) _).set_ (p := ⟨W.heap.size, 1, none⟩) (.inl rfl) _
          have HFIN := Lib.hid hfin
          have HKZ := Lib.hid hkz
          clear hfin hkz
          go_wp2_with fail
          generalize (w4.setCell ⟨W.heap.size, 0, none⟩ (.int .i64 0)).setCell ⟨W.heap.size, 1, none⟩ (.slice none 0 0) = wz at *
          have r0 : wz.cell? ⟨W.heap.size, 0, none⟩ = some (.int .i64 0) := HFIN.out.cell 0
          have r1 : wz.cell? ⟨W.heap.size, 1, none⟩ = some (.slice none 0 0) := HFIN.out.cell 1
          have hrz := HRSS.out.step HKZ.out (fun k hk => by subst hk; exact ⟨by omega, hWX⟩)
          have hkw : Kept (fun k => k = R) W wz := HKWS.out.trans2 HKZ.out (fun k hk => .inr (by rw [hk]; exact Nat.le_refl _))
          have HEND : Hid (GrIs W0 R (x :: L') W (.returned (.tuple #[.agg #[.int .i64 0, .slice none 0 0], .iface 27 (.int .i64 c)])) wz) := Lib.hid (⟨hkw, by rw [HG.out]; exact ⟨rfl, _, hrz⟩⟩)
          rw [HQ0.out]
          refine bodyPost_ret (v := .tuple #[.agg #[.int .i64 0, .slice none 0 0], .iface 27 (.int .i64 c)]) ?hres rfl HEND.out
          case hres => simp [results, Tryz.results27, go_sem, r0, r1]
        | ok v1 =>
          rw [hN1] at he HA
          dsimp only at he HA
          subst he
          obtain ⟨s0, s1⟩ := rds2 (rd_kept HRS.out HK4.out (fun _ _ h => h))
          have hn0 : v0 ≤ 65536 := by have := numE_le hN0; omega
          have hm0 : v1 ≤ 262144 := by have := numE_le hN1; omega
          have hb4 := (Below.refl w4.heap.size w4).alloc (Nat.le_refl _) (.cells #[.int .i64 (v0 : Int), .slice none 0 0] 30)
          have hx5 := cells_new w4 #[.int .i64 (v0 : Int), .slice none 0 0] 30
          have HX5 := Lib.hid hx5
          have HB5 := Lib.hid hb4
          clear hx5 hb4
          go_upto_region 11 with fail
          generalize w4.alloc (.cells #[.int .i64 (v0 : Int), .slice none 0 0] 30) = wb at *
          have HKB : Hid (Kept (fun _ => False) w1 wb) := Lib.hid (HK4.out.trans (.of_below HB5.out))
          have hGB := HX5.out.lt
          have HKWB : Hid (Kept (fun k => k = R) W wb) := Lib.hid (HK1.out.trans2 HKB.out (fun _ h => h.elim))
          have hWw4 : W.heap.size < w4.heap.size := by have h1 := HC1.out.lt; have h2 := HK4.out.size; omega
          generalize hGe : w4.heap.size = G at *
          have HCB := Lib.hid (HKB.out.cells HC1.out (fun h => h))
          have hrb := HR1.out.step HKB.out (fun _ h => h.elim)
          have HRB := Lib.hid hrb
          have hvb := (HV.out.kept HKWB.out (fun h => hR h.symm))
          have HVB := Lib.hid hvb
          have hE0 : 1 < W.heap.size := by
            obtain ⟨_, ha⟩ := HV.out
            exact World.block_lt_of_cell? _ _ ha
          clear hrb hvb hGe HB5 HK4 HK3 HK2 HKB HRS s0 s1 hz1 hz2 HR1 HC1 HK1 HV hN0 hN1
          go_wp2_with fail
          go_loopw [49] (fun jv wr => ∃ (j i : Nat) (ln : Int) (LL : List RowV) (al : List ArcT) (sv : Value), j + i = v1 ∧ jv = .int .i64 (j : Int) ∧ al.length = j ∧ Cells wr G #[.int .i64 (v0 : Int), sv] 30 ∧ Own 56 3 encA wr wb.heap.size sv al ∧ RdrAt W0 R LL ln wr ∧ Kept (fun k => k = R ∨ k = G) wb wr ∧ arcsGo v0 v1 x.line (L'.map RowV.t) = addArcs al (arcsGo v0 i ln (LL.map RowV.t)) ∧ LL.length ≤ 1048577 ∧ (∀ y ∈ LL, ∀ z ∈ y.ws, z.length ≤ 1048576)) (fun jv _ => v1 - (intOf jv).toNat)
          case atStart => exact ⟨0, v1, x.line, L', [], .slice none 0 0, by omega, rfl, rfl, HX5.out, Own.nil _ _ _ _ _, HRB.out, Kept.refl _ _, (addArcs_nil _).symm, by rw [List.length_cons] at hlL; omega, fun y hy => HWL.out y (List.mem_cons_of_mem _ hy)⟩
          case round =>
            obtain ⟨j, i, ln, LL, al, sv, hji, rfl, hal, hcg, ho, hrr, hkr, hst, hLL, hwl⟩ := hrel
            have HCG := Lib.hid hcg
            have HO := Lib.hid ho
            have HRR := Lib.hid hrr
            have HKR := Lib.hid hkr
            have HST := Lib.hid hst
            have HWLL := Lib.hid hwl
            have hsz := hkr.size
            have hvr := HVB.out.kept (S := fun k => k = R ∨ k = G) hkr (fun h => by rcases h with h | h; exact hR h.symm; omega)
            have HVR := Lib.hid hvr
            have HCR := Lib.hid (hkr.cells HCB.out (fun h => by rcases h with h | h <;> omega))
            have HKWR : Hid (Kept (fun k => k = R) W wr) := Lib.hid (HKWB.out.trans2 hkr (fun k h => by rcases h with h | h; exact .inl h; exact .inr (by omega)))
            clear hcg ho hrr hkr hst hwl hvr
            cases i with
            | succ i =>
              have g0 : decide ((j : Int) < (v1 : Int)) = true := decide_eq_true (by omega)
              go_wp2_with fail
              refine (arc_any R LL ln v0 W0 wr hn0 hLL HRR.out HVR.out hR HWLL.out).mono ?_
              rintro e w5 ⟨hk5, hm⟩
              have HK5 := Lib.hid hk5
              have HC5 := Lib.hid (hk5.cells HCR.out (fun h => by omega))
              have HG5 := Lib.hid (hk5.cells HCG.out (fun h => by omega))
              have HKW5 : Hid (Kept (fun k => k = R) W w5) := Lib.hid (HKWR.out.trans hk5)
              clear hk5
              cases LL with
              | nil =>
                obtain ⟨rfl, hr5⟩ := hm
                have HR5 := Lib.hid hr5
                have HG : Hid (graphT ((x :: L').map RowV.t) = .error (5, ln)) := Lib.hid (by rw [HA.out, HST.out]; rfl)
                clear hr5
                have hb6 := (Below.refl w5.heap.size w5).alloc (Nat.le_refl _) (.cells #[.int .i64 0, .int .i64 0, .int .i64 0] 56)
                have hx7 := cells_new w5 #[.int .i64 0, .int .i64 0, .int .i64 0] 56
                have HX7 := Lib.hid hx7
                have HB7 := Lib.hid hb6
                clear hb6 hx7
                go_upto_region 14 with fail
                generalize w5.alloc (.cells #[.int .i64 0, .int .i64 0, .int .i64 0] 56) = w7 at *
                have hr7 := HR5.out.below HB7.out
                have HR7 := Lib.hid hr7
                have HC7 := Lib.hid (HC5.out.below HB7.out)
                have HG7 := Lib.hid (HG5.out.below HB7.out)
                have HKW7 : Hid (Kept (fun k => k = R) W w7) := Lib.hid (HKW5.out.trans (.of_below HB7.out))
                clear hr7
                have c0 : w7.cell? ⟨W.heap.size, 0, none⟩ = some (.int .i64 0) := HC7.out.cell 0
                have c1 : w7.cell? ⟨W.heap.size, 1, none⟩ = some (.slice none 0 0) := HC7.out.cell 1
                have f0 := HC7.out.frozen 0
                have f1 := HC7.out.frozen 1
                have hfin := (HC7.out.set_ 0 (.int .i64 0)).set_ 1 (.slice none 0 0)
                simp only [List.setIfInBounds_toArray, List.set_cons_zero, List.set_cons_succ] at hfin
                have hkz : Kept (fun k => k = W.heap.size) w7 ((w7.setCell ⟨W.heap.size, 0, none⟩ (.int .i64 0)).setCell ⟨W.heap.size, 1, none⟩ (.slice none 0 0)) := ((Kept.refl (fun k => k = W.heap.size) w7).set_ (p := ⟨W.heap.size, 0, none⟩) (.inl rfl) _).set_ (p := ⟨W.heap.size, 1, none⟩) (.inl rfl) _
                have HFIN := Lib.hid hfin
                have HKZ := Lib.hid hkz
                clear hfin hkz
                go_wp2_with fail
                generalize (w7.setCell ⟨W.heap.size, 0, none⟩ (.int .i64 0)).setCell ⟨W.heap.size, 1, none⟩ (.slice none 0 0) = wz at *
                have r0 : wz.cell? ⟨W.heap.size, 0, none⟩ = some (.int .i64 0) := HFIN.out.cell 0
                have r1 : wz.cell? ⟨W.heap.size, 1, none⟩ = some (.slice none 0 0) := HFIN.out.cell 1
                have hrz := HR7.out.step HKZ.out (fun k hk => by subst hk; exact ⟨by omega, hWX⟩)
                have hkw : Kept (fun k => k = R) W wz := HKW7.out.trans2 HKZ.out (fun k hk => .inr (by rw [hk]; exact Nat.le_refl _))
                have HEND : Hid (GrIs W0 R (x :: L') W (.returned (.tuple #[.agg #[.int .i64 0, .slice none 0 0], .iface 27 (.int .i64 5)])) wz) := Lib.hid (⟨hkw, by rw [HG.out]; exact ⟨rfl, _, hrz⟩⟩)
                rw [HQ0.out]
                refine bodyPost_ret (v := .tuple #[.agg #[.int .i64 0, .slice none 0 0], .iface 27 (.int .i64 5)]) ?hres rfl HEND.out
                case hres => simp [results, Tryz.results27, go_sem, r0, r1]
              | cons y LL' =>
                obtain ⟨hr5, hm⟩ := hm
                have HR5 := Lib.hid hr5
                clear hr5
                cases hac : arcR y.t v0 with
                | error c =>
                  rw [hac] at hm
                  dsimp only at hm
                  subst hm
                  have HG : Hid (graphT ((x :: L').map RowV.t) = .error (c, y.line)) := Lib.hid (by rw [HA.out, HST.out, List.map_cons, addArcs_bad _ _ _ _ _ _ _ hac]; rfl)
                  have hb6 := (Below.refl w5.heap.size w5).alloc (Nat.le_refl _) (.cells #[.int .i64 0, .int .i64 0, .int .i64 0] 56)
                  have hx7 := cells_new w5 #[.int .i64 0, .int .i64 0, .int .i64 0] 56
                  have HX7 := Lib.hid hx7
                  have HB7 := Lib.hid hb6
                  clear hb6 hx7
                  go_upto_region 14 with fail
                  generalize w5.alloc (.cells #[.int .i64 0, .int .i64 0, .int .i64 0] 56) = w7 at *
                  have hr7 := HR5.out.below HB7.out
                  have HR7 := Lib.hid hr7
                  have HC7 := Lib.hid (HC5.out.below HB7.out)
                  have HG7 := Lib.hid (HG5.out.below HB7.out)
                  have HKW7 : Hid (Kept (fun k => k = R) W w7) := Lib.hid (HKW5.out.trans (.of_below HB7.out))
                  clear hr7
                  have c0 : w7.cell? ⟨W.heap.size, 0, none⟩ = some (.int .i64 0) := HC7.out.cell 0
                  have c1 : w7.cell? ⟨W.heap.size, 1, none⟩ = some (.slice none 0 0) := HC7.out.cell 1
                  have f0 := HC7.out.frozen 0
                  have f1 := HC7.out.frozen 1
                  have hfin := (HC7.out.set_ 0 (.int .i64 0)).set_ 1 (.slice none 0 0)
                  simp only [List.setIfInBounds_toArray, List.set_cons_zero, List.set_cons_succ] at hfin
                  have hkz : Kept (fun k => k = W.heap.size) w7 ((w7.setCell ⟨W.heap.size, 0, none⟩ (.int .i64 0)).setCell ⟨W.heap.size, 1, none⟩ (.slice none 0 0)) := ((Kept.refl (fun k => k = W.heap.size) w7).set_ (p := ⟨W.heap.size, 0, none⟩) (.inl rfl) _).set_ (p := ⟨W.heap.size, 1, none⟩) (.inl rfl) _
                  have HFIN := Lib.hid hfin
                  have HKZ := Lib.hid hkz
                  clear hfin hkz
                  go_wp2_with fail
                  generalize (w7.setCell ⟨W.heap.size, 0, none⟩ (.int .i64 0)).setCell ⟨W.heap.size, 1, none⟩ (.slice none 0 0) = wz at *
                  have r0 : wz.cell? ⟨W.heap.size, 0, none⟩ = some (.int .i64 0) := HFIN.out.cell 0
                  have r1 : wz.cell? ⟨W.heap.size, 1, none⟩ = some (.slice none 0 0) := HFIN.out.cell 1
                  have hrz := HR7.out.step HKZ.out (fun k hk => by subst hk; exact ⟨by omega, hWX⟩)
                  have hkw : Kept (fun k => k = R) W wz := HKW7.out.trans2 HKZ.out (fun k hk => .inr (by rw [hk]; exact Nat.le_refl _))
                  have HEND : Hid (GrIs W0 R (x :: L') W (.returned (.tuple #[.agg #[.int .i64 0, .slice none 0 0], .iface 27 (.int .i64 c)])) wz) := Lib.hid (⟨hkw, by rw [HG.out]; exact ⟨rfl, _, hrz⟩⟩)
                  rw [HQ0.out]
                  refine bodyPost_ret (v := .tuple #[.agg #[.int .i64 0, .slice none 0 0], .iface 27 (.int .i64 c)]) ?hres rfl HEND.out
                  case hres => simp [results, Tryz.results27, go_sem, r0, r1]
                | ok a =>
                  rw [hac] at hm
                  dsimp only at hm
                  subst hm
                  have hst := HST.out
                  rw [List.map_cons, addArcs_step _ _ _ _ _ _ _ hac] at hst
                  have HST2 := Lib.hid hst
                  clear hst hac HST
                  have hb6 := (Below.refl w5.heap.size w5).alloc (Nat.le_refl _) (.cells #[.int .i64 a.f, .int .i64 a.t, .int .i64 a.w] 56)
                  have hx7 := cells_new w5 #[.int .i64 a.f, .int .i64 a.t, .int .i64 a.w] 56
                  have HX7 := Lib.hid hx7
                  have HB7 := Lib.hid hb6
                  clear hb6 hx7
                  go_upto_region 14 with fail
                  generalize w5.alloc (.cells #[.int .i64 a.f, .int .i64 a.t, .int .i64 a.w] 56) = w7 at *
                  have hr7 := HR5.out.below HB7.out
                  have HR7 := Lib.hid hr7
                  have HC7 := Lib.hid (HC5.out.below HB7.out)
                  have HG7 := Lib.hid (HG5.out.below HB7.out)
                  have HKW7 : Hid (Kept (fun k => k = R) W w7) := Lib.hid (HKW5.out.trans (.of_below HB7.out))
                  clear hr7
                  have hs7 : wb.heap.size ≤ w7.heap.size := by have h1 := HK5.out.size; have h2 := HB7.out.size; omega
                  have hoR : ∀ k, sv.ownBlock = some k → ¬ (k = R) := fun k h => by have := (HO.out.block h).1; omega
                  have hoG : ∀ k, sv.ownBlock = some k → wb.heap.size ≤ k := fun k h => (HO.out.block h).1
                  have HO7 := Lib.hid ((keptS_own HO.out HK5.out hoR).below HB7.out)
                  have y0 := HX7.out.cell 0
                  have y1 := HX7.out.cell 1
                  have y2 := HX7.out.cell 2
                  have d1 := HG7.out.cell 1
                  have hw1 : IntKind.i64.wrap ((j : Int) + 1) = (j : Int) + 1 := by rw [IntKind.wrap_i64]; omega
                  go_wp2_with (at_builtin; go_loud (refine wpList_append_rd rfl (.tmp 62) (.tmp 64) 28 rfl 56 (.agg #[.int .i64 0, .int .i64 0, .int .i64 0]) 24 Tryz.underlying28 info_arc rfl (by omega) (by omega) encA_len encA_one wb.heap.size _ al rfl (HO7.out.below ((Below.refl _ _).alloc (Nat.le_refl _) _)) _ 1 1 [a] rfl (rd_arc rfl) (by omega) (by simp; omega) ?_; intro v2 w8 ho2 hg2 hat2; obtain ⟨A2, c2, rfl, h2c, h2m⟩ := ho2.form; have hl2 : (al ++ [a]).length = j + 1 := (by rw [List.length_append, hal]; rfl); rw [hl2] at ho2 ⊢; have HO8 := Lib.hid ho2; have HK8 : Hid (Kept (fun k => sv.ownBlock = some k) w7 w8) := Lib.hid (((Kept.refl _ w7).alloc _).trans ⟨hg2.1, hg2.2, hg2.3, hg2.4, fun k hk hs => hg2.5 k hk (fun e => hs e.symm)⟩); have hg8 := HK8.out.cells HG7.out (fun h => by have := hoG G h; omega); have q1 := hg8.cell 1; have p1 := hg8.frozen 1; have HG8 := Lib.hid hg8; clear ho2 hg2 hat2 hg8 h2c h2m hl2))
                  have hg9 := HG8.out.set_ 1 (.slice A2 (j + 1) c2)
                  simp only [List.setIfInBounds_toArray, List.set_cons_zero, List.set_cons_succ] at hg9
                  have HG9 := Lib.hid hg9
                  have hk9 : Kept (fun k => k = G) w8 (w8.setCell ⟨G, 1, none⟩ (.slice A2 (j + 1) c2)) := (Kept.refl (fun k => k = G) w8).set_ (p := ⟨G, 1, none⟩) (.inl rfl) _
                  have ho9 := keptS_own HO8.out hk9 (fun k h => by have := (HO8.out.block h).1; omega)
                  have HO9 := Lib.hid ho9
                  have hk79 : Kept (fun k => sv.ownBlock = some k ∨ k = G) w7 (w8.setCell ⟨G, 1, none⟩ (.slice A2 (j + 1) c2)) := (HK8.out.trans2 (S' := fun k => sv.ownBlock = some k) (Kept.refl _ _) (fun k h => .inl h) |> fun h => (Kept.refl (fun k => sv.ownBlock = some k ∨ k = G) w7).trans2 h (fun k h => .inl (.inl h))).trans2 hk9 (fun k h => .inl (.inr h))
                  have hr9 := HR7.out.step hk79 (fun k h => by
                    have hw0 := HKWB.out.size
                    rcases h with h | h
                    · have := hoG k h; exact ⟨by omega, by omega⟩
                    · subst h; exact ⟨by omega, by omega⟩)
                  have HR9 := Lib.hid hr9
                  have HK9 : Hid (Kept (fun k => k = R ∨ k = G) wb (w8.setCell ⟨G, 1, none⟩ (.slice A2 (j + 1) c2))) := Lib.hid (((HKR.out.trans2 HK5.out (fun k h => .inl (.inl h))).trans (.of_below HB7.out)).trans2 hk79 (fun k h => by
                    rcases h with h | h
                    · exact .inr (hoG k h)
                    · exact .inl (.inr h)))
                  clear hg9 hk9 ho9 hk79 hr9
                  go_round
                  case rel => exact ⟨j + 1, i, y.line, LL', al ++ [a], .slice A2 (j + 1) c2, by omega, by go_num, by rw [List.length_append, hal]; rfl, HG9.out, HO9.out, HR9.out, HK9.out, HST2.out, by rw [List.length_cons] at hLL; omega, fun z hz => HWLL.out z (List.mem_cons_of_mem _ hz)⟩
                  case measure => simp [intOf]; omega
            | zero =>
              have g0 : decide ((j : Int) < (v1 : Int)) = false := decide_eq_false (by omega)
              have hst := HST.out
              have he0 : addArcs al (arcsGo v0 0 ln (LL.map RowV.t)) = .ok (al, ln, LL.map RowV.t) := by unfold arcsGo addArcs; dsimp only; rw [List.append_nil]
              rw [he0] at hst
              have HST0 := Lib.hid hst
              clear hst he0 HST
              go_wp2_with fail
              refine (next_any R LL ln ⟨#[101, 110, 100]⟩ 1 W0 wr (by omega) hLL HRR.out).mono ?_
              rintro e w5 ⟨hk5, hm⟩
              have HC5 := Lib.hid (hk5.cells HCR.out (fun h => by omega))
              have HG5 := Lib.hid (hk5.cells HCG.out (fun h => by omega))
              have HKW5 : Hid (Kept (fun k => k = R) W w5) := Lib.hid (HKWR.out.trans hk5)
              have HO5 := Lib.hid (keptS_own HO.out hk5 (fun k h => by have := (HO.out.block h).1; omega))
              clear hk5
              cases LL with
              | nil =>
                obtain ⟨rfl, hr5⟩ := hm
                have HR5 := Lib.hid hr5
                have HG : Hid (graphT ((x :: L').map RowV.t) = .error (5, ln)) := Lib.hid (by rw [HA.out, HST0.out]; rfl)
                clear hr5
                have c0 : w5.cell? ⟨W.heap.size, 0, none⟩ = some (.int .i64 0) := HC5.out.cell 0
                have c1 : w5.cell? ⟨W.heap.size, 1, none⟩ = some (.slice none 0 0) := HC5.out.cell 1
                have f0 := HC5.out.frozen 0
                have f1 := HC5.out.frozen 1
                have hfin := (HC5.out.set_ 0 (.int .i64 0)).set_ 1 (.slice none 0 0)
                simp only [List.setIfInBounds_toArray, List.set_cons_zero, List.set_cons_succ] at hfin
                have hkz : Kept (fun k => k = W.heap.size) w5 ((w5.setCell ⟨W.heap.size, 0, none⟩ (.int .i64 0)).setCell ⟨W.heap.size, 1, none⟩ (.slice none 0 0)) := ((Kept.refl (fun k => k = W.heap.size) w5).set_ (p := ⟨W.heap.size, 0, none⟩) (.inl rfl) _).set_ (p := ⟨W.heap.size, 1, none⟩) (.inl rfl) _
                have HFIN := Lib.hid hfin
                have HKZ := Lib.hid hkz
                clear hfin hkz
                go_wp2_with fail
                generalize (w5.setCell ⟨W.heap.size, 0, none⟩ (.int .i64 0)).setCell ⟨W.heap.size, 1, none⟩ (.slice none 0 0) = wz at *
                have r0 : wz.cell? ⟨W.heap.size, 0, none⟩ = some (.int .i64 0) := HFIN.out.cell 0
                have r1 : wz.cell? ⟨W.heap.size, 1, none⟩ = some (.slice none 0 0) := HFIN.out.cell 1
                have hrz := HR5.out.step HKZ.out (fun k hk => by subst hk; exact ⟨by omega, hWX⟩)
                have hkw : Kept (fun k => k = R) W wz := HKW5.out.trans2 HKZ.out (fun k hk => .inr (by rw [hk]; exact Nat.le_refl _))
                have HEND : Hid (GrIs W0 R (x :: L') W (.returned (.tuple #[.agg #[.int .i64 0, .slice none 0 0], .iface 27 (.int .i64 5)])) wz) := Lib.hid (⟨hkw, by rw [HG.out]; exact ⟨rfl, _, hrz⟩⟩)
                rw [HQ0.out]
                refine bodyPost_ret (v := .tuple #[.agg #[.int .i64 0, .slice none 0 0], .iface 27 (.int .i64 5)]) ?hres rfl HEND.out
                case hres => simp [results, Tryz.results27, go_sem, r0, r1]
              | cons y LL' =>
                obtain ⟨hr5, hm⟩ := hm
                have HR5 := Lib.hid hr5
                clear hr5
                have hend0 : graphT ((x :: L').map RowV.t) = match formR y.t [101, 110, 100] 1 with
                  | some c => .error (c, y.line)
                  | none => match LL'.map RowV.t with
                    | [] => .ok ⟨v0, al⟩
                    | z :: _ => .error (6, z.line) := by rw [HA.out, HST0.out]; rfl
                cases hfo : formR y.t [101, 110, 100] 1 with
                | some c =>
                  have hm' : e = .returned (.tuple #[.slice none 0 0, .iface 27 (.int .i64 c)]) := by
                    have h := hm
                    rw [hfo] at h
                    exact h
                  clear hm
                  subst hm'
                  rw [hfo] at hend0
                  have HG := Lib.hid hend0
                  clear hend0 hfo
                  have c0 : w5.cell? ⟨W.heap.size, 0, none⟩ = some (.int .i64 0) := HC5.out.cell 0
                  have c1 : w5.cell? ⟨W.heap.size, 1, none⟩ = some (.slice none 0 0) := HC5.out.cell 1
                  have f0 := HC5.out.frozen 0
                  have f1 := HC5.out.frozen 1
                  have hfin := (HC5.out.set_ 0 (.int .i64 0)).set_ 1 (.slice none 0 0)
                  simp only [List.setIfInBounds_toArray, List.set_cons_zero, List.set_cons_succ] at hfin
                  have hkz : Kept (fun k => k = W.heap.size) w5 ((w5.setCell ⟨W.heap.size, 0, none⟩ (.int .i64 0)).setCell ⟨W.heap.size, 1, none⟩ (.slice none 0 0)) := ((Kept.refl (fun k => k = W.heap.size) w5).set_ (p := ⟨W.heap.size, 0, none⟩) (.inl rfl) _).set_ (p := ⟨W.heap.size, 1, none⟩) (.inl rfl) _
                  have HFIN := Lib.hid hfin
                  have HKZ := Lib.hid hkz
                  clear hfin hkz
                  go_wp2_with fail
                  generalize (w5.setCell ⟨W.heap.size, 0, none⟩ (.int .i64 0)).setCell ⟨W.heap.size, 1, none⟩ (.slice none 0 0) = wz at *
                  have r0 : wz.cell? ⟨W.heap.size, 0, none⟩ = some (.int .i64 0) := HFIN.out.cell 0
                  have r1 : wz.cell? ⟨W.heap.size, 1, none⟩ = some (.slice none 0 0) := HFIN.out.cell 1
                  have hrz := HR5.out.step HKZ.out (fun k hk => by subst hk; exact ⟨by omega, hWX⟩)
                  have hkw : Kept (fun k => k = R) W wz := HKW5.out.trans2 HKZ.out (fun k hk => .inr (by rw [hk]; exact Nat.le_refl _))
                  have HEND : Hid (GrIs W0 R (x :: L') W (.returned (.tuple #[.agg #[.int .i64 0, .slice none 0 0], .iface 27 (.int .i64 c)])) wz) := Lib.hid (⟨hkw, by rw [HG.out]; exact ⟨rfl, _, hrz⟩⟩)
                  rw [HQ0.out]
                  refine bodyPost_ret (v := .tuple #[.agg #[.int .i64 0, .slice none 0 0], .iface 27 (.int .i64 c)]) ?hres rfl HEND.out
                  case hres => simp [results, Tryz.results27, go_sem, r0, r1]
                | none =>
                  obtain ⟨A8, k8, hm'⟩ : ∃ A k, e = .returned (.tuple #[.slice A (y.ws.length - 1) k, .nilIface]) := by
                    have h := hm
                    rw [hfo] at h
                    obtain ⟨A, k, h1, _⟩ := h
                    exact ⟨A, k, h1⟩
                  clear hm
                  subst hm'
                  rw [hfo] at hend0
                  obtain ⟨hk0, A9, k9, hc9, hk1, hk2, hrd0, hoff2, hoff⟩ := HR5.out
                  have hrd := rdRow_kept hrd0 hk0 hoff2 hoff
                  have t0 := hc9.cell 0
                  have t1 := hc9.cell 1
                  have ft1 := hc9.frozen 1
                  clear hk0 hc9 hrd0 hoff2 hoff hfo
                  cases LL' with
                  | nil =>
                    have HG := Lib.hid hend0
                    clear hend0 hrd
                    obtain ⟨A6, c6, hsv, hc61, hc62⟩ := HO5.out.form
                    rw [hal] at hsv
                    subst hsv
                    have d0 := HG5.out.cell 0
                    have d1 := HG5.out.cell 1
                    have c0 : w5.cell? ⟨W.heap.size, 0, none⟩ = some (.int .i64 0) := HC5.out.cell 0
                    have c1 : w5.cell? ⟨W.heap.size, 1, none⟩ = some (.slice none 0 0) := HC5.out.cell 1
                    have f0 := HC5.out.frozen 0
                    have f1 := HC5.out.frozen 1
                    have hfin := (HC5.out.set_ 0 (.int .i64 (v0 : Int))).set_ 1 (.slice A6 j c6)
                    simp only [List.setIfInBounds_toArray, List.set_cons_zero, List.set_cons_succ] at hfin
                    have hkz : Kept (fun k => k = W.heap.size) w5 ((w5.setCell ⟨W.heap.size, 0, none⟩ (.int .i64 (v0 : Int))).setCell ⟨W.heap.size, 1, none⟩ (.slice A6 j c6)) := ((Kept.refl (fun k => k = W.heap.size) w5).set_ (p := ⟨W.heap.size, 0, none⟩) (.inl rfl) _).set_ (p := ⟨W.heap.size, 1, none⟩) (.inl rfl) _
                    have HFIN := Lib.hid hfin
                    have HKZ := Lib.hid hkz
                    clear hfin hkz
                    go_wp2_with fail
                    generalize (w5.setCell ⟨W.heap.size, 0, none⟩ (.int .i64 (v0 : Int))).setCell ⟨W.heap.size, 1, none⟩ (.slice A6 j c6) = wz at *
                    have r0 : wz.cell? ⟨W.heap.size, 0, none⟩ = some (.int .i64 (v0 : Int)) := HFIN.out.cell 0
                    have r1 : wz.cell? ⟨W.heap.size, 1, none⟩ = some (.slice A6 j c6) := HFIN.out.cell 1
                    have hrz := HR5.out.step HKZ.out (fun k hk => by subst hk; exact ⟨by omega, hWX⟩)
                    have hkw : Kept (fun k => k = R) W wz := HKW5.out.trans2 HKZ.out (fun k hk => .inr (by rw [hk]; exact Nat.le_refl _))
                    have HEND : Hid (GrIs W0 R (x :: L') W (.returned (.tuple #[.agg #[.int .i64 (v0 : Int), .slice A6 j c6], .nilIface])) wz) := Lib.hid (⟨hkw, by rw [HG.out]; exact ⟨A6, c6, by (first | rfl | rw [hal] | (dsimp only; rw [hal])), by (first | skip); dsimp only; rw [hal]; exact (keptS_own HO5.out HKZ.out (fun k h => by have := (HO5.out.block h).1; omega)).mono (by omega)⟩⟩)
                    rw [HQ0.out]
                    refine bodyPost_ret (v := .tuple #[.agg #[.int .i64 (v0 : Int), .slice A6 j c6], .nilIface]) ?hres rfl HEND.out
                    case hres => simp [results, Tryz.results27, go_sem, r0, r1]
                  | cons z LL'' =>
                    have HG : Hid (graphT ((x :: L').map RowV.t) = .error (6, z.line)) := Lib.hid hend0
                    obtain ⟨ad9, hA9, cc⟩ := hrd.rows.at_ (j := 0) (by simp)
                    have z0 : w5.cell? ad9 = some (.int .i64 z.line) := cc 0 _ rfl
                    have g8 : decide ((0 : Int) < (((LL''.length + 1 : Nat)) : Int)) = true := decide_eq_true (by omega)
                    have hlz : (z :: LL'').length = LL''.length + 1 := rfl
                    have p8 : (0 : Int) < (LL''.length : Int) + 1 := by omega
                    have p9 : (0 : Int) < ((LL''.length + 1 : Nat) : Int) := by omega
                    rw [hlz] at t0
                    rw [hA9] at t0
                    have hrl := HR5.out.line_ z.line
                    have HRL := Lib.hid hrl
                    have hkl : Kept (fun k => k = R) w5 (w5.setCell ⟨R, 1, none⟩ (.int .i64 z.line)) := (Kept.refl (fun k => k = R) w5).set_ (p := ⟨R, 1, none⟩) (.inl rfl) _
                    have HCL := Lib.hid (hkl.cells HC5.out (fun h => by omega))
                    have HKWL : Hid (Kept (fun k => k = R) W (w5.setCell ⟨R, 1, none⟩ (.int .i64 z.line))) := Lib.hid (HKW5.out.trans hkl)
                    clear hrd cc hend0 hrl hkl hA9
                    have c0 : (w5.setCell ⟨R, 1, none⟩ (.int .i64 z.line)).cell? ⟨W.heap.size, 0, none⟩ = some (.int .i64 0) := HCL.out.cell 0
                    have c1 : (w5.setCell ⟨R, 1, none⟩ (.int .i64 z.line)).cell? ⟨W.heap.size, 1, none⟩ = some (.slice none 0 0) := HCL.out.cell 1
                    have f0 := HCL.out.frozen 0
                    have f1 := HCL.out.frozen 1
                    have hfin := (HCL.out.set_ 0 (.int .i64 0)).set_ 1 (.slice none 0 0)
                    simp only [List.setIfInBounds_toArray, List.set_cons_zero, List.set_cons_succ] at hfin
                    have hkz : Kept (fun k => k = W.heap.size) (w5.setCell ⟨R, 1, none⟩ (.int .i64 z.line)) (((w5.setCell ⟨R, 1, none⟩ (.int .i64 z.line)).setCell ⟨W.heap.size, 0, none⟩ (.int .i64 0)).setCell ⟨W.heap.size, 1, none⟩ (.slice none 0 0)) := ((Kept.refl (fun k => k = W.heap.size) (w5.setCell ⟨R, 1, none⟩ (.int .i64 z.line))).set_ (p := ⟨W.heap.size, 0, none⟩) (.inl rfl) _).set_ (p := ⟨W.heap.size, 1, none⟩) (.inl rfl) _
                    have HFIN := Lib.hid hfin
                    have HKZ := Lib.hid hkz
                    clear hfin hkz
                    go_wp2_with fail
                    generalize ((w5.setCell ⟨R, 1, none⟩ (.int .i64 z.line)).setCell ⟨W.heap.size, 0, none⟩ (.int .i64 0)).setCell ⟨W.heap.size, 1, none⟩ (.slice none 0 0) = wz at *
                    have r0 : wz.cell? ⟨W.heap.size, 0, none⟩ = some (.int .i64 0) := HFIN.out.cell 0
                    have r1 : wz.cell? ⟨W.heap.size, 1, none⟩ = some (.slice none 0 0) := HFIN.out.cell 1
                    have hrz := HRL.out.step HKZ.out (fun k hk => by subst hk; exact ⟨by omega, hWX⟩)
                    have hkw : Kept (fun k => k = R) W wz := HKWL.out.trans2 HKZ.out (fun k hk => .inr (by rw [hk]; exact Nat.le_refl _))
                    have HEND : Hid (GrIs W0 R (x :: L') W (.returned (.tuple #[.agg #[.int .i64 0, .slice none 0 0], .iface 27 (.int .i64 6)])) wz) := Lib.hid (⟨hkw, by rw [HG.out]; exact ⟨rfl, _, hrz⟩⟩)
                    rw [HQ0.out]
                    refine bodyPost_ret (v := .tuple #[.agg #[.int .i64 0, .slice none 0 0], .iface 27 (.int .i64 6)]) ?hres rfl HEND.out
                    case hres => simp [results, Tryz.results27, go_sem, r0, r1]
end Go.Proofs.YtmnnoecjedkdjaaGreatDoor
