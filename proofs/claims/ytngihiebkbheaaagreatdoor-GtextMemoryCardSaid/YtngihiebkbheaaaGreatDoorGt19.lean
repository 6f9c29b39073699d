/- The document's: the arc of a row. -/
import Derived.Test.YtngihiebkbheaaaGreatDoorGt18
set_option linter.unusedSimpArgs false
set_option linter.unusedVariables false
namespace Go.Proofs.YtngihiebkbheaaaGreatDoor
open Go.RowKit Txt

theorem numE_neg {y : Bs} {m : Nat} {b : Int} : (numT y m = .error 4 → numE y (-1) b = .error 4) ∧ (numT y m ≠ .error 4 → numE y (-1) b = .error b) := by
  unfold numT numE
  by_cases h : formB y = true
  · rw [if_pos h, if_pos h, if_pos (show (-1 : Int) < (valN y : Int) by omega)]
    refine ⟨fun h2 => ?_, fun _ => rfl⟩
    split at h2
    · injection h2 with h2; omega
    · cases h2
  · rw [if_neg h, if_neg h]
    exact ⟨fun _ => rfl, fun h2 => absurd rfl h2⟩
def ArcRow (r : Except Int ArcT) (line : Int) (W : World) (e : Ending) (w' : World) : Prop := Below W.heap.size W w' ∧ match r with
  | .error c => ∃ ex, e = .returned (.tuple #[arcV ⟨0, 0, 0⟩, errV ex]) ∧ DocX (some (c, some (1, line))) W.heap.size ex w'
  | .ok a => e = .returned (.tuple #[arcV a, errV zX])
/-- an arc and an error laid into their cells, in either order -/
def Laid2 (p q : Nat) (a : ArcT) (x : ErrX) (w wz : World) : Prop := Cells wz p #[.int .i64 a.f, .int .i64 a.t, .int .i64 a.w] 54 ∧ Cells wz q #[.int .i64 x.c, .slice x.A x.n x.k] 32 ∧ Kept (fun k => k = p ∨ k = q) w wz
theorem laid2 {w : World} {p q : Nat} (a : ArcT) (x : ErrX) (hp : Cells w p #[.int .i64 0, .int .i64 0, .int .i64 0] 54) (hq : Cells w q #[.int .i64 0, .slice none 0 0] 32) (hne : p ≠ q) :
    Laid2 p q a x w (((((w.setCell ⟨p, 0, none⟩ (.int .i64 a.f)).setCell ⟨p, 1, none⟩ (.int .i64 a.t)).setCell ⟨p, 2, none⟩ (.int .i64 a.w)).setCell ⟨q, 0, none⟩ (.int .i64 x.c)).setCell ⟨q, 1, none⟩ (.slice x.A x.n x.k)) ∧
    Laid2 p q a x w (((((w.setCell ⟨q, 0, none⟩ (.int .i64 x.c)).setCell ⟨q, 1, none⟩ (.slice x.A x.n x.k)).setCell ⟨p, 0, none⟩ (.int .i64 a.f)).setCell ⟨p, 1, none⟩ (.int .i64 a.t)).setCell ⟨p, 2, none⟩ (.int .i64 a.w)) := by
  have hp' := ((hp.set_ 0 (.int .i64 a.f)).set_ 1 (.int .i64 a.t)).set_ 2 (.int .i64 a.w)
  have hq' := (hq.set_ 0 (.int .i64 x.c)).set_ 1 (.slice x.A x.n x.k)
  simp only [List.setIfInBounds_toArray, List.set_cons_zero, List.set_cons_succ] at hp' hq'
  have k1 : Kept (fun k => k = p) w (((w.setCell ⟨p, 0, none⟩ (.int .i64 a.f)).setCell ⟨p, 1, none⟩ (.int .i64 a.t)).setCell ⟨p, 2, none⟩ (.int .i64 a.w)) := (((Kept.refl (fun k => k = p) w).set_ (p := ⟨p, 0, none⟩) (.inl rfl) _).set_ (p := ⟨p, 1, none⟩) (.inl rfl) _).set_ (p := ⟨p, 2, none⟩) (.inl rfl) _
  have k2 : Kept (fun k => k = q) w ((w.setCell ⟨q, 0, none⟩ (.int .i64 x.c)).setCell ⟨q, 1, none⟩ (.slice x.A x.n x.k)) := ((Kept.refl (fun k => k = q) w).set_ (p := ⟨q, 0, none⟩) (.inl rfl) _).set_ (p := ⟨q, 1, none⟩) (.inl rfl) _
  refine ⟨?_, ?_⟩
  · have hq1 := k1.cells hq (fun h => hne h.symm)
    generalize ((w.setCell ⟨p, 0, none⟩ (.int .i64 a.f)).setCell ⟨p, 1, none⟩ (.int .i64 a.t)).setCell ⟨p, 2, none⟩ (.int .i64 a.w) = w1 at *
    have hq2 := (hq1.set_ 0 (.int .i64 x.c)).set_ 1 (.slice x.A x.n x.k)
    simp only [List.setIfInBounds_toArray, List.set_cons_zero, List.set_cons_succ] at hq2
    have k3 : Kept (fun k => k = q) w1 ((w1.setCell ⟨q, 0, none⟩ (.int .i64 x.c)).setCell ⟨q, 1, none⟩ (.slice x.A x.n x.k)) := ((Kept.refl (fun k => k = q) w1).set_ (p := ⟨q, 0, none⟩) (.inl rfl) _).set_ (p := ⟨q, 1, none⟩) (.inl rfl) _
    exact ⟨k3.cells hp' hne, hq2, ((Kept.refl (fun k => k = p ∨ k = q) w).trans2 k1 (fun k h => .inl (.inl h))).trans2 k3 (fun k h => .inl (.inr h))⟩
  · have hp1 := k2.cells hp hne
    generalize (w.setCell ⟨q, 0, none⟩ (.int .i64 x.c)).setCell ⟨q, 1, none⟩ (.slice x.A x.n x.k) = w1 at *
    have hp2 := ((hp1.set_ 0 (.int .i64 a.f)).set_ 1 (.int .i64 a.t)).set_ 2 (.int .i64 a.w)
    simp only [List.setIfInBounds_toArray, List.set_cons_zero, List.set_cons_succ] at hp2
    have k3 : Kept (fun k => k = p) w1 (((w1.setCell ⟨p, 0, none⟩ (.int .i64 a.f)).setCell ⟨p, 1, none⟩ (.int .i64 a.t)).setCell ⟨p, 2, none⟩ (.int .i64 a.w)) := (((Kept.refl (fun k => k = p) w1).set_ (p := ⟨p, 0, none⟩) (.inl rfl) _).set_ (p := ⟨p, 1, none⟩) (.inl rfl) _).set_ (p := ⟨p, 2, none⟩) (.inl rfl) _
    exact ⟨hp2, k3.cells hq' (fun h => hne h.symm), ((Kept.refl (fun k => k = p ∨ k = q) w).trans2 k2 (fun k h => .inl (.inr h))).trans2 k3 (fun k h => .inl (.inl h))⟩
theorem Laid2.drew {w wz : World} {p q : Nat} {a : ArcT} {x : ErrX} (h : Laid2 p q a x w wz) : Laid2 p q a x w wz.drew :=
  ⟨h.1.below (Below.drew (Below.refl _ _)), h.2.1.below (Below.drew (Below.refl _ _)), h.2.2.trans (Kept.of_below (Below.drew (Below.refl _ _)))⟩
theorem DocX.keptS {b : Bug} {base p q : Nat} {ex : ErrX} {w w' : World} (h : DocX b base ex w) (hk : Kept (fun k => k = p ∨ k = q) w w') (hb : p < base ∧ q < base) : DocX b base ex w' := by
  cases b with
  | none => exact h
  | some r =>
    obtain ⟨c, s⟩ := r
    cases s with
    | none => exact h
    | some s =>
      obtain ⟨k, a⟩ := s
      obtain ⟨g, cap, h1, h2, h3⟩ := h
      exact ⟨g, cap, h1, hk.cells h2 (fun h => by omega), h3⟩
theorem Kept.rd {R : Nat} {w w' : World} {A : Option Addr} {n : Nat} {l : List ByteArray} (hk : Kept (fun k => k = R) w w') (h : RdS w A n l) (hA : ∀ ad, A = some ad → ad.block ≠ R) : RdS w' A n l :=
  ⟨h.1, fun hn => by
    obtain ⟨ad, e, hc⟩ := h.2 hn
    refine ⟨ad, e, fun j x i u hj hi => ?_⟩
    have h1 := hc j x i u hj hi
    have hlt := World.block_lt_of_cell? _ _ h1
    have h2 := hk.block (ad.add (j * 1 + i)).block hlt (by rw [block_of_add]; exact hA ad e)
    exact (World.cell?_of_block h2).trans h1⟩
theorem three_al (W : World) (a b c : Obj) : Below W.heap.size W (((W.alloc a).alloc b).alloc c) := (((Below.refl _ W).alloc (Nat.le_refl _) a).alloc (by simp) b).alloc (by simp; omega) c
set_option maxRecDepth 100000 in
set_option maxHeartbeats 8000000 in
theorem docarc_any (x : RowV) (n : Nat) (W : World) (hn : n ≤ 65536) (hx1 : RdS W x.A x.ws.length (x.ws.map toB)) (hx2 : 0 < x.ws.length) (hx4 : x.ws.length ≤ 9223372036854775807) (hsz : ∀ y ∈ x.ws, y.length ≤ 1048576) :
    Calls Tryz.prog 56 #[.agg #[.int .i64 x.line, .slice x.A x.ws.length x.k], .int .i64 (n : Int)] W (ArcRow (arcR x.t n) x.line W) := by
  have hb := three_al W (.cells #[.int .i64 x.line, .slice x.A x.ws.length x.k] 118) (.cells #[.int .i64 0, .int .i64 0, .int .i64 0] 54) (.cells #[.int .i64 0, .slice none 0 0] 32)
  have hr := ((cells_new W #[.int .i64 x.line, .slice x.A x.ws.length x.k] 118).below ((Below.refl _ _).alloc (Nat.le_refl _) (.cells #[.int .i64 0, .int .i64 0, .int .i64 0] 54))).below ((Below.refl _ _).alloc (Nat.le_refl _) (.cells #[.int .i64 0, .slice none 0 0] 32))
  have ha := (cells_new (W.alloc (.cells #[.int .i64 x.line, .slice x.A x.ws.length x.k] 118)) #[.int .i64 0, .int .i64 0, .int .i64 0] 54).below ((Below.refl _ _).alloc (Nat.le_refl _) (.cells #[.int .i64 0, .slice none 0 0] 32))
  have he := cells_new ((W.alloc (.cells #[.int .i64 x.line, .slice x.A x.ws.length x.k] 118)).alloc (.cells #[.int .i64 0, .int .i64 0, .int .i64 0] 54)) #[.int .i64 0, .slice none 0 0] 32
  have hz : (((W.alloc (.cells #[.int .i64 x.line, .slice x.A x.ws.length x.k] 118)).alloc (.cells #[.int .i64 0, .int .i64 0, .int .i64 0] 54)).alloc (.cells #[.int .i64 0, .slice none 0 0] 32)).heap.size = W.heap.size + 1 + 1 + 1 := by simp
  rw [size_alloc] at ha
  rw [size_alloc, size_alloc] at he
  have HB := Lib.hid hb
  have HR := Lib.hid hr
  have HA := Lib.hid ha
  have HE := Lib.hid he
  have HX := Lib.hid (hx1.below hb)
  clear hb hr ha he hx1
  go_enter Tryz.func56, Tryz.ntmps56
  go_upto_region 1 with fail
  generalize (((W.alloc (.cells #[.int .i64 x.line, .slice x.A x.ws.length x.k] 118)).alloc (.cells #[.int .i64 0, .int .i64 0, .int .i64 0] 54)).alloc (.cells #[.int .i64 0, .slice none 0 0] 32)) = w1 at *
  have l0 := HR.out.cell 0
  have l1 := HR.out.cell 1
  have HF := Lib.hid (form_any x ⟨#[97, 114, 99]⟩ 4 w1 (by omega) HX.out hx2 hx4)
  go_wp2_with fail
  refine HF.out.mono ?_
  rintro e w2 ⟨hb2, ex, rfl, hd⟩
  have HB2 : Hid (Below W.heap.size W w2) := Lib.hid (HB.out.trans (hb2.mono (by omega)))
  have HR2 := Lib.hid (HR.out.below hb2)
  have HA2 := Lib.hid (HA.out.below hb2)
  have HE2 := Lib.hid (HE.out.below hb2)
  have HX2 := Lib.hid (HX.out.below hb2)
  have HD2 := Lib.hid hd
  have hs2 := hb2.size
  clear hb2 HF HB HR HA HE HX hd l0 l1
  have hform : formBug x arcW 4 = formBug x [97, 114, 99] 4 := rfl
  unfold errV
  have hb3 := (Below.refl w2.heap.size w2).alloc (Nat.le_refl _) (.cells #[.int .i64 ex.c, .slice ex.A ex.n ex.k] 32)
  have hx3 := cells_new w2 #[.int .i64 ex.c, .slice ex.A ex.n ex.k] 32
  have HB3 := Lib.hid (HB2.out.trans (hb3.mono HB2.out.size))
  have HR3 := Lib.hid (HR2.out.below hb3)
  have HA3 := Lib.hid (HA2.out.below hb3)
  have HE3 := Lib.hid (HE2.out.below hb3)
  have HWS3 := Lib.hid (HX2.out.below hb3)
  have HD3 := Lib.hid (HD2.out.below hb3)
  have HX3 := Lib.hid hx3
  clear hb3 hx3
  go_upto_region 2 with fail
  generalize w2.alloc (.cells #[.int .i64 ex.c, .slice ex.A ex.n ex.k] 32) = w3 at *
  have x0 := HX3.out.cell 0
  have x1 := HX3.out.cell 1
  go_wp2_with fail
  refine (Bad_any ex.c ex.A ex.n ex.k w3).mono ?_
  rintro e w4 ⟨rfl, hb4⟩
  have HB4 := Lib.hid (HB3.out.trans (hb4.mono HB3.out.size))
  have HR4 := Lib.hid (HR3.out.below hb4)
  have HA4 := Lib.hid (HA3.out.below hb4)
  have HE4 := Lib.hid (HE3.out.below hb4)
  have HWS4 := Lib.hid (HWS3.out.below hb4)
  have HD4 := Lib.hid (HD3.out.below hb4)
  have HX4 := Lib.hid (HX3.out.below hb4)
  clear hb4 x0 x1
  have hbad : decide (ex.c ≠ 0 ∨ 0 < ex.n) = (formBug x [97, 114, 99] 4).isSome := HD4.out.bad (by
    intro p hp
    unfold formBug at hp
    split at hp
    · cases hp
    · rename_i c hc
      injection hp with hp
      subst hp
      unfold formR at hc
      (repeat' split at hc) <;> simp_all <;> omega)
  rw [hbad]
  cases hfo : formR x.t [97, 114, 99] 4 with
  | some c =>
    have hbug : formBug x [97, 114, 99] 4 = some (c, some (1, x.line)) := by unfold formBug; rw [hfo]
    have hD := HD4.out
    rw [hbug] at hD ⊢
    have hA : arcR x.t n = .error c := by unfold arcR; rw [show formR x.t arcW 4 = formR x.t [97, 114, 99] 4 from rfl, hfo]
    have HDX := Lib.hid hD
    have HAR := Lib.hid hA
    clear hD hA
    have x0 := HX4.out.cell 0
    have x1 := HX4.out.cell 1
    have a0 := HA4.out.cell 0
    have a1 := HA4.out.cell 1
    have a2 := HA4.out.cell 2
    have fa0 := HA4.out.frozen 0
    have fa1 := HA4.out.frozen 1
    have fa2 := HA4.out.frozen 2
    have e0 := HE4.out.cell 0
    have e1 := HE4.out.cell 1
    have fe0 := HE4.out.frozen 0
    have fe1 := HE4.out.frozen 1
    clear hbad HD3 HD2 HD4
    go_upto_region 3 with fail
    go_region
    all_goals
        have hl : Laid2 (W.heap.size + 1) (W.heap.size + 1 + 1) ⟨0, 0, 0⟩ ex w4 (((((w4.setCell ⟨W.heap.size + 1, 0, none⟩ (.int .i64 0)).setCell ⟨W.heap.size + 1, 1, none⟩ (.int .i64 0)).setCell ⟨W.heap.size + 1, 2, none⟩ (.int .i64 0)).setCell ⟨W.heap.size + 1 + 1, 0, none⟩ (.int .i64 ex.c)).setCell ⟨W.heap.size + 1 + 1, 1, none⟩ (.slice ex.A ex.n ex.k)).drew := (laid2 (p := W.heap.size + 1) (q := W.heap.size + 1 + 1) ⟨0, 0, 0⟩ ex HA4.out HE4.out (by omega)).1.drew
        generalize (((((w4.setCell ⟨W.heap.size + 1, 0, none⟩ (.int .i64 0)).setCell ⟨W.heap.size + 1, 1, none⟩ (.int .i64 0)).setCell ⟨W.heap.size + 1, 2, none⟩ (.int .i64 0)).setCell ⟨W.heap.size + 1 + 1, 0, none⟩ (.int .i64 ex.c)).setCell ⟨W.heap.size + 1 + 1, 1, none⟩ (.slice ex.A ex.n ex.k)).drew = wz at *
        obtain ⟨hla, hle, hlk⟩ := hl
        have r0 : wz.cell? ⟨W.heap.size + 1, 0, none⟩ = some (.int .i64 0) := hla.cell 0
        have r1 : wz.cell? ⟨W.heap.size + 1, 1, none⟩ = some (.int .i64 0) := hla.cell 1
        have r2 : wz.cell? ⟨W.heap.size + 1, 2, none⟩ = some (.int .i64 0) := hla.cell 2
        have r3 : wz.cell? ⟨W.heap.size + 1 + 1, 0, none⟩ = some (.int .i64 ex.c) := hle.cell 0
        have r4 : wz.cell? ⟨W.heap.size + 1 + 1, 1, none⟩ = some (.slice ex.A ex.n ex.k) := hle.cell 1
        have hbz : Below W.heap.size W wz := hlk.below HB4.out (fun k h => by omega) HB4.out.size
        have HEND : Hid (ArcRow (arcR x.t _) x.line W (.returned (.tuple #[arcV ⟨0, 0, 0⟩, .agg #[.int .i64 ex.c, (.slice ex.A ex.n ex.k)]])) wz) := Lib.hid (by rw [HAR.out]; exact ⟨hbz, ex, rfl, (HDX.out.keptS hlk (by omega)).mono (by omega)⟩)
        clear hla hle
        go_wp2_with fail
        refine bodyPost_ret (v := .tuple #[arcV ⟨0, 0, 0⟩, .agg #[.int .i64 ex.c, (.slice ex.A ex.n ex.k)]]) ?hres rfl HEND.out
        case hres => simp [results, Tryz.results56, go_sem, r0, r1, r2, r3, r4]
  | none =>
    have hbug : formBug x [97, 114, 99] 4 = none := by unfold formBug; rw [hfo]
    rw [hbug]
    clear hbad HD3 HD2 HD4
    obtain ⟨hh, hl4⟩ := form_none hfo
    obtain ⟨a0, a1, a2, a3, hws⟩ : ∃ a0 a1 a2 a3, x.ws = [a0, a1, a2, a3] := by
      have hl : x.ws.length = 4 := hl4
      match h : x.ws, hl with
      | [a0, a1, a2, a3], _ => exact ⟨a0, a1, a2, a3, rfl⟩
    have hA : arcR x.t n = match numE a1 ((n : Int) - 1) 7 with
      | .error c => .error c
      | .ok a => match numE a2 ((n : Int) - 1) 7 with
        | .error c => .error c
        | .ok b => match numE a3 2147483647 8 with
          | .error c => .error c
          | .ok w => .ok ⟨a, b, w⟩ := by
      have hws' : x.t.ws = [a0, a1, a2, a3] := hws
      unfold arcR
      rw [show formR x.t arcW 4 = formR x.t [97, 114, 99] 4 from rfl, hfo, hws']
      rfl
    have hl4' : x.ws.length = 4 := hl4
    have hadX : ∀ ad, x.A = some ad → ad.block < w4.heap.size := fun ad hxA => by
      obtain ⟨ad', hA', cc⟩ := HWS4.out.at_ (j := 0) hx2
      have h0 := World.block_lt_of_cell? _ _ (cc 0 _ rfl)
      rw [block_of_add] at h0
      rw [hxA] at hA'
      injection hA' with hA'
      subst hA'
      exact h0
    have hrlt := HE4.out.lt
    have d1 : ∀ w, RdS w x.A x.ws.length (x.ws.map toB) → ∀ m : Nat, m ≤ 2147483647 → Calls Tryz.prog 55 #[.agg #[.int .i64 x.line, .slice x.A x.ws.length x.k], .int .i64 1, .int .u64 (m : Int), .int .i64 7] w (NumRow (numE a1 (m : Int) 7) x.line w) := fun w h m hm => by
      have h1 := docnum_any x 1 m 7 w (by omega) hm h hx4 (hsz _ (List.getElem_mem _))
      rwa [show x.ws[1]'(by omega) = a1 by simp [hws]] at h1
    have d2 : ∀ w, RdS w x.A x.ws.length (x.ws.map toB) → ∀ m : Nat, m ≤ 2147483647 → Calls Tryz.prog 55 #[.agg #[.int .i64 x.line, .slice x.A x.ws.length x.k], .int .i64 2, .int .u64 (m : Int), .int .i64 7] w (NumRow (numE a2 (m : Int) 7) x.line w) := fun w h m hm => by
      have h1 := docnum_any x 2 m 7 w (by omega) hm h hx4 (hsz _ (List.getElem_mem _))
      rwa [show x.ws[2]'(by omega) = a2 by simp [hws]] at h1
    have d3 : ∀ w, RdS w x.A x.ws.length (x.ws.map toB) → Calls Tryz.prog 55 #[.agg #[.int .i64 x.line, .slice x.A x.ws.length x.k], .int .i64 3, .int .u64 2147483647, .int .i64 8] w (NumRow (numE a3 2147483647 8) x.line w) := fun w h => by
      have h1 := docnum_any x 3 2147483647 8 w (by omega) (by omega) h hx4 (hsz _ (List.getElem_mem _))
      rwa [show x.ws[3]'(by omega) = a3 by simp [hws]] at h1
    have D1 := Lib.hid d1
    have D2 := Lib.hid d2
    have D3 := Lib.hid d3
    have HAR0 := Lib.hid hA
    have HADX := Lib.hid hadX
    have HWSE := Lib.hid hws
    clear d1 d2 d3 hA hadX hws hh hl4 hfo hbug HX4 HX3 HE3 HE2 HA3 HA2 HR3 HR2 HB3 HB2 HWS3 HX2
    generalize x.ws.length = ln at *
    cases n with
    | zero =>
      have p1 : (1 : Int) < (ln : Int) := by omega
      obtain ⟨ad2, hA2, cc2⟩ := HWS4.out.2 (by omega)
      have wc1 : w4.cell? ⟨ad2.block, ad2.off + 1, none⟩ = some (.string (toB a1)) := cc2 1 (toB a1) 0 (.string (toB a1)) (by rw [HWSE.out]; rfl) rfl
      have hsa : a1.length ≤ 1048576 := hsz a1 (by rw [HWSE.out]; simp)
      have HDN : Hid (Calls Tryz.prog 69 #[.string (toB a1), .int .u64 18446744073709551615] w4 (NumDoc (numT a1 18446744073709551615) w4)) := Lib.hid (DocNumber_any (toB a1) 18446744073709551615 w4 (by rw [toB_size]; omega) (Nat.le_refl _))
      have hneg := numE_neg (y := a1) (m := 18446744073709551615) (b := 7)
      have HNEG := Lib.hid hneg
      clear hl4' hsz HADX HWSE cc2 D1 D2 D3 hform hneg
      have HAR0' : Hid (arcR x.t 0 = match numE a1 (-1) 7 with
          | .error c => .error c
          | .ok a => match numE a2 (-1) 7 with
            | .error c => .error c
            | .ok b => match numE a3 2147483647 8 with
              | .error c => .error c
              | .ok w => .ok ⟨a, b, w⟩) := Lib.hid HAR0.out
      clear HAR0
      have l0 := HR4.out.cell 0
      have l1 := HR4.out.cell 1
      rw [hA2] at l1
      go_upto_region 5 with fail
      go_wp2_with fail
      refine HDN.out.mono ?_
      rintro e w5 ⟨hb5, he⟩
      clear HDN
      have HB5 := Lib.hid (HB4.out.trans (hb5.mono HB4.out.size))
      have HR5 := Lib.hid (HR4.out.below hb5)
      have HA5 := Lib.hid (HA4.out.below hb5)
      have HE5 := Lib.hid (HE4.out.below hb5)
      have hs5 := hb5.size
      clear hb5 l0 l1 wc1 HWS4
      rcases numT_cases a1 18446744073709551615 with hN | hN | ⟨v, hN, hv⟩
      · rw [hN] at he
        dsimp only at he
        subst he
        have HAR : Hid (arcR x.t 0 = .error 7) := Lib.hid (by rw [HAR0'.out, HNEG.out.2 (by rw [hN]; intro h; cases h)])
        clear hN HAR0' HNEG
        have hb6 := (Below.refl w5.heap.size w5).alloc (Nat.le_refl _) (.cells #[.int .i64 1, .slice none 0 0] 32)
        have hx6 := cells_new w5 #[.int .i64 1, .slice none 0 0] 32
        have HB6 := Lib.hid (HB5.out.trans (hb6.mono HB5.out.size))
        have HR6 := Lib.hid (HR5.out.below hb6)
        have HA6 := Lib.hid (HA5.out.below hb6)
        have HE6 := Lib.hid (HE5.out.below hb6)
        have HX6 := Lib.hid hx6
        clear hb6 hx6
        go_upto_region 6 with fail
        generalize w5.alloc (.cells #[.int .i64 1, .slice none 0 0] 32) = w6 at *
        have x0 := HX6.out.cell 0
        have x1 := HX6.out.cell 1
        have fx0 := HX6.out.frozen 0
        have fx1 := HX6.out.frozen 1
        go_wp2_with fail
        refine (E_any 7 _).mono ?_
        rintro e w7 ⟨rfl, hb7⟩
        have HB7 := Lib.hid (HB6.out.trans (hb7.mono HB6.out.size))
        have HR7 := Lib.hid (HR6.out.below hb7)
        have HA7 := Lib.hid (HA6.out.below hb7)
        have HE7 := Lib.hid (HE6.out.below hb7)
        have HX7 := Lib.hid (HX6.out.below hb7)
        have hs7 := HB7.out.size
        have hx7lt := HX7.out.lt
        have hs50 := HB5.out.size
        clear hb7 x0 x1 fx0 fx1
        have x0 := HX7.out.cell 0
        have x1 := HX7.out.cell 1
        have fx0 := HX7.out.frozen 0
        have fx1 := HX7.out.frozen 1
        have hkx : Kept (fun k => k = w5.heap.size) w7 ((w7.setCell ⟨w5.heap.size, 0, none⟩ (.int .i64 7)).setCell ⟨w5.heap.size, 1, none⟩ (.slice none 0 0)) := ((Kept.refl (fun k => k = w5.heap.size) w7).set_ (p := ⟨w5.heap.size, 0, none⟩) (.inl rfl) _).set_ (p := ⟨w5.heap.size, 1, none⟩) (.inl rfl) _
        have hx8 := (HX7.out.set_ 0 (.int .i64 7)).set_ 1 (.slice none 0 0)
        simp only [List.setIfInBounds_toArray, List.set_cons_zero, List.set_cons_succ] at hx8
        have HX8 := Lib.hid hx8
        have HB8 := Lib.hid (hkx.below HB7.out (fun k h => by omega) HB7.out.size)
        have HR8 := Lib.hid (hkx.cells HR7.out (fun h => by omega))
        have HA8 := Lib.hid (hkx.cells HA7.out (fun h => by omega))
        have HE8 := Lib.hid (hkx.cells HE7.out (fun h => by omega))
        clear hkx hx8
        go_upto_region 8 with fail
        generalize (w7.setCell ⟨w5.heap.size, 0, none⟩ (.int .i64 7)).setCell ⟨w5.heap.size, 1, none⟩ (.slice none 0 0) = w8 at *
        clear x0 x1 fx0 fx1
        have x0 := HX8.out.cell 0
        have x1 := HX8.out.cell 1
        have l0 := HR8.out.cell 0
        go_wp2_with fail
        refine (At1_any 1 x.line 7 _).mono ?_
        rintro e w9 ⟨g9, k9, rfl, hx9, hg9, hb9⟩
        have HB9 := Lib.hid (HB8.out.trans (hb9.mono HB8.out.size))
        have HA9 := Lib.hid (HA8.out.below hb9)
        have HE9 := Lib.hid (HE8.out.below hb9)
        have HX9 := Lib.hid hx9
        have hs9 := hb9.size
        have hsp := HB8.out.size
        have hlte := HE8.out.lt
        clear hb9 hx9 x0 x1 l0
        have b0 := HA9.out.cell 0
        have b1 := HA9.out.cell 1
        have b2 := HA9.out.cell 2
        have fb0 := HA9.out.frozen 0
        have fb1 := HA9.out.frozen 1
        have fb2 := HA9.out.frozen 2
        have e0 := HE9.out.cell 0
        have e1 := HE9.out.cell 1
        have fe0 := HE9.out.frozen 0
        have fe1 := HE9.out.frozen 1
        have hl : Laid2 (W.heap.size + 1) (W.heap.size + 1 + 1) ⟨0, 0, 0⟩ ⟨7, some ⟨g9, 0, none⟩, 1, k9⟩ w9 (((((w9.setCell ⟨W.heap.size + 1, 0, none⟩ (.int .i64 0)).setCell ⟨W.heap.size + 1, 1, none⟩ (.int .i64 0)).setCell ⟨W.heap.size + 1, 2, none⟩ (.int .i64 0)).setCell ⟨W.heap.size + 1 + 1, 0, none⟩ (.int .i64 7)).setCell ⟨W.heap.size + 1 + 1, 1, none⟩ (.slice (some ⟨g9, 0, none⟩) 1 k9)) := (laid2 (p := W.heap.size + 1) (q := W.heap.size + 1 + 1) ⟨0, 0, 0⟩ ⟨7, some ⟨g9, 0, none⟩, 1, k9⟩ HA9.out HE9.out (by omega)).1
        have HL := Lib.hid hl
        clear hl
        go_wp2_with fail
        generalize ((((w9.setCell ⟨W.heap.size + 1, 0, none⟩ (.int .i64 0)).setCell ⟨W.heap.size + 1, 1, none⟩ (.int .i64 0)).setCell ⟨W.heap.size + 1, 2, none⟩ (.int .i64 0)).setCell ⟨W.heap.size + 1 + 1, 0, none⟩ (.int .i64 7)).setCell ⟨W.heap.size + 1 + 1, 1, none⟩ (.slice (some ⟨g9, 0, none⟩) 1 k9) = wz at *
        obtain ⟨hla, hle, hlk⟩ := HL.out
        have r0 : wz.cell? ⟨W.heap.size + 1, 0, none⟩ = some (.int .i64 0) := hla.cell 0
        have r1 : wz.cell? ⟨W.heap.size + 1, 1, none⟩ = some (.int .i64 0) := hla.cell 1
        have r2 : wz.cell? ⟨W.heap.size + 1, 2, none⟩ = some (.int .i64 0) := hla.cell 2
        have r3 : wz.cell? ⟨W.heap.size + 1 + 1, 0, none⟩ = some (.int .i64 7) := hle.cell 0
        have r4 : wz.cell? ⟨W.heap.size + 1 + 1, 1, none⟩ = some (.slice (some ⟨g9, 0, none⟩) 1 k9) := hle.cell 1
        have hbz : Below W.heap.size W wz := hlk.below HB9.out (fun k h => by omega) HB9.out.size
        have HEND : Hid (ArcRow (arcR x.t 0) x.line W (.returned (.tuple #[arcV ⟨0, 0, 0⟩, .agg #[.int .i64 7, (.slice (some ⟨g9, 0, none⟩) 1 k9)]])) wz) := Lib.hid (by rw [HAR.out]; exact ⟨hbz, ⟨7, some ⟨g9, 0, none⟩, 1, k9⟩, rfl, g9, k9, rfl, hlk.cells HX9.out (fun h => by omega), by omega⟩)
        refine bodyPost_ret (v := .tuple #[arcV ⟨0, 0, 0⟩, .agg #[.int .i64 7, (.slice (some ⟨g9, 0, none⟩) 1 k9)]]) ?hres rfl HEND.out
        case hres => simp [results, Tryz.results56, go_sem, r0, r1, r2, r3, r4]
      · rw [hN] at he
        dsimp only at he
        subst he
        have HAR : Hid (arcR x.t 0 = .error 4) := Lib.hid (by rw [HAR0'.out, HNEG.out.1 hN])
        clear hN HAR0' HNEG
        have hb6 := (Below.refl w5.heap.size w5).alloc (Nat.le_refl _) (.cells #[.int .i64 4, .slice none 0 0] 32)
        have hx6 := cells_new w5 #[.int .i64 4, .slice none 0 0] 32
        have HB6 := Lib.hid (HB5.out.trans (hb6.mono HB5.out.size))
        have HR6 := Lib.hid (HR5.out.below hb6)
        have HA6 := Lib.hid (HA5.out.below hb6)
        have HE6 := Lib.hid (HE5.out.below hb6)
        have HX6 := Lib.hid hx6
        clear hb6 hx6
        go_upto_region 6 with fail
        generalize w5.alloc (.cells #[.int .i64 4, .slice none 0 0] 32) = w6 at *
        have x0 := HX6.out.cell 0
        have x1 := HX6.out.cell 1
        have fx0 := HX6.out.frozen 0
        have fx1 := HX6.out.frozen 1
        have l0 := HR6.out.cell 0
        go_wp2_with fail
        refine (At1_any 1 x.line 4 _).mono ?_
        rintro e w9 ⟨g9, k9, rfl, hx9, hg9, hb9⟩
        have HB9 := Lib.hid (HB6.out.trans (hb9.mono HB6.out.size))
        have HA9 := Lib.hid (HA6.out.below hb9)
        have HE9 := Lib.hid (HE6.out.below hb9)
        have HX9 := Lib.hid hx9
        have hs9 := hb9.size
        have hsp := HB6.out.size
        have hlte := HE6.out.lt
        clear hb9 hx9 x0 x1 l0
        have b0 := HA9.out.cell 0
        have b1 := HA9.out.cell 1
        have b2 := HA9.out.cell 2
        have fb0 := HA9.out.frozen 0
        have fb1 := HA9.out.frozen 1
        have fb2 := HA9.out.frozen 2
        have e0 := HE9.out.cell 0
        have e1 := HE9.out.cell 1
        have fe0 := HE9.out.frozen 0
        have fe1 := HE9.out.frozen 1
        have hl : Laid2 (W.heap.size + 1) (W.heap.size + 1 + 1) ⟨0, 0, 0⟩ ⟨4, some ⟨g9, 0, none⟩, 1, k9⟩ w9 (((((w9.setCell ⟨W.heap.size + 1, 0, none⟩ (.int .i64 0)).setCell ⟨W.heap.size + 1, 1, none⟩ (.int .i64 0)).setCell ⟨W.heap.size + 1, 2, none⟩ (.int .i64 0)).setCell ⟨W.heap.size + 1 + 1, 0, none⟩ (.int .i64 4)).setCell ⟨W.heap.size + 1 + 1, 1, none⟩ (.slice (some ⟨g9, 0, none⟩) 1 k9)) := (laid2 (p := W.heap.size + 1) (q := W.heap.size + 1 + 1) ⟨0, 0, 0⟩ ⟨4, some ⟨g9, 0, none⟩, 1, k9⟩ HA9.out HE9.out (by omega)).1
        have HL := Lib.hid hl
        clear hl
        go_wp2_with fail
        generalize ((((w9.setCell ⟨W.heap.size + 1, 0, none⟩ (.int .i64 0)).setCell ⟨W.heap.size + 1, 1, none⟩ (.int .i64 0)).setCell ⟨W.heap.size + 1, 2, none⟩ (.int .i64 0)).setCell ⟨W.heap.size + 1 + 1, 0, none⟩ (.int .i64 4)).setCell ⟨W.heap.size + 1 + 1, 1, none⟩ (.slice (some ⟨g9, 0, none⟩) 1 k9) = wz at *
        obtain ⟨hla, hle, hlk⟩ := HL.out
        have r0 : wz.cell? ⟨W.heap.size + 1, 0, none⟩ = some (.int .i64 0) := hla.cell 0
        have r1 : wz.cell? ⟨W.heap.size + 1, 1, none⟩ = some (.int .i64 0) := hla.cell 1
        have r2 : wz.cell? ⟨W.heap.size + 1, 2, none⟩ = some (.int .i64 0) := hla.cell 2
        have r3 : wz.cell? ⟨W.heap.size + 1 + 1, 0, none⟩ = some (.int .i64 4) := hle.cell 0
        have r4 : wz.cell? ⟨W.heap.size + 1 + 1, 1, none⟩ = some (.slice (some ⟨g9, 0, none⟩) 1 k9) := hle.cell 1
        have hbz : Below W.heap.size W wz := hlk.below HB9.out (fun k h => by omega) HB9.out.size
        have HEND : Hid (ArcRow (arcR x.t 0) x.line W (.returned (.tuple #[arcV ⟨0, 0, 0⟩, .agg #[.int .i64 4, (.slice (some ⟨g9, 0, none⟩) 1 k9)]])) wz) := Lib.hid (by rw [HAR.out]; exact ⟨hbz, ⟨4, some ⟨g9, 0, none⟩, 1, k9⟩, rfl, g9, k9, rfl, hlk.cells HX9.out (fun h => by omega), by omega⟩)
        refine bodyPost_ret (v := .tuple #[arcV ⟨0, 0, 0⟩, .agg #[.int .i64 4, (.slice (some ⟨g9, 0, none⟩) 1 k9)]]) ?hres rfl HEND.out
        case hres => simp [results, Tryz.results56, go_sem, r0, r1, r2, r3, r4]
      · rw [hN] at he
        dsimp only at he
        subst he
        have HAR : Hid (arcR x.t 0 = .error 7) := Lib.hid (by rw [HAR0'.out, HNEG.out.2 (by rw [hN]; intro h; cases h)])
        clear hN HAR0' HNEG
        clear hv
        have hb6 := (Below.refl w5.heap.size w5).alloc (Nat.le_refl _) (.cells #[.int .i64 0, .slice none 0 0] 32)
        have hx6 := cells_new w5 #[.int .i64 0, .slice none 0 0] 32
        have HB6 := Lib.hid (HB5.out.trans (hb6.mono HB5.out.size))
        have HR6 := Lib.hid (HR5.out.below hb6)
        have HA6 := Lib.hid (HA5.out.below hb6)
        have HE6 := Lib.hid (HE5.out.below hb6)
        have HX6 := Lib.hid hx6
        clear hb6 hx6
        go_upto_region 6 with fail
        generalize w5.alloc (.cells #[.int .i64 0, .slice none 0 0] 32) = w6 at *
        have x0 := HX6.out.cell 0
        have x1 := HX6.out.cell 1
        have fx0 := HX6.out.frozen 0
        have fx1 := HX6.out.frozen 1
        go_wp2_with fail
        refine (E_any 7 _).mono ?_
        rintro e w7 ⟨rfl, hb7⟩
        have HB7 := Lib.hid (HB6.out.trans (hb7.mono HB6.out.size))
        have HR7 := Lib.hid (HR6.out.below hb7)
        have HA7 := Lib.hid (HA6.out.below hb7)
        have HE7 := Lib.hid (HE6.out.below hb7)
        have HX7 := Lib.hid (HX6.out.below hb7)
        have hs7 := HB7.out.size
        have hx7lt := HX7.out.lt
        have hs50 := HB5.out.size
        clear hb7 x0 x1 fx0 fx1
        have x0 := HX7.out.cell 0
        have x1 := HX7.out.cell 1
        have fx0 := HX7.out.frozen 0
        have fx1 := HX7.out.frozen 1
        have hkx : Kept (fun k => k = w5.heap.size) w7 ((w7.setCell ⟨w5.heap.size, 0, none⟩ (.int .i64 7)).setCell ⟨w5.heap.size, 1, none⟩ (.slice none 0 0)) := ((Kept.refl (fun k => k = w5.heap.size) w7).set_ (p := ⟨w5.heap.size, 0, none⟩) (.inl rfl) _).set_ (p := ⟨w5.heap.size, 1, none⟩) (.inl rfl) _
        have hx8 := (HX7.out.set_ 0 (.int .i64 7)).set_ 1 (.slice none 0 0)
        simp only [List.setIfInBounds_toArray, List.set_cons_zero, List.set_cons_succ] at hx8
        have HX8 := Lib.hid hx8
        have HB8 := Lib.hid (hkx.below HB7.out (fun k h => by omega) HB7.out.size)
        have HR8 := Lib.hid (hkx.cells HR7.out (fun h => by omega))
        have HA8 := Lib.hid (hkx.cells HA7.out (fun h => by omega))
        have HE8 := Lib.hid (hkx.cells HE7.out (fun h => by omega))
        clear hkx hx8
        go_upto_region 8 with fail
        generalize (w7.setCell ⟨w5.heap.size, 0, none⟩ (.int .i64 7)).setCell ⟨w5.heap.size, 1, none⟩ (.slice none 0 0) = w8 at *
        clear x0 x1 fx0 fx1
        have x0 := HX8.out.cell 0
        have x1 := HX8.out.cell 1
        have l0 := HR8.out.cell 0
        go_wp2_with fail
        refine (At1_any 1 x.line 7 _).mono ?_
        rintro e w9 ⟨g9, k9, rfl, hx9, hg9, hb9⟩
        have HB9 := Lib.hid (HB8.out.trans (hb9.mono HB8.out.size))
        have HA9 := Lib.hid (HA8.out.below hb9)
        have HE9 := Lib.hid (HE8.out.below hb9)
        have HX9 := Lib.hid hx9
        have hs9 := hb9.size
        have hsp := HB8.out.size
        have hlte := HE8.out.lt
        clear hb9 hx9 x0 x1 l0
        have b0 := HA9.out.cell 0
        have b1 := HA9.out.cell 1
        have b2 := HA9.out.cell 2
        have fb0 := HA9.out.frozen 0
        have fb1 := HA9.out.frozen 1
        have fb2 := HA9.out.frozen 2
        have e0 := HE9.out.cell 0
        have e1 := HE9.out.cell 1
        have fe0 := HE9.out.frozen 0
        have fe1 := HE9.out.frozen 1
        have hl : Laid2 (W.heap.size + 1) (W.heap.size + 1 + 1) ⟨0, 0, 0⟩ ⟨7, some ⟨g9, 0, none⟩, 1, k9⟩ w9 (((((w9.setCell ⟨W.heap.size + 1, 0, none⟩ (.int .i64 0)).setCell ⟨W.heap.size + 1, 1, none⟩ (.int .i64 0)).setCell ⟨W.heap.size + 1, 2, none⟩ (.int .i64 0)).setCell ⟨W.heap.size + 1 + 1, 0, none⟩ (.int .i64 7)).setCell ⟨W.heap.size + 1 + 1, 1, none⟩ (.slice (some ⟨g9, 0, none⟩) 1 k9)) := (laid2 (p := W.heap.size + 1) (q := W.heap.size + 1 + 1) ⟨0, 0, 0⟩ ⟨7, some ⟨g9, 0, none⟩, 1, k9⟩ HA9.out HE9.out (by omega)).1
        have HL := Lib.hid hl
        clear hl
        go_wp2_with fail
        generalize ((((w9.setCell ⟨W.heap.size + 1, 0, none⟩ (.int .i64 0)).setCell ⟨W.heap.size + 1, 1, none⟩ (.int .i64 0)).setCell ⟨W.heap.size + 1, 2, none⟩ (.int .i64 0)).setCell ⟨W.heap.size + 1 + 1, 0, none⟩ (.int .i64 7)).setCell ⟨W.heap.size + 1 + 1, 1, none⟩ (.slice (some ⟨g9, 0, none⟩) 1 k9) = wz at *
        obtain ⟨hla, hle, hlk⟩ := HL.out
        have r0 : wz.cell? ⟨W.heap.size + 1, 0, none⟩ = some (.int .i64 0) := hla.cell 0
        have r1 : wz.cell? ⟨W.heap.size + 1, 1, none⟩ = some (.int .i64 0) := hla.cell 1
        have r2 : wz.cell? ⟨W.heap.size + 1, 2, none⟩ = some (.int .i64 0) := hla.cell 2
        have r3 : wz.cell? ⟨W.heap.size + 1 + 1, 0, none⟩ = some (.int .i64 7) := hle.cell 0
        have r4 : wz.cell? ⟨W.heap.size + 1 + 1, 1, none⟩ = some (.slice (some ⟨g9, 0, none⟩) 1 k9) := hle.cell 1
        have hbz : Below W.heap.size W wz := hlk.below HB9.out (fun k h => by omega) HB9.out.size
        have HEND : Hid (ArcRow (arcR x.t 0) x.line W (.returned (.tuple #[arcV ⟨0, 0, 0⟩, .agg #[.int .i64 7, (.slice (some ⟨g9, 0, none⟩) 1 k9)]])) wz) := Lib.hid (by rw [HAR.out]; exact ⟨hbz, ⟨7, some ⟨g9, 0, none⟩, 1, k9⟩, rfl, g9, k9, rfl, hlk.cells HX9.out (fun h => by omega), by omega⟩)
        refine bodyPost_ret (v := .tuple #[arcV ⟨0, 0, 0⟩, .agg #[.int .i64 7, (.slice (some ⟨g9, 0, none⟩) 1 k9)]]) ?hres rfl HEND.out
        case hres => simp [results, Tryz.results56, go_sem, r0, r1, r2, r3, r4]
    | succ m =>
      have eN : (((m + 1 : Nat) : Int) - 1) = (m : Int) := by omega
      rw [eN] at HAR0
      have q0 : (((m + 1 : Nat) : Int) == 0) = false := by rw [beq_eq_false_iff_ne]; omega
      have q0' : (((m : Int) + 1) == 0) = false := by rw [beq_eq_false_iff_ne]; omega
      have q1 : IntKind.i64.wrap (((m + 1 : Nat) : Int) - 1) = (m : Int) := by rw [IntKind.wrap_i64]; omega
      have q1' : IntKind.i64.wrap ((m : Int) + 1 - 1) = (m : Int) := by rw [IntKind.wrap_i64]; omega
      have q2 : IntKind.u64.wrap (m : Int) = (m : Int) := by rw [IntKind.wrap_u64]; omega
      clear eN hl4' HWSE hsz
      clear hform
      have l0 := HR4.out.cell 0
      have l1 := HR4.out.cell 1
      go_upto_region 9 with fail
      go_wp2_with fail
      refine (D1.out _ HWS4.out m (by omega)).mono ?_
      rintro e w5 ⟨hb5, he⟩
      have HB5 := Lib.hid (HB4.out.trans (hb5.mono HB4.out.size))
      have HR5 := Lib.hid (HR4.out.below hb5)
      have HA5 := Lib.hid (HA4.out.below hb5)
      have HE5 := Lib.hid (HE4.out.below hb5)
      have HWS5 := Lib.hid (HWS4.out.below hb5)
      have hs5 := hb5.size
      clear hb5 l0 l1
      have hk5 : ∀ c, numE a1 (m : Int) 7 = .error c → c ≠ 0 := fun c h => by
        unfold numE at h
        split at h
        · split at h
          · injection h with h; omega
          · cases h
        · injection h with h; omega
      cases hN1 : numE a1 (m : Int) 7 with
      | error c =>
        rw [hN1] at he HAR0
        dsimp only at he HAR0
        obtain ⟨ex5, rfl, hd5⟩ := he
        have HAR := HAR0
        have HD5 := Lib.hid hd5
        have hbad : decide (ex5.c ≠ 0 ∨ 0 < ex5.n) = true := hd5.bad (fun p hp => by injection hp with hp; subst hp; exact hk5 c hN1)
        unfold errV
        clear hd5 hN1 hk5 D1 D2 D3
        have hb6 := (Below.refl w5.heap.size w5).alloc (Nat.le_refl _) (.cells #[.int .i64 ex5.c, .slice ex5.A ex5.n ex5.k] 32)
        have hx6 := cells_new w5 #[.int .i64 ex5.c, .slice ex5.A ex5.n ex5.k] 32
        have HB6 := Lib.hid (HB5.out.trans (hb6.mono HB5.out.size))
        have HA6 := Lib.hid (HA5.out.below hb6)
        have HE6 := Lib.hid (HE5.out.below hb6)
        have HD6 := Lib.hid (HD5.out.below hb6)
        have HX6 := Lib.hid hx6
        clear hb6 hx6
        go_upto_region 10 with fail
        generalize w5.alloc (.cells #[.int .i64 ex5.c, .slice ex5.A ex5.n ex5.k] 32) = w6 at *
        have x0 := HX6.out.cell 0
        have x1 := HX6.out.cell 1
        go_wp2_with fail
        refine (Bad_any ex5.c ex5.A ex5.n ex5.k w6).mono ?_
        rintro e w7 ⟨rfl, hb7⟩
        rw [hbad]
        have HB7 := Lib.hid (HB6.out.trans (hb7.mono HB6.out.size))
        have HA7 := Lib.hid (HA6.out.below hb7)
        have HE7 := Lib.hid (HE6.out.below hb7)
        have HDX := Lib.hid (HD6.out.below hb7)
        have HX7 := Lib.hid (HX6.out.below hb7)
        clear hb7 x0 x1 hbad
        have x0 := HX7.out.cell 0
        have x1 := HX7.out.cell 1
        have b0 := HA7.out.cell 0
        have b1 := HA7.out.cell 1
        have b2 := HA7.out.cell 2
        have fa0 := HA7.out.frozen 0
        have fa1 := HA7.out.frozen 1
        have fa2 := HA7.out.frozen 2
        have e0 := HE7.out.cell 0
        have e1 := HE7.out.cell 1
        have fe0 := HE7.out.frozen 0
        have fe1 := HE7.out.frozen 1
        go_upto_region 11 with fail
        go_region
        all_goals
          have hl : Laid2 (W.heap.size + 1) (W.heap.size + 1 + 1) ⟨0, 0, 0⟩ ex5 w7 (((((w7.setCell ⟨W.heap.size + 1, 0, none⟩ (.int .i64 0)).setCell ⟨W.heap.size + 1, 1, none⟩ (.int .i64 0)).setCell ⟨W.heap.size + 1, 2, none⟩ (.int .i64 0)).setCell ⟨W.heap.size + 1 + 1, 0, none⟩ (.int .i64 ex5.c)).setCell ⟨W.heap.size + 1 + 1, 1, none⟩ (.slice ex5.A ex5.n ex5.k)).drew := (laid2 (p := W.heap.size + 1) (q := W.heap.size + 1 + 1) ⟨0, 0, 0⟩ ex5 HA7.out HE7.out (by omega)).1.drew
          generalize (((((w7.setCell ⟨W.heap.size + 1, 0, none⟩ (.int .i64 0)).setCell ⟨W.heap.size + 1, 1, none⟩ (.int .i64 0)).setCell ⟨W.heap.size + 1, 2, none⟩ (.int .i64 0)).setCell ⟨W.heap.size + 1 + 1, 0, none⟩ (.int .i64 ex5.c)).setCell ⟨W.heap.size + 1 + 1, 1, none⟩ (.slice ex5.A ex5.n ex5.k)).drew = wz at *
          obtain ⟨hla, hle, hlk⟩ := hl
          have r0 : wz.cell? ⟨W.heap.size + 1, 0, none⟩ = some (.int .i64 0) := hla.cell 0
          have r1 : wz.cell? ⟨W.heap.size + 1, 1, none⟩ = some (.int .i64 0) := hla.cell 1
          have r2 : wz.cell? ⟨W.heap.size + 1, 2, none⟩ = some (.int .i64 0) := hla.cell 2
          have r3 : wz.cell? ⟨W.heap.size + 1 + 1, 0, none⟩ = some (.int .i64 ex5.c) := hle.cell 0
          have r4 : wz.cell? ⟨W.heap.size + 1 + 1, 1, none⟩ = some (.slice ex5.A ex5.n ex5.k) := hle.cell 1
          have hbz : Below W.heap.size W wz := hlk.below HB7.out (fun k h => by omega) HB7.out.size
          have HEND : Hid (ArcRow (arcR x.t _) x.line W (.returned (.tuple #[arcV ⟨0, 0, 0⟩, .agg #[.int .i64 ex5.c, (.slice ex5.A ex5.n ex5.k)]])) wz) := Lib.hid (by rw [HAR.out]; exact ⟨hbz, ex5, rfl, (HDX.out.keptS hlk (by omega)).mono (by omega)⟩)
          clear hla hle
          go_wp2_with fail
          refine bodyPost_ret (v := .tuple #[arcV ⟨0, 0, 0⟩, .agg #[.int .i64 ex5.c, (.slice ex5.A ex5.n ex5.k)]]) ?hres rfl HEND.out
          case hres => simp [results, Tryz.results56, go_sem, r0, r1, r2, r3, r4]
      | ok v1 =>
        rw [hN1] at he HAR0
        dsimp only at he HAR0
        subst he
        clear hN1 hk5 D1
        unfold errV zX
        have hb6 := (Below.refl w5.heap.size w5).alloc (Nat.le_refl _) (.cells #[.int .i64 0, .slice none 0 0] 32)
        have hx6 := cells_new w5 #[.int .i64 0, .slice none 0 0] 32
        have HB6 := Lib.hid (HB5.out.trans (hb6.mono HB5.out.size))
        have HR6 := Lib.hid (HR5.out.below hb6)
        have HA6 := Lib.hid (HA5.out.below hb6)
        have HE6 := Lib.hid (HE5.out.below hb6)
        have HWS6 := Lib.hid (HWS5.out.below hb6)
        have HX6 := Lib.hid hx6
        clear hb6 hx6
        go_upto_region 10 with fail
        generalize w5.alloc (.cells #[.int .i64 0, .slice none 0 0] 32) = w6 at *
        have x0 := HX6.out.cell 0
        have x1 := HX6.out.cell 1
        go_wp2_with fail
        refine (Bad_any 0 none 0 0 w6).mono ?_
        rintro e w7 ⟨rfl, hb7⟩
        have HB7 := Lib.hid (HB6.out.trans (hb7.mono HB6.out.size))
        have HR7 := Lib.hid (HR6.out.below hb7)
        have HA7 := Lib.hid (HA6.out.below hb7)
        have HE7 := Lib.hid (HE6.out.below hb7)
        have HWS7 := Lib.hid (HWS6.out.below hb7)
        have HX7 := Lib.hid (HX6.out.below hb7)
        clear hb7 x0 x1
        have l0 := HR7.out.cell 0
        have l1 := HR7.out.cell 1
        go_upto_region 12 with fail
        go_wp2_with fail
        refine (D2.out _ HWS7.out m (by omega)).mono ?_
        rintro e w8 ⟨hb8, he⟩
        have HB8 := Lib.hid (HB7.out.trans (hb8.mono HB7.out.size))
        have HR8 := Lib.hid (HR7.out.below hb8)
        have HA8 := Lib.hid (HA7.out.below hb8)
        have HE8 := Lib.hid (HE7.out.below hb8)
        have HWS8 := Lib.hid (HWS7.out.below hb8)
        have HX8 := Lib.hid (HX7.out.below hb8)
        have hs8 := hb8.size
        have hs7 := HB7.out.size
        have hx8lt := HX7.out.lt
        clear hb8 l0 l1
        have x0 := HX8.out.cell 0
        have x1 := HX8.out.cell 1
        have fx0 := HX8.out.frozen 0
        have fx1 := HX8.out.frozen 1
        have hk8 : ∀ c, numE a2 (m : Int) 7 = .error c → c ≠ 0 := fun c h => by
          unfold numE at h
          split at h
          · split at h
            · injection h with h; omega
            · cases h
          · injection h with h; omega
        cases hN2 : numE a2 (m : Int) 7 with
        | error c =>
          rw [hN2] at he HAR0
          dsimp only at he HAR0
          obtain ⟨ex8, rfl, hd8⟩ := he
          have HAR := HAR0
          have hbad : decide (ex8.c ≠ 0 ∨ 0 < ex8.n) = true := hd8.bad (fun p hp => by injection hp with hp; subst hp; exact hk8 c hN2)
          have HD8 := Lib.hid hd8
          unfold errV
          clear hd8 hN2 hk8 D2 D3
          have hkx : Kept (fun k => k = w5.heap.size) w8 ((w8.setCell ⟨w5.heap.size, 0, none⟩ (.int .i64 ex8.c)).setCell ⟨w5.heap.size, 1, none⟩ (.slice ex8.A ex8.n ex8.k)) := ((Kept.refl (fun k => k = w5.heap.size) w8).set_ (p := ⟨w5.heap.size, 0, none⟩) (.inl rfl) _).set_ (p := ⟨w5.heap.size, 1, none⟩) (.inl rfl) _
          have hx9 := (HX8.out.set_ 0 (.int .i64 ex8.c)).set_ 1 (.slice ex8.A ex8.n ex8.k)
          simp only [List.setIfInBounds_toArray, List.set_cons_zero, List.set_cons_succ] at hx9
          have HX9 := Lib.hid hx9
          have HB9 := Lib.hid (hkx.below HB8.out (fun k h => by omega) HB8.out.size)
          have HA9 := Lib.hid (hkx.cells HA8.out (fun h => by omega))
          have HE9 := Lib.hid (hkx.cells HE8.out (fun h => by omega))
          have HD9 := Lib.hid (HD8.out.off hkx (by omega))
          clear hkx hx9
          go_upto_region 13 with fail
          generalize (w8.setCell ⟨w5.heap.size, 0, none⟩ (.int .i64 ex8.c)).setCell ⟨w5.heap.size, 1, none⟩ (.slice ex8.A ex8.n ex8.k) = w9 at *
          clear x0 x1 fx0 fx1
          have x0 := HX9.out.cell 0
          have x1 := HX9.out.cell 1
          go_wp2_with fail
          refine (Bad_any ex8.c ex8.A ex8.n ex8.k w9).mono ?_
          rintro e w10 ⟨rfl, hb10⟩
          rw [hbad]
          have HB10 := Lib.hid (HB9.out.trans (hb10.mono HB9.out.size))
          have HA10 := Lib.hid (HA9.out.below hb10)
          have HE10 := Lib.hid (HE9.out.below hb10)
          have HDX := Lib.hid (HD9.out.below hb10)
          have HX10 := Lib.hid (HX9.out.below hb10)
          clear hb10 x0 x1 hbad
          have x0 := HX10.out.cell 0
          have x1 := HX10.out.cell 1
          have b0 := HA10.out.cell 0
          have b1 := HA10.out.cell 1
          have b2 := HA10.out.cell 2
          have fa0 := HA10.out.frozen 0
          have fa1 := HA10.out.frozen 1
          have fa2 := HA10.out.frozen 2
          have e0 := HE10.out.cell 0
          have e1 := HE10.out.cell 1
          have fe0 := HE10.out.frozen 0
          have fe1 := HE10.out.frozen 1
          go_upto_region 14 with fail
          go_region
          all_goals
            have hl : Laid2 (W.heap.size + 1) (W.heap.size + 1 + 1) ⟨0, 0, 0⟩ ex8 w10 (((((w10.setCell ⟨W.heap.size + 1, 0, none⟩ (.int .i64 0)).setCell ⟨W.heap.size + 1, 1, none⟩ (.int .i64 0)).setCell ⟨W.heap.size + 1, 2, none⟩ (.int .i64 0)).setCell ⟨W.heap.size + 1 + 1, 0, none⟩ (.int .i64 ex8.c)).setCell ⟨W.heap.size + 1 + 1, 1, none⟩ (.slice ex8.A ex8.n ex8.k)).drew := (laid2 (p := W.heap.size + 1) (q := W.heap.size + 1 + 1) ⟨0, 0, 0⟩ ex8 HA10.out HE10.out (by omega)).1.drew
            generalize (((((w10.setCell ⟨W.heap.size + 1, 0, none⟩ (.int .i64 0)).setCell ⟨W.heap.size + 1, 1, none⟩ (.int .i64 0)).setCell ⟨W.heap.size + 1, 2, none⟩ (.int .i64 0)).setCell ⟨W.heap.size + 1 + 1, 0, none⟩ (.int .i64 ex8.c)).setCell ⟨W.heap.size + 1 + 1, 1, none⟩ (.slice ex8.A ex8.n ex8.k)).drew = wz at *
            obtain ⟨hla, hle, hlk⟩ := hl
            have r0 : wz.cell? ⟨W.heap.size + 1, 0, none⟩ = some (.int .i64 0) := hla.cell 0
            have r1 : wz.cell? ⟨W.heap.size + 1, 1, none⟩ = some (.int .i64 0) := hla.cell 1
            have r2 : wz.cell? ⟨W.heap.size + 1, 2, none⟩ = some (.int .i64 0) := hla.cell 2
            have r3 : wz.cell? ⟨W.heap.size + 1 + 1, 0, none⟩ = some (.int .i64 ex8.c) := hle.cell 0
            have r4 : wz.cell? ⟨W.heap.size + 1 + 1, 1, none⟩ = some (.slice ex8.A ex8.n ex8.k) := hle.cell 1
            have hbz : Below W.heap.size W wz := hlk.below HB10.out (fun k h => by omega) HB10.out.size
            have HEND : Hid (ArcRow (arcR x.t _) x.line W (.returned (.tuple #[arcV ⟨0, 0, 0⟩, .agg #[.int .i64 ex8.c, (.slice ex8.A ex8.n ex8.k)]])) wz) := Lib.hid (by rw [HAR.out]; exact ⟨hbz, ex8, rfl, (HDX.out.keptS hlk (by omega)).mono (by omega)⟩)
            clear hla hle
            go_wp2_with fail
            refine bodyPost_ret (v := .tuple #[arcV ⟨0, 0, 0⟩, .agg #[.int .i64 ex8.c, (.slice ex8.A ex8.n ex8.k)]]) ?hres rfl HEND.out
            case hres => simp [results, Tryz.results56, go_sem, r0, r1, r2, r3, r4]
        | ok v2 =>
          rw [hN2] at he HAR0
          dsimp only at he HAR0
          subst he
          clear hN2 hk8 D2
          unfold errV zX
          have hkx : Kept (fun k => k = w5.heap.size) w8 ((w8.setCell ⟨w5.heap.size, 0, none⟩ (.int .i64 0)).setCell ⟨w5.heap.size, 1, none⟩ (.slice none 0 0)) := ((Kept.refl (fun k => k = w5.heap.size) w8).set_ (p := ⟨w5.heap.size, 0, none⟩) (.inl rfl) _).set_ (p := ⟨w5.heap.size, 1, none⟩) (.inl rfl) _
          have hx9 := (HX8.out.set_ 0 (.int .i64 0)).set_ 1 (.slice none 0 0)
          simp only [List.setIfInBounds_toArray, List.set_cons_zero, List.set_cons_succ] at hx9
          have HX9 := Lib.hid hx9
          have HB9 := Lib.hid (hkx.below HB8.out (fun k h => by omega) HB8.out.size)
          have HR9 := Lib.hid (hkx.cells HR8.out (fun h => by omega))
          have HA9 := Lib.hid (hkx.cells HA8.out (fun h => by omega))
          have HE9 := Lib.hid (hkx.cells HE8.out (fun h => by omega))
          have HWS9 := Lib.hid (hkx.rd HWS8.out (fun ad e => by have := HADX.out ad e; omega))
          clear hkx hx9
          go_upto_region 13 with fail
          generalize (w8.setCell ⟨w5.heap.size, 0, none⟩ (.int .i64 0)).setCell ⟨w5.heap.size, 1, none⟩ (.slice none 0 0) = w9 at *
          clear x0 x1 fx0 fx1
          have x0 := HX9.out.cell 0
          have x1 := HX9.out.cell 1
          go_wp2_with fail
          refine (Bad_any 0 none 0 0 w9).mono ?_
          rintro e w10 ⟨rfl, hb10⟩
          have HB10 := Lib.hid (HB9.out.trans (hb10.mono HB9.out.size))
          have HR10 := Lib.hid (HR9.out.below hb10)
          have HA10 := Lib.hid (HA9.out.below hb10)
          have HE10 := Lib.hid (HE9.out.below hb10)
          have HWS10 := Lib.hid (HWS9.out.below hb10)
          have HX10 := Lib.hid (HX9.out.below hb10)
          clear hb10 x0 x1
          have l0 := HR10.out.cell 0
          have l1 := HR10.out.cell 1
          go_upto_region 15 with fail
          go_wp2_with fail
          refine (D3.out _ HWS10.out).mono ?_
          rintro e w11 ⟨hb11, he⟩
          have HB11 := Lib.hid (HB10.out.trans (hb11.mono HB10.out.size))
          have HA11 := Lib.hid (HA10.out.below hb11)
          have HE11 := Lib.hid (HE10.out.below hb11)
          have HX11 := Lib.hid (HX10.out.below hb11)
          have hs11 := hb11.size
          have hs10 := HB10.out.size
          have hx10lt := HX10.out.lt
          clear hb11 l0 l1
          have x0 := HX11.out.cell 0
          have x1 := HX11.out.cell 1
          have fx0 := HX11.out.frozen 0
          have fx1 := HX11.out.frozen 1
          have hk11 : ∀ c, numE a3 2147483647 8 = .error c → c ≠ 0 := fun c h => by
            unfold numE at h
            split at h
            · split at h
              · injection h with h; omega
              · cases h
            · injection h with h; omega
          cases hN3 : numE a3 2147483647 8 with
          | error c =>
            rw [hN3] at he HAR0
            dsimp only at he HAR0
            obtain ⟨ex11, rfl, hd11⟩ := he
            have HAR := HAR0
            have hbad : decide (ex11.c ≠ 0 ∨ 0 < ex11.n) = true := hd11.bad (fun p hp => by injection hp with hp; subst hp; exact hk11 c hN3)
            have HD11 := Lib.hid hd11
            unfold errV
            clear hd11 hN3 hk11 D3
            have hkx : Kept (fun k => k = w5.heap.size) w11 ((w11.setCell ⟨w5.heap.size, 0, none⟩ (.int .i64 ex11.c)).setCell ⟨w5.heap.size, 1, none⟩ (.slice ex11.A ex11.n ex11.k)) := ((Kept.refl (fun k => k = w5.heap.size) w11).set_ (p := ⟨w5.heap.size, 0, none⟩) (.inl rfl) _).set_ (p := ⟨w5.heap.size, 1, none⟩) (.inl rfl) _
            have hx12 := (HX11.out.set_ 0 (.int .i64 ex11.c)).set_ 1 (.slice ex11.A ex11.n ex11.k)
            simp only [List.setIfInBounds_toArray, List.set_cons_zero, List.set_cons_succ] at hx12
            have HX12 := Lib.hid hx12
            have HB12 := Lib.hid (hkx.below HB11.out (fun k h => by omega) HB11.out.size)
            have HA12 := Lib.hid (hkx.cells HA11.out (fun h => by omega))
            have HE12 := Lib.hid (hkx.cells HE11.out (fun h => by omega))
            have HD12 := Lib.hid (HD11.out.off hkx (by omega))
            clear hkx hx12
            go_upto_region 16 with fail
            generalize (w11.setCell ⟨w5.heap.size, 0, none⟩ (.int .i64 ex11.c)).setCell ⟨w5.heap.size, 1, none⟩ (.slice ex11.A ex11.n ex11.k) = w12 at *
            clear x0 x1 fx0 fx1
            have x0 := HX12.out.cell 0
            have x1 := HX12.out.cell 1
            go_wp2_with fail
            refine (Bad_any ex11.c ex11.A ex11.n ex11.k w12).mono ?_
            rintro e w13 ⟨rfl, hb13⟩
            rw [hbad]
            have HB13 := Lib.hid (HB12.out.trans (hb13.mono HB12.out.size))
            have HA13 := Lib.hid (HA12.out.below hb13)
            have HE13 := Lib.hid (HE12.out.below hb13)
            have HX13 := Lib.hid (HX12.out.below hb13)
            have HDX := Lib.hid (HD12.out.below hb13)
            clear hb13 x0 x1 hbad
            have x0 := HX13.out.cell 0
            have x1 := HX13.out.cell 1
            have b0 := HA13.out.cell 0
            have b1 := HA13.out.cell 1
            have b2 := HA13.out.cell 2
            have fb0 := HA13.out.frozen 0
            have fb1 := HA13.out.frozen 1
            have fb2 := HA13.out.frozen 2
            have e0 := HE13.out.cell 0
            have e1 := HE13.out.cell 1
            have fe0 := HE13.out.frozen 0
            have fe1 := HE13.out.frozen 1
            go_upto_region 17 with fail
            go_region
            all_goals
              have hl : Laid2 (W.heap.size + 1) (W.heap.size + 1 + 1) ⟨0, 0, 0⟩ ex11 w13 (((((w13.setCell ⟨W.heap.size + 1, 0, none⟩ (.int .i64 0)).setCell ⟨W.heap.size + 1, 1, none⟩ (.int .i64 0)).setCell ⟨W.heap.size + 1, 2, none⟩ (.int .i64 0)).setCell ⟨W.heap.size + 1 + 1, 0, none⟩ (.int .i64 ex11.c)).setCell ⟨W.heap.size + 1 + 1, 1, none⟩ (.slice ex11.A ex11.n ex11.k)).drew := (laid2 (p := W.heap.size + 1) (q := W.heap.size + 1 + 1) ⟨0, 0, 0⟩ ex11 HA13.out HE13.out (by omega)).1.drew
              generalize (((((w13.setCell ⟨W.heap.size + 1, 0, none⟩ (.int .i64 0)).setCell ⟨W.heap.size + 1, 1, none⟩ (.int .i64 0)).setCell ⟨W.heap.size + 1, 2, none⟩ (.int .i64 0)).setCell ⟨W.heap.size + 1 + 1, 0, none⟩ (.int .i64 ex11.c)).setCell ⟨W.heap.size + 1 + 1, 1, none⟩ (.slice ex11.A ex11.n ex11.k)).drew = wz at *
              obtain ⟨hla, hle, hlk⟩ := hl
              have r0 : wz.cell? ⟨W.heap.size + 1, 0, none⟩ = some (.int .i64 0) := hla.cell 0
              have r1 : wz.cell? ⟨W.heap.size + 1, 1, none⟩ = some (.int .i64 0) := hla.cell 1
              have r2 : wz.cell? ⟨W.heap.size + 1, 2, none⟩ = some (.int .i64 0) := hla.cell 2
              have r3 : wz.cell? ⟨W.heap.size + 1 + 1, 0, none⟩ = some (.int .i64 ex11.c) := hle.cell 0
              have r4 : wz.cell? ⟨W.heap.size + 1 + 1, 1, none⟩ = some (.slice ex11.A ex11.n ex11.k) := hle.cell 1
              have hbz : Below W.heap.size W wz := hlk.below HB13.out (fun k h => by omega) HB13.out.size
              have HEND : Hid (ArcRow (arcR x.t _) x.line W (.returned (.tuple #[arcV ⟨0, 0, 0⟩, .agg #[.int .i64 ex11.c, (.slice ex11.A ex11.n ex11.k)]])) wz) := Lib.hid (by rw [HAR.out]; exact ⟨hbz, ex11, rfl, (HDX.out.keptS hlk (by omega)).mono (by omega)⟩)
              clear hla hle
              go_wp2_with fail
              refine bodyPost_ret (v := .tuple #[arcV ⟨0, 0, 0⟩, .agg #[.int .i64 ex11.c, (.slice ex11.A ex11.n ex11.k)]]) ?hres rfl HEND.out
              case hres => simp [results, Tryz.results56, go_sem, r0, r1, r2, r3, r4]
          | ok v3 =>
            rw [hN3] at he HAR0
            dsimp only at he HAR0
            subst he
            have HAR := HAR0
            clear hN3 hk11 D3
            unfold errV zX
            have hkx : Kept (fun k => k = w5.heap.size) w11 ((w11.setCell ⟨w5.heap.size, 0, none⟩ (.int .i64 0)).setCell ⟨w5.heap.size, 1, none⟩ (.slice none 0 0)) := ((Kept.refl (fun k => k = w5.heap.size) w11).set_ (p := ⟨w5.heap.size, 0, none⟩) (.inl rfl) _).set_ (p := ⟨w5.heap.size, 1, none⟩) (.inl rfl) _
            have hx12 := (HX11.out.set_ 0 (.int .i64 0)).set_ 1 (.slice none 0 0)
            simp only [List.setIfInBounds_toArray, List.set_cons_zero, List.set_cons_succ] at hx12
            have HX12 := Lib.hid hx12
            have HB12 := Lib.hid (hkx.below HB11.out (fun k h => by omega) HB11.out.size)
            have HA12 := Lib.hid (hkx.cells HA11.out (fun h => by omega))
            have HE12 := Lib.hid (hkx.cells HE11.out (fun h => by omega))
            clear hkx hx12
            go_upto_region 16 with fail
            generalize (w11.setCell ⟨w5.heap.size, 0, none⟩ (.int .i64 0)).setCell ⟨w5.heap.size, 1, none⟩ (.slice none 0 0) = w12 at *
            clear x0 x1 fx0 fx1
            have x0 := HX12.out.cell 0
            have x1 := HX12.out.cell 1
            go_wp2_with fail
            refine (Bad_any 0 none 0 0 w12).mono ?_
            rintro e w13 ⟨rfl, hb13⟩
            have HB13 := Lib.hid (HB12.out.trans (hb13.mono HB12.out.size))
            have HA13 := Lib.hid (HA12.out.below hb13)
            have HE13 := Lib.hid (HE12.out.below hb13)
            have HX13 := Lib.hid (HX12.out.below hb13)
            clear hb13 x0 x1
            have x0 := HX13.out.cell 0
            have x1 := HX13.out.cell 1
            have b0 := HA13.out.cell 0
            have b1 := HA13.out.cell 1
            have b2 := HA13.out.cell 2
            have fb0 := HA13.out.frozen 0
            have fb1 := HA13.out.frozen 1
            have fb2 := HA13.out.frozen 2
            have e0 := HE13.out.cell 0
            have e1 := HE13.out.cell 1
            have fe0 := HE13.out.frozen 0
            have fe1 := HE13.out.frozen 1
            go_upto_region 18 with fail
            go_region
            all_goals
              have hl : Laid2 (W.heap.size + 1) (W.heap.size + 1 + 1) ⟨(v1 : Int), (v2 : Int), (v3 : Int)⟩ zX w13 (((((w13.setCell ⟨W.heap.size + 1, 0, none⟩ (.int .i64 (v1 : Int))).setCell ⟨W.heap.size + 1, 1, none⟩ (.int .i64 (v2 : Int))).setCell ⟨W.heap.size + 1, 2, none⟩ (.int .i64 (v3 : Int))).setCell ⟨W.heap.size + 1 + 1, 0, none⟩ (.int .i64 0)).setCell ⟨W.heap.size + 1 + 1, 1, none⟩ (.slice none 0 0)).drew := (laid2 (p := W.heap.size + 1) (q := W.heap.size + 1 + 1) ⟨(v1 : Int), (v2 : Int), (v3 : Int)⟩ zX HA13.out HE13.out (by omega)).1.drew
              generalize (((((w13.setCell ⟨W.heap.size + 1, 0, none⟩ (.int .i64 (v1 : Int))).setCell ⟨W.heap.size + 1, 1, none⟩ (.int .i64 (v2 : Int))).setCell ⟨W.heap.size + 1, 2, none⟩ (.int .i64 (v3 : Int))).setCell ⟨W.heap.size + 1 + 1, 0, none⟩ (.int .i64 0)).setCell ⟨W.heap.size + 1 + 1, 1, none⟩ (.slice none 0 0)).drew = wz at *
              obtain ⟨hla, hle, hlk⟩ := hl
              have r0 : wz.cell? ⟨W.heap.size + 1, 0, none⟩ = some (.int .i64 (v1 : Int)) := hla.cell 0
              have r1 : wz.cell? ⟨W.heap.size + 1, 1, none⟩ = some (.int .i64 (v2 : Int)) := hla.cell 1
              have r2 : wz.cell? ⟨W.heap.size + 1, 2, none⟩ = some (.int .i64 (v3 : Int)) := hla.cell 2
              have r3 : wz.cell? ⟨W.heap.size + 1 + 1, 0, none⟩ = some (.int .i64 0) := hle.cell 0
              have r4 : wz.cell? ⟨W.heap.size + 1 + 1, 1, none⟩ = some (.slice none 0 0) := hle.cell 1
              have hbz : Below W.heap.size W wz := hlk.below HB13.out (fun k h => by omega) HB13.out.size
              have HEND : Hid (ArcRow (arcR x.t _) x.line W (.returned (.tuple #[arcV ⟨(v1 : Int), (v2 : Int), (v3 : Int)⟩, .agg #[.int .i64 0, (.slice none 0 0)]])) wz) := Lib.hid (by rw [HAR.out]; exact ⟨hbz, rfl⟩)
              clear hla hle
              go_wp2_with fail
              refine bodyPost_ret (v := .tuple #[arcV ⟨(v1 : Int), (v2 : Int), (v3 : Int)⟩, .agg #[.int .i64 0, (.slice none 0 0)]]) ?hres rfl HEND.out
              case hres => simp [results, Tryz.results56, go_sem, r0, r1, r2, r3, r4]
end Go.Proofs.YtngihiebkbheaaaGreatDoor
