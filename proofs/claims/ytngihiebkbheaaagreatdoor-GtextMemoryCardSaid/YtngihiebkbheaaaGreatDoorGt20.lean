/- The document's graph out of rows. -/
import Derived.Test.YtngihiebkbheaaaGreatDoorGt19
set_option linter.unusedSimpArgs false
set_option linter.unusedVariables false
namespace Go.Proofs.YtngihiebkbheaaaGreatDoor
open Go.RowKit Txt

def GrDoc (r : Except (Int × Int) GrT) (W : World) (e : Ending) (w' : World) : Prop := Below W.heap.size W w' ∧ match r with
  | .error c => ∃ ex, e = .returned (.tuple #[.agg #[.int .i64 0, .slice none 0 0], errV ex]) ∧ DocX (some (c.1, some (1, c.2))) W.heap.size ex w'
  | .ok g => ∃ A k, e = .returned (.tuple #[.agg #[.int .i64 g.n, .slice A g.arcs.length k], errV zX]) ∧ Own 54 3 encA w' W.heap.size (.slice A g.arcs.length k) g.arcs
/-- a graph and an error laid into their cells -/
def LaidG (p q : Nat) (n : Int) (s : Value) (x : ErrX) (w wz : World) : Prop := Cells wz p #[.int .i64 n, s] 24 ∧ Cells wz q #[.int .i64 x.c, .slice x.A x.n x.k] 32 ∧ Kept (fun k => k = p ∨ k = q) w wz
theorem laidG {w : World} {p q : Nat} (n : Int) (s : Value) (x : ErrX) (hp : Cells w p #[.int .i64 0, .slice none 0 0] 24) (hq : Cells w q #[.int .i64 0, .slice none 0 0] 32) (hne : p ≠ q) :
    LaidG p q n s x w ((((w.setCell ⟨p, 0, none⟩ (.int .i64 n)).setCell ⟨p, 1, none⟩ s).setCell ⟨q, 0, none⟩ (.int .i64 x.c)).setCell ⟨q, 1, none⟩ (.slice x.A x.n x.k)) := by
  have hp' := (hp.set_ 0 (.int .i64 n)).set_ 1 s
  simp only [List.setIfInBounds_toArray, List.set_cons_zero, List.set_cons_succ] at hp'
  have k1 : Kept (fun k => k = p) w ((w.setCell ⟨p, 0, none⟩ (.int .i64 n)).setCell ⟨p, 1, none⟩ s) := ((Kept.refl (fun k => k = p) w).set_ (p := ⟨p, 0, none⟩) (.inl rfl) _).set_ (p := ⟨p, 1, none⟩) (.inl rfl) _
  have hq1 := k1.cells hq (fun h => hne h.symm)
  generalize (w.setCell ⟨p, 0, none⟩ (.int .i64 n)).setCell ⟨p, 1, none⟩ s = w1 at *
  have hq2 := (hq1.set_ 0 (.int .i64 x.c)).set_ 1 (.slice x.A x.n x.k)
  simp only [List.setIfInBounds_toArray, List.set_cons_zero, List.set_cons_succ] at hq2
  have k3 : Kept (fun k => k = q) w1 ((w1.setCell ⟨q, 0, none⟩ (.int .i64 x.c)).setCell ⟨q, 1, none⟩ (.slice x.A x.n x.k)) := ((Kept.refl (fun k => k = q) w1).set_ (p := ⟨q, 0, none⟩) (.inl rfl) _).set_ (p := ⟨q, 1, none⟩) (.inl rfl) _
  exact ⟨k3.cells hp' hne, hq2, ((Kept.refl (fun k => k = p ∨ k = q) w).trans2 k1 (fun k h => .inl (.inl h))).trans2 k3 (fun k h => .inl (.inr h))⟩
theorem LaidG.drew {w wz : World} {p q : Nat} {n : Int} {s : Value} {x : ErrX} (h : LaidG p q n s x w wz) : LaidG p q n s x w wz.drew :=
  ⟨h.1.below (Below.drew (Below.refl _ _)), h.2.1.below (Below.drew (Below.refl _ _)), h.2.2.trans (Kept.of_below (Below.drew (Below.refl _ _)))⟩
theorem formBug_good {x : RowV} {w : Bs} {c : Nat} : GoodB (formBug x w c) := by
  intro p hp
  unfold formBug at hp
  split at hp
  · cases hp
  · rename_i c hc
    injection hp with hp
    subst hp
    unfold formR at hc
    (repeat' split at hc) <;> simp_all <;> omega
theorem graphT_tail (r : RowT) (rs : List RowT) : graphT (r :: rs) = match formR r [103, 114, 97, 112, 104] 3 with
    | some c => .error (c, r.line)
    | none => match numE (r.ws.getD 1 []) 65536 9 with
      | .error c => .error (c, r.line)
      | .ok n => match numE (r.ws.getD 2 []) 262144 9 with
        | .error c => .error (c, r.line)
        | .ok m => tailT n (arcsGo n m r.line rs) := rfl
theorem numE_code {w : Bs} {m b c : Int} (h : numE w m b = .error c) (hb : b ≠ 0) : c ≠ 0 := by
  unfold numE at h
  split at h
  · split at h
    · injection h with h; omega
    · cases h
  · injection h with h; omega
theorem arcR_code {r : RowT} {n : Nat} {c : Int} (h : arcR r n = .error c) : c ≠ 0 := by
  unfold arcR at h
  split at h
  · rename_i c' hc
    injection h with h
    subst h
    unfold formR at hc
    (repeat' split at hc) <;> simp_all <;> omega
  split at h
  · rename_i hc
    injection h with h
    subst h
    exact numE_code hc (by decide)
  split at h
  · rename_i hc
    injection h with h
    subst h
    exact numE_code hc (by decide)
  split at h
  · rename_i hc
    injection h with h
    subst h
    exact numE_code hc (by decide)
  · cases h
theorem lastLine_snoc (p : List RowV) (y : RowV) : lastLine (p ++ [y]) = y.line := by
  unfold lastLine
  rw [List.getLast?_append]
  rfl
theorem row_cells {w : World} {A : Option Addr} {n : Nat} {L : List RowV} (h : Rd 2 encRw w A n L) {p q : List RowV} {y : RowV} (hL : L = p ++ y :: q) :
    ∃ ad, A = some ad ∧ w.cell? (ad.add (p.length * 2)) = some (.int .i64 y.line) ∧ w.cell? ⟨(ad.add (p.length * 2)).block, (ad.add (p.length * 2)).off + 1, none⟩ = some (.slice y.A y.ws.length y.k) := by
  have hl : p.length < n := by rw [← h.1, hL]; simp
  obtain ⟨ad, hA, cc⟩ := h.2 (by omega)
  have hj : L[p.length]? = some y := by rw [hL]; simp
  have h0 := cc p.length y 0 _ hj rfl
  have h1 := cc p.length y 1 _ hj rfl
  rw [← add_of_add] at h1
  rw [Nat.add_zero] at h0
  exact ⟨ad, hA, h0, h1⟩
set_option maxRecDepth 100000 in
set_option maxHeartbeats 16000000 in
theorem docgraph_any (A : Option Addr) (k : Nat) (L : List RowV) (W : World) (hL : L.length ≤ 1048577) (hrd : RdRow W A L.length L) (hwl : ∀ x ∈ L, ∀ y ∈ x.ws, y.length ≤ 1048576) :
    Calls Tryz.prog 36 #[.slice A L.length k] W (GrDoc (graphT (L.map RowV.t)) W) := by
  have HLK : Hid (∀ w, Below W.heap.size W w → Calls Tryz.prog 53 #[.slice A L.length k] w (ErrAt (some (5, some (1, lastLine L))) w)) := Lib.hid (fun w hb => lacks_any A k L w hL (hrd.below hb))
  have HROW : Hid (∀ w, Below W.heap.size W w → ∀ p y q, L = p ++ y :: q → ∃ ad, A = some ad ∧ w.cell? (ad.add (p.length * 2)) = some (.int .i64 y.line) ∧ w.cell? ⟨(ad.add (p.length * 2)).block, (ad.add (p.length * 2)).off + 1, none⟩ = some (.slice y.A y.ws.length y.k)) := Lib.hid (fun w hb p y q h => row_cells (hrd.below hb).rows h)
  have HWS : Hid (∀ w, Below W.heap.size W w → ∀ y ∈ L, RdS w y.A y.ws.length (y.ws.map toB) ∧ 0 < y.ws.length ∧ y.ws.length ≤ y.k ∧ y.k ≤ maxLen) := Lib.hid (fun w hb y hy => (hrd.below hb).ws y hy)
  have HWL := Lib.hid hwl
  clear hrd hwl
  have hb1 := two_alG W (.cells #[.int .i64 0, .slice none 0 0] 24) (.cells #[.int .i64 0, .slice none 0 0] 32)
  have hg := (cells_new W #[.int .i64 0, .slice none 0 0] 24).below ((Below.refl _ _).alloc (Nat.le_refl _) (.cells #[.int .i64 0, .slice none 0 0] 32))
  have he := cells_new (W.alloc (.cells #[.int .i64 0, .slice none 0 0] 24)) #[.int .i64 0, .slice none 0 0] 32
  have hz : ((W.alloc (.cells #[.int .i64 0, .slice none 0 0] 24)).alloc (.cells #[.int .i64 0, .slice none 0 0] 32)).heap.size = W.heap.size + 1 + 1 := by simp
  rw [size_alloc] at he
  have HB1 := Lib.hid hb1
  have HG1 := Lib.hid hg
  have HE1 := Lib.hid he
  clear hb1 hg he
  obtain ⟨n, hn⟩ : ∃ n, L.length = n := ⟨_, rfl⟩
  have HN := Lib.hid hn
  rw [hn] at hL
  rw [hn] at HLK ⊢
  clear hn
  go_enter Tryz.func36, Tryz.ntmps36
  go_upto_region 1 with fail
  generalize ((W.alloc (.cells #[.int .i64 0, .slice none 0 0] 24)).alloc (.cells #[.int .i64 0, .slice none 0 0] 32)) = w1 at *
  by_cases hnz : n = 0
  · have g0 : ((n : Int) == 0) = true := by rw [beq_iff_eq]; omega
    obtain rfl : L = [] := List.eq_nil_of_length_eq_zero (by have := HN.out; omega)
    have HT : Hid (graphT (([] : List RowV).map RowV.t) = .error (5, 0)) := Lib.hid rfl
    clear HROW HWS HWL HN hnz
    go_wp2_with fail
    refine (HLK.out w1 HB1.out).mono ?_
    rintro e w2 ⟨hb2, ex, rfl, hd⟩
    have hd2 : DocX (some (5, some (1, 0))) w1.heap.size ex w2 := hd
    have HD2 := Lib.hid hd2
    clear hd hd2 HLK
    unfold errV
    have HB2 := Lib.hid (HB1.out.trans (hb2.mono HB1.out.size))
    have HG2 := Lib.hid (HG1.out.below hb2)
    have HE2 := Lib.hid (HE1.out.below hb2)
    have hs2 := hb2.size
    clear hb2
    have Gc0 : w2.cell? ⟨W.heap.size, 0, none⟩ = some (.int .i64 0) := HG2.out.cell 0
    have Gf0 := HG2.out.frozen 0
    have Gc1 : w2.cell? ⟨W.heap.size, 1, none⟩ = some (.slice none 0 0) := HG2.out.cell 1
    have Gf1 := HG2.out.frozen 1
    have Ec0 : w2.cell? ⟨W.heap.size + 1, 0, none⟩ = some (.int .i64 0) := HE2.out.cell 0
    have Ef0 := HE2.out.frozen 0
    have Ec1 : w2.cell? ⟨W.heap.size + 1, 1, none⟩ = some (.slice none 0 0) := HE2.out.cell 1
    have Ef1 := HE2.out.frozen 1
    have hl : LaidG W.heap.size (W.heap.size + 1) 0 (.slice none 0 0) ex w2 ((((w2.setCell ⟨W.heap.size, 0, none⟩ (.int .i64 0)).setCell ⟨W.heap.size, 1, none⟩ (.slice none 0 0)).setCell ⟨W.heap.size + 1, 0, none⟩ (.int .i64 ex.c)).setCell ⟨W.heap.size + 1, 1, none⟩ (.slice ex.A ex.n ex.k)) := (laidG (p := W.heap.size) (q := W.heap.size + 1) 0 (.slice none 0 0) ex HG2.out HE2.out (by omega))
    have HL := Lib.hid hl
    clear hl
    go_wp2_with fail
    generalize ((((w2.setCell ⟨W.heap.size, 0, none⟩ (.int .i64 0)).setCell ⟨W.heap.size, 1, none⟩ (.slice none 0 0)).setCell ⟨W.heap.size + 1, 0, none⟩ (.int .i64 ex.c)).setCell ⟨W.heap.size + 1, 1, none⟩ (.slice ex.A ex.n ex.k)) = wz at *
    obtain ⟨hla, hle, hlk⟩ := HL.out
    have r0 : wz.cell? ⟨W.heap.size, 0, none⟩ = some (.int .i64 0) := hla.cell 0
    have r1 : wz.cell? ⟨W.heap.size, 1, none⟩ = some (.slice none 0 0) := hla.cell 1
    have r2 : wz.cell? ⟨W.heap.size + 1, 0, none⟩ = some (.int .i64 ex.c) := hle.cell 0
    have r3 : wz.cell? ⟨W.heap.size + 1, 1, none⟩ = some (.slice ex.A ex.n ex.k) := hle.cell 1
    have hbz : Below W.heap.size W wz := hlk.below HB2.out (fun k h => by omega) HB2.out.size
    have HEND : Hid (GrDoc (graphT (([] : List RowV).map RowV.t)) W (.returned (.tuple #[.agg #[.int .i64 0, (.slice none 0 0)], .agg #[.int .i64 ex.c, (.slice ex.A ex.n ex.k)]])) wz) := Lib.hid (by rw [HT.out]; exact ⟨hbz, ex, rfl, (HD2.out.keptS hlk (by omega)).mono (by omega)⟩)
    clear hla hle
    refine bodyPost_ret (v := .tuple #[.agg #[.int .i64 0, (.slice none 0 0)], .agg #[.int .i64 ex.c, (.slice ex.A ex.n ex.k)]]) ?hres rfl HEND.out
    case hres => simp [results, Tryz.results36, go_sem, r0, r1, r2, r3]
  · have g0 : ((n : Int) == 0) = false := by rw [beq_eq_false_iff_ne]; omega
    obtain ⟨x, L', rfl⟩ : ∃ x L', L = x :: L' := by
      cases L with
      | nil => exact absurd HN.out.symm hnz
      | cons x L' => exact ⟨x, L', rfl⟩
    have hgt : graphT ((x :: L').map RowV.t) = match formR x.t [103, 114, 97, 112, 104] 3 with
        | some c => .error (c, x.line)
        | none => match numE (x.t.ws.getD 1 []) 65536 9 with
          | .error c => .error (c, x.line)
          | .ok n => match numE (x.t.ws.getD 2 []) 262144 9 with
            | .error c => .error (c, x.line)
            | .ok m => tailT n (arcsGo n m x.line (L'.map RowV.t)) := graphT_tail x.t (L'.map RowV.t)
    have HGT := Lib.hid hgt
    obtain ⟨ad, hA, hrow⟩ : ∃ ad, A = some ad ∧ ∀ w, Below W.heap.size W w → w.cell? ad = some (.int .i64 x.line) ∧ w.cell? ⟨ad.block, ad.off + 1, none⟩ = some (.slice x.A x.ws.length x.k) := by
      obtain ⟨ad, hA, h0, h1⟩ := HROW.out W (Below.refl _ _) [] x L' rfl
      refine ⟨ad, hA, fun w hb => ?_⟩
      obtain ⟨ad', hA', h0, h1⟩ := HROW.out w hb [] x L' rfl
      rw [hA] at hA'
      injection hA' with hA'
      subst hA'
      exact ⟨h0, h1⟩
    subst hA
    have HR0 := Lib.hid hrow
    have p0 : (0 : Int) < (n : Int) := by omega
    obtain ⟨hx1, hx2, hx3, hx4⟩ := HWS.out W (Below.refl _ _) x (by simp)
    have HX1 : Hid (∀ w, Below W.heap.size W w → RdS w x.A x.ws.length (x.ws.map toB)) := Lib.hid (fun w hb => (HWS.out w hb x (by simp)).1)
    have hxl : x.ws.length ≤ 9223372036854775807 := Nat.le_trans hx3 hx4
    have hxs := HWL.out x (by simp)
    have HF := Lib.hid (form_any x ⟨#[103, 114, 97, 112, 104]⟩ 3 w1 (by omega) (HX1.out w1 HB1.out) hx2 hxl)
    have HNU : Hid (∀ w, Below W.heap.size W w → ∀ (i m : Nat) (h : i < x.ws.length), m ≤ 2147483647 → Calls Tryz.prog 55 #[.agg #[.int .i64 x.line, .slice x.A x.ws.length x.k], .int .i64 (i : Int), .int .u64 (m : Int), .int .i64 9] w (NumRow (numE x.ws[i] (m : Int) 9) x.line w)) := Lib.hid (fun w hb i m h hm => docnum_any x i m 9 w h hm (HX1.out w hb) hxl (hxs _ (List.getElem_mem _)))
    clear hgt hrow hx1 hx3 hx4 hxs hnz
    obtain ⟨l0, l1⟩ := HR0.out w1 HB1.out
    go_wp2_with fail
    refine HF.out.mono ?_
    rintro e w2 ⟨hb2, ex, rfl, hd⟩
    have hd2 : DocX (formBug x [103, 114, 97, 112, 104] 3) w1.heap.size ex w2 := hd
    have HD2 := Lib.hid hd2
    clear hd hd2 HF l0 l1
    unfold errV
    have HB2 := Lib.hid (HB1.out.trans (hb2.mono HB1.out.size))
    have HG2 := Lib.hid (HG1.out.below hb2)
    have HE2 := Lib.hid (HE1.out.below hb2)
    have hs2 := hb2.size
    clear hb2
    have hb3 := (Below.refl w2.heap.size w2).alloc (Nat.le_refl _) (.cells #[.int .i64 ex.c, .slice ex.A ex.n ex.k] 32)
    have hx3 := cells_new w2 #[.int .i64 ex.c, .slice ex.A ex.n ex.k] 32
    have HB3 := Lib.hid (HB2.out.trans (hb3.mono HB2.out.size))
    have HG3 := Lib.hid (HG2.out.below hb3)
    have HE3 := Lib.hid (HE2.out.below hb3)
    have HD3 := Lib.hid (HD2.out.below hb3)
    have hs3 := hb3.size
    clear hb3
    have HF3 := Lib.hid hx3
    clear hx3
    go_upto_region 4 with fail
    generalize w2.alloc (.cells #[.int .i64 ex.c, .slice ex.A ex.n ex.k] 32) = w3 at *
    have Fc0 : w3.cell? ⟨w2.heap.size, 0, none⟩ = some (.int .i64 ex.c) := HF3.out.cell 0
    have Fc1 : w3.cell? ⟨w2.heap.size, 1, none⟩ = some (.slice ex.A ex.n ex.k) := HF3.out.cell 1
    go_wp2_with fail
    refine (Bad_any ex.c ex.A ex.n ex.k w3).mono ?_
    rintro e w4 ⟨rfl, hb4⟩
    have HB4 := Lib.hid (HB3.out.trans (hb4.mono HB3.out.size))
    have HG4 := Lib.hid (HG3.out.below hb4)
    have HE4 := Lib.hid (HE3.out.below hb4)
    have HF4 := Lib.hid (HF3.out.below hb4)
    have HD4 := Lib.hid (HD3.out.below hb4)
    have hs4 := hb4.size
    clear hb4 Fc0 Fc1
    have hbad : decide (ex.c ≠ 0 ∨ 0 < ex.n) = (formBug x [103, 114, 97, 112, 104] 3).isSome := HD4.out.bad formBug_good
    rw [hbad]
    cases hfo : formR x.t [103, 114, 97, 112, 104] 3 with
    | some c =>
      have hbug : formBug x [103, 114, 97, 112, 104] 3 = some (c, some (1, x.line)) := by unfold formBug; rw [hfo]
      have hD := HD4.out
      rw [hbug] at hD ⊢
      have HT : Hid (graphT ((x :: L').map RowV.t) = .error (c, x.line)) := Lib.hid (by rw [HGT.out, hfo])
      clear HD4 HD3 HD2 hbad hbug hfo
      have HD4 := Lib.hid hD
      clear hD
      have Fc0 : w4.cell? ⟨w2.heap.size, 0, none⟩ = some (.int .i64 ex.c) := HF4.out.cell 0
      have Fc1 : w4.cell? ⟨w2.heap.size, 1, none⟩ = some (.slice ex.A ex.n ex.k) := HF4.out.cell 1
      go_upto_region 5 with fail
      have Gc0 : w4.cell? ⟨W.heap.size, 0, none⟩ = some (.int .i64 0) := HG4.out.cell 0
      have Gf0 := HG4.out.frozen 0
      have Gc1 : w4.cell? ⟨W.heap.size, 1, none⟩ = some (.slice none 0 0) := HG4.out.cell 1
      have Gf1 := HG4.out.frozen 1
      have Ec0 : w4.cell? ⟨W.heap.size + 1, 0, none⟩ = some (.int .i64 0) := HE4.out.cell 0
      have Ef0 := HE4.out.frozen 0
      have Ec1 : w4.cell? ⟨W.heap.size + 1, 1, none⟩ = some (.slice none 0 0) := HE4.out.cell 1
      have Ef1 := HE4.out.frozen 1
      go_region
      all_goals
        have hl : LaidG W.heap.size (W.heap.size + 1) 0 (.slice none 0 0) ex w4 ((((w4.setCell ⟨W.heap.size, 0, none⟩ (.int .i64 0)).setCell ⟨W.heap.size, 1, none⟩ (.slice none 0 0)).setCell ⟨W.heap.size + 1, 0, none⟩ (.int .i64 ex.c)).setCell ⟨W.heap.size + 1, 1, none⟩ (.slice ex.A ex.n ex.k)).drew := (laidG (p := W.heap.size) (q := W.heap.size + 1) 0 (.slice none 0 0) ex HG4.out HE4.out (by omega)).drew
        have HL := Lib.hid hl
        clear hl
        generalize ((((w4.setCell ⟨W.heap.size, 0, none⟩ (.int .i64 0)).setCell ⟨W.heap.size, 1, none⟩ (.slice none 0 0)).setCell ⟨W.heap.size + 1, 0, none⟩ (.int .i64 ex.c)).setCell ⟨W.heap.size + 1, 1, none⟩ (.slice ex.A ex.n ex.k)).drew = wz at *
        obtain ⟨hla, hle, hlk⟩ := HL.out
        have r0 : wz.cell? ⟨W.heap.size, 0, none⟩ = some (.int .i64 0) := hla.cell 0
        have r1 : wz.cell? ⟨W.heap.size, 1, none⟩ = some (.slice none 0 0) := hla.cell 1
        have r2 : wz.cell? ⟨W.heap.size + 1, 0, none⟩ = some (.int .i64 ex.c) := hle.cell 0
        have r3 : wz.cell? ⟨W.heap.size + 1, 1, none⟩ = some (.slice ex.A ex.n ex.k) := hle.cell 1
        have hbz : Below W.heap.size W wz := hlk.below HB4.out (fun k h => by omega) HB4.out.size
        have HEND : Hid (GrDoc (graphT ((x :: L').map RowV.t)) W (.returned (.tuple #[.agg #[.int .i64 0, (.slice none 0 0)], .agg #[.int .i64 ex.c, (.slice ex.A ex.n ex.k)]])) wz) := Lib.hid (by rw [HT.out]; exact ⟨hbz, ex, rfl, (HD4.out.keptS hlk (by omega)).mono (by omega)⟩)
        clear hla hle
        go_wp2_with fail
        refine bodyPost_ret (v := .tuple #[.agg #[.int .i64 0, (.slice none 0 0)], .agg #[.int .i64 ex.c, (.slice ex.A ex.n ex.k)]]) ?hres rfl HEND.out
        case hres => simp [results, Tryz.results36, go_sem, r0, r1, r2, r3]
    | none =>
      have hbug : formBug x [103, 114, 97, 112, 104] 3 = none := by unfold formBug; rw [hfo]
      rw [hbug]
      obtain ⟨hh, hl4⟩ := form_none hfo
      have hl3 : x.ws.length = 3 := hl4
      have hgt2 := HGT.out
      rw [hfo] at hgt2
      have HGT2 := Lib.hid hgt2
      clear hbad hbug hfo HD4 HD3 HD2 HGT hgt2 hh hl4
      obtain ⟨a0, a1, a2, hws⟩ : ∃ a0 a1 a2, x.ws = [a0, a1, a2] := by
        match h : x.ws, hl3 with
        | [a0, a1, a2], _ => exact ⟨a0, a1, a2, rfl⟩
      have D1 : Hid (∀ w, Below W.heap.size W w → Calls Tryz.prog 55 #[.agg #[.int .i64 x.line, .slice x.A x.ws.length x.k], .int .i64 1, .int .u64 65536, .int .i64 9] w (NumRow (numE a1 65536 9) x.line w)) := Lib.hid (fun w hb => by
        have h1 := HNU.out w hb 1 65536 (by omega) (by omega)
        rwa [show x.ws[1]'(by omega) = a1 by simp [hws]] at h1)
      have D2 : Hid (∀ w, Below W.heap.size W w → Calls Tryz.prog 55 #[.agg #[.int .i64 x.line, .slice x.A x.ws.length x.k], .int .i64 2, .int .u64 262144, .int .i64 9] w (NumRow (numE a2 262144 9) x.line w)) := Lib.hid (fun w hb => by
        have h1 := HNU.out w hb 2 262144 (by omega) (by omega)
        rwa [show x.ws[2]'(by omega) = a2 by simp [hws]] at h1)
      have hg3 : graphT ((x :: L').map RowV.t) = match numE a1 65536 9 with
          | .error c => .error (c, x.line)
          | .ok n => match numE a2 262144 9 with
            | .error c => .error (c, x.line)
            | .ok m => tailT n (arcsGo n m x.line (L'.map RowV.t)) := by
        have hws' : x.t.ws = [a0, a1, a2] := hws
        have h := HGT2.out
        rw [hws'] at h
        exact h
      have HG3 := Lib.hid hg3
      clear hg3 HGT2 HNU hws hl3 hxl hx2 HX1
      generalize x.ws.length = ln at *
      obtain ⟨l0, l1⟩ := HR0.out w4 HB4.out
      go_upto_region 6 with fail
      go_wp2_with fail
      refine (D1.out w4 HB4.out).mono ?_
      rintro e w5 ⟨hb5, he⟩
      have HB5 := Lib.hid (HB4.out.trans (hb5.mono HB4.out.size))
      have HG5 := Lib.hid (HG4.out.below hb5)
      have HE5 := Lib.hid (HE4.out.below hb5)
      have hs5 := hb5.size
      clear hb5
      clear l0 l1 D1
      have hk5 : ∀ c, numE a1 65536 9 = .error c → c ≠ 0 := fun c h => by
        unfold numE at h
        split at h
        · split at h
          · injection h with h; omega
          · cases h
        · injection h with h; omega
      cases hN1 : numE a1 65536 9 with
      | error c =>
        rw [hN1] at he
        dsimp only at he
        obtain ⟨ex5, rfl, hd5⟩ := he
        have HT : Hid (graphT ((x :: L').map RowV.t) = .error (c, x.line)) := Lib.hid (by rw [HG3.out, hN1])
        have hbad : decide (ex5.c ≠ 0 ∨ 0 < ex5.n) = true := hd5.bad (fun p hp => by injection hp with hp; subst hp; exact hk5 c hN1)
        have HD5 := Lib.hid hd5
        unfold errV
        clear hd5 hN1 hk5 HG3
        have hb6 := (Below.refl w5.heap.size w5).alloc (Nat.le_refl _) (.cells #[.int .i64 ex5.c, .slice ex5.A ex5.n ex5.k] 32)
        have hx6 := cells_new w5 #[.int .i64 ex5.c, .slice ex5.A ex5.n ex5.k] 32
        have HB6 := Lib.hid (HB5.out.trans (hb6.mono HB5.out.size))
        have HG6 := Lib.hid (HG5.out.below hb6)
        have HE6 := Lib.hid (HE5.out.below hb6)
        have HD6 := Lib.hid (HD5.out.below hb6)
        have hs6 := hb6.size
        clear hb6
        have HF6 := Lib.hid hx6
        clear hx6
        go_upto_region 7 with fail
        generalize w5.alloc (.cells #[.int .i64 ex5.c, .slice ex5.A ex5.n ex5.k] 32) = w6 at *
        have Fc0 : w6.cell? ⟨w5.heap.size, 0, none⟩ = some (.int .i64 ex5.c) := HF6.out.cell 0
        have Fc1 : w6.cell? ⟨w5.heap.size, 1, none⟩ = some (.slice ex5.A ex5.n ex5.k) := HF6.out.cell 1
        go_wp2_with fail
        refine (Bad_any ex5.c ex5.A ex5.n ex5.k w6).mono ?_
        rintro e w7 ⟨rfl, hb7⟩
        rw [hbad]
        have HB7 := Lib.hid (HB6.out.trans (hb7.mono HB6.out.size))
        have HG7 := Lib.hid (HG6.out.below hb7)
        have HE7 := Lib.hid (HE6.out.below hb7)
        have HF7 := Lib.hid (HF6.out.below hb7)
        have HD7 := Lib.hid (HD6.out.below hb7)
        have hs7 := hb7.size
        clear hb7 Fc0 Fc1
        have Fc0 : w7.cell? ⟨w5.heap.size, 0, none⟩ = some (.int .i64 ex5.c) := HF7.out.cell 0
        have Fc1 : w7.cell? ⟨w5.heap.size, 1, none⟩ = some (.slice ex5.A ex5.n ex5.k) := HF7.out.cell 1
        go_upto_region 8 with fail
        have Gc0 : w7.cell? ⟨W.heap.size, 0, none⟩ = some (.int .i64 0) := HG7.out.cell 0
        have Gf0 := HG7.out.frozen 0
        have Gc1 : w7.cell? ⟨W.heap.size, 1, none⟩ = some (.slice none 0 0) := HG7.out.cell 1
        have Gf1 := HG7.out.frozen 1
        have Ec0 : w7.cell? ⟨W.heap.size + 1, 0, none⟩ = some (.int .i64 0) := HE7.out.cell 0
        have Ef0 := HE7.out.frozen 0
        have Ec1 : w7.cell? ⟨W.heap.size + 1, 1, none⟩ = some (.slice none 0 0) := HE7.out.cell 1
        have Ef1 := HE7.out.frozen 1
        go_region
        all_goals
          have hl : LaidG W.heap.size (W.heap.size + 1) 0 (.slice none 0 0) ex5 w7 ((((w7.setCell ⟨W.heap.size, 0, none⟩ (.int .i64 0)).setCell ⟨W.heap.size, 1, none⟩ (.slice none 0 0)).setCell ⟨W.heap.size + 1, 0, none⟩ (.int .i64 ex5.c)).setCell ⟨W.heap.size + 1, 1, none⟩ (.slice ex5.A ex5.n ex5.k)).drew := (laidG (p := W.heap.size) (q := W.heap.size + 1) 0 (.slice none 0 0) ex5 HG7.out HE7.out (by omega)).drew
          have HL := Lib.hid hl
          clear hl
          generalize ((((w7.setCell ⟨W.heap.size, 0, none⟩ (.int .i64 0)).setCell ⟨W.heap.size, 1, none⟩ (.slice none 0 0)).setCell ⟨W.heap.size + 1, 0, none⟩ (.int .i64 ex5.c)).setCell ⟨W.heap.size + 1, 1, none⟩ (.slice ex5.A ex5.n ex5.k)).drew = wz at *
          obtain ⟨hla, hle, hlk⟩ := HL.out
          have r0 : wz.cell? ⟨W.heap.size, 0, none⟩ = some (.int .i64 0) := hla.cell 0
          have r1 : wz.cell? ⟨W.heap.size, 1, none⟩ = some (.slice none 0 0) := hla.cell 1
          have r2 : wz.cell? ⟨W.heap.size + 1, 0, none⟩ = some (.int .i64 ex5.c) := hle.cell 0
          have r3 : wz.cell? ⟨W.heap.size + 1, 1, none⟩ = some (.slice ex5.A ex5.n ex5.k) := hle.cell 1
          have hbz : Below W.heap.size W wz := hlk.below HB7.out (fun k h => by omega) HB7.out.size
          have HEND : Hid (GrDoc (graphT ((x :: L').map RowV.t)) W (.returned (.tuple #[.agg #[.int .i64 0, (.slice none 0 0)], .agg #[.int .i64 ex5.c, (.slice ex5.A ex5.n ex5.k)]])) wz) := Lib.hid (by rw [HT.out]; exact ⟨hbz, ex5, rfl, (HD7.out.keptS hlk (by omega)).mono (by omega)⟩)
          clear hla hle
          go_wp2_with fail
          refine bodyPost_ret (v := .tuple #[.agg #[.int .i64 0, (.slice none 0 0)], .agg #[.int .i64 ex5.c, (.slice ex5.A ex5.n ex5.k)]]) ?hres rfl HEND.out
          case hres => simp [results, Tryz.results36, go_sem, r0, r1, r2, r3]
      | ok v0 =>
        rw [hN1] at he
        dsimp only at he
        subst he
        have hv0 := numE_le hN1
        have hg4 := HG3.out
        rw [hN1] at hg4
        dsimp only at hg4
        have HG4 := Lib.hid hg4
        clear hN1 hk5 hg4 HG3
        unfold errV zX
        have hb6 := (Below.refl w5.heap.size w5).alloc (Nat.le_refl _) (.cells #[.int .i64 0, .slice none 0 0] 32)
        have hx6 := cells_new w5 #[.int .i64 0, .slice none 0 0] 32
        have HB6 := Lib.hid (HB5.out.trans (hb6.mono HB5.out.size))
        have HG6 := Lib.hid (HG5.out.below hb6)
        have HE6 := Lib.hid (HE5.out.below hb6)
        have hs6 := hb6.size
        clear hb6
        have HF6 := Lib.hid hx6
        clear hx6
        go_upto_region 7 with fail
        generalize w5.alloc (.cells #[.int .i64 0, .slice none 0 0] 32) = w6 at *
        have hlF6 := HF6.out.lt
        have Fc0 : w6.cell? ⟨w5.heap.size, 0, none⟩ = some (.int .i64 0) := HF6.out.cell 0
        have Fc1 : w6.cell? ⟨w5.heap.size, 1, none⟩ = some (.slice none 0 0) := HF6.out.cell 1
        go_wp2_with fail
        refine (Bad_any 0 none 0 0 w6).mono ?_
        rintro e w7 ⟨rfl, hb7⟩
        have HB7 := Lib.hid (HB6.out.trans (hb7.mono HB6.out.size))
        have HG7 := Lib.hid (HG6.out.below hb7)
        have HE7 := Lib.hid (HE6.out.below hb7)
        have HF7 := Lib.hid (HF6.out.below hb7)
        have hs7 := hb7.size
        clear hb7 Fc0 Fc1
        obtain ⟨l0, l1⟩ := HR0.out w7 HB7.out
        go_upto_region 9 with fail
        go_wp2_with fail
        refine (D2.out w7 HB7.out).mono ?_
        rintro e w8 ⟨hb8, he⟩
        have HB8 := Lib.hid (HB7.out.trans (hb8.mono HB7.out.size))
        have HG8 := Lib.hid (HG7.out.below hb8)
        have HE8 := Lib.hid (HE7.out.below hb8)
        have HF8 := Lib.hid (HF7.out.below hb8)
        have hs8 := hb8.size
        clear hb8
        clear l0 l1 D2
        have hl1z := HB5.out.size
        have hk8 : ∀ c, numE a2 262144 9 = .error c → c ≠ 0 := fun c h => by
          unfold numE at h
          split at h
          · split at h
            · injection h with h; omega
            · cases h
          · injection h with h; omega
        have Fc0 : w8.cell? ⟨w5.heap.size, 0, none⟩ = some (.int .i64 0) := HF8.out.cell 0
        have Ff0 := HF8.out.frozen 0
        have Fc1 : w8.cell? ⟨w5.heap.size, 1, none⟩ = some (.slice none 0 0) := HF8.out.cell 1
        have Ff1 := HF8.out.frozen 1
        cases hN2 : numE a2 262144 9 with
        | error c =>
          rw [hN2] at he
          dsimp only at he
          obtain ⟨ex8, rfl, hd8⟩ := he
          have HT : Hid (graphT ((x :: L').map RowV.t) = .error (c, x.line)) := Lib.hid (by rw [HG4.out, hN2])
          have hbad : decide (ex8.c ≠ 0 ∨ 0 < ex8.n) = true := hd8.bad (fun p hp => by injection hp with hp; subst hp; exact hk8 c hN2)
          have HD8 := Lib.hid hd8
          unfold errV
          clear hd8 hN2 hk8 HG4
          have hkx : Kept (fun k => k = w5.heap.size) w8 ((w8.setCell ⟨w5.heap.size, 0, none⟩ (.int .i64 ex8.c)).setCell ⟨w5.heap.size, 1, none⟩ (.slice ex8.A ex8.n ex8.k)) := (((Kept.refl (fun k => k = w5.heap.size) w8).set_ (p := ⟨w5.heap.size, 0, none⟩) (.inl rfl) _).set_ (p := ⟨w5.heap.size, 1, none⟩) (.inl rfl) _)
          have hx9 := ((HF8.out.set_ 0 (.int .i64 ex8.c)).set_ 1 (.slice ex8.A ex8.n ex8.k))
          simp only [List.setIfInBounds_toArray, List.set_cons_zero, List.set_cons_succ] at hx9
          have HF9 := Lib.hid hx9
          have HB9 := Lib.hid (hkx.below HB8.out (fun k h => by omega) HB8.out.size)
          have HG9 := Lib.hid (hkx.cells HG8.out (fun h => by omega))
          have HE9 := Lib.hid (hkx.cells HE8.out (fun h => by omega))
          have HD9 := Lib.hid (HD8.out.off hkx (by omega))
          have hs9 := hkx.size
          clear hkx hx9
          go_upto_region 10 with fail
          generalize (w8.setCell ⟨w5.heap.size, 0, none⟩ (.int .i64 ex8.c)).setCell ⟨w5.heap.size, 1, none⟩ (.slice ex8.A ex8.n ex8.k) = w9 at *
          clear Fc0 Ff0 Fc1 Ff1
          have Fc0 : w9.cell? ⟨w5.heap.size, 0, none⟩ = some ((.int .i64 ex8.c)) := HF9.out.cell 0
          have Fc1 : w9.cell? ⟨w5.heap.size, 1, none⟩ = some ((.slice ex8.A ex8.n ex8.k)) := HF9.out.cell 1
          go_wp2_with fail
          refine (Bad_any ex8.c ex8.A ex8.n ex8.k w9).mono ?_
          rintro e w10 ⟨rfl, hb10⟩
          rw [hbad]
          have HB10 := Lib.hid (HB9.out.trans (hb10.mono HB9.out.size))
          have HG10 := Lib.hid (HG9.out.below hb10)
          have HE10 := Lib.hid (HE9.out.below hb10)
          have HF10 := Lib.hid (HF9.out.below hb10)
          have HD10 := Lib.hid (HD9.out.below hb10)
          have hs10 := hb10.size
          clear hb10 Fc0 Fc1
          have Fc0 : w10.cell? ⟨w5.heap.size, 0, none⟩ = some ((.int .i64 ex8.c)) := HF10.out.cell 0
          have Fc1 : w10.cell? ⟨w5.heap.size, 1, none⟩ = some ((.slice ex8.A ex8.n ex8.k)) := HF10.out.cell 1
          go_upto_region 11 with fail
          have Gc0 : w10.cell? ⟨W.heap.size, 0, none⟩ = some (.int .i64 0) := HG10.out.cell 0
          have Gf0 := HG10.out.frozen 0
          have Gc1 : w10.cell? ⟨W.heap.size, 1, none⟩ = some (.slice none 0 0) := HG10.out.cell 1
          have Gf1 := HG10.out.frozen 1
          have Ec0 : w10.cell? ⟨W.heap.size + 1, 0, none⟩ = some (.int .i64 0) := HE10.out.cell 0
          have Ef0 := HE10.out.frozen 0
          have Ec1 : w10.cell? ⟨W.heap.size + 1, 1, none⟩ = some (.slice none 0 0) := HE10.out.cell 1
          have Ef1 := HE10.out.frozen 1
          go_region
          all_goals
            have hl : LaidG W.heap.size (W.heap.size + 1) 0 (.slice none 0 0) ex8 w10 ((((w10.setCell ⟨W.heap.size, 0, none⟩ (.int .i64 0)).setCell ⟨W.heap.size, 1, none⟩ (.slice none 0 0)).setCell ⟨W.heap.size + 1, 0, none⟩ (.int .i64 ex8.c)).setCell ⟨W.heap.size + 1, 1, none⟩ (.slice ex8.A ex8.n ex8.k)).drew := (laidG (p := W.heap.size) (q := W.heap.size + 1) 0 (.slice none 0 0) ex8 HG10.out HE10.out (by omega)).drew
            have HL := Lib.hid hl
            clear hl
            generalize ((((w10.setCell ⟨W.heap.size, 0, none⟩ (.int .i64 0)).setCell ⟨W.heap.size, 1, none⟩ (.slice none 0 0)).setCell ⟨W.heap.size + 1, 0, none⟩ (.int .i64 ex8.c)).setCell ⟨W.heap.size + 1, 1, none⟩ (.slice ex8.A ex8.n ex8.k)).drew = wz at *
            obtain ⟨hla, hle, hlk⟩ := HL.out
            have r0 : wz.cell? ⟨W.heap.size, 0, none⟩ = some (.int .i64 0) := hla.cell 0
            have r1 : wz.cell? ⟨W.heap.size, 1, none⟩ = some (.slice none 0 0) := hla.cell 1
            have r2 : wz.cell? ⟨W.heap.size + 1, 0, none⟩ = some (.int .i64 ex8.c) := hle.cell 0
            have r3 : wz.cell? ⟨W.heap.size + 1, 1, none⟩ = some (.slice ex8.A ex8.n ex8.k) := hle.cell 1
            have hbz : Below W.heap.size W wz := hlk.below HB10.out (fun k h => by omega) HB10.out.size
            have HEND : Hid (GrDoc (graphT ((x :: L').map RowV.t)) W (.returned (.tuple #[.agg #[.int .i64 0, (.slice none 0 0)], .agg #[.int .i64 ex8.c, (.slice ex8.A ex8.n ex8.k)]])) wz) := Lib.hid (by rw [HT.out]; exact ⟨hbz, ex8, rfl, (HD10.out.keptS hlk (by omega)).mono (by omega)⟩)
            clear hla hle
            go_wp2_with fail
            refine bodyPost_ret (v := .tuple #[.agg #[.int .i64 0, (.slice none 0 0)], .agg #[.int .i64 ex8.c, (.slice ex8.A ex8.n ex8.k)]]) ?hres rfl HEND.out
            case hres => simp [results, Tryz.results36, go_sem, r0, r1, r2, r3]
        | ok v1 =>
          rw [hN2] at he
          dsimp only at he
          subst he
          have hv1 := numE_le hN2
          have hg5 := HG4.out
          rw [hN2] at hg5
          dsimp only at hg5
          have HG5 := Lib.hid hg5
          clear hN2 hk8 hg5 HG4
          unfold errV zX
          have hkx : Kept (fun k => k = w5.heap.size) w8 ((w8.setCell ⟨w5.heap.size, 0, none⟩ (.int .i64 0)).setCell ⟨w5.heap.size, 1, none⟩ (.slice none 0 0)) := (((Kept.refl (fun k => k = w5.heap.size) w8).set_ (p := ⟨w5.heap.size, 0, none⟩) (.inl rfl) _).set_ (p := ⟨w5.heap.size, 1, none⟩) (.inl rfl) _)
          have hx9 := ((HF8.out.set_ 0 (.int .i64 0)).set_ 1 (.slice none 0 0))
          simp only [List.setIfInBounds_toArray, List.set_cons_zero, List.set_cons_succ] at hx9
          have HF9 := Lib.hid hx9
          have HB9 := Lib.hid (hkx.below HB8.out (fun k h => by omega) HB8.out.size)
          have HG9 := Lib.hid (hkx.cells HG8.out (fun h => by omega))
          have HE9 := Lib.hid (hkx.cells HE8.out (fun h => by omega))
          have hs9 := hkx.size
          clear hkx hx9
          go_upto_region 10 with fail
          generalize (w8.setCell ⟨w5.heap.size, 0, none⟩ (.int .i64 0)).setCell ⟨w5.heap.size, 1, none⟩ (.slice none 0 0) = w9 at *
          clear Fc0 Ff0 Fc1 Ff1
          have Fc0 : w9.cell? ⟨w5.heap.size, 0, none⟩ = some ((.int .i64 0)) := HF9.out.cell 0
          have Fc1 : w9.cell? ⟨w5.heap.size, 1, none⟩ = some ((.slice none 0 0)) := HF9.out.cell 1
          go_wp2_with fail
          refine (Bad_any 0 none 0 0 w9).mono ?_
          rintro e w10 ⟨rfl, hb10⟩
          have HB10 := Lib.hid (HB9.out.trans (hb10.mono HB9.out.size))
          have HG10 := Lib.hid (HG9.out.below hb10)
          have HE10 := Lib.hid (HE9.out.below hb10)
          have HF10 := Lib.hid (HF9.out.below hb10)
          have hs10 := hb10.size
          clear hb10 Fc0 Fc1
          have hb11 := (Below.refl w10.heap.size w10).alloc (Nat.le_refl _) (.cells #[.int .i64 (v0 : Int), .slice none 0 0] 24)
          have hx11 := cells_new w10 #[.int .i64 (v0 : Int), .slice none 0 0] 24
          have HB11 := Lib.hid (HB10.out.trans (hb11.mono HB10.out.size))
          have HG11 := Lib.hid (HG10.out.below hb11)
          have HE11 := Lib.hid (HE10.out.below hb11)
          have hs11 := hb11.size
          clear hb11
          have HY11 := Lib.hid hx11
          clear hx11
          go_upto_region 13 with fail
          generalize w10.alloc (.cells #[.int .i64 (v0 : Int), .slice none 0 0] 24) = w11 at *
          have hlY11 := HY11.out.lt
          have hs0 := HB10.out.size
          generalize hGe : w10.heap.size = Gb at *
          clear hGe
          have HRW : Hid (∀ w, Below W.heap.size W w → ∀ (i : Nat) p y q, x :: L' = p ++ y :: q → p.length = i → w.cell? (ad.add (i * 2)) = some (.int .i64 y.line) ∧ w.cell? ⟨(ad.add (i * 2)).block, (ad.add (i * 2)).off + 1, none⟩ = some (.slice y.A y.ws.length y.k)) := Lib.hid (fun w hb i p y q h hi => by
            obtain ⟨ad', hA', h0, h1⟩ := HROW.out w hb p y q h
            injection hA' with hA'
            subst hA' hi
            exact ⟨h0, h1⟩)
          clear HROW HR0
          go_upto_region 14 with fail
          go_loopw [9] (fun iv wr => ∃ (i : Nat) (pre : List RowV) (y : RowV) (LL : List RowV) (al : List ArcT) (sv : Value), 1 ≤ i ∧ i ≤ v1 + 1 ∧ iv = .int .i64 (i : Int) ∧ al.length + 1 = i ∧ x :: L' = pre ++ y :: LL ∧ pre.length + 1 = i ∧ Cells wr Gb #[.int .i64 (v0 : Int), sv] 24 ∧ Own 54 3 encA wr w11.heap.size sv al ∧ Kept (fun k => k = Gb) w11 wr ∧ arcsGo v0 v1 x.line (L'.map RowV.t) = addArcs al (arcsGo v0 (v1 + 1 - i) y.line (LL.map RowV.t))) (fun iv _ => v1 + 1 - (intOf iv).toNat)
          case atStart => exact ⟨1, [], x, L', [], .slice none 0 0, by omega, by omega, rfl, rfl, rfl, rfl, HY11.out, Own.nil _ _ _ _ _, Kept.refl _ _, by rw [Nat.add_sub_cancel]; exact (addArcs_nil _).symm⟩
          case round =>
            obtain ⟨i, pre, y, LL, al, sv, hi1, hi2, rfl, hal, hsp, hpre, hcy, ho, hkr, hst⟩ := hrel
            have HBR := Lib.hid (hkr.below HB11.out (fun k h => by omega) HB11.out.size)
            have HGR := Lib.hid (hkr.cells HG11.out (fun h => by omega))
            have HER := Lib.hid (hkr.cells HE11.out (fun h => by omega))
            have HYR := Lib.hid hcy
            have HOR := Lib.hid ho
            have HKR := Lib.hid hkr
            have HST := Lib.hid hst
            have HSP := Lib.hid hsp
            have hsr := hkr.size
            have HLE : Hid (lastLine (x :: L') = lastLine (pre ++ y :: LL)) := Lib.hid (by rw [hsp])
            have hn2 : n = pre.length + 1 + LL.length := by rw [← HN.out, hsp]; simp; omega
            clear hcy ho hkr hst hsp
            by_cases hle : i ≤ v1
            · have c0 : decide ((i : Int) ≤ (v1 : Int)) = true := decide_eq_true (by omega)
              obtain ⟨t, ht⟩ : ∃ t, v1 + 1 - i = t + 1 := ⟨v1 - i, by omega⟩
              have hst := HST.out
              rw [ht] at hst
              have HST1 := Lib.hid hst
              clear hst HST
              cases LL with
              | nil =>
                have c1 : decide ((n : Int) ≤ (i : Int)) = true := decide_eq_true (by rw [List.length_nil] at hn2; omega)
                have c1' : decide (n ≤ i) = true := decide_eq_true (by rw [List.length_nil] at hn2; omega)
                have hll := HLE.out
                rw [lastLine_snoc] at hll
                have HT : Hid (graphT ((x :: L').map RowV.t) = .error (5, y.line)) := Lib.hid (by rw [HG5.out, HST1.out]; rfl)
                have hlk := HLK.out wr HBR.out
                rw [hll] at hlk
                have HLK1 := Lib.hid hlk
                clear hlk HLK HLE hll hn2 ht
                go_upto_region 17 with fail
                go_wp2_with fail
                refine HLK1.out.mono ?_
                rintro e w20 ⟨hb20, ex20, rfl, hd20⟩
                have HD20 := Lib.hid hd20
                clear hd20 HLK1
                unfold errV
                have HB20 := Lib.hid (HBR.out.trans (hb20.mono HBR.out.size))
                have HG20 := Lib.hid (HGR.out.below hb20)
                have HE20 := Lib.hid (HER.out.below hb20)
                have hs20 := hb20.size
                clear hb20
                have Gc0 : w20.cell? ⟨W.heap.size, 0, none⟩ = some (.int .i64 0) := HG20.out.cell 0
                have Gf0 := HG20.out.frozen 0
                have Gc1 : w20.cell? ⟨W.heap.size, 1, none⟩ = some (.slice none 0 0) := HG20.out.cell 1
                have Gf1 := HG20.out.frozen 1
                have Ec0 : w20.cell? ⟨W.heap.size + 1, 0, none⟩ = some (.int .i64 0) := HE20.out.cell 0
                have Ef0 := HE20.out.frozen 0
                have Ec1 : w20.cell? ⟨W.heap.size + 1, 1, none⟩ = some (.slice none 0 0) := HE20.out.cell 1
                have Ef1 := HE20.out.frozen 1
                have hl : LaidG W.heap.size (W.heap.size + 1) 0 (.slice none 0 0) ex20 w20 ((((w20.setCell ⟨W.heap.size, 0, none⟩ (.int .i64 0)).setCell ⟨W.heap.size, 1, none⟩ (.slice none 0 0)).setCell ⟨W.heap.size + 1, 0, none⟩ (.int .i64 ex20.c)).setCell ⟨W.heap.size + 1, 1, none⟩ (.slice ex20.A ex20.n ex20.k)) := (laidG (p := W.heap.size) (q := W.heap.size + 1) 0 (.slice none 0 0) ex20 HG20.out HE20.out (by omega))
                have HL := Lib.hid hl
                clear hl
                go_wp2_with fail
                generalize ((((w20.setCell ⟨W.heap.size, 0, none⟩ (.int .i64 0)).setCell ⟨W.heap.size, 1, none⟩ (.slice none 0 0)).setCell ⟨W.heap.size + 1, 0, none⟩ (.int .i64 ex20.c)).setCell ⟨W.heap.size + 1, 1, none⟩ (.slice ex20.A ex20.n ex20.k)) = wz at *
                obtain ⟨hla, hle, hlk⟩ := HL.out
                have r0 : wz.cell? ⟨W.heap.size, 0, none⟩ = some (.int .i64 0) := hla.cell 0
                have r1 : wz.cell? ⟨W.heap.size, 1, none⟩ = some (.slice none 0 0) := hla.cell 1
                have r2 : wz.cell? ⟨W.heap.size + 1, 0, none⟩ = some (.int .i64 ex20.c) := hle.cell 0
                have r3 : wz.cell? ⟨W.heap.size + 1, 1, none⟩ = some (.slice ex20.A ex20.n ex20.k) := hle.cell 1
                have hbz : Below W.heap.size W wz := hlk.below HB20.out (fun k h => by omega) HB20.out.size
                have HEND : Hid (GrDoc (graphT ((x :: L').map RowV.t)) W (.returned (.tuple #[.agg #[.int .i64 0, (.slice none 0 0)], .agg #[.int .i64 ex20.c, (.slice ex20.A ex20.n ex20.k)]])) wz) := Lib.hid (by rw [HT.out]; exact ⟨hbz, ex20, rfl, (HD20.out.keptS hlk (by omega)).mono (by omega)⟩)
                clear hla hle
                refine bodyPost_ret (v := .tuple #[.agg #[.int .i64 0, (.slice none 0 0)], .agg #[.int .i64 ex20.c, (.slice ex20.A ex20.n ex20.k)]]) ?hres rfl HEND.out
                case hres => simp [results, Tryz.results36, go_sem, r0, r1, r2, r3]
              | cons z LL' =>
                have c1 : decide ((n : Int) ≤ (i : Int)) = false := decide_eq_false (by rw [List.length_cons] at hn2; omega)
                have c1' : decide (n ≤ i) = false := decide_eq_false (by rw [List.length_cons] at hn2; omega)
                have p1 : (i : Int) < (n : Int) := by rw [List.length_cons] at hn2; omega
                have hsp2 : x :: L' = (pre ++ [y]) ++ z :: LL' := by rw [HSP.out]; simp
                have hzm : z ∈ x :: L' := by rw [hsp2]; simp
                obtain ⟨z1, z2, z3, z4⟩ := HWS.out wr HBR.out z hzm
                have HAR := Lib.hid (docarc_any z v0 wr (by omega) z1 z2 (Nat.le_trans z3 z4) (HWL.out z hzm))
                obtain ⟨l0, l1⟩ := HRW.out wr HBR.out i (pre ++ [y]) z LL' hsp2 (by rw [List.length_append]; exact hpre)
                have HSP2 := Lib.hid hsp2
                clear hn2 HLE HLK hsp2 hzm z1 z2 z3 z4 HSP
                go_upto_region 18 with fail
                go_wp2_with fail
                refine HAR.out.mono ?_
                rintro e w20 ⟨hb20, he⟩
                clear HAR l0 l1
                have HO20 := Lib.hid (HOR.out.below hb20)
                have HK20 : Hid (Kept (fun k => k = Gb) w11 w20) := Lib.hid (HKR.out.trans (.of_below hb20))
                have HB20 := Lib.hid (HBR.out.trans (hb20.mono HBR.out.size))
                have HG20 := Lib.hid (HGR.out.below hb20)
                have HE20 := Lib.hid (HER.out.below hb20)
                have HY20 := Lib.hid (HYR.out.below hb20)
                have hs20 := hb20.size
                clear hb20
                cases hac : arcR z.t v0 with
                | error c =>
                  rw [hac] at he
                  dsimp only at he
                  obtain ⟨ex20, rfl, hd20⟩ := he
                  have hst2 := HST1.out
                  rw [List.map_cons, addArcs_bad _ _ _ _ _ _ _ hac] at hst2
                  have HT : Hid (graphT ((x :: L').map RowV.t) = .error (c, z.line)) := Lib.hid (by rw [HG5.out, hst2]; rfl)
                  have hbad : decide (ex20.c ≠ 0 ∨ 0 < ex20.n) = true := hd20.bad (fun p hp => by injection hp with hp; subst hp; exact arcR_code hac)
                  have HD20 := Lib.hid hd20
                  clear hd20 hst2 hac HST1
                  unfold errV
                  have hb21 := two_alG w20 (.cells #[.int .i64 0, .int .i64 0, .int .i64 0] 54) (.cells #[.int .i64 ex20.c, .slice ex20.A ex20.n ex20.k] 32)
                  have hx21 := (cells_new w20 #[.int .i64 0, .int .i64 0, .int .i64 0] 54).below ((Below.refl _ _).alloc (Nat.le_refl _) (.cells #[.int .i64 ex20.c, .slice ex20.A ex20.n ex20.k] 32))
                  have hy21 := cells_new (w20.alloc (.cells #[.int .i64 0, .int .i64 0, .int .i64 0] 54)) #[.int .i64 ex20.c, .slice ex20.A ex20.n ex20.k] 32
                  have hz21 : ((w20.alloc (.cells #[.int .i64 0, .int .i64 0, .int .i64 0] 54)).alloc (.cells #[.int .i64 ex20.c, .slice ex20.A ex20.n ex20.k] 32)).heap.size = w20.heap.size + 1 + 1 := by simp
                  rw [size_alloc] at hy21
                  have HB21 := Lib.hid (HB20.out.trans (hb21.mono HB20.out.size))
                  have HG21 := Lib.hid (HG20.out.below hb21)
                  have HE21 := Lib.hid (HE20.out.below hb21)
                  have HD21 := Lib.hid (HD20.out.below hb21)
                  have hs21 := hb21.size
                  clear hb21
                  have HQ21 := Lib.hid hx21
                  have HF21 := Lib.hid hy21
                  clear hx21 hy21
                  go_upto_region 19 with fail
                  generalize (w20.alloc (.cells #[.int .i64 0, .int .i64 0, .int .i64 0] 54)).alloc (.cells #[.int .i64 ex20.c, .slice ex20.A ex20.n ex20.k] 32) = w21 at *
                  have Fc0 : w21.cell? ⟨w20.heap.size + 1, 0, none⟩ = some (.int .i64 ex20.c) := HF21.out.cell 0
                  have Fc1 : w21.cell? ⟨w20.heap.size + 1, 1, none⟩ = some (.slice ex20.A ex20.n ex20.k) := HF21.out.cell 1
                  go_wp2_with fail
                  refine (Bad_any ex20.c ex20.A ex20.n ex20.k w21).mono ?_
                  rintro e w22 ⟨rfl, hb22⟩
                  rw [hbad]
                  have HB22 := Lib.hid (HB21.out.trans (hb22.mono HB21.out.size))
                  have HG22 := Lib.hid (HG21.out.below hb22)
                  have HE22 := Lib.hid (HE21.out.below hb22)
                  have HQ22 := Lib.hid (HQ21.out.below hb22)
                  have HF22 := Lib.hid (HF21.out.below hb22)
                  have HD22 := Lib.hid (HD21.out.below hb22)
                  have hs22 := hb22.size
                  clear hb22 Fc0 Fc1
                  have Fc0 : w22.cell? ⟨w20.heap.size + 1, 0, none⟩ = some (.int .i64 ex20.c) := HF22.out.cell 0
                  have Fc1 : w22.cell? ⟨w20.heap.size + 1, 1, none⟩ = some (.slice ex20.A ex20.n ex20.k) := HF22.out.cell 1
                  go_upto_region 20 with fail
                  have Gc0 : w22.cell? ⟨W.heap.size, 0, none⟩ = some (.int .i64 0) := HG22.out.cell 0
                  have Gf0 := HG22.out.frozen 0
                  have Gc1 : w22.cell? ⟨W.heap.size, 1, none⟩ = some (.slice none 0 0) := HG22.out.cell 1
                  have Gf1 := HG22.out.frozen 1
                  have Ec0 : w22.cell? ⟨W.heap.size + 1, 0, none⟩ = some (.int .i64 0) := HE22.out.cell 0
                  have Ef0 := HE22.out.frozen 0
                  have Ec1 : w22.cell? ⟨W.heap.size + 1, 1, none⟩ = some (.slice none 0 0) := HE22.out.cell 1
                  have Ef1 := HE22.out.frozen 1
                  go_region
                  all_goals
                    have hl : LaidG W.heap.size (W.heap.size + 1) 0 (.slice none 0 0) ex20 w22 ((((w22.setCell ⟨W.heap.size, 0, none⟩ (.int .i64 0)).setCell ⟨W.heap.size, 1, none⟩ (.slice none 0 0)).setCell ⟨W.heap.size + 1, 0, none⟩ (.int .i64 ex20.c)).setCell ⟨W.heap.size + 1, 1, none⟩ (.slice ex20.A ex20.n ex20.k)).drew := (laidG (p := W.heap.size) (q := W.heap.size + 1) 0 (.slice none 0 0) ex20 HG22.out HE22.out (by omega)).drew
                    have HL := Lib.hid hl
                    clear hl
                    generalize ((((w22.setCell ⟨W.heap.size, 0, none⟩ (.int .i64 0)).setCell ⟨W.heap.size, 1, none⟩ (.slice none 0 0)).setCell ⟨W.heap.size + 1, 0, none⟩ (.int .i64 ex20.c)).setCell ⟨W.heap.size + 1, 1, none⟩ (.slice ex20.A ex20.n ex20.k)).drew = wz at *
                    obtain ⟨hla, hle, hlk⟩ := HL.out
                    have r0 : wz.cell? ⟨W.heap.size, 0, none⟩ = some (.int .i64 0) := hla.cell 0
                    have r1 : wz.cell? ⟨W.heap.size, 1, none⟩ = some (.slice none 0 0) := hla.cell 1
                    have r2 : wz.cell? ⟨W.heap.size + 1, 0, none⟩ = some (.int .i64 ex20.c) := hle.cell 0
                    have r3 : wz.cell? ⟨W.heap.size + 1, 1, none⟩ = some (.slice ex20.A ex20.n ex20.k) := hle.cell 1
                    have hbz : Below W.heap.size W wz := hlk.below HB22.out (fun k h => by omega) HB22.out.size
                    have HEND : Hid (GrDoc (graphT ((x :: L').map RowV.t)) W (.returned (.tuple #[.agg #[.int .i64 0, (.slice none 0 0)], .agg #[.int .i64 ex20.c, (.slice ex20.A ex20.n ex20.k)]])) wz) := Lib.hid (by rw [HT.out]; exact ⟨hbz, ex20, rfl, (HD22.out.keptS hlk (by omega)).mono (by omega)⟩)
                    clear hla hle
                    go_wp2_with fail
                    refine bodyPost_ret (v := .tuple #[.agg #[.int .i64 0, (.slice none 0 0)], .agg #[.int .i64 ex20.c, (.slice ex20.A ex20.n ex20.k)]]) ?hres rfl HEND.out
                    case hres => simp [results, Tryz.results36, go_sem, r0, r1, r2, r3]
                | ok a =>
                  rw [hac] at he
                  dsimp only at he
                  subst he
                  have hst2 := HST1.out
                  rw [List.map_cons, addArcs_step _ _ _ _ _ _ _ hac] at hst2
                  have HST2 := Lib.hid hst2
                  clear hst2 hac HST1
                  unfold errV zX
                  dsimp only
                  have hb21 := two_alG w20 (.cells #[.int .i64 a.f, .int .i64 a.t, .int .i64 a.w] 54) (.cells #[.int .i64 0, .slice none 0 0] 32)
                  have hx21 := (cells_new w20 #[.int .i64 a.f, .int .i64 a.t, .int .i64 a.w] 54).below ((Below.refl _ _).alloc (Nat.le_refl _) (.cells #[.int .i64 0, .slice none 0 0] 32))
                  have hy21 := cells_new (w20.alloc (.cells #[.int .i64 a.f, .int .i64 a.t, .int .i64 a.w] 54)) #[.int .i64 0, .slice none 0 0] 32
                  have hz21 : ((w20.alloc (.cells #[.int .i64 a.f, .int .i64 a.t, .int .i64 a.w] 54)).alloc (.cells #[.int .i64 0, .slice none 0 0] 32)).heap.size = w20.heap.size + 1 + 1 := by simp
                  rw [size_alloc] at hy21
                  have HB21 := Lib.hid (HB20.out.trans (hb21.mono HB20.out.size))
                  have HG21 := Lib.hid (HG20.out.below hb21)
                  have HE21 := Lib.hid (HE20.out.below hb21)
                  have HY21 := Lib.hid (HY20.out.below hb21)
                  have hs21 := hb21.size
                  clear hb21
                  have HQ21 := Lib.hid hx21
                  have HF21 := Lib.hid hy21
                  clear hx21 hy21
                  have HO21 := Lib.hid (HO20.out.below (two_alG w20 (.cells #[.int .i64 a.f, .int .i64 a.t, .int .i64 a.w] 54) (.cells #[.int .i64 0, .slice none 0 0] 32)))
                  have HK21 := Lib.hid (HK20.out.trans (.of_below (two_alG w20 (.cells #[.int .i64 a.f, .int .i64 a.t, .int .i64 a.w] 54) (.cells #[.int .i64 0, .slice none 0 0] 32))))
                  go_upto_region 19 with fail
                  generalize (w20.alloc (.cells #[.int .i64 a.f, .int .i64 a.t, .int .i64 a.w] 54)).alloc (.cells #[.int .i64 0, .slice none 0 0] 32) = w21 at *
                  have Fc0 : w21.cell? ⟨w20.heap.size + 1, 0, none⟩ = some (.int .i64 0) := HF21.out.cell 0
                  have Fc1 : w21.cell? ⟨w20.heap.size + 1, 1, none⟩ = some (.slice none 0 0) := HF21.out.cell 1
                  go_wp2_with fail
                  refine (Bad_any 0 none 0 0 w21).mono ?_
                  rintro e w22 ⟨rfl, hb22⟩
                  have HO22 := Lib.hid (HO21.out.below hb22)
                  have HK22 : Hid (Kept (fun k => k = Gb) w11 w22) := Lib.hid (HK21.out.trans (.of_below hb22))
                  have HB22 := Lib.hid (HB21.out.trans (hb22.mono HB21.out.size))
                  have HG22 := Lib.hid (HG21.out.below hb22)
                  have HE22 := Lib.hid (HE21.out.below hb22)
                  have HY22 := Lib.hid (HY21.out.below hb22)
                  have HQ22 := Lib.hid (HQ21.out.below hb22)
                  have hs22 := hb22.size
                  clear hb22 Fc0 Fc1
                  have Yc0 : w22.cell? ⟨Gb, 0, none⟩ = some (.int .i64 (v0 : Int)) := HY22.out.cell 0
                  have Yf0 := HY22.out.frozen 0
                  have Yc1 : w22.cell? ⟨Gb, 1, none⟩ = some (sv) := HY22.out.cell 1
                  have Yf1 := HY22.out.frozen 1
                  have Qc0 : w22.cell? ⟨w20.heap.size, 0, none⟩ = some (.int .i64 a.f) := HQ22.out.cell 0
                  have Qc1 : w22.cell? ⟨w20.heap.size, 1, none⟩ = some (.int .i64 a.t) := HQ22.out.cell 1
                  have Qc2 : w22.cell? ⟨w20.heap.size, 2, none⟩ = some (.int .i64 a.w) := HQ22.out.cell 2
                  have hoG : ∀ k, sv.ownBlock = some k → w11.heap.size ≤ k := fun k h => (HO22.out.block h).1
                  have hw1 : IntKind.i64.wrap ((i : Int) + 1) = (i : Int) + 1 := by rw [IntKind.wrap_i64]; omega
                  go_upto_region 21 with fail
                  go_wp2_with (at_builtin; go_loud (refine wpList_append_rd rfl (.tmp 77) (.tmp 79) 22 rfl 54 (.agg #[.int .i64 0, .int .i64 0, .int .i64 0]) 24 Tryz.underlying22 info_arc rfl (by omega) (by omega) encA_len encA_one w11.heap.size _ al rfl (HO22.out.below ((Below.refl _ _).alloc (Nat.le_refl _) _)) _ 1 1 [a] rfl (rd_arc rfl) (by omega) (by simp; omega) ?_; intro v2 w24 ho2 hg2 hat2; obtain ⟨A2, c2, rfl, h2c, h2m⟩ := ho2.form; have hl2 : (al ++ [a]).length = i := (by rw [List.length_append]; exact hal); rw [hl2] at ho2 ⊢; have HO24 := Lib.hid ho2; have HK24 : Hid (Kept (fun k => sv.ownBlock = some k) w22 w24) := Lib.hid (((Kept.refl _ w22).alloc _).trans ⟨hg2.1, hg2.2, hg2.3, hg2.4, fun k hk hs => hg2.5 k hk (fun e => hs e.symm)⟩); have hg8 := HK24.out.cells HY22.out (fun h => by have := hoG Gb h; omega); have q1 := hg8.cell 1; have p9 := hg8.frozen 1; have HY24 := Lib.hid hg8; clear ho2 hg2 hat2 hg8 h2c h2m hl2))
                  have hg9 := HY24.out.set_ 1 (.slice A2 i c2)
                  simp only [List.setIfInBounds_toArray, List.set_cons_zero, List.set_cons_succ] at hg9
                  have HY25 := Lib.hid hg9
                  have hk9 : Kept (fun k => k = Gb) w24 (w24.setCell ⟨Gb, 1, none⟩ (.slice A2 i c2)) := (Kept.refl (fun k => k = Gb) w24).set_ (p := ⟨Gb, 1, none⟩) (.inl rfl) _
                  have ho9 := keptS_own HO24.out hk9 (fun k h => by have := (HO24.out.block h).1; omega)
                  have HO25 := Lib.hid ho9
                  have HK25 : Hid (Kept (fun k => k = Gb) w11 (w24.setCell ⟨Gb, 1, none⟩ (.slice A2 i c2))) := Lib.hid ((HK22.out.trans2 HK24.out (fun k h => .inr (hoG k h))).trans hk9)
                  clear hg9 hk9 ho9
                  go_round
                  case rel => exact ⟨i + 1, pre ++ [y], z, LL', al ++ [a], .slice A2 i c2, by omega, by omega, by go_num, by rw [List.length_append, List.length_singleton]; omega, HSP2.out, by rw [List.length_append, List.length_singleton]; omega, HY25.out, HO25.out, HK25.out, by rw [show v1 + 1 - (i + 1) = t by omega]; exact HST2.out⟩
                  case measure => simp [intOf]; omega
            · have c0 : decide ((i : Int) ≤ (v1 : Int)) = false := decide_eq_false (by omega)
              have c0' : decide (i ≤ v1) = false := decide_eq_false (by omega)
              have hst := HST.out
              rw [show v1 + 1 - i = 0 by omega] at hst
              have he0 : addArcs al (arcsGo v0 0 y.line (LL.map RowV.t)) = .ok (al, y.line, LL.map RowV.t) := by unfold arcsGo addArcs; dsimp only; rw [List.append_nil]
              rw [he0] at hst
              have HST1 := Lib.hid hst
              clear hst he0 HST
              have q3 : IntKind.i64.wrap ((v1 : Int) + 1) = (v1 : Int) + 1 := by rw [IntKind.wrap_i64]; omega
              have q4 : IntKind.i64.wrap ((v1 : Int) + 2) = (v1 : Int) + 2 := by rw [IntKind.wrap_i64]; omega
              cases LL with
              | nil =>
                have c1 : decide ((n : Int) ≤ (v1 : Int) + 1) = true := decide_eq_true (by rw [List.length_nil] at hn2; omega)
                have c1' : decide (n ≤ v1 + 1) = true := decide_eq_true (by rw [List.length_nil] at hn2; omega)
                have hll := HLE.out
                rw [lastLine_snoc] at hll
                have HT : Hid (graphT ((x :: L').map RowV.t) = .error (5, y.line)) := Lib.hid (by rw [HG5.out, HST1.out]; rfl)
                have hlk := HLK.out wr HBR.out
                rw [hll] at hlk
                have HLK1 := Lib.hid hlk
                clear hlk HLK HLE hll hn2
                go_upto_region 23 with fail
                go_wp2_with fail
                refine HLK1.out.mono ?_
                rintro e w20 ⟨hb20, ex20, rfl, hd20⟩
                have HD20 := Lib.hid hd20
                clear hd20 HLK1
                unfold errV
                have HB20 := Lib.hid (HBR.out.trans (hb20.mono HBR.out.size))
                have HG20 := Lib.hid (HGR.out.below hb20)
                have HE20 := Lib.hid (HER.out.below hb20)
                have hs20 := hb20.size
                clear hb20
                have Gc0 : w20.cell? ⟨W.heap.size, 0, none⟩ = some (.int .i64 0) := HG20.out.cell 0
                have Gf0 := HG20.out.frozen 0
                have Gc1 : w20.cell? ⟨W.heap.size, 1, none⟩ = some (.slice none 0 0) := HG20.out.cell 1
                have Gf1 := HG20.out.frozen 1
                have Ec0 : w20.cell? ⟨W.heap.size + 1, 0, none⟩ = some (.int .i64 0) := HE20.out.cell 0
                have Ef0 := HE20.out.frozen 0
                have Ec1 : w20.cell? ⟨W.heap.size + 1, 1, none⟩ = some (.slice none 0 0) := HE20.out.cell 1
                have Ef1 := HE20.out.frozen 1
                have hl : LaidG W.heap.size (W.heap.size + 1) 0 (.slice none 0 0) ex20 w20 ((((w20.setCell ⟨W.heap.size, 0, none⟩ (.int .i64 0)).setCell ⟨W.heap.size, 1, none⟩ (.slice none 0 0)).setCell ⟨W.heap.size + 1, 0, none⟩ (.int .i64 ex20.c)).setCell ⟨W.heap.size + 1, 1, none⟩ (.slice ex20.A ex20.n ex20.k)) := (laidG (p := W.heap.size) (q := W.heap.size + 1) 0 (.slice none 0 0) ex20 HG20.out HE20.out (by omega))
                have HL := Lib.hid hl
                clear hl
                go_wp2_with fail
                generalize ((((w20.setCell ⟨W.heap.size, 0, none⟩ (.int .i64 0)).setCell ⟨W.heap.size, 1, none⟩ (.slice none 0 0)).setCell ⟨W.heap.size + 1, 0, none⟩ (.int .i64 ex20.c)).setCell ⟨W.heap.size + 1, 1, none⟩ (.slice ex20.A ex20.n ex20.k)) = wz at *
                obtain ⟨hla, hle, hlk⟩ := HL.out
                have r0 : wz.cell? ⟨W.heap.size, 0, none⟩ = some (.int .i64 0) := hla.cell 0
                have r1 : wz.cell? ⟨W.heap.size, 1, none⟩ = some (.slice none 0 0) := hla.cell 1
                have r2 : wz.cell? ⟨W.heap.size + 1, 0, none⟩ = some (.int .i64 ex20.c) := hle.cell 0
                have r3 : wz.cell? ⟨W.heap.size + 1, 1, none⟩ = some (.slice ex20.A ex20.n ex20.k) := hle.cell 1
                have hbz : Below W.heap.size W wz := hlk.below HB20.out (fun k h => by omega) HB20.out.size
                have HEND : Hid (GrDoc (graphT ((x :: L').map RowV.t)) W (.returned (.tuple #[.agg #[.int .i64 0, (.slice none 0 0)], .agg #[.int .i64 ex20.c, (.slice ex20.A ex20.n ex20.k)]])) wz) := Lib.hid (by rw [HT.out]; exact ⟨hbz, ex20, rfl, (HD20.out.keptS hlk (by omega)).mono (by omega)⟩)
                clear hla hle
                refine bodyPost_ret (v := .tuple #[.agg #[.int .i64 0, (.slice none 0 0)], .agg #[.int .i64 ex20.c, (.slice ex20.A ex20.n ex20.k)]]) ?hres rfl HEND.out
                case hres => simp [results, Tryz.results36, go_sem, r0, r1, r2, r3]
              | cons z LL' =>
                have c1 : decide ((n : Int) ≤ (v1 : Int) + 1) = false := decide_eq_false (by rw [List.length_cons] at hn2; omega)
                have c1' : decide (n ≤ v1 + 1) = false := decide_eq_false (by rw [List.length_cons] at hn2; omega)
                have p1 : (v1 : Int) + 1 < (n : Int) := by rw [List.length_cons] at hn2; omega
                have hsp2 : x :: L' = (pre ++ [y]) ++ z :: LL' := by rw [HSP.out]; simp
                have hzm : z ∈ x :: L' := by rw [hsp2]; simp
                obtain ⟨z1, z2, z3, z4⟩ := HWS.out wr HBR.out z hzm
                have HFO := Lib.hid (form_any z ⟨#[101, 110, 100]⟩ 1 wr (by omega) z1 z2 (Nat.le_trans z3 z4))
                obtain ⟨l0, l1⟩ := HRW.out wr HBR.out (v1 + 1) (pre ++ [y]) z LL' hsp2 (by rw [List.length_append]; simp; omega)
                have HSP2 := Lib.hid hsp2
                have HG6 : Hid (graphT ((x :: L').map RowV.t) = match formR z.t [101, 110, 100] 1 with
                    | some c => .error (c, z.line)
                    | none => match LL'.map RowV.t with
                      | [] => .ok ⟨v0, al⟩
                      | u :: _ => .error (6, u.line)) := Lib.hid (by rw [HG5.out, HST1.out]; rfl)
                clear HLE HLK hsp2 hzm z1 z2 z3 z4 HSP HG5 HST1
                go_upto_region 24 with fail
                go_wp2_with fail
                refine HFO.out.mono ?_
                rintro e w20 ⟨hb20, ex20, rfl, hd20⟩
                have hd21 : DocX (formBug z [101, 110, 100] 1) wr.heap.size ex20 w20 := hd20
                have HD20 := Lib.hid hd21
                have HO20 := Lib.hid (HOR.out.below hb20)
                clear HFO l0 l1 hd20 hd21
                unfold errV
                have HB20 := Lib.hid (HBR.out.trans (hb20.mono HBR.out.size))
                have HG20 := Lib.hid (HGR.out.below hb20)
                have HE20 := Lib.hid (HER.out.below hb20)
                have HY20 := Lib.hid (HYR.out.below hb20)
                have hs20 := hb20.size
                clear hb20
                have hb21 := (Below.refl w20.heap.size w20).alloc (Nat.le_refl _) (.cells #[.int .i64 ex20.c, .slice ex20.A ex20.n ex20.k] 32)
                have hx21 := cells_new w20 #[.int .i64 ex20.c, .slice ex20.A ex20.n ex20.k] 32
                have HB21 := Lib.hid (HB20.out.trans (hb21.mono HB20.out.size))
                have HG21 := Lib.hid (HG20.out.below hb21)
                have HE21 := Lib.hid (HE20.out.below hb21)
                have HY21 := Lib.hid (HY20.out.below hb21)
                have HD21 := Lib.hid (HD20.out.below hb21)
                have HO21 := Lib.hid (HO20.out.below hb21)
                have hs21 := hb21.size
                clear hb21
                have HF21 := Lib.hid hx21
                clear hx21
                go_upto_region 25 with fail
                generalize w20.alloc (.cells #[.int .i64 ex20.c, .slice ex20.A ex20.n ex20.k] 32) = w21 at *
                have Fc0 : w21.cell? ⟨w20.heap.size, 0, none⟩ = some (.int .i64 ex20.c) := HF21.out.cell 0
                have Fc1 : w21.cell? ⟨w20.heap.size, 1, none⟩ = some (.slice ex20.A ex20.n ex20.k) := HF21.out.cell 1
                go_wp2_with fail
                refine (Bad_any ex20.c ex20.A ex20.n ex20.k w21).mono ?_
                rintro e w22 ⟨rfl, hb22⟩
                have HB22 := Lib.hid (HB21.out.trans (hb22.mono HB21.out.size))
                have HG22 := Lib.hid (HG21.out.below hb22)
                have HE22 := Lib.hid (HE21.out.below hb22)
                have HY22 := Lib.hid (HY21.out.below hb22)
                have HF22 := Lib.hid (HF21.out.below hb22)
                have HD22 := Lib.hid (HD21.out.below hb22)
                have HO22 := Lib.hid (HO21.out.below hb22)
                have hs22 := hb22.size
                clear hb22 Fc0 Fc1
                have hbad : decide (ex20.c ≠ 0 ∨ 0 < ex20.n) = (formBug z [101, 110, 100] 1).isSome := HD22.out.bad formBug_good
                rw [hbad]
                cases hfo : formR z.t [101, 110, 100] 1 with
                | some c =>
                  have hbug : formBug z [101, 110, 100] 1 = some (c, some (1, z.line)) := by unfold formBug; rw [hfo]
                  have hD := HD22.out
                  rw [hbug] at hD ⊢
                  have HT : Hid (graphT ((x :: L').map RowV.t) = .error (c, z.line)) := Lib.hid (by rw [HG6.out, hfo])
                  clear HD22 HD21 HD20 hbad hbug hfo HG6
                  have HD22 := Lib.hid hD
                  clear hD
                  have Fc0 : w22.cell? ⟨w20.heap.size, 0, none⟩ = some (.int .i64 ex20.c) := HF22.out.cell 0
                  have Fc1 : w22.cell? ⟨w20.heap.size, 1, none⟩ = some (.slice ex20.A ex20.n ex20.k) := HF22.out.cell 1
                  go_upto_region 26 with fail
                  have Gc0 : w22.cell? ⟨W.heap.size, 0, none⟩ = some (.int .i64 0) := HG22.out.cell 0
                  have Gf0 := HG22.out.frozen 0
                  have Gc1 : w22.cell? ⟨W.heap.size, 1, none⟩ = some (.slice none 0 0) := HG22.out.cell 1
                  have Gf1 := HG22.out.frozen 1
                  have Ec0 : w22.cell? ⟨W.heap.size + 1, 0, none⟩ = some (.int .i64 0) := HE22.out.cell 0
                  have Ef0 := HE22.out.frozen 0
                  have Ec1 : w22.cell? ⟨W.heap.size + 1, 1, none⟩ = some (.slice none 0 0) := HE22.out.cell 1
                  have Ef1 := HE22.out.frozen 1
                  go_region
                  all_goals
                    have hl : LaidG W.heap.size (W.heap.size + 1) 0 (.slice none 0 0) ex20 w22 ((((w22.setCell ⟨W.heap.size, 0, none⟩ (.int .i64 0)).setCell ⟨W.heap.size, 1, none⟩ (.slice none 0 0)).setCell ⟨W.heap.size + 1, 0, none⟩ (.int .i64 ex20.c)).setCell ⟨W.heap.size + 1, 1, none⟩ (.slice ex20.A ex20.n ex20.k)).drew := (laidG (p := W.heap.size) (q := W.heap.size + 1) 0 (.slice none 0 0) ex20 HG22.out HE22.out (by omega)).drew
                    have HL := Lib.hid hl
                    clear hl
                    generalize ((((w22.setCell ⟨W.heap.size, 0, none⟩ (.int .i64 0)).setCell ⟨W.heap.size, 1, none⟩ (.slice none 0 0)).setCell ⟨W.heap.size + 1, 0, none⟩ (.int .i64 ex20.c)).setCell ⟨W.heap.size + 1, 1, none⟩ (.slice ex20.A ex20.n ex20.k)).drew = wz at *
                    obtain ⟨hla, hle, hlk⟩ := HL.out
                    have r0 : wz.cell? ⟨W.heap.size, 0, none⟩ = some (.int .i64 0) := hla.cell 0
                    have r1 : wz.cell? ⟨W.heap.size, 1, none⟩ = some (.slice none 0 0) := hla.cell 1
                    have r2 : wz.cell? ⟨W.heap.size + 1, 0, none⟩ = some (.int .i64 ex20.c) := hle.cell 0
                    have r3 : wz.cell? ⟨W.heap.size + 1, 1, none⟩ = some (.slice ex20.A ex20.n ex20.k) := hle.cell 1
                    have hbz : Below W.heap.size W wz := hlk.below HB22.out (fun k h => by omega) HB22.out.size
                    have HEND : Hid (GrDoc (graphT ((x :: L').map RowV.t)) W (.returned (.tuple #[.agg #[.int .i64 0, (.slice none 0 0)], .agg #[.int .i64 ex20.c, (.slice ex20.A ex20.n ex20.k)]])) wz) := Lib.hid (by rw [HT.out]; exact ⟨hbz, ex20, rfl, (HD22.out.keptS hlk (by omega)).mono (by omega)⟩)
                    clear hla hle
                    go_wp2_with fail
                    refine bodyPost_ret (v := .tuple #[.agg #[.int .i64 0, (.slice none 0 0)], .agg #[.int .i64 ex20.c, (.slice ex20.A ex20.n ex20.k)]]) ?hres rfl HEND.out
                    case hres => simp [results, Tryz.results36, go_sem, r0, r1, r2, r3]
                | none =>
                  have hbug : formBug z [101, 110, 100] 1 = none := by unfold formBug; rw [hfo]
                  rw [hbug]
                  have hg7 := HG6.out
                  rw [hfo] at hg7
                  dsimp only at hg7
                  have HG7 := Lib.hid hg7
                  clear hbad hbug hfo HD22 HD21 HD20 HG6 hg7
                  cases LL' with
                  | nil =>
                    have c2 : decide ((v1 : Int) + 2 < (n : Int)) = false := decide_eq_false (by rw [List.length_cons, List.length_nil] at hn2; omega)
                    have c2' : decide (v1 + 2 < n) = false := decide_eq_false (by rw [List.length_cons, List.length_nil] at hn2; omega)
                    have HT : Hid (graphT ((x :: L').map RowV.t) = .ok ⟨v0, al⟩) := HG7
                    obtain ⟨A2, c2s, rfl, h2c, h2m⟩ := HO22.out.form
                    clear hn2 HG7 h2c h2m
                    have Yc0 : w22.cell? ⟨Gb, 0, none⟩ = some (.int .i64 (v0 : Int)) := HY22.out.cell 0
                    have Yf0 := HY22.out.frozen 0
                    have Yc1 : w22.cell? ⟨Gb, 1, none⟩ = some (.slice A2 al.length c2s) := HY22.out.cell 1
                    have Yf1 := HY22.out.frozen 1
                    have Gc0 : w22.cell? ⟨W.heap.size, 0, none⟩ = some (.int .i64 0) := HG22.out.cell 0
                    have Gf0 := HG22.out.frozen 0
                    have Gc1 : w22.cell? ⟨W.heap.size, 1, none⟩ = some (.slice none 0 0) := HG22.out.cell 1
                    have Gf1 := HG22.out.frozen 1
                    have Ec0 : w22.cell? ⟨W.heap.size + 1, 0, none⟩ = some (.int .i64 0) := HE22.out.cell 0
                    have Ef0 := HE22.out.frozen 0
                    have Ec1 : w22.cell? ⟨W.heap.size + 1, 1, none⟩ = some (.slice none 0 0) := HE22.out.cell 1
                    have Ef1 := HE22.out.frozen 1
                    have hl : LaidG W.heap.size (W.heap.size + 1) (v0 : Int) (.slice A2 al.length c2s) zX w22 ((((w22.setCell ⟨W.heap.size, 0, none⟩ (.int .i64 (v0 : Int))).setCell ⟨W.heap.size, 1, none⟩ (.slice A2 al.length c2s)).setCell ⟨W.heap.size + 1, 0, none⟩ (.int .i64 0)).setCell ⟨W.heap.size + 1, 1, none⟩ (.slice none 0 0)) := (laidG (p := W.heap.size) (q := W.heap.size + 1) (v0 : Int) (.slice A2 al.length c2s) zX HG22.out HE22.out (by omega))
                    have HL := Lib.hid hl
                    clear hl
                    go_wp2_with fail
                    generalize ((((w22.setCell ⟨W.heap.size, 0, none⟩ (.int .i64 (v0 : Int))).setCell ⟨W.heap.size, 1, none⟩ (.slice A2 al.length c2s)).setCell ⟨W.heap.size + 1, 0, none⟩ (.int .i64 0)).setCell ⟨W.heap.size + 1, 1, none⟩ (.slice none 0 0)) = wz at *
                    obtain ⟨hla, hle, hlk⟩ := HL.out
                    have r0 : wz.cell? ⟨W.heap.size, 0, none⟩ = some (.int .i64 (v0 : Int)) := hla.cell 0
                    have r1 : wz.cell? ⟨W.heap.size, 1, none⟩ = some (.slice A2 al.length c2s) := hla.cell 1
                    have r2 : wz.cell? ⟨W.heap.size + 1, 0, none⟩ = some (.int .i64 0) := hle.cell 0
                    have r3 : wz.cell? ⟨W.heap.size + 1, 1, none⟩ = some (.slice none 0 0) := hle.cell 1
                    have hbz : Below W.heap.size W wz := hlk.below HB22.out (fun k h => by omega) HB22.out.size
                    have HEND : Hid (GrDoc (graphT ((x :: L').map RowV.t)) W (.returned (.tuple #[.agg #[.int .i64 (v0 : Int), (.slice A2 al.length c2s)], .agg #[.int .i64 0, (.slice none 0 0)]])) wz) := Lib.hid (by rw [HT.out]; exact ⟨hbz, A2, c2s, rfl, (keptS_own HO22.out hlk (fun k h => by have := (HO22.out.block h).1; omega)).mono (by omega)⟩)
                    clear hla hle
                    refine bodyPost_ret (v := .tuple #[.agg #[.int .i64 (v0 : Int), (.slice A2 al.length c2s)], .agg #[.int .i64 0, (.slice none 0 0)]]) ?hres rfl HEND.out
                    case hres => simp [results, Tryz.results36, go_sem, r0, r1, r2, r3]
                  | cons u LL2 =>
                    have c2 : decide ((v1 : Int) + 2 < (n : Int)) = true := decide_eq_true (by rw [List.length_cons, List.length_cons] at hn2; omega)
                    have c2' : decide (v1 + 2 < n) = true := decide_eq_true (by rw [List.length_cons, List.length_cons] at hn2; omega)
                    have p2 : (v1 : Int) + 2 < (n : Int) := by rw [List.length_cons, List.length_cons] at hn2; omega
                    have HT : Hid (graphT ((x :: L').map RowV.t) = .error (6, u.line)) := HG7
                    obtain ⟨l0, -⟩ := HRW.out w22 HB22.out (v1 + 2) (pre ++ [y] ++ [z]) u LL2 (by rw [HSP2.out]; simp) (by simp; omega)
                    have hs220 := HB22.out.size
                    have hle22 := HE22.out.lt
                    clear hn2 HG7 HRW
                    go_upto_region 28 with fail
                    go_region_with (first
                      | (go_at_call 21; refine (E_any 6 _).mono ?_; rintro e w25 ⟨rfl, hb25⟩; have HB25 : Hid (Below W.heap.size W w25) := Lib.hid (by first | exact HB22.out.trans (hb25.mono HB22.out.size) | exact HB22.out.drew.trans (hb25.mono HB22.out.drew.size)); have HG25 := Lib.hid (show Cells w25 W.heap.size #[.int .i64 0, .slice none 0 0] 24 by first | exact HG22.out.below hb25 | exact (HG22.out.below (Below.drew (Below.refl _ _))).below hb25); have HE25 := Lib.hid (show Cells w25 (W.heap.size + 1) #[.int .i64 0, .slice none 0 0] 32 by first | exact HE22.out.below hb25 | exact (HE22.out.below (Below.drew (Below.refl _ _))).below hb25); have l0 := cell_below hb25 l0; clear hb25)
                      | (go_at_call 20; refine (At1_any 1 u.line 6 _).mono ?_; rintro e w26 ⟨g6, k6, rfl, hx6, hg6, hb26⟩; have HB26 := Lib.hid (HB25.out.trans (hb26.mono HB25.out.size)); have HG26 := Lib.hid (HG25.out.below hb26); have HE26 := Lib.hid (HE25.out.below hb26); have HX26 := Lib.hid hx6; have hs25 := HB25.out.size; have hlt25 := HE25.out.lt; have Gc0 := HG26.out.cell 0; have Gc1 := HG26.out.cell 1; have Gf0 := HG26.out.frozen 0; have Gf1 := HG26.out.frozen 1; have Ec0 := HE26.out.cell 0; have Ec1 := HE26.out.cell 1; have Ef0 := HE26.out.frozen 0; have Ef1 := HE26.out.frozen 1; have l0 := cell_below hb26 l0; clear hx6 hb26))
                    all_goals
                      have hl : LaidG W.heap.size (W.heap.size + 1) 0 (.slice none 0 0) ⟨6, some ⟨g6, 0, none⟩, 1, k6⟩ w26 ((((w26.setCell ⟨W.heap.size, 0, none⟩ (.int .i64 0)).setCell ⟨W.heap.size, 1, none⟩ (.slice none 0 0)).setCell ⟨W.heap.size + 1, 0, none⟩ (.int .i64 6)).setCell ⟨W.heap.size + 1, 1, none⟩ (.slice (some ⟨g6, 0, none⟩) 1 k6)) := (laidG (p := W.heap.size) (q := W.heap.size + 1) 0 (.slice none 0 0) ⟨6, some ⟨g6, 0, none⟩, 1, k6⟩ HG26.out HE26.out (by omega))
                      have HL := Lib.hid hl
                      clear hl
                      generalize ((((w26.setCell ⟨W.heap.size, 0, none⟩ (.int .i64 0)).setCell ⟨W.heap.size, 1, none⟩ (.slice none 0 0)).setCell ⟨W.heap.size + 1, 0, none⟩ (.int .i64 6)).setCell ⟨W.heap.size + 1, 1, none⟩ (.slice (some ⟨g6, 0, none⟩) 1 k6)) = wz at *
                      obtain ⟨hla, hle, hlk⟩ := HL.out
                      have r0 : wz.cell? ⟨W.heap.size, 0, none⟩ = some (.int .i64 0) := hla.cell 0
                      have r1 : wz.cell? ⟨W.heap.size, 1, none⟩ = some (.slice none 0 0) := hla.cell 1
                      have r2 : wz.cell? ⟨W.heap.size + 1, 0, none⟩ = some (.int .i64 6) := hle.cell 0
                      have r3 : wz.cell? ⟨W.heap.size + 1, 1, none⟩ = some (.slice (some ⟨g6, 0, none⟩) 1 k6) := hle.cell 1
                      have hbz : Below W.heap.size W wz := hlk.below HB26.out (fun k h => by omega) HB26.out.size
                      have HEND : Hid (GrDoc (graphT ((x :: L').map RowV.t)) W (.returned (.tuple #[.agg #[.int .i64 0, (.slice none 0 0)], .agg #[.int .i64 6, (.slice (some ⟨g6, 0, none⟩) 1 k6)]])) wz) := Lib.hid (by rw [HT.out]; exact ⟨hbz, ⟨6, some ⟨g6, 0, none⟩, 1, k6⟩, rfl, g6, k6, rfl, hlk.cells HX26.out (fun h => by omega), by omega⟩)
                      clear hla hle
                      go_wp2_with fail
                      refine bodyPost_ret (v := .tuple #[.agg #[.int .i64 0, (.slice none 0 0)], .agg #[.int .i64 6, (.slice (some ⟨g6, 0, none⟩) 1 k6)]]) ?hres rfl HEND.out
                      case hres => simp [results, Tryz.results36, go_sem, r0, r1, r2, r3]
end Go.Proofs.YtngihiebkbheaaaGreatDoor
