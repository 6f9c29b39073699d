/- The document's Parse. -/
import Derived.Test.YtngihiebkbheaaaGreatDoorGt20
set_option linter.unusedSimpArgs false
set_option linter.unusedVariables false
namespace Go.Proofs.YtngihiebkbheaaaGreatDoor
open Go.RowKit Txt

theorem lineT_code {l : Bs} {c : Int} (h : lineT l = .error c) : c ≠ 0 := by
  unfold lineT at h
  split at h
  · injection h with h; omega
  split at h
  · cases h
  · injection h with h; omega
theorem rowsGo_code : ∀ (ls : List Bs) (n : Int) (e : Int × Int), rowsGo n ls = .error e → e.1 ≠ 0
  | [], n, e, h => by cases h
  | l :: ls, n, e, h => by
    rw [rowsGo] at h
    unfold rowPut at h
    split at h
    · rename_i c hc
      injection h with h
      subst h
      exact lineT_code hc
    · rename_i e' hw hr
      injection h with h
      subst h
      exact rowsGo_code ls _ _ hr
    · cases h
theorem rowsT_code {t : Bs} {b : Er} (h : rowsT t = .error b) : b.1 ≠ 0 := by
  unfold rowsT at h
  split at h
  · injection h with h; subst h; decide
  · unfold lineEr at h
    split at h
    · rename_i e he
      injection h with h
      subst h
      exact rowsGo_code _ _ _ he
    · cases h
def ParseDoc (r : Except Er GrT) (W : World) (e : Ending) (w' : World) : Prop := Below W.heap.size W w' ∧ match r with
  | .error b => ∃ x, e = .returned (.tuple #[.agg #[.int .i64 0, .slice none 0 0], errV x]) ∧ DocX (some b) W.heap.size x w'
  | .ok g => ∃ A k, e = .returned (.tuple #[.agg #[.int .i64 g.n, .slice A g.arcs.length k], errV zX]) ∧ Own 54 3 encA w' W.heap.size (.slice A g.arcs.length k) g.arcs
set_option maxRecDepth 100000 in
set_option maxHeartbeats 8000000 in
theorem DocParse_any (s : ByteArray) (W : World) (hs : s.size ≤ 140737488355328) :
    Calls Tryz.prog 17 #[.string s] W (ParseDoc (parseT s.data.toList) W) := by
  have hb1 := two_alG W (.cells #[.int .i64 0, .slice none 0 0] 24) (.cells #[.int .i64 0, .slice none 0 0] 32)
  have hg := (cells_new W #[.int .i64 0, .slice none 0 0] 24).below ((Below.refl _ _).alloc (Nat.le_refl _) (.cells #[.int .i64 0, .slice none 0 0] 32))
  have he := cells_new (W.alloc (.cells #[.int .i64 0, .slice none 0 0] 24)) #[.int .i64 0, .slice none 0 0] 32
  have hz : ((W.alloc (.cells #[.int .i64 0, .slice none 0 0] 24)).alloc (.cells #[.int .i64 0, .slice none 0 0] 32)).heap.size = W.heap.size + 1 + 1 := by simp
  rw [size_alloc] at he
  have HB1 := Lib.hid hb1
  have HG1 := Lib.hid hg
  have HE1 := Lib.hid he
  clear hb1 hg he
  go_enter Tryz.func17, Tryz.ntmps17
  go_upto_region 1 with fail
  generalize ((W.alloc (.cells #[.int .i64 0, .slice none 0 0] 24)).alloc (.cells #[.int .i64 0, .slice none 0 0] 32)) = w1 at *
  go_wp2_with fail
  refine (DocRows_any s w1 hs).mono ?_
  rintro e w2 ⟨hb2, hm⟩
  have HB2 := Lib.hid (HB1.out.trans (hb2.mono HB1.out.size))
  have HG2 := Lib.hid (HG1.out.below hb2)
  have HE2 := Lib.hid (HE1.out.below hb2)
  have hs2 := hb2.size
  clear hb2
  cases hr : rowsT s.data.toList with
  | error b =>
    rw [hr] at hm
    obtain ⟨ex, rfl, hd⟩ := hm
    have HT : Hid (parseT s.data.toList = .error b) := Lib.hid (by unfold parseT; rw [hr])
    have hbad : decide (ex.c ≠ 0 ∨ 0 < ex.n) = true := hd.bad (fun p hp => by injection hp with hp; subst hp; exact rowsT_code hr)
    have HD2 := Lib.hid hd
    clear hd hr
    unfold errV
    have hb3 := (Below.refl w2.heap.size w2).alloc (Nat.le_refl _) (.cells #[.int .i64 ex.c, .slice ex.A ex.n ex.k] 32)
    have hx3 := cells_new w2 #[.int .i64 ex.c, .slice ex.A ex.n ex.k] 32
    have HB3 := Lib.hid (HB2.out.trans (hb3.mono HB2.out.size))
    have HG3 := Lib.hid (HG2.out.below hb3)
    have HE3 := Lib.hid (HE2.out.below hb3)
    have HD3 := Lib.hid (HD2.out.below hb3)
    have hs3 := hb3.size
    clear hb3
    have HF3 := Lib.hid hx3
    clear hx3
    go_upto_region 2 with fail
    generalize w2.alloc (.cells #[.int .i64 ex.c, .slice ex.A ex.n ex.k] 32) = w3 at *
    have Fc0 : w3.cell? ⟨w2.heap.size, 0, none⟩ = some (.int .i64 ex.c) := HF3.out.cell 0
    have Fc1 : w3.cell? ⟨w2.heap.size, 1, none⟩ = some (.slice ex.A ex.n ex.k) := HF3.out.cell 1
    go_wp2_with fail
    refine (Bad_any ex.c ex.A ex.n ex.k w3).mono ?_
    rintro e w4 ⟨rfl, hb4⟩
    rw [hbad]
    have HB4 := Lib.hid (HB3.out.trans (hb4.mono HB3.out.size))
    have HG4 := Lib.hid (HG3.out.below hb4)
    have HE4 := Lib.hid (HE3.out.below hb4)
    have HF4 := Lib.hid (HF3.out.below hb4)
    have HD4 := Lib.hid (HD3.out.below hb4)
    have hs4 := hb4.size
    clear hb4 Fc0 Fc1
    have Fc0 : w4.cell? ⟨w2.heap.size, 0, none⟩ = some (.int .i64 ex.c) := HF4.out.cell 0
    have Fc1 : w4.cell? ⟨w2.heap.size, 1, none⟩ = some (.slice ex.A ex.n ex.k) := HF4.out.cell 1
    go_upto_region 3 with fail
    have Gc0 : w4.cell? ⟨W.heap.size, 0, none⟩ = some (.int .i64 0) := HG4.out.cell 0
    have Gf0 := HG4.out.frozen 0
    have Gc1 : w4.cell? ⟨W.heap.size, 1, none⟩ = some (.slice none 0 0) := HG4.out.cell 1
    have Gf1 := HG4.out.frozen 1
    have Ec0 : w4.cell? ⟨W.heap.size + 1, 0, none⟩ = some (.int .i64 0) := HE4.out.cell 0
    have Ef0 := HE4.out.frozen 0
    have Ec1 : w4.cell? ⟨W.heap.size + 1, 1, none⟩ = some (.slice none 0 0) := HE4.out.cell 1
    have Ef1 := HE4.out.frozen 1
    go_region
    all_goals
      have hl : LaidG W.heap.size (W.heap.size + 1) 0 (.slice none 0 0) ex w4 ((((w4.setCell ⟨W.heap.size, 0, none⟩ (.int .i64 0)).setCell ⟨W.heap.size, 1, none⟩ (.slice none 0 0)).setCell ⟨W.heap.size + 1, 0, none⟩ (.int .i64 ex.c)).setCell ⟨W.heap.size + 1, 1, none⟩ (.slice ex.A ex.n ex.k)).drew := (laidG (p := W.heap.size) (q := W.heap.size + 1) 0 (.slice none 0 0) ex HG4.out HE4.out (by omega)).drew
      have HL := Lib.hid hl
      clear hl
      generalize ((((w4.setCell ⟨W.heap.size, 0, none⟩ (.int .i64 0)).setCell ⟨W.heap.size, 1, none⟩ (.slice none 0 0)).setCell ⟨W.heap.size + 1, 0, none⟩ (.int .i64 ex.c)).setCell ⟨W.heap.size + 1, 1, none⟩ (.slice ex.A ex.n ex.k)).drew = wz at *
      obtain ⟨hla, hle, hlk⟩ := HL.out
      have r0 : wz.cell? ⟨W.heap.size, 0, none⟩ = some (.int .i64 0) := hla.cell 0
      have r1 : wz.cell? ⟨W.heap.size, 1, none⟩ = some (.slice none 0 0) := hla.cell 1
      have r2 : wz.cell? ⟨W.heap.size + 1, 0, none⟩ = some (.int .i64 ex.c) := hle.cell 0
      have r3 : wz.cell? ⟨W.heap.size + 1, 1, none⟩ = some (.slice ex.A ex.n ex.k) := hle.cell 1
      have hbz : Below W.heap.size W wz := hlk.below HB4.out (fun k h => by omega) HB4.out.size
      have HEND : Hid (ParseDoc (parseT s.data.toList) W (.returned (.tuple #[.agg #[.int .i64 0, (.slice none 0 0)], .agg #[.int .i64 ex.c, (.slice ex.A ex.n ex.k)]])) wz) := Lib.hid (by rw [HT.out]; exact ⟨hbz, ex, rfl, (HD4.out.keptS hlk (by omega)).mono (by omega)⟩)
      clear hla hle
      go_wp2_with fail
      refine bodyPost_ret (v := .tuple #[.agg #[.int .i64 0, (.slice none 0 0)], .agg #[.int .i64 ex.c, (.slice ex.A ex.n ex.k)]]) ?hres rfl HEND.out
      case hres => simp [results, Tryz.results17, go_sem, r0, r1, r2, r3]
  | ok rows =>
    rw [hr] at hm
    obtain ⟨A, kk, L, rfl, hc1, hc2, hc3, hrd, hlt⟩ := hm
    have HP : Hid (parseT s.data.toList = lineEr (graphT (L.map RowV.t))) := Lib.hid (by unfold parseT; rw [hr, hlt])
    have HWL : Hid (∀ x ∈ L, ∀ y ∈ x.ws, y.length ≤ 1048576) := Lib.hid (fun x hx y hy => rowsT_words hr x.t (by rw [← hlt]; exact List.mem_map_of_mem hx) y hy)
    have HRD2 := Lib.hid hrd
    clear hrd hr hlt hc1 hc2
    unfold errV zX
    have hb3 := (Below.refl w2.heap.size w2).alloc (Nat.le_refl _) (.cells #[.int .i64 0, .slice none 0 0] 32)
    have hx3 := cells_new w2 #[.int .i64 0, .slice none 0 0] 32
    have HB3 := Lib.hid (HB2.out.trans (hb3.mono HB2.out.size))
    have HG3 := Lib.hid (HG2.out.below hb3)
    have HE3 := Lib.hid (HE2.out.below hb3)
    have HRD3 := Lib.hid (HRD2.out.below hb3)
    have hs3 := hb3.size
    clear hb3
    have HF3 := Lib.hid hx3
    clear hx3
    go_upto_region 2 with fail
    generalize w2.alloc (.cells #[.int .i64 0, .slice none 0 0] 32) = w3 at *
    have Fc0 : w3.cell? ⟨w2.heap.size, 0, none⟩ = some (.int .i64 0) := HF3.out.cell 0
    have Fc1 : w3.cell? ⟨w2.heap.size, 1, none⟩ = some (.slice none 0 0) := HF3.out.cell 1
    go_wp2_with fail
    refine (Bad_any 0 none 0 0 w3).mono ?_
    rintro e w4 ⟨rfl, hb4⟩
    have HB4 := Lib.hid (HB3.out.trans (hb4.mono HB3.out.size))
    have HG4 := Lib.hid (HG3.out.below hb4)
    have HE4 := Lib.hid (HE3.out.below hb4)
    have HF4 := Lib.hid (HF3.out.below hb4)
    have HRD4 := Lib.hid (HRD3.out.below hb4)
    have hs4 := hb4.size
    clear hb4 Fc0 Fc1
    go_upto_region 4 with fail
    go_wp2_with fail
    refine (docgraph_any A kk L w4 hc3 HRD4.out HWL.out).mono ?_
    rintro e w5 ⟨hb5, hm⟩
    have HB5 := Lib.hid (HB4.out.trans (hb5.mono HB4.out.size))
    have HG5 := Lib.hid (HG4.out.below hb5)
    have HE5 := Lib.hid (HE4.out.below hb5)
    have hs5 := hb5.size
    clear hb5
    cases hg : graphT (L.map RowV.t) with
    | error c =>
      rw [hg] at hm
      obtain ⟨ex5, rfl, hd5⟩ := hm
      have HT : Hid (parseT s.data.toList = .error (c.1, some (1, c.2))) := Lib.hid (by rw [HP.out, hg]; rfl)
      have HD5 := Lib.hid hd5
      clear hd5 hg
      unfold errV
      have Gc0 : w5.cell? ⟨W.heap.size, 0, none⟩ = some (.int .i64 0) := HG5.out.cell 0
      have Gf0 := HG5.out.frozen 0
      have Gc1 : w5.cell? ⟨W.heap.size, 1, none⟩ = some (.slice none 0 0) := HG5.out.cell 1
      have Gf1 := HG5.out.frozen 1
      have Ec0 : w5.cell? ⟨W.heap.size + 1, 0, none⟩ = some (.int .i64 0) := HE5.out.cell 0
      have Ef0 := HE5.out.frozen 0
      have Ec1 : w5.cell? ⟨W.heap.size + 1, 1, none⟩ = some (.slice none 0 0) := HE5.out.cell 1
      have Ef1 := HE5.out.frozen 1
      have hl : LaidG W.heap.size (W.heap.size + 1) 0 (.slice none 0 0) ex5 w5 ((((w5.setCell ⟨W.heap.size, 0, none⟩ (.int .i64 0)).setCell ⟨W.heap.size, 1, none⟩ (.slice none 0 0)).setCell ⟨W.heap.size + 1, 0, none⟩ (.int .i64 ex5.c)).setCell ⟨W.heap.size + 1, 1, none⟩ (.slice ex5.A ex5.n ex5.k)) := (laidG (p := W.heap.size) (q := W.heap.size + 1) 0 (.slice none 0 0) ex5 HG5.out HE5.out (by omega))
      have HL := Lib.hid hl
      clear hl
      go_wp2_with fail
      generalize ((((w5.setCell ⟨W.heap.size, 0, none⟩ (.int .i64 0)).setCell ⟨W.heap.size, 1, none⟩ (.slice none 0 0)).setCell ⟨W.heap.size + 1, 0, none⟩ (.int .i64 ex5.c)).setCell ⟨W.heap.size + 1, 1, none⟩ (.slice ex5.A ex5.n ex5.k)) = wz at *
      obtain ⟨hla, hle, hlk⟩ := HL.out
      have r0 : wz.cell? ⟨W.heap.size, 0, none⟩ = some (.int .i64 0) := hla.cell 0
      have r1 : wz.cell? ⟨W.heap.size, 1, none⟩ = some (.slice none 0 0) := hla.cell 1
      have r2 : wz.cell? ⟨W.heap.size + 1, 0, none⟩ = some (.int .i64 ex5.c) := hle.cell 0
      have r3 : wz.cell? ⟨W.heap.size + 1, 1, none⟩ = some (.slice ex5.A ex5.n ex5.k) := hle.cell 1
      have hbz : Below W.heap.size W wz := hlk.below HB5.out (fun k h => by omega) HB5.out.size
      have HEND : Hid (ParseDoc (parseT s.data.toList) W (.returned (.tuple #[.agg #[.int .i64 0, (.slice none 0 0)], .agg #[.int .i64 ex5.c, (.slice ex5.A ex5.n ex5.k)]])) wz) := Lib.hid (by rw [HT.out]; exact ⟨hbz, ex5, rfl, (HD5.out.keptS hlk (by omega)).mono (by omega)⟩)
      clear hla hle
      refine bodyPost_ret (v := .tuple #[.agg #[.int .i64 0, (.slice none 0 0)], .agg #[.int .i64 ex5.c, (.slice ex5.A ex5.n ex5.k)]]) ?hres rfl HEND.out
      case hres => simp [results, Tryz.results17, go_sem, r0, r1, r2, r3]
    | ok g =>
      rw [hg] at hm
      obtain ⟨A5, k5, rfl, ho⟩ := hm
      have HT : Hid (parseT s.data.toList = .ok g) := Lib.hid (by rw [HP.out, hg]; rfl)
      have HO5 := Lib.hid ho
      clear ho hg
      unfold errV zX
      have Gc0 : w5.cell? ⟨W.heap.size, 0, none⟩ = some (.int .i64 0) := HG5.out.cell 0
      have Gf0 := HG5.out.frozen 0
      have Gc1 : w5.cell? ⟨W.heap.size, 1, none⟩ = some (.slice none 0 0) := HG5.out.cell 1
      have Gf1 := HG5.out.frozen 1
      have Ec0 : w5.cell? ⟨W.heap.size + 1, 0, none⟩ = some (.int .i64 0) := HE5.out.cell 0
      have Ef0 := HE5.out.frozen 0
      have Ec1 : w5.cell? ⟨W.heap.size + 1, 1, none⟩ = some (.slice none 0 0) := HE5.out.cell 1
      have Ef1 := HE5.out.frozen 1
      have hl : LaidG W.heap.size (W.heap.size + 1) g.n (.slice A5 g.arcs.length k5) zX w5 ((((w5.setCell ⟨W.heap.size, 0, none⟩ (.int .i64 g.n)).setCell ⟨W.heap.size, 1, none⟩ (.slice A5 g.arcs.length k5)).setCell ⟨W.heap.size + 1, 0, none⟩ (.int .i64 0)).setCell ⟨W.heap.size + 1, 1, none⟩ (.slice none 0 0)) := (laidG (p := W.heap.size) (q := W.heap.size + 1) g.n (.slice A5 g.arcs.length k5) zX HG5.out HE5.out (by omega))
      have HL := Lib.hid hl
      clear hl
      go_wp2_with fail
      generalize ((((w5.setCell ⟨W.heap.size, 0, none⟩ (.int .i64 g.n)).setCell ⟨W.heap.size, 1, none⟩ (.slice A5 g.arcs.length k5)).setCell ⟨W.heap.size + 1, 0, none⟩ (.int .i64 0)).setCell ⟨W.heap.size + 1, 1, none⟩ (.slice none 0 0)) = wz at *
      obtain ⟨hla, hle, hlk⟩ := HL.out
      have r0 : wz.cell? ⟨W.heap.size, 0, none⟩ = some (.int .i64 g.n) := hla.cell 0
      have r1 : wz.cell? ⟨W.heap.size, 1, none⟩ = some (.slice A5 g.arcs.length k5) := hla.cell 1
      have r2 : wz.cell? ⟨W.heap.size + 1, 0, none⟩ = some (.int .i64 0) := hle.cell 0
      have r3 : wz.cell? ⟨W.heap.size + 1, 1, none⟩ = some (.slice none 0 0) := hle.cell 1
      have hbz : Below W.heap.size W wz := hlk.below HB5.out (fun k h => by omega) HB5.out.size
      have HEND : Hid (ParseDoc (parseT s.data.toList) W (.returned (.tuple #[.agg #[.int .i64 g.n, (.slice A5 g.arcs.length k5)], .agg #[.int .i64 0, (.slice none 0 0)]])) wz) := Lib.hid (by rw [HT.out]; exact ⟨hbz, A5, k5, rfl, (keptS_own HO5.out hlk (fun k h => by have := (HO5.out.block h).1; omega)).mono (by omega)⟩)
      clear hla hle
      refine bodyPost_ret (v := .tuple #[.agg #[.int .i64 g.n, (.slice A5 g.arcs.length k5)], .agg #[.int .i64 0, (.slice none 0 0)]]) ?hres rfl HEND.out
      case hres => simp [results, Tryz.results17, go_sem, r0, r1, r2, r3]
end Go.Proofs.YtngihiebkbheaaaGreatDoor
