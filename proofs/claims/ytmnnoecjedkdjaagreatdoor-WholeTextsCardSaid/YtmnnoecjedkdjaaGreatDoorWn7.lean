/- The document's copy of a graph. -/
import Derived.Test.YtmnnoecjedkdjaaGreatDoorGt15
import Derived.Deep.DeepCutAuto
set_option linter.unusedSimpArgs false
set_option linter.unusedVariables false
namespace Go.Proofs.YtmnnoecjedkdjaaGreatDoor
open Go.RowKit Txt

/-- a new graph: its number, its list in new memory -/
def NewG (n : Int) (l : List ArcT) (W : World) (e : Ending) (w' : World) : Prop := ∃ A c, e = .returned (.agg #[.int .i64 n, .slice A l.length c]) ∧ Own 56 3 encA w' W.heap.size (.slice A l.length c) l ∧ Below W.heap.size W w'
set_option maxRecDepth 100000 in
set_option maxHeartbeats 8000000 in
theorem Twin_any (n : Int) (l : List ArcT) (A : Option Addr) (m kk : Nat) (W : World) (hrd : RdA W A m l) (hlen : m ≤ 262144) :
    Calls Tryz.prog 19 #[.agg #[.int .i64 n, .slice A m kk]] W (NewG n l W) := by
  have HRD := Lib.hid hrd
  have hml := hrd.1
  clear hrd
  have hb1 := (((Below.refl W.heap.size W).alloc (Nat.le_refl _) (.cells #[.int .i64 n, .slice A m kk] 30)).alloc (by simp) (.cells #[.int .i64 0, .slice none 0 0] 30)).alloc (by simp; omega) (.cells #[.int .i64 n, .slice none 0 0] 30)
  have hx0 := (cells_new W #[.int .i64 n, .slice A m kk] 30)
  have hx1 := (cells_new (W.alloc (.cells #[.int .i64 n, .slice A m kk] 30)) #[.int .i64 0, .slice none 0 0] 30)
  have hx2 := (cells_new ((W.alloc (.cells #[.int .i64 n, .slice A m kk] 30)).alloc (.cells #[.int .i64 0, .slice none 0 0] 30)) #[.int .i64 n, .slice none 0 0] 30)
  have hx0' := (hx0.below (w' := (W.alloc (.cells #[.int .i64 n, .slice A m kk] 30)).alloc (.cells #[.int .i64 0, .slice none 0 0] 30)) ((Below.refl _ _).alloc (Nat.le_refl _) _))
  have hx0'' := (hx0'.below (w' := ((W.alloc (.cells #[.int .i64 n, .slice A m kk] 30)).alloc (.cells #[.int .i64 0, .slice none 0 0] 30)).alloc (.cells #[.int .i64 n, .slice none 0 0] 30)) ((Below.refl _ _).alloc (Nat.le_refl _) _))
  have hx1' := (hx1.below (w' := ((W.alloc (.cells #[.int .i64 n, .slice A m kk] 30)).alloc (.cells #[.int .i64 0, .slice none 0 0] 30)).alloc (.cells #[.int .i64 n, .slice none 0 0] 30)) ((Below.refl _ _).alloc (Nat.le_refl _) _))
  have hsz : (((W.alloc (.cells #[.int .i64 n, .slice A m kk] 30)).alloc (.cells #[.int .i64 0, .slice none 0 0] 30)).alloc (.cells #[.int .i64 n, .slice none 0 0] 30)).heap.size = W.heap.size + 1 + 1 + 1 := by simp
  rw [size_alloc] at hx1'
  rw [size_alloc, size_alloc] at hx2
  clear hx0 hx0' hx1
  have HB1 := Lib.hid hb1
  have HX0 := Lib.hid hx0''
  have HX1 := Lib.hid hx1'
  have HX2 := Lib.hid hx2
  clear hb1 hx0'' hx1' hx2
  have d0 : (W.alloc (.cells #[.int .i64 n, .slice A m kk] 30)).cell? ⟨W.heap.size, 0, none⟩ = some (.int .i64 n) := (cells_new W _ _).cell 0
  go_enter Tryz.func19, Tryz.ntmps19
  refine wp_named ?_
  intro Q0 hQ0
  have HQ0 := Lib.hid hQ0
  clear hQ0
  go_upto_region 2 with fail
  generalize ((W.alloc (.cells #[.int .i64 n, .slice A m kk] 30)).alloc (.cells #[.int .i64 0, .slice none 0 0] 30)).alloc (.cells #[.int .i64 n, .slice none 0 0] 30) = w3 at *
  clear d0
  have b1 := HX0.out.cell 1
  go_wp2_with fail
  clear b1
  go_loopw [12] (fun jv wr => ∃ (j : Nat) (A2 : Option Addr) (c2 : Nat), j ≤ m ∧ jv = .int .i64 j ∧ Cells wr (W.heap.size + 1 + 1) #[.int .i64 n, .slice A2 j c2] 30 ∧ Own 56 3 encA wr w3.heap.size (.slice A2 j c2) (l.take j) ∧ Kept (fun k => k = W.heap.size + 1 + 1) w3 wr) (fun jv _ => m - (intOf jv).toNat)
  case atStart => exact ⟨0, none, 0, by omega, rfl, HX2.out, Own.nil _ _ _ _ _, Kept.refl _ _⟩
  case round =>
    obtain ⟨j, A2, c2, hj, rfl, hcg, ho, hk⟩ := hrel
    have hbw : Below W.heap.size W wr := hk.below HB1.out (fun k h => by omega) (by omega)
    have HBW := Lib.hid hbw
    have HCG := Lib.hid hcg
    have HO := Lib.hid ho
    have HK := Lib.hid hk
    have hzz := hk.size
    clear hcg ho hk hbw
    by_cases hlt : j < m
    · have g0 : decide ((j : Int) < (m : Int)) = true := decide_eq_true (by omega)
      obtain ⟨ad, hA, cc⟩ := (HRD.out.below HBW.out).at_ hlt
      subst hA
      obtain ⟨c0, c1, c2'⟩ := arc_cells cc
      have hjl : j < l.length := by omega
      have htk : l.take (j + 1) = l.take j ++ [l[j]] := List.take_succ_eq_append_getElem hjl
      generalize l[j] = a at *
      have HTK := Lib.hid htk
      have hal : (l.take j).length = j := by rw [List.length_take]; omega
      have HAL := Lib.hid hal
      generalize l.take j = al at *
      clear cc htk hjl hal
      go_upto_region 5 with fail
      have hb7 := (Below.refl wr.heap.size wr).alloc (Nat.le_refl _) (.cells #[.int .i64 a.f, .int .i64 a.t, .int .i64 a.w] 56)
      have hx7 := cells_new wr #[.int .i64 a.f, .int .i64 a.t, .int .i64 a.w] 56
      generalize wr.alloc (.cells #[.int .i64 a.f, .int .i64 a.t, .int .i64 a.w] 56) = w7 at *
      have HX7 := Lib.hid hx7
      have HB7 := Lib.hid hb7
      clear hb7 hx7 c0 c1 c2'
      have HG7 := Lib.hid (HCG.out.below HB7.out)
      have HO7 := Lib.hid (HO.out.below HB7.out)
      have hs7 : w3.heap.size ≤ w7.heap.size := by have h2 := HB7.out.size; omega
      have y0 := HX7.out.cell 0
      have y1 := HX7.out.cell 1
      have y2 := HX7.out.cell 2
      have d1 := HG7.out.cell 1
      have hw1 : IntKind.i64.wrap ((j : Int) + 1) = (j : Int) + 1 := by rw [IntKind.wrap_i64]; omega
      have hoG : ∀ k, (Value.slice A2 j c2).ownBlock = some k → w3.heap.size ≤ k := fun k h => (HO.out.block h).1
      go_wp2_with (at_builtin; go_loud (refine wpList_append_rd rfl (.tmp 17) (.tmp 19) 28 rfl 56 (.agg #[.int .i64 0, .int .i64 0, .int .i64 0]) 24 Tryz.underlying28 info_arc rfl (by omega) (by omega) encA_len encA_one w3.heap.size _ al rfl (HO7.out.below ((Below.refl _ _).alloc (Nat.le_refl _) _)) _ 1 1 [a] rfl (rd_arc rfl) (by rw [HAL.out]; omega) (by simp; omega) ?_; intro v2 w8 ho2 hg2 hat2; obtain ⟨A3, c3, rfl, h2c, h2m⟩ := ho2.form; have hl2 : (al ++ [a]).length = j + 1 := (by rw [List.length_append, HAL.out]; rfl); rw [hl2] at ho2 ⊢; have HO8 := Lib.hid ho2; have HK8 : Hid (Kept (fun k => (Value.slice A2 j c2).ownBlock = some k) w7 w8) := Lib.hid (((Kept.refl _ w7).alloc _).trans ⟨hg2.1, hg2.2, hg2.3, hg2.4, fun k hk hs => hg2.5 k hk (fun e => hs e.symm)⟩); have hg8 := HK8.out.cells HG7.out (fun h => by have := hoG _ h; omega); have q1 := hg8.cell 1; have p1 := hg8.frozen 1; have HG8 := Lib.hid hg8; clear ho2 hg2 hat2 hg8 h2c h2m hl2))
      have hg9 := HG8.out.set_ 1 (.slice A3 (j + 1) c3)
      simp only [List.setIfInBounds_toArray, List.set_cons_zero, List.set_cons_succ] at hg9
      have hk9 : Kept (fun k => k = W.heap.size + 1 + 1) w8 (w8.setCell ⟨W.heap.size + 1 + 1, 1, none⟩ (.slice A3 (j + 1) c3)) := (Kept.refl (fun k => k = W.heap.size + 1 + 1) w8).set_ (p := ⟨W.heap.size + 1 + 1, 1, none⟩) (.inl rfl) _
      have ho9 := keptS_own HO8.out hk9 (fun k h => by have := (HO8.out.block h).1; omega)
      rw [← HTK.out] at ho9
      have hk10 : Kept (fun k => k = W.heap.size + 1 + 1) w3 (w8.setCell ⟨W.heap.size + 1 + 1, 1, none⟩ (.slice A3 (j + 1) c3)) := ((HK.out.trans (.of_below HB7.out)).trans2 HK8.out (fun k h => .inr (hoG k h))).trans hk9
      exact ⟨⟨j + 1, A3, c3, by omega, by go_num, hg9, ho9, hk10⟩, by simp [intOf]; omega⟩
    · obtain rfl : m = j := by omega
      have htk : l.take m = l := List.take_of_length_le (by omega)
      rw [htk] at HO
      have c0 := HCG.out.cell 0
      have c1 := HCG.out.cell 1
      have hx1 := HK.out.cells HX1.out (by omega)
      have e0 := hx1.cell 0
      have e1 := hx1.cell 1
      have f0 := hx1.frozen 0
      have f1 := hx1.frozen 1
      have hfin := (hx1.set_ 0 (.int .i64 n)).set_ 1 (.slice A2 m c2)
      simp only [List.setIfInBounds_toArray, List.set_cons_zero, List.set_cons_succ] at hfin
      have hkz : Kept (fun k => k = W.heap.size + 1) wr ((wr.setCell ⟨W.heap.size + 1, 0, none⟩ (.int .i64 n)).setCell ⟨W.heap.size + 1, 1, none⟩ (.slice A2 m c2)) := ((Kept.refl (fun k => k = W.heap.size + 1) wr).set_ (p := ⟨W.heap.size + 1, 0, none⟩) (.inl rfl) _).set_ (p := ⟨W.heap.size + 1, 1, none⟩) (.inl rfl) _
      have HFIN := Lib.hid hfin
      have HKZ := Lib.hid hkz
      have HCGZ := Lib.hid (hkz.cells HCG.out (by omega))
      clear hfin hkz hx1
      go_wp2_with fail
      generalize (wr.setCell ⟨W.heap.size + 1, 0, none⟩ (.int .i64 n)).setCell ⟨W.heap.size + 1, 1, none⟩ (.slice A2 m c2) = wz at *
      have r0 : wz.cell? ⟨W.heap.size + 1, 0, none⟩ = some (.int .i64 n) := HFIN.out.cell 0
      have r1 : wz.cell? ⟨W.heap.size + 1, 1, none⟩ = some (.slice A2 m c2) := HFIN.out.cell 1
      have HOZ := keptS_own HO.out HKZ.out (fun k h => by have := (HO.out.block h).1; omega)
      have HEND : Hid (NewG n l W (.returned (.agg #[.int .i64 n, .slice A2 m c2])) wz) := Lib.hid ⟨A2, c2, by rw [hml], by rw [hml]; exact HOZ.mono (by omega), HKZ.out.below HBW.out (fun k h => by omega) (by omega)⟩
      rw [HQ0.out]
      refine bodyPost_ret (v := .agg #[.int .i64 n, .slice A2 m c2]) ?hres rfl HEND.out
      case hres => simp [results, Tryz.results19, go_sem, r0, r1]
end Go.Proofs.YtmnnoecjedkdjaaGreatDoor
