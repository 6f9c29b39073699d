/- At, cut, Code, Places. -/
import Derived.Test.YtkncgpnnilcicaaDoorFa3
set_option linter.unusedSimpArgs false
set_option linter.unusedVariables false
namespace Go.Proofs.YtkncgpnnilcicaaDoor
open Go.RowKit Go.Extern.Stop Go.Stop Go.Extern

theorem At_nil (k a : Int) (W : World) : Calls Tryd.prog 13 #[.int .i64 k, .int .i64 a, .nilIface] W fun e w' => e = .returned .nilIface ∧ w' = W := by
  go_enter Tryd.func13, Tryd.ntmps13
  go_wp2_with fail
  go_ret
  exact ⟨rfl, rfl⟩
theorem At_some {W : World} (k a : Int) (E : Core) (u : TypeId) (x : Value) (ps : List (Int × Int)) (h : Wrap W E (.iface u x) ps) :
    Calls Tryd.prog 13 #[.int .i64 k, .int .i64 a, .iface u x] W fun e w' => e = .returned (.iface 30 (.pointer (some ⟨W.heap.size, 0, none⟩))) ∧ Wrap w' E (.iface 30 (.pointer (some ⟨W.heap.size, 0, none⟩))) ((k, a) :: ps) ∧ Cells w' W.heap.size #[.int .i64 k, .int .i64 a, .iface u x] 36 ∧ Below W.heap.size W w' := by
  have H := Lib.hid h
  clear h
  go_enter Tryd.func13, Tryd.ntmps13
  go_wp2_with fail
  go_ret
  exact ⟨rfl, wrap_new (x := (k, a)) H.out, cells_new W _ _, (Below.refl _ _).alloc (Nat.le_refl _) _⟩
theorem own_places {w : World} {base : Nat} {v : Value} {l : List (Int × Int)} (h : OwnP w base v l) : ∃ A c, v = .slice A l.length c ∧ RdP w A l.length l ∧ l.length ≤ 9223372036854775807 := by
  obtain ⟨A, c, rfl, hc, hm⟩ := h.form
  exact ⟨A, c, rfl, h.rd places_len rfl, by simp only [maxLen] at hm; omega⟩
theorem cut_any {W : World} (E : Core) (v : Value) (ps : List (Int × Int)) (h : Wrap W E v ps) :
    Calls Tryd.prog 38 #[v] W (MadeW (coreOf (linkC ps E)) (linkPs ps) W) := by
  have H := Lib.hid h
  clear h
  go_enter Tryd.func38, Tryd.ntmps38
  go_wp2_with fail
  refine (links_any E v ps H.out).mono ?_
  rintro e w2 ⟨p, rfl, ho, hb⟩
  generalize linkC ps E = d at *
  generalize linkPs ps = qs at *
  obtain ⟨A, c, rfl, hr, hm⟩ := own_places ho
  generalize qs.length = n at *
  have HR := Lib.hid hr
  have HB := Lib.hid hb
  clear hr hb ho H
  go_wp2_with fail
  refine (chain_any A n c qs d w2 HR.out hm).mono ?_
  rintro e w3 ⟨v2, rfl, hw, hb2⟩
  have HW := Lib.hid hw
  have HB2 := Lib.hid (HB.out.trans (hb2.mono HB.out.size))
  clear hw hb2
  go_wp2_with fail
  go_ret
  exact ⟨_, rfl, HW.out, HB2.out⟩
theorem Places_any {W : World} (E : Core) (v : Value) (ps : List (Int × Int)) (h : Wrap W E v ps) :
    Calls Tryd.prog 16 #[v] W fun e w' => ∃ p, e = .returned p ∧ OwnP w' W.heap.size p (linkPs ps) ∧ Below W.heap.size W w' := by
  have H := Lib.hid h
  clear h
  go_enter Tryd.func16, Tryd.ntmps16
  go_wp2_with fail
  refine (links_any E v ps H.out).mono ?_
  rintro e w2 ⟨p, rfl, ho, hb⟩
  have HO := Lib.hid ho
  have HB := Lib.hid hb
  clear ho hb
  go_wp2_with fail
  go_ret
  exact ⟨_, rfl, HO.out, HB.out⟩
theorem core_links (ps : List (Int × Int)) (E : Core) : coreOf (linkC ps E) = .none ∧ linkC ps E = 0 ∨ coreOf (linkC ps E) = .num (linkC ps E) ∧ linkC ps E ≠ 0 := by
  by_cases h : linkC ps E = 0
  · exact .inl ⟨by unfold coreOf; rw [if_pos h], h⟩
  · exact .inr ⟨by unfold coreOf; rw [if_neg h], h⟩
theorem As_N2 {W : World} (u : TypeId) (v : Value) (ps : List (Int × Int)) (c : Int) (hch : Chain W (.iface u v) ps c) (hc : c ≠ 0) (t : Addr) (old : Value) (hg : ErrT W) (ht : W.cell? t = some old) (hf : W.frozen? t = false) :
    Calls Tryd.prog 14 #[.iface u v, .iface 79 (.pointer (some t))] W fun ev w' => ev = .returned (.bool true) ∧ ∃ W2, Below W.heap.size W W2 ∧ w' = W2.setCell t (.int .i64 c) := by
  have bt := World.block_lt_of_cell? W _ ht
  refine (As_ofN u v t hg (as_N u v ps c (hch.keep (two_allocs W _ _)) t W.heap.size old (by rw [World.cell?_alloc_lt _ _ _ (by simp)]; simp) (by rw [World.cell?_alloc_lt _ _ t (by simp; omega), World.cell?_alloc_lt _ _ t bt]; exact ht) (by rw [World.frozen?_alloc_old _ _ t (by simp; omega), World.frozen?_alloc_old _ _ t (by omega)]; exact hf))).mono ?_
  rintro ev w' ⟨r, rfl, rfl, W2, hb, rfl⟩
  rw [if_neg hc]
  exact ⟨by simp [hc], W2, (two_allocs W _ _).trans (hb.mono (by simp; omega)), rfl⟩
theorem cell_far {W : World} {g : Nat} {x : Value} {t : TypeId} (hc : Cells W g #[x] t) (u : Value) {b o i : Nat} {v v' : Value} (h1 : W.cell? ⟨b, o + 1, none⟩ = some v') (h : W.cell? ⟨b, o + i, none⟩ = some v) : (W.setCell ⟨g, 0, none⟩ u).cell? ⟨b, o + i, none⟩ = some v := by
  have hne : b ≠ g := by
    rintro rfl
    rw [hc.cell (o + 1)] at h1
    simp at h1
  rw [World.cell?_of_block (heap_setCell_other W ⟨g, 0, none⟩ b u hne)]
  exact h
theorem Wrap.set_ {W : World} {E : Core} {v : Value} {ps : List (Int × Int)} (h : Wrap W E v ps) {g : Nat} {x : Value} {t : TypeId} (hc : Cells W g #[x] t) (u : Value) : Wrap (W.setCell ⟨g, 0, none⟩ u) E v ps := by
  induction h with
  | core => exact .core
  | link b o k a v ps h1 h2 h3 _ ih => exact .link b o k a v ps (cell_far hc u (i := 0) h2 h1) (cell_far hc u (i := 1) h2 h2) (cell_far hc u (i := 2) h2 h3) ih
theorem Code_any {W : World} (E : Core) (v : Value) (ps : List (Int × Int)) (h : Wrap W E v ps) (hg : ErrT W) :
    Calls Tryd.prog 17 #[v] W fun e w' => e = .returned (.int .i64 (linkC ps E)) ∧ Below W.heap.size W w' := by
  have hcut := cut_any E v ps (h.keep ((Below.refl _ W).alloc (Nat.le_refl _) (.cells #[.int .i64 0] 24)))
  have hcl := core_links ps E
  generalize linkC ps E = d at *
  generalize linkPs ps = qs at *
  have HCUT := Lib.hid hcut
  have HG := Lib.hid hg
  clear h hg hcut
  go_enter Tryd.func17, Tryd.ntmps17
  go_wp2_with fail
  refine HCUT.out.mono ?_
  rintro e w2 ⟨v2, rfl, hw, hb⟩
  have hcell := (cells_new W #[.int .i64 0] 24).below hb
  have CELL := Lib.hid hcell
  have HB := Lib.hid (((Below.refl _ _).alloc (Nat.le_refl _) _).trans (hb.mono (by simp)))
  clear hb hcell
  rcases hcl with ⟨hE, rfl⟩ | ⟨hE, hd⟩
  · rw [hE] at hw
    have HCH := Lib.hid (hw.chain (.inl ⟨rfl, rfl⟩))
    rcases hw.form with rfl | ⟨u, x, rfl⟩
    · clear hw hE
      go_wp2_with fail
      go_ret
      exact ⟨rfl, HB.out⟩
    · clear hw hE
      go_wp2_with fail
      refine (As_N0 u x qs HCH.out ⟨W.heap.size, 0, none⟩ (.int .i64 0) (HG.out.below HB.out) (CELL.out.cell 0) (CELL.out.frozen 0)).mono ?_
      rintro e w3 ⟨rfl, hb3⟩
      have HB3 := Lib.hid (HB.out.trans (hb3.mono HB.out.size))
      clear hb3
      go_wp2_with fail
      go_ret
      exact ⟨rfl, HB3.out⟩
  · rw [hE] at hw
    have HW := Lib.hid hw
    have HCH := Lib.hid (hw.chain (.inr ⟨rfl, hd⟩))
    have HD := Lib.hid hd
    rcases hw.form with rfl | ⟨u, x, rfl⟩
    · cases hw
    · clear hw hE hd
      go_wp2_with fail
      refine (As_N2 u x qs d HCH.out HD.out ⟨W.heap.size, 0, none⟩ (.int .i64 0) (HG.out.below HB.out) (CELL.out.cell 0) (CELL.out.frozen 0)).mono ?_
      rintro e w3 ⟨rfl, W2, hb3, h3⟩
      have hcell2 := CELL.out.below hb3
      have CH := Lib.hid (((HW.out.keep hb3).set_ hcell2 (.int .i64 d)).chain (.inr ⟨rfl, HD.out⟩))
      have c3 := (hcell2.set_ 0 (.int .i64 d)).cell 0
      have HB3 := Lib.hid ((HB.out.trans (hb3.mono HB.out.size)).setCell (p := ⟨W.heap.size, 0, none⟩) (Nat.le_refl _) (.int .i64 d))
      rw [← h3] at CH c3 HB3
      clear h3 hb3 hcell2 CELL HCH HW
      have c4 : w3.cell? ⟨W.heap.size, 0, none⟩ = some (.int .i64 d) := c3
      clear c3
      go_wp2_with fail
      refine (Is_chain d HD.out u x qs d CH.out).mono ?_
      rintro e w4 ⟨rfl, h⟩
      obtain rfl := h.symm
      clear h
      go_wp2_with fail
      go_ret
      exact ⟨rfl, HB3.out⟩
end Go.Proofs.YtkncgpnnilcicaaDoor
