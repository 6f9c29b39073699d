/- Shift, by the program and by the document. -/
import Derived.Test.YtkncgpnnilcicaaDoorFb2
set_option linter.unusedSimpArgs false
set_option linter.unusedVariables false
namespace Go.Proofs.YtkncgpnnilcicaaDoor
open Go.RowKit Go.Extern.Stop Go.Stop Go.Extern

def ShiftedW (E : Core) (ps : List (Int × Int)) (W : World) (e : Ending) (w' : World) : Prop := MadeW E ps W e w'
set_option maxRecDepth 100000 in
theorem FShift_any {W : World} (E : Core) (v : Value) (ps : List (Int × Int)) (k d : Int) (h : Wrap W E v ps) :
    Calls Tryd.prog 23 #[v, .int .i64 k, .int .i64 d] W (MadeW (coreOf (linkC ps E)) (shiftPs k d (linkPs ps)) W) := by
  have HL1 := Lib.hid (links_any E v ps h)
  unfold LinksIs at HL1
  clear h
  have l1 := linkPs_len ps
  generalize linkC ps E = c at *
  generalize linkPs ps = xs at *
  go_enter Tryd.func23, Tryd.ntmps23
  go_wp2_with fail
  refine HL1.out.mono ?_
  rintro e w2 ⟨p, rfl, ho, hb⟩
  obtain ⟨Ap, cp, rfl, hc, hm⟩ := ho.form
  have HO := Lib.hid ho
  have HB := Lib.hid hb
  clear hb ho HL1
  generalize hn : xs.length = n at *
  have HN := Lib.hid hn
  have HC := Lib.hid hc
  simp only [maxLen] at hm
  clear hn hc
  go_wp2_with fail
  go_loopw [17] (fun iv wr => ∃ j : Nat, j ≤ n ∧ iv = .int .i64 j ∧ OwnP wr W.heap.size (.slice Ap n cp) (halfPs k d xs j) ∧ Below W.heap.size W wr) (fun iv _ => n - (intOf iv).toNat)
  case atStart => exact ⟨0, by omega, rfl, by unfold halfPs; simpa using HO.out, HB.out⟩
  case round =>
    obtain ⟨j, hj, rfl, ho2, hb2⟩ := hrel
    have HO2 := Lib.hid ho2
    have HB2 := Lib.hid hb2
    clear ho2 hb2
    by_cases hlt : j < n
    · have hjx : j < xs.length := by have := HN.out; omega
      have hg := halfPs_get (k := k) (d := d) hjx
      have hsu := halfPs_succ (k := k) (d := d) hjx
      have hll : (halfPs k d xs j).length = n := (halfPs_len k d xs j).trans HN.out
      obtain ⟨g, c', hv, hbg, hlc, hcm⟩ := own_some HO2.out (by omega)
      injection hv with h1 h2 h3
      subst h1 h3
      have ho := HO2.out
      rw [← hll] at ho
      have hnc : n ≤ cp := HC.out
      have e0 := (World.ownsRow.cellAt ho (j * 2) (by omega)).trans (flat_get (enc := places) places_len (halfPs k d xs j) j 0 (by omega))
      have e1 := (World.ownsRow.cellAt ho (j * 2 + 1) (by omega)).trans (flat_get (enc := places) places_len (halfPs k d xs j) j 1 (by omega))
      have f1 := World.ownsRow.frozenAt ho (j * 2 + 1)
      rw [hg] at e0 e1
      generalize xs[j] = x at *
      obtain ⟨xk, xa⟩ := x
      replace e0 : wr.cell? ⟨g, j * 2, none⟩ = some (.int .i64 xk) := e0
      replace e1 : wr.cell? ⟨g, j * 2 + 1, none⟩ = some (.int .i64 xa) := e1
      have HG := Lib.hid hg
      have HSU := Lib.hid hsu
      clear hg hsu ho h2 hlc hll hjx hcm
      by_cases hk : xk = k
      · subst hk
        have HS : Hid (shiftP xk d (xk, xa) = (xk, wrapI (xa + d))) := Lib.hid (by unfold shiftP; rw [if_pos rfl])
        go_wp2_with fail
        go_roundw
        case rel => exact ⟨j + 1, by omega, by go_num, by rw [HSU.out, HS.out]; exact own_set1 HO2.out j HG.out (wrap64 (xa + d)), HB2.out.setCell (p := ⟨g, j * 2 + 1, none⟩) hbg _⟩
        case measure => simp [intOf]; omega
      · have HS : Hid (shiftP k d (xk, xa) = (xk, xa)) := Lib.hid (by unfold shiftP; rw [if_neg hk])
        have g1 : (xk == k) = false := by simp [hk]
        clear hk
        go_wp2_with fail
        go_roundw
        case rel => exact ⟨j + 1, by omega, by go_num, by rw [HSU.out, HS.out, set_same HG.out]; exact HO2.out, HB2.out⟩
        case measure => simp [intOf]; omega
    · obtain rfl : j = n := by omega
      have hall := halfPs_all (k := k) (d := d) HN.out.symm
      rw [hall] at HO2
      have hsl : (shiftPs k d xs).length = j := (shiftPs_len k d xs).trans HN.out
      have HR : Hid (RdP wr Ap j (shiftPs k d xs)) := Lib.hid (by have h := HO2.out.rd places_len rfl; exact h)
      clear hall hsl
      go_wp2_with fail
      refine (chain_any Ap j cp (shiftPs k d xs) c wr HR.out (by omega)).mono ?_
      rintro e w3 ⟨v2, rfl, hw, hb3⟩
      have HW := Lib.hid hw
      have HB3 := Lib.hid (HB2.out.trans (hb3.mono HB2.out.size))
      clear hw hb3
      go_wp2_with fail
      go_ret
      exact ⟨_, rfl, HW.out, HB3.out⟩
def ErrOwn (c : Int) (ps : List (Int × Int)) (W : World) (e : Ending) (w' : World) : Prop := ∃ A k, e = .returned (.agg #[.int .i64 c, .slice A ps.length k]) ∧ OwnP w' W.heap.size (.slice A ps.length k) ps ∧ Below W.heap.size W w'
set_option maxRecDepth 100000 in
theorem RShift_any {W : World} (c : Int) (A : Option Addr) (n cap : Nat) (xs : List (Int × Int)) (k d : Int) (hp : RdP W A n xs) (hn : n ≤ 64) :
    Calls Tryd.prog 24 #[.agg #[.int .i64 c, .slice A n cap], .int .i64 k, .int .i64 d] W (ErrOwn c (shiftPs k d xs) W) := by
  have HT := Lib.hid (Twin_any A n cap xs _ (hp.below (two_allocs W (.cells #[.int .i64 c, .slice A n cap] 46) (.cells #[.int .i64 0, .slice none 0 0] 46))) hn)
  have hN := hp.1
  have HN := Lib.hid hN
  clear hp hN
  go_enter Tryd.func24, Tryd.ntmps24
  go_wp2_with fail
  refine HT.out.mono ?_
  rintro e w2 ⟨v, rfl, ho, hb⟩
  have he := (cells_new (W.alloc (.cells #[.int .i64 c, .slice A n cap] 46)) #[.int .i64 0, .slice none 0 0] 46).below hb
  have hc := ((cells_new W #[.int .i64 c, .slice A n cap] 46).below ((Below.refl _ _).alloc (Nat.le_refl _) (.cells #[.int .i64 0, .slice none 0 0] 46))).below hb
  rw [size_alloc] at he
  have HE := Lib.hid he
  have HCC := Lib.hid hc
  have HB := Lib.hid ((two_allocs W _ _).trans (hb.mono (by simp; omega)))
  obtain ⟨Ap, cp, rfl, hcc, hm⟩ := ho.form
  rw [HN.out] at ho hcc ⊢
  have HO : Hid (OwnP w2 (W.heap.size + 2) (.slice Ap n cp) xs) := Lib.hid (by have h := ho; simp at h; exact h)
  simp only [maxLen] at hm
  have HC := Lib.hid hcc
  clear he hc hb ho HT hcc
  go_wp2_with fail
  go_loopw [14] (fun iv wr => ∃ j : Nat, j ≤ n ∧ iv = .int .i64 j ∧ OwnP wr (W.heap.size + 2) (.slice Ap n cp) (halfPs k d xs j) ∧ Below (W.heap.size + 2) w2 wr) (fun iv _ => n - (intOf iv).toNat)
  case atStart => exact ⟨0, by omega, rfl, by unfold halfPs; simpa using HO.out, Below.refl _ _⟩
  case round =>
    obtain ⟨j, hj, rfl, ho2, hb2⟩ := hrel
    have HO2 := Lib.hid ho2
    have HB2 := Lib.hid hb2
    clear ho2 hb2
    by_cases hlt : j < n
    · have hjx : j < xs.length := by have := HN.out; omega
      have hg := halfPs_get (k := k) (d := d) hjx
      have hsu := halfPs_succ (k := k) (d := d) hjx
      have hll : (halfPs k d xs j).length = n := (halfPs_len k d xs j).trans HN.out
      obtain ⟨g, c', hv, hbg, hlc, hcm⟩ := own_some HO2.out (by omega)
      injection hv with h1 h2 h3
      subst h1 h3
      have ho := HO2.out
      rw [← hll] at ho
      have hnc : n ≤ cp := HC.out
      have e0 := (World.ownsRow.cellAt ho (j * 2) (by omega)).trans (flat_get (enc := places) places_len (halfPs k d xs j) j 0 (by omega))
      have e1 := (World.ownsRow.cellAt ho (j * 2 + 1) (by omega)).trans (flat_get (enc := places) places_len (halfPs k d xs j) j 1 (by omega))
      have f1 := World.ownsRow.frozenAt ho (j * 2 + 1)
      rw [hg] at e0 e1
      generalize xs[j] = x at *
      obtain ⟨xk, xa⟩ := x
      replace e0 : wr.cell? ⟨g, j * 2, none⟩ = some (.int .i64 xk) := e0
      replace e1 : wr.cell? ⟨g, j * 2 + 1, none⟩ = some (.int .i64 xa) := e1
      have HG := Lib.hid hg
      have HSU := Lib.hid hsu
      clear hg hsu ho h2 hlc hll hjx hcm
      by_cases hk : xk = k
      · subst hk
        have HS : Hid (shiftP xk d (xk, xa) = (xk, wrapI (xa + d))) := Lib.hid (by unfold shiftP; rw [if_pos rfl])
        go_wp2_with fail
        go_roundw
        case rel => exact ⟨j + 1, by omega, by go_num, by rw [HSU.out, HS.out]; exact own_set1 HO2.out j HG.out (wrap64 (xa + d)), HB2.out.setCell (p := ⟨g, j * 2 + 1, none⟩) hbg _⟩
        case measure => simp [intOf]; omega
      · have HS : Hid (shiftP k d (xk, xa) = (xk, xa)) := Lib.hid (by unfold shiftP; rw [if_neg hk])
        have g1 : (xk == k) = false := by simp [hk]
        clear hk
        go_wp2_with fail
        go_roundw
        case rel => exact ⟨j + 1, by omega, by go_num, by rw [HSU.out, HS.out, set_same HG.out]; exact HO2.out, HB2.out⟩
        case measure => simp [intOf]; omega
    · obtain rfl : j = n := by omega
      have hall := halfPs_all (k := k) (d := d) HN.out.symm
      rw [hall] at HO2
      have hsl : (shiftPs k d xs).length = j := (shiftPs_len k d xs).trans HN.out
      have HSL := Lib.hid hsl
      have bl : ∀ q, q < W.heap.size + 2 → wr.heap[q]? = w2.heap[q]? := fun q hq => HB2.out.block q hq
      have he : Cells wr (W.heap.size + 1) #[.int .i64 0, .slice none 0 0] 46 := (bl _ (by omega)).trans HE.out
      have hc : Cells wr W.heap.size #[.int .i64 c, .slice A j cap] 46 := (bl _ (by omega)).trans HCC.out
      have e0 := he.cell 0
      have e1 := he.cell 1
      have f0 := he.frozen 0
      have f1 := he.frozen 1
      have d0 := hc.cell 0
      simp only [List.getElem?_toArray, List.getElem?_cons_zero, List.getElem?_cons_succ] at e0 e1 d0
      have HFIN : Hid (Cells ((wr.setCell ⟨W.heap.size + 1, 0, none⟩ (.int .i64 c)).setCell ⟨W.heap.size + 1, 1, none⟩ (.slice Ap j cp)) (W.heap.size + 1) #[.int .i64 c, .slice Ap j cp] 46) := Lib.hid ((he.set_ 0 (.int .i64 c)).set_ 1 (.slice Ap j cp))
      have hk : ∀ q, (Value.slice Ap j cp).ownBlock = some q → W.heap.size + 2 ≤ q := fun q h => (HO2.out.block h).1
      have HK := Lib.hid hk
      clear he hc bl hall hsl hk
      go_wp2_with fail
      have HO3 : Hid (OwnP _ (W.heap.size + 2) (.slice Ap j cp) (shiftPs k d xs)) := Lib.hid (own_far2 (own_far2 HO2.out (p := ⟨W.heap.size + 1, 0, none⟩) (fun h => by have := HK.out _ h; simp at this) (.int .i64 c)) (p := ⟨W.heap.size + 1, 1, none⟩) (fun h => by have := HK.out _ h; simp at this) (.slice Ap j cp))
      have HB3 : Hid (Below W.heap.size W _) := Lib.hid (((HB.out.trans (HB2.out.mono (by omega))).setCell (p := ⟨W.heap.size + 1, 0, none⟩) (by simp) (.int .i64 c)).setCell (p := ⟨W.heap.size + 1, 1, none⟩) (by simp) (.slice Ap j cp))
      generalize (wr.setCell ⟨W.heap.size + 1, 0, none⟩ (.int .i64 c)).setCell ⟨W.heap.size + 1, 1, none⟩ (.slice Ap j cp) = w3 at HFIN HO3 HB3 ⊢
      have r0 : w3.cell? ⟨W.heap.size + 1, 0, none⟩ = some (.int .i64 c) := HFIN.out.cell 0
      have r1 : w3.cell? ⟨W.heap.size + 1, 1, none⟩ = some (.slice Ap j cp) := HFIN.out.cell 1
      refine bodyPost_ret (by simp [results, Tryd.results24, go_sem, r0, r1]; try rfl) rfl ?_
      exact ⟨Ap, cp, by rw [HSL.out], by rw [HSL.out]; exact HO3.out.mono (by omega), HB3.out⟩
end Go.Proofs.YtkncgpnnilcicaaDoor
