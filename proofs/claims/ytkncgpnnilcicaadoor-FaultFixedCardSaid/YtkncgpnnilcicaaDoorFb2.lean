/- Same; Shift, by the program and by the document. -/
import Derived.Test.YtkncgpnnilcicaaDoorFb1
set_option linter.unusedSimpArgs false
set_option linter.unusedVariables false
namespace Go.Proofs.YtkncgpnnilcicaaDoor
open Go.RowKit Go.Extern.Stop Go.Stop Go.Extern

def sameB (ps : List (Int × Int)) (E : Core) (qs : List (Int × Int)) (F : Core) : Bool := decide (linkC ps E = linkC qs F ∧ linkPs ps = linkPs qs)
set_option maxRecDepth 100000 in
theorem FSame_any {W : World} (E F : Core) (v u : Value) (ps qs : List (Int × Int)) (hv : Wrap W E v ps) (hu : Wrap W F u qs) :
    Calls Tryd.prog 28 #[v, u] W (BoolBelow (sameB ps E qs F) W) := by
  have HU := Lib.hid hu
  have HL1 := Lib.hid (links_any E v ps hv)
  have HL2 : Hid (∀ w, Below W.heap.size W w → Calls Tryd.prog 37 #[u] w (LinksIs qs F w)) := Lib.hid fun w hb => links_any F u qs (hu.keep hb)
  unfold LinksIs at HL1 HL2
  clear hv hu HU
  unfold sameB
  have l1 := linkPs_len ps
  have l2 := linkPs_len qs
  generalize linkC ps E = c at *
  generalize linkC qs F = d at *
  generalize linkPs ps = xs at *
  generalize linkPs qs = ys at *
  generalize hres : decide (c = d ∧ xs = ys) = r
  have HRES := Lib.hid hres
  clear hres
  go_enter Tryd.func28, Tryd.ntmps28
  go_wp2_with fail
  refine HL1.out.mono ?_
  rintro e w2 ⟨p, rfl, ho, hb⟩
  obtain ⟨Ap, cp, rfl, hr, hm⟩ := own_places ho
  have HP := Lib.hid hr
  have HB := Lib.hid hb
  clear hr hm hb ho
  go_wp2_with fail
  refine (HL2.out w2 HB.out).mono ?_
  rintro e w3 ⟨q, rfl, ho, hb⟩
  obtain ⟨Aq, cq, rfl, hr, hm⟩ := own_places ho
  have HQ := Lib.hid hr
  have HP3 := Lib.hid (HP.out.below hb)
  have HB3 := Lib.hid (HB.out.trans (hb.mono HB.out.size))
  clear hr hm hb ho HP
  generalize hn : xs.length = n at *
  generalize hm : ys.length = m at *
  have HN := Lib.hid hn
  have HM := Lib.hid hm
  clear hn hm
  by_cases hcd : c = d
  · subst hcd
    by_cases hnm : n = m
    · subst hnm
      replace HRES : Hid (decide (xs = ys) = r) := Lib.hid (by rw [← HRES.out]; simp)
      go_wp2_with fail
      go_loopw [32] (fun iv wr => ∃ j : Nat, j ≤ n ∧ iv = .int .i64 j ∧ Below W.heap.size W wr ∧ Below w3.heap.size w3 wr ∧ xs.take j = ys.take j) (fun iv _ => n - (intOf iv).toNat)
      case atStart => exact ⟨0, by omega, rfl, HB3.out, Below.refl _ _, rfl⟩
      case round =>
        obtain ⟨j, hj, rfl, hb, hb3, he⟩ := hrel
        have HB := Lib.hid hb
        have HB4 := Lib.hid hb3
        have HE := Lib.hid he
        clear hb hb3 he
        by_cases hlt : j < n
        · have g0 : decide ((j : Int) < (n : Int)) = true := decide_eq_true (by omega)
          obtain ⟨ad, hA, cc⟩ := (HP3.out.below HB4.out).at_ hlt
          subst hA
          obtain ⟨be, hB, dd⟩ := (HQ.out.below HB4.out).at_ hlt
          subst hB
          have hjp : j < xs.length := by have := HN.out; omega
          have hjq : j < ys.length := by have := HM.out; omega
          obtain ⟨c0, c1⟩ := two_places cc
          obtain ⟨d0, d1⟩ := two_places dd
          clear cc dd
          have htp := List.take_succ_eq_append_getElem hjp
          have htq := List.take_succ_eq_append_getElem hjq
          have hgp : xs[j]? = some xs[j] := List.getElem?_eq_getElem hjp
          have hgq : ys[j]? = some ys[j] := List.getElem?_eq_getElem hjq
          generalize xs[j] = x at *
          generalize ys[j] = y at *
          obtain ⟨xk, xa⟩ := x
          obtain ⟨yk, ya⟩ := y
          dsimp only at c0 c1 d0 d1
          have HTP := Lib.hid htp
          have HTQ := Lib.hid htq
          have HGP := Lib.hid hgp
          have HGQ := Lib.hid hgq
          clear htp htq hgp hgq hjp hjq
          by_cases hx : xk = yk ∧ xa = ya
          · obtain ⟨rfl, rfl⟩ := hx
            go_wp2_with (go_quiet (fail))
            go_roundw
            case rel => exact ⟨j + 1, by omega, by go_num, HB.out.trans ⟨rfl, rfl, rfl, Nat.le_refl _, fun _ _ => rfl⟩, HB4.out.trans ⟨rfl, rfl, rfl, Nat.le_refl _, fun _ _ => rfl⟩, by rw [HTP.out, HTQ.out, HE.out]⟩
            case measure => simp [intOf]; omega
          · have hr : r = false := by
              rw [← HRES.out]
              exact decide_eq_false (fun h => by
                subst h
                have := Option.some.inj (HGP.out.symm.trans HGQ.out)
                simp only [Prod.mk.injEq] at this
                exact hx this)
            subst hr
            clear HRES
            by_cases hk : xk = yk
            · subst hk
              have g2 : (xa == ya) = false := by simpa using fun h => hx ⟨rfl, h⟩
              have g3 : ¬ xa = ya := fun h => hx ⟨rfl, h⟩
              clear hx
              go_wp2_with (go_quiet (fail))
              go_ret
              exact ⟨rfl, HB.out.trans ⟨rfl, rfl, rfl, Nat.le_refl _, fun _ _ => rfl⟩⟩
            · have g2 : (xk == yk) = false := by simpa using hk
              clear hx
              go_wp2_with (go_quiet (fail))
              go_ret
              exact ⟨rfl, HB.out.trans ⟨rfl, rfl, rfl, Nat.le_refl _, fun _ _ => rfl⟩⟩
        · obtain rfl : j = n := by omega
          have hr : r = true := by
            rw [← HRES.out]
            have h1 : xs.take j = xs := List.take_of_length_le (by have := HN.out; omega)
            have h2 : ys.take j = ys := List.take_of_length_le (by have := HM.out; omega)
            have := HE.out
            rw [h1, h2] at this
            exact decide_eq_true this
          subst hr
          clear HRES
          go_wp2_with fail
          go_ret
          exact ⟨rfl, HB.out⟩
    · have hr : r = false := HRES.out.symm.trans (decide_eq_false (fun h => hnm (by rw [← HN.out, ← HM.out, h.2])))
      subst hr
      clear HRES
      have g1 : ((n : Int) != (m : Int)) = true := by simp only [bne, Bool.not_eq_true', beq_eq_false_iff_ne]; omega
      have g2 : (n == m) = false := by simp [hnm]
      clear hnm
      go_wp2_with fail
      go_ret
      exact ⟨rfl, HB3.out⟩
  · have hr : r = false := HRES.out.symm.trans (decide_eq_false (fun h => hcd h.1))
    subst hr
    clear HRES
    have g1 : (c != d) = true := by simp [bne, hcd]
    have g2 : (c == d) = false := by simp [hcd]
    clear hcd
    go_wp2_with fail
    go_ret
    exact ⟨rfl, HB3.out⟩
/-! ### Shift -/
def wrapI (n : Int) : Int := wrap64 n
def shiftP (k d : Int) (p : Int × Int) : Int × Int := if p.1 = k then (p.1, wrapI (p.2 + d)) else p
def shiftPs (k d : Int) (ps : List (Int × Int)) : List (Int × Int) := ps.map (shiftP k d)
theorem wrapI_in (n : Int) : I64 (wrapI n) := by
  unfold wrapI I64 wrap64
  omega
theorem wrapI_id {n : Int} (h : I64 n) : wrapI n = n := by
  unfold wrapI wrap64
  unfold I64 at h
  omega
theorem shiftPs_len (k d : Int) (ps : List (Int × Int)) : (shiftPs k d ps).length = ps.length := by simp [shiftPs]
theorem shiftPs_in {k d : Int} {ps : List (Int × Int)} (h : ∀ p ∈ ps, I64 p.2) : ∀ p ∈ shiftPs k d ps, I64 p.2 := by
  intro p hp
  obtain ⟨q, hq, rfl⟩ := List.mem_map.1 hp
  unfold shiftP
  split
  · exact wrapI_in _
  · exact h q hq
theorem shiftPs_zero {k : Int} {ps : List (Int × Int)} (h : ∀ p ∈ ps, I64 p.2) : shiftPs k 0 ps = ps := by
  unfold shiftPs
  conv => rhs; rw [← List.map_id ps]
  apply List.map_congr_left
  intro p hp
  unfold shiftP
  split
  · rw [Int.add_zero, wrapI_id (h p hp)]; rfl
  · rfl
/-- the list under way: what is ahead of place j is moved -/
def halfPs (k d : Int) (ps : List (Int × Int)) (j : Nat) : List (Int × Int) := (ps.take j).map (shiftP k d) ++ ps.drop j
theorem halfPs_len (k d : Int) (ps : List (Int × Int)) (j : Nat) : (halfPs k d ps j).length = ps.length := by
  unfold halfPs
  rw [List.length_append, List.length_map, List.length_take, List.length_drop]
  omega
theorem halfPs_get {k d : Int} {ps : List (Int × Int)} {j : Nat} (h : j < ps.length) : (halfPs k d ps j)[j]? = some ps[j] := by
  unfold halfPs
  rw [List.getElem?_append_right (by rw [List.length_map, List.length_take]; omega), List.length_map, List.length_take, Nat.min_eq_left (by omega), Nat.sub_self, List.getElem?_drop, Nat.add_zero, List.getElem?_eq_getElem h]
theorem halfPs_succ {k d : Int} {ps : List (Int × Int)} {j : Nat} (h : j < ps.length) : halfPs k d ps (j + 1) = (halfPs k d ps j).set j (shiftP k d ps[j]) := by
  unfold halfPs
  rw [List.take_succ_eq_append_getElem h, List.set_append_right _ _ (by rw [List.length_map, List.length_take]; omega), List.length_map, List.length_take, Nat.min_eq_left (by omega), Nat.sub_self, List.drop_eq_getElem_cons h, List.map_append]
  simp only [List.map_cons, List.map_nil, List.set_cons_zero, List.append_assoc, List.cons_append, List.nil_append]
theorem halfPs_all {k d : Int} {ps : List (Int × Int)} {j : Nat} (h : j = ps.length) : halfPs k d ps j = shiftPs k d ps := by
  unfold halfPs shiftPs
  rw [List.take_of_length_le (by omega), List.drop_of_length_le (by omega), List.append_nil]
theorem set_same {l : List (Int × Int)} {j : Nat} {x : Int × Int} (h : l[j]? = some x) : l.set j x = l := by
  obtain ⟨hj, rfl⟩ := List.getElem?_eq_some_iff.1 h
  exact List.set_getElem_self hj
/-- one place's number is stored -/
theorem own_set1 {w : World} {base g cap : Nat} {l : List (Int × Int)} {n : Nat} (h : OwnP w base (.slice (some ⟨g, 0, none⟩) n cap) l) (j : Nat) {x : Int × Int} (hj : l[j]? = some x) (a : Int) :
    OwnP (w.setCell ⟨g, j * 2 + 1, none⟩ (.int .i64 a)) base (.slice (some ⟨g, 0, none⟩) n cap) (l.set j (x.1, a)) := by
  have hn : n = l.length := by
    obtain ⟨A, c, hv, _⟩ := h.form
    injection hv
  subst hn
  obtain ⟨hjl, hx⟩ := List.getElem?_eq_some_iff.1 hj
  have h2 := (World.ownsRow.stored h (j * 2 + 1) (.int .i64 a)).1
  have e := flat_set2 l j (x.1, a) hjl
  have e1 : (l.flatMap places).set (j * 2) (.int .i64 x.1) = l.flatMap places := by
    have hg := flat_get (enc := places) places_len l j 0 (by omega)
    rw [hj, Nat.add_zero] at hg
    obtain ⟨h3, h4⟩ := List.getElem?_eq_some_iff.1 (hg : (l.flatMap places)[j * 2]? = some (.int .i64 x.1))
    rw [← h4]
    exact List.set_getElem_self h3
  dsimp only at e
  rw [e1] at e
  rw [e] at h2
  show World.ownsRow _ _ _ _ _ (l.set j (x.1, a)).length _
  rw [List.length_set]
  exact h2
end Go.Proofs.YtkncgpnnilcicaaDoor
