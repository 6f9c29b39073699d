/- Hierarchies turned about by the program, and the law ClimbTurns. (Printed by merge_turns.py.) -/
import Derived.Test.YtkcnnamghpdplaaCl30
import Derived.Test.YtkcnnamghpdplaaCl25
import Derived.Test.YtkcnnamghpdplaaCl11
import Derived.Deep.DeepCutAuto
import Derived.Test.YtkcnnamghpdplaaClJ
import Derived.Test.YtkcnnamghpdplaaCl33
import Derived.Test.YtkcnnamghpdplaaCl31
import Derived.Test.YtkcnnamghpdplaaCl27
import Derived.Laws.EntriesVeiled
import Derived.Test.YtkcnnamghpdplaaClRecs
import Derived.Deep.RegionHeld3
set_option linter.unusedSimpArgs false
set_option linter.unusedVariables false
namespace Go.Proofs.Ytkcnnamghpdplaa

/-- the old number of a link -/
def backT (nu nd j : Nat) : Nat := if j < nd then nu + j else j - nd
theorem lk_turn {h : HierT} {j : Nat} (hj : j < h.up.length + h.dn.length) : lkOf (turnT h) j = turnL h.up.length h.dn.length (lkOf h (backT h.up.length h.dn.length j)) := by
  unfold lkOf backT turnT
  simp only [List.getD_eq_getElem?_getD]
  by_cases hl : j < h.dn.length
  · rw [if_pos hl, List.getElem?_append_left (by rw [List.length_map]; exact hl), List.getElem?_append_right (by omega), List.getElem?_map, show h.up.length + j - h.up.length = j by omega, List.getElem?_eq_getElem hl]
    rfl
  · rw [if_neg hl, List.getElem?_append_right (by rw [List.length_map]; omega), List.getElem?_append_left (by omega), List.getElem?_map, List.length_map, List.getElem?_eq_getElem (show j - h.dn.length < h.up.length by omega)]
    rfl
theorem rk_turn {h : HierT} (so : Sound h) {j : Nat} (hj : j < h.up.length + h.dn.length) : rkOf (turnT h) j = rkOf h (backT h.up.length h.dn.length j) := by
  have lu := rankTo_len so.u (Nat.le_refl _)
  have ld := rankTo_len so.d (Nat.le_refl _)
  rw [so.u.e] at lu
  rw [so.d.e] at ld
  unfold rkOf ranksT backT
  show (rankTo h.df h.node.length ++ rankTo h.uf h.node.length).getD j 0 = _
  simp only [List.getD_eq_getElem?_getD]
  by_cases hl : j < h.dn.length
  · rw [if_pos hl, List.getElem?_append_left (by omega), List.getElem?_append_right (by omega), lu, show h.up.length + j - h.up.length = j by omega]
  · rw [if_neg hl, List.getElem?_append_right (by omega), List.getElem?_append_left (by omega), ld]
theorem upl (h : HierT) : (turnT h).up.length = h.dn.length := by show (h.dn.map _).length = _; rw [List.length_map]
theorem dnl (h : HierT) : (turnT h).dn.length = h.up.length := by show (h.up.map _).length = _; rw [List.length_map]
theorem head_turn {h : HierT} (so : Sound h) {j : Nat} (hj : j < h.up.length + h.dn.length) : headOf (turnT h) j = tailOf h (backT h.up.length h.dn.length j) := by
  unfold headOf tailOf
  rw [lk_turn hj, rk_turn so hj, upl]
  by_cases hl : j < h.dn.length
  · rw [if_pos hl, if_neg (by unfold backT; rw [if_pos hl]; omega)]
    rfl
  · rw [if_neg hl, if_pos (by unfold backT; rw [if_neg hl]; omega)]
theorem tail_turn {h : HierT} (so : Sound h) {j : Nat} (hj : j < h.up.length + h.dn.length) : tailOf (turnT h) j = headOf h (backT h.up.length h.dn.length j) := by
  unfold headOf tailOf
  rw [lk_turn hj, rk_turn so hj, upl]
  by_cases hl : j < h.dn.length
  · rw [if_pos hl, if_neg (by unfold backT; rw [if_pos hl]; omega)]
  · rw [if_neg hl, if_pos (by unfold backT; rw [if_neg hl]; omega)]
    rfl
theorem back_lt {nu nd j : Nat} (hj : j < nu + nd) : backT nu nd j < nu + nd := by unfold backT; split <;> omega
theorem plain_turn {h : HierT} (so : Sound h) {l : Lk} (hp : plainB l = true) : plainB (turnL h.up.length h.dn.length l) = true := by
  unfold plainB at hp ⊢
  have := of_decide_eq_true hp
  refine decide_eq_true ⟨?_, ?_⟩
  · show numT _ _ l.r = _
    unfold numT
    rw [if_pos this.2]
    exact this.2
  · show numT _ _ l.l = _
    unfold numT
    rw [if_pos this.1]
    exact this.1
theorem sound_link {h : HierT} (so : Sound h) {j : Nat} (hj : j < h.up.length + h.dn.length) : shapeB (turnT h) j = true ∧ weightB (turnT h) j = true := by
  have hm := so.m_le
  have hi := back_lt hj
  obtain ⟨hs, hw⟩ := so.links _ hi
  have e1 := lk_turn hj
  have e2 := rk_turn so hj
  have e3 := head_turn so hj
  have e4 := tail_turn so hj
  have ht : (turnL h.up.length h.dn.length (lkOf h (backT h.up.length h.dn.length j))).to = (lkOf h (backT h.up.length h.dn.length j)).to := rfl
  have hwt : (turnL h.up.length h.dn.length (lkOf h (backT h.up.length h.dn.length j))).w = (lkOf h (backT h.up.length h.dn.length j)).w := rfl
  unfold shapeB at hs
  rw [Bool.and_eq_true, Bool.and_eq_true, decide_eq_true_eq, Bool.not_eq_true', decide_eq_false_iff_not] at hs
  obtain ⟨⟨h1, h2⟩, h3⟩ := hs
  -- the link in front
  have hprev : ¬ (0 < j ∧ j ≠ h.dn.length ∧ rkOf (turnT h) (j - 1) = rkOf (turnT h) j ∧ (lkOf (turnT h) j).to ≤ (lkOf (turnT h) (j - 1)).to) := by
    rintro ⟨a1, a2, a3, a4⟩
    have hj1 : j - 1 < h.up.length + h.dn.length := by omega
    have eb : backT h.up.length h.dn.length (j - 1) = backT h.up.length h.dn.length j - 1 := by
      unfold backT
      by_cases hl : j < h.dn.length
      · rw [if_pos hl, if_pos (by omega)]; omega
      · rw [if_neg hl, if_neg (by omega)]; omega
    rw [rk_turn so hj1, e2, eb] at a3
    rw [e1, lk_turn hj1, eb] at a4
    refine h2 ⟨?_, ?_, a3, a4⟩
    · unfold backT; split <;> omega
    · unfold backT; split <;> omega
  by_cases hp : plainB (lkOf h (backT h.up.length h.dn.length j)) = true
  · have hp' := plain_turn so hp
    constructor
    · unfold shapeB
      rw [Bool.and_eq_true, Bool.and_eq_true, decide_eq_true_eq, Bool.not_eq_true', decide_eq_false_iff_not, upl, dnl, Bool.or_eq_true]
      exact ⟨⟨by rw [e1, e2, ht]; exact h1, hprev⟩, .inl (by rw [e1]; exact hp')⟩
    · unfold weightB at hw ⊢
      rw [if_pos hp] at hw
      rw [e1, if_pos hp', hwt]
      exact hw
  · rw [Bool.or_eq_true] at h3
    have h3 := of_decide_eq_true (h3.resolve_left hp)
    generalize hL : lkOf h (backT h.up.length h.dn.length j) = x at *
    obtain ⟨c1, c2, c3, c4, c5, c6⟩ := h3
    have el : numT h.up.length h.dn.length x.r = h.dn.length + x.r := by unfold numT; rw [if_neg (by omega), if_pos c3]
    have er : numT h.up.length h.dn.length x.l = x.l - h.up.length := by unfold numT; rw [if_neg (by omega), if_neg (by omega)]
    have bl : backT h.up.length h.dn.length (h.dn.length + x.r) = x.r := by unfold backT; rw [if_neg (by omega)]; omega
    have br : backT h.up.length h.dn.length (x.l - h.up.length) = x.l := by unfold backT; rw [if_pos (by omega)]; omega
    have jl : h.dn.length + x.r < h.up.length + h.dn.length := by omega
    have jr : x.l - h.up.length < h.up.length + h.dn.length := by omega
    have xl : (turnL h.up.length h.dn.length x).l = h.dn.length + x.r := el
    have xr : (turnL h.up.length h.dn.length x).r = x.l - h.up.length := er
    have hp' : plainB (turnL h.up.length h.dn.length x) ≠ true := fun e => by
      unfold plainB at e
      have := (of_decide_eq_true e).1
      omega
    constructor
    · unfold shapeB
      rw [Bool.and_eq_true, Bool.and_eq_true, decide_eq_true_eq, Bool.not_eq_true', decide_eq_false_iff_not, upl, dnl, Bool.or_eq_true]
      refine ⟨⟨by rw [e1, e2]; exact h1, hprev⟩, .inr (decide_eq_true ?_)⟩
      rw [e1, xl, xr, tail_turn so jl, head_turn so jr, rk_turn so jl, rk_turn so jr, bl, br, e3, e4]
      exact ⟨by omega, by omega, by omega, c5, c4, c6.symm⟩
    · unfold weightB at hw ⊢
      rw [hL, if_neg hp] at hw
      rw [e1, if_neg hp', xl, xr, lk_turn jl, lk_turn jr, bl, br]
      have hw := of_decide_eq_true hw
      exact decide_eq_true ⟨hw.1, hw.2.2.1, hw.2.1, by show (lkOf h x.r).w + (lkOf h x.l).w = x.w; have := hw.2.2.2; omega⟩
theorem chk_turn {h : HierT} (hc : chkB h = none) : chkB (turnT h) = none := by
  have so := Sound.of_none hc
  have hl : linksB (turnT h) = none := by
    unfold linksB
    rw [upl, dnl, find_none]
    intro j hj
    obtain ⟨h1, h2⟩ := sound_link so (j := j) (by omega)
    unfold linkB
    rw [if_pos h1, if_pos h2]
    rfl
  unfold chkB at hc ⊢
  rw [upl, dnl]
  show (if 65536 < h.node.length ∨ 1048576 < h.dn.length + h.up.length then _ else if h.df.length ≠ h.node.length + 1 ∨ h.uf.length ≠ h.node.length + 1 then _ else match firstsB h.df h.node.length h.dn.length with | some b => some b | none => match firstsB h.uf h.node.length h.up.length with | some b => some b | none => match orderB h.node h.node.length with | some b => some b | none => linksB (turnT h)) = none
  split at hc
  · cases hc
  · rename_i c1
    rw [if_neg (by omega)]
    split at hc
    · cases hc
    · rename_i c2
      rw [if_neg (by omega)]
      split at hc
      · cases hc
      · rename_i c3
        split at hc
        · cases hc
        · rename_i c4
          split at hc
          · cases hc
          · rename_i c5
            rw [c4, c3, c5]
            exact hl
theorem InH.turn {h : HierT} (so : Sound h) (hin : InH h) : InH (turnT h) := by
  have hm := so.m_le
  refine ⟨hin.i0, hin.i3, fun l hl => ?_, hin.i1, fun l hl => ?_⟩
  · obtain ⟨l', hl', rfl⟩ := List.mem_map.1 hl
    exact (hin.i4 l' hl').turn (by omega) (by omega)
  · obtain ⟨l', hl', rfl⟩ := List.mem_map.1 hl
    exact (hin.i2 l' hl').turn (by omega) (by omega)
theorem bug_turn {h : HierT} (hc : chkB h = none) (s : Int) : upBug (turnT h) s = upBug h s := by
  unfold upBug
  rw [hc, chk_turn hc]
  rfl

open Go.RowKit

set_option maxRecDepth 100000 in
theorem Clone_any (A : Option Addr) (n cap : Nat) (l : List Nat) (W : World) (hp : Rd32 W A n l) (hn : n * 4 ≤ 140737488351232) :
    Calls Try.prog 32 #[.slice A n cap] W (Made32 l W) := by
  cases A with
  | none =>
    have hl : l = [] := by
      have h1 := hp.1
      rcases Nat.eq_zero_or_pos n with h0 | h0
      · exact List.length_eq_zero_iff.1 (by omega)
      · obtain ⟨ad, hA, -⟩ := hp.2 h0
        cases hA
    subst hl
    clear hp
    have he : ∀ w : World, (binOp .eql 22 (.slice none n cap) (.slice none 0 0)).run Try.prog w = .ok (.bool true) w := fun _ => rfl
    go_enter Try.func32, Try.ntmps32
    go_wp2_with fail
    go_ret
    exact ⟨none, 0, rfl, Own.nil _ _ _ _ _, Below.refl _ _⟩
  | some ad =>
    have HP := Lib.hid hp
    clear hp
    have hb1 : Below W.heap.size W (W.alloc (.cells #[] 65)) := (Below.refl _ _).alloc (Nat.le_refl _) _
    have ho1 : Own32 (W.alloc (.cells #[] 65)) W.heap.size (.slice (some ⟨W.heap.size, 0, none⟩) 0 0) [] := own_new (enc := enc32) enc32_len W 65 [] (by simp)
    have HO := Lib.hid ho1
    have HB := Lib.hid hb1
    clear ho1 hb1
    have he : ∀ w : World, (binOp .eql 22 (.slice (some ad) n cap) (.slice none 0 0)).run Try.prog w = .ok (.bool false) w := fun _ => rfl
    go_enter Try.func32, Try.ntmps32
    go_wp2_with (at_builtin; go_loud (refine wpList_append_rd rfl (.tmp 5) (.tmp 6) 22 rfl 65 (.int .u32 0) 4 Try.underlying22 info_u32 rfl (by omega) (by omega) enc32_len enc32_one W.heap.size _ ([] : List Nat) rfl HO.out _ n cap l rfl (HP.out.below HB.out) (by simp; omega) (by simp) ?_; intro v2 w2 ho2 hg2 hat2; have HO2 := Lib.hid ho2; have HB2 : Hid (Below W.heap.size W w2) := Lib.hid (below_own HB.out HO.out hg2 (Nat.le_refl _) (by simp)); clear ho2 hg2 hat2))
    go_ret
    obtain ⟨A2, c2, rfl, _, _⟩ := HO2.out.form
    exact ⟨A2, c2, rfl, HO2.out, HB2.out⟩
/-- hier.Turn's literal 'child' -/
theorem child_any (p q : Nat) (nu nd i : Nat) (W : World) (hu : nu ≤ 1048576) (hd : nd ≤ 1048576) (hi : In32 i) (hp : W.cell? ⟨p, 0, none⟩ = some (.int .u32 nu)) (hq : W.cell? ⟨q, 0, none⟩ = some (.int .u32 nd)) :
    Calls Try.prog 30 #[.int .u32 i, .pointer (some ⟨p, 0, none⟩), .pointer (some ⟨q, 0, none⟩)] W fun e w' => e = .returned (.int .u32 (numT nu nd i : Nat)) ∧ w' = W := by
  unfold In32 at hi
  generalize hr : numT nu nd i = res
  have HR := Lib.hid hr
  unfold numT at HR
  clear hr
  by_cases h0 : i = 4294967295
  · have e : Hid ((res : Int) = 4294967295) := Lib.hid (by have := HR.out; rw [if_pos h0] at this; omega)
    subst h0
    go_enter Try.func30, Try.ntmps30
    go_wp2_with fail
    go_ret
    exact ⟨by rw [e.out]; rfl, rfl⟩
  · have g0 : ((i : Int) == 4294967295) = false := by rw [beq_eq_false_iff_ne]; omega
    have g0' : (i : Int) ≠ 4294967295 := by omega
    by_cases h1 : i < nu
    · have e : Hid ((res : Int) = (i : Int) + (nd : Int)) := Lib.hid (by have := HR.out; rw [if_neg h0, if_pos h1] at this; omega)
      have g1 : decide ((i : Int) < (nu : Int)) = true := decide_eq_true (by omega)
      have g1n : decide (i < nu) = true := decide_eq_true h1
      have w2 : IntKind.u32.wrap ((i : Int) + (nd : Int)) = (i : Int) + (nd : Int) := by rw [IntKind.wrap_u32]; omega
      go_enter Try.func30, Try.ntmps30
      go_wp2_with fail
      go_ret
      exact ⟨by rw [e.out]; rfl, rfl⟩
    · have e : Hid ((res : Int) = (i : Int) - (nu : Int)) := Lib.hid (by have := HR.out; rw [if_neg h0, if_neg h1] at this; omega)
      have g1 : decide ((i : Int) < (nu : Int)) = false := decide_eq_false (by omega)
      have g1n : decide (i < nu) = false := decide_eq_false h1
      have w2 : IntKind.u32.wrap ((i : Int) - (nu : Int)) = (i : Int) - (nu : Int) := by rw [IntKind.wrap_u32]; omega
      go_enter Try.func30, Try.ntmps30
      go_wp2_with fail
      go_ret
      exact ⟨by rw [e.out]; rfl, rfl⟩

open Go.RowKit

/-- a value that an operation brings: the operation, its slot, what holds of the value -/
structure ValQ where
  op : Nat
  slot : Nat
  ok : Value → World → Prop
structure RG (tab : List ValQ) (free : List Nat) (T0 : Array Value) (J : (Nat → Bool) → World → Prop) (L : Nat → Bool) (a : Act) (w : World) : Prop where
  size : a.tmps.size = T0.size
  dfr : a.defers = []
  same : ∀ k, k ∉ free → a.tmps.getD k undef = T0.getD k undef
  vals : ∀ p ∈ tab, L p.op = true → p.ok (a.tmps.getD p.slot undef) w
  world : J L w
section
variable {tab : List ValQ} {free : List Nat} {T0 : Array Value} {J : (Nat → Bool) → World → Prop} {L : Nat → Bool} {a : Act} {w : World}
theorem RG.start {a : Act} {w : World} (hd : a.defers = []) (hJ : J (fun _ => false) w) : RG tab free a.tmps J (fun _ => false) a w :=
  ⟨rfl, hd, fun _ _ => rfl, fun _ _ h => (by cases h), hJ⟩
theorem RG.val (h : RG tab free T0 J L a w) {w' : World} (j d : Nat) (v : Value) (hJ : J (upd L j) w') (hmono : ∀ p ∈ tab, ∀ u, p.ok u w → p.ok u w') (hd : d < T0.size) (hfree : d ∈ free)
    (hch : (tab.all fun p => (p.op == j && p.slot == d) || (!(p.op == j) && !(p.slot == d))) = true) (hv : ∀ p ∈ tab, p.op = j → p.ok v w') : RG tab free T0 J (upd L j) (a.put (some d) v) w' := by
  have hd' : d < a.tmps.size := by rw [h.size]; exact hd
  refine ⟨by rw [← h.size]; simp [Act.put], h.dfr, fun k hk => ?_, fun p hp hl => ?_, hJ⟩
  · rw [getD_put v hd', if_neg (fun e : k = d => hk (by rw [e]; exact hfree))]
    exact h.same k hk
  · have hc := List.all_eq_true.1 hch p hp
    by_cases e : p.op = j
    · have es : p.slot = d := by simpa [e] using hc
      rw [getD_put v hd', if_pos es]
      exact hv p hp e
    · have es : p.slot ≠ d := by simpa [e] using hc
      rw [getD_put v hd', if_neg es]
      exact hmono p hp _ (h.vals p hp (by rwa [upd_other L e] at hl))
theorem RG.eff (h : RG tab free T0 J L a w) {w' : World} (j : Nat) (hJ : J (upd L j) w') (hmono : ∀ p ∈ tab, ∀ u, p.ok u w → p.ok u w') (hch : (tab.all fun p => !(p.op == j)) = true) : RG tab free T0 J (upd L j) a w' := by
  refine ⟨h.size, h.dfr, h.same, fun p hp hl => ?_, hJ⟩
  have hc := List.all_eq_true.1 hch p hp
  have e : p.op ≠ j := by simpa using hc
  exact hmono p hp _ (h.vals p hp (by rwa [upd_other L e] at hl))
end

open Go.RowKit

structure TurnJ (wa : World) (X x0 : Nat) (x1 : Int) (x2 x3 y2 y3 : Nat) (L : Nat → Bool) (w : World) : Prop where
  k : Kept (fun k => k = X) wa w
  j9 : L 9 = true → L 6 = true
  j11 : L 11 = true → L 2 = true
  c : Cells w X #[.int .u32 (x0 : Int), .int .u64 x1, .int .u32 (if L 9 = true then y3 else x2 : Nat), .int .u32 (if L 11 = true then y2 else x3 : Nat)] 68
theorem up_le (L : Nat → Bool) (j k : Nat) (h : L k = true) : upd L j k = true := by
  unfold upd
  split
  · rfl
  · exact h
theorem cell_kept {w w' : World} {X g j : Nat} {v : Value} (hk : Kept (fun k => k = X) w w') (hg : g < w.heap.size) (hn : ¬ g = X) (h : w.cell? ⟨g, j, none⟩ = some v) : w'.cell? ⟨g, j, none⟩ = some v := by
  rw [World.cell?_of_block (hk.block g hg hn)]
  exact h
set_option maxRecDepth 100000 in
set_option maxHeartbeats 4000000 in
theorem turnedP_any (g p q nu nd : Nat) (A : Option Addr) (n cap : Nat) (l : List Lk) (W : World) (hu : nu ≤ 1048576) (hd : nd ≤ 1048576) (hg : W.cell? ⟨g, 0, none⟩ = some (.func (.func 30) #[] #[.pointer (some ⟨p, 0, none⟩), .pointer (some ⟨q, 0, none⟩)]))
    (hpc : W.cell? ⟨p, 0, none⟩ = some (.int .u32 nu)) (hqc : W.cell? ⟨q, 0, none⟩ = some (.int .u32 nd)) (hgl : g < W.heap.size) (hpl : p < W.heap.size) (hql : q < W.heap.size) (hp : RdK W A n l) (hin : ∀ x ∈ l, InK x) (hn : n * 24 ≤ 140737488351232) :
    Calls Try.prog 31 #[.slice A n cap, .pointer (some ⟨g, 0, none⟩)] W (MadeK (l.map (turnL nu nd)) W) := by
  have HNUM : Hid (∀ (w : World) (i : Nat), In32 i → w.cell? ⟨p, 0, none⟩ = some (.int .u32 nu) → w.cell? ⟨q, 0, none⟩ = some (.int .u32 nd) → Calls Try.prog 30 #[.int .u32 i, .pointer (some ⟨p, 0, none⟩), .pointer (some ⟨q, 0, none⟩)] w fun e w' => e = .returned (.int .u32 (numT nu nd i : Nat)) ∧ w' = w) := Lib.hid fun w i hi h1 h2 => child_any p q nu nd i w hu hd hi h1 h2
  have HP := Lib.hid hp
  have HIN := Lib.hid hin
  have HG := Lib.hid hg
  have HPC := Lib.hid hpc
  have HQC := Lib.hid hqc
  clear hp hin hg hpc hqc hu hd
  go_enter Try.func31, Try.ntmps31
  go_wp2_with fail
  go_loopw [4, 9] (fun sv iv wr => ∃ j : Nat, j ≤ n ∧ iv = .int .i64 j ∧ OwnK wr W.heap.size sv ((l.take j).map (turnL nu nd)) ∧ Below W.heap.size W wr) (fun _ iv _ => n - (intOf iv).toNat)
  case atStart => exact ⟨0, by omega, rfl, Own.nil _ _ _ _ _, Below.refl _ _⟩
  case round =>
    obtain ⟨j, hj, rfl, ho, hb⟩ := hrel
    have HB := Lib.hid hb
    have HO := Lib.hid ho
    clear ho hb
    by_cases hlt : j < n
    · have g0 : decide ((j : Int) < (n : Int)) = true := decide_eq_true (by omega)
      obtain ⟨ad, hA, cc⟩ := (HP.out.below HB.out).at_ hlt
      subst hA
      have hjq : j < l.length := by have := HP.out.1; omega
      obtain ⟨c0, c1, c2, c3⟩ := four_cells cc
      clear cc
      have htk := List.take_succ_eq_append_getElem hjq
      have hx := HIN.out l[j] (List.getElem_mem _)
      generalize l[j] = x at *
      obtain ⟨x0, x1, x2, x3⟩ := x
      have hx2 : In32 x2 := hx.l_
      have hx3 : In32 x3 := hx.r
      dsimp only at c0 c1 c2 c3
      have hTK : (l.take (j + 1)).map (turnL nu nd) = (l.take j).map (turnL nu nd) ++ [⟨x0, x1, numT nu nd x3, numT nu nd x2⟩] := by rw [htk, List.map_append]; rfl
      have HTK := Lib.hid hTK
      have HLEN : Hid (((l.take j).map (turnL nu nd)).length = j) := Lib.hid (by rw [List.length_map, List.length_take]; omega)
      have HN3 : Hid (∀ w : World, w.cell? ⟨p, 0, none⟩ = some (.int .u32 nu) → w.cell? ⟨q, 0, none⟩ = some (.int .u32 nd) → Calls Try.prog 30 #[.int .u32 x3, .pointer (some ⟨p, 0, none⟩), .pointer (some ⟨q, 0, none⟩)] w fun e w' => e = .returned (.int .u32 (numT nu nd x3 : Nat)) ∧ w' = w) := Lib.hid fun w => HNUM.out w x3 hx3
      have HN2 : Hid (∀ w : World, w.cell? ⟨p, 0, none⟩ = some (.int .u32 nu) → w.cell? ⟨q, 0, none⟩ = some (.int .u32 nd) → Calls Try.prog 30 #[.int .u32 x2, .pointer (some ⟨p, 0, none⟩), .pointer (some ⟨q, 0, none⟩)] w fun e w' => e = .returned (.int .u32 (numT nu nd x2 : Nat)) ∧ w' = w) := Lib.hid fun w => HNUM.out w x2 hx2
      generalize numT nu nd x3 = y3 at *
      generalize numT nu nd x2 = y2 at *
      generalize hLL : (l.take j).map (turnL nu nd) = LL at *
      clear htk hjq hx hx2 hx3 hTK hLL
      go_upto_region 5 with fail
      have hca := cells_new wr #[.int .u32 (x0 : Int), .int .u64 x1, .int .u32 (x2 : Int), .int .u32 (x3 : Int)] 68
      have hba := (Below.refl wr.heap.size wr).alloc (Nat.le_refl _) (.cells #[.int .u32 (x0 : Int), .int .u64 x1, .int .u32 (x2 : Int), .int .u32 (x3 : Int)] 68)
      have hws : W.heap.size ≤ wr.heap.size := HB.out.size
      have hne : ¬ g = wr.heap.size := by omega
      have hne2 : ¬ p = wr.heap.size := by omega
      have hne3 : ¬ q = wr.heap.size := by omega
      have hne4 : ¬ wr.heap.size = g := by omega
      have hne5 : ¬ wr.heap.size = p := by omega
      have hne6 : ¬ wr.heap.size = q := by omega
      have hfin := (hca.set_ 2 (.int .u32 (y3 : Int))).set_ 3 (.int .u32 (y2 : Int))
      have hfin2 := (hca.set_ 3 (.int .u32 (y2 : Int))).set_ 2 (.int .u32 (y3 : Int))
      simp only [List.setIfInBounds_toArray, List.set_cons_zero, List.set_cons_succ] at hfin hfin2
      generalize wr.alloc (.cells #[.int .u32 (x0 : Int), .int .u64 x1, .int .u32 (x2 : Int), .int .u32 (x3 : Int)] 68) = wa at *
      generalize hX : wr.heap.size = X at *
      have HX := Lib.hid hX
      have hxa : Below W.heap.size W wa := HB.out.trans (hba.mono hws)
      have e0 : wa.cell? ⟨X, 0, none⟩ = some (.int .u32 (x0 : Int)) := hca.cell 0
      have e1 : wa.cell? ⟨X, 1, none⟩ = some (.int .u64 x1) := hca.cell 1
      have e2 : wa.cell? ⟨X, 2, none⟩ = some (.int .u32 (x2 : Int)) := hca.cell 2
      have e3 : wa.cell? ⟨X, 3, none⟩ = some (.int .u32 (x3 : Int)) := hca.cell 3
      have f2 := hca.frozen 2
      have f3 := hca.frozen 3
      have d0 : wa.cell? ⟨g, 0, none⟩ = some (.func (.func 30) #[] #[.pointer (some ⟨p, 0, none⟩), .pointer (some ⟨q, 0, none⟩)]) := cell_below hxa HG.out
      have d1 : wa.cell? ⟨p, 0, none⟩ = some (.int .u32 nu) := cell_below hxa HPC.out
      have d2 : wa.cell? ⟨q, 0, none⟩ = some (.int .u32 nd) := cell_below hxa HQC.out
      have HXA := Lib.hid hxa
      have HD0 := Lib.hid d0
      have HD1 := Lib.hid d1
      have HD2 := Lib.hid d2
      have HWG : Hid (g < wa.heap.size) := Lib.hid (by have := hxa.size; omega)
      have HWP : Hid (p < wa.heap.size) := Lib.hid (by have := hxa.size; omega)
      have HWQ : Hid (q < wa.heap.size) := Lib.hid (by have := hxa.size; omega)
      have HBA := Lib.hid hba
      have HCA := Lib.hid hca
      have HF1 := Lib.hid hfin
      have HF2 := Lib.hid hfin2
      clear hca hba hxa hX hfin hfin2 c0 c1 c2 c3
      clear e0 e1 e2 e3
      go_cut [] from 13 to 22 (fun wx => Kept (fun k => k = X) wa wx ∧ Cells wx X #[.int .u32 (x0 : Int), .int .u64 x1, .int .u32 (y3 : Nat), .int .u32 (y2 : Nat)] 68)
      case first =>
        refine wp_act_named ?_
        intro T0 hT0
        have hsz : T0.size = 29 := by rw [hT0]; rfl
        have b1 : T0.getD 1 undef = .pointer (some ⟨g, 0, none⟩) := by rw [hT0]; rfl
        have b6 : T0.getD 6 undef = .pointer (some ⟨X, 0, none⟩) := by rw [hT0]; rfl
        refine wp_region_inv (I := RG [⟨0, 13, fun u _ => u = (.func (.func 30) #[] #[.pointer (some ⟨p, 0, none⟩), .pointer (some ⟨q, 0, none⟩)])⟩, ⟨1, 14, fun u _ => u = (.pointer (some ⟨X, 3, none⟩))⟩, ⟨2, 15, fun u _ => u = (.int .u32 (x3 : Nat))⟩, ⟨3, 16, fun u _ => u = (.int .u32 (y3 : Nat))⟩, ⟨4, 17, fun u _ => u = (.func (.func 30) #[] #[.pointer (some ⟨p, 0, none⟩), .pointer (some ⟨q, 0, none⟩)])⟩, ⟨5, 18, fun u _ => u = (.pointer (some ⟨X, 2, none⟩))⟩, ⟨6, 19, fun u _ => u = (.int .u32 (x2 : Nat))⟩, ⟨7, 20, fun u _ => u = (.int .u32 (y2 : Nat))⟩, ⟨8, 21, fun u _ => u = (.pointer (some ⟨X, 2, none⟩))⟩, ⟨10, 22, fun u _ => u = (.pointer (some ⟨X, 3, none⟩))⟩] [13, 14, 15, 16, 17, 18, 19, 20, 21, 22] T0 (TurnJ wa X x0 x1 x2 x3 y2 y3)) (by kernel_rfl) (by kernel_rfl) (RG.start (a := { tmps := T0, defers := [] }) rfl (by exact ⟨Kept.of_below (Below.drew (Below.refl _ _)), fun h => (by cases h), fun h => (by cases h), HCA.out.below (Below.drew (Below.refl _ _))⟩)) ?step ?fin
        case step =>
          clear hT0
          intro i' o L a w ho hI hL hd
          have hlt' : i' < 12 := (Array.getElem?_eq_some_iff.1 ho).1
          have t1 : a.tmps.getD 1 undef = .pointer (some ⟨g, 0, none⟩) := (hI.same 1 (by decide)).trans b1
          have t6 : a.tmps.getD 6 undef = .pointer (some ⟨X, 0, none⟩) := (hI.same 6 (by decide)).trans b6
          obtain ⟨hk, hj9, hj11, hcx⟩ := hI.world
          have d0 : w.cell? ⟨g, 0, none⟩ = some (.func (.func 30) #[] #[.pointer (some ⟨p, 0, none⟩), .pointer (some ⟨q, 0, none⟩)]) := cell_kept hk HWG.out hne (by exact HD0.out)
          have d1 : w.cell? ⟨p, 0, none⟩ = some (.int .u32 nu) := cell_kept hk HWP.out hne2 HD1.out
          have d2 : w.cell? ⟨q, 0, none⟩ = some (.int .u32 nd) := cell_kept hk HWQ.out hne3 HD2.out
          clear b1 b6
          rcases (show i' = 0 ∨ i' = 1 ∨ i' = 2 ∨ i' = 3 ∨ i' = 4 ∨ i' = 5 ∨ i' = 6 ∨ i' = 7 ∨ i' = 8 ∨ i' = 9 ∨ i' = 10 ∨ i' = 11 by omega) with rfl | rfl | rfl | rfl | rfl | rfl | rfl | rfl | rfl | rfl | rfl | rfl <;> (obtain rfl := Option.some.inj ho) <;> clear ho
          · have hJ : (TurnJ wa X x0 x1 x2 x3 y2 y3) (upd L 0) w := ⟨hk, fun h => up_le L 0 _ (hj9 (by rwa [upd_other L (Nat.ne_of_beq_eq_false rfl)] at h)), fun h => up_le L 0 _ (hj11 (by rwa [upd_other L (Nat.ne_of_beq_eq_false rfl)] at h)), by rw [upd_other L (k := 9) (Nat.ne_of_beq_eq_false rfl), upd_other L (k := 11) (Nat.ne_of_beq_eq_false rfl)]; exact hcx⟩
            clear hd
            refine ⟨rfl, ?_⟩
            unfold Oper.wp
            go_simp
            exact hI.val 0 13 _ hJ (fun p hp u => by simp only [List.mem_cons, List.not_mem_nil, or_false] at hp; rcases hp with rfl | rfl | rfl | rfl | rfl | rfl | rfl | rfl | rfl | rfl <;> exact id) (by rw [hsz]; decide) (by decide) (by kernel_rfl) (fun p hp hj => by simp only [List.mem_cons, List.not_mem_nil, or_false] at hp; rcases hp with rfl | rfl | rfl | rfl | rfl | rfl | rfl | rfl | rfl | rfl <;> first | rfl | exact absurd hj (Nat.ne_of_beq_eq_false rfl))
          · have hJ : (TurnJ wa X x0 x1 x2 x3 y2 y3) (upd L 1) w := ⟨hk, fun h => up_le L 1 _ (hj9 (by rwa [upd_other L (Nat.ne_of_beq_eq_false rfl)] at h)), fun h => up_le L 1 _ (hj11 (by rwa [upd_other L (Nat.ne_of_beq_eq_false rfl)] at h)), by rw [upd_other L (k := 9) (Nat.ne_of_beq_eq_false rfl), upd_other L (k := 11) (Nat.ne_of_beq_eq_false rfl)]; exact hcx⟩
            clear hd
            refine ⟨rfl, ?_⟩
            unfold Oper.wp
            go_simp
            exact hI.val 1 14 _ hJ (fun p hp u => by simp only [List.mem_cons, List.not_mem_nil, or_false] at hp; rcases hp with rfl | rfl | rfl | rfl | rfl | rfl | rfl | rfl | rfl | rfl <;> exact id) (by rw [hsz]; decide) (by decide) (by kernel_rfl) (fun p hp hj => by simp only [List.mem_cons, List.not_mem_nil, or_false] at hp; rcases hp with rfl | rfl | rfl | rfl | rfl | rfl | rfl | rfl | rfl | rfl <;> first | rfl | exact absurd hj (Nat.ne_of_beq_eq_false rfl))
          · have s14 := hI.vals ⟨1, 14, fun u _ => u = (.pointer (some ⟨X, 3, none⟩))⟩ (by simp) (dep_of hd 1 (by kernel_rfl))
            dsimp only at s14
            have hJ : (TurnJ wa X x0 x1 x2 x3 y2 y3) (upd L 2) w := ⟨hk, fun h => up_le L 2 _ (hj9 (by rwa [upd_other L (Nat.ne_of_beq_eq_false rfl)] at h)), fun h => up_le L 2 _ (hj11 (by rwa [upd_other L (Nat.ne_of_beq_eq_false rfl)] at h)), by rw [upd_other L (k := 9) (Nat.ne_of_beq_eq_false rfl), upd_other L (k := 11) (Nat.ne_of_beq_eq_false rfl)]; exact hcx⟩
            have h11 : L 11 = false := by
              cases hh : L 11 with
              | false => rfl
              | true => exact absurd (hj11 hh) (by rw [hL]; exact Bool.false_ne_true)
            have l3 : w.cell? ⟨X, 3, none⟩ = some (.int .u32 (if L 11 = true then y2 else x3 : Nat)) := hcx.cell 3
            rw [h11, if_neg Bool.false_ne_true] at l3
            clear hd
            refine ⟨rfl, ?_⟩
            unfold Oper.wp
            go_simp
            exact hI.val 2 15 _ hJ (fun p hp u => by simp only [List.mem_cons, List.not_mem_nil, or_false] at hp; rcases hp with rfl | rfl | rfl | rfl | rfl | rfl | rfl | rfl | rfl | rfl <;> exact id) (by rw [hsz]; decide) (by decide) (by kernel_rfl) (fun p hp hj => by simp only [List.mem_cons, List.not_mem_nil, or_false] at hp; rcases hp with rfl | rfl | rfl | rfl | rfl | rfl | rfl | rfl | rfl | rfl <;> first | rfl | exact absurd hj (Nat.ne_of_beq_eq_false rfl))
          · have s13 := hI.vals ⟨0, 13, fun u _ => u = (.func (.func 30) #[] #[.pointer (some ⟨p, 0, none⟩), .pointer (some ⟨q, 0, none⟩)])⟩ (by simp) (dep_of hd 0 (by kernel_rfl))
            dsimp only at s13
            have s15 := hI.vals ⟨2, 15, fun u _ => u = (.int .u32 (x3 : Nat))⟩ (by simp) (dep_of hd 2 (by kernel_rfl))
            dsimp only at s15
            have hJ : (TurnJ wa X x0 x1 x2 x3 y2 y3) (upd L 3) w := ⟨hk, fun h => up_le L 3 _ (hj9 (by rwa [upd_other L (Nat.ne_of_beq_eq_false rfl)] at h)), fun h => up_le L 3 _ (hj11 (by rwa [upd_other L (Nat.ne_of_beq_eq_false rfl)] at h)), by rw [upd_other L (k := 9) (Nat.ne_of_beq_eq_false rfl), upd_other L (k := 11) (Nat.ne_of_beq_eq_false rfl)]; exact hcx⟩
            clear hd
            refine ⟨rfl, ?_⟩
            unfold Oper.wp
            go_simp
            refine (HN3.out w d1 d2).mono ?_
            rintro e w' ⟨rfl, rfl⟩
            exact hI.val 3 16 _ hJ (fun p hp u => by simp only [List.mem_cons, List.not_mem_nil, or_false] at hp; rcases hp with rfl | rfl | rfl | rfl | rfl | rfl | rfl | rfl | rfl | rfl <;> exact id) (by rw [hsz]; decide) (by decide) (by kernel_rfl) (fun p hp hj => by simp only [List.mem_cons, List.not_mem_nil, or_false] at hp; rcases hp with rfl | rfl | rfl | rfl | rfl | rfl | rfl | rfl | rfl | rfl <;> first | rfl | exact absurd hj (Nat.ne_of_beq_eq_false rfl))
          · have hJ : (TurnJ wa X x0 x1 x2 x3 y2 y3) (upd L 4) w := ⟨hk, fun h => up_le L 4 _ (hj9 (by rwa [upd_other L (Nat.ne_of_beq_eq_false rfl)] at h)), fun h => up_le L 4 _ (hj11 (by rwa [upd_other L (Nat.ne_of_beq_eq_false rfl)] at h)), by rw [upd_other L (k := 9) (Nat.ne_of_beq_eq_false rfl), upd_other L (k := 11) (Nat.ne_of_beq_eq_false rfl)]; exact hcx⟩
            clear hd
            refine ⟨rfl, ?_⟩
            unfold Oper.wp
            go_simp
            exact hI.val 4 17 _ hJ (fun p hp u => by simp only [List.mem_cons, List.not_mem_nil, or_false] at hp; rcases hp with rfl | rfl | rfl | rfl | rfl | rfl | rfl | rfl | rfl | rfl <;> exact id) (by rw [hsz]; decide) (by decide) (by kernel_rfl) (fun p hp hj => by simp only [List.mem_cons, List.not_mem_nil, or_false] at hp; rcases hp with rfl | rfl | rfl | rfl | rfl | rfl | rfl | rfl | rfl | rfl <;> first | rfl | exact absurd hj (Nat.ne_of_beq_eq_false rfl))
          · have hJ : (TurnJ wa X x0 x1 x2 x3 y2 y3) (upd L 5) w := ⟨hk, fun h => up_le L 5 _ (hj9 (by rwa [upd_other L (Nat.ne_of_beq_eq_false rfl)] at h)), fun h => up_le L 5 _ (hj11 (by rwa [upd_other L (Nat.ne_of_beq_eq_false rfl)] at h)), by rw [upd_other L (k := 9) (Nat.ne_of_beq_eq_false rfl), upd_other L (k := 11) (Nat.ne_of_beq_eq_false rfl)]; exact hcx⟩
            clear hd
            refine ⟨rfl, ?_⟩
            unfold Oper.wp
            go_simp
            exact hI.val 5 18 _ hJ (fun p hp u => by simp only [List.mem_cons, List.not_mem_nil, or_false] at hp; rcases hp with rfl | rfl | rfl | rfl | rfl | rfl | rfl | rfl | rfl | rfl <;> exact id) (by rw [hsz]; decide) (by decide) (by kernel_rfl) (fun p hp hj => by simp only [List.mem_cons, List.not_mem_nil, or_false] at hp; rcases hp with rfl | rfl | rfl | rfl | rfl | rfl | rfl | rfl | rfl | rfl <;> first | rfl | exact absurd hj (Nat.ne_of_beq_eq_false rfl))
          · have s18 := hI.vals ⟨5, 18, fun u _ => u = (.pointer (some ⟨X, 2, none⟩))⟩ (by simp) (dep_of hd 5 (by kernel_rfl))
            dsimp only at s18
            have hJ : (TurnJ wa X x0 x1 x2 x3 y2 y3) (upd L 6) w := ⟨hk, fun h => up_le L 6 _ (hj9 (by rwa [upd_other L (Nat.ne_of_beq_eq_false rfl)] at h)), fun h => up_le L 6 _ (hj11 (by rwa [upd_other L (Nat.ne_of_beq_eq_false rfl)] at h)), by rw [upd_other L (k := 9) (Nat.ne_of_beq_eq_false rfl), upd_other L (k := 11) (Nat.ne_of_beq_eq_false rfl)]; exact hcx⟩
            have h9 : L 9 = false := by
              cases hh : L 9 with
              | false => rfl
              | true => exact absurd (hj9 hh) (by rw [hL]; exact Bool.false_ne_true)
            have l2 : w.cell? ⟨X, 2, none⟩ = some (.int .u32 (if L 9 = true then y3 else x2 : Nat)) := hcx.cell 2
            rw [h9, if_neg Bool.false_ne_true] at l2
            clear hd
            refine ⟨rfl, ?_⟩
            unfold Oper.wp
            go_simp
            exact hI.val 6 19 _ hJ (fun p hp u => by simp only [List.mem_cons, List.not_mem_nil, or_false] at hp; rcases hp with rfl | rfl | rfl | rfl | rfl | rfl | rfl | rfl | rfl | rfl <;> exact id) (by rw [hsz]; decide) (by decide) (by kernel_rfl) (fun p hp hj => by simp only [List.mem_cons, List.not_mem_nil, or_false] at hp; rcases hp with rfl | rfl | rfl | rfl | rfl | rfl | rfl | rfl | rfl | rfl <;> first | rfl | exact absurd hj (Nat.ne_of_beq_eq_false rfl))
          · have s17 := hI.vals ⟨4, 17, fun u _ => u = (.func (.func 30) #[] #[.pointer (some ⟨p, 0, none⟩), .pointer (some ⟨q, 0, none⟩)])⟩ (by simp) (dep_of hd 4 (by kernel_rfl))
            dsimp only at s17
            have s19 := hI.vals ⟨6, 19, fun u _ => u = (.int .u32 (x2 : Nat))⟩ (by simp) (dep_of hd 6 (by kernel_rfl))
            dsimp only at s19
            have hJ : (TurnJ wa X x0 x1 x2 x3 y2 y3) (upd L 7) w := ⟨hk, fun h => up_le L 7 _ (hj9 (by rwa [upd_other L (Nat.ne_of_beq_eq_false rfl)] at h)), fun h => up_le L 7 _ (hj11 (by rwa [upd_other L (Nat.ne_of_beq_eq_false rfl)] at h)), by rw [upd_other L (k := 9) (Nat.ne_of_beq_eq_false rfl), upd_other L (k := 11) (Nat.ne_of_beq_eq_false rfl)]; exact hcx⟩
            clear hd
            refine ⟨rfl, ?_⟩
            unfold Oper.wp
            go_simp
            refine (HN2.out w d1 d2).mono ?_
            rintro e w' ⟨rfl, rfl⟩
            exact hI.val 7 20 _ hJ (fun p hp u => by simp only [List.mem_cons, List.not_mem_nil, or_false] at hp; rcases hp with rfl | rfl | rfl | rfl | rfl | rfl | rfl | rfl | rfl | rfl <;> exact id) (by rw [hsz]; decide) (by decide) (by kernel_rfl) (fun p hp hj => by simp only [List.mem_cons, List.not_mem_nil, or_false] at hp; rcases hp with rfl | rfl | rfl | rfl | rfl | rfl | rfl | rfl | rfl | rfl <;> first | rfl | exact absurd hj (Nat.ne_of_beq_eq_false rfl))
          · have hJ : (TurnJ wa X x0 x1 x2 x3 y2 y3) (upd L 8) w := ⟨hk, fun h => up_le L 8 _ (hj9 (by rwa [upd_other L (Nat.ne_of_beq_eq_false rfl)] at h)), fun h => up_le L 8 _ (hj11 (by rwa [upd_other L (Nat.ne_of_beq_eq_false rfl)] at h)), by rw [upd_other L (k := 9) (Nat.ne_of_beq_eq_false rfl), upd_other L (k := 11) (Nat.ne_of_beq_eq_false rfl)]; exact hcx⟩
            clear hd
            refine ⟨rfl, ?_⟩
            unfold Oper.wp
            go_simp
            exact hI.val 8 21 _ hJ (fun p hp u => by simp only [List.mem_cons, List.not_mem_nil, or_false] at hp; rcases hp with rfl | rfl | rfl | rfl | rfl | rfl | rfl | rfl | rfl | rfl <;> exact id) (by rw [hsz]; decide) (by decide) (by kernel_rfl) (fun p hp hj => by simp only [List.mem_cons, List.not_mem_nil, or_false] at hp; rcases hp with rfl | rfl | rfl | rfl | rfl | rfl | rfl | rfl | rfl | rfl <;> first | rfl | exact absurd hj (Nat.ne_of_beq_eq_false rfl))
          · have s16 := hI.vals ⟨3, 16, fun u _ => u = (.int .u32 (y3 : Nat))⟩ (by simp) (dep_of hd 3 (by kernel_rfl))
            dsimp only at s16
            have s21 := hI.vals ⟨8, 21, fun u _ => u = (.pointer (some ⟨X, 2, none⟩))⟩ (by simp) (dep_of hd 8 (by kernel_rfl))
            dsimp only at s21
            have hdep : L 6 = true := dep_of hd 6 (by kernel_rfl)
            have hc := hcx.set_ 2 (.int .u32 (y3 : Nat))
            simp only [List.setIfInBounds_toArray, List.set_cons_zero, List.set_cons_succ] at hc
            have l := hcx.cell 2
            have f := hcx.frozen 2
            replace l : w.cell? ⟨X, 2, none⟩ = some (.int .u32 (_ : Nat)) := l
            have hJ : (TurnJ wa X x0 x1 x2 x3 y2 y3) (upd L 9) (w.setCell ⟨X, 2, none⟩ (.int .u32 (y3 : Nat))) := ⟨hk.set_ (p := ⟨X, 2, none⟩) (.inl rfl) _, fun _ => up_le L 9 _ hdep, fun h => up_le L 9 _ (hj11 (by rwa [upd_other L (Nat.ne_of_beq_eq_false rfl)] at h)), by rw [upd_same, upd_other L (k := 11) (Nat.ne_of_beq_eq_false rfl), if_pos rfl]; exact hc⟩
            clear hd hc
            refine ⟨rfl, ?_⟩
            unfold Oper.wp
            go_simp
            exact hI.eff 9 hJ (fun p hp u => by simp only [List.mem_cons, List.not_mem_nil, or_false] at hp; rcases hp with rfl | rfl | rfl | rfl | rfl | rfl | rfl | rfl | rfl | rfl <;> exact id) (by kernel_rfl)
          · have hJ : (TurnJ wa X x0 x1 x2 x3 y2 y3) (upd L 10) w := ⟨hk, fun h => up_le L 10 _ (hj9 (by rwa [upd_other L (Nat.ne_of_beq_eq_false rfl)] at h)), fun h => up_le L 10 _ (hj11 (by rwa [upd_other L (Nat.ne_of_beq_eq_false rfl)] at h)), by rw [upd_other L (k := 9) (Nat.ne_of_beq_eq_false rfl), upd_other L (k := 11) (Nat.ne_of_beq_eq_false rfl)]; exact hcx⟩
            clear hd
            refine ⟨rfl, ?_⟩
            unfold Oper.wp
            go_simp
            exact hI.val 10 22 _ hJ (fun p hp u => by simp only [List.mem_cons, List.not_mem_nil, or_false] at hp; rcases hp with rfl | rfl | rfl | rfl | rfl | rfl | rfl | rfl | rfl | rfl <;> exact id) (by rw [hsz]; decide) (by decide) (by kernel_rfl) (fun p hp hj => by simp only [List.mem_cons, List.not_mem_nil, or_false] at hp; rcases hp with rfl | rfl | rfl | rfl | rfl | rfl | rfl | rfl | rfl | rfl <;> first | rfl | exact absurd hj (Nat.ne_of_beq_eq_false rfl))
          · have s20 := hI.vals ⟨7, 20, fun u _ => u = (.int .u32 (y2 : Nat))⟩ (by simp) (dep_of hd 7 (by kernel_rfl))
            dsimp only at s20
            have s22 := hI.vals ⟨10, 22, fun u _ => u = (.pointer (some ⟨X, 3, none⟩))⟩ (by simp) (dep_of hd 10 (by kernel_rfl))
            dsimp only at s22
            have hdep : L 2 = true := dep_of hd 2 (by kernel_rfl)
            have hc := hcx.set_ 3 (.int .u32 (y2 : Nat))
            simp only [List.setIfInBounds_toArray, List.set_cons_zero, List.set_cons_succ] at hc
            have l := hcx.cell 3
            have f := hcx.frozen 3
            replace l : w.cell? ⟨X, 3, none⟩ = some (.int .u32 (_ : Nat)) := l
            have hJ : (TurnJ wa X x0 x1 x2 x3 y2 y3) (upd L 11) (w.setCell ⟨X, 3, none⟩ (.int .u32 (y2 : Nat))) := ⟨hk.set_ (p := ⟨X, 3, none⟩) (.inl rfl) _, fun h => up_le L 11 _ (hj9 (by rwa [upd_other L (Nat.ne_of_beq_eq_false rfl)] at h)), fun _ => up_le L 11 _ hdep, by rw [upd_same, upd_other L (k := 9) (Nat.ne_of_beq_eq_false rfl), if_pos (rfl : true = true)]; exact hc⟩
            clear hd hc
            refine ⟨rfl, ?_⟩
            unfold Oper.wp
            go_simp
            exact hI.eff 11 hJ (fun p hp u => by simp only [List.mem_cons, List.not_mem_nil, or_false] at hp; rcases hp with rfl | rfl | rfl | rfl | rfl | rfl | rfl | rfl | rfl | rfl <;> exact id) (by kernel_rfl)
        case fin =>
          intro L a w hI hall
          obtain ⟨hk, -, -, hcx⟩ := hI.world
          rw [if_pos (hall 9 (show 9 < 12 by decide)), if_pos (hall 11 (show 11 < 12 by decide))] at hcx
          have HK := Lib.hid hk
          have HCX := Lib.hid hcx
          have he := arr_of_same hI.size [13, 14, 15, 16, 17, 18, 19, 20, 21, 22] hI.same
          simp only [List.foldl_cons, List.foldl_nil] at he
          generalize a.tmps.getD 13 undef = u13 at he
          generalize a.tmps.getD 14 undef = u14 at he
          generalize a.tmps.getD 15 undef = u15 at he
          generalize a.tmps.getD 16 undef = u16 at he
          generalize a.tmps.getD 17 undef = u17 at he
          generalize a.tmps.getD 18 undef = u18 at he
          generalize a.tmps.getD 19 undef = u19 at he
          generalize a.tmps.getD 20 undef = u20 at he
          generalize a.tmps.getD 21 undef = u21 at he
          generalize a.tmps.getD 22 undef = u22 at he
          rw [hT0] at he
          simp only [List.setIfInBounds_toArray, List.set_cons_zero, List.set_cons_succ] at he
          have hdfr := hI.dfr
          clear hI hall hk hcx
          obtain ⟨T, D⟩ := a
          dsimp only at he hdfr
          subst hdfr
          subst he
          clear hT0 b1 b6 hsz
          go_wp2_with fail
          go_meet
          exact ⟨HK.out, HCX.out⟩
      case rest =>
        obtain ⟨hk, hcx⟩ := hcut
        have e0 : wc.cell? ⟨X, 0, none⟩ = some (.int .u32 (x0 : Int)) := hcx.cell 0
        have e1 : wc.cell? ⟨X, 1, none⟩ = some (.int .u64 x1) := hcx.cell 1
        have e2 : wc.cell? ⟨X, 2, none⟩ = some (.int .u32 (y3 : Int)) := hcx.cell 2
        have e3 : wc.cell? ⟨X, 3, none⟩ = some (.int .u32 (y2 : Int)) := hcx.cell 3
        have HBC : Hid (Below W.heap.size W wc) := Lib.hid (hk.below HXA.out (fun k e => by subst e; exact hws) HXA.out.size)
        have HOC : Hid (OwnK wc W.heap.size u4 LL) := Lib.hid ((HO.out.below (by rw [HX.out]; exact HBA.out)).keptS hk (fun k hk' e => by have := (HO.out.block hk').2; have := HX.out; omega))
        clear hk hcx d0 d1 d2 f2 f3
        go_wp2_with (at_builtin; go_loud (refine wpList_append_rd rfl (.tmp 23) (.tmp 25) 23 rfl 68 (.agg #[.int .u32 0, .int .u64 0, .int .u32 0, .int .u32 0]) 24 Try.underlying23 info_link rfl (by omega) (by omega) encK_len encK_one W.heap.size _ LL rfl (HOC.out.below ((Below.refl _ _).alloc (Nat.le_refl _) _)) _ 1 1 [(⟨x0, x1, y3, y2⟩ : Lk)] rfl (rd_K (by rfl)) (by rw [HLEN.out]; omega) (by have := HBC.out.size; simp; omega) ?_; intro v6 w6 ho6 hg6 hat6; have HO6 := Lib.hid ho6; have HB6 : Hid (Below W.heap.size W w6) := Lib.hid (below_own (HBC.out.alloc HBC.out.size _) (HOC.out.below ((Below.refl _ _).alloc (Nat.le_refl _) _)) hg6 (Nat.le_refl _) (by have := HBC.out.size; simp; omega)); clear ho6 hg6 hat6))
        go_roundw
        case rel => exact ⟨j + 1, by omega, by go_num, by rw [HTK.out]; exact HO6.out, HB6.out⟩
        case measure => simp [intOf]; omega
    · obtain rfl : j = n := by omega
      have htk : l.take j = l := List.take_of_length_le (by have := HP.out.1; omega)
      rw [htk] at HO
      obtain ⟨A2, c2, rfl, _, _⟩ := HO.out.form
      have HEND : Hid (MadeK (l.map (turnL nu nd)) W (.returned (.slice A2 (l.map (turnL nu nd)).length c2)) wr) := Lib.hid ⟨A2, c2, rfl, HO.out, HB.out⟩
      clear htk
      go_wp2_with fail
      go_ret
      exact HEND.out

open Go.RowKit

def TurnRes (h : HierT) (bug : Bug) (W : World) (e : Ending) (w' : World) : Prop := match bug with
  | some b => ∃ v, e = .returned (.tuple #[.agg #[.slice none 0 0, .slice none 0 0, .slice none 0 0, .slice none 0 0, .slice none 0 0], v]) ∧ ErrProg (some b) W (.returned v) w'
  | none => ∃ q : HV, e = .returned (.tuple #[hierV q (turnT h), .nilIface]) ∧ RdH w' q (turnT h) ∧ Small q (turnT h) ∧ Below W.heap.size W w'
def ErrFrom (B : Nat) (b : Int × Option (Int × Int)) (W : World) (e : Ending) (w' : World) : Prop := Below W.heap.size W w' ∧ match b with
  | (c, none) => e = .returned (.iface 63 (.int .i64 c))
  | (c, some (k, a)) => ∃ g, e = .returned (.iface 123 (.pointer (some ⟨g, 0, none⟩))) ∧ Cells w' g #[.int .i64 k, .int .i64 a, .iface 63 (.int .i64 c)] 125 ∧ B ≤ g
theorem ErrFrom.of {b : Int × Option (Int × Int)} {W W1 w' : World} {e : Ending} (h : ErrProg (some b) W1 e w') (hb : Below W.heap.size W W1) : ErrFrom W1.heap.size b W e w' := by
  obtain ⟨c, p⟩ := b
  cases p with
  | none => exact ⟨hb.trans (h.1.mono hb.size), h.2⟩
  | some p => exact ⟨hb.trans (h.1.mono hb.size), h.2⟩
theorem ErrFrom.prog {B : Nat} {b : Int × Option (Int × Int)} {W w' : World} {e : Ending} (h : ErrFrom B b W e w') (hB : W.heap.size ≤ B) : ErrProg (some b) W e w' := by
  obtain ⟨c, p⟩ := b
  cases p with
  | none => exact ⟨h.1, h.2⟩
  | some p =>
    obtain ⟨h1, g, h2, h3, h4⟩ := h
    exact ⟨h1, g, h2, h3, by omega⟩
theorem ErrFrom.far {B : Nat} {b : Int × Option (Int × Int)} {W w' : World} {e : Ending} (h : ErrFrom B b W e w') {p : Addr} (hp : p.block < B) (hW : W.heap.size ≤ p.block) (v : Value) : ErrFrom B b W e (w'.setCell p v) := by
  obtain ⟨c, q⟩ := b
  cases q with
  | none => exact ⟨h.1.setCell hW v, h.2⟩
  | some q =>
    obtain ⟨h1, g, h2, h3, h4⟩ := h
    exact ⟨h1.setCell hW v, g, h2, (Below.heap_setCell w' p v g (by omega)).trans h3, h4⟩
theorem two_vars (w : World) (u v : Value) (t : TypeId) : ((w.alloc (.cells #[u] t)).alloc (.cells #[v] t)).drew.cell? ⟨w.heap.size, 0, none⟩ = some u ∧ ((w.alloc (.cells #[u] t)).alloc (.cells #[v] t)).drew.cell? ⟨w.heap.size + 1, 0, none⟩ = some v ∧ w.heap.size < ((w.alloc (.cells #[u] t)).alloc (.cells #[v] t)).drew.heap.size ∧ w.heap.size + 1 < ((w.alloc (.cells #[u] t)).alloc (.cells #[v] t)).drew.heap.size ∧ Below w.heap.size w ((w.alloc (.cells #[u] t)).alloc (.cells #[v] t)).drew := by
  have hs : (w.alloc (.cells #[u] t)).heap.size = w.heap.size + 1 := by simp
  have hb := (((Below.refl w.heap.size w).alloc (Nat.le_refl _) (.cells #[u] t)).alloc (by omega) (.cells #[v] t)).drew
  have hb2 := ((Below.refl (w.alloc (.cells #[u] t)).heap.size (w.alloc (.cells #[u] t))).alloc (Nat.le_refl _) (.cells #[v] t)).drew
  have h1 := (cells_new w #[u] t).below hb2
  have h2 := (cells_new (w.alloc (.cells #[u] t)) #[v] t).below (Below.drew (Below.refl _ _))
  rw [hs] at h2
  exact ⟨h1.cell 0, h2.cell 0, h1.lt, h2.lt, hb⟩
structure OwnH (w : World) (B : Nat) (q : HV) (h : HierT) : Prop where
  o0 : Own32 w B (.slice q.a0 h.node.length q.c0) h.node
  o1 : Own32 w B (.slice q.a1 h.uf.length q.c1) h.uf
  o2 : OwnK w B (.slice q.a2 h.up.length q.c2) h.up
  o3 : Own32 w B (.slice q.a3 h.df.length q.c3) h.df
  o4 : OwnK w B (.slice q.a4 h.dn.length q.c4) h.dn
theorem Own.off {α : Type} {e sz : Nat} {enc : α → List Value} {w w' : World} {B R : Nat} {v : Value} {l : List α} (h : Own e sz enc w B v l) (hk : Kept (fun k => k = R) w w') (hR : R < B) : Own e sz enc w' B v l :=
  h.keptS hk fun k hk' e => by have := (h.block hk').1; omega
theorem OwnH.off {w w' : World} {B R : Nat} {q : HV} {h : HierT} (o : OwnH w B q h) (hk : Kept (fun k => k = R) w w') (hR : R < B) : OwnH w' B q h :=
  ⟨o.o0.off hk hR, o.o1.off hk hR, o.o2.off hk hR, o.o3.off hk hR, o.o4.off hk hR⟩
theorem Own.caps {α : Type} {e sz : Nat} {enc : α → List Value} {w : World} {B n c : Nat} {A : Option Addr} {l : List α} (h : Own e sz enc w B (.slice A n c) l) : n ≤ c ∧ c ≤ 9223372036854775807 := by
  obtain ⟨A', c', hv, h1, h2⟩ := h.form
  injection hv with _ e1 e2
  subst e1 e2
  unfold maxLen at h2
  exact ⟨h1, by omega⟩
theorem OwnH.turned {w : World} {B : Nat} {q k : HV} {h : HierT} (o : OwnH w B q (turnT h)) (hs : Small k h) : RdH w q (turnT h) ∧ Small q (turnT h) := by
  refine ⟨⟨o.o0.rd enc32_len rfl, o.o1.rd enc32_len rfl, o.o2.rd encK_len rfl, o.o3.rd enc32_len rfl, o.o4.rd encK_len rfl⟩, ⟨hs.s0, hs.s3, ?_, hs.s1, ?_, o.o0.caps, o.o1.caps, o.o2.caps, o.o3.caps, o.o4.caps⟩⟩
  · rw [upl]; exact hs.s4
  · rw [dnl]; exact hs.s2
def okL {α : Type} (e sz : Nat) (enc : α → List Value) (B : Nat) (l : List α) (u : Value) (w : World) : Prop := ∃ A c, u = .slice A l.length c ∧ Own e sz enc w B (.slice A l.length c) l
theorem okL.off {α : Type} {e sz : Nat} {enc : α → List Value} {w w' : World} {B R : Nat} {u : Value} {l : List α} (h : okL e sz enc B l u w) (hk : Kept (fun k => k = R) w w') (hR : R < B) : okL e sz enc B l u w' := by
  obtain ⟨A, c, h1, h2⟩ := h
  exact ⟨A, c, h1, h2.off hk hR⟩
theorem turn_val (h : HierT) (A0 A1 A2 A3 A4 : Option Addr) (c0 c1 c2 c3 c4 : Nat) : Value.agg #[.slice A0 h.node.length c0, .slice A1 h.df.length c1, .slice A2 h.dn.length c2, .slice A3 h.uf.length c3, .slice A4 h.up.length c4] = hierV ⟨A0, A1, A2, A3, A4, c0, c1, c2, c3, c4⟩ (turnT h) := by
  show _ = Value.agg #[.slice A0 (turnT h).node.length c0, .slice A1 (turnT h).uf.length c1, .slice A2 (turnT h).up.length c2, .slice A3 (turnT h).df.length c3, .slice A4 (turnT h).dn.length c4]
  rw [upl, dnl]
  rfl
def okH (B : Nat) (h : HierT) (u : Value) (w : World) : Prop := ∃ q, u = hierV q h ∧ OwnH w B q h
theorem okH.off {w w' : World} {B R : Nat} {u : Value} {h : HierT} (o : okH B h u w) (hk : Kept (fun k => k = R) w w') (hR : R < B) : okH B h u w' := by
  obtain ⟨q, h1, h2⟩ := o
  exact ⟨q, h1, h2.off hk hR⟩
structure TurnK (h' : HierT) (R : Nat) (Wb : World) (L : Nat → Bool) (w : World) : Prop where
  k : Kept (fun k => k = R) Wb w
  z : L 18 = false → Cells w R #[.slice none 0 0, .slice none 0 0, .slice none 0 0, .slice none 0 0, .slice none 0 0] 25
  c : L 18 = true → ∃ q : HV, OwnH w Wb.heap.size q h' ∧ Cells w R #[.slice q.a0 h'.node.length q.c0, .slice q.a1 h'.uf.length q.c1, .slice q.a2 h'.up.length q.c2, .slice q.a3 h'.df.length q.c3, .slice q.a4 h'.dn.length q.c4] 25
theorem TurnK.step {h' : HierT} {R : Nat} {Wb w w' : World} {L L' : Nat → Bool} (t : TurnK h' R Wb L w) (hR : R < Wb.heap.size) (hb : Below w.heap.size w w') (hL : L' 18 = L 18) : TurnK h' R Wb L' w' :=
  ⟨t.k.trans (.of_below hb), fun h => (t.z (hL ▸ h)).below hb, fun h => by
    obtain ⟨q, h1, h2⟩ := t.c (hL ▸ h)
    exact ⟨q, h1.off (R := R) (.of_below hb) hR, h2.below hb⟩⟩
set_option maxRecDepth 100000 in
set_option maxHeartbeats 4000000 in
theorem Turn_any (k : HV) (h : HierT) (W : World) (hp : RdH W k h) (hs : Small k h) (hin : InH h) : Calls Try.prog 15 #[hierV k h] W (TurnRes h (chkB h) W) := by
  have HP := Lib.hid hp
  have HS := Lib.hid hs
  have HIN := Lib.hid hin
  clear hp hs hin
  have hmf : ∀ (fn : Fn) (first cap : Array Value) (w : World), (Instr.makeFunc fn first cap).run Try.prog w = .ok (.func fn first cap) w := fun _ _ _ _ => rfl
  unfold hierV
  go_enter Try.func15, Try.ntmps15
  refine wp_post_named' ?_
  intro Q0 hQ0
  have HQ0 := Lib.hid hQ0
  clear hQ0
  go_upto_region 1 with fail
  have hb1 := two_al W (.cells #[.slice k.a0 h.node.length k.c0, .slice k.a1 h.uf.length k.c1, .slice k.a2 h.up.length k.c2, .slice k.a3 h.df.length k.c3, .slice k.a4 h.dn.length k.c4] 25) (.cells #[.slice none 0 0, .slice none 0 0, .slice none 0 0, .slice none 0 0, .slice none 0 0] 25)
  have hc1 := (cells_new W #[.slice k.a0 h.node.length k.c0, .slice k.a1 h.uf.length k.c1, .slice k.a2 h.up.length k.c2, .slice k.a3 h.df.length k.c3, .slice k.a4 h.dn.length k.c4] 25).below ((Below.refl _ _).alloc (Nat.le_refl _) (.cells #[.slice none 0 0, .slice none 0 0, .slice none 0 0, .slice none 0 0, .slice none 0 0] 25))
  have hr1 := cells_new (W.alloc (.cells #[.slice k.a0 h.node.length k.c0, .slice k.a1 h.uf.length k.c1, .slice k.a2 h.up.length k.c2, .slice k.a3 h.df.length k.c3, .slice k.a4 h.dn.length k.c4] 25)) #[.slice none 0 0, .slice none 0 0, .slice none 0 0, .slice none 0 0, .slice none 0 0] 25
  rw [size_alloc] at hr1
  have hz1 : ((W.alloc (.cells #[.slice k.a0 h.node.length k.c0, .slice k.a1 h.uf.length k.c1, .slice k.a2 h.up.length k.c2, .slice k.a3 h.df.length k.c3, .slice k.a4 h.dn.length k.c4] 25)).alloc (.cells #[.slice none 0 0, .slice none 0 0, .slice none 0 0, .slice none 0 0, .slice none 0 0] 25)).heap.size = W.heap.size + 2 := by simp
  generalize (W.alloc (.cells #[.slice k.a0 h.node.length k.c0, .slice k.a1 h.uf.length k.c1, .slice k.a2 h.up.length k.c2, .slice k.a3 h.df.length k.c3, .slice k.a4 h.dn.length k.c4] 25)).alloc (.cells #[.slice none 0 0, .slice none 0 0, .slice none 0 0, .slice none 0 0, .slice none 0 0] 25) = W1 at *
  have HB1 := Lib.hid hb1
  have HC1 := Lib.hid hc1
  have HR1 := Lib.hid hr1
  have HZ1 := Lib.hid hz1
  have HCK := Lib.hid (Check_any k h W1 (HP.out.below hb1) HS.out HIN.out)
  unfold hierV at HCK
  clear hb1 hc1 hr1 hz1
  have d0 : W1.cell? ⟨W.heap.size, 0, none⟩ = some (.slice k.a0 h.node.length k.c0) := HC1.out.cell 0
  have d1 : W1.cell? ⟨W.heap.size, 1, none⟩ = some (.slice k.a1 h.uf.length k.c1) := HC1.out.cell 1
  have d2 : W1.cell? ⟨W.heap.size, 2, none⟩ = some (.slice k.a2 h.up.length k.c2) := HC1.out.cell 2
  have d3 : W1.cell? ⟨W.heap.size, 3, none⟩ = some (.slice k.a3 h.df.length k.c3) := HC1.out.cell 3
  have d4 : W1.cell? ⟨W.heap.size, 4, none⟩ = some (.slice k.a4 h.dn.length k.c4) := HC1.out.cell 4
  go_wp2_with fail
  refine HCK.out.mono ?_
  rintro e w2 he
  cases hch : chkB h with
  | some b =>
    rw [hch] at he
    have hf := ErrFrom.of he HB1.out
    have HR2 := Lib.hid (HR1.out.below he.1)
    obtain ⟨t, x, ht, rfl⟩ := he.iface
    have hst : W.heap.size + 1 < W1.heap.size := by have := HZ1.out; omega
    have hff := ((((hf.far (p := ⟨W.heap.size + 1, 0, none⟩) hst (Nat.le_succ _) (.slice none 0 0)).far (p := ⟨W.heap.size + 1, 1, none⟩) hst (Nat.le_succ _) (.slice none 0 0)).far (p := ⟨W.heap.size + 1, 2, none⟩) hst (Nat.le_succ _) (.slice none 0 0)).far (p := ⟨W.heap.size + 1, 3, none⟩) hst (Nat.le_succ _) (.slice none 0 0)).far (p := ⟨W.heap.size + 1, 4, none⟩) hst (Nat.le_succ _) (.slice none 0 0)
    have hend : TurnRes h (some b) W (.returned (.tuple #[.agg #[.slice none 0 0, .slice none 0 0, .slice none 0 0, .slice none 0 0, .slice none 0 0], .iface t x])) (((((w2.setCell ⟨W.heap.size + 1, 0, none⟩ (.slice none 0 0)).setCell ⟨W.heap.size + 1, 1, none⟩ (.slice none 0 0)).setCell ⟨W.heap.size + 1, 2, none⟩ (.slice none 0 0)).setCell ⟨W.heap.size + 1, 3, none⟩ (.slice none 0 0)).setCell ⟨W.heap.size + 1, 4, none⟩ (.slice none 0 0)) := ⟨_, rfl, hff.prog HB1.out.size⟩
    have hfin := ((((HR2.out.set_ 0 (.slice none 0 0)).set_ 1 (.slice none 0 0)).set_ 2 (.slice none 0 0)).set_ 3 (.slice none 0 0)).set_ 4 (.slice none 0 0)
    simp only [List.setIfInBounds_toArray, List.set_cons_zero, List.set_cons_succ] at hfin
    have HEND : Hid (TurnRes h (chkB h) W (.returned (.tuple #[.agg #[.slice none 0 0, .slice none 0 0, .slice none 0 0, .slice none 0 0, .slice none 0 0], .iface t x])) (((((w2.setCell ⟨W.heap.size + 1, 0, none⟩ (.slice none 0 0)).setCell ⟨W.heap.size + 1, 1, none⟩ (.slice none 0 0)).setCell ⟨W.heap.size + 1, 2, none⟩ (.slice none 0 0)).setCell ⟨W.heap.size + 1, 3, none⟩ (.slice none 0 0)).setCell ⟨W.heap.size + 1, 4, none⟩ (.slice none 0 0))) := Lib.hid (by rw [hch]; exact hend)
    have HFIN := Lib.hid hfin
    have z0 : w2.cell? ⟨W.heap.size + 1, 0, none⟩ = some (.slice none 0 0) := HR2.out.cell 0
    have y0 := HR2.out.frozen 0
    have z1 : w2.cell? ⟨W.heap.size + 1, 1, none⟩ = some (.slice none 0 0) := HR2.out.cell 1
    have y1 := HR2.out.frozen 1
    have z2 : w2.cell? ⟨W.heap.size + 1, 2, none⟩ = some (.slice none 0 0) := HR2.out.cell 2
    have y2 := HR2.out.frozen 2
    have z3 : w2.cell? ⟨W.heap.size + 1, 3, none⟩ = some (.slice none 0 0) := HR2.out.cell 3
    have y3 := HR2.out.frozen 3
    have z4 : w2.cell? ⟨W.heap.size + 1, 4, none⟩ = some (.slice none 0 0) := HR2.out.cell 4
    have y4 := HR2.out.frozen 4
    clear he hf hff hend hfin d0 d1 d2 d3 d4 hch HCK HB1 HC1 HR1 HZ1 hst
    rcases ht with rfl | rfl
    all_goals
      go_wp2_with fail
      generalize (((((w2.setCell ⟨W.heap.size + 1, 0, none⟩ (.slice none 0 0)).setCell ⟨W.heap.size + 1, 1, none⟩ (.slice none 0 0)).setCell ⟨W.heap.size + 1, 2, none⟩ (.slice none 0 0)).setCell ⟨W.heap.size + 1, 3, none⟩ (.slice none 0 0)).setCell ⟨W.heap.size + 1, 4, none⟩ (.slice none 0 0)) = wz at *
      have r0 : wz.cell? ⟨W.heap.size + 1, 0, none⟩ = some (.slice none 0 0) := HFIN.out.cell 0
      have r1 : wz.cell? ⟨W.heap.size + 1, 1, none⟩ = some (.slice none 0 0) := HFIN.out.cell 1
      have r2 : wz.cell? ⟨W.heap.size + 1, 2, none⟩ = some (.slice none 0 0) := HFIN.out.cell 2
      have r3 : wz.cell? ⟨W.heap.size + 1, 3, none⟩ = some (.slice none 0 0) := HFIN.out.cell 3
      have r4 : wz.cell? ⟨W.heap.size + 1, 4, none⟩ = some (.slice none 0 0) := HFIN.out.cell 4
      rw [HQ0.out]
      refine bodyPost_ret (v := .tuple #[.agg #[.slice none 0 0, .slice none 0 0, .slice none 0 0, .slice none 0 0, .slice none 0 0], _]) ?hres rfl HEND.out
      case hres => simp [results, Try.results15, go_sem, r0, r1, r2, r3, r4]
  | none =>
    rw [hch] at he
    obtain ⟨hb2, rfl⟩ := he
    have so := Sound.of_none hch
    have HSO := Lib.hid so
    have HB2 := Lib.hid (HB1.out.trans (hb2.mono HB1.out.size))
    have HC2 := Lib.hid (HC1.out.below hb2)
    have HR2 := Lib.hid (HR1.out.below hb2)
    have HX2 : Hid (W.heap.size + 2 ≤ w2.heap.size) := Lib.hid (by have := HZ1.out; have := hb2.size; omega)
    have hm := so.m_le
    have HCH := Lib.hid hch
    clear d0 d1 d2 d3 d4 hb2 so HCK HB1 HC1 HR1 HZ1 hch
    have wu : IntKind.u32.wrap (h.up.length : Int) = h.up.length := by rw [IntKind.wrap_u32]; omega
    have wd : IntKind.u32.wrap (h.dn.length : Int) = h.dn.length := by rw [IntKind.wrap_u32]; omega
    go_upto_region 4 with fail
    have d2 : w2.cell? ⟨W.heap.size, 2, none⟩ = some (.slice k.a2 h.up.length k.c2) := HC2.out.cell 2
    have d4 : w2.cell? ⟨W.heap.size, 4, none⟩ = some (.slice k.a4 h.dn.length k.c4) := HC2.out.cell 4
    have hlt : W.heap.size < w2.heap.size := by have := HX2.out; omega
    have hne : ¬ W.heap.size = w2.heap.size := by omega
    have hne1 : ¬ W.heap.size = w2.heap.size + 1 := by omega
    have hne2 : ¬ w2.heap.size = W.heap.size := by omega
    have hne3 : ¬ w2.heap.size + 1 = W.heap.size := by omega
    go_cut [5, 6] from 15 to 22 (fun a b wx => ∃ p q, a = .pointer (some ⟨p, 0, none⟩) ∧ b = .pointer (some ⟨q, 0, none⟩) ∧ wx.cell? ⟨p, 0, none⟩ = some (.int .u32 h.up.length) ∧ wx.cell? ⟨q, 0, none⟩ = some (.int .u32 h.dn.length) ∧ p < wx.heap.size ∧ q < wx.heap.size ∧ w2.heap.size ≤ p ∧ w2.heap.size ≤ q ∧ Below w2.heap.size w2 wx)
    case first =>
      go_region
      all_goals
        go_wp2_with fail
        go_meet
        first
          | exact ⟨_, _, rfl, rfl, (two_vars w2 _ _ _).1, (two_vars w2 _ _ _).2.1, (two_vars w2 _ _ _).2.2.1, (two_vars w2 _ _ _).2.2.2.1, Nat.le_refl _, Nat.le_succ _, (two_vars w2 _ _ _).2.2.2.2⟩
          | exact ⟨_, _, rfl, rfl, (two_vars w2 _ _ _).2.1, (two_vars w2 _ _ _).1, (two_vars w2 _ _ _).2.2.2.1, (two_vars w2 _ _ _).2.2.1, Nat.le_succ _, Nat.le_refl _, (two_vars w2 _ _ _).2.2.2.2⟩
    case rest =>
      obtain ⟨p, q, rfl, rfl, hpc, hqc, hpl, hql, hpg, hqg, hb3⟩ := hcut
      have HB3 := Lib.hid (HB2.out.trans (hb3.mono HB2.out.size))
      have HC3 := Lib.hid (HC2.out.below hb3)
      have HR3 := Lib.hid (HR2.out.below hb3)
      have HPC := Lib.hid hpc
      have HQC := Lib.hid hqc
      have HPL := Lib.hid hpl
      have HQL := Lib.hid hql
      have HPG := Lib.hid (Nat.le_trans HX2.out hpg)
      have HQG := Lib.hid (Nat.le_trans HX2.out hqg)
      have HX3 : Hid (W.heap.size + 2 ≤ wc.heap.size) := Lib.hid (Nat.le_trans HX2.out hb3.size)
      clear hpc hqc hpl hql hpg hqg hb3 hlt hne hne1 hne2 hne3 HB2 HC2 HR2 HX2 wu wd d2 d4
      have hn0 := cells_new wc #[.nilFunc] 66
      have hn1 : (wc.alloc (.cells #[.nilFunc] 66)).cell? ⟨wc.heap.size, 0, none⟩ = some .nilFunc := hn0.cell 0
      have hn2 := hn0.frozen 0
      go_upto_region 7 with fail
      have hb4 := (Below.refl wc.heap.size wc).alloc (Nat.le_refl _) (.cells #[.func (.func 30) #[] #[.pointer (some ⟨p, 0, none⟩), .pointer (some ⟨q, 0, none⟩)]] 66)
      have hc4 := cells_new wc #[.func (.func 30) #[] #[.pointer (some ⟨p, 0, none⟩), .pointer (some ⟨q, 0, none⟩)]] 66
      clear hn0 hn1 hn2
      generalize wc.alloc (.cells #[.func (.func 30) #[] #[.pointer (some ⟨p, 0, none⟩), .pointer (some ⟨q, 0, none⟩)]] 66) = Wb at *
      generalize hgE : wc.heap.size = g at *
      have HGE := Lib.hid hgE
      clear hgE
      have HBB := Lib.hid (HB3.out.trans (hb4.mono (by have := HX3.out; omega)))
      have HCB := Lib.hid (HC3.out.below (by rw [HGE.out]; exact hb4))
      generalize hRE : W.heap.size + 1 = R at *
      have HRE := Lib.hid hRE
      clear hRE
      have HZB := Lib.hid (HR3.out.below (by rw [HGE.out]; exact hb4))
      have HGB := Lib.hid hc4
      have HPB : Hid (Wb.cell? ⟨p, 0, none⟩ = some (.int .u32 h.up.length)) := Lib.hid (cell_below (by rw [HGE.out]; exact hb4) HPC.out)
      have HQB : Hid (Wb.cell? ⟨q, 0, none⟩ = some (.int .u32 h.dn.length)) := Lib.hid (cell_below (by rw [HGE.out]; exact hb4) HQC.out)
      have hnum : R < Wb.heap.size ∧ W.heap.size < R ∧ R < g ∧ R < p ∧ R < q ∧ g < Wb.heap.size ∧ p < Wb.heap.size ∧ q < Wb.heap.size := by
        have h1 := hc4.lt
        have h2 := hb4.size
        have h3 := HX3.out
        have h4 := HPG.out
        have h5 := HQG.out
        have h6 := HPL.out
        have h7 := HQL.out
        have h8 := HRE.out
        have h9 := HGE.out
        omega
      have HRB : Hid (R < Wb.heap.size) := Lib.hid hnum.1
      have HNUM := Lib.hid hnum
      have hmu : h.up.length ≤ 1048576 := by omega
      have hmd : h.dn.length ≤ 1048576 := by omega
      clear hb4 hc4 hnum HB3 HC3 HR3 HPC HQC HPL HQL HPG HQG HX3
      refine wp_act_named ?_
      intro T0 hT0
      have hsz : T0.size = 43 := by rw [hT0]; rfl
      have b1 : T0.getD 1 undef = .pointer (some ⟨W.heap.size, 0, none⟩) := by rw [hT0]; rfl
      have b2 : T0.getD 2 undef = .pointer (some ⟨R, 0, none⟩) := by rw [hT0]; rfl
      have b8 : T0.getD 8 undef = .func (.func 31) #[] #[.pointer (some ⟨g, 0, none⟩)] := by rw [hT0]; rfl
      refine wp_region_inv (I := RG [⟨0, 25, fun u _ => u = (.pointer (some ⟨W.heap.size, 0, none⟩))⟩, ⟨1, 26, fun u _ => u = (.slice k.a0 h.node.length k.c0)⟩, ⟨2, 27, okL 65 1 enc32 Wb.heap.size h.node⟩, ⟨3, 28, fun u _ => u = (.pointer (some ⟨W.heap.size, 3, none⟩))⟩, ⟨4, 29, fun u _ => u = (.slice k.a3 h.df.length k.c3)⟩, ⟨5, 30, okL 65 1 enc32 Wb.heap.size h.df⟩, ⟨6, 31, fun u _ => u = (.func (.func 31) #[] #[.pointer (some ⟨g, 0, none⟩)])⟩, ⟨7, 32, fun u _ => u = (.pointer (some ⟨W.heap.size, 4, none⟩))⟩, ⟨8, 33, fun u _ => u = (.slice k.a4 h.dn.length k.c4)⟩, ⟨9, 34, okL 68 4 encK Wb.heap.size (h.dn.map (turnL h.up.length h.dn.length))⟩, ⟨10, 35, fun u _ => u = (.pointer (some ⟨W.heap.size, 1, none⟩))⟩, ⟨11, 36, fun u _ => u = (.slice k.a1 h.uf.length k.c1)⟩, ⟨12, 37, okL 65 1 enc32 Wb.heap.size h.uf⟩, ⟨13, 38, fun u _ => u = (.func (.func 31) #[] #[.pointer (some ⟨g, 0, none⟩)])⟩, ⟨14, 39, fun u _ => u = (.pointer (some ⟨W.heap.size, 2, none⟩))⟩, ⟨15, 40, fun u _ => u = (.slice k.a2 h.up.length k.c2)⟩, ⟨16, 41, okL 68 4 encK Wb.heap.size (h.up.map (turnL h.up.length h.dn.length))⟩, ⟨17, 42, okH Wb.heap.size (turnT h)⟩, ⟨19, 3, fun u _ => u = (.nilIface)⟩] [3, 25, 26, 27, 28, 29, 30, 31, 32, 33, 34, 35, 36, 37, 38, 39, 40, 41, 42] T0 (TurnK (turnT h) R Wb)) (by kernel_rfl) (by kernel_rfl) (RG.start (a := { tmps := T0, defers := [] }) rfl ⟨Kept.of_below (Below.drew (Below.refl _ _)), fun _ => HZB.out.below (Below.drew (Below.refl _ _)), fun h => (by cases h)⟩) ?step ?fin
      case step =>
        clear hT0
        intro i' o L a w ho hI hL hd
        have hlt' : i' < 20 := (Array.getElem?_eq_some_iff.1 ho).1
        have t1 : a.tmps.getD 1 undef = .pointer (some ⟨W.heap.size, 0, none⟩) := (hI.same 1 (by decide)).trans b1
        have t2 : a.tmps.getD 2 undef = .pointer (some ⟨R, 0, none⟩) := (hI.same 2 (by decide)).trans b2
        have t8 : a.tmps.getD 8 undef = .func (.func 31) #[] #[.pointer (some ⟨g, 0, none⟩)] := (hI.same 8 (by decide)).trans b8
        have hn := HNUM.out
        have hk := hI.world.k
        have HPW := Lib.hid (HP.out.below (hk.below HBB.out (fun k e => by subst e; omega) HBB.out.size))
        have HCW := Lib.hid (hk.cells HCB.out (by omega))
        have HGW : Hid (w.cell? ⟨g, 0, none⟩ = some (.func (.func 30) #[] #[.pointer (some ⟨p, 0, none⟩), .pointer (some ⟨q, 0, none⟩)])) := Lib.hid (cell_kept hk hn.2.2.2.2.2.1 (by omega) (HGB.out.cell 0))
        have HPCW := Lib.hid (cell_kept hk hn.2.2.2.2.2.2.1 (by omega) HPB.out)
        have HQCW := Lib.hid (cell_kept hk hn.2.2.2.2.2.2.2 (by omega) HQB.out)
        have HGL : Hid (g < w.heap.size) := Lib.hid (by have := hk.size; omega)
        have HPL2 : Hid (p < w.heap.size) := Lib.hid (by have := hk.size; omega)
        have HQL2 : Hid (q < w.heap.size) := Lib.hid (by have := hk.size; omega)
        clear hk hn b1 b2 b8
        have d0 : w.cell? ⟨W.heap.size, 0, none⟩ = some (.slice k.a0 h.node.length k.c0) := HCW.out.cell 0
        have d1 : w.cell? ⟨W.heap.size, 1, none⟩ = some (.slice k.a1 h.uf.length k.c1) := HCW.out.cell 1
        have d2 : w.cell? ⟨W.heap.size, 2, none⟩ = some (.slice k.a2 h.up.length k.c2) := HCW.out.cell 2
        have d3 : w.cell? ⟨W.heap.size, 3, none⟩ = some (.slice k.a3 h.df.length k.c3) := HCW.out.cell 3
        have d4 : w.cell? ⟨W.heap.size, 4, none⟩ = some (.slice k.a4 h.dn.length k.c4) := HCW.out.cell 4
        rcases (show i' = 0 ∨ i' = 1 ∨ i' = 2 ∨ i' = 3 ∨ i' = 4 ∨ i' = 5 ∨ i' = 6 ∨ i' = 7 ∨ i' = 8 ∨ i' = 9 ∨ i' = 10 ∨ i' = 11 ∨ i' = 12 ∨ i' = 13 ∨ i' = 14 ∨ i' = 15 ∨ i' = 16 ∨ i' = 17 ∨ i' = 18 ∨ i' = 19 by omega) with rfl | rfl | rfl | rfl | rfl | rfl | rfl | rfl | rfl | rfl | rfl | rfl | rfl | rfl | rfl | rfl | rfl | rfl | rfl | rfl <;> (obtain rfl := Option.some.inj ho) <;> clear ho
        · clear hd
          have hkw : Kept (fun k => k = R) w w := Kept.refl _ _
          have hJ := hI.world.step (L' := upd L 0) HRB.out (Below.refl _ _) (upd_other L (Nat.ne_of_beq_eq_false rfl))
          refine ⟨rfl, ?_⟩
          unfold Oper.wp
          go_simp
          exact hI.val 0 25 _ hJ (fun p hp u => by simp only [List.mem_cons, List.not_mem_nil, or_false] at hp; rcases hp with rfl | rfl | rfl | rfl | rfl | rfl | rfl | rfl | rfl | rfl | rfl | rfl | rfl | rfl | rfl | rfl | rfl | rfl | rfl <;> dsimp only <;> first | with_reducible exact fun h => okL.off h hkw HRB.out | with_reducible exact fun h => okH.off h hkw HRB.out | with_reducible exact id) (by rw [hsz]; decide) (by decide) (by kernel_rfl) (fun p hp hj => by simp only [List.mem_cons, List.not_mem_nil, or_false] at hp; rcases hp with rfl | rfl | rfl | rfl | rfl | rfl | rfl | rfl | rfl | rfl | rfl | rfl | rfl | rfl | rfl | rfl | rfl | rfl | rfl <;> first | exact absurd hj (Nat.ne_of_beq_eq_false rfl) | rfl)
        · have s25 := hI.vals ⟨0, 25, fun u _ => u = (.pointer (some ⟨W.heap.size, 0, none⟩))⟩ (by simp) (dep_of hd 0 (by kernel_rfl))
          dsimp only at s25
          clear hd
          have hkw : Kept (fun k => k = R) w w := Kept.refl _ _
          have hJ := hI.world.step (L' := upd L 1) HRB.out (Below.refl _ _) (upd_other L (Nat.ne_of_beq_eq_false rfl))
          refine ⟨rfl, ?_⟩
          unfold Oper.wp
          go_simp
          exact hI.val 1 26 _ hJ (fun p hp u => by simp only [List.mem_cons, List.not_mem_nil, or_false] at hp; rcases hp with rfl | rfl | rfl | rfl | rfl | rfl | rfl | rfl | rfl | rfl | rfl | rfl | rfl | rfl | rfl | rfl | rfl | rfl | rfl <;> dsimp only <;> first | with_reducible exact fun h => okL.off h hkw HRB.out | with_reducible exact fun h => okH.off h hkw HRB.out | with_reducible exact id) (by rw [hsz]; decide) (by decide) (by kernel_rfl) (fun p hp hj => by simp only [List.mem_cons, List.not_mem_nil, or_false] at hp; rcases hp with rfl | rfl | rfl | rfl | rfl | rfl | rfl | rfl | rfl | rfl | rfl | rfl | rfl | rfl | rfl | rfl | rfl | rfl | rfl <;> first | exact absurd hj (Nat.ne_of_beq_eq_false rfl) | rfl)
        · have s26 := hI.vals ⟨1, 26, fun u _ => u = (.slice k.a0 h.node.length k.c0)⟩ (by simp) (dep_of hd 1 (by kernel_rfl))
          dsimp only at s26
          clear hd d0 d1 d2 d3 d4
          have hcc := Clone_any k.a0 h.node.length k.c0 h.node w HPW.out.r0 HS.out.s0
          refine ⟨rfl, ?_⟩
          unfold Oper.wp
          go_simp
          refine hcc.mono ?_
          rintro e w' ⟨A', c', rfl, ho, hb⟩
          have hkw : Kept (fun k => k = R) w w' := .of_below hb
          have hJ := hI.world.step (L' := upd L 2) HRB.out hb (upd_other L (Nat.ne_of_beq_eq_false rfl))
          exact hI.val 2 27 _ hJ (fun p hp u => by simp only [List.mem_cons, List.not_mem_nil, or_false] at hp; rcases hp with rfl | rfl | rfl | rfl | rfl | rfl | rfl | rfl | rfl | rfl | rfl | rfl | rfl | rfl | rfl | rfl | rfl | rfl | rfl <;> dsimp only <;> first | with_reducible exact fun h => okL.off h hkw HRB.out | with_reducible exact fun h => okH.off h hkw HRB.out | with_reducible exact id) (by rw [hsz]; decide) (by decide) (by kernel_rfl) (fun p hp hj => by simp only [List.mem_cons, List.not_mem_nil, or_false] at hp; rcases hp with rfl | rfl | rfl | rfl | rfl | rfl | rfl | rfl | rfl | rfl | rfl | rfl | rfl | rfl | rfl | rfl | rfl | rfl | rfl <;> first | exact absurd hj (Nat.ne_of_beq_eq_false rfl) | exact ⟨A', c', rfl, ho.mono hI.world.k.size⟩)
        · clear hd
          have hkw : Kept (fun k => k = R) w w := Kept.refl _ _
          have hJ := hI.world.step (L' := upd L 3) HRB.out (Below.refl _ _) (upd_other L (Nat.ne_of_beq_eq_false rfl))
          refine ⟨rfl, ?_⟩
          unfold Oper.wp
          go_simp
          exact hI.val 3 28 _ hJ (fun p hp u => by simp only [List.mem_cons, List.not_mem_nil, or_false] at hp; rcases hp with rfl | rfl | rfl | rfl | rfl | rfl | rfl | rfl | rfl | rfl | rfl | rfl | rfl | rfl | rfl | rfl | rfl | rfl | rfl <;> dsimp only <;> first | with_reducible exact fun h => okL.off h hkw HRB.out | with_reducible exact fun h => okH.off h hkw HRB.out | with_reducible exact id) (by rw [hsz]; decide) (by decide) (by kernel_rfl) (fun p hp hj => by simp only [List.mem_cons, List.not_mem_nil, or_false] at hp; rcases hp with rfl | rfl | rfl | rfl | rfl | rfl | rfl | rfl | rfl | rfl | rfl | rfl | rfl | rfl | rfl | rfl | rfl | rfl | rfl <;> first | exact absurd hj (Nat.ne_of_beq_eq_false rfl) | rfl)
        · have s28 := hI.vals ⟨3, 28, fun u _ => u = (.pointer (some ⟨W.heap.size, 3, none⟩))⟩ (by simp) (dep_of hd 3 (by kernel_rfl))
          dsimp only at s28
          clear hd
          have hkw : Kept (fun k => k = R) w w := Kept.refl _ _
          have hJ := hI.world.step (L' := upd L 4) HRB.out (Below.refl _ _) (upd_other L (Nat.ne_of_beq_eq_false rfl))
          refine ⟨rfl, ?_⟩
          unfold Oper.wp
          go_simp
          exact hI.val 4 29 _ hJ (fun p hp u => by simp only [List.mem_cons, List.not_mem_nil, or_false] at hp; rcases hp with rfl | rfl | rfl | rfl | rfl | rfl | rfl | rfl | rfl | rfl | rfl | rfl | rfl | rfl | rfl | rfl | rfl | rfl | rfl <;> dsimp only <;> first | with_reducible exact fun h => okL.off h hkw HRB.out | with_reducible exact fun h => okH.off h hkw HRB.out | with_reducible exact id) (by rw [hsz]; decide) (by decide) (by kernel_rfl) (fun p hp hj => by simp only [List.mem_cons, List.not_mem_nil, or_false] at hp; rcases hp with rfl | rfl | rfl | rfl | rfl | rfl | rfl | rfl | rfl | rfl | rfl | rfl | rfl | rfl | rfl | rfl | rfl | rfl | rfl <;> first | exact absurd hj (Nat.ne_of_beq_eq_false rfl) | rfl)
        · have s29 := hI.vals ⟨4, 29, fun u _ => u = (.slice k.a3 h.df.length k.c3)⟩ (by simp) (dep_of hd 4 (by kernel_rfl))
          dsimp only at s29
          clear hd d0 d1 d2 d3 d4
          have hcc := Clone_any k.a3 h.df.length k.c3 h.df w HPW.out.r3 HS.out.s3
          refine ⟨rfl, ?_⟩
          unfold Oper.wp
          go_simp
          refine hcc.mono ?_
          rintro e w' ⟨A', c', rfl, ho, hb⟩
          have hkw : Kept (fun k => k = R) w w' := .of_below hb
          have hJ := hI.world.step (L' := upd L 5) HRB.out hb (upd_other L (Nat.ne_of_beq_eq_false rfl))
          exact hI.val 5 30 _ hJ (fun p hp u => by simp only [List.mem_cons, List.not_mem_nil, or_false] at hp; rcases hp with rfl | rfl | rfl | rfl | rfl | rfl | rfl | rfl | rfl | rfl | rfl | rfl | rfl | rfl | rfl | rfl | rfl | rfl | rfl <;> dsimp only <;> first | with_reducible exact fun h => okL.off h hkw HRB.out | with_reducible exact fun h => okH.off h hkw HRB.out | with_reducible exact id) (by rw [hsz]; decide) (by decide) (by kernel_rfl) (fun p hp hj => by simp only [List.mem_cons, List.not_mem_nil, or_false] at hp; rcases hp with rfl | rfl | rfl | rfl | rfl | rfl | rfl | rfl | rfl | rfl | rfl | rfl | rfl | rfl | rfl | rfl | rfl | rfl | rfl <;> first | exact absurd hj (Nat.ne_of_beq_eq_false rfl) | exact ⟨A', c', rfl, ho.mono hI.world.k.size⟩)
        · clear hd
          have hkw : Kept (fun k => k = R) w w := Kept.refl _ _
          have hJ := hI.world.step (L' := upd L 6) HRB.out (Below.refl _ _) (upd_other L (Nat.ne_of_beq_eq_false rfl))
          refine ⟨rfl, ?_⟩
          unfold Oper.wp
          go_simp
          exact hI.val 6 31 _ hJ (fun p hp u => by simp only [List.mem_cons, List.not_mem_nil, or_false] at hp; rcases hp with rfl | rfl | rfl | rfl | rfl | rfl | rfl | rfl | rfl | rfl | rfl | rfl | rfl | rfl | rfl | rfl | rfl | rfl | rfl <;> dsimp only <;> first | with_reducible exact fun h => okL.off h hkw HRB.out | with_reducible exact fun h => okH.off h hkw HRB.out | with_reducible exact id) (by rw [hsz]; decide) (by decide) (by kernel_rfl) (fun p hp hj => by simp only [List.mem_cons, List.not_mem_nil, or_false] at hp; rcases hp with rfl | rfl | rfl | rfl | rfl | rfl | rfl | rfl | rfl | rfl | rfl | rfl | rfl | rfl | rfl | rfl | rfl | rfl | rfl <;> first | exact absurd hj (Nat.ne_of_beq_eq_false rfl) | rfl)
        · clear hd
          have hkw : Kept (fun k => k = R) w w := Kept.refl _ _
          have hJ := hI.world.step (L' := upd L 7) HRB.out (Below.refl _ _) (upd_other L (Nat.ne_of_beq_eq_false rfl))
          refine ⟨rfl, ?_⟩
          unfold Oper.wp
          go_simp
          exact hI.val 7 32 _ hJ (fun p hp u => by simp only [List.mem_cons, List.not_mem_nil, or_false] at hp; rcases hp with rfl | rfl | rfl | rfl | rfl | rfl | rfl | rfl | rfl | rfl | rfl | rfl | rfl | rfl | rfl | rfl | rfl | rfl | rfl <;> dsimp only <;> first | with_reducible exact fun h => okL.off h hkw HRB.out | with_reducible exact fun h => okH.off h hkw HRB.out | with_reducible exact id) (by rw [hsz]; decide) (by decide) (by kernel_rfl) (fun p hp hj => by simp only [List.mem_cons, List.not_mem_nil, or_false] at hp; rcases hp with rfl | rfl | rfl | rfl | rfl | rfl | rfl | rfl | rfl | rfl | rfl | rfl | rfl | rfl | rfl | rfl | rfl | rfl | rfl <;> first | exact absurd hj (Nat.ne_of_beq_eq_false rfl) | rfl)
        · have s32 := hI.vals ⟨7, 32, fun u _ => u = (.pointer (some ⟨W.heap.size, 4, none⟩))⟩ (by simp) (dep_of hd 7 (by kernel_rfl))
          dsimp only at s32
          clear hd
          have hkw : Kept (fun k => k = R) w w := Kept.refl _ _
          have hJ := hI.world.step (L' := upd L 8) HRB.out (Below.refl _ _) (upd_other L (Nat.ne_of_beq_eq_false rfl))
          refine ⟨rfl, ?_⟩
          unfold Oper.wp
          go_simp
          exact hI.val 8 33 _ hJ (fun p hp u => by simp only [List.mem_cons, List.not_mem_nil, or_false] at hp; rcases hp with rfl | rfl | rfl | rfl | rfl | rfl | rfl | rfl | rfl | rfl | rfl | rfl | rfl | rfl | rfl | rfl | rfl | rfl | rfl <;> dsimp only <;> first | with_reducible exact fun h => okL.off h hkw HRB.out | with_reducible exact fun h => okH.off h hkw HRB.out | with_reducible exact id) (by rw [hsz]; decide) (by decide) (by kernel_rfl) (fun p hp hj => by simp only [List.mem_cons, List.not_mem_nil, or_false] at hp; rcases hp with rfl | rfl | rfl | rfl | rfl | rfl | rfl | rfl | rfl | rfl | rfl | rfl | rfl | rfl | rfl | rfl | rfl | rfl | rfl <;> first | exact absurd hj (Nat.ne_of_beq_eq_false rfl) | rfl)
        · have s31 := hI.vals ⟨6, 31, fun u _ => u = (.func (.func 31) #[] #[.pointer (some ⟨g, 0, none⟩)])⟩ (by simp) (dep_of hd 6 (by kernel_rfl))
          dsimp only at s31
          have s33 := hI.vals ⟨8, 33, fun u _ => u = (.slice k.a4 h.dn.length k.c4)⟩ (by simp) (dep_of hd 8 (by kernel_rfl))
          dsimp only at s33
          clear hd d0 d1 d2 d3 d4
          have hcc := turnedP_any g p q h.up.length h.dn.length k.a4 h.dn.length k.c4 h.dn w hmu hmd HGW.out HPCW.out HQCW.out HGL.out HPL2.out HQL2.out HPW.out.r4 HIN.out.i4 HS.out.s4
          refine ⟨rfl, ?_⟩
          unfold Oper.wp
          go_simp
          refine hcc.mono ?_
          rintro e w' ⟨A', c', rfl, ho, hb⟩
          have hkw : Kept (fun k => k = R) w w' := .of_below hb
          have hJ := hI.world.step (L' := upd L 9) HRB.out hb (upd_other L (Nat.ne_of_beq_eq_false rfl))
          exact hI.val 9 34 _ hJ (fun p hp u => by simp only [List.mem_cons, List.not_mem_nil, or_false] at hp; rcases hp with rfl | rfl | rfl | rfl | rfl | rfl | rfl | rfl | rfl | rfl | rfl | rfl | rfl | rfl | rfl | rfl | rfl | rfl | rfl <;> dsimp only <;> first | with_reducible exact fun h => okL.off h hkw HRB.out | with_reducible exact fun h => okH.off h hkw HRB.out | with_reducible exact id) (by rw [hsz]; decide) (by decide) (by kernel_rfl) (fun p hp hj => by simp only [List.mem_cons, List.not_mem_nil, or_false] at hp; rcases hp with rfl | rfl | rfl | rfl | rfl | rfl | rfl | rfl | rfl | rfl | rfl | rfl | rfl | rfl | rfl | rfl | rfl | rfl | rfl <;> first | exact absurd hj (Nat.ne_of_beq_eq_false rfl) | exact ⟨A', c', rfl, ho.mono hI.world.k.size⟩)
        · clear hd
          have hkw : Kept (fun k => k = R) w w := Kept.refl _ _
          have hJ := hI.world.step (L' := upd L 10) HRB.out (Below.refl _ _) (upd_other L (Nat.ne_of_beq_eq_false rfl))
          refine ⟨rfl, ?_⟩
          unfold Oper.wp
          go_simp
          exact hI.val 10 35 _ hJ (fun p hp u => by simp only [List.mem_cons, List.not_mem_nil, or_false] at hp; rcases hp with rfl | rfl | rfl | rfl | rfl | rfl | rfl | rfl | rfl | rfl | rfl | rfl | rfl | rfl | rfl | rfl | rfl | rfl | rfl <;> dsimp only <;> first | with_reducible exact fun h => okL.off h hkw HRB.out | with_reducible exact fun h => okH.off h hkw HRB.out | with_reducible exact id) (by rw [hsz]; decide) (by decide) (by kernel_rfl) (fun p hp hj => by simp only [List.mem_cons, List.not_mem_nil, or_false] at hp; rcases hp with rfl | rfl | rfl | rfl | rfl | rfl | rfl | rfl | rfl | rfl | rfl | rfl | rfl | rfl | rfl | rfl | rfl | rfl | rfl <;> first | exact absurd hj (Nat.ne_of_beq_eq_false rfl) | rfl)
        · have s35 := hI.vals ⟨10, 35, fun u _ => u = (.pointer (some ⟨W.heap.size, 1, none⟩))⟩ (by simp) (dep_of hd 10 (by kernel_rfl))
          dsimp only at s35
          clear hd
          have hkw : Kept (fun k => k = R) w w := Kept.refl _ _
          have hJ := hI.world.step (L' := upd L 11) HRB.out (Below.refl _ _) (upd_other L (Nat.ne_of_beq_eq_false rfl))
          refine ⟨rfl, ?_⟩
          unfold Oper.wp
          go_simp
          exact hI.val 11 36 _ hJ (fun p hp u => by simp only [List.mem_cons, List.not_mem_nil, or_false] at hp; rcases hp with rfl | rfl | rfl | rfl | rfl | rfl | rfl | rfl | rfl | rfl | rfl | rfl | rfl | rfl | rfl | rfl | rfl | rfl | rfl <;> dsimp only <;> first | with_reducible exact fun h => okL.off h hkw HRB.out | with_reducible exact fun h => okH.off h hkw HRB.out | with_reducible exact id) (by rw [hsz]; decide) (by decide) (by kernel_rfl) (fun p hp hj => by simp only [List.mem_cons, List.not_mem_nil, or_false] at hp; rcases hp with rfl | rfl | rfl | rfl | rfl | rfl | rfl | rfl | rfl | rfl | rfl | rfl | rfl | rfl | rfl | rfl | rfl | rfl | rfl <;> first | exact absurd hj (Nat.ne_of_beq_eq_false rfl) | rfl)
        · have s36 := hI.vals ⟨11, 36, fun u _ => u = (.slice k.a1 h.uf.length k.c1)⟩ (by simp) (dep_of hd 11 (by kernel_rfl))
          dsimp only at s36
          clear hd d0 d1 d2 d3 d4
          have hcc := Clone_any k.a1 h.uf.length k.c1 h.uf w HPW.out.r1 HS.out.s1
          refine ⟨rfl, ?_⟩
          unfold Oper.wp
          go_simp
          refine hcc.mono ?_
          rintro e w' ⟨A', c', rfl, ho, hb⟩
          have hkw : Kept (fun k => k = R) w w' := .of_below hb
          have hJ := hI.world.step (L' := upd L 12) HRB.out hb (upd_other L (Nat.ne_of_beq_eq_false rfl))
          exact hI.val 12 37 _ hJ (fun p hp u => by simp only [List.mem_cons, List.not_mem_nil, or_false] at hp; rcases hp with rfl | rfl | rfl | rfl | rfl | rfl | rfl | rfl | rfl | rfl | rfl | rfl | rfl | rfl | rfl | rfl | rfl | rfl | rfl <;> dsimp only <;> first | with_reducible exact fun h => okL.off h hkw HRB.out | with_reducible exact fun h => okH.off h hkw HRB.out | with_reducible exact id) (by rw [hsz]; decide) (by decide) (by kernel_rfl) (fun p hp hj => by simp only [List.mem_cons, List.not_mem_nil, or_false] at hp; rcases hp with rfl | rfl | rfl | rfl | rfl | rfl | rfl | rfl | rfl | rfl | rfl | rfl | rfl | rfl | rfl | rfl | rfl | rfl | rfl <;> first | exact absurd hj (Nat.ne_of_beq_eq_false rfl) | exact ⟨A', c', rfl, ho.mono hI.world.k.size⟩)
        · clear hd
          have hkw : Kept (fun k => k = R) w w := Kept.refl _ _
          have hJ := hI.world.step (L' := upd L 13) HRB.out (Below.refl _ _) (upd_other L (Nat.ne_of_beq_eq_false rfl))
          refine ⟨rfl, ?_⟩
          unfold Oper.wp
          go_simp
          exact hI.val 13 38 _ hJ (fun p hp u => by simp only [List.mem_cons, List.not_mem_nil, or_false] at hp; rcases hp with rfl | rfl | rfl | rfl | rfl | rfl | rfl | rfl | rfl | rfl | rfl | rfl | rfl | rfl | rfl | rfl | rfl | rfl | rfl <;> dsimp only <;> first | with_reducible exact fun h => okL.off h hkw HRB.out | with_reducible exact fun h => okH.off h hkw HRB.out | with_reducible exact id) (by rw [hsz]; decide) (by decide) (by kernel_rfl) (fun p hp hj => by simp only [List.mem_cons, List.not_mem_nil, or_false] at hp; rcases hp with rfl | rfl | rfl | rfl | rfl | rfl | rfl | rfl | rfl | rfl | rfl | rfl | rfl | rfl | rfl | rfl | rfl | rfl | rfl <;> first | exact absurd hj (Nat.ne_of_beq_eq_false rfl) | rfl)
        · clear hd
          have hkw : Kept (fun k => k = R) w w := Kept.refl _ _
          have hJ := hI.world.step (L' := upd L 14) HRB.out (Below.refl _ _) (upd_other L (Nat.ne_of_beq_eq_false rfl))
          refine ⟨rfl, ?_⟩
          unfold Oper.wp
          go_simp
          exact hI.val 14 39 _ hJ (fun p hp u => by simp only [List.mem_cons, List.not_mem_nil, or_false] at hp; rcases hp with rfl | rfl | rfl | rfl | rfl | rfl | rfl | rfl | rfl | rfl | rfl | rfl | rfl | rfl | rfl | rfl | rfl | rfl | rfl <;> dsimp only <;> first | with_reducible exact fun h => okL.off h hkw HRB.out | with_reducible exact fun h => okH.off h hkw HRB.out | with_reducible exact id) (by rw [hsz]; decide) (by decide) (by kernel_rfl) (fun p hp hj => by simp only [List.mem_cons, List.not_mem_nil, or_false] at hp; rcases hp with rfl | rfl | rfl | rfl | rfl | rfl | rfl | rfl | rfl | rfl | rfl | rfl | rfl | rfl | rfl | rfl | rfl | rfl | rfl <;> first | exact absurd hj (Nat.ne_of_beq_eq_false rfl) | rfl)
        · have s39 := hI.vals ⟨14, 39, fun u _ => u = (.pointer (some ⟨W.heap.size, 2, none⟩))⟩ (by simp) (dep_of hd 14 (by kernel_rfl))
          dsimp only at s39
          clear hd
          have hkw : Kept (fun k => k = R) w w := Kept.refl _ _
          have hJ := hI.world.step (L' := upd L 15) HRB.out (Below.refl _ _) (upd_other L (Nat.ne_of_beq_eq_false rfl))
          refine ⟨rfl, ?_⟩
          unfold Oper.wp
          go_simp
          exact hI.val 15 40 _ hJ (fun p hp u => by simp only [List.mem_cons, List.not_mem_nil, or_false] at hp; rcases hp with rfl | rfl | rfl | rfl | rfl | rfl | rfl | rfl | rfl | rfl | rfl | rfl | rfl | rfl | rfl | rfl | rfl | rfl | rfl <;> dsimp only <;> first | with_reducible exact fun h => okL.off h hkw HRB.out | with_reducible exact fun h => okH.off h hkw HRB.out | with_reducible exact id) (by rw [hsz]; decide) (by decide) (by kernel_rfl) (fun p hp hj => by simp only [List.mem_cons, List.not_mem_nil, or_false] at hp; rcases hp with rfl | rfl | rfl | rfl | rfl | rfl | rfl | rfl | rfl | rfl | rfl | rfl | rfl | rfl | rfl | rfl | rfl | rfl | rfl <;> first | exact absurd hj (Nat.ne_of_beq_eq_false rfl) | rfl)
        · have s38 := hI.vals ⟨13, 38, fun u _ => u = (.func (.func 31) #[] #[.pointer (some ⟨g, 0, none⟩)])⟩ (by simp) (dep_of hd 13 (by kernel_rfl))
          dsimp only at s38
          have s40 := hI.vals ⟨15, 40, fun u _ => u = (.slice k.a2 h.up.length k.c2)⟩ (by simp) (dep_of hd 15 (by kernel_rfl))
          dsimp only at s40
          clear hd d0 d1 d2 d3 d4
          have hcc := turnedP_any g p q h.up.length h.dn.length k.a2 h.up.length k.c2 h.up w hmu hmd HGW.out HPCW.out HQCW.out HGL.out HPL2.out HQL2.out HPW.out.r2 HIN.out.i2 HS.out.s2
          refine ⟨rfl, ?_⟩
          unfold Oper.wp
          go_simp
          refine hcc.mono ?_
          rintro e w' ⟨A', c', rfl, ho, hb⟩
          have hkw : Kept (fun k => k = R) w w' := .of_below hb
          have hJ := hI.world.step (L' := upd L 16) HRB.out hb (upd_other L (Nat.ne_of_beq_eq_false rfl))
          exact hI.val 16 41 _ hJ (fun p hp u => by simp only [List.mem_cons, List.not_mem_nil, or_false] at hp; rcases hp with rfl | rfl | rfl | rfl | rfl | rfl | rfl | rfl | rfl | rfl | rfl | rfl | rfl | rfl | rfl | rfl | rfl | rfl | rfl <;> dsimp only <;> first | with_reducible exact fun h => okL.off h hkw HRB.out | with_reducible exact fun h => okH.off h hkw HRB.out | with_reducible exact id) (by rw [hsz]; decide) (by decide) (by kernel_rfl) (fun p hp hj => by simp only [List.mem_cons, List.not_mem_nil, or_false] at hp; rcases hp with rfl | rfl | rfl | rfl | rfl | rfl | rfl | rfl | rfl | rfl | rfl | rfl | rfl | rfl | rfl | rfl | rfl | rfl | rfl <;> first | exact absurd hj (Nat.ne_of_beq_eq_false rfl) | exact ⟨A', c', rfl, ho.mono hI.world.k.size⟩)
        · obtain ⟨A0, c0, e27, o0⟩ := hI.vals ⟨2, 27, okL 65 1 enc32 Wb.heap.size h.node⟩ (by simp) (dep_of hd 2 (by kernel_rfl))
          dsimp only at e27
          have g27 := e27
          rw [Array.getD_eq_getD_getElem?] at g27
          obtain ⟨A1, c1, e30, o1⟩ := hI.vals ⟨5, 30, okL 65 1 enc32 Wb.heap.size h.df⟩ (by simp) (dep_of hd 5 (by kernel_rfl))
          dsimp only at e30
          have g30 := e30
          rw [Array.getD_eq_getD_getElem?] at g30
          obtain ⟨A2, c2, e34, o2⟩ := hI.vals ⟨9, 34, okL 68 4 encK Wb.heap.size (h.dn.map (turnL h.up.length h.dn.length))⟩ (by simp) (dep_of hd 9 (by kernel_rfl))
          dsimp only at e34
          have g34 := e34
          rw [Array.getD_eq_getD_getElem?] at g34
          obtain ⟨A3, c3, e37, o3⟩ := hI.vals ⟨12, 37, okL 65 1 enc32 Wb.heap.size h.uf⟩ (by simp) (dep_of hd 12 (by kernel_rfl))
          dsimp only at e37
          have g37 := e37
          rw [Array.getD_eq_getD_getElem?] at g37
          obtain ⟨A4, c4, e41, o4⟩ := hI.vals ⟨16, 41, okL 68 4 encK Wb.heap.size (h.up.map (turnL h.up.length h.dn.length))⟩ (by simp) (dep_of hd 16 (by kernel_rfl))
          dsimp only at e41
          have g41 := e41
          rw [Array.getD_eq_getD_getElem?] at g41
          clear hd d0 d1 d2 d3 d4
          have hkw : Kept (fun k => k = R) w w := Kept.refl _ _
          have hJ := hI.world.step (L' := upd L 17) HRB.out (Below.refl _ _) (upd_other L (Nat.ne_of_beq_eq_false rfl))
          refine ⟨rfl, ?_⟩
          unfold Oper.wp
          go_simp
          exact hI.val 17 42 _ hJ (fun p hp u => by simp only [List.mem_cons, List.not_mem_nil, or_false] at hp; rcases hp with rfl | rfl | rfl | rfl | rfl | rfl | rfl | rfl | rfl | rfl | rfl | rfl | rfl | rfl | rfl | rfl | rfl | rfl | rfl <;> dsimp only <;> first | with_reducible exact fun h => okL.off h hkw HRB.out | with_reducible exact fun h => okH.off h hkw HRB.out | with_reducible exact id) (by rw [hsz]; decide) (by decide) (by kernel_rfl) (fun p hp hj => by simp only [List.mem_cons, List.not_mem_nil, or_false] at hp; rcases hp with rfl | rfl | rfl | rfl | rfl | rfl | rfl | rfl | rfl | rfl | rfl | rfl | rfl | rfl | rfl | rfl | rfl | rfl | rfl <;> first | exact absurd hj (Nat.ne_of_beq_eq_false rfl) | exact ⟨⟨A0, A1, A2, A3, A4, c0, c1, c2, c3, c4⟩, turn_val h A0 A1 A2 A3 A4 c0 c1 c2 c3 c4, ⟨o0, o1, o2, o3, o4⟩⟩)
        · have s42 := hI.vals ⟨17, 42, okH Wb.heap.size (turnT h)⟩ (by simp) (dep_of hd 17 (by kernel_rfl))
          obtain ⟨q', e42, oh⟩ := s42
          dsimp only at e42
          unfold hierV at e42
          have hz := hI.world.z hL
          have hkw : Kept (fun k => k = R) w (((((w.setCell ⟨R, 0, none⟩ (.slice q'.a0 (turnT h).node.length q'.c0)).setCell ⟨R, 1, none⟩ (.slice q'.a1 (turnT h).uf.length q'.c1)).setCell ⟨R, 2, none⟩ (.slice q'.a2 (turnT h).up.length q'.c2)).setCell ⟨R, 3, none⟩ (.slice q'.a3 (turnT h).df.length q'.c3)).setCell ⟨R, 4, none⟩ (.slice q'.a4 (turnT h).dn.length q'.c4)) := ((((((Kept.refl (fun k => k = R) w).set_ (p := ⟨R, 0, none⟩) (.inl rfl) (.slice q'.a0 (turnT h).node.length q'.c0)).set_ (p := ⟨R, 1, none⟩) (.inl rfl) (.slice q'.a1 (turnT h).uf.length q'.c1)).set_ (p := ⟨R, 2, none⟩) (.inl rfl) (.slice q'.a2 (turnT h).up.length q'.c2)).set_ (p := ⟨R, 3, none⟩) (.inl rfl) (.slice q'.a3 (turnT h).df.length q'.c3)).set_ (p := ⟨R, 4, none⟩) (.inl rfl) (.slice q'.a4 (turnT h).dn.length q'.c4))
          have hfin := (((((hz.set_ 0 (.slice q'.a0 (turnT h).node.length q'.c0)).set_ 1 (.slice q'.a1 (turnT h).uf.length q'.c1)).set_ 2 (.slice q'.a2 (turnT h).up.length q'.c2)).set_ 3 (.slice q'.a3 (turnT h).df.length q'.c3)).set_ 4 (.slice q'.a4 (turnT h).dn.length q'.c4))
          simp only [List.setIfInBounds_toArray, List.set_cons_zero, List.set_cons_succ] at hfin
          have hJ : TurnK (turnT h) R Wb (upd L 18) (((((w.setCell ⟨R, 0, none⟩ (.slice q'.a0 (turnT h).node.length q'.c0)).setCell ⟨R, 1, none⟩ (.slice q'.a1 (turnT h).uf.length q'.c1)).setCell ⟨R, 2, none⟩ (.slice q'.a2 (turnT h).up.length q'.c2)).setCell ⟨R, 3, none⟩ (.slice q'.a3 (turnT h).df.length q'.c3)).setCell ⟨R, 4, none⟩ (.slice q'.a4 (turnT h).dn.length q'.c4)) := ⟨hI.world.k.trans hkw, fun e => (by rw [upd_same] at e; cases e), fun _ => ⟨q', oh.off hkw HRB.out, hfin⟩⟩
          have z0 : w.cell? ⟨R, 0, none⟩ = some (.slice none 0 0) := hz.cell 0
          have y0 := hz.frozen 0
          have z1 : w.cell? ⟨R, 1, none⟩ = some (.slice none 0 0) := hz.cell 1
          have y1 := hz.frozen 1
          have z2 : w.cell? ⟨R, 2, none⟩ = some (.slice none 0 0) := hz.cell 2
          have y2 := hz.frozen 2
          have z3 : w.cell? ⟨R, 3, none⟩ = some (.slice none 0 0) := hz.cell 3
          have y3 := hz.frozen 3
          have z4 : w.cell? ⟨R, 4, none⟩ = some (.slice none 0 0) := hz.cell 4
          have y4 := hz.frozen 4
          clear hd hz hfin oh d0 d1 d2 d3 d4
          refine ⟨rfl, ?_⟩
          unfold Oper.wp
          go_simp
          exact hI.eff 18 hJ (fun p hp u => by simp only [List.mem_cons, List.not_mem_nil, or_false] at hp; rcases hp with rfl | rfl | rfl | rfl | rfl | rfl | rfl | rfl | rfl | rfl | rfl | rfl | rfl | rfl | rfl | rfl | rfl | rfl | rfl <;> dsimp only <;> first | with_reducible exact fun h => okL.off h hkw HRB.out | with_reducible exact fun h => okH.off h hkw HRB.out | with_reducible exact id) (by kernel_rfl)
        · clear hd
          have hkw : Kept (fun k => k = R) w w := Kept.refl _ _
          have hJ := hI.world.step (L' := upd L 19) HRB.out (Below.refl _ _) (upd_other L (Nat.ne_of_beq_eq_false rfl))
          refine ⟨rfl, ?_⟩
          unfold Oper.wp
          go_simp
          exact hI.val 19 3 _ hJ (fun p hp u => by simp only [List.mem_cons, List.not_mem_nil, or_false] at hp; rcases hp with rfl | rfl | rfl | rfl | rfl | rfl | rfl | rfl | rfl | rfl | rfl | rfl | rfl | rfl | rfl | rfl | rfl | rfl | rfl <;> dsimp only <;> first | with_reducible exact fun h => okL.off h hkw HRB.out | with_reducible exact fun h => okH.off h hkw HRB.out | with_reducible exact id) (by rw [hsz]; decide) (by decide) (by kernel_rfl) (fun p hp hj => by simp only [List.mem_cons, List.not_mem_nil, or_false] at hp; rcases hp with rfl | rfl | rfl | rfl | rfl | rfl | rfl | rfl | rfl | rfl | rfl | rfl | rfl | rfl | rfl | rfl | rfl | rfl | rfl <;> first | exact absurd hj (Nat.ne_of_beq_eq_false rfl) | rfl)
      case fin =>
        intro L a w hI hall
        obtain ⟨q', oh, hcr⟩ := hI.world.c (hall 18 (show 18 < 20 by decide))
        have s3 := hI.vals ⟨19, 3, fun u _ => u = (.nilIface)⟩ (by simp) (hall 19 (show 19 < 20 by decide))
        dsimp only at s3
        have hbw := hI.world.k.below HBB.out (fun k e => by subst e; have := HNUM.out; omega) HBB.out.size
        have hend : TurnRes h (chkB h) W (.returned (.tuple #[hierV q' (turnT h), .nilIface])) w := by
          rw [HCH.out]
          exact ⟨q', rfl, (oh.turned HS.out).1, (oh.turned HS.out).2, hbw⟩
        unfold hierV at hend
        have HEND := Lib.hid hend
        have r0 : w.cell? ⟨R, 0, none⟩ = some (.slice q'.a0 (turnT h).node.length q'.c0) := hcr.cell 0
        have r1 : w.cell? ⟨R, 1, none⟩ = some (.slice q'.a1 (turnT h).uf.length q'.c1) := hcr.cell 1
        have r2 : w.cell? ⟨R, 2, none⟩ = some (.slice q'.a2 (turnT h).up.length q'.c2) := hcr.cell 2
        have r3 : w.cell? ⟨R, 3, none⟩ = some (.slice q'.a3 (turnT h).df.length q'.c3) := hcr.cell 3
        have r4 : w.cell? ⟨R, 4, none⟩ = some (.slice q'.a4 (turnT h).dn.length q'.c4) := hcr.cell 4
        have he := arr_of_same hI.size [3, 25, 26, 27, 28, 29, 30, 31, 32, 33, 34, 35, 36, 37, 38, 39, 40, 41, 42] hI.same
        simp only [List.foldl_cons, List.foldl_nil] at he
        rw [s3] at he
        generalize a.tmps.getD 25 undef = u25 at he
        generalize a.tmps.getD 26 undef = u26 at he
        generalize a.tmps.getD 27 undef = u27 at he
        generalize a.tmps.getD 28 undef = u28 at he
        generalize a.tmps.getD 29 undef = u29 at he
        generalize a.tmps.getD 30 undef = u30 at he
        generalize a.tmps.getD 31 undef = u31 at he
        generalize a.tmps.getD 32 undef = u32 at he
        generalize a.tmps.getD 33 undef = u33 at he
        generalize a.tmps.getD 34 undef = u34 at he
        generalize a.tmps.getD 35 undef = u35 at he
        generalize a.tmps.getD 36 undef = u36 at he
        generalize a.tmps.getD 37 undef = u37 at he
        generalize a.tmps.getD 38 undef = u38 at he
        generalize a.tmps.getD 39 undef = u39 at he
        generalize a.tmps.getD 40 undef = u40 at he
        generalize a.tmps.getD 41 undef = u41 at he
        generalize a.tmps.getD 42 undef = u42 at he
        rw [hT0] at he
        simp only [List.setIfInBounds_toArray, List.set_cons_zero, List.set_cons_succ] at he
        have hdfr := hI.dfr
        clear hI hall s3 hbw hend oh hcr
        obtain ⟨T, D⟩ := a
        dsimp only at he hdfr
        subst hdfr
        subst he
        clear hT0 b1 b2 b8 hsz
        go_wp2_with fail
        rw [HQ0.out]
        refine bodyPost_ret (v := .tuple #[.agg #[.slice q'.a0 (turnT h).node.length q'.c0, .slice q'.a1 (turnT h).uf.length q'.c1, .slice q'.a2 (turnT h).up.length q'.c2, .slice q'.a3 (turnT h).df.length q'.c3, .slice q'.a4 (turnT h).dn.length q'.c4], .nilIface]) ?hres rfl HEND.out
        case hres => simp [results, Try.results15, go_sem, r0, r1, r2, r3, r4]

open Go.RowKit

def errZ (b : Bool) : Value := if b then .nilIface else .iface 63 (.int .i64 7)
def ListE (b : Bool) (L : List SeenT) (W : World) (e : Ending) (w' : World) : Prop := ∃ A c, e = .returned (.tuple #[.slice A L.length c, errZ b]) ∧ OwnSn w' W.heap.size (.slice A L.length c) L ∧ Below W.heap.size W w'
theorem lists_of (b : Bool) (n : Nat) (S S' : Nat → List Lk) (t : Lk → Lk) (ht : KeepL t) (s : Nat) (hu : Ups n S) (hn : n ≤ 65536) : ∃ L : List SeenT, L.length ≤ 65536 ∧
    (∀ W e w', ClimbRes (if b then none else some (7, none)) n S S' s W e w' → ListE b L W e w') ∧ (∀ W e w', ClimbRes (if b then none else some (7, none)) n (fun r => (S r).map t) (fun r => (S' r).map t) s W e w' → ListE b L W e w') := by
  cases b with
  | false =>
    refine ⟨[], by simp, fun W e w' h => ?_, fun W e w' h => ?_⟩
    all_goals
      obtain ⟨v, h1, h2⟩ := h
      have hv : v = .iface 63 (.int .i64 7) := by
        have := h2.2
        injection this
      subst hv
      exact ⟨none, 0, h1, Own.nil _ _ _ _ _, h2.1⟩
  | true =>
    by_cases hD : ∃ D, Sol n S s D
    · obtain ⟨D, hD⟩ := hD
      have hlen := seenTo_len D S' n
      refine ⟨seenTo D S' n, by omega, fun W e w' h => ?_, fun W e w' h => ?_⟩
      · obtain ⟨D', hD', A, c, h1, h2, h3⟩ := h
        have e : D' = D := funext (Sol.unique hu hD' hD)
        subst e
        exact ⟨A, c, h1, h2, h3⟩
      · obtain ⟨D', hD', A, c, h1, h2, h3⟩ := h
        have e : D' = D := funext (Sol.unique hu (hD'.unmap ht) hD)
        subst e
        rw [seenTo_map ht] at h1 h2
        exact ⟨A, c, h1, h2, h3⟩
    · refine ⟨[], by simp, fun W e w' h => ?_, fun W e w' h => ?_⟩
      · obtain ⟨D', hD', -⟩ := h
        exact absurd ⟨D', hD'⟩ hD
      · obtain ⟨D', hD', -⟩ := h
        exact absurd ⟨D', hD'.unmap ht⟩ hD
theorem bug_if (h : HierT) (s : Int) (hc : chkB h = none) : ∃ b : Bool, upBug h s = if b then none else some (7, none) := by
  unfold upBug
  rw [hc]
  dsimp only
  by_cases hr : s < 0 ∨ (h.node.length : Int) ≤ s
  · exact ⟨false, by rw [if_pos hr]; rfl⟩
  · exact ⟨true, by rw [if_neg hr]; rfl⟩
theorem turn_lists (h : HierT) (s : Int) (hc : chkB h = none) (hin : InH h) (hs0 : -9223372036854775808 ≤ s) (hs1 : s ≤ 9223372036854775807) : ∃ (b : Bool) (L M : List SeenT), L.length ≤ 65536 ∧ M.length ≤ 65536 ∧
    (∀ k W, RdH W k h → Small k h → Calls Try.prog 9 #[hierV k h, .int .i64 s] W (ListE b L W)) ∧ (∀ k W, RdH W k (turnT h) → Small k (turnT h) → Calls Try.prog 8 #[hierV k (turnT h), .int .i64 s] W (ListE b L W)) ∧
    (∀ k W, RdH W k h → Small k h → Calls Try.prog 8 #[hierV k h, .int .i64 s] W (ListE b M W)) ∧ (∀ k W, RdH W k (turnT h) → Small k (turnT h) → Calls Try.prog 9 #[hierV k (turnT h), .int .i64 s] W (ListE b M W)) := by
  obtain ⟨b, hb⟩ := bug_if h s hc
  have so := Sound.of_none hc
  have hin' := hin.turn so
  have hb' : upBug (turnT h) s = if b then none else some (7, none) := by rw [bug_turn hc, hb]
  obtain ⟨L, hL, l1, l2⟩ := lists_of b h.node.length (seg h.df h.dn) (seg h.uf h.up) _ (keep_turn h.up.length h.dn.length) s.toNat (so.dn hin).ups so.n_le
  obtain ⟨M, hM, m1, m2⟩ := lists_of b h.node.length (seg h.uf h.up) (seg h.df h.dn) _ (keep_turn h.up.length h.dn.length) s.toNat (so.up hin).ups so.n_le
  refine ⟨b, L, M, hL, hM, fun k W hp hs => (Down_any k h s W hp hs hin hs0 hs1).mono fun e w' he => l1 W e w' (hb ▸ he), fun k W hp hs => (Up_any k (turnT h) s W hp hs hin' hs0 hs1).mono fun e w' he => l2 W e w' ?_,
    fun k W hp hs => (Up_any k h s W hp hs hin hs0 hs1).mono fun e w' he => m1 W e w' (hb ▸ he), fun k W hp hs => (Down_any k (turnT h) s W hp hs hin' hs0 hs1).mono fun e w' he => m2 W e w' ?_⟩
  · rw [hb', seg_turn_up, seg_turn_dn] at he
    exact he
  · rw [hb', seg_turn_up, seg_turn_dn] at he
    exact he
set_option maxRecDepth 100000 in
set_option maxHeartbeats 8000000 in
theorem ClimbTurns_any (k : HV) (h : HierT) (s : Int) (W : World) (hp : RdH W k h) (hs : Small k h) (hin : InH h) (hs0 : -9223372036854775808 ≤ s) (hs1 : s ≤ 9223372036854775807) :
    Calls Try.prog 4 #[hierV k h, .int .i64 s] W (BoolBelow true W) := by
  have HP := Lib.hid hp
  have HS := Lib.hid hs
  have HIN := Lib.hid hin
  clear hp hs hin
  unfold hierV
  go_enter Try.func4, Try.ntmps4
  refine wp_post_named' ?_
  intro Q0 hQ0
  have HQ0 := Lib.hid hQ0
  clear hQ0
  go_upto_region 1 with fail
  have hb1 := (Below.refl W.heap.size W).alloc (Nat.le_refl _) (.cells #[.slice k.a0 h.node.length k.c0, .slice k.a1 h.uf.length k.c1, .slice k.a2 h.up.length k.c2, .slice k.a3 h.df.length k.c3, .slice k.a4 h.dn.length k.c4] 25)
  have hc1 := cells_new W #[.slice k.a0 h.node.length k.c0, .slice k.a1 h.uf.length k.c1, .slice k.a2 h.up.length k.c2, .slice k.a3 h.df.length k.c3, .slice k.a4 h.dn.length k.c4] 25
  have hz1 : (W.alloc (.cells #[.slice k.a0 h.node.length k.c0, .slice k.a1 h.uf.length k.c1, .slice k.a2 h.up.length k.c2, .slice k.a3 h.df.length k.c3, .slice k.a4 h.dn.length k.c4] 25)).heap.size = W.heap.size + 1 := by simp
  generalize W.alloc (.cells #[.slice k.a0 h.node.length k.c0, .slice k.a1 h.uf.length k.c1, .slice k.a2 h.up.length k.c2, .slice k.a3 h.df.length k.c3, .slice k.a4 h.dn.length k.c4] 25) = w1 at *
  have HB1 := Lib.hid hb1
  have HC1 := Lib.hid hc1
  have HZ1 := Lib.hid hz1
  clear hb1 hc1 hz1
  go_wp2_with fail
  refine (awake_any w1).mono ?_
  rintro e w2 ⟨rfl, hb⟩
  have HB2 := Lib.hid (HB1.out.trans (hb.mono HB1.out.size))
  have HC2 := Lib.hid (HC1.out.below hb)
  have hx2 : W.heap.size + 1 ≤ w2.heap.size := by have := hb.size; have := HZ1.out; omega
  have HX2 := Lib.hid hx2
  clear hb HB1 HC1 HZ1 hx2
  have HG := Lib.hid (great_any k h w2 HS.out)
  unfold hierV at HG
  have d0 : w2.cell? ⟨W.heap.size, 0, none⟩ = some (.slice k.a0 h.node.length k.c0) := HC2.out.cell 0
  have d1 : w2.cell? ⟨W.heap.size, 1, none⟩ = some (.slice k.a1 h.uf.length k.c1) := HC2.out.cell 1
  have d2 : w2.cell? ⟨W.heap.size, 2, none⟩ = some (.slice k.a2 h.up.length k.c2) := HC2.out.cell 2
  have d3 : w2.cell? ⟨W.heap.size, 3, none⟩ = some (.slice k.a3 h.df.length k.c3) := HC2.out.cell 3
  have d4 : w2.cell? ⟨W.heap.size, 4, none⟩ = some (.slice k.a4 h.dn.length k.c4) := HC2.out.cell 4
  go_wp2_with fail
  refine HG.out.mono ?_
  rintro e w3 ⟨rfl, hb⟩
  have HB3 := Lib.hid (HB2.out.trans (hb.mono HB2.out.size))
  have HC3 := Lib.hid (HC2.out.below hb)
  have HX3 : Hid (W.heap.size + 1 ≤ w3.heap.size) := Lib.hid (Nat.le_trans HX2.out hb.size)
  clear hb d0 d1 d2 d3 d4 HB2 HC2 HX2 HG
  cases greatB h
  rotate_left
  · go_wp2_with fail
    rw [HQ0.out]
    go_ret
    exact ⟨rfl, HB3.out⟩
  have HTU := Lib.hid (Turn_any k h w3 (HP.out.below HB3.out) HS.out HIN.out)
  unfold hierV at HTU
  have d0 : w3.cell? ⟨W.heap.size, 0, none⟩ = some (.slice k.a0 h.node.length k.c0) := HC3.out.cell 0
  have d1 : w3.cell? ⟨W.heap.size, 1, none⟩ = some (.slice k.a1 h.uf.length k.c1) := HC3.out.cell 1
  have d2 : w3.cell? ⟨W.heap.size, 2, none⟩ = some (.slice k.a2 h.up.length k.c2) := HC3.out.cell 2
  have d3 : w3.cell? ⟨W.heap.size, 3, none⟩ = some (.slice k.a3 h.df.length k.c3) := HC3.out.cell 3
  have d4 : w3.cell? ⟨W.heap.size, 4, none⟩ = some (.slice k.a4 h.dn.length k.c4) := HC3.out.cell 4
  go_upto_region 5 with fail
  go_wp2_with fail
  refine HTU.out.mono ?_
  rintro e w4 he
  cases hch : chkB h with
  | some b =>
    rw [hch] at he
    obtain ⟨v, rfl, he⟩ := he
    have HB4 := Lib.hid (HB3.out.trans (he.1.mono HB3.out.size))
    have HC4 := Lib.hid (HC3.out.below he.1)
    have HX4 : Hid (W.heap.size + 1 ≤ w4.heap.size) := Lib.hid (Nat.le_trans HX3.out he.1.size)
    obtain ⟨t, x, ht, hv⟩ := he.iface
    injection hv with hv
    subst hv
    have HUB : Hid (upBug h s = some b) := Lib.hid (by unfold upBug; rw [hch])
    have HT := Lib.hid ht
    clear he d0 d1 d2 d3 d4 HB3 HC3 HX3 HTU hch ht
    have hb5 := (Below.refl w4.heap.size w4).alloc (Nat.le_refl _) (.cells #[.slice none 0 0, .slice none 0 0, .slice none 0 0, .slice none 0 0, .slice none 0 0] 25)
    have HB5 := Lib.hid (HB4.out.trans (hb5.mono HB4.out.size))
    have HC5 := Lib.hid (HC4.out.below hb5)
    have HUP := Lib.hid (Up_any k h s _ (HP.out.below HB5.out) HS.out HIN.out hs0 hs1)
    unfold hierV at HUP
    have ht := HT.out
    clear hb5 HB4 HC4 HT
    rcases ht with rfl | rfl
    all_goals
      go_upto_region 6 with fail
      generalize w4.alloc (.cells #[.slice none 0 0, .slice none 0 0, .slice none 0 0, .slice none 0 0, .slice none 0 0] 25) = w5 at *
      have d0 : w5.cell? ⟨W.heap.size, 0, none⟩ = some (.slice k.a0 h.node.length k.c0) := HC5.out.cell 0
      have d1 : w5.cell? ⟨W.heap.size, 1, none⟩ = some (.slice k.a1 h.uf.length k.c1) := HC5.out.cell 1
      have d2 : w5.cell? ⟨W.heap.size, 2, none⟩ = some (.slice k.a2 h.up.length k.c2) := HC5.out.cell 2
      have d3 : w5.cell? ⟨W.heap.size, 3, none⟩ = some (.slice k.a3 h.df.length k.c3) := HC5.out.cell 3
      have d4 : w5.cell? ⟨W.heap.size, 4, none⟩ = some (.slice k.a4 h.dn.length k.c4) := HC5.out.cell 4
      go_wp2_with fail
      refine HUP.out.mono ?_
      rintro e w6 he
      rw [HUB.out] at he
      obtain ⟨v, rfl, he⟩ := he
      have HB6 := Lib.hid (HB5.out.trans (he.1.mono HB5.out.size))
      obtain ⟨t', x', ht', hv⟩ := he.iface
      injection hv with hv
      subst hv
      clear he d0 d1 d2 d3 d4 HB5 HC5 HUP
      rcases ht' with rfl | rfl
      all_goals
        go_wp2_with fail
        rw [HQ0.out]
        go_ret
        exact ⟨rfl, HB6.out⟩
  | none =>
    rw [hch] at he
    obtain ⟨q, rfl, hrq, hsq, hb⟩ := he
    obtain ⟨b, L, M, hL, hM, hDL, hUL, hUM, hDM⟩ := turn_lists h s hch HIN.out hs0 hs1
    have HDL := Lib.hid hDL
    have HUL := Lib.hid hUL
    have HUM := Lib.hid hUM
    have HDM := Lib.hid hDM
    have HB4 := Lib.hid (HB3.out.trans (hb.mono HB3.out.size))
    have HC4 := Lib.hid (HC3.out.below hb)
    have HX4 : Hid (W.heap.size + 1 ≤ w4.heap.size) := Lib.hid (Nat.le_trans HX3.out hb.size)
    have HRQ4 := Lib.hid hrq
    have HSQ := Lib.hid hsq
    clear hb d0 d1 d2 d3 d4 HB3 HC3 HX3 HTU hch hDL hUL hUM hDM hrq hsq
    unfold hierV
    generalize turnT h = h' at *
    go_upto_region 6 with fail
    have hb5 := (Below.refl w4.heap.size w4).alloc (Nat.le_refl _) (.cells #[.slice q.a0 h'.node.length q.c0, .slice q.a1 h'.uf.length q.c1, .slice q.a2 h'.up.length q.c2, .slice q.a3 h'.df.length q.c3, .slice q.a4 h'.dn.length q.c4] 25)
    have hc5 := cells_new w4 #[.slice q.a0 h'.node.length q.c0, .slice q.a1 h'.uf.length q.c1, .slice q.a2 h'.up.length q.c2, .slice q.a3 h'.df.length q.c3, .slice q.a4 h'.dn.length q.c4] 25
    have hgl : W.heap.size < w4.heap.size := by have := HX4.out; omega
    generalize w4.alloc (.cells #[.slice q.a0 h'.node.length q.c0, .slice q.a1 h'.uf.length q.c1, .slice q.a2 h'.up.length q.c2, .slice q.a3 h'.df.length q.c3, .slice q.a4 h'.dn.length q.c4] 25) = w5 at *
    generalize hG : w4.heap.size = G at *
    have HGG := Lib.hid hG
    have HB5 := Lib.hid (HB4.out.trans (hb5.mono (by have := HX4.out; have := HGG.out; omega)))
    have HC5 := Lib.hid (HC4.out.below (by rw [HGG.out]; exact hb5))
    have HRQ5 := Lib.hid (HRQ4.out.below (by rw [HGG.out]; exact hb5))
    have HQ5 := Lib.hid hc5
    clear hb5 hc5 hgl hG HB4 HC4 HX4 HRQ4 HGG
    have HCC := Lib.hid (HDL.out k w5 (HP.out.below HB5.out) HS.out)
    unfold hierV at HCC
    have d0 : w5.cell? ⟨W.heap.size, 0, none⟩ = some (.slice k.a0 h.node.length k.c0) := HC5.out.cell 0
    have d1 : w5.cell? ⟨W.heap.size, 1, none⟩ = some (.slice k.a1 h.uf.length k.c1) := HC5.out.cell 1
    have d2 : w5.cell? ⟨W.heap.size, 2, none⟩ = some (.slice k.a2 h.up.length k.c2) := HC5.out.cell 2
    have d3 : w5.cell? ⟨W.heap.size, 3, none⟩ = some (.slice k.a3 h.df.length k.c3) := HC5.out.cell 3
    have d4 : w5.cell? ⟨W.heap.size, 4, none⟩ = some (.slice k.a4 h.dn.length k.c4) := HC5.out.cell 4
    go_wp2_with fail
    refine HCC.out.mono ?_
    rintro e w6 ⟨AA, cA, rfl, ho, hb⟩
    have HB6 := Lib.hid (HB5.out.trans (hb.mono HB5.out.size))
    have HC6 := Lib.hid (HC5.out.below hb)
    have HQ6 := Lib.hid (HQ5.out.below hb)
    have HRQ6 := Lib.hid (HRQ5.out.below hb)
    have HOA6 := Lib.hid (ho.rd encSn_len rfl)
    clear hb ho d0 d1 d2 d3 d4 HCC HB5 HC5 HQ5 HRQ5
    have HCC := Lib.hid (HUL.out q w6 (HRQ6.out) HSQ.out)
    unfold hierV at HCC
    have e0 : w6.cell? ⟨G, 0, none⟩ = some (.slice q.a0 h'.node.length q.c0) := HQ6.out.cell 0
    have e1 : w6.cell? ⟨G, 1, none⟩ = some (.slice q.a1 h'.uf.length q.c1) := HQ6.out.cell 1
    have e2 : w6.cell? ⟨G, 2, none⟩ = some (.slice q.a2 h'.up.length q.c2) := HQ6.out.cell 2
    have e3 : w6.cell? ⟨G, 3, none⟩ = some (.slice q.a3 h'.df.length q.c3) := HQ6.out.cell 3
    have e4 : w6.cell? ⟨G, 4, none⟩ = some (.slice q.a4 h'.dn.length q.c4) := HQ6.out.cell 4
    go_wp2_with fail
    refine HCC.out.mono ?_
    rintro e w7 ⟨AB, cB, rfl, ho, hb⟩
    have HB7 := Lib.hid (HB6.out.trans (hb.mono HB6.out.size))
    have HC7 := Lib.hid (HC6.out.below hb)
    have HQ7 := Lib.hid (HQ6.out.below hb)
    have HRQ7 := Lib.hid (HRQ6.out.below hb)
    have HOA7 := Lib.hid (HOA6.out.below hb)
    have HOB7 := Lib.hid (ho.rd encSn_len rfl)
    clear hb ho e0 e1 e2 e3 e4 HCC HB6 HC6 HQ6 HRQ6 HOA6
    have HCC := Lib.hid (HUM.out k w7 (HP.out.below HB7.out) HS.out)
    unfold hierV at HCC
    have d0 : w7.cell? ⟨W.heap.size, 0, none⟩ = some (.slice k.a0 h.node.length k.c0) := HC7.out.cell 0
    have d1 : w7.cell? ⟨W.heap.size, 1, none⟩ = some (.slice k.a1 h.uf.length k.c1) := HC7.out.cell 1
    have d2 : w7.cell? ⟨W.heap.size, 2, none⟩ = some (.slice k.a2 h.up.length k.c2) := HC7.out.cell 2
    have d3 : w7.cell? ⟨W.heap.size, 3, none⟩ = some (.slice k.a3 h.df.length k.c3) := HC7.out.cell 3
    have d4 : w7.cell? ⟨W.heap.size, 4, none⟩ = some (.slice k.a4 h.dn.length k.c4) := HC7.out.cell 4
    go_wp2_with fail
    refine HCC.out.mono ?_
    rintro e w8 ⟨AC, cC, rfl, ho, hb⟩
    have HB8 := Lib.hid (HB7.out.trans (hb.mono HB7.out.size))
    have HC8 := Lib.hid (HC7.out.below hb)
    have HQ8 := Lib.hid (HQ7.out.below hb)
    have HRQ8 := Lib.hid (HRQ7.out.below hb)
    have HOA8 := Lib.hid (HOA7.out.below hb)
    have HOB8 := Lib.hid (HOB7.out.below hb)
    have HOC8 := Lib.hid (ho.rd encSn_len rfl)
    clear hb ho d0 d1 d2 d3 d4 HCC HB7 HC7 HQ7 HRQ7 HOA7 HOB7
    have HCC := Lib.hid (HDM.out q w8 (HRQ8.out) HSQ.out)
    unfold hierV at HCC
    have e0 : w8.cell? ⟨G, 0, none⟩ = some (.slice q.a0 h'.node.length q.c0) := HQ8.out.cell 0
    have e1 : w8.cell? ⟨G, 1, none⟩ = some (.slice q.a1 h'.uf.length q.c1) := HQ8.out.cell 1
    have e2 : w8.cell? ⟨G, 2, none⟩ = some (.slice q.a2 h'.up.length q.c2) := HQ8.out.cell 2
    have e3 : w8.cell? ⟨G, 3, none⟩ = some (.slice q.a3 h'.df.length q.c3) := HQ8.out.cell 3
    have e4 : w8.cell? ⟨G, 4, none⟩ = some (.slice q.a4 h'.dn.length q.c4) := HQ8.out.cell 4
    go_wp2_with fail
    refine HCC.out.mono ?_
    rintro e w9 ⟨AD, cD, rfl, ho, hb⟩
    have HB9 := Lib.hid (HB8.out.trans (hb.mono HB8.out.size))
    have HC9 := Lib.hid (HC8.out.below hb)
    have HQ9 := Lib.hid (HQ8.out.below hb)
    have HRQ9 := Lib.hid (HRQ8.out.below hb)
    have HOA9 := Lib.hid (HOA8.out.below hb)
    have HOB9 := Lib.hid (HOB8.out.below hb)
    have HOC9 := Lib.hid (HOC8.out.below hb)
    have HOD9 := Lib.hid (ho.rd encSn_len rfl)
    clear hb ho e0 e1 e2 e3 e4 HCC HB8 HC8 HQ8 HRQ8 HOA8 HOB8 HOC8
    have HF1 : Hid (∀ w, Below w9.heap.size w9 w → Calls Try.prog 14 #[.slice AA L.length cA] w fun e w' => ∃ A c, e = .returned (.slice A L.length c) ∧ Rd 3 encSn w' A L.length L ∧ Below w.heap.size w w') := Lib.hid fun w hb => (Of_any AA L.length cA L w (HOA9.out.below hb) (by omega)).mono fun e w' he => by
      obtain ⟨A, c, h1, h2, h3⟩ := he
      exact ⟨A, c, h1, h2.rd encSn_len rfl, h3⟩
    have HF2 : Hid (∀ w, Below w9.heap.size w9 w → Calls Try.prog 14 #[.slice AB L.length cB] w fun e w' => ∃ A c, e = .returned (.slice A L.length c) ∧ Rd 3 encSn w' A L.length L ∧ Below w.heap.size w w') := Lib.hid fun w hb => (Of_any AB L.length cB L w (HOB9.out.below hb) (by omega)).mono fun e w' he => by
      obtain ⟨A, c, h1, h2, h3⟩ := he
      exact ⟨A, c, h1, h2.rd encSn_len rfl, h3⟩
    have HF3 : Hid (∀ w, Below w9.heap.size w9 w → Calls Try.prog 14 #[.slice AC M.length cC] w fun e w' => ∃ A c, e = .returned (.slice A M.length c) ∧ Rd 3 encSn w' A M.length M ∧ Below w.heap.size w w') := Lib.hid fun w hb => (Of_any AC M.length cC M w (HOC9.out.below hb) (by omega)).mono fun e w' he => by
      obtain ⟨A, c, h1, h2, h3⟩ := he
      exact ⟨A, c, h1, h2.rd encSn_len rfl, h3⟩
    have HF4 : Hid (∀ w, Below w9.heap.size w9 w → Calls Try.prog 14 #[.slice AD M.length cD] w fun e w' => ∃ A c, e = .returned (.slice A M.length c) ∧ Rd 3 encSn w' A M.length M ∧ Below w.heap.size w w') := Lib.hid fun w hb => (Of_any AD M.length cD M w (HOD9.out.below hb) (by omega)).mono fun e w' he => by
      obtain ⟨A, c, h1, h2, h3⟩ := he
      exact ⟨A, c, h1, h2.rd encSn_len rfl, h3⟩
    have HSA : Hid (∀ (l : List SeenT) (w : World) (A B : Option Addr) (c d : Nat), l.length ≤ 65536 → Rd 3 encSn w A l.length l → Rd 3 encSn w B l.length l → Calls Try.prog 13 #[.slice A l.length c, .slice B l.length d] w (BoolBelow true w)) := Lib.hid fun l w A B c d hl hp hq => SameSn_eq A B l.length c d l w hp hq (by omega)
    have hcl := (Cells.lt HC9.out)
    have d0 : w9.cell? ⟨W.heap.size, 0, none⟩ = some (.slice k.a0 h.node.length k.c0) := HC9.out.cell 0
    have HX : Hid (Below w9.heap.size w9 w9) := Lib.hid (Below.refl _ _)
    have hnn : ∀ w, (binOp .eql 31 Value.nilIface .nilIface).run Try.prog w = .ok (.bool true) w := fun _ => rfl
    have hne : ∀ w, (binOp .eql 31 (.iface 63 (.int .i64 7)) .nilIface).run Try.prog w = .ok (.bool false) w := fun _ => rfl
    go_upto_region 13 with fail
    cases b
    all_goals
      simp only [errZ, if_true, if_false, Bool.false_eq_true] at *
      go_region_held3 (fun w' => w'.cell? ⟨W.heap.size, 0, none⟩ = some (.slice k.a0 h.node.length k.c0)) (first | with_reducible exact d0 | go_keep) (first
        | (go_at_call 14; (with_reducible refine (HF1.out _ ?_).mono ?_); (first | with_reducible exact HX.out | with_reducible exact HX.out.drew); rintro e v ⟨HR1A, HR1c, rfl, ho, hb⟩; have HR1 := Lib.hid ho; clear ho; (try have HR2 := Lib.hid (HR2.out.below (by with_reducible exact hb))); have d0 := cell_below hb d0; have HX : Hid (Below w9.heap.size w9 v) := Lib.hid (by first | with_reducible exact HX.out.trans (hb.mono HX.out.size) | with_reducible exact HX.out.drew.trans (hb.mono HX.out.drew.size)); clear hb)
        | (go_at_call 14; (with_reducible refine (HF2.out _ ?_).mono ?_); (first | with_reducible exact HX.out | with_reducible exact HX.out.drew); rintro e v ⟨HR2A, HR2c, rfl, ho, hb⟩; have HR2 := Lib.hid ho; clear ho; (try have HR1 := Lib.hid (HR1.out.below (by with_reducible exact hb))); have d0 := cell_below hb d0; have HX : Hid (Below w9.heap.size w9 v) := Lib.hid (by first | with_reducible exact HX.out.trans (hb.mono HX.out.size) | with_reducible exact HX.out.drew.trans (hb.mono HX.out.drew.size)); clear hb)
        | (go_at_call 14; (with_reducible refine (HF3.out _ ?_).mono ?_); (first | with_reducible exact HX.out | with_reducible exact HX.out.drew); rintro e v ⟨HR3A, HR3c, rfl, ho, hb⟩; have HR3 := Lib.hid ho; clear ho; (try have HR4 := Lib.hid (HR4.out.below (by with_reducible exact hb))); have d0 := cell_below hb d0; have HX : Hid (Below w9.heap.size w9 v) := Lib.hid (by first | with_reducible exact HX.out.trans (hb.mono HX.out.size) | with_reducible exact HX.out.drew.trans (hb.mono HX.out.drew.size)); clear hb)
        | (go_at_call 14; (with_reducible refine (HF4.out _ ?_).mono ?_); (first | with_reducible exact HX.out | with_reducible exact HX.out.drew); rintro e v ⟨HR4A, HR4c, rfl, ho, hb⟩; have HR4 := Lib.hid ho; clear ho; (try have HR3 := Lib.hid (HR3.out.below (by with_reducible exact hb))); have d0 := cell_below hb d0; have HX : Hid (Below w9.heap.size w9 v) := Lib.hid (by first | with_reducible exact HX.out.trans (hb.mono HX.out.size) | with_reducible exact HX.out.drew.trans (hb.mono HX.out.drew.size)); clear hb)
        | (go_at_call 13; (with_reducible refine (HSA.out L _ _ _ _ _ hL HR1.out HR2.out).mono ?_); rintro e v ⟨rfl, hb⟩; have d0 := cell_below hb d0; have HX : Hid (Below w9.heap.size w9 v) := Lib.hid (by first | with_reducible exact HX.out.trans (hb.mono HX.out.size) | with_reducible exact HX.out.drew.trans (hb.mono HX.out.drew.size)); clear hb)
        | (go_at_call 13; (with_reducible refine (HSA.out M _ _ _ _ _ hM HR3.out HR4.out).mono ?_); rintro e v ⟨rfl, hb⟩; have d0 := cell_below hb d0; have HX : Hid (Below w9.heap.size w9 v) := Lib.hid (by first | with_reducible exact HX.out.trans (hb.mono HX.out.size) | with_reducible exact HX.out.drew.trans (hb.mono HX.out.drew.size)); clear hb))
      all_goals
        rename_i hHeld
        clear hHeld
        have HEND := Lib.hid (HB9.out.trans (HX.out.mono HB9.out.size))
        go_wp2_with fail
        rw [HQ0.out]
        go_ret
        exact ⟨rfl, HEND.out⟩
theorem ClimbTurns_walk (k : HV) (h : HierT) (s : Int) (W : World) (hp : RdH W k h) (hs : Small k h) (hin : InH h) (hw : (Lit.int .i64 s).wf = true) :
    Calls Try.prog 4 #[hierV k h, .int .i64 s] W fun e W' => e = .returned (.bool true) ∧ Below W.heap.size W W' := by
  have h0 : -9223372036854775808 ≤ s ∧ s ≤ 9223372036854775807 := by
    simp only [Lit.wf, Bool.and_eq_true, decide_eq_true_eq] at hw
    exact hw
  exact ClimbTurns_any k h s W hp hs hin h0.1 h0.2
end Go.Proofs.Ytkcnnamghpdplaa
