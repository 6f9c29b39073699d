/- Several texts in one (squeeze.py): ClI ClJ. -/
import Derived.Orders
import Derived.KernelRfl
import Derived.Test.YtkcnnamghpdplaaDoorBase
import Derived.Test.YtkcnnamghpdplaaDoorCells
/- A region that draws its order, by an invariant: each operation once, whatever order is drawn. -/
set_option linter.unusedVariables false
namespace Go.Proofs.YtkcnnamghpdplaaDoor
open Go.RowKit

def upd (L : Nat → Bool) (i : Nat) : Nat → Bool := fun k => if k = i then true else L k
theorem upd_same (L : Nat → Bool) (i : Nat) : upd L i i = true := by unfold upd; rw [if_pos rfl]
theorem upd_other (L : Nat → Bool) {i k : Nat} (h : k ≠ i) : upd L i k = L k := by unfold upd; rw [if_neg h]
/-- do all edges lead back? -/
def backB (ops : Array Oper) : Bool := (List.range ops.size).all fun i => match ops[i]? with
  | some o => o.after.toList.all fun e => decide (e.on < i)
  | none => true
theorem back_of {ops : Array Oper} (h : backB ops = true) {i : Nat} {o : Oper} (ho : ops[i]? = some o) {e : Edge} (he : e ∈ o.after) : e.on < i := by
  have hi : i < ops.size := (Array.getElem?_eq_some_iff.1 ho).1
  unfold backB at h
  have h1 := List.all_eq_true.1 h i (List.mem_range.2 hi)
  rw [ho] at h1
  exact of_decide_eq_true (List.all_eq_true.1 h1 e (Array.mem_toList_iff.2 he))
section
variable {P : Program} {ops : Array Oper} {Q : Exit → Act → World → Prop} {I : (Nat → Bool) → Act → World → Prop}
theorem wpAny_inv (hdag : backB ops = true)
    (hstep : ∀ i o L a w, ops[i]? = some o → I L a w → L i = false → (∀ e ∈ o.after, Region.binds .any e = true → L e.on = true) → o.guard = none ∧ o.wp P a w (fun a' w' => I (upd L i) a' w') Q)
    (hend : ∀ L a w, I L a w → (∀ i, i < ops.size → L i = true) → Q .normal a w) :
    ∀ (fuel : Nat) (listed : Array Bool) (a : Act) (w : World), listed.size = ops.size → listed.toList.countP (fun b => !b) ≤ fuel → I (fun k => listed.getD k false) a w → wpAny P .any ops Q fuel listed a w := by
  have hall : ∀ listed : Array Bool, listed.size = ops.size → Region.ready .any ops listed = [] → ∀ i, i < ops.size → listed.getD i false = true := by
    intro listed hsz hr i
    induction i using Nat.strongRecOn with
    | _ i ih =>
      intro hi
      cases hb : listed.getD i false with
      | true => rfl
      | false =>
        have hm : i ∈ Region.ready .any ops listed := by
          rw [mem_ready]
          refine ⟨?_, ops[i], Array.getElem?_eq_getElem hi, fun e he _ => ?_⟩
          · rw [Array.getD_eq_getD_getElem?, Array.getElem?_eq_getElem (by omega)] at hb ⊢
            exact hb
          · have hlt := back_of hdag (Array.getElem?_eq_getElem hi) he
            exact ih e.on hlt (by omega)
        rw [hr] at hm
        cases hm
  have hone : ∀ (listed : Array Bool) (i : Nat) (hi : i < listed.size), listed[i] = false → (listed.setIfInBounds i true).toList.countP (fun b => !b) + 1 = listed.toList.countP (fun b => !b) := by
    intro listed i hi hf
    rw [Array.toList_setIfInBounds]
    have hi' : i < listed.toList.length := by simpa using hi
    have e1 : listed.toList = listed.toList.take i ++ false :: listed.toList.drop (i + 1) := by
      have := List.take_append_drop i listed.toList
      rw [List.drop_eq_getElem_cons hi'] at this
      rw [show listed.toList[i] = false by simpa using hf] at this
      exact this.symm
    rw [List.set_eq_take_append_cons_drop, if_pos hi']
    rw [List.countP_append, List.countP_cons]
    conv => rhs; rw [e1, List.countP_append, List.countP_cons]
    simp
    omega
  intro fuel
  induction fuel with
  | zero =>
    intro listed a w hsz hc hI
    have hall' : ∀ i, i < ops.size → listed.getD i false = true := by
      intro i hi
      have h0 : listed.toList.countP (fun b => !b) = 0 := by omega
      rw [List.countP_eq_zero] at h0
      have := h0 listed[i] (by simp)
      rw [Array.getD_eq_getD_getElem?, Array.getElem?_eq_getElem (by omega)]
      simpa using this
    refine ⟨?_, hend _ a w hI hall'⟩
    rw [List.eq_nil_iff_forall_not_mem]
    intro i hi
    obtain ⟨h1, o, ho, -⟩ := mem_ready.1 hi
    have hlt : i < ops.size := (Array.getElem?_eq_some_iff.1 ho).1
    have h2 := hall' i hlt
    rw [Array.getD_eq_getD_getElem?, Array.getElem?_eq_getElem (by omega)] at h1 h2
    simp at h1 h2
    rw [h1] at h2
    cases h2
  | succ fuel ih =>
    intro listed a w hsz hc hI
    refine ⟨fun hr => hend _ a w hI (hall listed hsz hr), fun i hi => ?_⟩
    obtain ⟨h1, o, ho, hdep⟩ := mem_ready.1 hi
    have hlt : i < ops.size := (Array.getElem?_eq_some_iff.1 ho).1
    have hli : listed[i]'(by omega) = false := by
      rw [Array.getD_eq_getD_getElem?, Array.getElem?_eq_getElem (by omega)] at h1
      simpa using h1
    obtain ⟨hg, hw⟩ := hstep i o (fun k => listed.getD k false) a w ho hI (by show listed.getD i false = false; rw [Array.getD_eq_getD_getElem?, Array.getElem?_eq_getElem (by omega)]; simpa using hli) hdep
    unfold wpOp
    rw [ho]
    dsimp only
    rw [if_pos (by unfold Region.wanted; rw [hg])]
    refine .inl (Oper.wp_mono (fun a' w' h' => ?_) hw)
    refine ih _ a' w' (by simpa using hsz) (by have := hone listed i (by omega) hli; omega) ?_
    have e : (fun k => (listed.setIfInBounds i true).getD k false) = upd (fun k => listed.getD k false) i := by
      funext k
      unfold upd
      rw [Array.getD_eq_getD_getElem?, Array.getElem?_setIfInBounds]
      by_cases hk : k = i
      · subst hk
        rw [if_pos rfl, if_pos rfl, if_pos (by omega)]
        rfl
      · rw [if_neg (fun h => hk h.symm), if_neg hk]
        show _ = listed.getD k false
        rw [Array.getD_eq_getD_getElem?]
    rw [e]
    exact h'
/-- **a region by an invariant** -/
theorem wp_region_inv {id : Nat} {a : Act} {w : World} (hm : P.follows .mixedOrders = true) (hdag : backB ops = true)
    (h0 : I (fun _ => false) a { w with drawn := w.drawn + 1 })
    (hstep : ∀ i o L a w, ops[i]? = some o → I L a w → L i = false → (∀ e ∈ o.after, Region.binds .any e = true → L e.on = true) → o.guard = none ∧ o.wp P a w (fun a' w' => I (upd L i) a' w') Q)
    (hend : ∀ L a w, I L a w → (∀ i, i < ops.size → L i = true) → Q .normal a w) : (Code.region id ops true).wp P Q a w := by
  refine wp_region_any hm (wpAny_inv hdag hstep hend _ _ _ _ (by simp) ?_ ?_)
  · rw [Array.toList_replicate]
    exact Nat.le_trans List.countP_le_length (by simp)
  · have e : (fun k => (Array.replicate ops.size false).getD k false) = fun _ => false := by
      funext k
      rw [Array.getD_eq_getD_getElem?, Array.getElem?_replicate]
      split <;> rfl
    rw [e]
    exact h0
end
end Go.Proofs.YtkcnnamghpdplaaDoor
/- The invariant of a region that loads, calls what makes new memory alone, lays blocks and fills them. -/
set_option linter.unusedVariables false
namespace Go.Proofs.YtkcnnamghpdplaaDoor
open Go.RowKit

theorem getD_put {a : Act} {d : Nat} (v : Value) (hd : d < a.tmps.size) (k : Nat) : (a.put (some d) v).tmps.getD k undef = if k = d then v else a.tmps.getD k undef := by
  unfold Act.put
  dsimp only
  rw [Array.getD_eq_getD_getElem?, Array.getElem?_setIfInBounds]
  by_cases h : d = k
  · rw [if_pos h, if_pos (by omega), if_pos h.symm]
    rfl
  · rw [if_neg h, if_neg (fun e => h e.symm), Array.getD_eq_getD_getElem?]
/-- a value that an operation brings: the operation, its slot, the value -/
structure ValR where
  op : Nat
  slot : Nat
  v : Value
/-- a block: who lays it, who fills it, its slot, its cells ahead and behind, its type -/
structure BoxR where
  lay : Nat
  fill : Nat
  slot : Nat
  z : Array Value
  c : Array Value
  t : TypeId
/-- an edge that binds -/
theorem dep_of {o : Oper} {L : Nat → Bool} (hd : ∀ e ∈ o.after, Region.binds .any e = true → L e.on = true) (k : Nat) (h : (o.after.toList.any fun e => e.on == k && Region.binds .any e) = true) : L k = true := by
  obtain ⟨e, he, h2⟩ := List.any_eq_true.1 h
  rw [Bool.and_eq_true, beq_iff_eq] at h2
  rw [← h2.1]
  exact hd e (Array.mem_toList_iff.1 he) h2.2
structure RI (tab : List ValR) (bx : List BoxR) (free : List Nat) (T0 : Array Value) (W : World) (L : Nat → Bool) (a : Act) (w : World) : Prop where
  size : a.tmps.size = T0.size
  dfr : a.defers = []
  same : ∀ k, k ∉ free → a.tmps.getD k undef = T0.getD k undef
  below : Below W.heap.size W w
  vals : ∀ p ∈ tab, L p.op = true → a.tmps.getD p.slot undef = p.v
  dep : ∀ b ∈ bx, L b.fill = true → L b.lay = true
  boxes : ∃ G : Nat → Nat, (∀ b ∈ bx, L b.lay = true → a.tmps.getD b.slot undef = .pointer (some ⟨G b.slot, 0, none⟩) ∧ Cells w (G b.slot) (if L b.fill = true then b.c else b.z) b.t ∧ W.heap.size ≤ G b.slot) ∧
    (∀ b ∈ bx, ∀ b' ∈ bx, L b.lay = true → L b'.lay = true → b.slot ≠ b'.slot → G b.slot ≠ G b'.slot)
section
variable {tab : List ValR} {bx : List BoxR} {free : List Nat} {T0 : Array Value} {W : World} {L : Nat → Bool} {a : Act} {w : World}
theorem RI.start {a : Act} {w : World} (hd : a.defers = []) (hb : Below W.heap.size W w) : RI tab bx free a.tmps W (fun _ => false) a w :=
  ⟨rfl, hd, fun _ _ => rfl, hb, fun _ _ h => (by cases h), fun _ _ h => (by cases h), fun _ => 0, fun _ _ h => (by cases h), fun _ _ _ _ h => (by cases h)⟩
/-- an operation that brings a value and new memory at most -/
theorem RI.call (h : RI tab bx free T0 W L a w) {w' : World} (hb : Below w.heap.size w w') (j d : Nat) (v : Value) (hd : d < T0.size) (hfree : d ∈ free)
    (htab : ∀ p ∈ tab, (p.op = j ∧ p.v = v) ∨ (p.op ≠ j ∧ p.slot ≠ d)) (hslot : ∀ p ∈ tab, p.op = j → p.slot = d) (hbx : ∀ b ∈ bx, b.lay ≠ j ∧ b.fill ≠ j ∧ b.slot ≠ d) : RI tab bx free T0 W (upd L j) (a.put (some d) v) w' := by
  have hd' : d < a.tmps.size := by rw [h.size]; exact hd
  obtain ⟨G, h1, h2⟩ := h.boxes
  refine ⟨by rw [← h.size]; simp [Act.put], h.dfr, fun k hk => ?_, h.below.trans (hb.mono h.below.size), fun p hp hl => ?_, fun b hbm hl => by obtain ⟨n1, n2, -⟩ := hbx b hbm; rw [upd_other L n1]; rw [upd_other L n2] at hl; exact h.dep b hbm hl, G, fun b hbm hl => ?_, fun b hbm b' hbm' hl hl' hne => ?_⟩
  · rw [getD_put v hd', if_neg (fun e : k = d => hk (by rw [e]; exact hfree))]
    exact h.same k hk
  · rcases htab p hp with ⟨e, ev⟩ | ⟨e, es⟩
    · rw [getD_put v hd', if_pos (hslot p hp e), ev]
    · rw [getD_put v hd', if_neg es]
      exact h.vals p hp (by rwa [upd_other L e] at hl)
  · obtain ⟨n1, n2, n3⟩ := hbx b hbm
    rw [upd_other L n1] at hl
    obtain ⟨e1, e2, e3⟩ := h1 b hbm hl
    rw [getD_put v hd', if_neg n3, upd_other L n2]
    exact ⟨e1, e2.below hb, e3⟩
  · rw [upd_other L (hbx b hbm).1] at hl
    rw [upd_other L (hbx b' hbm').1] at hl'
    exact h2 b hbm b' hbm' hl hl' hne
theorem RI.lay (h : RI tab bx free T0 W L a w) (j d : Nat) (z : Array Value) (t : TypeId) (hd : d < T0.size) (hfree : d ∈ free)
    (htab : ∀ p ∈ tab, p.op ≠ j ∧ p.slot ≠ d) (hnl : L j = false) (hL : ∀ b ∈ bx, b.lay = j → b.slot = d ∧ b.z = z ∧ b.t = t ∧ b.fill ≠ j) (hbx : ∀ b ∈ bx, b.lay ≠ j → b.fill ≠ j ∧ b.slot ≠ d) :
    RI tab bx free T0 W (upd L j) (a.put (some d) (.pointer (some ⟨w.heap.size, 0, none⟩))) (w.alloc (.cells z t)) := by
  have hd' : d < a.tmps.size := by rw [h.size]; exact hd
  obtain ⟨G, h1, h2⟩ := h.boxes
  have hb : Below w.heap.size w (w.alloc (.cells z t)) := (Below.refl _ _).alloc (Nat.le_refl _) _
  refine ⟨by rw [← h.size]; simp [Act.put], h.dfr, fun k hk => ?_, h.below.trans (hb.mono h.below.size), fun p hp hl => ?_, fun b hbm hl => ?_, fun s => if s = d then w.heap.size else G s, fun b hbm hl => ?_, fun b hbm b' hbm' hl hl' hne => ?_⟩
  · rw [getD_put _ hd', if_neg (fun e : k = d => hk (by rw [e]; exact hfree))]
    exact h.same k hk
  · rw [getD_put _ hd', if_neg (htab p hp).2]
    exact h.vals p hp (by rwa [upd_other L (htab p hp).1] at hl)
  · by_cases e : b.lay = j
    · rw [e, upd_same]
    · rw [upd_other L e]
      exact h.dep b hbm (by rwa [upd_other L (hbx b hbm e).1] at hl)
  · by_cases e : b.lay = j
    · obtain ⟨f2, f3, f4, f5⟩ := hL b hbm e
      have f1 : L b.fill = false := by
        cases hf : L b.fill with
        | false => rfl
        | true =>
          have := h.dep b hbm hf
          rw [e, hnl] at this
          cases this
      rw [getD_put _ hd', if_pos f2, upd_other L f5, f1]
      dsimp only
      rw [if_pos f2, f3, f4]
      exact ⟨rfl, cells_new _ _ _, h.below.size⟩
    · obtain ⟨n2, n3⟩ := hbx b hbm e
      rw [upd_other L e] at hl
      obtain ⟨e1, e2, e3⟩ := h1 b hbm hl
      rw [getD_put _ hd', if_neg n3, upd_other L n2]
      dsimp only
      rw [if_neg n3]
      exact ⟨e1, e2.below hb, e3⟩
  · dsimp only
    have lt : ∀ b ∈ bx, b.lay ≠ j → upd L j b.lay = true → G b.slot < w.heap.size := fun b hbm e hl => by
      rw [upd_other L e] at hl
      exact (h1 b hbm hl).2.1.lt
    by_cases e : b.lay = j
    · have f2 := (hL b hbm e).1
      by_cases e' : b'.lay = j
      · exact absurd (f2.trans (hL b' hbm' e').1.symm) hne
      · rw [if_pos f2, if_neg (hbx b' hbm' e').2]
        have := lt b' hbm' e' hl'
        omega
    · by_cases e' : b'.lay = j
      · rw [if_neg (hbx b hbm e).2, if_pos (hL b' hbm' e').1]
        have := lt b hbm e hl
        omega
      · rw [if_neg (hbx b hbm e).2, if_neg (hbx b' hbm' e').2]
        rw [upd_other L e] at hl
        rw [upd_other L e'] at hl'
        exact h2 b hbm b' hbm' hl hl' hne
/-- a store that fills a block: the world behind it -/
theorem RI.fill (h : RI tab bx free T0 W L a w) (j : Nat) (b : BoxR) (hb : b ∈ bx) (hj : b.fill = j) (hlay : L b.lay = true) (hnf : L j = false) {G : Nat} (hG : a.tmps.getD b.slot undef = .pointer (some ⟨G, 0, none⟩)) {w' : World}
    (hos : w'.os = w.os ∧ w'.tape = w.tape ∧ w'.output = w.output ∧ w'.heap.size = w.heap.size) (hother : ∀ k, k ≠ G → w'.heap[k]? = w.heap[k]?) (hc : Cells w' G b.c b.t)
    (htab : ∀ p ∈ tab, p.op ≠ j) (hsame : ∀ b' ∈ bx, b'.fill = j → L b'.lay = true) (hbx : ∀ b' ∈ bx, b'.lay ≠ j ∧ (b'.fill = j → b'.slot = b.slot ∧ b'.c = b.c ∧ b'.t = b.t) ∧ (b'.fill ≠ j → b'.slot ≠ b.slot)) :
    RI tab bx free T0 W (upd L j) a w' := by
  obtain ⟨G', h1, h2⟩ := h.boxes
  have e0 := h1 b hb hlay
  have eG : G' b.slot = G := by
    have := e0.1.symm.trans hG
    simpa using this
  have hW : W.heap.size ≤ G := by rw [← eG]; exact e0.2.2
  refine ⟨h.size, h.dfr, h.same, ⟨hos.1.trans h.below.os, hos.2.1.trans h.below.tape, hos.2.2.1.trans h.below.output, by rw [hos.2.2.2]; exact h.below.size, fun k hk => (hother k (by omega)).trans (h.below.block k hk)⟩, fun p hp hl => h.vals p hp (by rwa [upd_other L (htab p hp)] at hl), fun b' hbm hl => ?_, G', fun b' hbm hl => ?_, fun b1 hb1 b2 hb2 hl hl' hne => ?_⟩
  · rw [upd_other L (hbx b' hbm).1]
    by_cases e : b'.fill = j
    · have := (hbx b' hbm).2.1 e
      exact hsame b' hbm e
    · exact h.dep b' hbm (by rwa [upd_other L e] at hl)
  · obtain ⟨n1, n2, n3⟩ := hbx b' hbm
    rw [upd_other L n1] at hl
    obtain ⟨e1, e2, e3⟩ := h1 b' hbm hl
    refine ⟨e1, ?_, e3⟩
    by_cases e : b'.fill = j
    · obtain ⟨m1, m2, m3⟩ := n2 e
      rw [e, upd_same, if_pos rfl, m1, m2, m3, eG]
      exact hc
    · rw [upd_other L e]
      have hne : G' b'.slot ≠ G := by
        rw [← eG]
        exact h2 b' hbm b hb hl hlay (n3 e)
      exact (hother _ hne).trans e2
  · rw [upd_other L (hbx b1 hb1).1] at hl
    rw [upd_other L (hbx b2 hb2).1] at hl'
    exact h2 b1 hb1 b2 hb2 hl hl' hne
/-- a frame that differs in the free slots alone -/
theorem arr_of_same {T T0 : Array Value} (hs : T.size = T0.size) : ∀ (ds : List Nat), (∀ k, k ∉ ds → T.getD k undef = T0.getD k undef) → T = ds.foldl (fun A d => A.setIfInBounds d (T.getD d undef)) T0 := by
  have key : ∀ (ds : List Nat) (A : Array Value), A.size = T.size → (∀ k, k ∉ ds → T.getD k undef = A.getD k undef) → T = ds.foldl (fun A d => A.setIfInBounds d (T.getD d undef)) A := by
    intro ds
    induction ds with
    | nil =>
      intro A hA h
      apply Array.ext hA.symm
      intro i h1 h2
      have := h i (by simp)
      rwa [Array.getD_eq_getD_getElem?, Array.getD_eq_getD_getElem?, Array.getElem?_eq_getElem h1, Array.getElem?_eq_getElem h2] at this
    | cons d ds ih =>
      intro A hA h
      refine ih _ (by simpa using hA) fun k hk => ?_
      by_cases e : k = d
      · subst e
        by_cases hlt : k < A.size
        · rw [Array.getD_eq_getD_getElem? (xs := A.setIfInBounds k _), Array.getElem?_setIfInBounds, if_pos rfl, if_pos hlt]
          rfl
        · rw [Array.getD_eq_getD_getElem? (xs := A.setIfInBounds k _), Array.getElem?_eq_none (by simp; omega), Array.getD_eq_getD_getElem?, Array.getElem?_eq_none (by omega)]
      · rw [h k (by simp; exact ⟨e, hk⟩), Array.getD_eq_getD_getElem? (xs := A.setIfInBounds d _), Array.getElem?_setIfInBounds, if_neg (fun h => e h.symm), Array.getD_eq_getD_getElem?]
  exact fun ds h => key ds T0 hs.symm h
end
end Go.Proofs.YtkcnnamghpdplaaDoor
