/- A region that draws its order, by an invariant: each operation once, whatever order is drawn. -/
import Derived.Orders
import Derived.KernelRfl
import Derived.Test.YtkcnnamghpdplaaBase
set_option linter.unusedVariables false
namespace Go.Proofs.Ytkcnnamghpdplaa
open Go.RowKit

def upd (L : Nat → Bool) (i : Nat) : Nat → Bool := fun k => if k = i then true else L k
theorem upd_same (L : Nat → Bool) (i : Nat) : upd L i i = true := by unfold upd; rw [if_pos rfl]
theorem upd_other (L : Nat → Bool) {i k : Nat} (h : k ≠ i) : upd L i k = L k := by unfold upd; rw [if_neg h]
/-- do all edges lead back? -/
def backB (ops : Array Oper) : Bool := (List.range ops.size).all fun i => match ops[i]? with
  | some o => o.after.toList.all fun e => decide (e.on < i)
  | none => true
theorem back_of {ops : Array Oper} (h : backB ops = true) {i : Nat} {o : Oper} (ho : ops[i]? = some o) {e : Edge} (he : e ∈ o.after) : e.on < i := by
  have hi : i < ops.size := (Array.getElem?_eq_some_iff.1 ho).1
  unfold backB at h
  have h1 := List.all_eq_true.1 h i (List.mem_range.2 hi)
  rw [ho] at h1
  exact of_decide_eq_true (List.all_eq_true.1 h1 e (Array.mem_toList_iff.2 he))
section
variable {P : Program} {ops : Array Oper} {Q : Exit → Act → World → Prop} {I : (Nat → Bool) → Act → World → Prop}
theorem wpAny_inv (hdag : backB ops = true)
    (hstep : ∀ i o L a w, ops[i]? = some o → I L a w → L i = false → (∀ e ∈ o.after, Region.binds .any e = true → L e.on = true) → o.guard = none ∧ o.wp P a w (fun a' w' => I (upd L i) a' w') Q)
    (hend : ∀ L a w, I L a w → (∀ i, i < ops.size → L i = true) → Q .normal a w) :
    ∀ (fuel : Nat) (listed : Array Bool) (a : Act) (w : World), listed.size = ops.size → listed.toList.countP (fun b => !b) ≤ fuel → I (fun k => listed.getD k false) a w → wpAny P .any ops Q fuel listed a w := by
  have hall : ∀ listed : Array Bool, listed.size = ops.size → Region.ready .any ops listed = [] → ∀ i, i < ops.size → listed.getD i false = true := by
    intro listed hsz hr i
    induction i using Nat.strongRecOn with
    | _ i ih =>
      intro hi
      cases hb : listed.getD i false with
      | true => rfl
      | false =>
        have hm : i ∈ Region.ready .any ops listed := by
          rw [mem_ready]
          refine ⟨?_, ops[i], Array.getElem?_eq_getElem hi, fun e he _ => ?_⟩
          · rw [Array.getD_eq_getD_getElem?, Array.getElem?_eq_getElem (by omega)] at hb ⊢
            exact hb
          · have hlt := back_of hdag (Array.getElem?_eq_getElem hi) he
            exact ih e.on hlt (by omega)
        rw [hr] at hm
        cases hm
  have hone : ∀ (listed : Array Bool) (i : Nat) (hi : i < listed.size), listed[i] = false → (listed.setIfInBounds i true).toList.countP (fun b => !b) + 1 = listed.toList.countP (fun b => !b) := by
    intro listed i hi hf
    rw [Array.toList_setIfInBounds]
    have hi' : i < listed.toList.length := by simpa using hi
    have e1 : listed.toList = listed.toList.take i ++ false :: listed.toList.drop (i + 1) := by
      have := List.take_append_drop i listed.toList
      rw [List.drop_eq_getElem_cons hi'] at this
      rw [show listed.toList[i] = false by simpa using hf] at this
      exact this.symm
    rw [List.set_eq_take_append_cons_drop, if_pos hi']
    rw [List.countP_append, List.countP_cons]
    conv => rhs; rw [e1, List.countP_append, List.countP_cons]
    simp
    omega
  intro fuel
  induction fuel with
  | zero =>
    intro listed a w hsz hc hI
    have hall' : ∀ i, i < ops.size → listed.getD i false = true := by
      intro i hi
      have h0 : listed.toList.countP (fun b => !b) = 0 := by omega
      rw [List.countP_eq_zero] at h0
      have := h0 listed[i] (by simp)
      rw [Array.getD_eq_getD_getElem?, Array.getElem?_eq_getElem (by omega)]
      simpa using this
    refine ⟨?_, hend _ a w hI hall'⟩
    rw [List.eq_nil_iff_forall_not_mem]
    intro i hi
    obtain ⟨h1, o, ho, -⟩ := mem_ready.1 hi
    have hlt : i < ops.size := (Array.getElem?_eq_some_iff.1 ho).1
    have h2 := hall' i hlt
    rw [Array.getD_eq_getD_getElem?, Array.getElem?_eq_getElem (by omega)] at h1 h2
    simp at h1 h2
    rw [h1] at h2
    cases h2
  | succ fuel ih =>
    intro listed a w hsz hc hI
    refine ⟨fun hr => hend _ a w hI (hall listed hsz hr), fun i hi => ?_⟩
    obtain ⟨h1, o, ho, hdep⟩ := mem_ready.1 hi
    have hlt : i < ops.size := (Array.getElem?_eq_some_iff.1 ho).1
    have hli : listed[i]'(by omega) = false := by
      rw [Array.getD_eq_getD_getElem?, Array.getElem?_eq_getElem (by omega)] at h1
      simpa using h1
    obtain ⟨hg, hw⟩ := hstep i o (fun k => listed.getD k false) a w ho hI (by show listed.getD i false = false; rw [Array.getD_eq_getD_getElem?, Array.getElem?_eq_getElem (by omega)]; simpa using hli) hdep
    unfold wpOp
    rw [ho]
    dsimp only
    rw [if_pos (by unfold Region.wanted; rw [hg])]
    refine .inl (Oper.wp_mono (fun a' w' h' => ?_) hw)
    refine ih _ a' w' (by simpa using hsz) (by have := hone listed i (by omega) hli; omega) ?_
    have e : (fun k => (listed.setIfInBounds i true).getD k false) = upd (fun k => listed.getD k false) i := by
      funext k
      unfold upd
      rw [Array.getD_eq_getD_getElem?, Array.getElem?_setIfInBounds]
      by_cases hk : k = i
      · subst hk
        rw [if_pos rfl, if_pos rfl, if_pos (by omega)]
        rfl
      · rw [if_neg (fun h => hk h.symm), if_neg hk]
        show _ = listed.getD k false
        rw [Array.getD_eq_getD_getElem?]
    rw [e]
    exact h'
/-- **a region by an invariant** -/
theorem wp_region_inv {id : Nat} {a : Act} {w : World} (hm : P.follows .mixedOrders = true) (hdag : backB ops = true)
    (h0 : I (fun _ => false) a { w with drawn := w.drawn + 1 })
    (hstep : ∀ i o L a w, ops[i]? = some o → I L a w → L i = false → (∀ e ∈ o.after, Region.binds .any e = true → L e.on = true) → o.guard = none ∧ o.wp P a w (fun a' w' => I (upd L i) a' w') Q)
    (hend : ∀ L a w, I L a w → (∀ i, i < ops.size → L i = true) → Q .normal a w) : (Code.region id ops true).wp P Q a w := by
  refine wp_region_any hm (wpAny_inv hdag hstep hend _ _ _ _ (by simp) ?_ ?_)
  · rw [Array.toList_replicate]
    exact Nat.le_trans List.countP_le_length (by simp)
  · have e : (fun k => (Array.replicate ops.size false).getD k false) = fun _ => false := by
      funext k
      rw [Array.getD_eq_getD_getElem?, Array.getElem?_replicate]
      split <;> rfl
    rw [e]
    exact h0
end
end Go.Proofs.Ytkcnnamghpdplaa
