/- CrcFixed: the walk: its one region, which draws its order, by an invariant: each operation once, whatever order is drawn. (Printed by gen_fixed.py.) -/
import Derived.Test.YtkhnpmeaklcmaaaWalk7
import Derived.Orders
import Derived.Lib.UnsafeStr
import Derived.Laws.MakeOwn
set_option linter.unusedSimpArgs false
set_option linter.unusedVariables false
namespace Go.Proofs.Ytkhnpmeaklcmaaa
open Go.RowKit Go.Proofs.Ytkhnpmeaklcmaaa.Crc

def upd (L : Nat → Bool) (i : Nat) : Nat → Bool := fun k => if k = i then true else L k
theorem upd_same (L : Nat → Bool) (i : Nat) : upd L i i = true := by unfold upd; rw [if_pos rfl]
theorem upd_other (L : Nat → Bool) {i k : Nat} (h : k ≠ i) : upd L i k = L k := by unfold upd; rw [if_neg h]
/-- do all edges lead back? -/
def backB (ops : Array Oper) : Bool := (List.range ops.size).all fun i => match ops[i]? with
  | some o => o.after.toList.all fun e => decide (e.on < i)
  | none => true
theorem back_of {ops : Array Oper} (h : backB ops = true) {i : Nat} {o : Oper} (ho : ops[i]? = some o) {e : Edge} (he : e ∈ o.after) : e.on < i := by
  have hi : i < ops.size := (Array.getElem?_eq_some_iff.1 ho).1
  unfold backB at h
  have h1 := List.all_eq_true.1 h i (List.mem_range.2 hi)
  rw [ho] at h1
  exact of_decide_eq_true (List.all_eq_true.1 h1 e (Array.mem_toList_iff.2 he))
section
variable {P : Program} {ops : Array Oper} {Q : Exit → Act → World → Prop} {I : (Nat → Bool) → Act → World → Prop}
theorem wpAny_inv (hdag : backB ops = true)
    (hstep : ∀ i o L a w, ops[i]? = some o → I L a w → L i = false → (∀ e ∈ o.after, Region.binds .any e = true → L e.on = true) → Region.wanted o (yielded ops a.tmps) = true ∧ o.wp P a w (fun a' w' => I (upd L i) a' w') Q)
    (hend : ∀ L a w, I L a w → (∀ i, i < ops.size → L i = true) → Q .normal a w) :
    ∀ (fuel : Nat) (listed : Array Bool) (a : Act) (w : World), listed.size = ops.size → listed.toList.countP (fun b => !b) ≤ fuel → I (fun k => listed.getD k false) a w → wpAny P .any ops Q fuel listed a w := by
  have hall : ∀ listed : Array Bool, listed.size = ops.size → Region.ready .any ops listed = [] → ∀ i, i < ops.size → listed.getD i false = true := by
    intro listed hsz hr i
    induction i using Nat.strongRecOn with
    | _ i ih =>
      intro hi
      cases hb : listed.getD i false with
      | true => rfl
      | false =>
        have hm : i ∈ Region.ready .any ops listed := by
          rw [mem_ready]
          refine ⟨?_, ops[i], Array.getElem?_eq_getElem hi, fun e he _ => ?_⟩
          · rw [Array.getD_eq_getD_getElem?, Array.getElem?_eq_getElem (by omega)] at hb ⊢
            exact hb
          · have hlt := back_of hdag (Array.getElem?_eq_getElem hi) he
            exact ih e.on hlt (by omega)
        rw [hr] at hm
        cases hm
  have hone : ∀ (listed : Array Bool) (i : Nat) (hi : i < listed.size), listed[i] = false → (listed.setIfInBounds i true).toList.countP (fun b => !b) + 1 = listed.toList.countP (fun b => !b) := by
    intro listed i hi hf
    rw [Array.toList_setIfInBounds]
    have hi' : i < listed.toList.length := by simpa using hi
    have e1 : listed.toList = listed.toList.take i ++ false :: listed.toList.drop (i + 1) := by
      have := List.take_append_drop i listed.toList
      rw [List.drop_eq_getElem_cons hi'] at this
      rw [show listed.toList[i] = false by simpa using hf] at this
      exact this.symm
    rw [List.set_eq_take_append_cons_drop, if_pos hi']
    rw [List.countP_append, List.countP_cons]
    conv => rhs; rw [e1, List.countP_append, List.countP_cons]
    simp
    omega
  intro fuel
  induction fuel with
  | zero =>
    intro listed a w hsz hc hI
    have hall' : ∀ i, i < ops.size → listed.getD i false = true := by
      intro i hi
      have h0 : listed.toList.countP (fun b => !b) = 0 := by omega
      rw [List.countP_eq_zero] at h0
      have := h0 listed[i] (by simp)
      rw [Array.getD_eq_getD_getElem?, Array.getElem?_eq_getElem (by omega)]
      simpa using this
    refine ⟨?_, hend _ a w hI hall'⟩
    rw [List.eq_nil_iff_forall_not_mem]
    intro i hi
    obtain ⟨h1, o, ho, -⟩ := mem_ready.1 hi
    have hlt : i < ops.size := (Array.getElem?_eq_some_iff.1 ho).1
    have h2 := hall' i hlt
    rw [Array.getD_eq_getD_getElem?, Array.getElem?_eq_getElem (by omega)] at h1 h2
    simp at h1 h2
    rw [h1] at h2
    cases h2
  | succ fuel ih =>
    intro listed a w hsz hc hI
    refine ⟨fun hr => hend _ a w hI (hall listed hsz hr), fun i hi => ?_⟩
    obtain ⟨h1, o, ho, hdep⟩ := mem_ready.1 hi
    have hlt : i < ops.size := (Array.getElem?_eq_some_iff.1 ho).1
    have hli : listed[i]'(by omega) = false := by
      rw [Array.getD_eq_getD_getElem?, Array.getElem?_eq_getElem (by omega)] at h1
      simpa using h1
    obtain ⟨hg, hw⟩ := hstep i o (fun k => listed.getD k false) a w ho hI (by show listed.getD i false = false; rw [Array.getD_eq_getD_getElem?, Array.getElem?_eq_getElem (by omega)]; simpa using hli) hdep
    unfold wpOp
    rw [ho]
    dsimp only
    rw [if_pos hg]
    refine .inl (Oper.wp_mono (fun a' w' h' => ?_) hw)
    refine ih _ a' w' (by simpa using hsz) (by have := hone listed i (by omega) hli; omega) ?_
    have e : (fun k => (listed.setIfInBounds i true).getD k false) = upd (fun k => listed.getD k false) i := by
      funext k
      unfold upd
      rw [Array.getD_eq_getD_getElem?, Array.getElem?_setIfInBounds]
      by_cases hk : k = i
      · subst hk
        rw [if_pos rfl, if_pos rfl, if_pos (by omega)]
        rfl
      · rw [if_neg (fun h => hk h.symm), if_neg hk]
        show _ = listed.getD k false
        rw [Array.getD_eq_getD_getElem?]
    rw [e]
    exact h'
/-- **a region by an invariant** -/
theorem wp_region_inv {id : Nat} {a : Act} {w : World} (hm : P.follows .mixedOrders = true) (hdag : backB ops = true)
    (h0 : I (fun _ => false) a { w with drawn := w.drawn + 1 })
    (hstep : ∀ i o L a w, ops[i]? = some o → I L a w → L i = false → (∀ e ∈ o.after, Region.binds .any e = true → L e.on = true) → Region.wanted o (yielded ops a.tmps) = true ∧ o.wp P a w (fun a' w' => I (upd L i) a' w') Q)
    (hend : ∀ L a w, I L a w → (∀ i, i < ops.size → L i = true) → Q .normal a w) : (Code.region id ops true).wp P Q a w := by
  refine wp_region_any hm (wpAny_inv hdag hstep hend _ _ _ _ (by simp) ?_ ?_)
  · rw [Array.toList_replicate]
    exact Nat.le_trans List.countP_le_length (by simp)
  · have e : (fun k => (Array.replicate ops.size false).getD k false) = fun _ => false := by
      funext k
      rw [Array.getD_eq_getD_getElem?, Array.getElem?_replicate]
      split <;> rfl
    rw [e]
    exact h0
end

theorem getD_put {a : Act} {d : Nat} (v : Value) (hd : d < a.tmps.size) (k : Nat) : (a.put (some d) v).tmps.getD k undef = if k = d then v else a.tmps.getD k undef := by
  unfold Act.put
  dsimp only
  rw [Array.getD_eq_getD_getElem?, Array.getElem?_setIfInBounds]
  by_cases h : d = k
  · rw [if_pos h, if_pos (by omega), if_pos h.symm]
    rfl
  · rw [if_neg h, if_neg (fun e => h e.symm), Array.getD_eq_getD_getElem?]
/-- an edge that binds -/
theorem dep_of {o : Oper} {L : Nat → Bool} (hd : ∀ e ∈ o.after, Region.binds .any e = true → L e.on = true) (k : Nat) (h : (o.after.toList.any fun e => e.on == k && Region.binds .any e) = true) : L k = true := by
  obtain ⟨e, he, h2⟩ := List.any_eq_true.1 h
  rw [Bool.and_eq_true, beq_iff_eq] at h2
  rw [← h2.1]
  exact hd e (Array.mem_toList_iff.1 he) h2.2
/-- a frame that differs in the free slots alone -/
theorem arr_of_same {T T0 : Array Value} (hs : T.size = T0.size) : ∀ (ds : List Nat), (∀ k, k ∉ ds → T.getD k undef = T0.getD k undef) → T = ds.foldl (fun A d => A.setIfInBounds d (T.getD d undef)) T0 := by
  have key : ∀ (ds : List Nat) (A : Array Value), A.size = T.size → (∀ k, k ∉ ds → T.getD k undef = A.getD k undef) → T = ds.foldl (fun A d => A.setIfInBounds d (T.getD d undef)) A := by
    intro ds
    induction ds with
    | nil =>
      intro A hA h
      apply Array.ext hA.symm
      intro i h1 h2
      have := h i (by simp)
      rwa [Array.getD_eq_getD_getElem?, Array.getD_eq_getD_getElem?, Array.getElem?_eq_getElem h1, Array.getElem?_eq_getElem h2] at this
    | cons d ds ih =>
      intro A hA h
      refine ih _ (by simpa using hA) fun k hk => ?_
      by_cases e : k = d
      · subst e
        by_cases hlt : k < A.size
        · rw [Array.getD_eq_getD_getElem? (xs := A.setIfInBounds k _), Array.getElem?_setIfInBounds, if_pos rfl, if_pos hlt]
          rfl
        · rw [Array.getD_eq_getD_getElem? (xs := A.setIfInBounds k _), Array.getElem?_eq_none (by simp; omega), Array.getD_eq_getD_getElem?, Array.getElem?_eq_none (by omega)]
      · rw [h k (by simp; exact ⟨e, hk⟩), Array.getD_eq_getD_getElem? (xs := A.setIfInBounds d _), Array.getElem?_setIfInBounds, if_neg (fun h => e h.symm), Array.getD_eq_getD_getElem?]
  exact fun ds h => key ds T0 hs.symm h
theorem wp_act_nm {P : Program} {c : Code} {Q : Exit → Act → World → Prop} {T : Array Value} {D : List Deferred} {w : World} (h : ∀ T0, T0 = T → c.wp P Q ⟨T0, D⟩ w) : c.wp P Q ⟨T, D⟩ w := h T rfl

/-! ### what a world keeps -/
structure UpW (w w' : World) : Prop where
  cell : ∀ a v, w.cell? a = some v → w'.cell? a = some v
  blk : ∀ (k : Nat) (C : Array Value) (e : TypeId) (fr : Nat × Nat), w.heap[k]? = some (Obj.cells C e fr) → ∃ fr', w'.heap[k]? = some (Obj.cells C e fr')
theorem UpW.refl (w : World) : UpW w w := ⟨fun _ _ h => h, fun k C e fr h => ⟨fr, h⟩⟩
theorem UpW.of_below {w w' : World} (h : Below w.heap.size w w') : UpW w w' :=
  ⟨fun a v hc => cell_below h hc, fun k C e fr hk => ⟨fr, (h.block k (Array.getElem?_eq_some_iff.1 hk).1).trans hk⟩⟩
theorem freeze_get (w : World) (p : Addr) (n k : Nat) : ((w.freeze p n).heap[k]? = w.heap[k]?) ∨ ∃ C e fr fr', w.heap[k]? = some (Obj.cells C e fr) ∧ (w.freeze p n).heap[k]? = some (Obj.cells C e fr') := by
  unfold World.freeze
  split
  · exact .inl rfl
  · show ((w.heap.modify _ _)[k]? = _) ∨ ∃ C e fr fr', _ ∧ (w.heap.modify _ _)[k]? = _
    rw [Array.getElem?_modify]
    by_cases hk : p.block = k
    · rw [if_pos hk]
      cases ho : w.heap[k]? with
      | none => exact .inl rfl
      | some ob =>
        cases ob with
        | cells C e fr => obtain ⟨lo, hi⟩ := fr; exact .inr ⟨C, e, (lo, hi), _, rfl, rfl⟩
        | _ => exact .inl rfl
    · rw [if_neg hk]
      exact .inl rfl
theorem cell_of_heap {w w' : World} (h : ∀ k : Nat, (w'.heap[k]? = w.heap[k]?) ∨ ∃ C e fr fr', w.heap[k]? = some (Obj.cells C e fr) ∧ w'.heap[k]? = some (Obj.cells C e fr')) (a : Addr) : w'.cell? a = w.cell? a := by
  unfold World.cell?
  rcases h a.block with h | ⟨C, e, fr, fr', h1, h2⟩
  · rw [h]
  · rw [h1, h2]
theorem UpW.freeze (w : World) (p : Addr) (n : Nat) : UpW w (w.freeze p n) := by
  refine ⟨fun a v hc => by rw [cell_of_heap (freeze_get w p n)]; exact hc, fun k C e fr hk => ?_⟩
  rcases freeze_get w p n k with h | ⟨C', e', fr1, fr', h1, h2⟩
  · exact ⟨fr, h.trans hk⟩
  · rw [hk] at h1
    injection h1 with h1
    injection h1 with h1 h3 h4
    subst h1 h3
    exact ⟨fr', h2⟩
theorem rd_up {w w' : World} {A : Option Addr} {n : Nat} {l : List Int} (h : RdB w A n l) (hu : UpW w w') : RdB w' A n l :=
  ⟨h.1, fun hp => by
    obtain ⟨ad, hA, hc⟩ := h.2 hp
    exact ⟨ad, hA, fun j x i u hj hi => hu.cell _ _ (hc j x i u hj hi)⟩⟩
theorem conv_const (w : World) (g n c : Nat) (C : Array Value) (fr : Nat × Nat) (h : w.heap[g]? = some (Obj.cells C 5 fr)) :
    (convert 23 23 (.slice (some ⟨g, 0, none⟩) n c)).run Try.prog w = .ok (.slice (some ⟨g, 0, none⟩) n c) (w.freeze ⟨g, C.size, none⟩ 1) := by
  have hsh : w.shape? g = some (5, C.size) := by
    unfold World.shape?
    rw [h]
  simp [convert, run_underlying Try.underlying23, run_underlying Try.underlying5, markStringish, hsh]
theorem rd_blk {w : World} {g : Nat} {l : List Int} {t : TypeId} {fr : Nat × Nat} (h : w.heap[g]? = some (Obj.cells (l.flatMap u8s).toArray t fr)) : RdB w (some ⟨g, 0, none⟩) l.length l := by
  refine ⟨rfl, fun _ => ⟨_, rfl, fun j x i u hj hi => ?_⟩⟩
  have hi0 : i = 0 := by
    have := (List.getElem?_eq_some_iff.1 hi).1
    simpa using this
  subst hi0
  have e : ((⟨g, 0, none⟩ : Addr).add (j * 1 + 0)) = ⟨g, j, none⟩ := by
    rw [Nat.mul_one, Nat.add_zero]
    cases j <;> simp [Addr.add]
  rw [e, cell_of_row w g j _ t fr h]
  have h2 := flat_get (enc := u8s) (sz := 1) (fun _ => rfl) l j 0 (by omega)
  rw [Nat.mul_one, Nat.add_zero, hj] at h2
  rw [List.getElem?_toArray, h2]
  exact hi
/-! ### what the values are -/
def isT (v : Value) (_ : World) : Prop := v = .bool true
def isN (c : Int) (v : Value) (_ : World) : Prop := v = .int .u32 c
def isS (B : Nat) (l : List Int) (v : Value) (w : World) : Prop := ∃ g fr, v = .slice (some ⟨g, 0, none⟩) l.length l.length ∧ B ≤ g ∧ w.heap[g]? = some (Obj.cells (l.flatMap u8s).toArray 5 fr)
def isR (l : List Int) (v : Value) (w : World) : Prop := ∃ A c, v = .slice A l.length c ∧ RdB w A l.length l
theorem isS.up {B : Nat} {l : List Int} {v : Value} {w w' : World} (h : isS B l v w) (hu : UpW w w') : isS B l v w' := by
  obtain ⟨g, fr, h1, h2, h3⟩ := h
  obtain ⟨fr', h4⟩ := hu.blk _ _ _ _ h3
  exact ⟨g, fr', h1, h2, h4⟩
theorem isR.up {l : List Int} {v : Value} {w w' : World} (h : isR l v w) (hu : UpW w w') : isR l v w' := by
  obtain ⟨A, c, h1, h2⟩ := h
  exact ⟨A, c, h1, rd_up h2 hu⟩
/-- the value of each operation -/
def okv (B : Nat) : Nat → Value → World → Prop
  | 0 => isT
  | 1 => isT
  | 2 => isN 0
  | 3 => isT
  | 4 => isT
  | 5 => isT
  | 6 => isS B [97]
  | 7 => isS B [97]
  | 8 => isN 3904355907
  | 9 => isT
  | 10 => isT
  | 11 => isT
  | 12 => isS B [0, 0, 0, 0]
  | 13 => isN 558161692
  | 14 => isT
  | 15 => isT
  | 16 => isT
  | 17 => isR (sealed [])
  | 18 => isS B [0, 0, 0, 0]
  | 19 => isT
  | 20 => isT
  | 21 => isT
  | 22 => isS B [0, 0, 0, 0]
  | 23 => isT
  | 24 => isT
  | 25 => isT
  | 26 => isS B [97]
  | 27 => isS B [97]
  | 28 => isR (sealed [97])
  | 29 => isS B [97, 67, 190, 183, 232]
  | 30 => isT
  | 31 => isT
  | 32 => isT
  | 33 => isN 6
  | 34 => isT
  | 35 => isT
  | 36 => isT
  | 37 => isN 6
  | 38 => isT
  | 39 => isT
  | 40 => isT
  | 41 => isS B [49, 50, 51, 52]
  | 42 => isS B [49, 50, 51, 52]
  | 43 => isN ((sum [49, 50, 51, 52]).toNat : Int)
  | 44 => isS B [53, 54, 55, 56, 57]
  | 45 => isS B [53, 54, 55, 56, 57]
  | 46 => isN ((sum [53, 54, 55, 56, 57]).toNat : Int)
  | 47 => isN 3421780262
  | 48 => isT
  | 49 => isT
  | _ => fun _ _ => True
theorem okv.up (B : Nat) : ∀ (i : Nat) (v : Value) (w w' : World), UpW w w' → okv B i v w → okv B i v w' 
  | 0, _, _, _, hu, h => h
  | 1, _, _, _, hu, h => h
  | 2, _, _, _, hu, h => h
  | 3, _, _, _, hu, h => h
  | 4, _, _, _, hu, h => h
  | 5, _, _, _, hu, h => h
  | 6, _, _, _, hu, h => isS.up h hu
  | 7, _, _, _, hu, h => isS.up h hu
  | 8, _, _, _, hu, h => h
  | 9, _, _, _, hu, h => h
  | 10, _, _, _, hu, h => h
  | 11, _, _, _, hu, h => h
  | 12, _, _, _, hu, h => isS.up h hu
  | 13, _, _, _, hu, h => h
  | 14, _, _, _, hu, h => h
  | 15, _, _, _, hu, h => h
  | 16, _, _, _, hu, h => h
  | 17, _, _, _, hu, h => isR.up h hu
  | 18, _, _, _, hu, h => isS.up h hu
  | 19, _, _, _, hu, h => h
  | 20, _, _, _, hu, h => h
  | 21, _, _, _, hu, h => h
  | 22, _, _, _, hu, h => isS.up h hu
  | 23, _, _, _, hu, h => h
  | 24, _, _, _, hu, h => h
  | 25, _, _, _, hu, h => h
  | 26, _, _, _, hu, h => isS.up h hu
  | 27, _, _, _, hu, h => isS.up h hu
  | 28, _, _, _, hu, h => isR.up h hu
  | 29, _, _, _, hu, h => isS.up h hu
  | 30, _, _, _, hu, h => h
  | 31, _, _, _, hu, h => h
  | 32, _, _, _, hu, h => h
  | 33, _, _, _, hu, h => h
  | 34, _, _, _, hu, h => h
  | 35, _, _, _, hu, h => h
  | 36, _, _, _, hu, h => h
  | 37, _, _, _, hu, h => h
  | 38, _, _, _, hu, h => h
  | 39, _, _, _, hu, h => h
  | 40, _, _, _, hu, h => h
  | 41, _, _, _, hu, h => isS.up h hu
  | 42, _, _, _, hu, h => isS.up h hu
  | 43, _, _, _, hu, h => h
  | 44, _, _, _, hu, h => isS.up h hu
  | 45, _, _, _, hu, h => isS.up h hu
  | 46, _, _, _, hu, h => h
  | 47, _, _, _, hu, h => h
  | 48, _, _, _, hu, h => h
  | 49, _, _, _, hu, h => h
  | _ + 50, _, _, _, _, _ => True.intro
structure RF (W : World) (L : Nat → Bool) (a : Act) (w : World) : Prop where
  size : a.tmps.size = 51
  dfr : a.defers = []
  below : Below W.heap.size W w
  vals : ∀ i, i < 50 → L i = true → okv W.heap.size i (a.tmps.getD (i + 1) undef) w
  res : L 50 = true → a.tmps.getD 0 undef = .bool true
theorem RF.val {W : World} {L : Nat → Bool} {a : Act} {w w' : World} (h : RF W L a w) (j : Nat) (hj : j < 50) (v : Value) (hb : Below W.heap.size W w') (hu : UpW w w') (hv : okv W.heap.size j v w') : RF W (upd L j) (a.put (some (j + 1)) v) w' := by
  have hd : j + 1 < a.tmps.size := by rw [h.size]; omega
  refine ⟨by rw [← h.size]; simp [Act.put], h.dfr, hb, fun i hi hl => ?_, fun hl => ?_⟩
  · rw [getD_put v hd]
    by_cases e : i = j
    · subst e
      rw [if_pos rfl]
      exact hv
    · rw [if_neg (by omega)]
      rw [upd_other L e] at hl
      exact okv.up _ _ _ _ _ hu (h.vals i hi hl)
  · rw [getD_put v hd, if_neg (by omega)]
    rw [upd_other L (by omega)] at hl
    exact h.res hl
theorem RF.last {W : World} {L : Nat → Bool} {a : Act} {w : World} (h : RF W L a w) : RF W (upd L 50) (a.put (some 0) (.bool true)) w := by
  have hd : 0 < a.tmps.size := by rw [h.size]; omega
  refine ⟨by rw [← h.size]; simp [Act.put], h.dfr, h.below, fun i hi hl => ?_, fun hl => ?_⟩
  · rw [getD_put _ hd, if_neg (by omega)]
    rw [upd_other L (by omega)] at hl
    exact h.vals i hi hl
  · rw [getD_put _ hd, if_pos rfl]
theorem want_true {ops : Array Oper} {o : Oper} {a : Act} {j d : Nat} (hg : o.guard = some (j, true)) (hd : (ops[j]?).bind (·.dst) = some d) (hs : d < a.tmps.size) (hv : a.tmps.getD d undef = .bool true) : Region.wanted o (yielded ops a.tmps) = true := by
  have h1 : a.tmps[d]? = some (.bool true) := by
    rw [Array.getD_eq_getD_getElem?, Array.getElem?_eq_getElem hs] at hv
    rw [Array.getElem?_eq_getElem hs]
    exact congrArg some hv
  have hy : yielded ops a.tmps j = some true := by
    unfold yielded
    rw [hd]
    show (match a.tmps[d]? with | some (.bool b) => some b | _ => none) = _
    rw [h1]
  unfold Region.wanted
  rw [hg]
  simp [hy]
theorem sum_e : ((sum []).toNat : Int) = 0 := by decide +kernel
theorem sum_a : ((sum [97]).toNat : Int) = 3904355907 := by decide +kernel
theorem sum_z : ((sum [0, 0, 0, 0]).toNat : Int) = 558161692 := by decide +kernel
theorem seal_e : sealed [] = [0, 0, 0, 0] := by decide +kernel
theorem seal_a : sealed [97] = [97, 67, 190, 183, 232] := by decide +kernel
theorem fits_z : fits [0, 0, 0, 0] = true := by decide +kernel
theorem join_9 : ((turns (8 * 5) (sum [49, 50, 51, 52]) ^^^ sum [53, 54, 55, 56, 57]).toNat : Int) = 3421780262 := by decide +kernel
theorem join_5 : ((turns (8 * 0) (5#32) ^^^ 3#32).toNat : Int) = 6 := by decide +kernel
theorem in_z : InB [0, 0, 0, 0] := by unfold InB; decide
theorem in_4 : InB [49, 50, 51, 52] := by unfold InB; decide
theorem in_5 : InB [53, 54, 55, 56, 57] := by unfold InB; decide
theorem in_s : InB [97, 67, 190, 183, 232] := by unfold InB; decide
theorem make_4 (w : World) : (Instr.makeSlice 23 (.int .i64 4) (.int .i64 4)).run Try.prog w = .ok (.slice (some ⟨w.heap.size, 0, none⟩) 4 4) (w.alloc (.cells #[.int .u8 0, .int .u8 0, .int .u8 0, .int .u8 0] 5)) := by
  obtain ⟨i, hi, hz0, hz1, hz2⟩ := info_parts info_u8
  have h := run_make (P := Try.prog) w 23 5 i _ Try.underlying23 hi hz0 .i64 .i64 4 4 (by omega) (by omega) (by rw [hz2]; omega) (by omega)
  have e : madeCells (Value.int IntKind.u8 0).cells (Int.toNat 4 * 1) = #[.int .u8 0, .int .u8 0, .int .u8 0, .int .u8 0] := by
    apply Array.toList_inj.1
    exact (toList_madeCells_one _ _).trans rfl
  rw [h, hz1, e]
  rfl
set_option maxRecDepth 100000 in
set_option maxHeartbeats 8000000 in
theorem CrcFixed_walk (W : World) : Calls Try.prog 9 #[] W fun e W' => e = .returned (.bool true) ∧ Below W.heap.size W W' := by
  have SE := Lib.hid sum_e
  have SA := Lib.hid sum_a
  have SZ := Lib.hid sum_z
  have J9 := Lib.hid join_9
  have J5 := Lib.hid join_5
  go_enter Try.func9, Try.ntmps9
  go_upto_region 1 with fail
  refine wp_act_nm ?_
  intro T0 hT0
  have hsz : T0.size = 51 := by rw [hT0]; rfl
  clear hT0
  have h0 : RF W (fun _ => false) { tmps := T0, defers := [] } W.drew := ⟨hsz, rfl, Below.drew (Below.refl _ _), fun _ _ h => (by cases h), fun h => (by cases h)⟩
  refine wp_region_inv (I := RF W) (by kernel_rfl) (by kernel_rfl) h0 ?step ?fin
  case step =>
    clear h0
    intro i o L a w ho hI hL hd
    have hsz := hI.size
    have hlt : i < 51 := (Array.getElem?_eq_some_iff.1 ho).1
    rcases (show i = 0 ∨ i = 1 ∨ i = 2 ∨ i = 3 ∨ i = 4 ∨ i = 5 ∨ i = 6 ∨ i = 7 ∨ i = 8 ∨ i = 9 ∨ i = 10 ∨ i = 11 ∨ i = 12 ∨ i = 13 ∨ i = 14 ∨ i = 15 ∨ i = 16 ∨ i = 17 ∨ i = 18 ∨ i = 19 ∨ i = 20 ∨ i = 21 ∨ i = 22 ∨ i = 23 ∨ i = 24 ∨ i = 25 ∨ i = 26 ∨ i = 27 ∨ i = 28 ∨ i = 29 ∨ i = 30 ∨ i = 31 ∨ i = 32 ∨ i = 33 ∨ i = 34 ∨ i = 35 ∨ i = 36 ∨ i = 37 ∨ i = 38 ∨ i = 39 ∨ i = 40 ∨ i = 41 ∨ i = 42 ∨ i = 43 ∨ i = 44 ∨ i = 45 ∨ i = 46 ∨ i = 47 ∨ i = 48 ∨ i = 49 ∨ i = 50 by omega) with rfl | rfl | rfl | rfl | rfl | rfl | rfl | rfl | rfl | rfl | rfl | rfl | rfl | rfl | rfl | rfl | rfl | rfl | rfl | rfl | rfl | rfl | rfl | rfl | rfl | rfl | rfl | rfl | rfl | rfl | rfl | rfl | rfl | rfl | rfl | rfl | rfl | rfl | rfl | rfl | rfl | rfl | rfl | rfl | rfl | rfl | rfl | rfl | rfl | rfl | rfl <;> (obtain rfl := Option.some.inj ho) <;> clear ho
    · refine ⟨rfl, ?_⟩
      clear hd
      unfold Oper.wp
      go_simp
      refine (awake_any w).mono ?_
      rintro e w' ⟨rfl, hb⟩
      exact hI.val 0 (by omega) _ (hI.below.trans (hb.mono hI.below.size)) (UpW.of_below hb) rfl
    · refine ⟨rfl, ?_⟩
      have s0 : a.tmps.getD 1 undef = .bool true := hI.vals 0 (by omega) (dep_of hd 0 (by kernel_rfl))
      clear hd
      unfold Oper.wp
      go_simp
      exact hI.val 1 (by omega) _ hI.below (UpW.refl _) rfl
    · refine ⟨want_true (j := 1) (d := 2) rfl rfl (by rw [hI.size]; decide) (hI.vals 1 (by omega) (dep_of hd 1 (by kernel_rfl))), ?_⟩
      clear hd
      unfold Oper.wp
      go_simp
      refine (Sum_any none 0 0 [] w Rd.nil InB.nil (by unfold maxLen; omega)).mono ?_
      rintro e w' ⟨rfl, rfl⟩
      rw [SE.out]
      exact hI.val 2 (by omega) _ hI.below (UpW.refl _) rfl
    · refine ⟨want_true (j := 1) (d := 2) rfl rfl (by rw [hI.size]; decide) (hI.vals 1 (by omega) (dep_of hd 1 (by kernel_rfl))), ?_⟩
      have s2 : a.tmps.getD 3 undef = .int .u32 0 := hI.vals 2 (by omega) (dep_of hd 2 (by kernel_rfl))
      clear hd
      unfold Oper.wp
      go_simp
      exact hI.val 3 (by omega) _ hI.below (UpW.refl _) rfl
    · refine ⟨rfl, ?_⟩
      have s1 : a.tmps.getD 2 undef = .bool true := hI.vals 1 (by omega) (dep_of hd 1 (by kernel_rfl))
      have s3 : a.tmps.getD 4 undef = .bool true := hI.vals 3 (by omega) (dep_of hd 3 (by kernel_rfl))
      clear hd
      unfold Oper.wp
      go_simp
      exact hI.val 4 (by omega) _ hI.below (UpW.refl _) rfl
    · refine ⟨rfl, ?_⟩
      have s4 : a.tmps.getD 5 undef = .bool true := hI.vals 4 (by omega) (dep_of hd 4 (by kernel_rfl))
      clear hd
      unfold Oper.wp
      go_simp
      exact hI.val 5 (by omega) _ hI.below (UpW.refl _) rfl
    · refine ⟨want_true (j := 5) (d := 6) rfl rfl (by rw [hI.size]; decide) (hI.vals 5 (by omega) (dep_of hd 5 (by kernel_rfl))), ?_⟩
      clear hd
      unfold Oper.wp
      go_simp
      exact hI.val 6 (by omega) _ (hI.below.alloc hI.below.size _) (UpW.of_below ((Below.refl _ _).alloc (Nat.le_refl _) _)) ⟨w.heap.size, (0, 0), rfl, hI.below.size, heap_alloc_new _ _⟩
    · refine ⟨want_true (j := 5) (d := 6) rfl rfl (by rw [hI.size]; decide) (hI.vals 5 (by omega) (dep_of hd 5 (by kernel_rfl))), ?_⟩
      obtain ⟨g6, fr6, e6, hg6, hk6⟩ := hI.vals 6 (by omega) (dep_of hd 6 (by kernel_rfl))
      have s6 : a.tmps.getD 7 undef = .slice (some ⟨g6, 0, none⟩) 1 1 := e6
      have kc := conv_const w g6 1 1 _ fr6 hk6
      clear hd
      unfold Oper.wp
      go_simp
      exact hI.val 7 (by omega) _ (Lib.below_freeze hI.below hg6 1) (UpW.freeze _ _ _) (isS.up ⟨g6, fr6, rfl, hg6, hk6⟩ (UpW.freeze _ _ _))
    · refine ⟨want_true (j := 5) (d := 6) rfl rfl (by rw [hI.size]; decide) (hI.vals 5 (by omega) (dep_of hd 5 (by kernel_rfl))), ?_⟩
      obtain ⟨g7, fr7, e7, hg7, hk7⟩ := hI.vals 7 (by omega) (dep_of hd 7 (by kernel_rfl))
      have s7 : a.tmps.getD 8 undef = .slice (some ⟨g7, 0, none⟩) 1 1 := e7
      clear hd
      unfold Oper.wp
      go_simp
      refine (Sum_any (some ⟨g7, 0, none⟩) 1 1 [97] w (rd_blk hk7) in_a (by unfold maxLen; omega)).mono ?_
      rintro e w' ⟨rfl, rfl⟩
      rw [SA.out]
      exact hI.val 8 (by omega) _ hI.below (UpW.refl _) rfl
    · refine ⟨want_true (j := 5) (d := 6) rfl rfl (by rw [hI.size]; decide) (hI.vals 5 (by omega) (dep_of hd 5 (by kernel_rfl))), ?_⟩
      have s8 : a.tmps.getD 9 undef = .int .u32 3904355907 := hI.vals 8 (by omega) (dep_of hd 8 (by kernel_rfl))
      clear hd
      unfold Oper.wp
      go_simp
      exact hI.val 9 (by omega) _ hI.below (UpW.refl _) rfl
    · refine ⟨rfl, ?_⟩
      have s5 : a.tmps.getD 6 undef = .bool true := hI.vals 5 (by omega) (dep_of hd 5 (by kernel_rfl))
      have s9 : a.tmps.getD 10 undef = .bool true := hI.vals 9 (by omega) (dep_of hd 9 (by kernel_rfl))
      clear hd
      unfold Oper.wp
      go_simp
      exact hI.val 10 (by omega) _ hI.below (UpW.refl _) rfl
    · refine ⟨rfl, ?_⟩
      have s10 : a.tmps.getD 11 undef = .bool true := hI.vals 10 (by omega) (dep_of hd 10 (by kernel_rfl))
      clear hd
      unfold Oper.wp
      go_simp
      exact hI.val 11 (by omega) _ hI.below (UpW.refl _) rfl
    · refine ⟨want_true (j := 11) (d := 12) rfl rfl (by rw [hI.size]; decide) (hI.vals 11 (by omega) (dep_of hd 11 (by kernel_rfl))), ?_⟩
      have km := make_4 w
      clear hd
      unfold Oper.wp
      go_simp
      exact hI.val 12 (by omega) _ (hI.below.alloc hI.below.size _) (UpW.of_below ((Below.refl _ _).alloc (Nat.le_refl _) _)) ⟨w.heap.size, (0, 0), rfl, hI.below.size, heap_alloc_new _ _⟩
    · refine ⟨want_true (j := 11) (d := 12) rfl rfl (by rw [hI.size]; decide) (hI.vals 11 (by omega) (dep_of hd 11 (by kernel_rfl))), ?_⟩
      obtain ⟨g12, fr12, e12, hg12, hk12⟩ := hI.vals 12 (by omega) (dep_of hd 12 (by kernel_rfl))
      have s12 : a.tmps.getD 13 undef = .slice (some ⟨g12, 0, none⟩) 4 4 := e12
      clear hd
      unfold Oper.wp
      go_simp
      refine (Sum_any (some ⟨g12, 0, none⟩) 4 4 [0, 0, 0, 0] w (rd_blk hk12) in_z (by unfold maxLen; omega)).mono ?_
      rintro e w' ⟨rfl, rfl⟩
      rw [SZ.out]
      exact hI.val 13 (by omega) _ hI.below (UpW.refl _) rfl
    · refine ⟨want_true (j := 11) (d := 12) rfl rfl (by rw [hI.size]; decide) (hI.vals 11 (by omega) (dep_of hd 11 (by kernel_rfl))), ?_⟩
      have s13 : a.tmps.getD 14 undef = .int .u32 558161692 := hI.vals 13 (by omega) (dep_of hd 13 (by kernel_rfl))
      clear hd
      unfold Oper.wp
      go_simp
      exact hI.val 14 (by omega) _ hI.below (UpW.refl _) rfl
    · refine ⟨rfl, ?_⟩
      have s11 : a.tmps.getD 12 undef = .bool true := hI.vals 11 (by omega) (dep_of hd 11 (by kernel_rfl))
      have s14 : a.tmps.getD 15 undef = .bool true := hI.vals 14 (by omega) (dep_of hd 14 (by kernel_rfl))
      clear hd
      unfold Oper.wp
      go_simp
      exact hI.val 15 (by omega) _ hI.below (UpW.refl _) rfl
    · refine ⟨rfl, ?_⟩
      have s15 : a.tmps.getD 16 undef = .bool true := hI.vals 15 (by omega) (dep_of hd 15 (by kernel_rfl))
      clear hd
      unfold Oper.wp
      go_simp
      exact hI.val 16 (by omega) _ hI.below (UpW.refl _) rfl
    · refine ⟨want_true (j := 16) (d := 17) rfl rfl (by rw [hI.size]; decide) (hI.vals 16 (by omega) (dep_of hd 16 (by kernel_rfl))), ?_⟩
      clear hd
      unfold Oper.wp
      go_simp
      refine (Seal_any none 0 0 [] w Rd.nil InB.nil (by omega)).mono ?_
      rintro e w' ⟨v, rfl, ho, hb⟩
      obtain ⟨A, c, rfl, hc, hm⟩ := ho.form
      exact hI.val 17 (by omega) _ (hI.below.trans (hb.mono hI.below.size)) (UpW.of_below hb) ⟨A, c, rfl, ho.rd u8s_len rfl⟩
    · refine ⟨want_true (j := 16) (d := 17) rfl rfl (by rw [hI.size]; decide) (hI.vals 16 (by omega) (dep_of hd 16 (by kernel_rfl))), ?_⟩
      have km := make_4 w
      clear hd
      unfold Oper.wp
      go_simp
      exact hI.val 18 (by omega) _ (hI.below.alloc hI.below.size _) (UpW.of_below ((Below.refl _ _).alloc (Nat.le_refl _) _)) ⟨w.heap.size, (0, 0), rfl, hI.below.size, heap_alloc_new _ _⟩
    · refine ⟨want_true (j := 16) (d := 17) rfl rfl (by rw [hI.size]; decide) (hI.vals 16 (by omega) (dep_of hd 16 (by kernel_rfl))), ?_⟩
      obtain ⟨A17, c17, s17, hr17⟩ := hI.vals 17 (by omega) (dep_of hd 17 (by kernel_rfl))
      obtain ⟨g18, fr18, e18, hg18, hk18⟩ := hI.vals 18 (by omega) (dep_of hd 18 (by kernel_rfl))
      have s18 : a.tmps.getD 19 undef = .slice (some ⟨g18, 0, none⟩) 4 4 := e18
      clear hd
      unfold Oper.wp
      go_simp
      refine (Same_any A17 _ c17 (sealed []) (some ⟨g18, 0, none⟩) 4 4 [0, 0, 0, 0] w hr17 (rd_blk hk18) (sealed_in InB.nil) in_z).mono ?_
      rintro e w' ⟨rfl, rfl⟩
      rw [decide_eq_true seal_e]
      exact hI.val 19 (by omega) _ hI.below (UpW.refl _) rfl
    · refine ⟨rfl, ?_⟩
      have s16 : a.tmps.getD 17 undef = .bool true := hI.vals 16 (by omega) (dep_of hd 16 (by kernel_rfl))
      have s19 : a.tmps.getD 20 undef = .bool true := hI.vals 19 (by omega) (dep_of hd 19 (by kernel_rfl))
      clear hd
      unfold Oper.wp
      go_simp
      exact hI.val 20 (by omega) _ hI.below (UpW.refl _) rfl
    · refine ⟨rfl, ?_⟩
      have s20 : a.tmps.getD 21 undef = .bool true := hI.vals 20 (by omega) (dep_of hd 20 (by kernel_rfl))
      clear hd
      unfold Oper.wp
      go_simp
      exact hI.val 21 (by omega) _ hI.below (UpW.refl _) rfl
    · refine ⟨want_true (j := 21) (d := 22) rfl rfl (by rw [hI.size]; decide) (hI.vals 21 (by omega) (dep_of hd 21 (by kernel_rfl))), ?_⟩
      have km := make_4 w
      clear hd
      unfold Oper.wp
      go_simp
      exact hI.val 22 (by omega) _ (hI.below.alloc hI.below.size _) (UpW.of_below ((Below.refl _ _).alloc (Nat.le_refl _) _)) ⟨w.heap.size, (0, 0), rfl, hI.below.size, heap_alloc_new _ _⟩
    · refine ⟨want_true (j := 21) (d := 22) rfl rfl (by rw [hI.size]; decide) (hI.vals 21 (by omega) (dep_of hd 21 (by kernel_rfl))), ?_⟩
      obtain ⟨g22, fr22, e22, hg22, hk22⟩ := hI.vals 22 (by omega) (dep_of hd 22 (by kernel_rfl))
      have s22 : a.tmps.getD 23 undef = .slice (some ⟨g22, 0, none⟩) 4 4 := e22
      clear hd
      unfold Oper.wp
      go_simp
      refine (Fits_any (some ⟨g22, 0, none⟩) 4 4 [0, 0, 0, 0] w (rd_blk hk22) in_z (by omega) (by unfold maxLen; omega)).mono ?_
      rw [fits_z]
      rintro e w' ⟨rfl, hb⟩
      exact hI.val 23 (by omega) _ (hI.below.trans (hb.mono hI.below.size)) (UpW.of_below hb) rfl
    · refine ⟨rfl, ?_⟩
      have s21 : a.tmps.getD 22 undef = .bool true := hI.vals 21 (by omega) (dep_of hd 21 (by kernel_rfl))
      have s23 : a.tmps.getD 24 undef = .bool true := hI.vals 23 (by omega) (dep_of hd 23 (by kernel_rfl))
      clear hd
      unfold Oper.wp
      go_simp
      exact hI.val 24 (by omega) _ hI.below (UpW.refl _) rfl
    · refine ⟨rfl, ?_⟩
      have s24 : a.tmps.getD 25 undef = .bool true := hI.vals 24 (by omega) (dep_of hd 24 (by kernel_rfl))
      clear hd
      unfold Oper.wp
      go_simp
      exact hI.val 25 (by omega) _ hI.below (UpW.refl _) rfl
    · refine ⟨want_true (j := 25) (d := 26) rfl rfl (by rw [hI.size]; decide) (hI.vals 25 (by omega) (dep_of hd 25 (by kernel_rfl))), ?_⟩
      clear hd
      unfold Oper.wp
      go_simp
      exact hI.val 26 (by omega) _ (hI.below.alloc hI.below.size _) (UpW.of_below ((Below.refl _ _).alloc (Nat.le_refl _) _)) ⟨w.heap.size, (0, 0), rfl, hI.below.size, heap_alloc_new _ _⟩
    · refine ⟨want_true (j := 25) (d := 26) rfl rfl (by rw [hI.size]; decide) (hI.vals 25 (by omega) (dep_of hd 25 (by kernel_rfl))), ?_⟩
      obtain ⟨g26, fr26, e26, hg26, hk26⟩ := hI.vals 26 (by omega) (dep_of hd 26 (by kernel_rfl))
      have s26 : a.tmps.getD 27 undef = .slice (some ⟨g26, 0, none⟩) 1 1 := e26
      have kc := conv_const w g26 1 1 _ fr26 hk26
      clear hd
      unfold Oper.wp
      go_simp
      exact hI.val 27 (by omega) _ (Lib.below_freeze hI.below hg26 1) (UpW.freeze _ _ _) (isS.up ⟨g26, fr26, rfl, hg26, hk26⟩ (UpW.freeze _ _ _))
    · refine ⟨want_true (j := 25) (d := 26) rfl rfl (by rw [hI.size]; decide) (hI.vals 25 (by omega) (dep_of hd 25 (by kernel_rfl))), ?_⟩
      obtain ⟨g27, fr27, e27, hg27, hk27⟩ := hI.vals 27 (by omega) (dep_of hd 27 (by kernel_rfl))
      have s27 : a.tmps.getD 28 undef = .slice (some ⟨g27, 0, none⟩) 1 1 := e27
      clear hd
      unfold Oper.wp
      go_simp
      refine (Seal_any (some ⟨g27, 0, none⟩) 1 1 [97] w (rd_blk hk27) in_a (by omega)).mono ?_
      rintro e w' ⟨v, rfl, ho, hb⟩
      obtain ⟨A, c, rfl, hc, hm⟩ := ho.form
      exact hI.val 28 (by omega) _ (hI.below.trans (hb.mono hI.below.size)) (UpW.of_below hb) ⟨A, c, rfl, ho.rd u8s_len rfl⟩
    · refine ⟨want_true (j := 25) (d := 26) rfl rfl (by rw [hI.size]; decide) (hI.vals 25 (by omega) (dep_of hd 25 (by kernel_rfl))), ?_⟩
      clear hd
      unfold Oper.wp
      go_simp
      exact hI.val 29 (by omega) _ (hI.below.alloc hI.below.size _) (UpW.of_below ((Below.refl _ _).alloc (Nat.le_refl _) _)) ⟨w.heap.size, (0, 0), rfl, hI.below.size, heap_alloc_new _ _⟩
    · refine ⟨want_true (j := 25) (d := 26) rfl rfl (by rw [hI.size]; decide) (hI.vals 25 (by omega) (dep_of hd 25 (by kernel_rfl))), ?_⟩
      obtain ⟨A28, c28, s28, hr28⟩ := hI.vals 28 (by omega) (dep_of hd 28 (by kernel_rfl))
      obtain ⟨g29, fr29, e29, hg29, hk29⟩ := hI.vals 29 (by omega) (dep_of hd 29 (by kernel_rfl))
      have s29 : a.tmps.getD 30 undef = .slice (some ⟨g29, 0, none⟩) 5 5 := e29
      clear hd
      unfold Oper.wp
      go_simp
      refine (Same_any A28 _ c28 (sealed [97]) (some ⟨g29, 0, none⟩) 5 5 [97, 67, 190, 183, 232] w hr28 (rd_blk hk29) (sealed_in in_a) in_s).mono ?_
      rintro e w' ⟨rfl, rfl⟩
      rw [decide_eq_true seal_a]
      exact hI.val 30 (by omega) _ hI.below (UpW.refl _) rfl
    · refine ⟨rfl, ?_⟩
      have s25 : a.tmps.getD 26 undef = .bool true := hI.vals 25 (by omega) (dep_of hd 25 (by kernel_rfl))
      have s30 : a.tmps.getD 31 undef = .bool true := hI.vals 30 (by omega) (dep_of hd 30 (by kernel_rfl))
      clear hd
      unfold Oper.wp
      go_simp
      exact hI.val 31 (by omega) _ hI.below (UpW.refl _) rfl
    · refine ⟨rfl, ?_⟩
      have s31 : a.tmps.getD 32 undef = .bool true := hI.vals 31 (by omega) (dep_of hd 31 (by kernel_rfl))
      clear hd
      unfold Oper.wp
      go_simp
      exact hI.val 32 (by omega) _ hI.below (UpW.refl _) rfl
    · refine ⟨want_true (j := 32) (d := 33) rfl rfl (by rw [hI.size]; decide) (hI.vals 32 (by omega) (dep_of hd 32 (by kernel_rfl))), ?_⟩
      have hj : Calls Try.prog 22 #[.int .u32 5, .int .u32 3, .int .i64 0] w fun e w' => e = .returned (.int .u32 6) ∧ Below w.heap.size w w' := (Join_any 5#32 3#32 0 w (by omega) (by omega)).mono fun e w' ⟨h1, h2⟩ => ⟨h1.trans (congrArg (fun x => Ending.returned (Value.int .u32 x)) J5.out), h2⟩
      clear hd
      unfold Oper.wp
      go_simp
      refine hj.mono ?_
      rintro e w' ⟨rfl, hb⟩
      exact hI.val 33 (by omega) _ (hI.below.trans (hb.mono hI.below.size)) (UpW.of_below hb) rfl
    · refine ⟨want_true (j := 32) (d := 33) rfl rfl (by rw [hI.size]; decide) (hI.vals 32 (by omega) (dep_of hd 32 (by kernel_rfl))), ?_⟩
      have s33 : a.tmps.getD 34 undef = .int .u32 6 := hI.vals 33 (by omega) (dep_of hd 33 (by kernel_rfl))
      clear hd
      unfold Oper.wp
      go_simp
      exact hI.val 34 (by omega) _ hI.below (UpW.refl _) rfl
    · refine ⟨rfl, ?_⟩
      have s32 : a.tmps.getD 33 undef = .bool true := hI.vals 32 (by omega) (dep_of hd 32 (by kernel_rfl))
      have s34 : a.tmps.getD 35 undef = .bool true := hI.vals 34 (by omega) (dep_of hd 34 (by kernel_rfl))
      clear hd
      unfold Oper.wp
      go_simp
      exact hI.val 35 (by omega) _ hI.below (UpW.refl _) rfl
    · refine ⟨rfl, ?_⟩
      have s35 : a.tmps.getD 36 undef = .bool true := hI.vals 35 (by omega) (dep_of hd 35 (by kernel_rfl))
      clear hd
      unfold Oper.wp
      go_simp
      exact hI.val 36 (by omega) _ hI.below (UpW.refl _) rfl
    · refine ⟨want_true (j := 36) (d := 37) rfl rfl (by rw [hI.size]; decide) (hI.vals 36 (by omega) (dep_of hd 36 (by kernel_rfl))), ?_⟩
      have hj : Calls Try.prog 22 #[.int .u32 5, .int .u32 3, .int .i64 (-7)] w fun e w' => e = .returned (.int .u32 6) ∧ Below w.heap.size w w' := (Join_any 5#32 3#32 (-7) w (by omega) (by omega)).mono fun e w' ⟨h1, h2⟩ => ⟨h1.trans (congrArg (fun x => Ending.returned (Value.int .u32 x)) J5.out), h2⟩
      clear hd
      unfold Oper.wp
      go_simp
      refine hj.mono ?_
      rintro e w' ⟨rfl, hb⟩
      exact hI.val 37 (by omega) _ (hI.below.trans (hb.mono hI.below.size)) (UpW.of_below hb) rfl
    · refine ⟨want_true (j := 36) (d := 37) rfl rfl (by rw [hI.size]; decide) (hI.vals 36 (by omega) (dep_of hd 36 (by kernel_rfl))), ?_⟩
      have s37 : a.tmps.getD 38 undef = .int .u32 6 := hI.vals 37 (by omega) (dep_of hd 37 (by kernel_rfl))
      clear hd
      unfold Oper.wp
      go_simp
      exact hI.val 38 (by omega) _ hI.below (UpW.refl _) rfl
    · refine ⟨rfl, ?_⟩
      have s36 : a.tmps.getD 37 undef = .bool true := hI.vals 36 (by omega) (dep_of hd 36 (by kernel_rfl))
      have s38 : a.tmps.getD 39 undef = .bool true := hI.vals 38 (by omega) (dep_of hd 38 (by kernel_rfl))
      clear hd
      unfold Oper.wp
      go_simp
      exact hI.val 39 (by omega) _ hI.below (UpW.refl _) rfl
    · refine ⟨rfl, ?_⟩
      have s39 : a.tmps.getD 40 undef = .bool true := hI.vals 39 (by omega) (dep_of hd 39 (by kernel_rfl))
      clear hd
      unfold Oper.wp
      go_simp
      exact hI.val 40 (by omega) _ hI.below (UpW.refl _) rfl
    · refine ⟨want_true (j := 40) (d := 41) rfl rfl (by rw [hI.size]; decide) (hI.vals 40 (by omega) (dep_of hd 40 (by kernel_rfl))), ?_⟩
      clear hd
      unfold Oper.wp
      go_simp
      exact hI.val 41 (by omega) _ (hI.below.alloc hI.below.size _) (UpW.of_below ((Below.refl _ _).alloc (Nat.le_refl _) _)) ⟨w.heap.size, (0, 0), rfl, hI.below.size, heap_alloc_new _ _⟩
    · refine ⟨want_true (j := 40) (d := 41) rfl rfl (by rw [hI.size]; decide) (hI.vals 40 (by omega) (dep_of hd 40 (by kernel_rfl))), ?_⟩
      obtain ⟨g41, fr41, e41, hg41, hk41⟩ := hI.vals 41 (by omega) (dep_of hd 41 (by kernel_rfl))
      have s41 : a.tmps.getD 42 undef = .slice (some ⟨g41, 0, none⟩) 4 4 := e41
      have kc := conv_const w g41 4 4 _ fr41 hk41
      clear hd
      unfold Oper.wp
      go_simp
      exact hI.val 42 (by omega) _ (Lib.below_freeze hI.below hg41 1) (UpW.freeze _ _ _) (isS.up ⟨g41, fr41, rfl, hg41, hk41⟩ (UpW.freeze _ _ _))
    · refine ⟨want_true (j := 40) (d := 41) rfl rfl (by rw [hI.size]; decide) (hI.vals 40 (by omega) (dep_of hd 40 (by kernel_rfl))), ?_⟩
      obtain ⟨g42, fr42, e42, hg42, hk42⟩ := hI.vals 42 (by omega) (dep_of hd 42 (by kernel_rfl))
      have s42 : a.tmps.getD 43 undef = .slice (some ⟨g42, 0, none⟩) 4 4 := e42
      clear hd
      unfold Oper.wp
      go_simp
      refine (Sum_any (some ⟨g42, 0, none⟩) 4 4 [49, 50, 51, 52] w (rd_blk hk42) in_4 (by unfold maxLen; omega)).mono ?_
      rintro e w' ⟨rfl, rfl⟩
      exact hI.val 43 (by omega) _ hI.below (UpW.refl _) rfl
    · refine ⟨want_true (j := 40) (d := 41) rfl rfl (by rw [hI.size]; decide) (hI.vals 40 (by omega) (dep_of hd 40 (by kernel_rfl))), ?_⟩
      clear hd
      unfold Oper.wp
      go_simp
      exact hI.val 44 (by omega) _ (hI.below.alloc hI.below.size _) (UpW.of_below ((Below.refl _ _).alloc (Nat.le_refl _) _)) ⟨w.heap.size, (0, 0), rfl, hI.below.size, heap_alloc_new _ _⟩
    · refine ⟨want_true (j := 40) (d := 41) rfl rfl (by rw [hI.size]; decide) (hI.vals 40 (by omega) (dep_of hd 40 (by kernel_rfl))), ?_⟩
      obtain ⟨g44, fr44, e44, hg44, hk44⟩ := hI.vals 44 (by omega) (dep_of hd 44 (by kernel_rfl))
      have s44 : a.tmps.getD 45 undef = .slice (some ⟨g44, 0, none⟩) 5 5 := e44
      have kc := conv_const w g44 5 5 _ fr44 hk44
      clear hd
      unfold Oper.wp
      go_simp
      exact hI.val 45 (by omega) _ (Lib.below_freeze hI.below hg44 1) (UpW.freeze _ _ _) (isS.up ⟨g44, fr44, rfl, hg44, hk44⟩ (UpW.freeze _ _ _))
    · refine ⟨want_true (j := 40) (d := 41) rfl rfl (by rw [hI.size]; decide) (hI.vals 40 (by omega) (dep_of hd 40 (by kernel_rfl))), ?_⟩
      obtain ⟨g45, fr45, e45, hg45, hk45⟩ := hI.vals 45 (by omega) (dep_of hd 45 (by kernel_rfl))
      have s45 : a.tmps.getD 46 undef = .slice (some ⟨g45, 0, none⟩) 5 5 := e45
      clear hd
      unfold Oper.wp
      go_simp
      refine (Sum_any (some ⟨g45, 0, none⟩) 5 5 [53, 54, 55, 56, 57] w (rd_blk hk45) in_5 (by unfold maxLen; omega)).mono ?_
      rintro e w' ⟨rfl, rfl⟩
      exact hI.val 46 (by omega) _ hI.below (UpW.refl _) rfl
    · refine ⟨want_true (j := 40) (d := 41) rfl rfl (by rw [hI.size]; decide) (hI.vals 40 (by omega) (dep_of hd 40 (by kernel_rfl))), ?_⟩
      have s43 : a.tmps.getD 44 undef = .int .u32 ((sum [49, 50, 51, 52]).toNat : Int) := hI.vals 43 (by omega) (dep_of hd 43 (by kernel_rfl))
      have s46 : a.tmps.getD 47 undef = .int .u32 ((sum [53, 54, 55, 56, 57]).toNat : Int) := hI.vals 46 (by omega) (dep_of hd 46 (by kernel_rfl))
      have hj : Calls Try.prog 22 #[.int .u32 ((sum [49, 50, 51, 52]).toNat : Int), .int .u32 ((sum [53, 54, 55, 56, 57]).toNat : Int), .int .i64 5] w fun e w' => e = .returned (.int .u32 3421780262) ∧ Below w.heap.size w w' := (Join_any (sum [49, 50, 51, 52]) (sum [53, 54, 55, 56, 57]) 5 w (by omega) (by omega)).mono fun e w' ⟨h1, h2⟩ => ⟨h1.trans (congrArg (fun x => Ending.returned (Value.int .u32 x)) J9.out), h2⟩
      clear hd
      unfold Oper.wp
      go_simp
      refine hj.mono ?_
      rintro e w' ⟨rfl, hb⟩
      exact hI.val 47 (by omega) _ (hI.below.trans (hb.mono hI.below.size)) (UpW.of_below hb) rfl
    · refine ⟨want_true (j := 40) (d := 41) rfl rfl (by rw [hI.size]; decide) (hI.vals 40 (by omega) (dep_of hd 40 (by kernel_rfl))), ?_⟩
      have s47 : a.tmps.getD 48 undef = .int .u32 3421780262 := hI.vals 47 (by omega) (dep_of hd 47 (by kernel_rfl))
      clear hd
      unfold Oper.wp
      go_simp
      exact hI.val 48 (by omega) _ hI.below (UpW.refl _) rfl
    · refine ⟨rfl, ?_⟩
      have s40 : a.tmps.getD 41 undef = .bool true := hI.vals 40 (by omega) (dep_of hd 40 (by kernel_rfl))
      have s48 : a.tmps.getD 49 undef = .bool true := hI.vals 48 (by omega) (dep_of hd 48 (by kernel_rfl))
      clear hd
      unfold Oper.wp
      go_simp
      exact hI.val 49 (by omega) _ hI.below (UpW.refl _) rfl
    · have s49 : a.tmps.getD 50 undef = .bool true := hI.vals 49 (by omega) (dep_of hd 49 (by kernel_rfl))
      refine ⟨rfl, ?_⟩
      clear hd
      unfold Oper.wp
      go_simp
      exact hI.last
  case fin =>
    clear h0
    intro L a w hI hall
    have hres := hI.res (hall 50 (show 50 < 51 by decide))
    have HB := Lib.hid hI.below
    have he := arr_of_same (T := a.tmps) (T0 := #[undef, undef, undef, undef, undef, undef, undef, undef, undef, undef, undef, undef, undef, undef, undef, undef, undef, undef, undef, undef, undef, undef, undef, undef, undef, undef, undef, undef, undef, undef, undef, undef, undef, undef, undef, undef, undef, undef, undef, undef, undef, undef, undef, undef, undef, undef, undef, undef, undef, undef, undef]) hI.size [0, 1, 2, 3, 4, 5, 6, 7, 8, 9, 10, 11, 12, 13, 14, 15, 16, 17, 18, 19, 20, 21, 22, 23, 24, 25, 26, 27, 28, 29, 30, 31, 32, 33, 34, 35, 36, 37, 38, 39, 40, 41, 42, 43, 44, 45, 46, 47, 48, 49, 50] (fun k hk => by
      have hk51 : 51 ≤ k := by
        rcases Nat.lt_or_ge k 51 with h | h
        · exact absurd (by simp only [List.mem_cons, List.not_mem_nil, or_false]; omega) hk
        · exact h
      rw [Array.getD_eq_getD_getElem?, Array.getElem?_eq_none (by rw [hI.size]; exact hk51), Array.getD_eq_getD_getElem?, Array.getElem?_eq_none (by exact hk51)])
    simp only [List.foldl_cons, List.foldl_nil] at he
    rw [hres] at he
    generalize a.tmps.getD 1 undef = u1 at he
    generalize a.tmps.getD 2 undef = u2 at he
    generalize a.tmps.getD 3 undef = u3 at he
    generalize a.tmps.getD 4 undef = u4 at he
    generalize a.tmps.getD 5 undef = u5 at he
    generalize a.tmps.getD 6 undef = u6 at he
    generalize a.tmps.getD 7 undef = u7 at he
    generalize a.tmps.getD 8 undef = u8 at he
    generalize a.tmps.getD 9 undef = u9 at he
    generalize a.tmps.getD 10 undef = u10 at he
    generalize a.tmps.getD 11 undef = u11 at he
    generalize a.tmps.getD 12 undef = u12 at he
    generalize a.tmps.getD 13 undef = u13 at he
    generalize a.tmps.getD 14 undef = u14 at he
    generalize a.tmps.getD 15 undef = u15 at he
    generalize a.tmps.getD 16 undef = u16 at he
    generalize a.tmps.getD 17 undef = u17 at he
    generalize a.tmps.getD 18 undef = u18 at he
    generalize a.tmps.getD 19 undef = u19 at he
    generalize a.tmps.getD 20 undef = u20 at he
    generalize a.tmps.getD 21 undef = u21 at he
    generalize a.tmps.getD 22 undef = u22 at he
    generalize a.tmps.getD 23 undef = u23 at he
    generalize a.tmps.getD 24 undef = u24 at he
    generalize a.tmps.getD 25 undef = u25 at he
    generalize a.tmps.getD 26 undef = u26 at he
    generalize a.tmps.getD 27 undef = u27 at he
    generalize a.tmps.getD 28 undef = u28 at he
    generalize a.tmps.getD 29 undef = u29 at he
    generalize a.tmps.getD 30 undef = u30 at he
    generalize a.tmps.getD 31 undef = u31 at he
    generalize a.tmps.getD 32 undef = u32 at he
    generalize a.tmps.getD 33 undef = u33 at he
    generalize a.tmps.getD 34 undef = u34 at he
    generalize a.tmps.getD 35 undef = u35 at he
    generalize a.tmps.getD 36 undef = u36 at he
    generalize a.tmps.getD 37 undef = u37 at he
    generalize a.tmps.getD 38 undef = u38 at he
    generalize a.tmps.getD 39 undef = u39 at he
    generalize a.tmps.getD 40 undef = u40 at he
    generalize a.tmps.getD 41 undef = u41 at he
    generalize a.tmps.getD 42 undef = u42 at he
    generalize a.tmps.getD 43 undef = u43 at he
    generalize a.tmps.getD 44 undef = u44 at he
    generalize a.tmps.getD 45 undef = u45 at he
    generalize a.tmps.getD 46 undef = u46 at he
    generalize a.tmps.getD 47 undef = u47 at he
    generalize a.tmps.getD 48 undef = u48 at he
    generalize a.tmps.getD 49 undef = u49 at he
    generalize a.tmps.getD 50 undef = u50 at he
    simp only [List.setIfInBounds_toArray, List.set_cons_zero, List.set_cons_succ] at he
    have hdfr := hI.dfr
    clear hI hall hres
    obtain ⟨T, D⟩ := a
    dsimp only at he hdfr
    subst hdfr
    subst he
    go_wp2_with fail
    go_ret
    exact ⟨rfl, HB.out⟩
end Go.Proofs.Ytkhnpmeaklcmaaa
