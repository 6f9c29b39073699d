/- What is wrong with a hierarchy: one plain answer for the document and the program. No program in sight. -/
import Derived.Test.YtkcnnamghpdplaaCl17
set_option linter.unusedSimpArgs false
set_option linter.unusedVariables false
namespace Go.Proofs.Ytkcnnamghpdplaa

/-- a link as an arc, and the rank at which it stands -/
structure EndS where
  lk : Lk
  tail : Nat
  head : Nat
  rank : Nat
def upEnds (f : List Nat) (ls : List Lk) (k : Nat) : List EndS := (List.range k).flatMap fun r => (seg f ls r).map fun l => ⟨l, r, l.to, r⟩
def dnEnds (f : List Nat) (ls : List Lk) (k : Nat) : List EndS := (List.range k).flatMap fun r => (seg f ls r).map fun l => ⟨l, l.to, r, r⟩
/-- all links, by their numbers -/
def endsT (h : HierT) : List EndS := upEnds h.uf h.up h.node.length ++ dnEnds h.df h.dn h.node.length
/-- the links in front of a rank: so many of the list -/
theorem segs_take {n m : Nat} {f : List Nat} {ls : List Lk} (h : Fst n f m) (hm : ls.length = m) : ∀ {k : Nat}, k ≤ n → (List.range k).flatMap (seg f ls) = ls.take (f.getD k 0) := by
  intro k
  induction k with
  | zero => intro _; rw [h.z]; simp
  | succ k ih =>
    intro hk
    have hmo := h.mono k (by omega)
    rw [List.range_succ, List.flatMap_append, ih (by omega)]
    unfold seg
    simp only [List.flatMap_cons, List.flatMap_nil, List.append_nil]
    rw [← List.take_add, show f.getD k 0 + (f.getD (k + 1) 0 - f.getD k 0) = f.getD (k + 1) 0 by omega]
theorem segs_all {n m : Nat} {f : List Nat} {ls : List Lk} (h : Fst n f m) (hm : ls.length = m) : (List.range n).flatMap (seg f ls) = ls := by
  rw [segs_take h hm (Nat.le_refl _), h.e, ← hm, List.take_length]
theorem upEnds_lk {n m : Nat} {f : List Nat} {ls : List Lk} (h : Fst n f m) (hm : ls.length = m) : (upEnds f ls n).map EndS.lk = ls := by
  unfold upEnds
  rw [List.map_flatMap]
  have e : (fun r => List.map EndS.lk (List.map (fun l => (⟨l, r, l.to, r⟩ : EndS)) (seg f ls r))) = seg f ls := by
    funext r
    rw [List.map_map]
    exact List.map_id _
  rw [e, segs_all h hm]
theorem dnEnds_lk {n m : Nat} {f : List Nat} {ls : List Lk} (h : Fst n f m) (hm : ls.length = m) : (dnEnds f ls n).map EndS.lk = ls := by
  unfold dnEnds
  rw [List.map_flatMap]
  have e : (fun r => List.map EndS.lk (List.map (fun l => (⟨l, l.to, r, r⟩ : EndS)) (seg f ls r))) = seg f ls := by
    funext r
    rw [List.map_map]
    exact List.map_id _
  rw [e, segs_all h hm]
theorem seg_len {n m : Nat} {f : List Nat} {ls : List Lk} (h : Fst n f m) (hm : ls.length = m) {r : Nat} (hr : r < n) : (seg f ls r).length = f.getD (r + 1) 0 - f.getD r 0 := by
  unfold seg
  rw [List.length_take, List.length_drop]
  have h1 := h.mono r hr
  have h2 := h.le (r := r + 1) (by omega)
  omega
theorem flatMap_ext {α : Type} {n : Nat} {p q : Nat → List α} (h : ∀ r, r < n → p r = q r) : (List.range n).flatMap p = (List.range n).flatMap q := by
  induction n with
  | zero => rfl
  | succ n ih => rw [List.range_succ, List.flatMap_append, List.flatMap_append, ih (fun r hr => h r (by omega))]; simp [h n (by omega)]
theorem upEnds_rank {n m : Nat} {f : List Nat} {ls : List Lk} (h : Fst n f m) (hm : ls.length = m) : (upEnds f ls n).map (fun e => (e.rank : Int)) = rankTo f n := by
  unfold upEnds rankTo
  rw [List.map_flatMap]
  refine flatMap_ext fun r hr => ?_
  rw [List.map_map, ← seg_len h hm hr]
  have e : ∀ l : List Lk, List.map (fun _ : Lk => (r : Int)) l = List.replicate l.length (r : Int) := fun l => by induction l with | nil => rfl | cons x l ih => rw [List.map_cons, ih]; rfl
  exact e _
theorem dnEnds_rank {n m : Nat} {f : List Nat} {ls : List Lk} (h : Fst n f m) (hm : ls.length = m) : (dnEnds f ls n).map (fun e => (e.rank : Int)) = rankTo f n := by
  unfold dnEnds rankTo
  rw [List.map_flatMap]
  refine flatMap_ext fun r hr => ?_
  rw [List.map_map, ← seg_len h hm hr]
  have e : ∀ l : List Lk, List.map (fun _ : Lk => (r : Int)) l = List.replicate l.length (r : Int) := fun l => by induction l with | nil => rfl | cons x l ih => rw [List.map_cons, ih]; rfl
  exact e _
def lkOf (h : HierT) (i : Nat) : Lk := (h.up ++ h.dn).getD i ⟨0, 0, 0, 0⟩
def rkOf (h : HierT) (i : Nat) : Int := (ranksT h).getD i 0
def headOf (h : HierT) (i : Nat) : Int := if i < h.up.length then (lkOf h i).to else rkOf h i
def tailOf (h : HierT) (i : Nat) : Int := if i < h.up.length then rkOf h i else (lkOf h i).to
/-- the form of the link i -/
def shapeB (h : HierT) (i : Nat) : Bool :=
  decide (((lkOf h i).to : Int) < h.node.length ∧ rkOf h i < (lkOf h i).to) &&
  !decide (0 < i ∧ i ≠ h.up.length ∧ rkOf h (i - 1) = rkOf h i ∧ (lkOf h i).to ≤ (lkOf h (i - 1)).to) &&
  (plainB (lkOf h i) ||
    decide (h.up.length ≤ (lkOf h i).l ∧ (lkOf h i).l < h.up.length + h.dn.length ∧ (lkOf h i).r < h.up.length ∧
      tailOf h (lkOf h i).l = tailOf h i ∧ headOf h (lkOf h i).r = headOf h i ∧ rkOf h (lkOf h i).l = rkOf h (lkOf h i).r))
/-- its weight -/
def weightB (h : HierT) (i : Nat) : Bool :=
  if plainB (lkOf h i) then decide ((lkOf h i).w ≤ 2147483647)
  else decide ((lkOf h i).w ≤ topI ∧ (lkOf h (lkOf h i).l).w ≤ topI ∧ (lkOf h (lkOf h i).r).w ≤ topI ∧ (lkOf h (lkOf h i).l).w + (lkOf h (lkOf h i).r).w = (lkOf h i).w)
def linkB (h : HierT) (i : Nat) : Option Int := if shapeB h i then (if weightB h i then none else some 8) else some 14
def linksB (h : HierT) : Bug := match (List.range (h.up.length + h.dn.length)).find? (fun i => (linkB h i).isSome) with
  | some i => (linkB h i).map fun c => (c, some (4, (i : Int)))
  | none => none
/-- what is wrong with a hierarchy -/
def chkB (h : HierT) : Bug :=
  if 65536 < h.node.length ∨ 1048576 < h.up.length + h.dn.length then some (9, none)
  else if h.uf.length ≠ h.node.length + 1 ∨ h.df.length ≠ h.node.length + 1 then some (14, none)
  else match firstsB h.uf h.node.length h.up.length with
    | some b => some b
    | none => match firstsB h.df h.node.length h.dn.length with
      | some b => some b
      | none => match orderB h.node h.node.length with
        | some b => some b
        | none => linksB h
end Go.Proofs.Ytkcnnamghpdplaa
