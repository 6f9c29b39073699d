/- Form and weight of a link: what the program asks of its list of ends is the plain answer. No program in sight. -/
import Derived.Test.YtkcnnamghpdplaaCl21
set_option linter.unusedSimpArgs false
set_option linter.unusedVariables false
namespace Go.Proofs.Ytkcnnamghpdplaa

theorem endsT_lk {h : HierT} (hu : Fst h.node.length h.uf h.up.length) (hd : Fst h.node.length h.df h.dn.length) : (endsT h).map EndS.lk = h.up ++ h.dn := by
  unfold endsT
  rw [List.map_append, upEnds_lk hu rfl, dnEnds_lk hd rfl]
theorem endsT_len {h : HierT} (hu : Fst h.node.length h.uf h.up.length) (hd : Fst h.node.length h.df h.dn.length) : (endsT h).length = h.up.length + h.dn.length := by
  have := congrArg List.length (endsT_lk hu hd)
  rwa [List.length_map, List.length_append] at this
theorem upEnds_length {h : HierT} (hu : Fst h.node.length h.uf h.up.length) : (upEnds h.uf h.up h.node.length).length = h.up.length := by
  have := congrArg List.length (upEnds_lk hu rfl)
  rwa [List.length_map] at this
theorem endsT_rank {h : HierT} (hu : Fst h.node.length h.uf h.up.length) (hd : Fst h.node.length h.df h.dn.length) : (endsT h).map (fun e => (e.rank : Int)) = ranksT h := by
  unfold endsT ranksT
  rw [List.map_append, upEnds_rank hu rfl, dnEnds_rank hd rfl]
theorem upEnds_mem {f : List Nat} {ls : List Lk} {n : Nat} {x : EndS} (h : x ∈ upEnds f ls n) : x.tail = x.rank ∧ x.head = x.lk.to ∧ x.rank < n ∧ x.lk ∈ ls := by
  unfold upEnds at h
  obtain ⟨r, hr, hx⟩ := List.mem_flatMap.1 h
  obtain ⟨l, hl, rfl⟩ := List.mem_map.1 hx
  exact ⟨rfl, rfl, List.mem_range.1 hr, List.mem_of_mem_drop (List.mem_of_mem_take hl)⟩
theorem dnEnds_mem {f : List Nat} {ls : List Lk} {n : Nat} {x : EndS} (h : x ∈ dnEnds f ls n) : x.tail = x.lk.to ∧ x.head = x.rank ∧ x.rank < n ∧ x.lk ∈ ls := by
  unfold dnEnds at h
  obtain ⟨r, hr, hx⟩ := List.mem_flatMap.1 h
  obtain ⟨l, hl, rfl⟩ := List.mem_map.1 hx
  exact ⟨rfl, rfl, List.mem_range.1 hr, List.mem_of_mem_drop (List.mem_of_mem_take hl)⟩
structure EndIs (h : HierT) (i : Nat) (x : EndS) : Prop where
  lk : x.lk = lkOf h i
  rank : (x.rank : Int) = rkOf h i
  tail : (x.tail : Int) = tailOf h i
  head : (x.head : Int) = headOf h i
theorem endsT_at {h : HierT} (hu : Fst h.node.length h.uf h.up.length) (hd : Fst h.node.length h.df h.dn.length) {i : Nat} (hi : i < h.up.length + h.dn.length) : EndIs h i ((endsT h).getD i dE) := by
  have hlen := endsT_len hu hd
  have hil : i < (endsT h).length := by omega
  have e1 := at_map (endsT_lk hu hd) hil
  have e2 := at_map (endsT_rank hu hd) hil
  rw [getD_E hil]
  have h1 : (endsT h)[i].lk = lkOf h i := by
    unfold lkOf
    rw [List.getD_eq_getElem?_getD, e1]
    rfl
  have h2 : ((endsT h)[i].rank : Int) = rkOf h i := by
    unfold rkOf
    rw [List.getD_eq_getElem?_getD, e2]
    rfl
  by_cases hlt : i < h.up.length
  · have hm : (endsT h)[i] ∈ upEnds h.uf h.up h.node.length := by
      have e : (endsT h)[i] = (upEnds h.uf h.up h.node.length)[i]'(by rw [upEnds_length hu]; exact hlt) := by
        unfold endsT
        exact List.getElem_append_left _
      rw [e]
      exact List.getElem_mem _
    obtain ⟨a, b, -, -⟩ := upEnds_mem hm
    exact ⟨h1, h2, by unfold tailOf; rw [if_pos hlt, a, h2], by unfold headOf; rw [if_pos hlt, b, h1]⟩
  · have hm : (endsT h)[i] ∈ dnEnds h.df h.dn h.node.length := by
      have e : (endsT h)[i] = (dnEnds h.df h.dn h.node.length)[i - (upEnds h.uf h.up h.node.length).length]'(by
          have := hil; unfold endsT at this; rw [List.length_append] at this; rw [upEnds_length hu] at this ⊢; omega) := by
        unfold endsT
        exact List.getElem_append_right (by rw [upEnds_length hu]; omega)
      rw [e]
      exact List.getElem_mem _
    obtain ⟨a, b, -, -⟩ := dnEnds_mem hm
    exact ⟨h1, h2, by unfold tailOf; rw [if_neg hlt, a, h1], by unfold headOf; rw [if_neg hlt, b, h2]⟩
theorem endsT_in {h : HierT} (hu : Fst h.node.length h.uf h.up.length) (hd : Fst h.node.length h.df h.dn.length) (hn : h.node.length ≤ 65536) (hin : InH h) {i : Nat} (hi : i < h.up.length + h.dn.length) : InE h.node.length ((endsT h).getD i dE) := by
  have hlen := endsT_len hu hd
  have hil : i < (endsT h).length := by omega
  rw [getD_E hil]
  have hm : (endsT h)[i] ∈ endsT h := List.getElem_mem _
  generalize (endsT h)[i] = x at *
  unfold endsT at hm
  rcases List.mem_append.1 hm with hm | hm
  · obtain ⟨a, b, c, d⟩ := upEnds_mem hm
    have hk := hin.i2 _ d
    have := hk.to
    unfold In32 at this
    exact ⟨hk, by omega, by omega, c⟩
  · obtain ⟨a, b, c, d⟩ := dnEnds_mem hm
    have hk := hin.i4 _ d
    have := hk.to
    unfold In32 at this
    exact ⟨hk, by omega, by omega, c⟩
theorem shape_same {h : HierT} (hu : Fst h.node.length h.uf h.up.length) (hd : Fst h.node.length h.df h.dn.length) {i : Nat} (hi : i < h.up.length + h.dn.length) : shapeE h.node.length h.up.length (endsT h) i = shapeB h i := by
  have ei := endsT_at hu hd hi
  have e0 := endsT_at hu hd (i := i - 1) (by omega)
  have hlen := endsT_len hu hd
  have hl := fun hc => endsT_at hu hd (i := (lkOf h i).l) hc
  have hr := fun hc => endsT_at hu hd (i := (lkOf h i).r) hc
  unfold shapeE shapeB
  rw [hlen, ei.lk, e0.lk]
  have er := ei.rank
  have er0 := e0.rank
  have et := ei.tail
  have eh := ei.head
  congr 1
  · congr 1
    · rw [decide_eq_decide]; omega
    · congr 1
      rw [decide_eq_decide]; omega
  · congr 1
    rw [decide_eq_decide]
    constructor
    · rintro ⟨a, b, c, d, e, f⟩
      have h1 := hl (by omega)
      have h2 := hr (by omega)
      have := h1.rank
      have := h1.tail
      have := h2.rank
      have := h2.head
      exact ⟨a, b, c, by omega, by omega, by omega⟩
    · rintro ⟨a, b, c, d, e, f⟩
      have h1 := hl (by omega)
      have h2 := hr (by omega)
      have := h1.rank
      have := h1.tail
      have := h2.rank
      have := h2.head
      exact ⟨a, b, c, by omega, by omega, by omega⟩
theorem shape_children {h : HierT} {i : Nat} (hs : shapeB h i = true) (hp : plainB (lkOf h i) = false) : (lkOf h i).l < h.up.length + h.dn.length ∧ (lkOf h i).r < h.up.length := by
  unfold shapeB at hs
  rw [Bool.and_eq_true, Bool.or_eq_true, hp, decide_eq_true_eq] at hs
  rcases hs.2 with h1 | h1
  · cases h1
  · exact ⟨h1.2.1, h1.2.2.1⟩
theorem weight_same {h : HierT} (hu : Fst h.node.length h.uf h.up.length) (hd : Fst h.node.length h.df h.dn.length) {i : Nat} (hi : i < h.up.length + h.dn.length) (hs : shapeB h i = true) : weightE (endsT h) i = weightB h i := by
  have ei := endsT_at hu hd hi
  unfold weightE weightB
  rw [ei.lk]
  cases hp : plainB (lkOf h i) with
  | true => rfl
  | false =>
    obtain ⟨a, b⟩ := shape_children hs hp
    have h1 := endsT_at hu hd (i := (lkOf h i).l) (by omega)
    have h2 := endsT_at hu hd (i := (lkOf h i).r) (by omega)
    rw [h1.lk, h2.lk]
    rfl
theorem linksB_hit {h : HierT} {i : Nat} {c : Int} (hi : i < h.up.length + h.dn.length) (hb : ∀ r, r < i → linkB h r = none) (hc : linkB h i = some c) : linksB h = some (c, some (4, (i : Int))) := by
  unfold linksB
  rw [find_some (p := fun i => (linkB h i).isSome) (j := i) (fun r hr => by rw [hb r hr]; rfl) (by rw [hc]; rfl) hi]
  show (linkB h i).map _ = _
  rw [hc]
  rfl
theorem linksB_none {h : HierT} (hb : ∀ r, r < h.up.length + h.dn.length → linkB h r = none) : linksB h = none := by
  unfold linksB
  rw [find_none (p := fun i => (linkB h i).isSome) (fun r hr => by rw [hb r hr]; rfl)]
end Go.Proofs.Ytkcnnamghpdplaa
