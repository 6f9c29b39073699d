/- A hierarchy in which nothing is wrong: both its sides are fit to be climbed. -/
import Derived.Test.YtkcnnamghpdplaaCl18
set_option linter.unusedSimpArgs false
set_option linter.unusedVariables false
namespace Go.Proofs.Ytkcnnamghpdplaa

theorem at_map {α β : Type} {l : List α} {g : α → β} {m : List β} (h : l.map g = m) {i : Nat} (hi : i < l.length) : m[i]? = some (g l[i]) := by
  rw [← h, List.getElem?_map, List.getElem?_eq_getElem hi]
  rfl
theorem up_index {h : HierT} (hu : Fst h.node.length h.uf h.up.length) {r : Nat} {l : Lk} (hr : r < h.node.length) (hl : l ∈ seg h.uf h.up r) : ∃ i, i < h.up.length ∧ lkOf h i = l ∧ rkOf h i = r := by
  have hmem : (⟨l, r, l.to, r⟩ : EndS) ∈ upEnds h.uf h.up h.node.length := by
    unfold upEnds
    exact List.mem_flatMap.2 ⟨r, List.mem_range.2 hr, List.mem_map.2 ⟨l, hl, rfl⟩⟩
  obtain ⟨i, hi, he⟩ := List.mem_iff_getElem.1 hmem
  have h1 := at_map (upEnds_lk hu rfl) hi
  have h2 := at_map (upEnds_rank hu rfl) hi
  rw [he] at h1 h2
  have hlt : i < h.up.length := by
    have := congrArg List.length (upEnds_lk hu rfl)
    rw [List.length_map] at this
    omega
  have hrl := rankTo_len hu (Nat.le_refl _)
  rw [hu.e] at hrl
  refine ⟨i, hlt, ?_, ?_⟩
  · unfold lkOf
    rw [List.getD_eq_getElem?_getD, List.getElem?_append_left hlt, h1]
    rfl
  · unfold rkOf ranksT
    rw [List.getD_eq_getElem?_getD, List.getElem?_append_left (by omega), h2]
    rfl
theorem dn_index {h : HierT} (hu : Fst h.node.length h.uf h.up.length) (hd : Fst h.node.length h.df h.dn.length) {r : Nat} {l : Lk} (hr : r < h.node.length) (hl : l ∈ seg h.df h.dn r) : ∃ i, i < h.up.length + h.dn.length ∧ lkOf h i = l ∧ rkOf h i = r := by
  have hmem : (⟨l, l.to, r, r⟩ : EndS) ∈ dnEnds h.df h.dn h.node.length := by
    unfold dnEnds
    exact List.mem_flatMap.2 ⟨r, List.mem_range.2 hr, List.mem_map.2 ⟨l, hl, rfl⟩⟩
  obtain ⟨i, hi, he⟩ := List.mem_iff_getElem.1 hmem
  have h1 := at_map (dnEnds_lk hd rfl) hi
  have h2 := at_map (dnEnds_rank hd rfl) hi
  rw [he] at h1 h2
  have hlt : i < h.dn.length := by
    have := congrArg List.length (dnEnds_lk hd rfl)
    rw [List.length_map] at this
    omega
  have hrl := rankTo_len hu (Nat.le_refl _)
  rw [hu.e] at hrl
  refine ⟨h.up.length + i, by omega, ?_, ?_⟩
  · unfold lkOf
    rw [List.getD_eq_getElem?_getD, List.getElem?_append_right (by omega), Nat.add_sub_cancel_left, h1]
    rfl
  · unfold rkOf ranksT
    rw [List.getD_eq_getElem?_getD, List.getElem?_append_right (by omega), hrl, Nat.add_sub_cancel_left, h2]
    rfl
structure Sound (h : HierT) : Prop where
  n_le : h.node.length ≤ 65536
  m_le : h.up.length + h.dn.length ≤ 1048576
  u : Fst h.node.length h.uf h.up.length
  d : Fst h.node.length h.df h.dn.length
  links : ∀ i, i < h.up.length + h.dn.length → shapeB h i = true ∧ weightB h i = true
theorem Sound.of_none {h : HierT} (hc : chkB h = none) : Sound h := by
  unfold chkB at hc
  split at hc
  · cases hc
  · rename_i c1
    split at hc
    · cases hc
    · rename_i c2
      split at hc
      · cases hc
      · rename_i c3
        split at hc
        · cases hc
        · rename_i c4
          split at hc
          · cases hc
          · refine ⟨by omega, by omega, Fst.of_none (by omega) c3, Fst.of_none (by omega) c4, fun i hi => ?_⟩
            unfold linksB at hc
            split at hc
            · rename_i j hj
              have h1 := List.find?_some hj
              cases hlb : linkB h j with
              | none => rw [hlb] at h1; cases h1
              | some c => rw [hlb] at hc; cases hc
            · rename_i hn
              have h1 := List.find?_eq_none.1 hn i (List.mem_range.2 hi)
              unfold linkB at h1
              cases hs : shapeB h i with
              | false => rw [hs] at h1; simp at h1
              | true =>
                cases hw : weightB h i with
                | false => rw [hs, hw] at h1; simp at h1
                | true => exact ⟨rfl, rfl⟩
theorem Sound.link {h : HierT} (s : Sound h) {i : Nat} (hi : i < h.up.length + h.dn.length) : ((lkOf h i).to : Int) < h.node.length ∧ rkOf h i < (lkOf h i).to ∧ (lkOf h i).w ≤ topI := by
  obtain ⟨h1, h2⟩ := s.links i hi
  unfold shapeB at h1
  rw [Bool.and_eq_true, Bool.and_eq_true, decide_eq_true_eq] at h1
  refine ⟨h1.1.1.1, h1.1.1.2, ?_⟩
  unfold weightB at h2
  split at h2
  · have := of_decide_eq_true h2
    unfold topI
    omega
  · exact (of_decide_eq_true h2).1
theorem Sound.up {h : HierT} (s : Sound h) (hin : InH h) : Side h.node.length h.uf h.up := by
  refine ⟨s.u.fl, fun r hr => ⟨s.u.mono r hr, s.u.le (by omega)⟩, ⟨fun r l hr hl => ?_, fun r l hr hl => ?_⟩, s.n_le, by have := s.m_le; omega⟩
  · obtain ⟨i, hi, e1, e2⟩ := up_index s.u hr hl
    have := s.link (i := i) (by omega)
    rw [e1, e2] at this
    omega
  · obtain ⟨i, hi, e1, e2⟩ := up_index s.u hr hl
    have h1 := s.link (i := i) (by omega)
    rw [e1] at h1
    exact ⟨(hin.i2 l (List.mem_of_mem_drop (List.mem_of_mem_take hl))).w.1, h1.2.2⟩
theorem Sound.dn {h : HierT} (s : Sound h) (hin : InH h) : Side h.node.length h.df h.dn := by
  refine ⟨s.d.fl, fun r hr => ⟨s.d.mono r hr, s.d.le (by omega)⟩, ⟨fun r l hr hl => ?_, fun r l hr hl => ?_⟩, s.n_le, by have := s.m_le; omega⟩
  · obtain ⟨i, hi, e1, e2⟩ := dn_index s.u s.d hr hl
    have := s.link (i := i) (by omega)
    rw [e1, e2] at this
    omega
  · obtain ⟨i, hi, e1, e2⟩ := dn_index s.u s.d hr hl
    have h1 := s.link (i := i) (by omega)
    rw [e1] at h1
    exact ⟨(hin.i4 l (List.mem_of_mem_drop (List.mem_of_mem_take hl))).w.1, h1.2.2⟩
end Go.Proofs.Ytkcnnamghpdplaa
