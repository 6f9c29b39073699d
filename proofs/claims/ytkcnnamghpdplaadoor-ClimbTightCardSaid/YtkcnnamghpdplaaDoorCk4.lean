/- A list that has each number below its length once; how many steps there are (plain). -/
import Derived.Test.YtkcnnamghpdplaaDoorCk3
import Derived.Test.YtkcnnamghpdplaaDoorClE
set_option linter.unusedVariables false
namespace Go.Proofs.YtkcnnamghpdplaaDoor
/-! ### a list that has each number below its length once -/
theorem nodup_le : ∀ (n : Nat) (l : List Nat), l.Nodup → (∀ x ∈ l, x < n) → l.length ≤ n
  | 0, l, _, h => by
    cases l with
    | nil => exact Nat.le_refl _
    | cons x r => have := h x (List.mem_cons_self ..); omega
  | n + 1, l, hd, h => by
    have h1 := nodup_le n (l.erase n) (hd.erase n) (fun x hx => by
      have h2 := h x (List.mem_of_mem_erase hx)
      have h3 : x ≠ n := fun e => by rw [hd.mem_erase_iff] at hx; exact hx.1 e
      omega)
    have h2 : l.length ≤ (l.erase n).length + 1 := by
      rw [List.length_erase]
      split <;> omega
    omega
theorem nodup_all : ∀ (n : Nat) (l : List Nat), l.Nodup → (∀ x ∈ l, x < n) → n ≤ l.length → ∀ v, v < n → v ∈ l
  | 0, l, _, _, _, v, hv => by omega
  | n + 1, l, hd, h, hl, v, hv => by
    have hn : n ∈ l := by
      rcases Classical.em (n ∈ l) with h' | h'
      · exact h'
      · have := nodup_le n l hd (fun x hx => by
          have h2 := h x hx
          have h3 : x ≠ n := fun e => h' (e ▸ hx)
          omega)
        omega
    by_cases hvn : v = n
    · rw [hvn]; exact hn
    · have h1 := nodup_all n (l.erase n) (hd.erase n) (fun x hx => by
        have h2 := h x (List.mem_of_mem_erase hx)
        have h3 : x ≠ n := fun e => by rw [hd.mem_erase_iff] at hx; exact hx.1 e
        omega) (by rw [List.length_erase_of_mem hn]; omega) v (by omega)
      exact List.mem_of_mem_erase h1
structure Perm (l : List Nat) (n : Nat) : Prop where
  len : l.length = n
  lt : ∀ r, r < n → l.getD r 0 < n
  inj : ∀ r s, r < n → s < n → l.getD r 0 = l.getD s 0 → r = s
  all : ∀ v, v < n → ∃ r, r < n ∧ l.getD r 0 = v
theorem Perm.of_order {l : List Nat} {n : Nat} (hl : l.length = n) (h : orderB l n = none) : Perm l n := by
  have h1 : ∀ r, r < n → l.getD r 0 < n ∧ l.getD r 0 ∉ l.take r := by
    intro r hr
    unfold orderB at h
    cases hf : (List.range n).find? (againB l n) with
    | some x => rw [hf] at h; cases h
    | none =>
      have h2 := List.find?_eq_none.1 hf r (List.mem_range.2 hr)
      unfold againB at h2
      have h3 := of_decide_eq_false (Bool.not_eq_true _ ▸ h2 : decide _ = false)
      exact ⟨by rcases Nat.lt_or_ge (l.getD r 0) n with h' | h'
                · exact h'
                · exact absurd (.inl h') h3, fun h' => h3 (.inr h')⟩
  have hg : ∀ r (hr : r < n), l.getD r 0 = l[r]'(by omega) := fun r hr => by
    rw [List.getD_eq_getElem?_getD, List.getElem?_eq_getElem (by omega)]
    rfl
  have lt2 : ∀ r s, r < s → s < n → l.getD r 0 ≠ l.getD s 0 := by
    intro r s hrs hs e
    refine (h1 s hs).2 ?_
    rw [← e, hg r (by omega)]
    have h2 : r < (l.take s).length := by rw [List.length_take]; omega
    have h3 : (l.take s)[r] ∈ l.take s := List.getElem_mem h2
    rwa [List.getElem_take] at h3
  have inj : ∀ r s, r < n → s < n → l.getD r 0 = l.getD s 0 → r = s := by
    intro r s hr hs e
    rcases Nat.lt_trichotomy r s with h | h | h
    · exact absurd e (lt2 r s h hs)
    · exact h
    · exact absurd e.symm (lt2 s r h hr)
  have hnd : l.Nodup := by
    unfold List.Nodup
    rw [List.pairwise_iff_getElem]
    intro i j hi hj hij e
    have := lt2 i j hij (by omega)
    rw [hg i (by omega), hg j (by omega)] at this
    exact this e
  refine ⟨hl, fun r hr => (h1 r hr).1, inj, fun v hv => ?_⟩
  have hm := nodup_all n l hnd (fun x hx => by
    obtain ⟨i, hi, rfl⟩ := List.getElem_of_mem hx
    rw [← hg i (by omega)]
    exact (h1 i (by omega)).1) (by omega) v hv
  obtain ⟨i, hi, e⟩ := List.getElem_of_mem hm
  exact ⟨i, by omega, by rw [hg i (by omega)]; exact e⟩
/-- how many steps there are -/
theorem ents_len {n : Nat} {f g : List Nat} {ls ks : List Lk} (hf : Side n f ls) (hg : Side n g ks) : ∀ k, k ≤ n → (entsTo (seg f ls) (seg g ks) k).length ≤ f.getD k 0 + g.getD k 0
  | 0, _ => by simp [entsTo]
  | k + 1, hk => by
    have ih := ents_len hf hg k (by omega)
    have h1 := hf.len (r := k) (by omega)
    have h2 := hg.len (r := k) (by omega)
    have m1 := hf.mono k (by omega)
    have m2 := hg.mono k (by omega)
    simp only [entsTo, List.length_append, List.length_map]
    omega
theorem ents_le {n : Nat} {f g : List Nat} {ls ks : List Lk} (hf : Side n f ls) (hg : Side n g ks) (k : Nat) (hk : k ≤ n) : (entsTo (seg f ls) (seg g ks) k).length ≤ ls.length + ks.length := by
  rcases Nat.eq_zero_or_pos k with rfl | hp
  · simp [entsTo]
  · have h1 := ents_len hf hg k hk
    have m1 := hf.mono (k - 1) (by omega)
    have m2 := hg.mono (k - 1) (by omega)
    rw [show k - 1 + 1 = k by omega] at m1 m2
    omega
theorem chk_perm {h : HierT} (hc : chkB h = none) : Perm h.node h.node.length := by
  refine Perm.of_order rfl ?_
  unfold chkB at hc
  split at hc
  · cases hc
  · split at hc
    · cases hc
    · split at hc
      · cases hc
      · split at hc
        · cases hc
        · split at hc
          · cases hc
          · assumption
end Go.Proofs.YtkcnnamghpdplaaDoor
