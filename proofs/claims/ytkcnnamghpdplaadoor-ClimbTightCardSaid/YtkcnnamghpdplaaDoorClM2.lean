/- The document's way through the ranks finds the least ways. -/
import Derived.Test.YtkcnnamghpdplaaDoorClM
set_option linter.unusedSimpArgs false
set_option linter.unusedVariables false
namespace Go.Proofs.YtkcnnamghpdplaaDoor

def dg (d : List Int) (x : Nat) : Int := d.getD x farI
def dOf (d : List Int) (x : Nat) : Option Int := if dg d x = farI then none else some (dg d x)
theorem dg_set {d : List Int} {i : Nat} (hi : i < d.length) (v : Int) (x : Nat) : dg (d.set i v) x = if x = i then v else dg d x := by
  unfold dg
  rw [List.getD_eq_getElem?_getD, get_set d hi, List.getD_eq_getElem?_getD]
  split <;> rfl
theorem dg_out {d : List Int} {x : Nat} (h : d.length ≤ x) : dg d x = farI := by
  unfold dg
  rw [List.getD_eq_getElem?_getD, List.getElem?_eq_none h]; rfl
/-- all ranks below t have been gone through, and j links of t -/
structure Dst (n : Nat) (S : Nat → List Lk) (s : Nat) (d : List Int) (t j : Nat) : Prop where
  len : d.length = n
  st : dg d s = 0
  nn : ∀ x, 0 ≤ dg d x
  le : ∀ r l, r ≤ t → r < n → dg d r ≠ farI → l ∈ S r → (r = t → l ∈ (S t).take j) → dg d l.to ≤ dg d r + l.w
  by_ : ∀ x, x ≠ s → dg d x ≠ farI → ∃ r l, r ≤ t ∧ r < n ∧ dg d r ≠ farI ∧ l ∈ S r ∧ l.to = x ∧ dg d x = dg d r + l.w
  ub : ∀ x, dg d x ≠ farI → dg d x ≤ (x : Int) * topI
theorem dg_rep (n x : Nat) : dg (List.replicate n farI) x = farI := by
  unfold dg
  rw [List.getD_eq_getElem?_getD, List.getElem?_replicate]
  split <;> rfl
theorem Dst.start {n : Nat} {S : Nat → List Lk} {s : Nat} (hs : s < n) : Dst n S s ((List.replicate n farI).set s 0) 0 0 := by
  have h : ∀ x, dg ((List.replicate n farI).set s 0) x = if x = s then 0 else farI := fun x => by rw [dg_set (by simpa using hs), dg_rep]
  refine ⟨by simp, by rw [h, if_pos rfl], fun x => ?_, fun r l hr hn hd hl hp => ?_, fun x hx hd => ?_, fun x hd => ?_⟩
  · rw [h]; split
    · exact Int.le_refl _
    · unfold farI; omega
  · have := hp (by omega); simp at this
  · rw [h, if_neg hx] at hd; exact absurd rfl hd
  · rw [h] at hd ⊢
    split
    · exact Int.mul_nonneg (by omega) (by unfold topI; omega)
    · rename_i e; rw [if_neg e] at hd; exact absurd rfl hd
theorem Dst.next {n : Nat} {S : Nat → List Lk} {s : Nat} {d : List Int} {t j : Nat} (h : Dst n S s d t j) (hj : (S t).length ≤ j ∨ dg d t = farI) : Dst n S s d (t + 1) 0 := by
  refine ⟨h.len, h.st, h.nn, fun r l hr hn hd hl hp => ?_, fun x hx hd => ?_, h.ub⟩
  · by_cases e : r = t + 1
    · have := hp e; simp at this
    · refine h.le r l (by omega) hn hd hl (fun e2 => ?_)
      subst e2
      rcases hj with hj | hj
      · rw [List.take_of_length_le hj]; exact hl
      · exact absurd hj hd
  · obtain ⟨r, l, hr, hn, hrd, hl, hto, he⟩ := h.by_ x hx hd
    exact ⟨r, l, by omega, hn, hrd, hl, hto, he⟩
theorem Dst.step {n : Nat} {S : Nat → List Lk} {s : Nat} {d : List Int} {t j : Nat} (hu : Ups n S) (hn : n ≤ 65536) (h : Dst n S s d t j) (ht : t < n) (hj : j < (S t).length) (hd : dg d t ≠ farI) :
    Dst n S s (d.set ((S t)[j]).to (min (dg d ((S t)[j]).to) (dg d t + ((S t)[j]).w))) t (j + 1) := by
  have hmem : (S t)[j] ∈ S t := List.getElem_mem hj
  have htk := List.take_succ_eq_append_getElem hj
  generalize (S t)[j] = L at *
  obtain ⟨hup, hto⟩ := hu.up t L ht hmem
  obtain ⟨hw0, hw1⟩ := hu.w t L ht hmem
  have hub := h.ub t hd
  have hnn := h.nn t
  have hmul := mul_le_of hup
  have hfar : dg d t + L.w < farI := by
    unfold topI at hub hw1
    unfold farI
    omega
  have hg : ∀ x, dg (d.set L.to (min (dg d L.to) (dg d t + L.w))) x = if x = L.to then min (dg d L.to) (dg d t + L.w) else dg d x := dg_set (by rw [h.len]; exact hto) _
  have hmin1 : min (dg d L.to) (dg d t + L.w) ≤ dg d L.to := Int.min_le_left _ _
  have hmin2 : min (dg d L.to) (dg d t + L.w) ≤ dg d t + L.w := Int.min_le_right _ _
  have hle : ∀ x, dg (d.set L.to (min (dg d L.to) (dg d t + L.w))) x ≤ dg d x := fun x => by
    rw [hg]; split
    · rename_i e; rw [e]; exact hmin1
    · exact Int.le_refl _
  have hlow : ∀ x, x ≤ t → dg (d.set L.to (min (dg d L.to) (dg d t + L.w))) x = dg d x := fun x hx => by rw [hg, if_neg (by omega)]
  refine ⟨by rw [List.length_set]; exact h.len, ?_, fun x => ?_, fun r l hr hrn hrd hl hp => ?_, fun x hx hxd => ?_, fun x hxd => ?_⟩
  · rw [hg]; split
    · rename_i e
      rw [← e, h.st]
      rw [Int.min_def, if_pos (by omega)]
    · exact h.st
  · rw [hg]; split
    · have := h.nn L.to
      rw [Int.min_def]; split <;> omega
    · exact h.nn x
  · rw [hlow r hr] at hrd ⊢
    by_cases e : r = t
    · have hl2 := hp e
      rw [htk] at hl2
      rcases List.mem_append.1 hl2 with hl2 | hl2
      · exact Int.le_trans (hle _) (h.le r l hr hrn hrd hl (fun _ => hl2))
      · obtain rfl := List.mem_singleton.1 hl2
        rw [hg, if_pos rfl, e]; exact hmin2
    · exact Int.le_trans (hle _) (h.le r l hr hrn hrd hl (fun e' => absurd e' e))
  · by_cases e : x = L.to
    · rw [hg, if_pos e] at hxd ⊢
      by_cases hc : dg d L.to ≤ dg d t + L.w
      · have hmn : min (dg d L.to) (dg d t + L.w) = dg d L.to := by rw [Int.min_def, if_pos hc]
        obtain ⟨r, l, hr, hrn, hrd, hl, hlt, he⟩ := h.by_ L.to (by rw [← e]; exact hx) (by rw [← hmn]; exact hxd)
        exact ⟨r, l, hr, hrn, by rw [hlow r hr]; exact hrd, hl, by rw [hlt, e], by rw [hlow r hr]; exact hmn.trans he⟩
      · have hmn : min (dg d L.to) (dg d t + L.w) = dg d t + L.w := by rw [Int.min_def, if_neg hc]
        exact ⟨t, L, Nat.le_refl _, ht, by rw [hlow t (Nat.le_refl _)]; exact hd, hmem, e.symm, by rw [hlow t (Nat.le_refl _)]; exact hmn⟩
    · rw [hg, if_neg e] at hxd ⊢
      obtain ⟨r, l, hr, hrn, hrd, hl, hlt, he⟩ := h.by_ x hx hxd
      exact ⟨r, l, hr, hrn, by rw [hlow r hr]; exact hrd, hl, hlt, by rw [hlow r hr]; exact he⟩
  · by_cases e : x = L.to
    · rw [hg, if_pos e] at hxd ⊢
      subst e
      omega
    · rw [hg, if_neg e] at hxd ⊢
      exact h.ub x hxd
theorem Dst.sol {n : Nat} {S : Nat → List Lk} {s : Nat} {d : List Int} {t : Nat} (hu : Ups n S) (hn : n ≤ 65536) (h : Dst n S s d t 0) (ht : n ≤ t) : Sol n S s (dOf d) := by
  have some_of : ∀ {x b}, dOf d x = some b → dg d x ≠ farI ∧ b = dg d x := fun {x b} hx => by
    unfold dOf at hx
    split at hx
    · cases hx
    · rename_i e; exact ⟨e, (Option.some.inj hx).symm⟩
  refine ⟨?_, fun x hx => ?_, fun r a l hr ha hl => ?_, fun x b hx hb => ?_⟩
  · unfold dOf; rw [h.st, if_neg (by unfold farI; omega)]
  · unfold dOf; rw [dg_out (by rw [h.len]; exact hx), if_pos rfl]
  · obtain ⟨h1, rfl⟩ := some_of ha
    have hle := h.le r l (by omega) hr h1 hl (fun e => by omega)
    have hub := h.ub r h1
    have hw := (hu.w r l hr hl)
    obtain ⟨hup, hto⟩ := hu.up r l hr hl
    have hfar : dg d l.to ≠ farI := by
      unfold topI at hub hw
      unfold farI
      omega
    exact ⟨dg d l.to, by unfold dOf; rw [if_neg hfar], hle⟩
  · obtain ⟨h1, rfl⟩ := some_of hb
    obtain ⟨r, l, hr, hn, hrd, hl, hto, he⟩ := h.by_ x hx h1
    exact ⟨r, dg d r, l, hn, by unfold dOf; rw [if_neg hrd], hl, hto, he⟩
theorem Dst.safe {n : Nat} {S : Nat → List Lk} {s : Nat} {d : List Int} {t j : Nat} (h : Dst n S s d t j) (hn : n ≤ 65536) (x : Nat) : dg d x = farI ∨ 0 ≤ dg d x ∧ dg d x ≤ 9223231299366420480 := by
  by_cases hx : dg d x = farI
  · exact .inl hx
  · have h1 := h.ub x hx
    have h2 : x < n := by
      by_cases e : x < n
      · exact e
      · exact absurd (dg_out (by rw [h.len]; omega)) hx
    refine .inr ⟨h.nn x, ?_⟩
    unfold topI at h1
    omega
end Go.Proofs.YtkcnnamghpdplaaDoor
