/- The list that a search answers, read rank by rank; which ranks a tight link leads to (plain). -/
import Derived.Test.YtkcnnamghpdplaaDoorClA
import Derived.Test.YtkcnnamghpdplaaDoorClM2
set_option linter.unusedSimpArgs false
set_option linter.unusedVariables false
namespace Go.Proofs.YtkcnnamghpdplaaDoor

section
variable {n : Nat} {S : Nat → List Lk} {s : Nat} {D : Nat → Option Int}
theorem Sol.ub (hu : Ups n S) (h : Sol n S s D) : ∀ x b, D x = some b → 0 ≤ b ∧ b ≤ (x : Int) * topI := by
  intro x
  induction x using Nat.strongRecOn with
  | _ x ih =>
    intro b hb
    by_cases hs : x = s
    · subst hs
      rw [h.start] at hb
      cases hb
      have : (0 : Int) ≤ (x : Int) * topI := Int.mul_nonneg (by omega) (by unfold topI; omega)
      omega
    · obtain ⟨r, a, l, hr, hra, hl, hx, rfl⟩ := h.by_ x b hs hb
      have hlt := (hu.up r l hr hl).1
      obtain ⟨h1, h2⟩ := ih r (by omega) a hra
      have hw := hu.w r l hr hl
      have := mul_le_of (a := r) (b := x) (by omega)
      omega
theorem Sol.low (hu : Ups n S) (h : Sol n S s D) : ∀ x, x < s → D x = none := by
  intro x
  induction x using Nat.strongRecOn with
  | _ x ih =>
    intro hx
    cases hb : D x with
    | none => rfl
    | some b =>
      obtain ⟨r, a, l, hr, hra, hl, hx', rfl⟩ := h.by_ x b (by omega) hb
      have hlt := (hu.up r l hr hl).1
      rw [ih r (by omega) (by omega)] at hra
      cases hra
theorem Sol.safe (hu : Ups n S) (h : Sol n S s D) (hn : n ≤ 65536) {x : Nat} {b : Int} (hb : D x = some b) : x < n ∧ 0 ≤ b ∧ b ≤ 9223231299366420480 := by
  have hx : x < n := by
    rcases Nat.lt_or_ge x n with h' | h'
    · exact h'
    · rw [h.out x h'] at hb; cases hb
  obtain ⟨h1, h2⟩ := h.ub hu x b hb
  have h3 : (x : Int) * topI ≤ 65535 * topI := Int.mul_le_mul_of_nonneg_right (by omega) (by unfold topI; omega)
  have : (65535 : Int) * topI = 9223231299366420480 := by unfold topI; rfl
  omega
/-! ### the list -/
theorem seenTo_mem {S' : Nat → List Lk} {k : Nat} {x : SeenT} : x ∈ seenTo D S' k ↔ x.rank < k ∧ D x.rank = some x.dist ∧ x.st = stalledB S' D x.rank x.dist := by
  unfold seenTo
  rw [List.mem_filterMap]
  constructor
  · rintro ⟨r, hr, he⟩
    rw [List.mem_range] at hr
    cases hd : D r with
    | none => rw [hd] at he; cases he
    | some d =>
      rw [hd] at he
      simp only [Option.map_some, Option.some.injEq] at he
      subst he
      exact ⟨hr, hd, rfl⟩
  · rintro ⟨hr, hd, hst⟩
    refine ⟨x.rank, List.mem_range.2 hr, ?_⟩
    rw [hd]
    obtain ⟨x1, x2, x3⟩ := x
    simp only [Option.map_some, Option.some.injEq]
    simp only at hst
    rw [hst]
theorem seenTo_sorted (D : Nat → Option Int) (S' : Nat → List Lk) : ∀ k, (seenTo D S' k).Pairwise fun a b => a.rank < b.rank
  | 0 => by simp [seenTo]
  | k + 1 => by
    rw [seenTo_succ, List.pairwise_append]
    refine ⟨seenTo_sorted D S' k, ?_, fun a ha b hb => ?_⟩
    · cases D k <;> simp
    · have h1 := (seenTo_mem.1 ha).1
      cases hd : D k with
      | none => rw [hd] at hb; cases hb
      | some d =>
        rw [hd] at hb
        simp only [List.mem_cons, List.not_mem_nil, or_false] at hb
        subst hb
        exact h1
theorem sorted_lt {L : List SeenT} (h : L.Pairwise fun a b => a.rank < b.rank) {i j : Nat} (hij : i < j) (hj : j < L.length) : (L[i]'(by omega)).rank < (L[j]).rank :=
  List.pairwise_iff_getElem.1 h i j (by omega) hj hij
/-- what the list is good for -/
structure ListG (n : Nat) (D : Nat → Option Int) (s : Nat) (L : List SeenT) : Prop where
  at_ : ∀ i (hi : i < L.length), (L[i]).rank < n ∧ D (L[i]).rank = some (L[i]).dist
  up : ∀ i (hi : i + 1 < L.length), (L[i]'(by omega)).rank < (L[i + 1]).rank
  all : ∀ x b, D x = some b → ∃ i, ∃ hi : i < L.length, (L[i]).rank = x
  pos : 0 < L.length
  first : ∀ h0 : 0 < L.length, (L[0]).rank = s ∧ (L[0]).dist = 0
theorem list_good (hu : Ups n S) (h : Sol n S s D) (S' : Nat → List Lk) : ListG n D s (seenTo D S' n) := by
  have hall : ∀ x b, D x = some b → ∃ i, ∃ hi : i < (seenTo D S' n).length, ((seenTo D S' n)[i]).rank = x := by
    intro x b hb
    have hx : x < n := by
      rcases Nat.lt_or_ge x n with h' | h'
      · exact h'
      · rw [h.out x h'] at hb; cases hb
    have hm : (⟨x, b, stalledB S' D x b⟩ : SeenT) ∈ seenTo D S' n := seenTo_mem.2 ⟨hx, hb, rfl⟩
    obtain ⟨i, hi, e⟩ := List.getElem_of_mem hm
    exact ⟨i, hi, by rw [e]⟩
  have hat : ∀ i (hi : i < (seenTo D S' n).length), ((seenTo D S' n)[i]).rank < n ∧ D ((seenTo D S' n)[i]).rank = some ((seenTo D S' n)[i]).dist := fun i hi => by
    have := seenTo_mem.1 (List.getElem_mem hi)
    exact ⟨this.1, this.2.1⟩
  obtain ⟨i, hi, he⟩ := hall s 0 h.start
  refine ⟨hat, fun i hi => sorted_lt (seenTo_sorted D S' n) (by omega) hi, hall, by omega, fun h0 => ?_⟩
  have h1 := hat 0 h0
  have h2 : ((seenTo D S' n)[0]).rank = s := by
    rcases Nat.eq_zero_or_pos i with rfl | hpos
    · exact he
    · have hlt := sorted_lt (seenTo_sorted D S' n) hpos hi
      rw [he] at hlt
      rw [h.low hu _ hlt] at h1
      cases h1.2
  refine ⟨h2, ?_⟩
  rw [h2, h.start] at h1
  exact (Option.some.inj h1.2).symm
/-! ### the distances written down, entry by entry -/
def PutTo (n : Nat) (D : Nat → Option Int) (L : List SeenT) (d : List Int) (i : Nat) : Prop := d.length = n ∧ ∀ x, ((∃ j, ∃ hj : j < L.length, j < i ∧ (L[j]).rank = x) → dg d x = (D x).getD farI) ∧ ((¬ ∃ j, ∃ hj : j < L.length, j < i ∧ (L[j]).rank = x) → dg d x = farI)
theorem PutTo.start (n : Nat) (D : Nat → Option Int) (L : List SeenT) : PutTo n D L (List.replicate n farI) 0 :=
  ⟨by simp, fun x => ⟨fun ⟨j, _, hj, _⟩ => by omega, fun _ => dg_rep n x⟩⟩
theorem PutTo.step {L : List SeenT} {d : List Int} {i : Nat} (hg : ListG n D s L) (h : PutTo n D L d i) (hi : i < L.length) : PutTo n D L (d.set (L[i]).rank (L[i]).dist) (i + 1) := by
  obtain ⟨h1, h2⟩ := h
  obtain ⟨g1, g2⟩ := hg.at_ i hi
  refine ⟨by simpa using h1, fun x => ?_⟩
  rw [dg_set (by omega)]
  by_cases hx : x = (L[i]).rank
  · rw [if_pos hx]
    refine ⟨fun _ => by rw [hx, g2]; rfl, fun hn => absurd ⟨i, hi, by omega, hx.symm⟩ hn⟩
  · rw [if_neg hx]
    refine ⟨fun ⟨j, hj, hji, he⟩ => (h2 x).1 ⟨j, hj, ?_, he⟩, fun hn => (h2 x).2 fun ⟨j, hj, hji, he⟩ => hn ⟨j, hj, by omega, he⟩⟩
    rcases Nat.lt_or_ge j i with h' | h'
    · exact h'
    · obtain rfl : j = i := by omega
      exact absurd he.symm hx
def AllD (n : Nat) (D : Nat → Option Int) (d : List Int) : Prop := d.length = n ∧ ∀ x, dg d x = (D x).getD farI
theorem PutTo.end_ {L : List SeenT} {d : List Int} {i : Nat} (hg : ListG n D s L) (h : PutTo n D L d i) (hi : L.length ≤ i) : AllD n D d := by
  refine ⟨h.1, fun x => ?_⟩
  cases hb : D x with
  | some b =>
    obtain ⟨j, hj, he⟩ := hg.all x b hb
    rw [(h.2 x).1 ⟨j, hj, by omega, he⟩, hb]
  | none =>
    rw [(h.2 x).2 fun ⟨j, hj, _, he⟩ => by have := (hg.at_ j hj).2; rw [he, hb] at this; cases this]
    rfl
theorem AllD.some_ {d : List Int} (h : AllD n D d) {x : Nat} {b : Int} (hb : D x = some b) : dg d x = b := by rw [h.2 x, hb]; rfl
theorem AllD.none_ {d : List Int} (h : AllD n D d) {x : Nat} (hb : D x = none) : dg d x = farI := by rw [h.2 x, hb]; rfl
/-! ### what a tight link leads to -/
def Tight (S : Nat → List Lk) (s : Nat) (D : Nat → Option Int) (r j x : Nat) : Prop := x = s ∨ ∃ r' a l, D r' = some a ∧ l.to = x ∧ D x = some (a + l.w) ∧ (r' < r ∧ l ∈ S r' ∨ r' = r ∧ l ∈ (S r).take j)
theorem Tight.start (S : Nat → List Lk) (s : Nat) (D : Nat → Option Int) (x : Nat) : Tight S s D 0 0 x ↔ x = s := by
  unfold Tight
  constructor
  · rintro (h | ⟨r', a, l, -, -, -, ⟨h, -⟩ | ⟨-, h⟩⟩)
    · exact h
    · omega
    · simp at h
  · exact .inl
theorem Tight.next {r j x : Nat} (hj : (S r).length ≤ j ∨ D r = none) : Tight S s D (r + 1) 0 x ↔ Tight S s D r j x := by
  unfold Tight
  constructor
  · rintro (h | ⟨r', a, l, h1, h2, h3, ⟨h, hl⟩ | ⟨-, h⟩⟩)
    · exact .inl h
    · rcases Nat.lt_or_ge r' r with h' | h'
      · exact .inr ⟨r', a, l, h1, h2, h3, .inl ⟨h', hl⟩⟩
      · obtain rfl : r' = r := by omega
        rcases hj with hj | hj
        · exact .inr ⟨r', a, l, h1, h2, h3, .inr ⟨rfl, by rw [List.take_of_length_le hj]; exact hl⟩⟩
        · rw [hj] at h1; cases h1
    · simp at h
  · rintro (h | ⟨r', a, l, h1, h2, h3, ⟨h, hl⟩ | ⟨rfl, h⟩⟩)
    · exact .inl h
    · exact .inr ⟨r', a, l, h1, h2, h3, .inl ⟨by omega, hl⟩⟩
    · exact .inr ⟨r', a, l, h1, h2, h3, .inl ⟨by omega, List.mem_of_mem_take h⟩⟩
theorem Tight.step {r j x : Nat} {a : Int} (hj : j < (S r).length) (ha : D r = some a) : Tight S s D r (j + 1) x ↔ Tight S s D r j x ∨ ((S r)[j]).to = x ∧ D x = some (a + ((S r)[j]).w) := by
  unfold Tight
  rw [List.take_succ_eq_append_getElem hj]
  constructor
  · rintro (h | ⟨r', a', l, h1, h2, h3, ⟨h, hl⟩ | ⟨rfl, h⟩⟩)
    · exact .inl (.inl h)
    · exact .inl (.inr ⟨r', a', l, h1, h2, h3, .inl ⟨h, hl⟩⟩)
    · rw [List.mem_append, List.mem_singleton] at h
      rcases h with h | rfl
      · exact .inl (.inr ⟨r', a', l, h1, h2, h3, .inr ⟨rfl, h⟩⟩)
      · rw [ha] at h1
        cases h1
        exact .inr ⟨h2, h3⟩
  · rintro ((h | ⟨r', a', l, h1, h2, h3, ⟨h, hl⟩ | ⟨rfl, h⟩⟩) | ⟨h2, h3⟩)
    · exact .inl h
    · exact .inr ⟨r', a', l, h1, h2, h3, .inl ⟨h, hl⟩⟩
    · exact .inr ⟨r', a', l, h1, h2, h3, .inr ⟨rfl, List.mem_append_left _ h⟩⟩
    · exact .inr ⟨r, a, _, ha, h2, h3, .inr ⟨rfl, List.mem_append_right _ (List.mem_singleton.2 rfl)⟩⟩
theorem Tight.end_ {x : Nat} (h : Sol n S s D) (hx : x < n) : Tight S s D n 0 x ↔ D x ≠ none := by
  unfold Tight
  constructor
  · rintro (rfl | ⟨r', a, l, h1, h2, h3, -⟩)
    · rw [h.start]; simp
    · rw [h3]; simp
  · intro hd
    obtain ⟨b, hb⟩ := Option.ne_none_iff_exists'.1 hd
    by_cases hs : x = s
    · exact .inl hs
    · obtain ⟨r, a, l, hr, hra, hl, hx', rfl⟩ := h.by_ x b hs hb
      exact .inr ⟨r, a, l, hra, hx', hb, .inl ⟨hr, hl⟩⟩
/-- the marks -/
def MarksOf (n : Nat) (S : Nat → List Lk) (s : Nat) (D : Nat → Option Int) (r j : Nat) (m : List Bool) : Prop := m.length = n ∧ ∀ x, x < n → (m.getD x false = true ↔ Tight S s D r j x)
theorem MarksOf.start (hs : s < n) (S : Nat → List Lk) (D : Nat → Option Int) : MarksOf n S s D 0 0 ((List.replicate n false).set s true) := by
  refine ⟨by simp, fun x hx => ?_⟩
  rw [Tight.start, List.getD_eq_getElem?_getD, List.getElem?_set]
  by_cases h : s = x
  · rw [if_pos h, if_pos (by simpa using hs)]
    simp [h]
  · rw [if_neg h, List.getElem?_replicate, if_pos hx]
    simp [show ¬ x = s from fun e => h e.symm]
theorem MarksOf.next {r j : Nat} {m : List Bool} (h : MarksOf n S s D r j m) (hj : (S r).length ≤ j ∨ D r = none) : MarksOf n S s D (r + 1) 0 m := ⟨h.1, fun x hx => by rw [Tight.next hj]; exact h.2 x hx⟩
theorem MarksOf.step {r j : Nat} {m : List Bool} {a : Int} (h : MarksOf n S s D r j m) (hj : j < (S r).length) (ha : D r = some a) (ht : ((S r)[j]).to < n) {c : Bool} (hc : c = true ↔ D ((S r)[j]).to = some (a + ((S r)[j]).w)) :
    MarksOf n S s D r (j + 1) (m.set ((S r)[j]).to (m.getD ((S r)[j]).to false || c)) := by
  refine ⟨by simpa using h.1, fun x hx => ?_⟩
  rw [Tight.step hj ha, List.getD_eq_getElem?_getD, List.getElem?_set]
  have hx' := h.2 x hx
  by_cases he : ((S r)[j]).to = x
  · rw [if_pos he, if_pos (by rw [h.1]; exact ht), he]
    simp only [Option.getD_some, Bool.or_eq_true, true_and]
    rw [hx', hc, he]
  · rw [if_neg he, ← List.getD_eq_getElem?_getD, hx']
    simp [he]
end
end Go.Proofs.YtkcnnamghpdplaaDoor
