/- Least ways over links that lead to higher ranks alone: what they are, that there is one answer; the document's way through the ranks, the program's way by a queue. -/
import Derived.Test.YtkcnnamghpdplaaDoorHeapM
set_option linter.unusedSimpArgs false
set_option linter.unusedVariables false
namespace Go.Proofs.YtkcnnamghpdplaaDoor

/-- a link: where to, its weight, its children -/
structure Lk where
  to : Nat
  w : Int
  l : Nat
  r : Nat
def farI : Int := 18446744073709551615
def topI : Int := 140737488355328
/-- the links that stand at a rank -/
def seg (f : List Nat) (ls : List Lk) (r : Nat) : List Lk := (ls.drop (f.getD r 0)).take (f.getD (r + 1) 0 - f.getD r 0)
/-- what a search leans on -/
structure Ups (n : Nat) (S : Nat → List Lk) : Prop where
  up : ∀ r l, r < n → l ∈ S r → r < l.to ∧ l.to < n
  w : ∀ r l, r < n → l ∈ S r → 0 ≤ l.w ∧ l.w ≤ topI
/-- the least ways from s -/
structure Sol (n : Nat) (S : Nat → List Lk) (s : Nat) (D : Nat → Option Int) : Prop where
  start : D s = some 0
  out : ∀ x, n ≤ x → D x = none
  le : ∀ r a l, r < n → D r = some a → l ∈ S r → ∃ b, D l.to = some b ∧ b ≤ a + l.w
  by_ : ∀ x b, x ≠ s → D x = some b → ∃ r a l, r < n ∧ D r = some a ∧ l ∈ S r ∧ l.to = x ∧ b = a + l.w
theorem Sol.unique {n : Nat} {S : Nat → List Lk} {s : Nat} {D D' : Nat → Option Int} (hu : Ups n S) (h : Sol n S s D) (h' : Sol n S s D') : ∀ x, D x = D' x := by
  intro x
  induction x using Nat.strongRecOn with
  | _ x ih =>
    by_cases hs : x = s
    · rw [hs, h.start, h'.start]
    · have one : ∀ (D D' : Nat → Option Int), Sol n S s D → Sol n S s D' → (∀ y, y < x → D y = D' y) → ∀ b, D x = some b → ∃ b', D' x = some b' ∧ b' ≤ b := by
        intro D D' h h' ih b hb
        obtain ⟨r, a, l, hr, hra, hl, hx, rfl⟩ := h.by_ x b hs hb
        have hlt := (hu.up r l hr hl).1
        obtain ⟨b', hb', hle⟩ := h'.le r a l hr (by rw [← ih r (by omega)]; exact hra) hl
        exact ⟨b', by rw [← hx]; exact hb', hle⟩
      cases hD : D x with
      | none =>
        cases hD' : D' x with
        | none => rfl
        | some b =>
          obtain ⟨b', hb', _⟩ := one D' D h' h (fun y hy => (ih y hy).symm) b hD'
          rw [hD] at hb'; cases hb'
      | some b =>
        obtain ⟨b', hb', hle⟩ := one D D' h h' ih b hD
        obtain ⟨b2, hb2, hle2⟩ := one D' D h' h (fun y hy => (ih y hy).symm) b' hb'
        rw [hD] at hb2
        obtain rfl := Option.some.inj hb2
        rw [hb', show b = b' by omega]

/-! ### the queue -/
def getO (m : List (Option Int)) (x : Nat) : Option Int := m.getD x none
theorem getO_set {m : List (Option Int)} {i : Nat} (hi : i < m.length) (v : Option Int) (x : Nat) : getO (m.set i v) x = if x = i then v else getO m x := by
  unfold getO
  rw [List.getD_eq_getElem?_getD, get_set m hi, List.getD_eq_getElem?_getD]
  split <;> rfl
theorem getO_out {m : List (Option Int)} {x : Nat} (h : m.length ≤ x) : getO m x = none := by
  unfold getO
  rw [List.getD_eq_getElem?_getD, List.getElem?_eq_none h]; rfl
theorem getO_lt {m : List (Option Int)} {x : Nat} {v : Int} (h : getO m x = some v) : x < m.length := by
  by_cases hx : x < m.length
  · exact hx
  · rw [getO_out (by omega)] at h; cases h
def pushO (q : List (Option Int)) (x : Nat) (k : Int) : List (Option Int) := match getO q x with
  | some old => if old ≤ k then q else q.set x (some k)
  | none => q.set x (some k)
theorem pushO_len (q : List (Option Int)) (x : Nat) (k : Int) : (pushO q x k).length = q.length := by
  unfold pushO; split
  · split <;> simp
  · simp
theorem getO_push {q : List (Option Int)} {x : Nat} (hx : x < q.length) (k : Int) (y : Nat) : (y ≠ x → getO (pushO q x k) y = getO q y) ∧ ∃ k', getO (pushO q x k) x = some k' ∧ k' ≤ k ∧ (k' = k ∨ getO q x = some k') ∧ (∀ old, getO q x = some old → k' ≤ old) := by
  unfold pushO
  cases ho : getO q x with
  | none =>
    simp only
    refine ⟨fun h => by rw [getO_set hx, if_neg h], k, by rw [getO_set hx, if_pos rfl], Int.le_refl _, .inl rfl, fun old h => by cases h⟩
  | some old =>
    simp only
    by_cases hle : old ≤ k
    · rw [if_pos hle]
      exact ⟨fun _ => rfl, old, ho, hle, .inr rfl, fun o h => by obtain rfl := Option.some.inj h; exact Int.le_refl _⟩
    · rw [if_neg hle]
      exact ⟨fun h => by rw [getO_set hx, if_neg h], k, by rw [getO_set hx, if_pos rfl], Int.le_refl _, .inl rfl, fun o h => by obtain rfl := Option.some.inj h; omega⟩
/-- m: what is done; q: what is in the queue; the links of the rank t are gone through up to the j-th -/
structure Dij (n : Nat) (S : Nat → List Lk) (s : Nat) (m q : List (Option Int)) (t : Nat) (j : Nat) : Prop where
  ml : m.length = n
  ql : q.length = n
  dis : ∀ x a, getO m x = some a → getO q x = none
  st : getO m s = some 0 ∨ getO q s = some 0
  ms : ∀ a, getO m s = some a → a = 0
  qs : ∀ a, getO q s = some a → a = 0
  le : ∀ r a l, getO m r = some a → l ∈ S r → (r = t → l ∈ (S t).take j) → ∃ b, (getO m l.to = some b ∨ getO q l.to = some b) ∧ b ≤ a + l.w
  by_ : ∀ x b, x ≠ s → (getO m x = some b ∨ getO q x = some b) → ∃ r a l, getO m r = some a ∧ l ∈ S r ∧ l.to = x ∧ b = a + l.w
  mq : ∀ x a y b, getO m x = some a → getO q y = some b → a ≤ b
  ub : ∀ x b, (getO m x = some b ∨ getO q x = some b) → 0 ≤ b ∧ b ≤ (x : Int) * topI
theorem Dij.start {n : Nat} {S : Nat → List Lk} {s : Nat} (hs : s < n) : Dij n S s (List.replicate n none) ((List.replicate n none).set s (some 0)) n 0 := by
  have hm : ∀ x, getO (List.replicate n none) x = none := fun x => by
    unfold getO
    rw [List.getD_eq_getElem?_getD, List.getElem?_replicate]
    split <;> rfl
  have hq : ∀ x, getO ((List.replicate n none).set s (some 0)) x = if x = s then some 0 else none := fun x => by
    rw [getO_set (by simpa using hs), hm]
  refine ⟨by simp, by simp, fun x a h => ?_, .inr ?_, fun a h => ?_, fun a h => ?_, fun r a l h => ?_, fun x b hx h => ?_, fun x a y b h => ?_, fun x b h => ?_⟩
  · rw [hm] at h; cases h
  · rw [hq, if_pos rfl]
  · rw [hm] at h; cases h
  · rw [hq, if_pos rfl] at h; exact (Option.some.inj h).symm
  · rw [hm] at h; cases h
  · rw [hm, hq, if_neg hx] at h; simp at h
  · rw [hm] at h; cases h
  · rw [hm, hq] at h
    rcases h with h | h
    · cases h
    · split at h
      · obtain rfl := Option.some.inj h
        exact ⟨Int.le_refl _, Int.mul_nonneg (by omega) (by unfold topI; omega)⟩
      · cases h
/-- all links of t are gone through: another one's turn may come -/
theorem Dij.all {n : Nat} {S : Nat → List Lk} {s : Nat} {m q : List (Option Int)} {t j : Nat} (h : Dij n S s m q t j) (hj : (S t).length ≤ j ∨ getO m t = none) (t' j' : Nat) (ht' : getO m t' = none) : Dij n S s m q t' j' := by
  refine ⟨h.ml, h.ql, h.dis, h.st, h.ms, h.qs, fun r a l hr hl _ => ?_, h.by_, h.mq, h.ub⟩
  refine h.le r a l hr hl (fun e => ?_)
  subst e
  rcases hj with hj | hj
  · rw [List.take_of_length_le hj]; exact hl
  · rw [hj] at hr; cases hr
/-- the least thing is taken out of the queue, and is done -/
theorem Dij.pop {n : Nat} {S : Nat → List Lk} {s : Nat} {m q : List (Option Int)} {t j x : Nat} {d : Int} (h : Dij n S s m q t j) (hj : (S t).length ≤ j ∨ getO m t = none) (hx : getO q x = some d) (hmin : ∀ y b, getO q y = some b → d ≤ b) :
    Dij n S s (m.set x (some d)) (q.set x none) x 0 := by
  have hxq : x < q.length := getO_lt hx
  have hxm : x < m.length := by rw [h.ml, ← h.ql]; exact hxq
  have hmx : getO m x = none := by
    cases hm : getO m x with
    | none => rfl
    | some a => have := h.dis x a hm; rw [this] at hx; cases hx
  have gm : ∀ y, getO (m.set x (some d)) y = if y = x then some d else getO m y := getO_set hxm _
  have gq : ∀ y, getO (q.set x none) y = if y = x then none else getO q y := getO_set hxq _
  have both : ∀ y b, (getO (m.set x (some d)) y = some b ∨ getO (q.set x none) y = some b) ↔ (getO m y = some b ∨ getO q y = some b) := by
    intro y b
    rw [gm, gq]
    by_cases e : y = x
    · subst e
      rw [if_pos rfl, if_pos rfl, hmx, hx]
      simp
    · rw [if_neg e, if_neg e]
  have h0 := h.all hj x 0 hmx
  refine ⟨by simp [h.ml], by simp [h.ql], fun y a hy => ?_, ?_, fun a hy => ?_, fun a hy => ?_, fun r a l hr hl ht => ?_, fun y b hy hb => ?_, fun y a z b hy hz => ?_, fun y b hb => h.ub y b ((both y b).1 hb)⟩
  · rw [gq]
    split
    · rfl
    · rename_i e; rw [gm, if_neg e] at hy; exact h.dis y a hy
  · exact (both s 0).2 h.st
  · rcases (both s a).1 (.inl hy) with h1 | h1
    · exact h.ms a h1
    · exact h.qs a h1
  · rcases (both s a).1 (.inr hy) with h1 | h1
    · exact h.ms a h1
    · exact h.qs a h1
  · by_cases e : r = x
    · have := ht e; simp at this
    · rw [gm, if_neg e] at hr
      obtain ⟨b, hb, hle⟩ := h0.le r a l hr hl (fun e' => absurd e' e)
      exact ⟨b, (both _ _).2 hb, hle⟩
  · obtain ⟨r, a, l, hr, hl, hto, hba⟩ := h.by_ y b hy ((both y b).1 hb)
    refine ⟨r, a, l, ?_, hl, hto, hba⟩
    rw [gm, if_neg (fun e => by rw [e, hmx] at hr; cases hr)]
    exact hr
  · rw [gq] at hz
    split at hz
    · cases hz
    · rw [gm] at hy
      split at hy
      · obtain rfl := Option.some.inj hy
        exact hmin z b hz
      · exact h.mq y a z b hy hz
theorem mul_le_of {a b : Nat} (h : a < b) : (a : Int) * topI + topI ≤ (b : Int) * topI := by
  unfold topI
  omega
/-- a link of the rank t is gone: what it leads to is done -/
theorem Dij.done_ {n : Nat} {S : Nat → List Lk} {s : Nat} {m q : List (Option Int)} {t j : Nat} {d b : Int} (hu : Ups n S) (h : Dij n S s m q t j) (hj : j < (S t).length) (ht : getO m t = some d) (hdone : getO m ((S t)[j]).to = some b)
    (hmax : ∀ y a, getO m y = some a → a ≤ d) : Dij n S s m q t (j + 1) := by
  have htn : t < n := by have := getO_lt ht; rw [h.ml] at this; exact this
  refine ⟨h.ml, h.ql, h.dis, h.st, h.ms, h.qs, fun r a l hr hl hp => ?_, h.by_, h.mq, h.ub⟩
  by_cases e : r = t
  · have hl2 := hp e
    rw [List.take_succ_eq_append_getElem hj] at hl2
    rcases List.mem_append.1 hl2 with hl2 | hl2
    · exact h.le r a l hr hl (fun _ => hl2)
    · obtain rfl := List.mem_singleton.1 hl2
      subst e
      rw [ht] at hr
      obtain rfl := Option.some.inj hr
      have hw := (hu.w _ _ htn hl).1
      have := hmax _ _ hdone
      exact ⟨b, .inl hdone, by omega⟩
  · exact h.le r a l hr hl (fun e' => absurd e' e)
/-- .. or it goes into the queue -/
theorem Dij.push {n : Nat} {S : Nat → List Lk} {s : Nat} {m q : List (Option Int)} {t j : Nat} {d : Int} (hu : Ups n S) (h : Dij n S s m q t j) (hj : j < (S t).length) (ht : getO m t = some d) (hnot : getO m ((S t)[j]).to = none)
    (hmax : ∀ y a, getO m y = some a → a ≤ d) : Dij n S s m (pushO q ((S t)[j]).to (d + ((S t)[j]).w)) t (j + 1) := by
  have htn : t < n := by have := getO_lt ht; rw [h.ml] at this; exact this
  have hmem : (S t)[j] ∈ S t := List.getElem_mem hj
  generalize hL : (S t)[j] = L at *
  obtain ⟨hup, hto⟩ := hu.up t L htn hmem
  obtain ⟨hw0, hw1⟩ := hu.w t L htn hmem
  have htq : L.to < q.length := by rw [h.ql]; exact hto
  have hb := (h.ub t d (.inl ht))
  have hpu := fun y => getO_push htq (d + L.w) y
  obtain ⟨k', hk1, hk2, hk3, hk4⟩ := (hpu 0).2
  have other : ∀ y, y ≠ L.to → getO (pushO q L.to (d + L.w)) y = getO q y := fun y hy => (hpu y).1 hy
  have hd0 := hb.1
  have hsL : L.to = s → k' = 0 := by
    intro e
    rcases h.st with h1 | h1
    · rw [← e, hnot] at h1; cases h1
    · have := hk4 0 (by rw [e]; exact h1)
      rcases hk3 with h2 | h2
      · omega
      · rw [e, h1] at h2; exact (Option.some.inj h2).symm
  refine ⟨h.ml, by rw [pushO_len]; exact h.ql, fun x a hx => ?_, ?_, h.ms, fun a hx => ?_, fun r a l hr hl hp => ?_, fun x b hx hxb => ?_, fun x a y b hx hy => ?_, fun x b hxb => ?_⟩
  · rw [other x (fun e => by rw [e, hnot] at hx; cases hx)]; exact h.dis x a hx
  · by_cases e : L.to = s
    · exact .inr (by rw [← e, hk1, hsL e])
    · rw [other s (fun e' => e e'.symm)]; exact h.st
  · by_cases e : L.to = s
    · rw [← e, hk1] at hx; rw [← Option.some.inj hx]; exact hsL e
    · rw [other s (fun e' => e e'.symm)] at hx; exact h.qs a hx
  · have old : ∀ b, (getO m l.to = some b ∨ getO q l.to = some b) → b ≤ a + l.w → ∃ b, (getO m l.to = some b ∨ getO (pushO q L.to (d + L.w)) l.to = some b) ∧ b ≤ a + l.w := by
      intro b hb hle
      rcases hb with hb | hb
      · exact ⟨b, .inl hb, hle⟩
      · by_cases e : l.to = L.to
        · rw [e] at hb ⊢
          have := hk4 b hb
          exact ⟨k', .inr hk1, by omega⟩
        · exact ⟨b, .inr (by rw [other _ e]; exact hb), hle⟩
    by_cases e : r = t
    · have hl2 := hp e
      rw [List.take_succ_eq_append_getElem hj, hL] at hl2
      rcases List.mem_append.1 hl2 with hl2 | hl2
      · obtain ⟨b, hb, hle⟩ := h.le r a l hr hl (fun _ => hl2)
        exact old b hb hle
      · obtain rfl := List.mem_singleton.1 hl2
        subst e
        rw [ht] at hr
        obtain rfl := Option.some.inj hr
        exact ⟨k', .inr hk1, hk2⟩
    · obtain ⟨b, hb, hle⟩ := h.le r a l hr hl (fun e' => absurd e' e)
      exact old b hb hle
  · rcases hxb with hxb | hxb
    · exact h.by_ x b hx (.inl hxb)
    · by_cases e : x = L.to
      · subst e
        rw [hk1] at hxb
        obtain rfl := Option.some.inj hxb
        rcases hk3 with h2 | h2
        · exact ⟨t, d, L, ht, hmem, rfl, h2⟩
        · exact h.by_ _ _ hx (.inr h2)
      · rw [other x e] at hxb
        exact h.by_ x b hx (.inr hxb)
  · by_cases e : y = L.to
    · subst e
      rw [hk1] at hy
      obtain rfl := Option.some.inj hy
      rcases hk3 with h2 | h2
      · have := hmax x a hx; omega
      · exact h.mq x a _ _ hx h2
    · rw [other y e] at hy
      exact h.mq x a y b hx hy
  · rcases hxb with hxb | hxb
    · exact h.ub x b (.inl hxb)
    · by_cases e : x = L.to
      · subst e
        rw [hk1] at hxb
        obtain rfl := Option.some.inj hxb
        rcases hk3 with h2 | h2
        · have := mul_le_of hup
          constructor
          · omega
          · have := hb.2; omega
        · exact h.ub _ _ (.inr h2)
      · rw [other x e] at hxb
        exact h.ub x b (.inr hxb)
/-- the queue is empty: what is done is the answer -/
theorem Dij.end_ {n : Nat} {S : Nat → List Lk} {s : Nat} {m q : List (Option Int)} {t j : Nat} (h : Dij n S s m q t j) (hj : (S t).length ≤ j ∨ getO m t = none) (hq : ∀ x, getO q x = none) : Sol n S s (getO m) := by
  refine ⟨?_, fun x hx => getO_out (by rw [h.ml]; exact hx), fun r a l hrn hr hl => ?_, fun x b hx hb => ?_⟩
  · rcases h.st with h1 | h1
    · exact h1
    · rw [hq] at h1; cases h1
  · obtain ⟨b, hb, hle⟩ := h.le r a l hr hl (fun e => by
      subst e
      rcases hj with hj | hj
      · rw [List.take_of_length_le hj]; exact hl
      · rw [hj] at hr; cases hr)
    rcases hb with hb | hb
    · exact ⟨b, hb, hle⟩
    · rw [hq] at hb; cases hb
  · obtain ⟨r, a, l, hr, hl, hto, hba⟩ := h.by_ x b hx (.inl hb)
    exact ⟨r, a, l, by have := getO_lt hr; rwa [h.ml] at this, hr, hl, hto, hba⟩
end Go.Proofs.YtkcnnamghpdplaaDoor
