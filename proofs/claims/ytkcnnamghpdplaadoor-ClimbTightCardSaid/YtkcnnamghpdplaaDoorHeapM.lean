/- What a heap holds, in plain lists: no program in sight. -/
import Derived.Test.YtkcnnamghpdplaaDoorBase
set_option linter.unusedSimpArgs false
set_option linter.unusedVariables false
namespace Go.Proofs.YtkcnnamghpdplaaDoor

/-- a thing: its key, its id -/
abbrev It := Int × Nat
def lessI (a b : It) : Prop := a.1 < b.1 ∨ (a.1 = b.1 ∧ a.2 < b.2)
def leI (a b : It) : Prop := a.1 < b.1 ∨ (a.1 = b.1 ∧ a.2 ≤ b.2)
theorem leI_of_not {a b : It} (h : ¬ lessI b a) : leI a b := by unfold lessI at h; unfold leI; omega
theorem leI_of_less {a b : It} (h : lessI a b) : leI a b := by unfold lessI at h; unfold leI; omega
theorem not_less_of_le {a b : It} (h : leI a b) : ¬ lessI b a := by unfold leI at h; unfold lessI; omega
theorem leI_trans {a b c : It} (h : leI a b) (h' : leI b c) : leI a c := by unfold leI at *; omega
theorem leI_refl (a : It) : leI a a := by unfold leI; omega
def par (j : Nat) : Nat := (j - 1) / 4
theorem par_lt {j : Nat} (h : 0 < j) : par j < j := by unfold par; omega
def okAt (zs : List It) (j : Nat) : Prop := ∀ x y, zs[par j]? = some x → zs[j]? = some y → leI x y
def HeapL (zs : List It) : Prop := ∀ j, 0 < j → okAt zs j
def Over (i : Nat) (zs : List It) : Prop := 0 < i → ∀ j, 0 < j → par j = i → ∀ x y, zs[par i]? = some x → zs[j]? = some y → leI x y
def Almost (i : Nat) (zs : List It) : Prop := (∀ j, 0 < j → j ≠ i → par j ≠ i → okAt zs j) ∧ Over i zs
def DownInv (i : Nat) (zs : List It) : Prop := (∀ j, 0 < j → par j ≠ i → okAt zs j) ∧ Over i zs

theorem get_set {α : Type} (l : List α) {i : Nat} (hi : i < l.length) (a : α) (j : Nat) : (l.set i a)[j]? = if j = i then some a else l[j]? := by
  rw [List.getElem?_set]
  by_cases e : i = j
  · subst e; simp [hi]
  · rw [if_neg e, if_neg (fun h => e h.symm)]
def swap (zs : List It) (i p : Nat) (x y : It) : List It := (zs.set i y).set p x
theorem lt_of_get {α : Type} {l : List α} {i : Nat} {x : α} (h : l[i]? = some x) : i < l.length := (List.getElem?_eq_some_iff.1 h).1
section
variable {zs : List It} {i p : Nat} {x y : It}
theorem swap_len : (swap zs i p x y).length = zs.length := by simp [swap]
theorem swap_get (hi : zs[i]? = some x) (hp : zs[p]? = some y) (j : Nat) : (swap zs i p x y)[j]? = if j = p then some x else if j = i then some y else zs[j]? := by
  unfold swap
  rw [get_set _ (by rw [List.length_set]; exact lt_of_get hp), get_set _ (lt_of_get hi)]

theorem up_step (h : Almost i zs) (h0 : 0 < i) (hi : zs[i]? = some x) (hp : zs[par i]? = some y) (hl : lessI x y) : Almost (par i) (swap zs i (par i) x y) := by
  have hpi := par_lt h0
  have G := swap_get hi hp
  refine ⟨fun j hj hjp hpj a b ha hb => ?_, fun hp0 j hj hpj a b ha hb => ?_⟩
  · rw [G, if_neg hpj] at ha
    rw [G, if_neg hjp] at hb
    by_cases hji : j = i
    · subst hji; exact absurd rfl hpj
    · rw [if_neg hji] at hb
      by_cases hpi2 : par j = i
      · rw [if_pos hpi2] at ha
        obtain rfl := Option.some.inj ha
        exact h.2 h0 j hj hpi2 _ _ hp hb
      · rw [if_neg hpi2] at ha
        exact h.1 j hj hji hpi2 a b ha hb
  · have hpp := par_lt hp0
    rw [G, if_neg (by omega), if_neg (by omega)] at ha
    have hay : leI a y := h.1 (par i) hp0 (by omega) (by omega) a y ha hp
    have hjp : j ≠ par i := by have := par_lt hj; omega
    rw [G, if_neg hjp] at hb
    by_cases hji : j = i
    · rw [if_pos hji] at hb
      obtain rfl := Option.some.inj hb
      exact hay
    · rw [if_neg hji] at hb
      exact leI_trans hay (h.1 j hj hji (by omega) y b (by rw [hpj]; exact hp) hb)
theorem up_stop (h : Almost i zs) (hs : 0 < i → ∀ x y, zs[i]? = some x → zs[par i]? = some y → ¬ lessI x y) : DownInv i zs := by
  refine ⟨fun j hj hpj => ?_, h.2⟩
  by_cases hji : j = i
  · subst hji
    intro a b ha hb
    exact leI_of_not (hs hj b a hb ha)
  · exact h.1 j hj hji hpj
theorem down_step {c : Nat} (h : DownInv i zs) (hc : 0 < c) (hpc : par c = i) (hi : zs[i]? = some x) (hcy : zs[c]? = some y) (hl : lessI y x) (hmin : ∀ j b, 0 < j → par j = i → zs[j]? = some b → leI y b) : DownInv c (swap zs i c x y) := by
  have hci : i < c := by have := par_lt hc; omega
  have G := swap_get hi hcy
  refine ⟨fun j hj hpj a b ha hb => ?_, fun _ j hj hpj a b ha hb => ?_⟩
  · have hpl := par_lt hj
    rw [G, if_neg hpj] at ha
    rw [G] at hb
    by_cases hp2 : par j = i
    · rw [if_pos hp2] at ha
      obtain rfl := Option.some.inj ha
      by_cases hjc : j = c
      · rw [if_pos hjc] at hb
        obtain rfl := Option.some.inj hb
        exact leI_of_less hl
      · rw [if_neg hjc, if_neg (by omega)] at hb
        exact hmin j b hj hp2 hb
    · rw [if_neg hp2] at ha
      by_cases hjc : j = c
      · subst hjc; exact absurd hpc hp2
      · rw [if_neg hjc] at hb
        by_cases hji : j = i
        · subst hji
          rw [if_pos rfl] at hb
          obtain rfl := Option.some.inj hb
          exact h.2 hj c hc hpc a _ ha hcy
        · rw [if_neg hji] at hb
          exact h.1 j hj hp2 a b ha hb
  · have hpl := par_lt hj
    rw [G, hpc, if_neg (by omega), if_pos rfl] at ha
    obtain rfl := Option.some.inj ha
    rw [G, if_neg (by omega), if_neg (by omega)] at hb
    exact h.1 j hj (by omega) _ b (by rw [hpj]; exact hcy) hb
theorem down_stop (h : DownInv i zs) (hi : zs[i]? = some x) (hs : ∀ j b, 0 < j → par j = i → zs[j]? = some b → leI x b) : HeapL zs := by
  intro j hj
  by_cases hp : par j = i
  · intro a b ha hb
    rw [hp, hi] at ha
    obtain rfl := Option.some.inj ha
    exact hs j b hj hp hb
  · exact h.1 j hj hp
theorem heap_min (h : HeapL zs) (h0 : zs[0]? = some x) : ∀ (j : Nat) (y : It), zs[j]? = some y → leI x y := by
  intro j
  induction j using Nat.strongRecOn with
  | _ j ih =>
    intro y hy
    by_cases hj : j = 0
    · subst hj
      rw [h0] at hy
      obtain rfl := Option.some.inj hy
      exact leI_refl _
    · have hp := par_lt (show 0 < j by omega)
      have hlt : par j < zs.length := by have := lt_of_get hy; omega
      exact leI_trans (ih (par j) hp _ (List.getElem?_eq_getElem hlt)) (h j (by omega) _ y (List.getElem?_eq_getElem hlt) hy)
theorem heap_set (h : HeapL zs) (hi : i < zs.length) (x : It) : Almost i (zs.set i x) := by
  have G := get_set zs hi x
  refine ⟨fun j hj hji hpj a b ha hb => ?_, fun h0 j hj hpj a b ha hb => ?_⟩
  · rw [G, if_neg hpj] at ha
    rw [G, if_neg hji] at hb
    exact h j hj a b ha hb
  · have hpl := par_lt hj
    have hpi := par_lt h0
    rw [G, if_neg (by omega)] at ha
    rw [G, if_neg (by omega)] at hb
    have hz := List.getElem?_eq_getElem hi
    exact leI_trans (h i h0 a _ ha hz) (h j hj _ b (by rw [hpj]; exact hz) hb)
theorem heap_push (h : HeapL zs) (x : It) : Almost zs.length (zs ++ [x]) := by
  refine ⟨fun j hj hji hpj a b ha hb => ?_, fun h0 j hj hpj a b ha hb => ?_⟩
  · have hl := lt_of_get hb
    rw [List.length_append, List.length_singleton] at hl
    have hpl := par_lt hj
    rw [List.getElem?_append_left (by omega)] at ha hb
    exact h j hj a b ha hb
  · have hl := lt_of_get hb
    rw [List.length_append, List.length_singleton] at hl
    have hpl := par_lt hj
    omega
theorem heap_take (h : HeapL zs) (n : Nat) : HeapL (zs.take n) := by
  intro j hj a b ha hb
  rw [List.getElem?_take] at ha hb
  split at ha
  · split at hb
    · exact h j hj a b ha hb
    · cases hb
  · cases ha
theorem heap_nil : HeapL [] := fun j _ a b ha _ => by simp at ha
end

/-! ### places and what is held -/
def nz (a : Nat) : Bool := decide (a ≠ 0)
theorem count_same {l : List Nat} {i : Nat} {a : Nat} (h : l[i]? = some a) {b : Nat} (e : nz a = nz b) : (l.set i b).countP nz = l.countP nz := by
  have hi := lt_of_get h
  rw [List.countP_set hi]
  have ha : l[i] = a := by rw [List.getElem?_eq_getElem hi] at h; exact Option.some.inj h
  rw [ha, ← e]
  by_cases hz : nz a
  · rw [if_pos hz]
    have : 0 < l.countP nz := List.countP_pos_iff.2 ⟨l[i], List.getElem_mem hi, by rw [ha]; exact hz⟩
    omega
  · rw [if_neg hz]; omega
theorem count_more {l : List Nat} {i : Nat} (h : l[i]? = some 0) {b : Nat} (e : b ≠ 0) : (l.set i b).countP nz = l.countP nz + 1 := by
  have hi := lt_of_get h
  rw [List.countP_set hi]
  have ha : l[i] = 0 := by rw [List.getElem?_eq_getElem hi] at h; exact Option.some.inj h
  rw [ha, if_neg (by simp [nz]), if_pos (by simp [nz, e])]; omega
theorem count_less {l : List Nat} {i : Nat} {a : Nat} (h : l[i]? = some a) (e : a ≠ 0) : (l.set i 0).countP nz + 1 = l.countP nz := by
  have hi := lt_of_get h
  rw [List.countP_set hi]
  have ha : l[i] = a := by rw [List.getElem?_eq_getElem hi] at h; exact Option.some.inj h
  have : 0 < l.countP nz := List.countP_pos_iff.2 ⟨l[i], List.getElem_mem hi, by rw [ha]; simp [nz, e]⟩
  rw [ha, if_pos (by simp [nz, e]), if_neg (by simp [nz])]; omega
structure Good (xs : List It) (at_ : List Nat) (m : List (Option Int)) : Prop where
  len : at_.length = m.length
  fwd : ∀ i x, xs[i]? = some x → at_[x.2]? = some (i + 1) ∧ m[x.2]? = some (some x.1)
  bwd : ∀ j a, at_[j]? = some a → (a = 0 ∧ m[j]? = some none) ∨ (0 < a ∧ ∃ x : It, xs[a - 1]? = some x ∧ x.2 = j)
  cnt : at_.countP nz = xs.length
section
variable {xs : List It} {at_ : List Nat} {m : List (Option Int)}
theorem good_new (n : Nat) : Good [] (List.replicate n 0) (List.replicate n none) := by
  refine ⟨by simp, fun i x h => by simp at h, fun j a h => .inl ?_, by simp [List.countP_replicate, nz]⟩
  rw [List.getElem?_replicate] at h ⊢
  split at h
  · rename_i hj
    simp at h
    exact ⟨h.symm, by rw [if_pos hj]⟩
  · cases h
theorem Good.small (h : Good xs at_ m) : xs.length ≤ at_.length := by rw [← h.cnt]; exact List.countP_le_length
theorem Good.held (h : Good xs at_ m) : m.countP Option.isSome = xs.length := by
  rw [← h.cnt]
  have e : m.map Option.isSome = at_.map nz := by
    apply List.ext_getElem?
    intro j
    rw [List.getElem?_map, List.getElem?_map]
    cases ha : at_[j]? with
    | none =>
      have : m[j]? = none := by rw [List.getElem?_eq_none_iff] at ha ⊢; rw [← h.len]; exact ha
      rw [this]; rfl
    | some a =>
      rcases h.bwd j a ha with ⟨rfl, hn⟩ | ⟨h0, x, hx, rfl⟩
      · rw [hn]; rfl
      · rw [(h.fwd _ x hx).2]
        have : nz a = true := by simp [nz]; omega
        simp [this]
  have e2 : (m.map Option.isSome).countP id = (at_.map nz).countP id := by rw [e]
  rw [List.countP_map, List.countP_map] at e2
  exact e2
theorem Good.inj (h : Good xs at_ m) {i j : Nat} {x y : It} (hi : xs[i]? = some x) (hj : xs[j]? = some y) (e : x.2 = y.2) : i = j := by
  have h1 := (h.fwd i x hi).1
  have h2 := (h.fwd j y hj).1
  rw [e, h2] at h1
  have := Option.some.inj h1
  omega
theorem Good.id_lt (h : Good xs at_ m) {i : Nat} {x : It} (hi : xs[i]? = some x) : x.2 < at_.length := lt_of_get (h.fwd i x hi).1
/-- the key of a thing that is there is another one now -/
theorem good_set (h : Good xs at_ m) {i : Nat} {x : It} (hi : xs[i]? = some x) (k : Int) : Good (xs.set i (k, x.2)) at_ (m.set x.2 (some k)) := by
  have hil := lt_of_get hi
  have hml : x.2 < m.length := by rw [← h.len]; exact h.id_lt hi
  refine ⟨by rw [List.length_set]; exact h.len, fun j y hj => ?_, fun j a ha => ?_, by rw [List.length_set]; exact h.cnt⟩
  · rw [get_set _ hil] at hj
    by_cases e : j = i
    · rw [if_pos e] at hj
      obtain rfl := Option.some.inj hj
      subst e
      exact ⟨(h.fwd _ x hi).1, by rw [get_set _ hml, if_pos rfl]⟩
    · rw [if_neg e] at hj
      obtain ⟨h1, h2⟩ := h.fwd j y hj
      have hne : y.2 ≠ x.2 := fun e2 => e (h.inj hj hi e2)
      exact ⟨h1, by rw [get_set _ hml, if_neg hne]; exact h2⟩
  · rcases h.bwd j a ha with ⟨h0, hn⟩ | ⟨h0, y, hy, rfl⟩
    · have hne : j ≠ x.2 := fun e => by subst e; rw [(h.fwd i x hi).2] at hn; cases hn
      exact .inl ⟨h0, by rw [get_set _ hml, if_neg hne]; exact hn⟩
    · refine .inr ⟨h0, ?_⟩
      by_cases e : a - 1 = i
      · rw [e, hi] at hy
        obtain rfl := Option.some.inj hy
        exact ⟨(k, x.2), by rw [get_set _ hil, if_pos e], rfl⟩
      · exact ⟨y, by rw [get_set _ hil, if_neg e]; exact hy, rfl⟩
theorem good_push (h : Good xs at_ m) {id : Nat} (hid : at_[id]? = some 0) (k : Int) : Good (xs ++ [(k, id)]) (at_.set id (xs.length + 1)) (m.set id (some k)) := by
  have hal := lt_of_get hid
  have hml : id < m.length := by rw [← h.len]; exact hal
  refine ⟨by rw [List.length_set, List.length_set]; exact h.len, fun j y hj => ?_, fun j a ha => ?_, by rw [count_more hid (by omega), h.cnt]; simp⟩
  · by_cases e : j < xs.length
    · rw [List.getElem?_append_left e] at hj
      obtain ⟨h1, h2⟩ := h.fwd j y hj
      have hne : y.2 ≠ id := fun e2 => by rw [e2, hid] at h1; cases h1
      exact ⟨by rw [get_set _ hal, if_neg hne]; exact h1, by rw [get_set _ hml, if_neg hne]; exact h2⟩
    · have hl := lt_of_get hj
      rw [List.length_append, List.length_singleton] at hl
      obtain rfl : j = xs.length := by omega
      rw [List.getElem?_append_right (Nat.le_refl _), Nat.sub_self] at hj
      obtain rfl : (k, id) = y := by simpa using hj
      exact ⟨by rw [get_set _ hal, if_pos rfl], by rw [get_set _ hml, if_pos rfl]⟩
  · rw [get_set _ hal] at ha
    by_cases e : j = id
    · rw [if_pos e] at ha
      obtain rfl := Option.some.inj ha
      exact .inr ⟨by omega, (k, id), by rw [Nat.add_sub_cancel, List.getElem?_append_right (Nat.le_refl _), Nat.sub_self]; rfl, e.symm⟩
    · rw [if_neg e] at ha
      rcases h.bwd j a ha with ⟨h0, hn⟩ | ⟨h0, y, hy, hy2⟩
      · exact .inl ⟨h0, by rw [get_set _ hml, if_neg e]; exact hn⟩
      · exact .inr ⟨h0, y, by rw [List.getElem?_append_left (lt_of_get hy)]; exact hy, hy2⟩
theorem good_swap (h : Good xs at_ m) {i p : Nat} {x y : It} (hne : i ≠ p) (hi : xs[i]? = some x) (hp : xs[p]? = some y) : Good (swap xs i p x y) ((at_.set y.2 (i + 1)).set x.2 (p + 1)) m := by
  have G := swap_get hi hp
  have hxl := h.id_lt hi
  have hyl := h.id_lt hp
  have hxy : x.2 ≠ y.2 := fun e => hne (h.inj hi hp e)
  have A : ∀ j, ((at_.set y.2 (i + 1)).set x.2 (p + 1))[j]? = if j = x.2 then some (p + 1) else if j = y.2 then some (i + 1) else at_[j]? := fun j => by
    rw [get_set _ (by rw [List.length_set]; exact hxl), get_set _ hyl]
  have hcnt : ((at_.set y.2 (i + 1)).set x.2 (p + 1)).countP nz = at_.countP nz := by
    have h1 : at_[y.2]? = some (p + 1) := (h.fwd p y hp).1
    have h2 : (at_.set y.2 (i + 1))[x.2]? = some (i + 1) := by rw [get_set _ hyl, if_neg hxy]; exact (h.fwd i x hi).1
    rw [count_same h2 (by simp [nz]), count_same h1 (by simp [nz])]
  refine ⟨by rw [List.length_set, List.length_set]; exact h.len, fun j z hj => ?_, fun j a ha => ?_, by rw [hcnt, swap_len]; exact h.cnt⟩
  · rw [G] at hj
    by_cases e : j = p
    · rw [if_pos e] at hj
      obtain rfl := Option.some.inj hj
      exact ⟨by rw [A, if_pos rfl, e], (h.fwd i _ hi).2⟩
    · rw [if_neg e] at hj
      by_cases e2 : j = i
      · rw [if_pos e2] at hj
        obtain rfl := Option.some.inj hj
        exact ⟨by rw [A, if_neg hxy.symm, if_pos rfl, e2], (h.fwd p _ hp).2⟩
      · rw [if_neg e2] at hj
        obtain ⟨h1, h2⟩ := h.fwd j z hj
        exact ⟨by rw [A, if_neg (fun e3 => e2 (h.inj hj hi e3)), if_neg (fun e3 => e (h.inj hj hp e3))]; exact h1, h2⟩
  · rw [A] at ha
    by_cases e : j = x.2
    · rw [if_pos e] at ha
      obtain rfl := Option.some.inj ha
      exact .inr ⟨by omega, x, by rw [Nat.add_sub_cancel, G, if_pos rfl], e.symm⟩
    · rw [if_neg e] at ha
      by_cases e2 : j = y.2
      · rw [if_pos e2] at ha
        obtain rfl := Option.some.inj ha
        exact .inr ⟨by omega, y, by rw [Nat.add_sub_cancel, G, if_neg hne, if_pos rfl], e2.symm⟩
      · rw [if_neg e2] at ha
        rcases h.bwd j a ha with hz | ⟨h0, z, hz, rfl⟩
        · exact .inl hz
        · refine .inr ⟨h0, z, ?_, rfl⟩
          rw [G, if_neg (fun e3 => ?_), if_neg (fun e3 => ?_)]
          · exact hz
          · rw [e3, hi] at hz; exact e (by rw [← Option.some.inj hz])
          · rw [e3, hp] at hz; exact e2 (by rw [← Option.some.inj hz])
/-- the last one goes -/
theorem good_last (h : Good xs at_ m) {n : Nat} {x : It} (hn : xs.length = n + 1) (hx : xs[n]? = some x) : Good (xs.take n) (at_.set x.2 0) (m.set x.2 none) := by
  have hal := h.id_lt hx
  have hml : x.2 < m.length := by rw [← h.len]; exact hal
  refine ⟨by rw [List.length_set, List.length_set]; exact h.len, fun j y hj => ?_, fun j a ha => ?_, by have e := count_less (h.fwd n x hx).1 (by omega); have := h.cnt; rw [List.length_take]; omega⟩
  · rw [List.getElem?_take] at hj
    split at hj
    · rename_i hjn
      obtain ⟨h1, h2⟩ := h.fwd j y hj
      have hne : y.2 ≠ x.2 := fun e => by have := h.inj hj hx e; omega
      exact ⟨by rw [get_set _ hal, if_neg hne]; exact h1, by rw [get_set _ hml, if_neg hne]; exact h2⟩
    · cases hj
  · rw [get_set _ hal] at ha
    by_cases e : j = x.2
    · rw [if_pos e] at ha
      exact .inl ⟨(Option.some.inj ha).symm, by rw [get_set _ hml, if_pos e]⟩
    · rw [if_neg e] at ha
      rcases h.bwd j a ha with ⟨h0, hn2⟩ | ⟨h0, y, hy, rfl⟩
      · exact .inl ⟨h0, by rw [get_set _ hml, if_neg e]; exact hn2⟩
      · refine .inr ⟨h0, y, ?_, rfl⟩
        have hl := lt_of_get hy
        have hne : a - 1 ≠ n := fun e2 => by rw [e2, hx] at hy; exact e (by rw [← Option.some.inj hy])
        rw [List.getElem?_take, if_pos (by omega)]
        exact hy
/-- one goes, the last one comes to its place -/
theorem good_mid (h : Good xs at_ m) {n i : Nat} {x y : It} (hn : xs.length = n + 1) (hi : i < n) (hx : xs[i]? = some x) (hy : xs[n]? = some y) : Good ((xs.take n).set i y) ((at_.set x.2 0).set y.2 (i + 1)) (m.set x.2 none) := by
  have hs := good_last (good_swap h (show i ≠ n by omega) hx hy) (n := n) (x := x) (by rw [swap_len]; exact hn) (by rw [swap_get hx hy, if_pos rfl])
  have hxy : x.2 ≠ y.2 := fun e => by have := h.inj hx hy e; omega
  have e1 : (swap xs i n x y).take n = (xs.take n).set i y := by
    unfold swap
    rw [List.take_set_of_le (by omega), List.take_set]
  have e2 : (((at_.set y.2 (i + 1)).set x.2 (n + 1)).set x.2 0) = (at_.set x.2 0).set y.2 (i + 1) := by
    rw [List.set_set, List.set_comm _ _ hxy.symm]
  rw [e1, e2] at hs
  exact hs
end
end Go.Proofs.YtkcnnamghpdplaaDoor
