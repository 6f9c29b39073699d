/- The links as steps from each rank; where the two lists of a search meet (plain). -/
import Derived.Test.YtkcnnamghpdplaaDoorCk2
import Derived.Test.YtkcnnamghpdplaaDoorCd3
set_option linter.unusedVariables false
namespace Go.Proofs.YtkcnnamghpdplaaDoor
/-! ### the links as steps from each rank -/
def upE (r : Nat) (l : Lk) : Nat × StT := (r, ⟨l.to, l.w⟩)
def dnE (r : Nat) (l : Lk) : Nat × StT := (l.to, ⟨r, l.w⟩)
def entsTo (U V : Nat → List Lk) : Nat → List (Nat × StT)
  | 0 => []
  | r + 1 => entsTo U V r ++ (U r).map (upE r) ++ (V r).map (dnE r)
theorem mem_ents {U V : Nat → List Lk} {x : Nat} {e : StT} : ∀ {k : Nat}, (x, e) ∈ entsTo U V k ↔ ∃ r, r < k ∧ ((∃ l ∈ U r, x = r ∧ e = ⟨l.to, l.w⟩) ∨ ∃ l ∈ V r, x = l.to ∧ e = ⟨r, l.w⟩)
  | 0 => by
    constructor
    · intro h; cases h
    · rintro ⟨r, h, _⟩; omega
  | k + 1 => by
    rw [entsTo, List.mem_append, List.mem_append, List.mem_map, List.mem_map, mem_ents (k := k)]
    constructor
    · rintro ((⟨r, h, hr⟩ | ⟨l, hl, he⟩) | ⟨l, hl, he⟩)
      · exact ⟨r, by omega, hr⟩
      · have h2 := Prod.mk.inj he
        exact ⟨k, by omega, .inl ⟨l, hl, h2.1.symm, h2.2.symm⟩⟩
      · have h2 := Prod.mk.inj he
        exact ⟨k, by omega, .inr ⟨l, hl, h2.1.symm, h2.2.symm⟩⟩
    · rintro ⟨r, h, hr⟩
      rcases Nat.lt_or_ge r k with h' | h'
      · exact .inl (.inl ⟨r, h', hr⟩)
      · obtain rfl : r = k := by omega
        rcases hr with ⟨l, hl, h1, h2⟩ | ⟨l, hl, h1, h2⟩
        · exact .inl (.inr ⟨l, hl, by rw [h1, h2]; rfl⟩)
        · exact .inr ⟨l, hl, by rw [h1, h2]; rfl⟩
structure Woven (n : Nat) (O : List (List StT)) (p : List (Nat × StT)) : Prop where
  len : O.length = n
  mem : ∀ x, x < n → ∀ e, e ∈ O.getD x [] ↔ (x, e) ∈ p
  le : ∀ x, (O.getD x []).length ≤ p.length
theorem Woven.start (n : Nat) : Woven n (List.replicate n []) [] := by
  have h : ∀ x, (List.replicate n ([] : List StT)).getD x [] = [] := fun x => by
    rw [List.getD_eq_getElem?_getD, List.getElem?_replicate]
    split <;> rfl
  refine ⟨by simp, fun x _ e => ?_, fun x => ?_⟩
  · rw [h]
    simp
  · rw [h]
    exact Nat.le_refl _
theorem getD_set {α : Type} {O : List (List α)} {x : Nat} (hx : x < O.length) (v : List α) (y : Nat) : (O.set x v).getD y [] = if y = x then v else O.getD y [] := by
  rw [List.getD_eq_getElem?_getD, List.getElem?_set]
  by_cases h : y = x
  · subst h
    rw [if_pos rfl, if_pos hx, if_pos rfl]
    rfl
  · rw [if_neg (fun e => h e.symm), if_neg h, List.getD_eq_getElem?_getD]
theorem Woven.add {n : Nat} {O : List (List StT)} {p : List (Nat × StT)} (h : Woven n O p) {x : Nat} (hx : x < n) (e : StT) : Woven n (O.set x (O.getD x [] ++ [e])) (p ++ [(x, e)]) := by
  have hxl : x < O.length := by rw [h.len]; exact hx
  refine ⟨by rw [List.length_set]; exact h.len, fun y hy e' => ?_, fun y => ?_⟩
  · rw [getD_set hxl]
    split
    · rename_i e1
      subst e1
      rw [List.mem_append, List.mem_append, h.mem y hy]
      simp
    · rename_i e1
      rw [List.mem_append, h.mem y hy]
      simp [e1]
  · rw [getD_set hxl, List.length_append]
    have := h.le y
    have := h.le x
    split <;> simp only [List.length_append, List.length_cons, List.length_nil] <;> omega
theorem Woven.web {n : Nat} {U V : Nat → List Lk} (hU : Ups n U) (hV : Ups n V) {O : List (List StT)} (h : Woven n O (entsTo U V n)) : Web n (fun x => O.getD x []) ∧ ES (fun x => O.getD x []) = Ed n U V := by
  have hout : ∀ x, n ≤ x → O.getD x [] = [] := fun x hx => by
    rw [List.getD_eq_getElem?_getD, List.getElem?_eq_none (by rw [h.len]; exact hx)]
    rfl
  have key : ∀ x e, e ∈ O.getD x [] ↔ x < n ∧ Ed n U V x e.to e.w := fun x e => by
    rcases Nat.lt_or_ge x n with hx | hx
    · rw [h.mem x hx, mem_ents]
      unfold Ed
      constructor
      · rintro ⟨r, hr, ⟨l, hl, rfl, rfl⟩ | ⟨l, hl, rfl, rfl⟩⟩
        · exact ⟨hx, .inl ⟨hx, l, hl, rfl, rfl⟩⟩
        · exact ⟨hx, .inr ⟨hr, l, hl, rfl, rfl⟩⟩
      · rintro ⟨_, ⟨_, l, hl, h1, h2⟩ | ⟨hy, l, hl, h1, h2⟩⟩
        · exact ⟨x, hx, .inl ⟨l, hl, rfl, by rw [h1, h2]⟩⟩
        · exact ⟨e.to, hy, .inr ⟨l, hl, h1.symm, by rw [h2]⟩⟩
    · rw [hout x hx]
      constructor
      · intro h; cases h
      · rintro ⟨h, _⟩; omega
  refine ⟨⟨fun x e he => ?_, fun x e he => ?_⟩, ?_⟩
  · obtain ⟨hx, hed⟩ := (key x e).1 he
    exact ⟨hx, (hed.safe hU hV).2.1⟩
  · exact (((key x e).1 he).2.safe hU hV).2.2.2
  · funext x y w
    apply propext
    unfold ES
    constructor
    · rintro ⟨e, he, rfl, rfl⟩
      exact ((key x e).1 he).2
    · intro he
      exact ⟨⟨y, w⟩, (key x ⟨y, w⟩).2 ⟨(he.safe hU hV).1, he⟩, rfl, rfl⟩
/-! ### where two lists meet -/
def pairOk (x y : SeenT) : Bool := decide (x.rank = y.rank) && (!x.st && !y.st)
def meetOne (x : SeenT) (m : Int) (y : SeenT) : Int := if pairOk x y = true then min m (x.dist + y.dist) else m
def meetIn (b : List SeenT) (m : Int) (x : SeenT) : Int := b.foldl (meetOne x) m
def meetT (a b : List SeenT) : Int := a.foldl (meetIn b) farI
theorem meetIn_succ {b : List SeenT} {j : Nat} (hj : j < b.length) (m : Int) (x : SeenT) : meetIn (b.take (j + 1)) m x = meetOne x (meetIn (b.take j) m x) b[j] := by
  unfold meetIn
  rw [List.take_succ_eq_append_getElem hj, List.foldl_append]
  rfl
theorem meetT_succ {a : List SeenT} {i : Nat} (hi : i < a.length) (b : List SeenT) : meetT (a.take (i + 1)) b = meetIn b (meetT (a.take i) b) a[i] := by
  unfold meetT
  rw [List.take_succ_eq_append_getElem hi, List.foldl_append]
  rfl
theorem meetIn_le (x : SeenT) : ∀ (b : List SeenT) (m : Int), meetIn b m x ≤ m ∧ (∀ y ∈ b, pairOk x y = true → meetIn b m x ≤ x.dist + y.dist) ∧ (meetIn b m x = m ∨ ∃ y ∈ b, pairOk x y = true ∧ meetIn b m x = x.dist + y.dist)
  | [], m => ⟨Int.le_refl _, fun y hy => (by cases hy), .inl rfl⟩
  | z :: r, m => by
    obtain ⟨h1, h2, h3⟩ := meetIn_le x r (meetOne x m z)
    have e : meetIn (z :: r) m x = meetIn r (meetOne x m z) x := rfl
    rw [e]
    have hz : meetOne x m z ≤ m ∧ (pairOk x z = true → meetOne x m z ≤ x.dist + z.dist) ∧ (meetOne x m z = m ∨ pairOk x z = true ∧ meetOne x m z = x.dist + z.dist) := by
      unfold meetOne
      split
      · rename_i hp
        exact ⟨by omega, fun _ => by omega, by simp only [hp, true_and]; omega⟩
      · rename_i hp
        exact ⟨by omega, fun h => absurd h hp, .inl rfl⟩
    refine ⟨by omega, fun y hy hp => ?_, ?_⟩
    · rcases List.mem_cons.1 hy with rfl | hy
      · have := hz.2.1 hp; omega
      · exact h2 y hy hp
    · rcases h3 with h3 | ⟨y, hy, hp, he⟩
      · rcases hz.2.2 with h4 | ⟨h4, h5⟩
        · exact .inl (by omega)
        · exact .inr ⟨z, List.mem_cons_self .., h4, by omega⟩
      · exact .inr ⟨y, List.mem_cons_of_mem _ hy, hp, he⟩
theorem meet_le (b : List SeenT) : ∀ (a : List SeenT) (m : Int), a.foldl (meetIn b) m ≤ m ∧ (∀ x ∈ a, ∀ y ∈ b, pairOk x y = true → a.foldl (meetIn b) m ≤ x.dist + y.dist) ∧ (a.foldl (meetIn b) m = m ∨ ∃ x ∈ a, ∃ y ∈ b, pairOk x y = true ∧ a.foldl (meetIn b) m = x.dist + y.dist)
  | [], m => ⟨Int.le_refl _, fun y hy => (by cases hy), .inl rfl⟩
  | z :: r, m => by
    obtain ⟨h1, h2, h3⟩ := meet_le b r (meetIn b m z)
    obtain ⟨k1, k2, k3⟩ := meetIn_le z b m
    rw [List.foldl_cons]
    refine ⟨by omega, fun x hx y hy hp => ?_, ?_⟩
    · rcases List.mem_cons.1 hx with rfl | hx
      · have := k2 y hy hp; omega
      · exact h2 x hx y hy hp
    · rcases h3 with h3 | ⟨x, hx, y, hy, hp, he⟩
      · rcases k3 with h4 | ⟨y, hy, h4, h5⟩
        · exact .inl (by omega)
        · exact .inr ⟨z, List.mem_cons_self .., y, hy, h4, by omega⟩
      · exact .inr ⟨x, List.mem_cons_of_mem _ hx, y, hy, hp, he⟩
theorem stalled_iff {S : Nat → List Lk} {D : Nat → Option Int} {r : Nat} {d : Int} : stalledB S D r d = true ↔ stB S D r d := by
  unfold stalledB stB
  rw [List.any_eq_true]
  constructor
  · rintro ⟨l, hl, h⟩
    unfold overB at h
    cases hd : D l.to with
    | none => rw [hd] at h; cases h
    | some a => rw [hd] at h; exact ⟨l, hl, a, hd, of_decide_eq_true h⟩
  · rintro ⟨l, hl, a, hd, h⟩
    exact ⟨l, hl, by unfold overB; rw [hd]; exact decide_eq_true h⟩
/-- in a true hierarchy both lists meet at the distance -/
theorem meet_is {n : Nat} {U V : Nat → List Lk} {s t : Nat} {A B : Nat → Option Int} (hU : Ups n U) (hV : Ups n V) (ht : ∀ r, r < n → TrueAt n U V r) (hA : Sol n U s A) (hB : Sol n V t B) {m : Int} (hm : LeastW (Ed n U V) 0 s t m) (hmf : m ≤ farI) :
    meetT (seenTo A V n) (seenTo B U n) = m := by
  obtain ⟨h1, h2, h3⟩ := meet_le (seenTo B U n) (seenTo A V n) farI
  have e : meetT (seenTo A V n) (seenTo B U n) = (seenTo A V n).foldl (meetIn (seenTo B U n)) farI := rfl
  rw [← e] at h1 h2 h3
  generalize meetT (seenTo A V n) (seenTo B U n) = q at *
  have hge : m ≤ q := by
    rcases h3 with h3 | ⟨x, hx, y, hy, hp, he⟩
    · omega
    · obtain ⟨x1, x2, x3⟩ := seenTo_mem.1 hx
      obtain ⟨y1, y2, y3⟩ := seenTo_mem.1 hy
      unfold pairOk at hp
      rw [Bool.and_eq_true] at hp
      have hr := of_decide_eq_true hp.1
      rw [← hr] at y2
      have := (meet_ge hU hV hA hB x2 y2 hm).2
      omega
  by_cases hf : m = farI
  · omega
  · obtain ⟨x, a, b, ha, hb, hab, na, nb⟩ := meet_at hU hV ht hA hB hm hf
    have hx : x < n := by
      rcases Nat.lt_or_ge x n with h | h
      · exact h
      · rw [hA.out x h] at ha; cases ha
    have sa : stalledB V A x a = false := by rw [← Bool.not_eq_true, stalled_iff]; exact na
    have sb : stalledB U B x b = false := by rw [← Bool.not_eq_true, stalled_iff]; exact nb
    have := h2 ⟨x, a, stalledB V A x a⟩ (seenTo_mem.2 ⟨hx, ha, rfl⟩) ⟨x, b, stalledB U B x b⟩ (seenTo_mem.2 ⟨hx, hb, rfl⟩) (by unfold pairOk; rw [sa, sb]; simp)
    simp only at this
    omega
end Go.Proofs.YtkcnnamghpdplaaDoor
