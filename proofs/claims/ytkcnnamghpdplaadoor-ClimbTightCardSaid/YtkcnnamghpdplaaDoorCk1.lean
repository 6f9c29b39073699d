/- Walks over all links of a hierarchy; in a true one each walk has one that goes up and then down (plain). -/
import Derived.Test.YtkcnnamghpdplaaDoorClM2
set_option linter.unusedVariables false
namespace Go.Proofs.YtkcnnamghpdplaaDoor
/-! ### walks -/
inductive Wk (E : Nat → Nat → Int → Prop) (k : Nat) : Nat → Nat → Int → Prop
  | nil (x : Nat) : Wk E k x x 0
  | cons {x y z : Nat} {w v : Int} : E x y w → k ≤ y → Wk E k y z v → Wk E k x z (w + v)
theorem Wk.snoc {E : Nat → Nat → Int → Prop} {k x y z : Nat} {w v : Int} (h : Wk E k x y v) (he : E y z w) (hz : k ≤ z) : Wk E k x z (v + w) := by
  induction h with
  | nil x => have := Wk.cons he hz (.nil z); rwa [Int.add_comm] at this
  | cons e hy _ ih => have := Wk.cons e hy (ih he); rwa [← Int.add_assoc] at this
theorem Wk.append {E : Nat → Nat → Int → Prop} {k x y z : Nat} {w v : Int} (h : Wk E k x y v) (h2 : Wk E k y z w) : Wk E k x z (v + w) := by
  induction h with
  | nil x => rwa [Int.zero_add]
  | cons e hy _ ih => rw [Int.add_assoc]; exact .cons e hy (ih h2)
theorem Wk.mono {E : Nat → Nat → Int → Prop} {k k' x y : Nat} {v : Int} (h : Wk E k x y v) (hk : k' ≤ k) : Wk E k' x y v := by
  induction h with
  | nil x => exact .nil x
  | cons e hy _ ih => exact .cons e (Nat.le_trans hk hy) ih
theorem Wk.end_ge {E : Nat → Nat → Int → Prop} {k x y : Nat} {v : Int} (h : Wk E k x y v) (hx : k ≤ x) : k ≤ y := by
  induction h with
  | nil x => exact hx
  | cons e hy _ ih => exact ih hy
/-- a number is the distance: the least walk's, or none there is -/
def LeastW (E : Nat → Nat → Int → Prop) (k u x : Nat) (b : Int) : Prop := (b ≠ farI ∧ Wk E k u x b ∨ b = farI) ∧ ∀ v, Wk E k u x v → b ≠ farI ∧ b ≤ v
theorem LeastW.eq {E : Nat → Nat → Int → Prop} {k u x : Nat} {b b' : Int} (h : LeastW E k u x b) (h' : LeastW E k u x b') : b = b' := by
  rcases h.1 with ⟨h1, h2⟩ | h1
  · obtain ⟨h3, h4⟩ := h'.2 _ h2
    rcases h'.1 with ⟨h5, h6⟩ | h5
    · have := (h.2 _ h6).2
      omega
    · exact absurd h5 h3
  · rcases h'.1 with ⟨h5, h6⟩ | h5
    · exact absurd h1 (h.2 _ h6).1
    · rw [h1, h5]
/-! ### the links of both sides -/
def Ed (n : Nat) (U V : Nat → List Lk) (x y : Nat) (w : Int) : Prop := (x < n ∧ ∃ l ∈ U x, l.to = y ∧ l.w = w) ∨ (y < n ∧ ∃ l ∈ V y, l.to = x ∧ l.w = w)
theorem Ed.safe {n : Nat} {U V : Nat → List Lk} (hU : Ups n U) (hV : Ups n V) {x y : Nat} {w : Int} (h : Ed n U V x y w) : x < n ∧ y < n ∧ x ≠ y ∧ 0 ≤ w ∧ w ≤ topI := by
  rcases h with ⟨hx, l, hl, rfl, rfl⟩ | ⟨hy, l, hl, rfl, rfl⟩
  · have h1 := hU.up x l hx hl
    have h2 := hU.w x l hx hl
    exact ⟨hx, h1.2, by omega, h2.1, h2.2⟩
  · have h1 := hV.up y l hy hl
    have h2 := hV.w y l hy hl
    exact ⟨h1.2, hy, by omega, h2.1, h2.2⟩
theorem Wk.nonneg {n : Nat} {U V : Nat → List Lk} (hU : Ups n U) (hV : Ups n V) {k x y : Nat} {v : Int} (h : Wk (Ed n U V) k x y v) : 0 ≤ v := by
  induction h with
  | nil x => exact Int.le_refl _
  | cons e hy _ ih => have := e.safe hU hV; omega
/-- ways over links of one side -/
inductive Ch (n : Nat) (S : Nat → List Lk) : Nat → Nat → Int → Prop
  | nil (x : Nat) : Ch n S x x 0
  | snoc {s r : Nat} {a : Int} {l : Lk} : Ch n S s r a → r < n → l ∈ S r → Ch n S s l.to (a + l.w)
theorem Ch.cons {n : Nat} {S : Nat → List Lk} {r p : Nat} {b : Int} {l : Lk} (hr : r < n) (hl : l ∈ S r) (h : Ch n S l.to p b) : Ch n S r p (l.w + b) := by
  induction h with
  | nil => have := Ch.snoc (.nil r) hr hl; rwa [Int.add_comm]
  | snoc h' hr' hl' ih => have := Ch.snoc ih hr' hl'; rwa [Int.add_assoc] at this
theorem Ch.up {n : Nat} {U V : Nat → List Lk} {s p : Nat} {b : Int} (h : Ch n U s p b) : Wk (Ed n U V) 0 s p b := by
  induction h with
  | nil => exact .nil _
  | snoc h' hr hl ih => exact ih.snoc (.inl ⟨hr, _, hl, rfl, rfl⟩) (Nat.zero_le _)
theorem Ch.down {n : Nat} {U V : Nat → List Lk} {t p : Nat} {b : Int} (h : Ch n V t p b) : Wk (Ed n U V) 0 p t b := by
  induction h with
  | nil => exact .nil _
  | snoc h' hr hl ih => rw [Int.add_comm]; exact .cons (.inr ⟨hr, _, hl, rfl, rfl⟩) (Nat.zero_le _) ih
theorem Sol.ch {n : Nat} {S : Nat → List Lk} {s : Nat} {D : Nat → Option Int} (hu : Ups n S) (h : Sol n S s D) : ∀ x b, D x = some b → Ch n S s x b := by
  intro x
  induction x using Nat.strongRecOn with
  | _ x ih =>
    intro b hb
    by_cases hs : x = s
    · subst hs
      rw [h.start] at hb
      cases hb
      exact .nil _
    · obtain ⟨r, a, l, hr, hra, hl, hx, rfl⟩ := h.by_ x b hs hb
      subst hx
      exact .snoc (ih r (hu.up r l hr hl).1 a hra) hr hl
theorem Sol.least {n : Nat} {S : Nat → List Lk} {s : Nat} {D : Nat → Option Int} (h : Sol n S s D) {x : Nat} {b : Int} (hc : Ch n S s x b) : ∃ b', D x = some b' ∧ b' ≤ b := by
  induction hc with
  | nil => exact ⟨0, h.start, Int.le_refl _⟩
  | snoc h' hr hl ih =>
    obtain ⟨a, ha, hle⟩ := ih
    obtain ⟨b, hb, hle2⟩ := h.le _ a _ hr ha hl
    exact ⟨b, hb, by omega⟩
/-! ### a true hierarchy -/
def TrueAt (n : Nat) (U V : Nat → List Lk) (r : Nat) : Prop := ∀ a ∈ V r, ∀ b ∈ U r, a.to ≠ b.to → ∃ v, Wk (Ed n U V) (r + 1) a.to b.to v ∧ v ≤ a.w + b.w
/-- a walk that goes through the rank k can go above it -/
theorem lift_walk {n : Nat} {U V : Nat → List Lk} (hU : Ups n U) (hV : Ups n V) {k : Nat} (ht : TrueAt n U V k) {u z : Nat} {v : Int} (h : Wk (Ed n U V) k u z v) (hz : k < z) :
    (k < u → ∃ v', Wk (Ed n U V) (k + 1) u z v' ∧ v' ≤ v) ∧ (u = k → ∃ b ∈ U k, ∃ v', Wk (Ed n U V) (k + 1) b.to z v' ∧ b.w + v' ≤ v) := by
  induction h with
  | nil x => exact ⟨fun _ => ⟨0, .nil x, Int.le_refl _⟩, fun e => by omega⟩
  | @cons x y z w v e hy _ ih =>
    obtain ⟨ih1, ih2⟩ := ih hz
    have hs := e.safe hU hV
    rcases Nat.lt_or_ge k y with hky | hky
    · obtain ⟨v', h1, h2⟩ := ih1 hky
      refine ⟨fun _ => ⟨w + v', .cons e hky h1, by omega⟩, fun hx => ?_⟩
      subst hx
      rcases e with ⟨_, l, hl, rfl, rfl⟩ | ⟨hyn, l, hl, hl2, hl3⟩
      · exact ⟨l, hl, v', h1, by omega⟩
      · have := hV.up y l hyn hl
        omega
    · obtain rfl : y = k := by omega
      refine ⟨fun hx => ?_, fun hx => absurd hx hs.2.2.1⟩
      obtain ⟨b, hb, v', h1, h2⟩ := ih2 rfl
      rcases e with ⟨hxn, l, hl, hl2, hl3⟩ | ⟨hyn, a, ha, rfl, rfl⟩
      · have := hU.up x l hxn hl
        omega
      · have hbw := hU.w y b hs.2.1 hb
        by_cases hab : a.to = b.to
        · rw [hab]
          exact ⟨v', h1, by omega⟩
        · obtain ⟨v2, h3, h4⟩ := ht a ha b hb hab
          exact ⟨v2 + v', h3.append h1, by omega⟩
theorem into_walk {n : Nat} {U V : Nat → List Lk} (hU : Ups n U) (hV : Ups n V) {k : Nat} {u z : Nat} {v : Int} (h : Wk (Ed n U V) k u z v) (hz : z = k) (hu : k < u) :
    ∃ a ∈ V k, ∃ v', k < n ∧ Wk (Ed n U V) (k + 1) u a.to v' ∧ v' + a.w ≤ v := by
  induction h with
  | nil x => omega
  | @cons x y z w v e hy hr ih =>
    have hs := e.safe hU hV
    rcases Nat.lt_or_ge k y with hky | hky
    · obtain ⟨a, ha, v', hkn, h1, h2⟩ := ih hz hky
      exact ⟨a, ha, w + v', hkn, .cons e hky h1, by omega⟩
    · obtain rfl : y = k := by omega
      rcases e with ⟨hxn, l, hl, hl2, hl3⟩ | ⟨hyn, a, ha, rfl, rfl⟩
      · have := hU.up x l hxn hl
        omega
      · have := hr.nonneg hU hV
        exact ⟨a, ha, 0, hyn, .nil _, by omega⟩
/-- in a true hierarchy each walk has one no longer that goes up and then down -/
theorem updown {n : Nat} {U V : Nat → List Lk} (hU : Ups n U) (hV : Ups n V) (ht : ∀ r, r < n → TrueAt n U V r) : ∀ (m k : Nat), n ≤ k + m → ∀ {u z : Nat} {v : Int}, Wk (Ed n U V) k u z v → k ≤ u → k ≤ z →
    ∃ p b1 b2, Ch n U u p b1 ∧ Ch n V z p b2 ∧ b1 + b2 ≤ v
  | 0, k, hm, u, z, v, h, hu, hz => by
    cases h with
    | nil x => exact ⟨u, 0, 0, .nil _, .nil _, by omega⟩
    | cons e hy hr => have := e.safe hU hV; omega
  | m + 1, k, hm, u, z, v, h, hu, hz => by
    by_cases hkn : k < n
    · have tk := ht k hkn
      have ih := fun {u z : Nat} {v : Int} => updown hU hV ht m (k + 1) (by omega) (u := u) (z := z) (v := v)
      by_cases huz : k < u
      · by_cases hkz : k < z
        · obtain ⟨v', h1, h2⟩ := (lift_walk hU hV tk h hkz).1 huz
          obtain ⟨p, b1, b2, c1, c2, c3⟩ := ih h1 huz hkz
          exact ⟨p, b1, b2, c1, c2, by omega⟩
        · obtain rfl : z = k := by omega
          obtain ⟨a, ha, v', _, h1, h2⟩ := into_walk hU hV h rfl huz
          have := hV.up z a hkn ha
          obtain ⟨p, b1, b2, c1, c2, c3⟩ := ih h1 huz (by omega)
          exact ⟨p, b1, a.w + b2, c1, c2.cons hkn ha, by omega⟩
      · obtain rfl : u = k := by omega
        by_cases hkz : u < z
        · obtain ⟨b, hb, v', h1, h2⟩ := (lift_walk hU hV tk h hkz).2 rfl
          have := hU.up u b hkn hb
          obtain ⟨p, b1, b2, c1, c2, c3⟩ := ih h1 (by omega) hkz
          exact ⟨p, b.w + b1, b2, c1.cons hkn hb, c2, by omega⟩
        · obtain rfl : z = u := by omega
          have := h.nonneg hU hV
          exact ⟨z, 0, 0, .nil _, .nil _, by omega⟩
    · cases h with
      | nil x => exact ⟨u, 0, 0, .nil _, .nil _, by omega⟩
      | cons e hy hr => have := e.safe hU hV; omega
/-! ### the two lists meet at the distance -/
def stB (S' : Nat → List Lk) (D : Nat → Option Int) (x : Nat) (b : Int) : Prop := ∃ l ∈ S' x, ∃ a, D l.to = some a ∧ a + l.w < b
section
variable {n : Nat} {U V : Nat → List Lk} {s t : Nat} {A B : Nat → Option Int}
theorem up_ge (hU : Ups n U) (hA : Sol n U s A) {x : Nat} {a m : Int} (ha : A x = some a) (hm : LeastW (Ed n U V) 0 s x m) : m ≤ a := (hm.2 _ (hA.ch hU x a ha).up).2
theorem down_ge (hV : Ups n V) (hB : Sol n V t B) {x : Nat} {b m : Int} (hb : B x = some b) (hm : LeastW (Ed n U V) 0 x t m) : m ≤ b := (hm.2 _ (hB.ch hV x b hb).down).2
theorem up_not (hU : Ups n U) (hA : Sol n U s A) {x : Nat} (hx : x < n) {a m : Int} (hst : stB V A x a) (hm : LeastW (Ed n U V) 0 s x m) : m < a := by
  obtain ⟨l, hl, c, hc, hlt⟩ := hst
  have h1 := (hA.ch hU _ c hc).up (V := V)
  have h2 := (hm.2 _ (h1.snoc (.inr ⟨hx, l, hl, rfl, rfl⟩) (Nat.zero_le _))).2
  omega
theorem down_not (hV : Ups n V) (hB : Sol n V t B) {x : Nat} (hx : x < n) {b m : Int} (hst : stB U B x b) (hm : LeastW (Ed n U V) 0 x t m) : m < b := by
  obtain ⟨l, hl, c, hc, hlt⟩ := hst
  have h1 := (hB.ch hV _ c hc).down (U := U)
  have h2 := (hm.2 _ (.cons (.inl ⟨hx, l, hl, rfl, rfl⟩) (Nat.zero_le _) h1)).2
  omega
/-- a rank that both have: the sum is no less than the distance -/
theorem meet_ge (hU : Ups n U) (hV : Ups n V) (hA : Sol n U s A) (hB : Sol n V t B) {x : Nat} {a b m : Int} (ha : A x = some a) (hb : B x = some b) (hm : LeastW (Ed n U V) 0 s t m) : m ≠ farI ∧ m ≤ a + b :=
  hm.2 _ ((hA.ch hU x a ha).up.append (hB.ch hV x b hb).down)
/-- one has the distance, stalled on neither side -/
theorem meet_at (hU : Ups n U) (hV : Ups n V) (ht : ∀ r, r < n → TrueAt n U V r) (hA : Sol n U s A) (hB : Sol n V t B) {m : Int} (hm : LeastW (Ed n U V) 0 s t m) (hf : m ≠ farI) :
    ∃ x a b, A x = some a ∧ B x = some b ∧ a + b = m ∧ ¬ stB V A x a ∧ ¬ stB U B x b := by
  rcases hm.1 with ⟨_, hw⟩ | h
  · obtain ⟨p, b1, b2, c1, c2, c3⟩ := updown hU hV ht n 0 (by omega) hw (Nat.zero_le _) (Nat.zero_le _)
    obtain ⟨a, ha, ha1⟩ := hA.least c1
    obtain ⟨b, hb, hb1⟩ := hB.least c2
    have hp : p < n := by
      rcases Nat.lt_or_ge p n with h | h
      · exact h
      · rw [hA.out p h] at ha; cases ha
    have hge := (meet_ge hU hV hA hB ha hb hm).2
    refine ⟨p, a, b, ha, hb, by omega, fun hst => ?_, fun hst => ?_⟩
    · obtain ⟨l, hl, c, hc, hlt⟩ := hst
      have h1 := (((hA.ch hU _ c hc).up (V := V)).snoc (.inr ⟨hp, l, hl, rfl, rfl⟩) (Nat.zero_le _)).append (hB.ch hV p b hb).down
      have := (hm.2 _ h1).2
      omega
    · obtain ⟨l, hl, c, hc, hlt⟩ := hst
      have h1 := ((hA.ch hU p a ha).up (V := V)).append (.cons (.inl ⟨hp, l, hl, rfl, rfl⟩) (Nat.zero_le _) ((hB.ch hV _ c hc).down (U := U)))
      have := (hm.2 _ h1).2
      omega
  · exact absurd h hf
end
end Go.Proofs.YtkcnnamghpdplaaDoor
