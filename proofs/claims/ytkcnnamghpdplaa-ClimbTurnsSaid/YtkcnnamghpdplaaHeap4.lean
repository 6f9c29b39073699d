/- A heap as a list of perhaps-keys; the calls that only look. -/
import Derived.Test.YtkcnnamghpdplaaHeap3
set_option linter.unusedSimpArgs false
set_option linter.unusedVariables false
namespace Go.Proofs.Ytkcnnamghpdplaa
open Go.RowKit

def Hp (w : World) (B b ga : Nat) (v : Value) (m : List (Option Int)) : Prop := ∃ xs ps, HP w B b ga v xs ps ∧ Good xs ps m ∧ HeapL xs ∧ m.length ≤ 65536
def Fresh (w : World) (v v' : Value) : Prop := ∀ k, v'.ownBlock = some k → v.ownBlock = some k ∨ w.heap.size ≤ k
/-- what a call leaves: another content, perhaps another row of things; nothing else has turned -/
def After (w : World) (B b ga : Nat) (v : Value) (m' : List (Option Int)) (w' : World) : Prop := ∃ v', Hp w' B b ga v' m' ∧ Kept (mine b ga v) w w' ∧ Fresh w v v'
theorem Fresh.refl (w : World) (v : Value) : Fresh w v v := fun k h => .inl h
theorem Hp.below {w w' : World} {B b ga : Nat} {v : Value} {m : List (Option Int)} (h : Hp w B b ga v m) (hb : Below w.heap.size w w') : Hp w' B b ga v m := by
  obtain ⟨xs, ps, h1, r⟩ := h
  exact ⟨xs, ps, h1.below hb, r⟩
theorem Hp.kept {w w' : World} {B b ga : Nat} {v : Value} {m : List (Option Int)} {S : Nat → Prop} (h : Hp w B b ga v m) (hk : Kept S w w') (hS : ∀ k, mine b ga v k → ¬ S k) : Hp w' B b ga v m := by
  obtain ⟨xs, ps, h1, r⟩ := h
  exact ⟨xs, ps, h1.kept hk hS, r⟩
theorem Hp.lt {w : World} {B b ga : Nat} {v : Value} {m : List (Option Int)} (h : Hp w B b ga v m) : ∀ k, mine b ga v k → B ≤ k ∧ k < w.heap.size := by
  obtain ⟨xs, ps, h1, r⟩ := h
  exact h1.lt
def lookH (m : List (Option Int)) (id : Nat) : Option Int := m.getD id none
def gotH : Option Int → Value
  | some v => .tuple #[.int .u64 v, .bool true]
  | none => .tuple #[.int .u64 0, .bool false]
theorem drawn_one (w : World) (n : Nat) : Drawn w (w.drewN n) := ⟨n, rfl⟩
section
variable {w : World} {B b ga : Nat} {v : Value} {xs : List It} {ps : List Nat} {m : List (Option Int)}
theorem check_in {n : Nat} (c1 : w.cell? ⟨b, 1, none⟩ = some (.slice (some ⟨ga, 0, none⟩) n n)) (hn : n ≤ 65536) {id : Nat} (hi : id < n) :
    Calls Try.prog 66 #[.pointer (some ⟨b, 0, none⟩), .int .u32 id] w fun e w' => e = .returned .nilIface ∧ w' = w := by
  have g1 : decide (n ≤ id) = false := decide_eq_false (by omega)
  have g2 : ¬ n ≤ id := by omega
  go_enter Try.func66, Try.ntmps66
  go_wp2_with fail
  go_ret
  exact ⟨rfl, rfl⟩
theorem check_out {n : Nat} (c1 : w.cell? ⟨b, 1, none⟩ = some (.slice (some ⟨ga, 0, none⟩) n n)) (hn : n ≤ 65536) {id : Nat} (hi : n ≤ id) (h1 : id ≤ 4294967295) :
    Calls Try.prog 66 #[.pointer (some ⟨b, 0, none⟩), .int .u32 id] w fun e w' => e = .returned (.iface 63 (.int .i64 7)) ∧ w' = w := by
  have g1 : decide (n ≤ id) = true := decide_eq_true hi
  go_enter Try.func66, Try.ntmps66
  go_wp2_with fail
  go_ret
  exact ⟨rfl, rfl⟩
theorem Key_any (h : Hp w B b ga v m) (id : Nat) (h1 : id ≤ 4294967295) :
    Calls Try.prog 62 #[.pointer (some ⟨b, 0, none⟩), .int .u32 id] w fun e w' => e = .returned (gotH (lookH m id)) ∧ Drawn w w' := by
  obtain ⟨xs, ps, hp, hg, hh, hm⟩ := h
  have hpl : ps.length ≤ 65536 := by rw [hg.len]; exact hm
  by_cases hi : id < ps.length
  · have hz := List.getElem?_eq_getElem hi
    generalize ps[id] = a at hz
    have c1 : w.cell? ⟨b, 1, none⟩ = some (.slice (some ⟨ga, 0, none⟩) ps.length ps.length) := hp.blk.cell 1
    have p0 := hp.place hz
    have C1 := Lib.hid c1
    have HPL := Lib.hid hpl
    rcases hg.bwd id a hz with ⟨rfl, hn⟩ | ⟨h0, x, hx, rfl⟩
    · have hl : lookH m id = none := by unfold lookH; rw [List.getD_eq_getElem?_getD, hn]; rfl
      rw [hl]
      clear hl hn hz hg hh hp
      go_enter Try.func62, Try.ntmps62
      go_wp2_with fail
      refine (check_in C1.out HPL.out hi).mono ?_
      rintro e w2 ⟨rfl, h⟩
      obtain rfl := h.symm
      clear h
      go_wp2_with (go_quiet (fail))
      go_ret2
      exact ⟨rfl, by first | exact Drawn.refl _ | exact drawn_one _ _⟩
    · have hl : lookH m x.2 = some x.1 := by unfold lookH; rw [List.getD_eq_getElem?_getD, (hg.fwd _ x hx).2]; rfl
      rw [hl]
      obtain ⟨g, c, rfl, hc, hbg, hgg, hgs⟩ := hp.slice (lt_of_get hx)
      have c0 : w.cell? ⟨b, 0, none⟩ = some (.slice (some ⟨g, 0, none⟩) xs.length c) := hp.blk.cell 0
      obtain ⟨r, rfl⟩ : ∃ r, a = r + 1 := ⟨a - 1, by omega⟩
      rw [Nat.add_sub_cancel] at hx
      obtain ⟨i0, i1⟩ := hp.item hx
      have hr := lt_of_get hx
      have hsm := hg.small
      have HPT := Lib.hid hp
      clear hl hz hg hh hp hx h0 hbg hgg
      generalize xs.length = s at *
      generalize ps.length = n at *
      go_enter Try.func62, Try.ntmps62
      go_wp2_with fail
      refine (check_in C1.out HPL.out hi).mono ?_
      rintro e w2 ⟨rfl, h⟩
      obtain rfl := h.symm
      clear h
      have hz1 : (((r + 1 : Nat) : Int) == 0) = false := by simp; omega
      have hw1 : IntKind.i64.wrap (((r + 1 : Nat) : Int) - 1) = (r : Int) := by rw [IntKind.wrap_i64]; omega
      have hw2 : IntKind.i64.wrap ((r : Int) + 1 - 1) = (r : Int) := by rw [IntKind.wrap_i64]; omega
      go_wp2_with (go_quiet (fail))
      go_ret2
      exact ⟨rfl, by first | exact Drawn.refl _ | exact drawn_one _ _⟩
  · have hl : lookH m id = none := by unfold lookH; rw [List.getD_eq_getElem?_getD, List.getElem?_eq_none (by rw [← hg.len]; omega)]; rfl
    rw [hl]
    have c1 : w.cell? ⟨b, 1, none⟩ = some (.slice (some ⟨ga, 0, none⟩) ps.length ps.length) := hp.blk.cell 1
    have C1 := Lib.hid c1
    have HPL := Lib.hid hpl
    have HI : Hid (ps.length ≤ id) := Lib.hid (by omega)
    clear hl hg hh hp
    go_enter Try.func62, Try.ntmps62
    go_wp2_with fail
    refine (check_out C1.out HPL.out HI.out h1).mono ?_
    rintro e w2 ⟨rfl, h⟩
    obtain rfl := h.symm
    clear h
    go_wp2_with (go_quiet (fail))
    go_ret2
    exact ⟨rfl, by first | exact Drawn.refl _ | exact drawn_one _ _⟩
/-- the least thing, if there is one -/
def IsTop (m : List (Option Int)) : Option It → Prop
  | none => ∀ j : Nat, lookH m j = none
  | some x => lookH m x.2 = some x.1 ∧ ∀ (j : Nat) (k : Int), lookH m j = some k → leI x (k, j)
def topV : Option It → Value
  | none => .tuple #[.int .u32 0, .int .u64 0, .bool false]
  | some x => .tuple #[.int .u32 (x.2 : Int), .int .u64 x.1, .bool true]
theorem Good.look (h : Good xs ps m) {j : Nat} {k : Int} (hl : lookH m j = some k) : ∃ i : Nat, xs[i]? = some (k, j) := by
  unfold lookH at hl
  rw [List.getD_eq_getElem?_getD] at hl
  have hm : m[j]? = some (some k) := by
    cases hx : m[j]? with
    | none => rw [hx] at hl; cases hl
    | some o => rw [hx] at hl; exact congrArg some hl
  have hj : j < ps.length := by rw [h.len]; exact lt_of_get hm
  rcases h.bwd j _ (List.getElem?_eq_getElem hj) with ⟨_, hn⟩ | ⟨h0, x, hx, rfl⟩
  · rw [hn] at hm; cases hm
  · have e := (h.fwd _ x hx).2
    rw [hm] at e
    obtain rfl := Option.some.inj (Option.some.inj e)
    exact ⟨_, hx⟩
theorem Good.look_at (h : Good xs ps m) {i : Nat} {x : It} (hx : xs[i]? = some x) : lookH m x.2 = some x.1 := by
  unfold lookH
  rw [List.getD_eq_getElem?_getD, (h.fwd i x hx).2]; rfl
theorem isTop_of (hg : Good xs ps m) (hh : HeapL xs) : IsTop m xs[0]? := by
  cases h0 : xs[0]? with
  | none =>
    intro j
    cases hl : lookH m j with
    | none => rfl
    | some k =>
      obtain ⟨i, hi⟩ := hg.look hl
      have := lt_of_get hi
      rw [List.getElem?_eq_none_iff] at h0
      omega
  | some x =>
    refine ⟨hg.look_at h0, fun j k hl => ?_⟩
    obtain ⟨i, hi⟩ := hg.look hl
    exact heap_min hh h0 i _ hi
theorem Top_any (h : Hp w B b ga v m) :
    Calls Try.prog 64 #[.pointer (some ⟨b, 0, none⟩)] w fun e w' => (∃ r, e = .returned (topV r) ∧ IsTop m r) ∧ Drawn w w' := by
  obtain ⟨xs, ps, hp, hg, hh, hm⟩ := h
  have HT := Lib.hid (isTop_of hg hh)
  cases h0 : xs[0]? with
  | none =>
    rw [h0] at HT
    have hnil : xs = [] := by rw [List.getElem?_eq_none_iff] at h0; exact List.length_eq_zero_iff.1 (by omega)
    subst hnil
    have hv : ∃ A c, v = .slice A 0 c := by
      rcases hp.own.2 with ⟨rfl, _⟩ | ⟨g, c, cur, rfl, _⟩
      · exact ⟨_, _, rfl⟩
      · exact ⟨_, _, rfl⟩
    obtain ⟨A, c, rfl⟩ := hv
    have c0 : w.cell? ⟨b, 0, none⟩ = some (.slice A 0 c) := hp.blk.cell 0
    clear hp hg hh h0
    go_enter Try.func64, Try.ntmps64
    go_wp2_with (go_quiet (fail))
    go_ret3
    exact ⟨⟨none, rfl, HT.out⟩, by first | exact Drawn.refl _ | exact drawn_one _ _⟩
  | some x =>
    rw [h0] at HT
    obtain ⟨g, c, rfl, hc, hbg, hgg, hgs⟩ := hp.slice (lt_of_get h0)
    have c0 : w.cell? ⟨b, 0, none⟩ = some (.slice (some ⟨g, 0, none⟩) xs.length c) := hp.blk.cell 0
    obtain ⟨i0, i1⟩ := hp.item h0
    rw [Nat.zero_mul] at i0 i1
    have hl := lt_of_get h0
    have hz : ((xs.length : Int) == 0) = false := by simp; intro e; rw [e] at hl; simp at hl
    have hsm := hg.small
    have hps : ps.length ≤ 65536 := by rw [hg.len]; exact hm
    have hsm2 : xs.length ≤ 65536 := by omega
    clear hp hg hh h0 hsm hps hbg hgg
    generalize xs.length = s at *
    go_enter Try.func64, Try.ntmps64
    go_wp2_with (go_quiet (fail))
    go_ret3
    exact ⟨⟨some x, rfl, HT.out⟩, by first | exact Drawn.refl _ | exact drawn_one _ _⟩
end
end Go.Proofs.Ytkcnnamghpdplaa
