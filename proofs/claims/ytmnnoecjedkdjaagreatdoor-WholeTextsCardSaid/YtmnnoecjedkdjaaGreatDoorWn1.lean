/- cmp.Or of three numbers; normal.order, by three comparisons. -/
import Derived.Test.YtmnnoecjedkdjaaGreatDoorBug
import Derived.Test.YtmnnoecjedkdjaaGreatDoorGt4
import Derived.Test.YtmnnoecjedkdjaaGreatDoorShelf
import Derived.Deep.RegionHeld3
import Derived.BigQuiet
import Derived.StillTailTactics
set_option linter.unusedSimpArgs false
set_option linter.unusedVariables false
namespace Go.Proofs.YtmnnoecjedkdjaaGreatDoor
open Go.RowKit Txt

/-- the first that is not zero -/
def orL (l : List Int) : Int := (l.find? (· != 0)).getD 0
theorem orL_drop {l : List Int} {j : Nat} (hj : j < l.length) (h : orL l = orL (l.drop j)) (h0 : l[j] = 0) : orL l = orL (l.drop (j + 1)) := by
  rw [h, List.drop_eq_getElem_cons hj]
  simp [orL, h0]
theorem orL_at {l : List Int} {j : Nat} (hj : j < l.length) (h : orL l = orL (l.drop j)) (h0 : ¬ l[j] = 0) : orL l = l[j] := by
  rw [h, List.drop_eq_getElem_cons hj]
  unfold orL
  rw [List.find?_cons_of_pos (by simpa using h0)]
  rfl
theorem Or_any (g cap : Nat) (l : List Int) (W : World) (hl : l.length ≤ 100) (hc : ∀ j (h : j < l.length), W.cell? ⟨g, j, none⟩ = some (.int .i64 l[j])) :
    Calls Tryz.prog 58 #[.slice (some ⟨g, 0, none⟩) l.length cap] W fun e w' => e = .returned (.int .i64 (orL l)) ∧ W = w' := by
  have HC := Lib.hid hc
  clear hc
  go_enter Tryz.func58, Tryz.ntmps58
  refine wp_named ?_
  intro Q0 hQ0
  have HQ0 := Lib.hid hQ0
  clear hQ0
  go_wp2_with fail
  go_loop [8] (fun iv => ∃ j : Nat, j ≤ l.length ∧ iv = .int .i64 j ∧ orL l = orL (l.drop j)) (fun iv => l.length - (intOf iv).toNat)
  case atStart => exact ⟨0, by omega, rfl, rfl⟩
  case round =>
    obtain ⟨j, hj, rfl, hst⟩ := hrel
    by_cases hlt : j < l.length
    · have g0 : decide ((j : Int) < (l.length : Int)) = true := decide_eq_true (by omega)
      have w2 : IntKind.i64.wrap ((j : Int) + 1) = (j : Int) + 1 := by rw [IntKind.wrap_i64]; omega
      have hcj := HC.out j hlt
      have HST := Lib.hid hst
      clear hst
      by_cases h0 : l[j] = 0
      · rw [h0] at hcj
        have HN := Lib.hid (orL_drop hlt HST.out h0)
        go_wp2_with fail
        go_round
        case rel => exact ⟨j + 1, by omega, by go_num, HN.out⟩
        case measure => simp [intOf]; omega
      · have HN := Lib.hid (orL_at hlt HST.out h0)
        generalize l[j] = x at *
        have z0 : (x == 0) = false := beq_eq_false_iff_ne.2 h0
        go_wp2_with fail
        rw [HQ0.out]
        go_ret
        exact ⟨by rw [HN.out]; rfl, rfl⟩
    · obtain rfl : j = l.length := by omega
      have g0 : decide ((l.length : Int) < (l.length : Int)) = false := decide_eq_false (by omega)
      have HN : Hid (orL l = 0) := Lib.hid (by rw [hst]; simp [orL])
      clear hst
      go_wp2_with fail
      rw [HQ0.out]
      go_ret
      exact ⟨by rw [HN.out]; rfl, rfl⟩
theorem Or3_any (a b c : Int) (t : TypeId) (W : World) :
    Calls Tryz.prog 58 #[.slice (some ⟨W.heap.size, 0, none⟩) 3 3] (W.alloc (.cells #[.int .i64 a, .int .i64 b, .int .i64 c] t)) fun e w' => e = .returned (.int .i64 (orL [a, b, c])) ∧ W.alloc (.cells #[.int .i64 a, .int .i64 b, .int .i64 c] t) = w' := by
  have h := cells_new W #[.int .i64 a, .int .i64 b, .int .i64 c] t
  have c0 := h.cell 0
  have c1 := h.cell 1
  have c2 := h.cell 2
  exact Or_any W.heap.size 3 [a, b, c] _ (by simp) (fun j hj => by
    match j, hj with
    | 0, _ => exact c0
    | 1, _ => exact c1
    | 2, _ => exact c2)
theorem still_of_quiet {P : Program} {ops : Array Oper} {w : World} {Q : Act → Prop} : ∀ (l : List Oper) (a : Act), wpQuiet P ops (fun x => x = w) Q l a → wpStill P ops w Q l a
  | [], a, h => h
  | o :: rest, a, h => by
    unfold wpStill
    unfold wpQuiet at h
    by_cases hw : Region.wanted o (yielded ops a.tmps) = true
    · rw [if_pos hw] at h ⊢
      obtain ⟨v, h1, h2⟩ := h
      have h3 := h1 w rfl
      unfold Oper.quietAt at h3
      unfold Oper.still
      revert h3
      cases hr : (execOp a.eval o).run P w with
      | ok n w' =>
        cases n with
        | value u =>
          rintro ⟨rfl, rfl⟩
          exact ⟨rfl, still_of_quiet rest _ h2⟩
        | skip =>
          rintro ⟨rfl, rfl⟩
          exact ⟨rfl, still_of_quiet rest _ h2⟩
        | enter f args =>
          rintro ⟨rfl, hc⟩
          exact ⟨rfl, v, hc, still_of_quiet rest _ h2⟩
        | _ => exact fun h => h.elim
      | _ => exact fun h => h.elim
    · rw [if_neg hw] at h ⊢
      exact still_of_quiet rest _ h
def cmpA (x y : ArcT) : Int := orL [Lib.compareInt x.f y.f, Lib.compareInt x.t y.t, Lib.compareInt x.w y.w]
def GrownW (W w' : World) : Prop := ∃ q os', w' = Go.Sort.grow (W.drewN q) os'
set_option maxRecDepth 100000 in
set_option maxHeartbeats 4000000 in
theorem order_any (x y : ArcT) (W : World) :
    Calls Tryz.prog 37 #[.agg #[.int .i64 x.f, .int .i64 x.t, .int .i64 x.w], .agg #[.int .i64 y.f, .int .i64 y.t, .int .i64 y.w]] W fun e w' => e = .returned (.int .i64 (cmpA x y)) ∧ GrownW W w' := by
  have hcmp : ∀ a b w, Calls Tryz.prog 59 #[.int .i64 a, .int .i64 b] w (fun e w' => e = .returned (.int .i64 (Lib.compareInt a b)) ∧ w' = w) := fun a b w => Tryz.cmp_Compare_int a b w
  unfold cmpA
  generalize hv1 : Lib.compareInt x.f y.f = v1
  generalize hv2 : Lib.compareInt x.t y.t = v2
  generalize hv3 : Lib.compareInt x.w y.w = v3
  have H1 := Lib.hid (fun w => hv1 ▸ hcmp x.f y.f w)
  have H2 := Lib.hid (fun w => hv2 ▸ hcmp x.t y.t w)
  have H3 := Lib.hid (fun w => hv3 ▸ hcmp x.w y.w w)
  clear hv1 hv2 hv3 hcmp
  have hx := (cells_new W #[.int .i64 x.f, .int .i64 x.t, .int .i64 x.w] 56).below ((Below.refl _ _).alloc (Nat.le_refl _) (.cells #[.int .i64 y.f, .int .i64 y.t, .int .i64 y.w] 56))
  have hy := cells_new (W.alloc (.cells #[.int .i64 x.f, .int .i64 x.t, .int .i64 x.w] 56)) #[.int .i64 y.f, .int .i64 y.t, .int .i64 y.w] 56
  have hz : ((W.alloc (.cells #[.int .i64 x.f, .int .i64 x.t, .int .i64 x.w] 56)).alloc (.cells #[.int .i64 y.f, .int .i64 y.t, .int .i64 y.w] 56)).heap.size = W.heap.size + 1 + 1 := by simp
  have hg : GrownW W ((W.alloc (.cells #[.int .i64 x.f, .int .i64 x.t, .int .i64 x.w] 56)).alloc (.cells #[.int .i64 y.f, .int .i64 y.t, .int .i64 y.w] 56)) := ⟨0, _, by rw [Go.Sort.alloc_eq_grow, Go.Sort.alloc_eq_grow, Go.Sort.grow_grow]; rfl⟩
  rw [size_alloc] at hy
  have HG := Lib.hid hg
  clear hg
  go_enter Tryz.func37, Tryz.ntmps37
  refine wp_named ?_
  intro Q0 hQ0
  have HQ0 := Lib.hid hQ0
  clear hQ0
  go_upto_region 1 with fail
  generalize (W.alloc (.cells #[.int .i64 x.f, .int .i64 x.t, .int .i64 x.w] 56)).alloc (.cells #[.int .i64 y.f, .int .i64 y.t, .int .i64 y.w] 56) = w1 at *
  have x0 := hx.cell 0
  have x1 := hx.cell 1
  have x2 := hx.cell 2
  have y0 := hy.cell 0
  have y1 := hy.cell 1
  have y2 := hy.cell 2
  clear hx hy
  refine wp_region_still_tail 15 (by kernel_rfl) (by kernel_rfl) ?_
  simp only [List.take_succ_cons, List.take_zero, List.drop_succ_cons, List.drop_zero]
  refine still_of_quiet _ _ ?_
  repeat (first
    | go_big_quiet_step (fail)
    | (go_big_quiet_want; go_big_quiet_op; (apply Exists.intro); (refine ⟨?_, ?_⟩); (focus (first | (with_reducible exact H1.out _) | (with_reducible exact H2.out _) | (with_reducible exact H3.out _))); go_big_quiet_on))
  refine wpQuiet_nil ?_
  change wpList _ _ _ _ _ w1.drew
  have HG2 : Hid (GrownW W w1.drew) := Lib.hid (by obtain ⟨q, os, h⟩ := HG.out; exact ⟨q + 1, os, by rw [h]; rfl⟩)
  generalize w1.drew = w2 at *
  clear x0 x1 x2 y0 y1 y2
  go_wp2_with fail
  refine (Or3_any v1 v2 v3 3 w2).mono ?_
  rintro e w3 ⟨rfl, rfl⟩
  go_wp2_with fail
  rw [HQ0.out]
  go_ret
  refine ⟨rfl, ?_⟩
  obtain ⟨q, os, h⟩ := HG2.out
  exact ⟨q, _, by rw [h, Go.Sort.alloc_eq_grow, Go.Sort.grow_grow]⟩
end Go.Proofs.YtmnnoecjedkdjaaGreatDoor
