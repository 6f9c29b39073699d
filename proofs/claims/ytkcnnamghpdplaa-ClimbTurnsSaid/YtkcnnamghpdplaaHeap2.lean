/- A thing goes up as far as it must. -/
import Derived.Test.YtkcnnamghpdplaaHeap1
set_option linter.unusedSimpArgs false
set_option linter.unusedVariables false
namespace Go.Proofs.Ytkcnnamghpdplaa
open Go.RowKit

theorem set_self {α : Type} {l : List α} {i : Nat} {a : α} (h : l[i]? = some a) : l.set i a = l := by
  apply List.ext_getElem?
  intro j
  rw [get_set _ (lt_of_get h)]
  by_cases e : j = i
  · rw [if_pos e, e, h]
  · rw [if_neg e]
theorem set_swap {l : List Nat} {i j a b c : Nat} (h : i ≠ j) : ((l.set i a).set j b).set i c = (l.set j b).set i c := by
  rw [List.set_comm _ _ h, List.set_set]
theorem HP.item2 {w : World} {B b ga g c s : Nat} {xs : List It} {ps : List Nat} (h : HP w B b ga (.slice (some ⟨g, 0, none⟩) s c) xs ps) (hs : xs.length = s) {i : Nat} {x : It} (hi : xs[i]? = some x) : w.cell? ⟨g, i * 2, none⟩ = some (.int .u64 x.1) ∧ w.cell? ⟨g, i * 2 + 1, none⟩ = some (.int .u32 (x.2 : Int)) := by
  subst hs; exact h.item hi
/-- x is at place q, though it is not written there yet. -/
structure Hole (w : World) (B b ga : Nat) (v : Value) (ys : List It) (qs : List Nat) (m : List (Option Int)) (q : Nat) (x : It) (n s : Nat) : Prop where
  hp : HP w B b ga v ys qs
  lt : q < ys.length
  len : ys.length = s
  leng : qs.length = n
  good : Good (ys.set q x) (qs.set x.2 (q + 1)) m
section
variable {w : World} {B b ga : Nat} {v : Value} {ys : List It} {qs : List Nat} {m : List (Option Int)} {q n s : Nat} {x : It}
theorem Hole.x_lt (h : Hole w B b ga v ys qs m q x n s) : x.2 < qs.length := by
  have e := h.good.id_lt (i := q) (x := x) (by rw [get_set _ h.lt, if_pos rfl])
  rwa [List.length_set] at e
theorem Hole.other (h : Hole w B b ga v ys qs m q x n s) {p : Nat} (hp : p ≠ q) : (ys.set q x)[p]? = ys[p]? := by rw [get_set _ h.lt, if_neg hp]
theorem Hole.at_ (h : Hole w B b ga v ys qs m q x n s) : (ys.set q x)[q]? = some x := by rw [get_set _ h.lt, if_pos rfl]
theorem Hole.id_ne (h : Hole w B b ga v ys qs m q x n s) {p : Nat} {y : It} (hp : p ≠ q) (hy : ys[p]? = some y) : x.2 ≠ y.2 :=
  fun e => hp (h.good.inj h.at_ ((h.other hp).trans hy) e).symm
theorem Hole.y_lt (h : Hole w B b ga v ys qs m q x n s) {p : Nat} {y : It} (hp : p ≠ q) (hy : ys[p]? = some y) : y.2 < qs.length := by
  have e := h.good.id_lt ((h.other hp).trans hy)
  rwa [List.length_set] at e
/-- one step: what was at p is written at q, x is at p -/
theorem Hole.step {w' : World} {p : Nat} {y : It} (h : Hole w B b ga v ys qs m q x n s) (hp : p ≠ q) (hy : ys[p]? = some y) (h' : HP w' B b ga v (ys.set q y) (qs.set y.2 (q + 1))) :
    Hole w' B b ga v (ys.set q y) (qs.set y.2 (q + 1)) m p x n s ∧ (ys.set q y).set p x = swap (ys.set q x) q p x y := by
  have e1 : (ys.set q y).set p x = swap (ys.set q x) q p x y := by unfold swap; rw [List.set_set]
  refine ⟨⟨h', by rw [List.length_set]; exact lt_of_get hy, by rw [List.length_set]; exact h.len, by rw [List.length_set]; exact h.leng, ?_⟩, e1⟩
  rw [e1]
  have g := good_swap h.good hp.symm h.at_ ((h.other hp).trans hy)
  rwa [set_swap (h.id_ne hp hy)] at g
end
def UpTo (w : World) (B b ga : Nat) (v : Value) (xs : List It) (ps : List Nat) (m : List (Option Int)) (x : It) (e : Ending) (w' : World) : Prop :=
  e = .returned (.tuple #[]) ∧ (∃ zs rs j, HP w' B b ga v zs rs ∧ Good zs rs m ∧ zs.length = xs.length ∧ rs.length = ps.length ∧ zs[j]? = some x ∧ DownInv j zs) ∧ Kept (mine b ga v) w w'
theorem up_any {w : World} {B b ga : Nat} {v : Value} {xs : List It} {ps : List Nat} {m : List (Option Int)} (h : HP w B b ga v xs ps) (hg : Good xs ps m) (hn : ps.length ≤ 65536) {i : Nat} (hal : Almost i xs) {x : It} (hi : xs[i]? = some x) :
    Calls Try.prog 68 #[.pointer (some ⟨b, 0, none⟩), .int .i64 i] w (UpTo w B b ga v xs ps m x) := by
  have hil := lt_of_get hi
  have hsm := hg.small
  obtain ⟨g, c, rfl, hc, hbg, hgg, hgs⟩ := h.slice hil
  have c0 : w.cell? ⟨b, 0, none⟩ = some (.slice (some ⟨g, 0, none⟩) xs.length c) := h.blk.cell 0
  obtain ⟨i0, i1⟩ := h.item hi
  have HO : Hid (Hole w B b ga (.slice (some ⟨g, 0, none⟩) xs.length c) xs ps m i x ps.length xs.length) := Lib.hid ⟨h, hil, rfl, rfl, by rw [set_self hi, set_self (hg.fwd i x hi).1]; exact hg⟩
  have HA := Lib.hid (show Almost i (xs.set i x) by rw [set_self hi]; exact hal)
  have HBL : Hid (∀ k, mine b ga (.slice (some ⟨g, 0, none⟩) xs.length c) k → k < w.heap.size) := Lib.hid (fun k hk => (h.lt k hk).2)
  have h0 := h.lt
  have HN : Hid (xs.length ≤ 65536) := Lib.hid (by omega)
  have HN2 := Lib.hid hn
  clear h hg hal hi hsm hn
  have HBO := Lib.hid h0
  clear h0
  generalize hs : xs.length = s at *
  generalize hn : ps.length = n at *
  unfold UpTo
  rw [hs, hn]
  clear hn
  have HX : Hid (Cells (w.alloc (.cells #[.int .u64 x.1, .int .u32 (x.2 : Int)] 133)) w.heap.size #[.int .u64 x.1, .int .u32 (x.2 : Int)] 133) := Lib.hid (cells_new _ _ _)
  have HO2 : Hid (Hole (w.alloc (.cells #[.int .u64 x.1, .int .u32 (x.2 : Int)] 133)) B b ga (.slice (some ⟨g, 0, none⟩) s c) xs ps m i x n s) := Lib.hid { HO.out with hp := HO.out.hp.below ((Below.refl _ _).alloc (Nat.le_refl _) _) }
  clear HO
  go_enter Try.func68, Try.ntmps68
  go_wp2_with fail
  clear i0 i1
  go_loopw [1] (fun iv wr => ∃ (q : Nat) (ys : List It) (qs : List Nat), iv = .int .i64 q ∧ Hole wr B b ga (.slice (some ⟨g, 0, none⟩) s c) ys qs m q x n s ∧ Almost q (ys.set q x) ∧ Cells wr w.heap.size #[.int .u64 x.1, .int .u32 (x.2 : Int)] 133 ∧ Kept (mine b ga (.slice (some ⟨g, 0, none⟩) s c)) w wr) (fun iv _ => (intOf iv).toNat)
  case atStart => exact ⟨i, xs, ps, rfl, HO2.out, HA.out, HX.out, (Kept.refl _ _).alloc _⟩
  case round =>
    obtain ⟨q, ys, qs, rfl, ho, ha, hx, hk⟩ := hrel
    have HO := Lib.hid ho
    have HA2 := Lib.hid ha
    have HX2 := Lib.hid hx
    have HK := Lib.hid hk
    have hql := ho.lt
    have hyl := ho.len
    have b0 : wr.cell? ⟨w.heap.size, 0, none⟩ = some (.int .u64 x.1) := hx.cell 0
    have b1 : wr.cell? ⟨w.heap.size, 1, none⟩ = some (.int .u32 (x.2 : Int)) := hx.cell 1
    have d0 : wr.cell? ⟨b, 0, none⟩ = some (.slice (some ⟨g, 0, none⟩) s c) := ho.hp.blk.cell 0
    clear ho ha hx hk HO2 HX HA
    have hqs : q < s := by omega
    have HNS := HN.out
    by_cases hq0 : 0 < q
    · obtain ⟨p, hpq⟩ : ∃ p, par q = p := ⟨_, rfl⟩
      have hpl : p < q := by rw [← hpq]; exact par_lt hq0
      have hpc : p < c := by omega
      have hps : p < s := by omega
      have hpy : p < ys.length := by omega
      have HW : Hid (((q : Int) - 1) / 4 = (p : Int)) := Lib.hid (by unfold par at hpq; omega)
      have hy := List.getElem?_eq_getElem hpy
      generalize ys[p] = y at hy
      obtain ⟨j0, j1⟩ := HO.out.hp.item2 hyl hy
      have HY := Lib.hid hy
      have HPQ := Lib.hid hpq
      clear hy hpq hpy
      go_wp2_with fail
      rw [HW.out]
      have HB1 : Hid (Below wr.heap.size wr wr.drew) := Lib.hid (Below.refl _ _).drew
      by_cases hl : lessI x y
      · have HLS := Lib.hid hl
        clear hl
        go_region_held3 (fun w' => w'.cell? ⟨w.heap.size, 0, none⟩ = some (.int .u64 x.1) ∧ w'.cell? ⟨w.heap.size, 1, none⟩ = some (.int .u32 (x.2 : Int)) ∧ w'.cell? ⟨b, 0, none⟩ = some (.slice (some ⟨g, 0, none⟩) s c) ∧ w'.cell? ⟨g, p * 2, none⟩ = some (.int .u64 y.1) ∧ w'.cell? ⟨g, p * 2 + 1, none⟩ = some (.int .u32 (y.2 : Int))) (first | exact ⟨b0, b1, d0, j0, j1⟩) (first
          | (go_at_call 70; refine (less_any x y _).mono ?_; rintro e w5 ⟨⟨r, rfl, hr⟩, hb5⟩; obtain rfl : r = true := hr.2 HLS.out; have HB5 := Lib.hid (HB1.out.trans hb5); have b0 := cell_below hb5 b0; have b1 := cell_below hb5 b1; have d0 := cell_below hb5 d0; have j0 := cell_below hb5 j0; have j1 := cell_below hb5 j1; clear hb5 hr))
        go_wp2_with fail
        refine (put_any (HO.out.hp.below HB5.out) hql (by omega) y (HO.out.y_lt (by omega) HY.out) (by rw [HO.out.leng]; exact HN2.out)).mono ?_
        rintro e w6 ⟨rfl, hp6, hk6⟩
        have HP6 := Lib.hid hp6
        have HK6 := Lib.hid ((HK.out.trans (.of_below HB5.out)).trans hk6)
        have HX6 := Lib.hid (hk6.cells (HX2.out.below HB5.out) (fun h => by have := HBL.out _ h; omega))
        clear hp6 hk6
        go_wp2_with fail
        go_roundw
        case rel =>
          obtain ⟨ho', he'⟩ := HO.out.step (by omega) HY.out HP6.out
          refine ⟨p, _, _, rfl, ho', ?_, HX6.out, HK6.out⟩
          rw [he', ← HPQ.out]
          have hy := HY.out
          rw [← HPQ.out] at hy
          exact up_step HA2.out hq0 HO.out.at_ ((HO.out.other (by have := par_lt hq0; omega)).trans hy) HLS.out
        case measure => simp [intOf]; omega
      · have HLS := Lib.hid hl
        clear hl
        have HD : Hid (DownInv q (ys.set q x)) := Lib.hid (up_stop HA2.out (fun h0 x' y' hx' hy' => by
          rw [HO.out.at_] at hx'
          rw [HPQ.out, HO.out.other (by omega), HY.out] at hy'
          rw [← Option.some.inj hx', ← Option.some.inj hy']
          exact HLS.out))
        go_region_held3 (fun w' => w'.cell? ⟨w.heap.size, 0, none⟩ = some (.int .u64 x.1) ∧ w'.cell? ⟨w.heap.size, 1, none⟩ = some (.int .u32 (x.2 : Int)) ∧ w'.cell? ⟨b, 0, none⟩ = some (.slice (some ⟨g, 0, none⟩) s c) ∧ w'.cell? ⟨g, p * 2, none⟩ = some (.int .u64 y.1) ∧ w'.cell? ⟨g, p * 2 + 1, none⟩ = some (.int .u32 (y.2 : Int))) (first | exact ⟨b0, b1, d0, j0, j1⟩) (first
          | (go_at_call 70; refine (less_any x y _).mono ?_; rintro e w5 ⟨⟨r, rfl, hr⟩, hb5⟩; obtain rfl : r = false := Bool.eq_false_iff.2 (fun h => HLS.out (hr.1 h)); have HB5 := Lib.hid (HB1.out.trans hb5); have b0 := cell_below hb5 b0; have b1 := cell_below hb5 b1; have d0 := cell_below hb5 d0; have j0 := cell_below hb5 j0; have j1 := cell_below hb5 j1; clear hb5 hr))
        go_wp2_with fail
        refine (put_any (HO.out.hp.below HB5.out) hql (by omega) x HO.out.x_lt (by rw [HO.out.leng]; exact HN2.out)).mono ?_
        rintro e w7 ⟨rfl, hp7, hk7⟩
        have HP7 := Lib.hid hp7
        have HK7 := Lib.hid ((HK.out.trans (.of_below HB5.out)).trans hk7)
        clear hp7 hk7
        go_wp2_with fail
        go_end0
        exact ⟨rfl, ⟨_, _, q, HP7.out, HO.out.good, by rw [List.length_set]; exact HO.out.len, by rw [List.length_set]; exact HO.out.leng, HO.out.at_, HD.out⟩, HK7.out⟩
    · obtain rfl : q = 0 := by omega
      have HD : Hid (DownInv 0 (ys.set 0 x)) := Lib.hid (up_stop HA2.out (fun h0 => absurd h0 (by omega)))
      go_wp2_with fail
      refine (put_any (HO.out.hp.below (Below.refl _ _)) hql (by omega) x HO.out.x_lt (by rw [HO.out.leng]; exact HN2.out)).mono ?_
      rintro e w7 ⟨rfl, hp7, hk7⟩
      have HP7 := Lib.hid hp7
      have HK7 := Lib.hid ((HK.out.trans (.of_below (Below.refl _ _))).trans hk7)
      clear hp7 hk7
      go_wp2_with fail
      go_end0
      exact ⟨rfl, ⟨_, _, 0, HP7.out, HO.out.good, by rw [List.length_set]; exact HO.out.len, by rw [List.length_set]; exact HO.out.leng, HO.out.at_, HD.out⟩, HK7.out⟩
end Go.Proofs.Ytkcnnamghpdplaa
