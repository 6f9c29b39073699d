/- A thing goes down as far as it must. -/
import Derived.Test.YtkcnnamghpdplaaHeap2
set_option linter.unusedSimpArgs false
set_option linter.unusedVariables false
namespace Go.Proofs.Ytkcnnamghpdplaa
open Go.RowKit

/-- the best child of q among the first k -/
def Best (ys : List It) (q k : Nat) (bv : Value) : Prop :=
  (bv = .int .i64 (-1) ∧ ∀ j, 4 * q + 1 ≤ j → j < 4 * q + 1 + k → ys.length ≤ j) ∨
  (∃ c : Nat, bv = .int .i64 c ∧ 4 * q + 1 ≤ c ∧ c < 4 * q + 1 + k ∧ c < ys.length ∧ ∀ j y z, 4 * q + 1 ≤ j → j < 4 * q + 1 + k → ys[c]? = some y → ys[j]? = some z → leI y z)
section
variable {ys : List It} {q k : Nat} {bv : Value}
theorem best_zero (ys : List It) (q : Nat) : Best ys q 0 (.int .i64 (-1)) := .inl ⟨rfl, fun j h1 h2 => by omega⟩
theorem best_beyond (h : Best ys q k bv) (hl : ys.length ≤ 4 * q + 1 + k) : Best ys q (k + 1) bv := by
  rcases h with ⟨e, h⟩ | ⟨c, e, h1, h2, h3, h4⟩
  · exact .inl ⟨e, fun j a b => by by_cases hj : j < 4 * q + 1 + k; exact h j a hj; omega⟩
  · refine .inr ⟨c, e, h1, by omega, h3, fun j y z a b hy hz => ?_⟩
    have := lt_of_get hz
    exact h4 j y z a (by omega) hy hz
theorem best_first (h : Best ys q k (.int .i64 (-1))) (hl : 4 * q + 1 + k < ys.length) : Best ys q (k + 1) (.int .i64 ((4 * q + 1 + k : Nat) : Int)) := by
  rcases h with ⟨e, h⟩ | ⟨c, e, h1, h2, h3, h4⟩
  · refine .inr ⟨_, rfl, by omega, by omega, hl, fun j y z a b hy hz => ?_⟩
    by_cases hj : j < 4 * q + 1 + k
    · have := h j a hj; have := lt_of_get hz; omega
    · obtain rfl : j = 4 * q + 1 + k := by omega
      rw [hy] at hz
      obtain rfl := Option.some.inj hz
      exact leI_refl _
  · injection e with _ e; omega
theorem best_less {c : Nat} {x y : It} (h : Best ys q k (.int .i64 c)) (hx : ys[4 * q + 1 + k]? = some x) (hy : ys[c]? = some y) (hl : lessI x y) : Best ys q (k + 1) (.int .i64 ((4 * q + 1 + k : Nat) : Int)) := by
  rcases h with ⟨e, h⟩ | ⟨c', e, h1, h2, h3, h4⟩
  · injection e with _ e; omega
  · obtain rfl : c = c' := by injection e with _ e; omega
    refine .inr ⟨_, rfl, by omega, by omega, lt_of_get hx, fun j y' z a b hy' hz => ?_⟩
    rw [hx] at hy'
    obtain rfl := Option.some.inj hy'
    by_cases hj : j < 4 * q + 1 + k
    · exact leI_trans (leI_of_less hl) (h4 j y z a hj hy hz)
    · obtain rfl : j = 4 * q + 1 + k := by omega
      rw [hx] at hz
      obtain rfl := Option.some.inj hz
      exact leI_refl _
theorem best_same {c : Nat} {x y : It} (h : Best ys q k (.int .i64 c)) (hx : ys[4 * q + 1 + k]? = some x) (hy : ys[c]? = some y) (hl : ¬ lessI x y) : Best ys q (k + 1) (.int .i64 c) := by
  rcases h with ⟨e, h⟩ | ⟨c', e, h1, h2, h3, h4⟩
  · injection e with _ e; omega
  · obtain rfl : c = c' := by injection e with _ e; omega
    refine .inr ⟨c, rfl, h1, by omega, h3, fun j y' z a b hy' hz => ?_⟩
    rw [hy] at hy'
    obtain rfl := Option.some.inj hy'
    by_cases hj : j < 4 * q + 1 + k
    · exact h4 j y z a hj hy hz
    · obtain rfl : j = 4 * q + 1 + k := by omega
      rw [hx] at hz
      obtain rfl := Option.some.inj hz
      exact leI_of_not hl
theorem par_iff {j : Nat} (h : 0 < j) : par j = q ↔ 4 * q + 1 ≤ j ∧ j < 4 * q + 1 + 4 := by unfold par; omega
end
def DownTo (w : World) (B b ga : Nat) (v : Value) (xs : List It) (ps : List Nat) (m : List (Option Int)) (e : Ending) (w' : World) : Prop :=
  e = .returned (.tuple #[]) ∧ (∃ zs rs, HP w' B b ga v zs rs ∧ Good zs rs m ∧ zs.length = xs.length ∧ rs.length = ps.length ∧ HeapL zs) ∧ Kept (mine b ga v) w w'
set_option maxHeartbeats 4000000 in
theorem down_any {w : World} {B b ga : Nat} {v : Value} {xs : List It} {ps : List Nat} {m : List (Option Int)} (h : HP w B b ga v xs ps) (hg : Good xs ps m) (hn : ps.length ≤ 65536) {i : Nat} (hal : DownInv i xs) {x : It} (hi : xs[i]? = some x) :
    Calls Try.prog 69 #[.pointer (some ⟨b, 0, none⟩), .int .i64 i] w (DownTo w B b ga v xs ps m) := by
  have hil := lt_of_get hi
  have hsm := hg.small
  obtain ⟨g, c, rfl, hc, hbg, hgg, hgs⟩ := h.slice hil
  have c0 : w.cell? ⟨b, 0, none⟩ = some (.slice (some ⟨g, 0, none⟩) xs.length c) := h.blk.cell 0
  obtain ⟨i0, i1⟩ := h.item hi
  have HO : Hid (Hole w B b ga (.slice (some ⟨g, 0, none⟩) xs.length c) xs ps m i x ps.length xs.length) := Lib.hid ⟨h, hil, rfl, rfl, by rw [set_self hi, set_self (hg.fwd i x hi).1]; exact hg⟩
  have HA := Lib.hid (show DownInv i (xs.set i x) by rw [set_self hi]; exact hal)
  have HBL : Hid (∀ k, mine b ga (.slice (some ⟨g, 0, none⟩) xs.length c) k → k < w.heap.size) := Lib.hid (fun k hk => (h.lt k hk).2)
  have HN : Hid (xs.length ≤ 65536) := Lib.hid (by omega)
  have HN2 := Lib.hid hn
  clear h hg hal hi hsm hn
  generalize hs : xs.length = s at *
  generalize hn : ps.length = n at *
  unfold DownTo
  rw [hs, hn]
  clear hn
  have HX : Hid (Cells (w.alloc (.cells #[.int .u64 x.1, .int .u32 (x.2 : Int)] 133)) w.heap.size #[.int .u64 x.1, .int .u32 (x.2 : Int)] 133) := Lib.hid (cells_new _ _ _)
  have HO2 : Hid (Hole (w.alloc (.cells #[.int .u64 x.1, .int .u32 (x.2 : Int)] 133)) B b ga (.slice (some ⟨g, 0, none⟩) s c) xs ps m i x n s) := Lib.hid { HO.out with hp := HO.out.hp.below ((Below.refl _ _).alloc (Nat.le_refl _) _) }
  clear HO
  go_enter Try.func69, Try.ntmps69
  go_wp2_with fail
  clear i0 i1 c0 hbg hgg hgs
  go_loopw [1] (fun iv wr => ∃ (q : Nat) (ys : List It) (qs : List Nat), iv = .int .i64 q ∧ Hole wr B b ga (.slice (some ⟨g, 0, none⟩) s c) ys qs m q x n s ∧ DownInv q (ys.set q x) ∧ Cells wr w.heap.size #[.int .u64 x.1, .int .u32 (x.2 : Int)] 133 ∧ Kept (mine b ga (.slice (some ⟨g, 0, none⟩) s c)) w wr) (fun iv _ => s - (intOf iv).toNat)
  case atStart => exact ⟨i, xs, ps, rfl, HO2.out, HA.out, HX.out, (Kept.refl _ _).alloc _⟩
  case round =>
    obtain ⟨q, ys, qs, rfl, ho, ha, hx, hk⟩ := hrel
    have HO := Lib.hid ho
    have HA2 := Lib.hid ha
    have HX2 := Lib.hid hx
    have HK := Lib.hid hk
    have hql := ho.lt
    have hyl := ho.len
    clear ho ha hx hk HO2 HX HA
    have hqs : q < s := by omega
    have HNS := HN.out
    go_wp2_with fail
    obtain ⟨W1, rfl⟩ : ∃ W1 : World, W1 = wr := ⟨_, rfl⟩
    go_loopw [5, 15] (fun bv kv wl => ∃ k : Nat, k ≤ 4 ∧ kv = .int .i64 k ∧ Best ys q k bv ∧ Below W1.heap.size W1 wl) (fun _ kv _ => 4 - (intOf kv).toNat)
    case atStart => exact ⟨0, by omega, rfl, best_zero ys q, Below.refl _ _⟩
    case round =>
      obtain ⟨k, hk, rfl, hbest, hbl⟩ := hrel
      have HBE := Lib.hid hbest
      have HBW := Lib.hid hbl
      clear hbest hbl
      have d0 : wr.cell? ⟨b, 0, none⟩ = some (.slice (some ⟨g, 0, none⟩) s c) := (HO.out.hp.below HBW.out).blk.cell 0
      by_cases hk4 : k < 4
      · have g0 : decide ((k : Int) < 4) = true := decide_eq_true (by omega)
        have g00 : decide (k < 4) = true := decide_eq_true hk4
        obtain ⟨cc, hcc⟩ : ∃ cc, 4 * q + 1 + k = cc := ⟨_, rfl⟩
        have HCC := Lib.hid hcc
        have HCI : Hid ((q : Int) * 4 + 1 + (k : Int) = (cc : Int)) := Lib.hid (by omega)
        by_cases hin : cc < s
        · have hci : cc < c := by omega
          have gA : decide (cc < s) = true := decide_eq_true hin
          have gA' : decide ((cc : Int) < (s : Int)) = true := decide_eq_true (by omega)
          rcases HBE.out with ⟨rfl, hno⟩ | ⟨c1, rfl, h1, h2, h3, h4⟩
          · clear hcc hno
            go_wp2_with fail
            rw [HCI.out]
            go_wp2_with (go_quiet (fail))
            go_roundw
            case rel => exact ⟨k + 1, by omega, by go_num, by rw [← HCC.out]; exact best_first HBE.out (by rw [HCC.out, hyl]; exact hin), HBW.out.trans ⟨rfl, rfl, rfl, Nat.le_refl _, fun _ _ => rfl⟩⟩
            case measure => simp [intOf]; omega
          · have hz := List.getElem?_eq_getElem (show cc < ys.length by omega)
            have hy := List.getElem?_eq_getElem h3
            generalize ys[cc] = z at hz
            generalize ys[c1] = y at hy
            obtain ⟨j0, j1⟩ := (HO.out.hp.below HBW.out).item2 hyl hz
            obtain ⟨k0, k1⟩ := (HO.out.hp.below HBW.out).item2 hyl hy
            have HZ := Lib.hid hz
            have HY := Lib.hid hy
            have gB : decide ((c1 : Int) < 0) = false := decide_eq_false (by omega)
            have hc1 : c1 < c := by omega
            have hc1s : c1 < s := by omega
            have HB1 : Hid (Below wr.heap.size wr wr.drew) := Lib.hid (Below.refl _ _).drew
            clear hcc h1 h2 h3 h4 hz hy
            by_cases hl : lessI z y
            · have HLS := Lib.hid hl
              clear hl
              go_wp2_with fail
              rw [HCI.out]
              go_region_held3 (fun w' => w'.cell? ⟨b, 0, none⟩ = some (.slice (some ⟨g, 0, none⟩) s c) ∧ w'.cell? ⟨g, cc * 2, none⟩ = some (.int .u64 z.1) ∧ w'.cell? ⟨g, cc * 2 + 1, none⟩ = some (.int .u32 (z.2 : Int)) ∧ w'.cell? ⟨g, c1 * 2, none⟩ = some (.int .u64 y.1) ∧ w'.cell? ⟨g, c1 * 2 + 1, none⟩ = some (.int .u32 (y.2 : Int))) (first | exact ⟨d0, j0, j1, k0, k1⟩) (first
            | (go_at_call 70; refine (less_any z y _).mono ?_; rintro e w5 ⟨⟨r, rfl, hr⟩, hb5⟩; obtain rfl : r = true := hr.2 HLS.out; have HB5 := Lib.hid (HB1.out.trans hb5); have d0 := cell_below hb5 d0; have j0 := cell_below hb5 j0; have j1 := cell_below hb5 j1; have k0 := cell_below hb5 k0; have k1 := cell_below hb5 k1; clear hb5 hr))
              go_wp2_with fail
              go_roundw
              case rel => exact ⟨k + 1, by omega, by go_num, by rw [← HCC.out]; exact best_less HBE.out (by rw [HCC.out]; exact HZ.out) HY.out HLS.out, HBW.out.trans (HB5.out.mono HBW.out.size)⟩
              case measure => simp [intOf]; omega
            · have HLS := Lib.hid hl
              clear hl
              go_wp2_with fail
              rw [HCI.out]
              go_region_held3 (fun w' => w'.cell? ⟨b, 0, none⟩ = some (.slice (some ⟨g, 0, none⟩) s c) ∧ w'.cell? ⟨g, cc * 2, none⟩ = some (.int .u64 z.1) ∧ w'.cell? ⟨g, cc * 2 + 1, none⟩ = some (.int .u32 (z.2 : Int)) ∧ w'.cell? ⟨g, c1 * 2, none⟩ = some (.int .u64 y.1) ∧ w'.cell? ⟨g, c1 * 2 + 1, none⟩ = some (.int .u32 (y.2 : Int))) (first | exact ⟨d0, j0, j1, k0, k1⟩) (first
            | (go_at_call 70; refine (less_any z y _).mono ?_; rintro e w5 ⟨⟨r, rfl, hr⟩, hb5⟩; obtain rfl : r = false := Bool.eq_false_iff.2 (fun h => HLS.out (hr.1 h)); have HB5 := Lib.hid (HB1.out.trans hb5); have d0 := cell_below hb5 d0; have j0 := cell_below hb5 j0; have j1 := cell_below hb5 j1; have k0 := cell_below hb5 k0; have k1 := cell_below hb5 k1; clear hb5 hr))
              go_wp2_with fail
              go_roundw
              case rel => exact ⟨k + 1, by omega, by go_num, best_same HBE.out (by rw [HCC.out]; exact HZ.out) HY.out HLS.out, HBW.out.trans (HB5.out.mono HBW.out.size)⟩
              case measure => simp [intOf]; omega
        · have gA : decide (cc < s) = false := decide_eq_false hin
          have gA' : decide ((cc : Int) < (s : Int)) = false := decide_eq_false (by omega)
          clear hcc
          go_wp2_with fail
          rw [HCI.out]
          go_wp2_with (go_quiet (fail))
          go_roundw
          case rel => exact ⟨k + 1, by omega, by go_num, best_beyond HBE.out (by rw [HCC.out, hyl]; omega), HBW.out.trans ⟨rfl, rfl, rfl, Nat.le_refl _, fun _ _ => rfl⟩⟩
          case measure => simp [intOf]; omega
      · obtain rfl : k = 4 := by omega
        have b0 : wr.cell? ⟨w.heap.size, 0, none⟩ = some (.int .u64 x.1) := (HX2.out.below HBW.out).cell 0
        have b1 : wr.cell? ⟨w.heap.size, 1, none⟩ = some (.int .u32 (x.2 : Int)) := (HX2.out.below HBW.out).cell 1
        rcases HBE.out with ⟨rfl, hno⟩ | ⟨c1, rfl, h1, h2, h3, h4⟩
        · have HD : Hid (HeapL (ys.set q x)) := Lib.hid (down_stop HA2.out HO.out.at_ (fun j y hj hp hy => by
            have hl := lt_of_get hy
            rw [List.length_set] at hl
            have hh := (par_iff hj).1 hp
            have := hno j hh.1 hh.2
            omega))
          clear hno
          go_wp2_with (go_quiet (fail))
          refine (put_any (HO.out.hp.below (show Below W1.heap.size W1 (wr.drewN nq) from HBW.out.trans ⟨rfl, rfl, rfl, Nat.le_refl _, fun _ _ => rfl⟩)) hql (by omega) x HO.out.x_lt (by rw [HO.out.leng]; exact HN2.out)).mono ?_
          rintro e w7 ⟨rfl, hp7, hk7⟩
          have HP7 := Lib.hid hp7
          have HK7 := Lib.hid ((HK.out.trans (.of_below (show Below W1.heap.size W1 (wr.drewN nq) from HBW.out.trans ⟨rfl, rfl, rfl, Nat.le_refl _, fun _ _ => rfl⟩))).trans hk7)
          clear hp7 hk7
          go_wp2_with fail
          go_end0
          exact ⟨rfl, ⟨_, _, HP7.out, HO.out.good, by rw [List.length_set]; exact HO.out.len, by rw [List.length_set]; exact HO.out.leng, HD.out⟩, HK7.out⟩
        · have hy := List.getElem?_eq_getElem h3
          generalize ys[c1] = y at hy
          obtain ⟨k0, k1⟩ := (HO.out.hp.below HBW.out).item2 hyl hy
          have HY := Lib.hid hy
          have gB : decide ((c1 : Int) < 0) = false := decide_eq_false (by omega)
          have hc1 : c1 < c := by omega
          have hc1s : c1 < s := by omega
          have HB1 : Hid (Below wr.heap.size wr wr.drew) := Lib.hid (Below.refl _ _).drew
          have HC : Hid (0 < c1 ∧ par c1 = q ∧ c1 ≠ q) := Lib.hid ⟨by omega, (par_iff (by omega)).2 ⟨h1, h2⟩, by omega⟩
          have HMIN : Hid (∀ j z, 0 < j → par j = q → (ys.set q x)[j]? = some z → leI y z) := Lib.hid (fun j z hj hp hz => by
            have hh := (par_iff hj).1 hp
            rw [HO.out.other (by omega)] at hz
            exact h4 j y z hh.1 hh.2 hy hz)
          have hqc : q < c1 := by omega
          clear h1 h2 h3 h4 hy
          by_cases hl : lessI y x
          · have HLS := Lib.hid hl
            clear hl
            go_wp2_with fail
            go_region_held3 (fun w' => w'.cell? ⟨b, 0, none⟩ = some (.slice (some ⟨g, 0, none⟩) s c) ∧ w'.cell? ⟨g, c1 * 2, none⟩ = some (.int .u64 y.1) ∧ w'.cell? ⟨g, c1 * 2 + 1, none⟩ = some (.int .u32 (y.2 : Int)) ∧ w'.cell? ⟨w.heap.size, 0, none⟩ = some (.int .u64 x.1) ∧ w'.cell? ⟨w.heap.size, 1, none⟩ = some (.int .u32 (x.2 : Int))) (first | exact ⟨d0, k0, k1, b0, b1⟩) (first
            | (go_at_call 70; refine (less_any y x _).mono ?_; rintro e w5 ⟨⟨r, rfl, hr⟩, hb5⟩; obtain rfl : r = true := hr.2 HLS.out; have HB5 := Lib.hid (HB1.out.trans hb5); have d0 := cell_below hb5 d0; have k0 := cell_below hb5 k0; have k1 := cell_below hb5 k1; have b0 := cell_below hb5 b0; have b1 := cell_below hb5 b1; clear hb5 hr))
            go_wp2_with fail
            refine (put_any (HO.out.hp.below (HBW.out.trans (HB5.out.mono HBW.out.size))) hql (by omega) y (HO.out.y_lt HC.out.2.2 HY.out) (by rw [HO.out.leng]; exact HN2.out)).mono ?_
            rintro e w6 ⟨rfl, hp6, hk6⟩
            have HP6 := Lib.hid hp6
            have HK6 := Lib.hid ((HK.out.trans (.of_below (HBW.out.trans (HB5.out.mono HBW.out.size)))).trans hk6)
            have HX6 := Lib.hid (hk6.cells (HX2.out.below (HBW.out.trans (HB5.out.mono HBW.out.size))) (fun h => by have := HBL.out _ h; omega))
            clear hp6 hk6
            go_wp2_with fail
            go_roundw
            case rel =>
              obtain ⟨ho', he'⟩ := HO.out.step HC.out.2.2 HY.out HP6.out
              refine ⟨c1, _, _, rfl, ho', ?_, HX6.out, HK6.out⟩
              rw [he']
              exact down_step HA2.out HC.out.1 HC.out.2.1 HO.out.at_ ((HO.out.other HC.out.2.2).trans HY.out) HLS.out HMIN.out
            case measure => simp [intOf]; omega
          · have HLS := Lib.hid hl
            clear hl
            have HD : Hid (HeapL (ys.set q x)) := Lib.hid (down_stop HA2.out HO.out.at_ (fun j z hj hp hz => leI_trans (leI_of_not HLS.out) (HMIN.out j z hj hp hz)))
            go_wp2_with fail
            go_region_held3 (fun w' => w'.cell? ⟨b, 0, none⟩ = some (.slice (some ⟨g, 0, none⟩) s c) ∧ w'.cell? ⟨g, c1 * 2, none⟩ = some (.int .u64 y.1) ∧ w'.cell? ⟨g, c1 * 2 + 1, none⟩ = some (.int .u32 (y.2 : Int)) ∧ w'.cell? ⟨w.heap.size, 0, none⟩ = some (.int .u64 x.1) ∧ w'.cell? ⟨w.heap.size, 1, none⟩ = some (.int .u32 (x.2 : Int))) (first | exact ⟨d0, k0, k1, b0, b1⟩) (first
            | (go_at_call 70; refine (less_any y x _).mono ?_; rintro e w5 ⟨⟨r, rfl, hr⟩, hb5⟩; obtain rfl : r = false := Bool.eq_false_iff.2 (fun h => HLS.out (hr.1 h)); have HB5 := Lib.hid (HB1.out.trans hb5); have d0 := cell_below hb5 d0; have k0 := cell_below hb5 k0; have k1 := cell_below hb5 k1; have b0 := cell_below hb5 b0; have b1 := cell_below hb5 b1; clear hb5 hr))
            go_wp2_with fail
            refine (put_any (HO.out.hp.below (HBW.out.trans (HB5.out.mono HBW.out.size))) hql (by omega) x HO.out.x_lt (by rw [HO.out.leng]; exact HN2.out)).mono ?_
            rintro e w7 ⟨rfl, hp7, hk7⟩
            have HP7 := Lib.hid hp7
            have HK7 := Lib.hid ((HK.out.trans (.of_below (HBW.out.trans (HB5.out.mono HBW.out.size)))).trans hk7)
            clear hp7 hk7
            go_wp2_with fail
            go_end0
            exact ⟨rfl, ⟨_, _, HP7.out, HO.out.good, by rw [List.length_set]; exact HO.out.len, by rw [List.length_set]; exact HO.out.leng, HD.out⟩, HK7.out⟩
end Go.Proofs.Ytkcnnamghpdplaa
