/- Removed, popped; a new heap. -/
import Derived.Test.YtkcnnamghpdplaaHeap6
import Derived.StillTailTactics
set_option linter.unusedSimpArgs false
set_option linter.unusedVariables false
namespace Go.Proofs.Ytkcnnamghpdplaa
open Go.RowKit

theorem set_none {m : List (Option Int)} {id : Nat} (h : lookH m id = none) : m.set id none = m := by
  by_cases hi : id < m.length
  · refine set_self ?_
    unfold lookH at h
    rw [List.getD_eq_getElem?_getD, List.getElem?_eq_getElem hi] at h
    rw [List.getElem?_eq_getElem hi]
    exact congrArg some h
  · exact List.set_eq_of_length_le (by omega)
section
variable {w : World} {B b ga : Nat} {v : Value} {m : List (Option Int)}
theorem Remove_none (h : Hp w B b ga v m) (id : Nat) (h1 : id ≤ 4294967295) (hl : lookH m id = none) :
    Calls Try.prog 65 #[.pointer (some ⟨b, 0, none⟩), .int .u32 id] w fun e w' => e = .returned (.bool false) ∧ Drawn w w' := by
  have HH := Lib.hid h
  have HL := Lib.hid hl
  clear h hl
  go_enter Try.func65, Try.ntmps65
  go_wp2_with fail
  refine (Key_any HH.out id h1).mono ?_
  rintro e w2 ⟨rfl, hd⟩
  rw [HL.out]
  simp only [gotH]
  have HD := Lib.hid hd
  clear hd
  go_wp2_with fail
  go_ret
  exact ⟨rfl, HD.out⟩
set_option maxRecDepth 100000 in
set_option maxHeartbeats 4000000 in
theorem Remove_some (h : Hp w B b ga v m) (id : Nat) (h1 : id ≤ 4294967295) {old : Int} (hl : lookH m id = some old) :
    Calls Try.prog 65 #[.pointer (some ⟨b, 0, none⟩), .int .u32 id] w fun e w' => e = .returned (.bool true) ∧ After w B b ga v (m.set id none) w' := by
  have HH := Lib.hid h
  obtain ⟨xs, ps, hp, hg, hh, hm⟩ := h
  obtain ⟨i, hx⟩ := hg.look hl
  have hil := lt_of_get hx
  obtain ⟨g, c, rfl, hc, hbg, hgg, hgs⟩ := hp.slice hil
  have HL := Lib.hid hl
  have hpl : ps.length ≤ 65536 := by rw [hg.len]; exact hm
  have hsm : xs.length ≤ 65536 := Nat.le_trans hg.small hpl
  have HP0 := Lib.hid hp
  have HG := Lib.hid hg
  have HHE := Lib.hid hh
  have HX := Lib.hid hx
  have HPL := Lib.hid hpl
  have hidl : id < ps.length := hg.id_lt hx
  have HID := Lib.hid hidl
  have hps := (hg.fwd i _ hx).1
  have HPS := Lib.hid hps
  obtain ⟨n, hn⟩ : ∃ n, xs.length = n + 1 := ⟨xs.length - 1, by omega⟩
  have HN := Lib.hid hn
  have hy := List.getElem?_eq_getElem (show n < xs.length by omega)
  generalize xs[n] = y at hy
  have HY := Lib.hid hy
  have hbs := hp.blk.lt
  have hgas := hp.row.lt
  clear hp hg hh hm hx hl hy hps
  go_enter Try.func65, Try.ntmps65
  go_wp2_with fail
  refine (Key_any HH.out id h1).mono ?_
  rintro e w2 ⟨rfl, hd⟩
  rw [HL.out]
  simp only [gotH]
  have HD := Lib.hid hd
  have HP2 := Lib.hid (HP0.out.below (hd.below _))
  have hbs2 : b < w2.heap.size := HP2.out.blk.lt
  have hgas2 : ga < w2.heap.size := HP2.out.row.lt
  have hgs2 : g < w2.heap.size := Nat.lt_of_lt_of_le hgs (hd.below w.heap.size).size
  have c0 : w2.cell? ⟨b, 0, none⟩ = some (.slice (some ⟨g, 0, none⟩) xs.length c) := HP2.out.blk.cell 0
  have c1 : w2.cell? ⟨b, 1, none⟩ = some (.slice (some ⟨ga, 0, none⟩) ps.length ps.length) := HP2.out.blk.cell 1
  have bf : w2.frozen? ⟨b, 0, none⟩ = false := HP2.out.blk.frozen 0
  have p0 : w2.cell? ⟨ga, id, none⟩ = some (.int .i64 ((i + 1 : Nat) : Int)) := HP2.out.place HPS.out
  have pf : w2.frozen? ⟨ga, id, none⟩ = false := HP2.out.row.frozen id
  obtain ⟨i0, i1⟩ := HP2.out.item HY.out
  clear hd
  rw [hn] at c0 hc hsm hil
  clear hn
  generalize hpn : ps.length = pn at *
  have HPN := Lib.hid hpn
  clear hpn
  have n1 : ¬ b = ga := HP2.out.ne
  have n2 : ¬ ga = b := fun e => HP2.out.ne e.symm
  have n3 : ¬ b = g := hbg
  have n4 : ¬ g = b := fun e => hbg e.symm
  have n5 : ¬ ga = g := hgg
  have n6 : ¬ g = ga := fun e => hgg e.symm
  clear hbg hgg
  have hw1 : IntKind.i64.wrap (((i + 1 : Nat) : Int) - 1) = (i : Int) := by rw [IntKind.wrap_i64]; omega
  have hw2 : IntKind.i64.wrap ((i : Int) + 1 - 1) = (i : Int) := by rw [IntKind.wrap_i64]; omega
  have hw3 : IntKind.i64.wrap (((n + 1 : Nat) : Int) - 1) = (n : Int) := by rw [IntKind.wrap_i64]; omega
  have hw4 : IntKind.i64.wrap ((n : Int) + 1 - 1) = (n : Int) := by rw [IntKind.wrap_i64]; omega
  go_wp2_with fail
  go_quiet (fail)
  have HB3 : Hid (Below w2.heap.size w2 (w2.drewN nq)) := Lib.hid ⟨rfl, rfl, rfl, Nat.le_refl _, fun _ _ => rfl⟩
  generalize w2.drewN nq = w3 at *
  have HP3 := Lib.hid (HP2.out.below HB3.out)
  have HKK : Hid (Kept (mine b ga (.slice (some ⟨g, 0, none⟩) xs.length c)) w w3) := Lib.hid ((Kept.of_below (HD.out.below _)).trans (.of_below HB3.out))
  clear c0 c1 p0 pf bf i0 i1 hbs2 hgas2 hgs2 hw1 hw2 hw3 hw4
  have hbs3 : b < w3.heap.size := HP3.out.blk.lt
  have hgas3 : ga < w3.heap.size := HP3.out.row.lt
  have hgs3 : g < w3.heap.size := Nat.lt_of_lt_of_le hgs HKK.out.size
  have c0 : w3.cell? ⟨b, 0, none⟩ = some (.slice (some ⟨g, 0, none⟩) (n + 1) c) := by have e := HP3.out.blk.cell 0; rw [HN.out] at e; exact e
  have c1 : w3.cell? ⟨b, 1, none⟩ = some (.slice (some ⟨ga, 0, none⟩) pn pn) := by have e := HP3.out.blk.cell 1; rw [HPN.out] at e; exact e
  have bf : w3.frozen? ⟨b, 0, none⟩ = false := HP3.out.blk.frozen 0
  have p0 : w3.cell? ⟨ga, id, none⟩ = some (.int .i64 ((i + 1 : Nat) : Int)) := HP3.out.place HPS.out
  have pf : w3.frozen? ⟨ga, id, none⟩ = false := HP3.out.row.frozen id
  obtain ⟨i0, i1⟩ := HP3.out.item HY.out
  by_cases hin : i < n
  · have g1 : decide (i < n) = true := decide_eq_true hin
    have g2 : decide ((i : Int) < (n : Int)) = true := decide_eq_true (by omega)
    go_wp2_with fail
    have hnl : n ≤ xs.length := by rw [HN.out]; omega
    have htl : (xs.take n).length = n := by rw [List.length_take]; omega
    have hyl : y.2 < ps.length := HG.out.id_lt HY.out
    have HP4 := Lib.hid ((HP3.out.shorter hnl id).below ((Below.refl _ _).alloc (Nat.le_refl _) (.cells #[.int .u64 y.1, .int .u32 (y.2 : Int)] 133)))
    have HX4 : Hid (Cells (((w3.setCell ⟨b, 0, none⟩ (.slice (some ⟨g, 0, none⟩) n c)).setCell ⟨ga, id, none⟩ (.int .i64 0)).alloc (.cells #[.int .u64 y.1, .int .u32 (y.2 : Int)] 133)) w3.heap.size #[.int .u64 y.1, .int .u32 (y.2 : Int)] 133) := Lib.hid (by
      have e := cells_new ((w3.setCell ⟨b, 0, none⟩ (.slice (some ⟨g, 0, none⟩) n c)).setCell ⟨ga, id, none⟩ (.int .i64 0)) #[.int .u64 y.1, .int .u32 (y.2 : Int)] 133
      rwa [show ((w3.setCell ⟨b, 0, none⟩ (.slice (some ⟨g, 0, none⟩) n c)).setCell ⟨ga, id, none⟩ (.int .i64 0)).heap.size = w3.heap.size by simp] at e)
    have HK4 : Hid (Kept (mine b ga (.slice (some ⟨g, 0, none⟩) xs.length c)) w (((w3.setCell ⟨b, 0, none⟩ (.slice (some ⟨g, 0, none⟩) n c)).setCell ⟨ga, id, none⟩ (.int .i64 0)).alloc (.cells #[.int .u64 y.1, .int .u32 (y.2 : Int)] 133))) := Lib.hid (((HKK.out.set_ (p := ⟨b, 0, none⟩) (.inl (.inl rfl)) _).set_ (p := ⟨ga, id, none⟩) (.inl (.inr (.inl rfl))) _).alloc _)
    have HSS : Hid (∀ k, mine b ga (.slice (some ⟨g, 0, none⟩) n c) k → mine b ga (.slice (some ⟨g, 0, none⟩) xs.length c) k ∨ w.heap.size ≤ k) := Lib.hid (fun k hk => .inl hk)
    have HNM : Hid (¬ mine b ga (.slice (some ⟨g, 0, none⟩) n c) w3.heap.size) := Lib.hid (fun hk => by
      rcases hk with e | e | e
      · omega
      · omega
      · exact absurd (Option.some.inj e) (by show ¬ g = w3.heap.size; omega))
    have HGM := Lib.hid (good_mid HG.out HN.out hin HX.out HY.out)
    have HAL := Lib.hid (heap_set (heap_take HHE.out n) (show i < (xs.take n).length by omega) y)
    have HZI : Hid (((xs.take n).set i y)[i]? = some y) := Lib.hid (by rw [get_set _ (by omega), if_pos rfl])
    refine (put_any HP4.out (i := i) (by omega) (by omega) y (by rw [List.length_set]; exact hyl) (by rw [List.length_set, HPN.out]; exact hpl)).mono ?_
    rintro e w5 ⟨rfl, hp5, hk5⟩
    have HP5 := Lib.hid hp5
    have HK5 := Lib.hid (HK4.out.trans2 hk5 HSS.out)
    have HX5 := Lib.hid (hk5.cells HX4.out HNM.out)
    clear hp5 hk5
    have HPL5 : Hid (((ps.set id 0).set y.2 (i + 1)).length ≤ 65536) := Lib.hid (by rw [List.length_set, List.length_set, HPN.out]; exact hpl)
    go_wp2_with fail
    refine (up_any HP5.out HGM.out HPL5.out HAL.out HZI.out).mono ?_
    rintro e w6 ⟨rfl, ⟨zs, rs, j, hp6, hg6, hzl, hrl, hzj, hdi⟩, hk6⟩
    have HP6 := Lib.hid (hp6.below (Below.refl _ _).drew)
    have HG6 := Lib.hid hg6
    have HK6 := Lib.hid ((HK5.out.trans2 hk6 HSS.out).trans (.of_below (Below.refl _ _).drew))
    have HZJ := Lib.hid hzj
    have HDI := Lib.hid hdi
    have r0 : w6.cell? ⟨ga, y.2, none⟩ = some (.int .i64 ((j : Int) + 1)) := hp6.place (hg6.fwd j _ hzj).1
    have r1 : w6.cell? ⟨b, 1, none⟩ = some (.slice (some ⟨ga, 0, none⟩) rs.length rs.length) := hp6.blk.cell 1
    have r2 : w6.cell? ⟨w3.heap.size, 1, none⟩ = some (.int .u32 (y.2 : Int)) := (hk6.cells HX5.out HNM.out).cell 1
    have hrid : y.2 < rs.length := lt_of_get (hg6.fwd j _ hzj).1
    have HRL : Hid (rs.length ≤ 65536) := Lib.hid (by rw [hrl]; exact HPL5.out)
    have hjz : j ≤ 65536 := by have := lt_of_get hzj; have := hg6.small; have := HRL.out; omega
    have hrl2 := HRL.out
    have HPM : Hid ((m.set id none).length ≤ 65536) := Lib.hid (by rw [← hg6.len]; exact HRL.out)
    clear hp6 hg6 hzl hrl hzj hdi hk6 hnl htl hyl
    have hw1 : IntKind.i64.wrap (((j + 1 : Nat) : Int) - 1) = (j : Int) := by rw [IntKind.wrap_i64]; omega
    have hw2 : IntKind.i64.wrap ((j : Int) + 1 - 1) = (j : Int) := by rw [IntKind.wrap_i64]; omega
    go_wp2_with fail
    clear i0 i1 c0 c1 bf p0 pf n1 n2 n3 n4 n5 n6 g1 g2 hbs hgas hbs3 hgas3 hgs3 hgs
    go_still_tail 10, (by kernel_rfl)
    change wpList _ _ _ _ _ w6.drew
    generalize w6.drew = w7 at *
    clear r0 r1 r2 hw1 hw2
    go_wp2_with fail
    refine (down_any HP6.out HG6.out HRL.out HDI.out HZJ.out).mono ?_
    rintro e w8 ⟨rfl, ⟨zs', rs', hp7, hg7, hzl7, hrl7, hh7⟩, hk7⟩
    have HAF : Hid (After w B b ga (.slice (some ⟨g, 0, none⟩) xs.length c) (m.set id none) w8) := Lib.hid ⟨_, ⟨zs', rs', hp7, hg7, hh7, HPM.out⟩, HK6.out.trans2 hk7 HSS.out, fun k hk => .inl hk⟩
    clear hp7 hg7 hzl7 hrl7 hh7 hk7
    go_wp2_with fail
    go_ret
    exact ⟨rfl, HAF.out⟩
  · obtain rfl : i = n := by omega
    have hyx : y = (old, id) := Option.some.inj (HY.out.symm.trans HX.out)
    subst hyx
    have g1 : decide (i < i) = false := decide_eq_false hin
    have g2 : decide ((i : Int) < (i : Int)) = false := decide_eq_false (by omega)
    have hnl : i ≤ xs.length := by rw [HN.out]; omega
    have HP4 := Lib.hid ((HP3.out.shorter hnl id).below ((Below.refl _ _).alloc (Nat.le_refl _) (.cells #[.int .u64 old, .int .u32 (id : Int)] 133)))
    have HK4 : Hid (Kept (mine b ga (.slice (some ⟨g, 0, none⟩) xs.length c)) w (((w3.setCell ⟨b, 0, none⟩ (.slice (some ⟨g, 0, none⟩) i c)).setCell ⟨ga, id, none⟩ (.int .i64 0)).alloc (.cells #[.int .u64 old, .int .u32 (id : Int)] 133))) := Lib.hid (((HKK.out.set_ (p := ⟨b, 0, none⟩) (.inl (.inl rfl)) _).set_ (p := ⟨ga, id, none⟩) (.inl (.inr (.inl rfl))) _).alloc _)
    have HGM := Lib.hid (good_last HG.out HN.out HX.out)
    have HPM : Hid ((m.set id none).length ≤ 65536) := Lib.hid (by rw [List.length_set, ← HG.out.len, HPN.out]; exact hpl)
    have HAF : Hid (After w B b ga (.slice (some ⟨g, 0, none⟩) xs.length c) (m.set id none) (((w3.setCell ⟨b, 0, none⟩ (.slice (some ⟨g, 0, none⟩) i c)).setCell ⟨ga, id, none⟩ (.int .i64 0)).alloc (.cells #[.int .u64 old, .int .u32 (id : Int)] 133))) := Lib.hid ⟨_, ⟨_, _, HP4.out, HGM.out, heap_take HHE.out i, HPM.out⟩, HK4.out, fun k hk => .inl hk⟩
    dsimp only at i0 i1
    clear hin hnl
    go_wp2_with fail
    go_ret
    exact ⟨rfl, HAF.out⟩
/-- what is left when the least thing goes -/
def popM (m : List (Option Int)) : Option It → List (Option Int)
  | none => m
  | some x => m.set x.2 none
theorem popM_len (m : List (Option Int)) (r : Option It) : (popM m r).length = m.length := by cases r <;> simp [popM]
theorem Pop_any (h : Hp w B b ga v m) :
    Calls Try.prog 54 #[.pointer (some ⟨b, 0, none⟩)] w fun e w' => ∃ r, (e = .returned (topV r) ∧ IsTop m r) ∧ After w B b ga v (popM m r) w' := by
  have HH := Lib.hid h
  have hlen : m.length ≤ 65536 := by obtain ⟨xs, ps, hp, hg, hh, hm⟩ := h; exact hm
  clear h
  go_enter Try.func54, Try.ntmps54
  go_wp2_with fail
  refine (Top_any HH.out).mono ?_
  rintro e w2 ⟨⟨r, rfl, ht⟩, hd⟩
  have HT := Lib.hid ht
  have HD := Lib.hid hd
  have HH2 := Lib.hid (HH.out.below (hd.below _))
  clear ht hd
  cases r with
  | none =>
    simp only [topV]
    go_wp2_with fail
    go_ret3
    exact ⟨none, ⟨rfl, HT.out⟩, v, HH2.out, .of_below (HD.out.below _), Fresh.refl _ _⟩
  | some x =>
    simp only [topV]
    have hxl : x.2 ≤ 4294967295 := by have := look_lt HT.out.1; omega
    go_wp2_with fail
    refine (Remove_some HH2.out x.2 hxl HT.out.1).mono ?_
    rintro e w3 ⟨rfl, v', h3, hk3, hf3⟩
    have HA : Hid (After w B b ga v (m.set x.2 none) w3) := Lib.hid ⟨v', h3, (Kept.of_below (HD.out.below _)).trans hk3, fun k hk => (hf3 k hk).imp (fun x => x) (fun x => Nat.le_trans (HD.out.below w.heap.size).size x)⟩
    clear h3 hk3 hf3
    go_wp2_with fail
    go_ret3
    exact ⟨some x, ⟨rfl, HT.out⟩, HA.out⟩
end
end Go.Proofs.Ytkcnnamghpdplaa
