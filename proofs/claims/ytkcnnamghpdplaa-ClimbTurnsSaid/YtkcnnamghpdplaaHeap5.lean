/- A thing is set to a key; pushed. -/
import Derived.Test.YtkcnnamghpdplaaHeap4
set_option linter.unusedSimpArgs false
set_option linter.unusedVariables false
namespace Go.Proofs.Ytkcnnamghpdplaa
open Go.RowKit

theorem encI_one : ∀ x, ∀ u ∈ encI x, u.oneCell' = true := fun x u h => by
  simp at h
  rcases h with rfl | rfl <;> rfl
theorem info_item : (Try.prog.info? 133).map (fun i => (i.zero, i.size, i.bytes)) = some (some (.agg #[.int .u64 0, .int .u32 0]), 2, 16) := by kernel_rfl
section
variable {w w' : World} {B b ga : Nat} {v : Value} {xs : List It} {ps : List Nat} {m : List (Option Int)}
/-- the end of Set: up, down -/
theorem After.of_down {w1 : World} (hk : Kept (mine b ga v) w w1) {zs : List It} {rs : List Nat} (h : HP w1 B b ga v zs rs) (hg : Good zs rs m) (hh : HeapL zs) (hm : m.length ≤ 65536) : After w B b ga v m w1 :=
  ⟨v, ⟨zs, rs, h, hg, hh, hm⟩, hk, Fresh.refl _ _⟩
theorem grown_kept {v : Value} (h : w.grownBy w' v.ownBlock) (b ga : Nat) : Kept (mine b ga v) w w' :=
  ⟨h.os, h.tape, h.output, h.size, fun k hk hn => h.block k hk (fun e => hn (.inr (.inr e.symm)))⟩
/-- a zero thing behind the others, in whichever row -/
theorem HP.longer {v' : Value} {z : It} (h : HP w B b ga v xs ps) (ho : Own 133 2 encI w' B v' (xs ++ [z])) (hg : w.grownBy w' v.ownBlock) (hv : v'.ownBlock = v.ownBlock ∨ v'.ownBlock = some w.heap.size) :
    HP (w'.setCell ⟨b, 0, none⟩ v') B b ga v' (xs ++ [z]) ps := by
  have hb : v'.ownBlock ≠ some b := by
    rcases hv with e | e
    · rw [e]; exact h.vb
    · rw [e]; intro e2; have := h.blk.lt; injection e2 with e2; omega
  have hga : v'.ownBlock ≠ some ga := by
    rcases hv with e | e
    · rw [e]; exact h.vg
    · rw [e]; intro e2; have := h.row.lt; injection e2 with e2; omega
  have hblk : Cells w' b #[v, .slice (some ⟨ga, 0, none⟩) ps.length ps.length] 128 := (hg.block b h.blk.lt h.vb.symm).trans h.blk
  have hrow : Cells w' ga (atA ps) 3 := (hg.block ga h.row.lt h.vg.symm).trans h.row
  refine ⟨?_, own_far2 ho (p := ⟨b, 0, none⟩) hb _, hrow.far (k := b) 0 v' h.ne.symm, h.lb, h.lg, h.ne, hb, hga⟩
  have e := hblk.set_ 0 v'
  simpa using e
end
theorem Set_in {w : World} {B b ga : Nat} {v : Value} {m : List (Option Int)} (h : Hp w B b ga v m) {id : Nat} (hi : id < m.length) (key : Int) (hB : B ≤ w.heap.size) :
    Calls Try.prog 63 #[.pointer (some ⟨b, 0, none⟩), .int .u32 id, .int .u64 key] w fun e w' => e = .returned .nilIface ∧ After w B b ga v (m.set id (some key)) w' := by
  obtain ⟨xs, ps, hp, hg, hh, hm⟩ := h
  have hpl : ps.length ≤ 65536 := by rw [hg.len]; exact hm
  have hil : id < ps.length := by rw [hg.len]; exact hi
  have hz := List.getElem?_eq_getElem hil
  generalize ps[id] = a at hz
  have c1 : w.cell? ⟨b, 1, none⟩ = some (.slice (some ⟨ga, 0, none⟩) ps.length ps.length) := hp.blk.cell 1
  have p0 := hp.place hz
  have HPT := Lib.hid hp
  have HG := Lib.hid hg
  have HH := Lib.hid hh
  have HM := Lib.hid hm
  have HPL := Lib.hid hpl
  have C1 := Lib.hid c1
  rcases hg.bwd id a hz with ⟨rfl, hn⟩ | ⟨h0, x, hx, rfl⟩
  · -- NEW
    have HZ := Lib.hid hz
    obtain ⟨A, c, rfl, hc, hcm⟩ := hp.own.form
    have c0 : w.cell? ⟨b, 0, none⟩ = some (.slice A xs.length c) := hp.blk.cell 0
    have hsm : xs.length ≤ 65536 := Nat.le_trans hg.small hpl
    have HOWN : Hid (Own 133 2 encI (w.alloc (.cells #[.int .u64 0, .int .u32 0] 133)) B (.slice A xs.length c) xs) := Lib.hid (hp.below ((Below.refl _ _).alloc (Nat.le_refl _) _)).own
    have HP3 : Hid (HP (w.alloc (.cells #[.int .u64 0, .int .u32 0] 133)) B b ga (.slice A xs.length c) xs ps) := Lib.hid (hp.below ((Below.refl _ _).alloc (Nat.le_refl _) _))
    have HRD : Hid (Rd 2 encI (w.alloc (.cells #[.int .u64 0, .int .u32 0] 133)) (some ⟨w.heap.size, 0, none⟩) 1 [((0, 0) : It)]) := Lib.hid (rd_new encI_len w _ [((0, 0) : It)])
    have HSM := Lib.hid hsm
    have hbs := hp.blk.lt
    clear hp hg hh hm hz hn
    go_enter Try.func63, Try.ntmps63
    go_wp2_with fail
    refine (check_in C1.out HPL.out hil).mono ?_
    rintro e w2 ⟨rfl, h⟩
    obtain rfl := h.symm
    clear h
    go_wp2_with (at_builtin; go_loud (refine wpList_append_rd rfl (.tmp 34) (.tmp 36) 126 rfl 133 (.agg #[.int .u64 0, .int .u32 0]) 16 Try.underlying126 info_item rfl (by omega) (by omega) encI_len encI_one B (.slice A xs.length c) xs rfl HOWN.out _ 1 1 [((0, 0) : It)] rfl HRD.out (by have := HSM.out; omega) (by simp; omega) ?_; intro v2 w2 ho2 hg2 hat2; have HP4 := Lib.hid (HP3.out.longer ho2 hg2 hat2); have HK4 : Hid (Kept (mine b ga (.slice A xs.length c)) w w2) := Lib.hid (((Kept.refl _ w).alloc _).trans (grown_kept hg2 b ga)); have HF4 : Hid (Fresh w (.slice A xs.length c) v2) := Lib.hid (fun k hk => by rcases hat2 with e | e; exact .inl (by rw [← e]; exact hk); exact .inr (by rw [e] at hk; injection hk with hk; rw [← hk]; simp)); have q0 : w2.cell? ⟨b, 0, none⟩ = some (.slice A xs.length c) := (World.cell?_of_block (hg2.block b HP3.out.blk.lt HP3.out.vb.symm)).trans (HP3.out.blk.cell 0); have q1 : w2.frozen? ⟨b, 0, none⟩ = false := (World.frozen?_of_block (hg2.block b HP3.out.blk.lt HP3.out.vb.symm)).trans (HP3.out.blk.frozen 0); obtain ⟨A2, c2, rfl, hc2, hm2⟩ := ho2.form; clear ho2 hg2 hat2))
    have hel : (xs ++ [((0, 0) : It)]).length = xs.length + 1 := by simp
    rw [hel] at HP4 HF4
    have HG5 := Lib.hid (good_push HG.out HZ.out key)
    have HSM2 : Hid (xs.length + 1 ≤ 65536) := Lib.hid (by have e := HG5.out.small; rw [List.length_append, List.length_set, List.length_singleton] at e; have := HPL.out; omega)
    refine (put_any HP4.out (i := xs.length) (by rw [hel]; omega) (by rw [hel]; exact HSM2.out) ((key, id) : It) hil HPL.out).mono ?_
    rintro e w5 ⟨rfl, hp5, hk5⟩
    have hes : (xs ++ [((0, 0) : It)]).set xs.length (key, id) = xs ++ [(key, id)] := by rw [List.set_append_right _ _ (Nat.le_refl _), Nat.sub_self]; rfl
    rw [hes] at hp5
    have HP5 := Lib.hid hp5
    have HS4 : Hid (∀ k, mine b ga (.slice A2 (xs.length + 1) c2) k → mine b ga (.slice A xs.length c) k ∨ w.heap.size ≤ k) := Lib.hid (fun k hk => by
      rcases hk with rfl | rfl | hk
      · exact .inl (.inl rfl)
      · exact .inl (.inr (.inl rfl))
      · exact (HF4.out k hk).imp (fun h => .inr (.inr h)) (fun h => h))
    have HK5 := Lib.hid ((HK4.out.set_ (p := ⟨b, 0, none⟩) (.inl (.inl rfl)) (.slice A2 (xs.length + 1) c2)).trans2 hk5 HS4.out)
    have HA5 := Lib.hid (heap_push HH.out ((key, id) : It))
    have HPL5 : Hid ((ps.set id (xs.length + 1)).length ≤ 65536) := Lib.hid (by rw [List.length_set]; exact HPL.out)
    have HS5 := HS4
    have HF5 := HF4
    clear hp5 hk5 hes hel
    have HX5 := Lib.hid (show (xs ++ [((key, id) : It)])[xs.length]? = some ((key, id) : It) from (by rw [List.getElem?_append_right (Nat.le_refl _), Nat.sub_self]; rfl))
    have HPM : Hid ((m.set id (some key)).length ≤ 65536) := Lib.hid (by rw [List.length_set]; exact HM.out)
    go_wp2_with fail
    refine (up_any HP5.out HG5.out HPL5.out HA5.out HX5.out).mono ?_
    rintro e w6 ⟨rfl, ⟨zs, rs, j, hp6, hg6, hzl, hrl, hzj, hdi⟩, hk6⟩
    have HP6 := Lib.hid hp6
    have HG6 := Lib.hid hg6
    have HK6 := Lib.hid (HK5.out.trans2 hk6 HS5.out)
    have HZJ := Lib.hid hzj
    have HDI := Lib.hid hdi
    have r0 := hp6.place (hg6.fwd j _ hzj).1
    have r1 : w6.cell? ⟨b, 1, none⟩ = some (.slice (some ⟨ga, 0, none⟩) rs.length rs.length) := hp6.blk.cell 1
    have hrid : id < rs.length := lt_of_get (hg6.fwd j _ hzj).1
    have HRL : Hid (rs.length ≤ 65536) := Lib.hid (by rw [hrl]; exact HPL5.out)
    have hjz : j ≤ 65536 := by have := lt_of_get hzj; have := hg6.small; have := HRL.out; omega
    clear hp6 hg6 hzl hrl hzj hdi hk6
    dsimp only at r0
    have hw1 : IntKind.i64.wrap (((j + 1 : Nat) : Int) - 1) = (j : Int) := by rw [IntKind.wrap_i64]; omega
    have hw2 : IntKind.i64.wrap ((j : Int) + 1 - 1) = (j : Int) := by rw [IntKind.wrap_i64]; omega
    go_wp2_with fail
    refine (down_any HP6.out HG6.out HRL.out HDI.out HZJ.out).mono ?_
    rintro e w7 ⟨rfl, ⟨zs', rs', hp7, hg7, hzl7, hrl7, hh7⟩, hk7⟩
    have HAF : Hid (After w B b ga (.slice A xs.length c) (m.set id (some key)) w7) := Lib.hid ⟨_, ⟨zs', rs', hp7, hg7, hh7, HPM.out⟩, HK6.out.trans2 hk7 HS5.out, HF5.out⟩
    clear hp7 hg7 hzl7 hrl7 hh7 hk7
    go_wp2_with fail
    go_ret
    exact ⟨rfl, HAF.out⟩
  · -- THERE
    obtain ⟨g, c, rfl, hc, hbg, hgg, hgs⟩ := hp.slice (lt_of_get hx)
    obtain ⟨i, rfl⟩ : ∃ i, a = i + 1 := ⟨a - 1, by omega⟩
    rw [Nat.add_sub_cancel] at hx
    obtain ⟨k0, id⟩ := x
    dsimp only at *
    have HX := Lib.hid hx
    have hsm : xs.length ≤ 65536 := Nat.le_trans hg.small hpl
    have hil2 := lt_of_get hx
    clear hp hg hh hm hx hbg hgg h0
    have hw1 : IntKind.i64.wrap (((i + 1 : Nat) : Int) - 1) = (i : Int) := by rw [IntKind.wrap_i64]; omega
    go_enter Try.func63, Try.ntmps63
    go_wp2_with fail
    refine (check_in C1.out HPL.out hil).mono ?_
    rintro e w2 ⟨rfl, h⟩
    obtain rfl := h.symm
    clear h
    go_wp2_with fail
    refine (put_any HPT.out (i := i) hil2 hsm ((key, id) : It) hil HPL.out).mono ?_
    rintro e w5 ⟨rfl, hp5, hk5⟩
    rw [set_self hz] at hp5
    have HP5 := Lib.hid hp5
    have HK5 := Lib.hid hk5
    have HG5 := Lib.hid (good_set HG.out HX.out key)
    have HA5 := Lib.hid (heap_set HH.out hil2 ((key, id) : It))
    have HPL5 := HPL
    have HS5 : Hid (∀ k, mine b ga (.slice (some ⟨g, 0, none⟩) xs.length c) k → mine b ga (.slice (some ⟨g, 0, none⟩) xs.length c) k ∨ w.heap.size ≤ k) := Lib.hid (fun k hk => .inl hk)
    have HF5 : Hid (Fresh w (.slice (some ⟨g, 0, none⟩) xs.length c) (.slice (some ⟨g, 0, none⟩) xs.length c)) := Lib.hid (Fresh.refl _ _)
    clear hp5 hk5 hw1
    have HX5 := Lib.hid (show (xs.set i ((key, id) : It))[i]? = some ((key, id) : It) from (by rw [get_set _ hil2, if_pos rfl]))
    have HPM : Hid ((m.set id (some key)).length ≤ 65536) := Lib.hid (by rw [List.length_set]; exact HM.out)
    go_wp2_with fail
    refine (up_any HP5.out HG5.out HPL5.out HA5.out HX5.out).mono ?_
    rintro e w6 ⟨rfl, ⟨zs, rs, j, hp6, hg6, hzl, hrl, hzj, hdi⟩, hk6⟩
    have HP6 := Lib.hid hp6
    have HG6 := Lib.hid hg6
    have HK6 := Lib.hid (HK5.out.trans2 hk6 HS5.out)
    have HZJ := Lib.hid hzj
    have HDI := Lib.hid hdi
    have r0 := hp6.place (hg6.fwd j _ hzj).1
    have r1 : w6.cell? ⟨b, 1, none⟩ = some (.slice (some ⟨ga, 0, none⟩) rs.length rs.length) := hp6.blk.cell 1
    have hrid : id < rs.length := lt_of_get (hg6.fwd j _ hzj).1
    have HRL : Hid (rs.length ≤ 65536) := Lib.hid (by rw [hrl]; exact HPL5.out)
    have hjz : j ≤ 65536 := by have := lt_of_get hzj; have := hg6.small; have := HRL.out; omega
    clear hp6 hg6 hzl hrl hzj hdi hk6
    dsimp only at r0
    have hw1 : IntKind.i64.wrap (((j + 1 : Nat) : Int) - 1) = (j : Int) := by rw [IntKind.wrap_i64]; omega
    have hw2 : IntKind.i64.wrap ((j : Int) + 1 - 1) = (j : Int) := by rw [IntKind.wrap_i64]; omega
    go_wp2_with fail
    refine (down_any HP6.out HG6.out HRL.out HDI.out HZJ.out).mono ?_
    rintro e w7 ⟨rfl, ⟨zs', rs', hp7, hg7, hzl7, hrl7, hh7⟩, hk7⟩
    have HAF : Hid (After w B b ga (.slice (some ⟨g, 0, none⟩) xs.length c) (m.set id (some key)) w7) := Lib.hid ⟨_, ⟨zs', rs', hp7, hg7, hh7, HPM.out⟩, HK6.out.trans2 hk7 HS5.out, HF5.out⟩
    clear hp7 hg7 hzl7 hrl7 hh7 hk7
    go_wp2_with fail
    go_ret
    exact ⟨rfl, HAF.out⟩
end Go.Proofs.Ytkcnnamghpdplaa
