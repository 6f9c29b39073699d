/- Check; Up and Down of the program: what they answer. (Printed by gen_updown.py.) -/
import Derived.Test.YtkcnnamghpdplaaDoorCl24
set_option linter.unusedSimpArgs false
set_option linter.unusedVariables false
namespace Go.Proofs.YtkcnnamghpdplaaDoor
open Go.RowKit

theorem Ends_any (k : HV) (h : HierT) (W : World) (hp : RdH W k h) (hs : Small k h) (hin : InH h) : Calls Tryd.prog 45 #[hierV k h] W (EndsIs h W) :=
  callsIn_wide.1 (ends_in 4 (Nat.le_refl _) k h W hp hs hin)
set_option maxRecDepth 100000 in
theorem Check_any (k : HV) (h : HierT) (W : World) (hp : RdH W k h) (hs : Small k h) (hin : InH h) : Calls Tryd.prog 28 #[hierV k h] W (ErrProg (chkB h) W) := by
  have hb1 := (Below.refl W.heap.size W).alloc (Nat.le_refl _) (.cells #[.slice k.a0 h.node.length k.c0, .slice k.a1 h.uf.length k.c1, .slice k.a2 h.up.length k.c2, .slice k.a3 h.df.length k.c3, .slice k.a4 h.dn.length k.c4] 25)
  have HB1 := Lib.hid hb1
  have HE := Lib.hid (Ends_any k h _ (hp.below hb1) hs hin)
  clear hp hs hin hb1
  unfold hierV at *
  go_enter Tryd.func28, Tryd.ntmps28
  go_wp2_with fail
  refine HE.out.mono ?_
  rintro e w2 ⟨hb, he⟩
  have HB2 := Lib.hid (HB1.out.trans (hb.mono HB1.out.size))
  cases hch : chkB h with
  | none =>
    rw [hch] at he
    obtain ⟨A, c, rfl, -⟩ := he
    have HEND : Hid (ErrProg (chkB h) W (.returned .nilIface) w2) := Lib.hid (by rw [hch]; exact ⟨HB2.out, rfl⟩)
    clear hb hch
    go_wp2_with fail
    go_ret
    exact HEND.out
  | some b =>
    rw [hch] at he
    obtain ⟨v, rfl, he⟩ := he
    have he' := he.mono HB1.out
    obtain ⟨t, x, ht, hv⟩ := he'.iface
    obtain rfl := Ending.returned.inj hv
    have HEND : Hid (ErrProg (chkB h) W (.returned (.iface t x)) w2) := Lib.hid (by rw [hch]; exact he')
    clear hb hch he he' hv ht
    go_wp2_with fail
    go_ret
    exact HEND.out
def upBug (h : HierT) (s : Int) : Bug := match chkB h with
  | some b => some b
  | none => if s < 0 ∨ (h.node.length : Int) ≤ s then some (7, none) else none
def ClimbRes (bug : Bug) (n : Nat) (S S' : Nat → List Lk) (s : Nat) (W : World) (e : Ending) (w' : World) : Prop := match bug with
  | some b => ∃ v, e = .returned (.tuple #[.slice none 0 0, v]) ∧ ErrProg (some b) W (.returned v) w'
  | none => ClimbIs n S S' s W e w'
set_option maxRecDepth 100000 in
set_option maxHeartbeats 2000000 in
theorem Up_any (k : HV) (h : HierT) (s : Int) (W : World) (hp : RdH W k h) (hs : Small k h) (hin : InH h) (hs0 : -9223372036854775808 ≤ s) (hs1 : s ≤ 9223372036854775807) :
    Calls Tryd.prog 9 #[hierV k h, .int .i64 s] W (ClimbRes (upBug h s) h.node.length (seg h.uf h.up) (seg h.df h.dn) s.toNat W) := by
  have hb1 := (Below.refl W.heap.size W).alloc (Nat.le_refl _) (.cells #[.slice k.a0 h.node.length k.c0, .slice k.a1 h.uf.length k.c1, .slice k.a2 h.up.length k.c2, .slice k.a3 h.df.length k.c3, .slice k.a4 h.dn.length k.c4] 25)
  have hc1 := cells_new W #[.slice k.a0 h.node.length k.c0, .slice k.a1 h.uf.length k.c1, .slice k.a2 h.up.length k.c2, .slice k.a3 h.df.length k.c3, .slice k.a4 h.dn.length k.c4] 25
  have HB1 := Lib.hid hb1
  have HC1 := Lib.hid hc1
  have HCK := Lib.hid (Check_any k h _ (hp.below hb1) hs hin)
  have HP := Lib.hid hp
  have HS := Lib.hid hs
  have HIN := Lib.hid hin
  clear hp hs hin hb1 hc1
  unfold hierV at *
  go_enter Tryd.func9, Tryd.ntmps9
  go_wp2_with fail
  refine HCK.out.mono ?_
  rintro e w2 he
  cases hch : chkB h with
  | some b =>
    rw [hch] at he
    have he' := he.mono HB1.out
    obtain ⟨t, x, ht, rfl⟩ := he.iface
    have HEND : Hid (ClimbRes (upBug h s) h.node.length (seg h.uf h.up) (seg h.df h.dn) s.toNat W (.returned (.tuple #[.slice none 0 0, .iface t x])) w2) := Lib.hid (by unfold upBug; rw [hch]; exact ⟨_, rfl, he'⟩)
    clear he he' hch
    rcases ht with rfl | rfl
    all_goals
      go_wp2_with fail
      go_ret2
      exact HEND.out
  | none =>
    rw [hch] at he
    obtain ⟨hb2, rfl⟩ := he
    have so := Sound.of_none hch
    have HB2 := Lib.hid (HB1.out.trans (hb2.mono HB1.out.size))
    have HC2 := HC1.out.below hb2
    rw [so.u.fl, so.d.fl] at HC2
    have HC2 := Lib.hid HC2
    have d0 : w2.cell? ⟨W.heap.size, 0, none⟩ = some (.slice k.a0 h.node.length k.c0) := HC2.out.cell 0
    have d1 : w2.cell? ⟨W.heap.size, 1, none⟩ = some (.slice k.a1 (h.node.length + 1) k.c1) := HC2.out.cell 1
    have d2 : w2.cell? ⟨W.heap.size, 2, none⟩ = some (.slice k.a2 h.up.length k.c2) := HC2.out.cell 2
    have d3 : w2.cell? ⟨W.heap.size, 3, none⟩ = some (.slice k.a3 (h.node.length + 1) k.c3) := HC2.out.cell 3
    have d4 : w2.cell? ⟨W.heap.size, 4, none⟩ = some (.slice k.a4 h.dn.length k.c4) := HC2.out.cell 4
    have hn := so.n_le
    have s0 := HS.out.s0
    have hS := so.up HIN.out
    have hS' := so.dn HIN.out
    have r1 := (HP.out.below HB2.out).r1
    have r2 := (HP.out.below HB2.out).r2
    have r3 := (HP.out.below HB2.out).r3
    have r4 := (HP.out.below HB2.out).r4
    have t1 := HS.out.t1
    have t2 := HS.out.t2
    have t3 := HS.out.t3
    have t4 := HS.out.t4
    rw [so.u.fl] at r1 t1
    rw [so.d.fl] at r3 t3
    by_cases hr : s < 0 ∨ (h.node.length : Int) ≤ s
    · have HCL := Lib.hid (climb_out k.a1 k.a2 k.a3 k.a4 (h.node.length + 1) k.c1 h.up.length k.c2 (h.node.length + 1) k.c3 h.dn.length k.c4 h.node.length s w2 hn hr hs0 hs1)
      have HEND : Hid (∀ w3, Below w2.heap.size w2 w3 → ClimbRes (upBug h s) h.node.length (seg h.uf h.up) (seg h.df h.dn) s.toNat W (.returned (.tuple #[.slice none 0 0, .iface 56 (.int .i64 7)])) w3) := Lib.hid fun w3 hb => by
        unfold upBug
        rw [hch]
        dsimp only
        rw [if_pos hr]
        exact ⟨_, rfl, HB2.out.trans (hb.mono HB2.out.size), rfl⟩
      clear hch hb2 so hS hS' r1 r2 r3 r4 t1 t2 t3 t4 hr
      go_wp2_with fail
      refine HCL.out.mono ?_
      rintro e w3 ⟨rfl, hb⟩
      have HE3 := Lib.hid (HEND.out w3 hb)
      clear hb
      go_wp2_with fail
      go_ret2
      exact HE3.out
    · obtain ⟨q, rfl⟩ : ∃ q : Nat, s = (q : Int) := ⟨s.toNat, by omega⟩
      have HCL := Lib.hid (climb_in k.a1 k.a2 k.a3 k.a4 k.c1 k.c2 k.c3 k.c4 h.node.length q h.uf h.df h.up h.dn w2 hS hS' (by omega) r1 r2 r3 r4 t1 t2 t3 t4 HIN.out.i1 HIN.out.i2 HIN.out.i4)
      have HEND : Hid (∀ e w3, ClimbIs h.node.length (seg h.uf h.up) (seg h.df h.dn) q w2 e w3 → ClimbRes (upBug h (q : Int)) h.node.length (seg h.uf h.up) (seg h.df h.dn) (q : Int).toNat W e w3) := Lib.hid fun e w3 he => by
        unfold upBug
        rw [hch]
        dsimp only
        rw [if_neg hr, Int.toNat_natCast]
        obtain ⟨D, hD, A, c, h1, h2, h3⟩ := he
        exact ⟨D, hD, A, c, h1, h2.mono HB2.out.size, HB2.out.trans (h3.mono HB2.out.size)⟩
      clear hch hb2 so hS hS' r1 r2 r3 r4 t1 t2 t3 t4 hr
      go_wp2_with fail
      refine HCL.out.mono ?_
      rintro e w3 he
      have HE3 := Lib.hid (HEND.out e w3 he)
      obtain ⟨D, hD, A, c, rfl, h2, h3⟩ := he
      clear hD h2 h3
      go_wp2_with fail
      go_ret2
      exact HE3.out
set_option maxRecDepth 100000 in
set_option maxHeartbeats 2000000 in
theorem Down_any (k : HV) (h : HierT) (s : Int) (W : World) (hp : RdH W k h) (hs : Small k h) (hin : InH h) (hs0 : -9223372036854775808 ≤ s) (hs1 : s ≤ 9223372036854775807) :
    Calls Tryd.prog 15 #[hierV k h, .int .i64 s] W (ClimbRes (upBug h s) h.node.length (seg h.df h.dn) (seg h.uf h.up) s.toNat W) := by
  have hb1 := (Below.refl W.heap.size W).alloc (Nat.le_refl _) (.cells #[.slice k.a0 h.node.length k.c0, .slice k.a1 h.uf.length k.c1, .slice k.a2 h.up.length k.c2, .slice k.a3 h.df.length k.c3, .slice k.a4 h.dn.length k.c4] 25)
  have hc1 := cells_new W #[.slice k.a0 h.node.length k.c0, .slice k.a1 h.uf.length k.c1, .slice k.a2 h.up.length k.c2, .slice k.a3 h.df.length k.c3, .slice k.a4 h.dn.length k.c4] 25
  have HB1 := Lib.hid hb1
  have HC1 := Lib.hid hc1
  have HCK := Lib.hid (Check_any k h _ (hp.below hb1) hs hin)
  have HP := Lib.hid hp
  have HS := Lib.hid hs
  have HIN := Lib.hid hin
  clear hp hs hin hb1 hc1
  unfold hierV at *
  go_enter Tryd.func15, Tryd.ntmps15
  go_wp2_with fail
  refine HCK.out.mono ?_
  rintro e w2 he
  cases hch : chkB h with
  | some b =>
    rw [hch] at he
    have he' := he.mono HB1.out
    obtain ⟨t, x, ht, rfl⟩ := he.iface
    have HEND : Hid (ClimbRes (upBug h s) h.node.length (seg h.df h.dn) (seg h.uf h.up) s.toNat W (.returned (.tuple #[.slice none 0 0, .iface t x])) w2) := Lib.hid (by unfold upBug; rw [hch]; exact ⟨_, rfl, he'⟩)
    clear he he' hch
    rcases ht with rfl | rfl
    all_goals
      go_wp2_with fail
      go_ret2
      exact HEND.out
  | none =>
    rw [hch] at he
    obtain ⟨hb2, rfl⟩ := he
    have so := Sound.of_none hch
    have HB2 := Lib.hid (HB1.out.trans (hb2.mono HB1.out.size))
    have HC2 := HC1.out.below hb2
    rw [so.u.fl, so.d.fl] at HC2
    have HC2 := Lib.hid HC2
    have d0 : w2.cell? ⟨W.heap.size, 0, none⟩ = some (.slice k.a0 h.node.length k.c0) := HC2.out.cell 0
    have d1 : w2.cell? ⟨W.heap.size, 1, none⟩ = some (.slice k.a1 (h.node.length + 1) k.c1) := HC2.out.cell 1
    have d2 : w2.cell? ⟨W.heap.size, 2, none⟩ = some (.slice k.a2 h.up.length k.c2) := HC2.out.cell 2
    have d3 : w2.cell? ⟨W.heap.size, 3, none⟩ = some (.slice k.a3 (h.node.length + 1) k.c3) := HC2.out.cell 3
    have d4 : w2.cell? ⟨W.heap.size, 4, none⟩ = some (.slice k.a4 h.dn.length k.c4) := HC2.out.cell 4
    have hn := so.n_le
    have s0 := HS.out.s0
    have hS := so.dn HIN.out
    have hS' := so.up HIN.out
    have r1 := (HP.out.below HB2.out).r1
    have r2 := (HP.out.below HB2.out).r2
    have r3 := (HP.out.below HB2.out).r3
    have r4 := (HP.out.below HB2.out).r4
    have t1 := HS.out.t1
    have t2 := HS.out.t2
    have t3 := HS.out.t3
    have t4 := HS.out.t4
    rw [so.u.fl] at r1 t1
    rw [so.d.fl] at r3 t3
    by_cases hr : s < 0 ∨ (h.node.length : Int) ≤ s
    · have HCL := Lib.hid (climb_out k.a3 k.a4 k.a1 k.a2 (h.node.length + 1) k.c3 h.dn.length k.c4 (h.node.length + 1) k.c1 h.up.length k.c2 h.node.length s w2 hn hr hs0 hs1)
      have HEND : Hid (∀ w3, Below w2.heap.size w2 w3 → ClimbRes (upBug h s) h.node.length (seg h.df h.dn) (seg h.uf h.up) s.toNat W (.returned (.tuple #[.slice none 0 0, .iface 56 (.int .i64 7)])) w3) := Lib.hid fun w3 hb => by
        unfold upBug
        rw [hch]
        dsimp only
        rw [if_pos hr]
        exact ⟨_, rfl, HB2.out.trans (hb.mono HB2.out.size), rfl⟩
      clear hch hb2 so hS hS' r1 r2 r3 r4 t1 t2 t3 t4 hr
      go_wp2_with fail
      refine HCL.out.mono ?_
      rintro e w3 ⟨rfl, hb⟩
      have HE3 := Lib.hid (HEND.out w3 hb)
      clear hb
      go_wp2_with fail
      go_ret2
      exact HE3.out
    · obtain ⟨q, rfl⟩ : ∃ q : Nat, s = (q : Int) := ⟨s.toNat, by omega⟩
      have HCL := Lib.hid (climb_in k.a3 k.a4 k.a1 k.a2 k.c3 k.c4 k.c1 k.c2 h.node.length q h.df h.uf h.dn h.up w2 hS hS' (by omega) r3 r4 r1 r2 t3 t4 t1 t2 HIN.out.i3 HIN.out.i4 HIN.out.i2)
      have HEND : Hid (∀ e w3, ClimbIs h.node.length (seg h.df h.dn) (seg h.uf h.up) q w2 e w3 → ClimbRes (upBug h (q : Int)) h.node.length (seg h.df h.dn) (seg h.uf h.up) (q : Int).toNat W e w3) := Lib.hid fun e w3 he => by
        unfold upBug
        rw [hch]
        dsimp only
        rw [if_neg hr, Int.toNat_natCast]
        obtain ⟨D, hD, A, c, h1, h2, h3⟩ := he
        exact ⟨D, hD, A, c, h1, h2.mono HB2.out.size, HB2.out.trans (h3.mono HB2.out.size)⟩
      clear hch hb2 so hS hS' r1 r2 r3 r4 t1 t2 t3 t4 hr
      go_wp2_with fail
      refine HCL.out.mono ?_
      rintro e w3 he
      have HE3 := Lib.hid (HEND.out e w3 he)
      obtain ⟨D, hD, A, c, rfl, h2, h3⟩ := he
      clear hD h2 h3
      go_wp2_with fail
      go_ret2
      exact HE3.out
end Go.Proofs.YtkcnnamghpdplaaDoor
