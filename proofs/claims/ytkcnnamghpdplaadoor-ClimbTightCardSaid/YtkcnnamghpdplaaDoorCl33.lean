/- awake; the lists that the searches answer; rows that are written over. -/
import Derived.Test.YtkcnnamghpdplaaDoorCl32
import Derived.Test.YtkcnnamghpdplaaDoorCl31
import Derived.Test.YtkcnnamghpdplaaDoorClB
set_option linter.unusedSimpArgs false
set_option linter.unusedVariables false
namespace Go.Proofs.YtkcnnamghpdplaaDoor
open Go.RowKit

def stD (x : Nat) : Option Int := if x = 0 then some 0 else if x = 1 then some 9 else if x = 2 then some 1 else none
def thD (x : Nat) : Option Int := if x = 0 then some 0 else if x = 1 then some 4 else none
theorem lt3 {r : Nat} (h : r < 3) : r = 0 ∨ r = 1 ∨ r = 2 := by omega
theorem st0 : seg stallsT.uf stallsT.up 0 = [⟨1, 9, 4294967295, 4294967295⟩, ⟨2, 1, 4294967295, 4294967295⟩] := rfl
theorem st1 : seg stallsT.uf stallsT.up 1 = [] := rfl
theorem st2 : seg stallsT.uf stallsT.up 2 = [] := rfl
theorem th0 : seg threeT.df threeT.dn 0 = [⟨1, 4, 4294967295, 4294967295⟩] := rfl
theorem th1 : seg threeT.df threeT.dn 1 = [] := rfl
theorem th2 : seg threeT.df threeT.dn 2 = [] := rfl
theorem st_sol : Sol 3 (seg stallsT.uf stallsT.up) 0 stD := by
  refine ⟨rfl, fun x hx => ?_, fun r a l hr hd hl => ?_, fun x b hx hd => ?_⟩
  · unfold stD
    rw [if_neg (by omega), if_neg (by omega), if_neg (by omega)]
  · rcases lt3 hr with rfl | rfl | rfl
    · rw [st0] at hl
      have ha : a = 0 := by simpa [stD] using hd.symm
      subst ha
      simp at hl
      rcases hl with rfl | rfl
      · exact ⟨9, rfl, by show (9 : Int) ≤ 0 + 9; omega⟩
      · exact ⟨1, rfl, by show (1 : Int) ≤ 0 + 1; omega⟩
    · rw [st1] at hl; cases hl
    · rw [st2] at hl; cases hl
  · unfold stD at hd
    rw [if_neg hx] at hd
    by_cases h1 : x = 1
    · rw [if_pos h1] at hd
      cases hd
      exact ⟨0, 0, ⟨1, 9, 4294967295, 4294967295⟩, by omega, rfl, by rw [st0]; simp, h1.symm, rfl⟩
    · rw [if_neg h1] at hd
      by_cases h2 : x = 2
      · rw [if_pos h2] at hd
        cases hd
        exact ⟨0, 0, ⟨2, 1, 4294967295, 4294967295⟩, by omega, rfl, by rw [st0]; simp, h2.symm, rfl⟩
      · rw [if_neg h2] at hd
        cases hd
theorem th_sol : Sol 3 (seg threeT.df threeT.dn) 0 thD := by
  refine ⟨rfl, fun x hx => ?_, fun r a l hr hd hl => ?_, fun x b hx hd => ?_⟩
  · unfold thD
    rw [if_neg (by omega), if_neg (by omega)]
  · rcases lt3 hr with rfl | rfl | rfl
    · rw [th0] at hl
      have ha : a = 0 := by simpa [thD] using hd.symm
      subst ha
      simp at hl
      subst hl
      exact ⟨4, rfl, by show (4 : Int) ≤ 0 + 4; omega⟩
    · rw [th1] at hl; cases hl
    · rw [th2] at hl; cases hl
  · unfold thD at hd
    rw [if_neg hx] at hd
    by_cases h1 : x = 1
    · rw [if_pos h1] at hd
      cases hd
      exact ⟨0, 0, ⟨1, 4, 4294967295, 4294967295⟩, by omega, rfl, by rw [th0]; simp, h1.symm, rfl⟩
    · rw [if_neg h1] at hd
      cases hd
def stL : List SeenT := [⟨0, 0, false⟩, ⟨1, 9, true⟩, ⟨2, 1, false⟩]
def thL : List SeenT := [⟨0, 0, false⟩, ⟨1, 4, false⟩]
theorem st_list : seenTo stD (seg stallsT.df stallsT.dn) 3 = stL := rfl
theorem th_list : seenTo thD (seg threeT.uf threeT.up) 3 = thL := rfl
def SeenIs (l : List SeenT) (n : Nat) (W : World) (e : Ending) (w' : World) : Prop := ∃ A c, e = .returned (.tuple #[.slice A n c, .nilIface]) ∧ RdSn w' A n l ∧ Below W.heap.size W w'
theorem upStalls (q : HV) (w : World) (hp : RdH w q stallsT) (hs : Small q stallsT) : Calls Tryd.prog 9 #[hierV q stallsT, .int .i64 0] w (SeenIs stL 3 w) :=
  (Up_any q stallsT 0 w hp hs stalls_in (by omega) (by omega)).mono fun e w' he => by
    have hb : upBug stallsT 0 = none := by unfold upBug; rw [stalls_chk]; rfl
    rw [hb] at he
    obtain ⟨D, hD, A, c, h1, h2, h3⟩ := he
    have hD' : D = stD := funext (Sol.unique ((Sound.of_none stalls_chk).up stalls_in).ups hD st_sol)
    subst hD'
    have hL : seenTo stD (seg stallsT.df stallsT.dn) stallsT.node.length = stL := st_list
    rw [hL] at h1 h2
    exact ⟨A, c, h1, h2.rd encSn_len rfl, h3⟩
theorem downThree (q : HV) (w : World) (hp : RdH w q threeT) (hs : Small q threeT) : Calls Tryd.prog 15 #[hierV q threeT, .int .i64 0] w (SeenIs thL 2 w) :=
  (Down_any q threeT 0 w hp hs three_in (by omega) (by omega)).mono fun e w' he => by
    have hb : upBug threeT 0 = none := by unfold upBug; rw [three_chk]; rfl
    rw [hb] at he
    obtain ⟨D, hD, A, c, h1, h2, h3⟩ := he
    have hD' : D = thD := funext (Sol.unique ((Sound.of_none three_chk).dn three_in).ups hD th_sol)
    subst hD'
    have hL : seenTo thD (seg threeT.uf threeT.up) threeT.node.length = thL := th_list
    rw [hL] at h1 h2
    exact ⟨A, c, h1, h2.rd encSn_len rfl, h3⟩
set_option maxRecDepth 100000 in
set_option maxHeartbeats 4000000 in
theorem awake_any (W : World) : Calls Tryd.prog 7 #[] W (BoolBelow true W) := by
  go_enter Tryd.func7, Tryd.ntmps7
  refine wp_post_named' ?_
  intro Q0 hQ0
  have HQ0 := Lib.hid hQ0
  clear hQ0
  go_wp2_with fail
  refine (stalls_any W).mono ?_
  rintro e w1 ⟨q, rfl, hr, hs, hb⟩
  have HC := Lib.hid (upStalls q w1 hr hs)
  have HB1 := Lib.hid hb
  clear hr hs hb
  go_wp2_with fail
  refine HC.out.mono ?_
  rintro e w2 ⟨A1, c1, rfl, hr1, hb⟩
  have HB2 := Lib.hid (HB1.out.trans (hb.mono HB1.out.size))
  have HR2 := Lib.hid hr1
  clear hr1 hb HC HB1
  go_wp2_with fail
  refine (three_any w2).mono ?_
  rintro e w3 ⟨p, rfl, hr, hs, hb⟩
  have HC := Lib.hid (downThree p w3 hr hs)
  have HB3 := Lib.hid (HB2.out.trans (hb.mono HB2.out.size))
  have HR3 := Lib.hid (HR2.out.below hb)
  clear hr hs hb HB2 HR2
  go_wp2_with fail
  refine HC.out.mono ?_
  rintro e w4 ⟨A2, c2, rfl, hr2, hb⟩
  have HB4 := Lib.hid (HB3.out.trans (hb.mono HB3.out.size))
  have HR4 := Lib.hid (HR3.out.below hb)
  have HT4 := Lib.hid hr2
  clear hr2 hb HC HB3 HR3
  go_wp2_with fail
  refine (Of_any A1 3 c1 stL w4 HR4.out (by omega)).mono ?_
  rintro e w5 ⟨A3, c3, rfl, ho, hb⟩
  have HB5 := Lib.hid (HB4.out.trans (hb.mono HB4.out.size))
  have HT5 := Lib.hid (HT4.out.below hb)
  have HO5 := Lib.hid (ho.rd encSn_len rfl)
  clear ho hb HB4 HT4 HR4
  go_wp2_with fail
  have hq : RdSn (w5.alloc (.cells #[.int .i64 0, .int .u64 0, .bool false, .int .i64 1, .int .u64 9, .bool true, .int .i64 2, .int .u64 1, .bool false] 54)) (some ⟨w5.heap.size, 0, none⟩) 3 stL := rd_at encSn_len w5 rfl 54 stL rfl rfl
  have hb6 := (Below.refl w5.heap.size w5).alloc (Nat.le_refl _) (.cells #[.int .i64 0, .int .u64 0, .bool false, .int .i64 1, .int .u64 9, .bool true, .int .i64 2, .int .u64 1, .bool false] 54)
  refine (SameSn_eq A3 _ 3 c3 3 stL _ (HO5.out.below hb6) hq (by omega)).mono ?_
  rintro e w7 ⟨rfl, hb⟩
  have HB7 := Lib.hid (HB5.out.trans ((hb6.trans (hb.mono hb6.size)).mono HB5.out.size))
  have HT7 := Lib.hid ((HT5.out.below hb6).below hb)
  clear hq hb6 hb HB5 HT5 HO5
  go_wp2_with fail
  refine (Of_any A2 2 c2 thL w7 HT7.out (by omega)).mono ?_
  rintro e w8 ⟨A4, c4, rfl, ho, hb⟩
  have HB8 := Lib.hid (HB7.out.trans (hb.mono HB7.out.size))
  have HO8 := Lib.hid (ho.rd encSn_len rfl)
  clear ho hb HB7 HT7
  go_wp2_with fail
  have hq : RdSn (w8.alloc (.cells #[.int .i64 0, .int .u64 0, .bool false, .int .i64 1, .int .u64 4, .bool false] 54)) (some ⟨w8.heap.size, 0, none⟩) 2 thL := rd_at encSn_len w8 rfl 54 thL rfl rfl
  have hb6 := (Below.refl w8.heap.size w8).alloc (Nat.le_refl _) (.cells #[.int .i64 0, .int .u64 0, .bool false, .int .i64 1, .int .u64 4, .bool false] 54)
  refine (SameSn_eq A4 _ 2 c4 2 thL _ (HO8.out.below hb6) hq (by omega)).mono ?_
  rintro e w9 ⟨rfl, hb⟩
  have HB9 := Lib.hid (HB8.out.trans ((hb6.trans (hb.mono hb6.size)).mono HB8.out.size))
  clear hq hb6 hb HB8 HO8
  go_wp2_with fail
  rw [HQ0.out]
  go_ret
  exact ⟨rfl, HB9.out⟩

def ListIs (L : List SeenT) (W : World) (e : Ending) (w' : World) : Prop := ∃ A c v, e = .returned (.tuple #[.slice A L.length c, v]) ∧ OwnSn w' W.heap.size (.slice A L.length c) L ∧ Below W.heap.size W w'
def DocListIs (L : List SeenT) (W : World) (e : Ending) (w' : World) : Prop := ∃ A c x, e = .returned (.tuple #[.slice A L.length c, errV x]) ∧ OwnSr w' W.heap.size (.slice A L.length c) L ∧ Below W.heap.size W w'
theorem list_of (bug : Bug) (n : Nat) (S S' : Nat → List Lk) (s : Nat) (hu : bug = none → Ups n S ∧ n ≤ 65536) : ∃ L : List SeenT, L.length ≤ 65536 ∧ (∀ W e w', ClimbRes bug n S S' s W e w' → ListIs L W e w') ∧ (∀ W e w', DocRes bug n S S' s W e w' → DocListIs L W e w') := by
  cases bug with
  | some b =>
    refine ⟨[], by simp, fun W e w' h => ?_, fun W e w' h => ?_⟩
    · obtain ⟨v, h1, h2⟩ := h
      exact ⟨none, 0, v, h1, Own.nil _ _ _ _ _, h2.1⟩
    · obtain ⟨hb, x, h1, h2⟩ := h
      exact ⟨none, 0, x, h1, Own.nil _ _ _ _ _, hb⟩
  | none =>
    obtain ⟨hu, hn⟩ := hu rfl
    by_cases hD : ∃ D, Sol n S s D
    · obtain ⟨D, hD⟩ := hD
      have hlen := seenTo_len D S' n
      refine ⟨seenTo D S' n, by omega, fun W e w' h => ?_, fun W e w' h => ?_⟩
      · obtain ⟨D', hD', A, c, h1, h2, h3⟩ := h
        have e : D' = D := funext (Sol.unique hu hD' hD)
        subst e
        exact ⟨A, c, _, h1, h2, h3⟩
      · obtain ⟨hb, D', A, c, hD', h1, h2⟩ := h
        have e : D' = D := funext (Sol.unique hu hD' hD)
        subst e
        exact ⟨A, c, _, h1, h2, hb⟩
    · refine ⟨[], by simp, fun W e w' h => ?_, fun W e w' h => ?_⟩
      · obtain ⟨D', hD', -⟩ := h
        exact absurd ⟨D', hD'⟩ hD
      · obtain ⟨hb, D', A, c, hD', -⟩ := h
        exact absurd ⟨D', hD'⟩ hD
theorem ups_up {h : HierT} {s : Int} (hin : InH h) (hb : upBug h s = none) : Ups h.node.length (seg h.uf h.up) ∧ h.node.length ≤ 65536 := by
  unfold upBug at hb
  split at hb
  · cases hb
  · rename_i hc
    exact ⟨((Sound.of_none hc).up hin).ups, (Sound.of_none hc).n_le⟩
theorem ups_dn {h : HierT} {s : Int} (hin : InH h) (hb : upBug h s = none) : Ups h.node.length (seg h.df h.dn) ∧ h.node.length ≤ 65536 := by
  unfold upBug at hb
  split at hb
  · cases hb
  · rename_i hc
    exact ⟨((Sound.of_none hc).dn hin).ups, (Sound.of_none hc).n_le⟩
theorem up_lists (h : HierT) (s : Int) (hin : InH h) (hs0 : -9223372036854775808 ≤ s) (hs1 : s ≤ 9223372036854775807) : ∃ L : List SeenT, L.length ≤ 65536 ∧
    (∀ k W, RdH W k h → Small k h → Calls Tryd.prog 9 #[hierV k h, .int .i64 s] W (ListIs L W)) ∧ (∀ k W, RdH W k h → Small k h → Calls Tryd.prog 11 #[hierV k h, .int .i64 s] W (DocListIs L W)) := by
  obtain ⟨L, h0, h1, h2⟩ := list_of (upBug h s) h.node.length (seg h.uf h.up) (seg h.df h.dn) s.toNat (ups_up hin)
  exact ⟨L, h0, fun k W hp hs => (Up_any k h s W hp hs hin hs0 hs1).mono fun e w' he => h1 W e w' he, fun k W hp hs => (DocUp_any k h s W hp hs hin hs0 hs1).mono fun e w' he => h2 W e w' he⟩
theorem dn_lists (h : HierT) (s : Int) (hin : InH h) (hs0 : -9223372036854775808 ≤ s) (hs1 : s ≤ 9223372036854775807) : ∃ L : List SeenT, L.length ≤ 65536 ∧
    (∀ k W, RdH W k h → Small k h → Calls Tryd.prog 15 #[hierV k h, .int .i64 s] W (ListIs L W)) ∧ (∀ k W, RdH W k h → Small k h → Calls Tryd.prog 16 #[hierV k h, .int .i64 s] W (DocListIs L W)) := by
  obtain ⟨L, h0, h1, h2⟩ := list_of (upBug h s) h.node.length (seg h.df h.dn) (seg h.uf h.up) s.toNat (ups_dn hin)
  exact ⟨L, h0, fun k W hp hs => (Down_any k h s W hp hs hin hs0 hs1).mono fun e w' he => h1 W e w' he, fun k W hp hs => (DocDown_any k h s W hp hs hin hs0 hs1).mono fun e w' he => h2 W e w' he⟩
theorem Own.keptS {α : Type} {e sz : Nat} {enc : α → List Value} {w w' : World} {base : Nat} {v : Value} {l : List α} {S : Nat → Prop} (h : Own e sz enc w base v l) (hk : Kept S w w') (hn : ∀ k, v.ownBlock = some k → ¬ S k) : Own e sz enc w' base v l := by
  refine ⟨h.1, ?_⟩
  rcases h.2 with hn' | ⟨g, cap, cur, rfl, hb, hg, r⟩
  · exact .inl hn'
  · exact .inr ⟨g, cap, cur, rfl, hb, (hk.block g (Array.getElem?_eq_some_iff.1 hg).1 (hn g rfl)).trans hg, r⟩

/-! ### rows that are written over -/
abbrev enc3 (x : Int × Int × Bool) : List Value := [.int .i64 x.1, .int .u64 x.2.1, .bool x.2.2]
theorem enc3_len : ∀ x, (enc3 x).length = 3 := fun _ => rfl
theorem enc3_one : ∀ x, ∀ u ∈ enc3 x, u.oneCell' = true := fun x u h => by
  simp only [enc3, List.mem_cons, List.not_mem_nil, or_false] at h
  rcases h with rfl | rfl | rfl <;> rfl
theorem flat_set3 : ∀ (l : List (Int × Int × Bool)) (j : Nat) (x : Int × Int × Bool), j < l.length → (((l.flatMap enc3).set (j * 3) (.int .i64 x.1)).set (j * 3 + 1) (.int .u64 x.2.1)).set (j * 3 + 2) (.bool x.2.2) = (l.set j x).flatMap enc3
  | [], _, _, h => by simp at h
  | y :: r, 0, x, _ => by simp
  | y :: r, j + 1, x, h => by
    have ih := flat_set3 r j x (by simpa using h)
    rw [show (j + 1) * 3 = j * 3 + 1 + 1 + 1 by omega, show j * 3 + 1 + 1 + 1 + 2 = j * 3 + 2 + 1 + 1 + 1 by omega, show j * 3 + 1 + 1 + 1 + 1 = j * 3 + 1 + 1 + 1 + 1 by omega]
    simp only [List.flatMap_cons, enc3, List.set_cons_succ, List.cons_append, List.nil_append]
    rw [ih]
/-- A row of the call's own of so many elements, whatever they are. -/
def Live3 (W : World) (base : Nat) (v : Value) (n : Nat) : Prop := ∃ l : List (Int × Int × Bool), l.length = n ∧ Own 48 3 enc3 W base v l
theorem Live3.of {W : World} {base b' : Nat} {v : Value} {l : List SeenT} (h : OwnSn W base v l) (hb : b' ≤ base) : Live3 W b' v l.length := by
  have h' : OwnSn W b' v l := Own.mono h hb
  refine ⟨l.map fun x => ((x.rank : Int), x.dist, x.st), by simp, ?_⟩
  have e : (l.map fun x => ((x.rank : Int), x.dist, x.st)).flatMap enc3 = l.flatMap encSn := by rw [List.flatMap_map]
  show World.ownsRow W b' _ 3 v (l.map _).length ((l.map _).flatMap enc3)
  rw [e, List.length_map]
  exact h'
theorem Live3.put {W : World} {base g n c : Nat} (h : Live3 W base (.slice (some ⟨g, 0, none⟩) n c) n) {j : Nat} (hj : j < n) (x : Int × Int × Bool) :
    Live3 (((W.setCell ⟨g, j * 3, none⟩ (.int .i64 x.1)).setCell ⟨g, j * 3 + 1, none⟩ (.int .u64 x.2.1)).setCell ⟨g, j * 3 + 2, none⟩ (.bool x.2.2)) base (.slice (some ⟨g, 0, none⟩) n c) n := by
  obtain ⟨l, rfl, ho⟩ := h
  have h2 := (World.ownsRow.stored (World.ownsRow.stored (World.ownsRow.stored ho (j * 3) (.int .i64 x.1)).1 (j * 3 + 1) (.int .u64 x.2.1)).1 (j * 3 + 2) (.bool x.2.2)).1
  rw [flat_set3 l j x hj] at h2
  refine ⟨l.set j x, List.length_set, ?_⟩
  show World.ownsRow _ _ _ _ _ (l.set j x).length _
  rw [List.length_set]
  exact h2
theorem Live3.keptS {W W' : World} {base n : Nat} {v : Value} {S : Nat → Prop} (h : Live3 W base v n) (hk : Kept S W W') (hn : ∀ k, v.ownBlock = some k → ¬ S k) : Live3 W' base v n := by
  obtain ⟨l, hl, ho⟩ := h
  exact ⟨l, hl, ho.keptS hk hn⟩
theorem Live3.below {W W' : World} {base n : Nat} {v : Value} (h : Live3 W base v n) (hb : Below W.heap.size W W') : Live3 W' base v n := by
  obtain ⟨l, hl, ho⟩ := h
  exact ⟨l, hl, ho.below hb⟩
theorem Live3.get {W : World} {base n c j : Nat} {A : Option Addr} (h : Live3 W base (.slice A n c) n) (hj : j < n) : ∃ g x0 x1 x2, A = some ⟨g, 0, none⟩ ∧ base ≤ g ∧ g < W.heap.size ∧
    W.cell? ⟨g, j * 3, none⟩ = some (.int .i64 x0) ∧ W.cell? ⟨g, j * 3 + 1, none⟩ = some (.int .u64 x1) ∧ W.cell? ⟨g, j * 3 + 2, none⟩ = some (.bool x2) ∧
    W.frozen? ⟨g, j * 3, none⟩ = false ∧ W.frozen? ⟨g, j * 3 + 1, none⟩ = false ∧ W.frozen? ⟨g, j * 3 + 2, none⟩ = false := by
  obtain ⟨l, rfl, ho⟩ := h
  obtain ⟨g, c', hv, hge, _⟩ := World.ownsRow.form ho (by omega)
  injection hv with h1 _ _
  subst h1
  have hlt := (ho.block (k := g) rfl).2
  have e0 := (World.ownsRow.cellAt ho (j * 3) (by omega)).trans (flat_get (enc := enc3) enc3_len l j 0 (by omega))
  have e1 := (World.ownsRow.cellAt ho (j * 3 + 1) (by omega)).trans (flat_get (enc := enc3) enc3_len l j 1 (by omega))
  have e2 := (World.ownsRow.cellAt ho (j * 3 + 2) (by omega)).trans (flat_get (enc := enc3) enc3_len l j 2 (by omega))
  rw [List.getElem?_eq_getElem hj] at e0 e1 e2
  exact ⟨g, _, _, _, rfl, hge, hlt, e0, e1, e2, World.ownsRow.frozenAt ho _, World.ownsRow.frozenAt ho _, World.ownsRow.frozenAt ho _⟩
theorem Kept.of_grown {w w' : World} {row : Option Nat} (h : w.grownBy w' row) : Kept (fun k => row = some k) w w' :=
  ⟨h.1, h.2, h.3, h.4, fun k hk hs => h.5 k hk (fun e => hs e.symm)⟩
theorem Kept.weak {S S' : Nat → Prop} {w w' : World} (h : Kept S w w') (hs : ∀ k, S k → S' k) : Kept S' w w' :=
  ⟨h.os, h.tape, h.output, h.size, fun k hk hn => h.block k hk fun e => hn (hs k e)⟩
end Go.Proofs.YtkcnnamghpdplaaDoor
