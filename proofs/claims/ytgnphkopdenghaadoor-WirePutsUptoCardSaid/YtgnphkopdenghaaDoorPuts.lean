/- The law WirePuts: Put and PutWords answer just what the document says. -/
import Derived.Test.YtgnphkopdenghaaDoorWalk6
import Derived.Test.YtgnphkopdenghaaDoorErrs6
set_option linter.unusedSimpArgs false
set_option linter.unusedVariables false
namespace Go.Proofs.YtgnphkopdenghaaDoor
open Go.RowKit

/-- A pair: a list of bytes, and an error that is the number c (as the program tells it, as the document does). -/
def Listed (l : List Int) (w0 w' : World) (v : Value) : Prop := ∃ A c, v = .slice A l.length c ∧ l.length ≤ c ∧ c ≤ maxLen ∧ RdB w' A l.length l ∧ Below w0.heap.size w0 w'
def PutP (l : List Int) (c : Int) (w : World) (e : Ending) (w' : World) : Prop := ∃ v, e = .returned (.tuple #[v, errV c]) ∧ Listed l w w' v
def PutD (l : List Int) (c : Int) (w : World) (e : Ending) (w' : World) : Prop := ∃ v, e = .returned (.tuple #[v, toldV c]) ∧ Listed l w w' v
theorem Listed.none {w w' : World} (hb : Below w.heap.size w w') : Listed [] w w' (.slice none 0 0) := ⟨_, 0, rfl, by simp, by simp [maxLen], Rd.nil, hb⟩
theorem Listed.own {w w' : World} {B : Nat} {v : Value} {l : List Int} (h : OwnB w' B v l) (hb : Below w.heap.size w w') : Listed l w w' v := by
  obtain ⟨A, c, rfl, hc, hm⟩ := h.form
  exact ⟨A, c, rfl, hc, hm, h.rd u8s_len rfl, hb⟩
theorem cases_of (a1 a2 : Int) (h1 : 0 ≤ a1 ∧ a1 ≤ 18446744073709551615) : (a2 < 1 ∨ 8 < a2) ∨ (∃ k : Nat, a2 = k ∧ 1 ≤ k ∧ k < 8 ∧ 0 < a1 / 2 ^ (8 * k)) ∨ (∃ k : Nat, a2 = k ∧ 1 ≤ k ∧ k ≤ 8 ∧ (k = 8 ∨ a1 / 2 ^ (8 * k) = 0)) := by
  by_cases h : a2 < 1 ∨ 8 < a2
  · exact .inl h
  · obtain ⟨k, hk⟩ : ∃ k : Nat, a2 = k := ⟨a2.toNat, by omega⟩
    have hnn : 0 ≤ a1 / 2 ^ (8 * k) := Int.ediv_nonneg h1.1 (Int.le_of_lt (Int.pow_pos (by omega)))
    by_cases h8 : k = 8
    · exact .inr (.inr ⟨k, hk, by omega, by omega, .inl h8⟩)
    · by_cases hz : a1 / 2 ^ (8 * k) = 0
      · exact .inr (.inr ⟨k, hk, by omega, by omega, .inr hz⟩)
      · exact .inr (.inl ⟨k, hk, by omega, by omega, by omega⟩)
theorem DocPut_arg (A : Option Addr) (n cap : Nat) (v k : Int) (w : World) (hk : k < 1 ∨ 8 < k) (h0 : -9223372036854775808 ≤ k) (h1 : k ≤ 9223372036854775807) :
    Calls Tryd.prog 7 #[.slice A n cap, .int .u64 v, .int .i64 k] w (PutD [] 1 w) := by
  have hk' : decide (k < 1) = true ∨ (decide (k < 1) = false ∧ decide (8 < k) = true) := by
    by_cases h : k < 1
    · exact .inl (decide_eq_true h)
    · exact .inr ⟨decide_eq_false h, decide_eq_true (by omega)⟩
  rcases hk' with g1 | ⟨g1, g2⟩
  all_goals
    go_enter Tryd.func7, Tryd.ntmps7
    go_wp2
    go_returns
    exact ⟨_, rfl, .none (((Below.refl _ w).alloc (Nat.le_refl _) _).alloc (by simp) _)⟩
theorem DocPut_limit (A : Option Addr) (n cap : Nat) (v : Int) (k : Nat) (w : World) (hk1 : 1 ≤ k) (hk : k < 8) (hv0 : 0 ≤ v) (hv1 : v ≤ 18446744073709551615) (hbig : 0 < v / 2 ^ (8 * k)) :
    Calls Tryd.prog 7 #[.slice A n cap, .int .u64 v, .int .i64 k] w (PutD [] 9 w) := by
  have g1 : decide ((k : Int) < 1) = false := decide_eq_false (by omega)
  have g2 : decide (8 < (k : Int)) = false := decide_eq_false (by omega)
  have g3 : decide ((k : Int) < 8) = true := decide_eq_true (by omega)
  have g4 : decide (0 < v / 2 ^ (8 * k)) = true := decide_eq_true hbig
  go_enter Tryd.func7, Tryd.ntmps7
  go_wp2
  go_returns
  exact ⟨_, rfl, .none (((Below.refl _ w).alloc (Nat.le_refl _) _).alloc (by simp) _)⟩
theorem DocPut_ok (A : Option Addr) (n cap : Nat) (l : List Int) (v : Int) (k : Nat) (w : World) (hr : RdB w A n l) (hk1 : 1 ≤ k) (hk : k ≤ 8) (hv0 : 0 ≤ v) (hv1 : v ≤ 18446744073709551615) (hfit : k = 8 ∨ v / 2 ^ (8 * k) = 0) (hn : n + 8 ≤ 140737488355328) :
    Calls Tryd.prog 7 #[.slice A n cap, .int .u64 v, .int .i64 k] w (PutD (l ++ bytesN v k) 0 w) := by
  have g1 : decide ((k : Int) < 1) = false := decide_eq_false (by omega)
  have g2 : decide (8 < (k : Int)) = false := decide_eq_false (by omega)
  have hg : (decide ((k : Int) < 8) = false) ∨ (decide ((k : Int) < 8) = true ∧ decide (0 < v / 2 ^ (8 * k)) = false) := by
    rcases hfit with rfl | h
    · exact .inl (decide_eq_false (by omega))
    · by_cases h8 : k = 8
      · exact .inl (decide_eq_false (by omega))
      · exact .inr ⟨decide_eq_true (by omega), decide_eq_false (by omega)⟩
  have H := Lib.hid hr
  have HK := Lib.hid hk
  clear hr hfit
  rcases hg with g3 | ⟨g3, g4⟩
  all_goals
    go_enter Tryd.func7, Tryd.ntmps7
    go_wp2_with fail
    refine (refPut_any A n cap l v k _ (H.out.below ((Below.refl _ w).alloc (Nat.le_refl _) _)) HK.out hv0 hv1 hn).mono ?_
    rintro e w2 ⟨v2, rfl, ho2, hb2⟩
    have HO2 := Lib.hid ho2
    have HB2 : Hid (Below w.heap.size w w2) := Lib.hid (((Below.refl _ w).alloc (Nat.le_refl _) _).trans (hb2.mono (by simp)))
    have x0 : w2.cell? ⟨w.heap.size, 0, none⟩ = some (.int .i64 0) := (hb2.cell (by simp)).trans (by simp)
    have x1 : w2.cell? ⟨w.heap.size, 1, none⟩ = some (.slice none 0 0) := (hb2.cell (by simp)).trans (by simp)
    have xf : w2.frozen? ⟨w.heap.size, 0, none⟩ = false := (hb2.frozen (by simp)).trans (by simp)
    have xg : w2.frozen? ⟨w.heap.size, 1, none⟩ = false := (hb2.frozen (by simp)).trans (by simp)
    have HNB : Hid (v2.ownBlock ≠ some w.heap.size) := Lib.hid (fun h => by have := ho2.block h; simp at this; omega)
    clear ho2 hb2
    have y1 : (w2.setCell ⟨w.heap.size, 0, none⟩ (.int .i64 0)).cell? ⟨w.heap.size, 1, none⟩ = some (.slice none 0 0) := (World.cell?_setCell_other _ _ _ _ (by simp)).trans x1
    have z0 : ((w2.setCell ⟨w.heap.size, 0, none⟩ (.int .i64 0)).setCell ⟨w.heap.size, 1, none⟩ (.slice none 0 0)).cell? ⟨w.heap.size, 0, none⟩ = some (.int .i64 0) := (World.cell?_setCell_other _ _ _ _ (by simp)).trans (cell_set _ x0)
    have z1 : ((w2.setCell ⟨w.heap.size, 0, none⟩ (.int .i64 0)).setCell ⟨w.heap.size, 1, none⟩ (.slice none 0 0)).cell? ⟨w.heap.size, 1, none⟩ = some (.slice none 0 0) := cell_set _ y1
    have HO5 := Lib.hid (own_far (own_far HO2.out (p := ⟨w.heap.size, 0, none⟩) HNB.out (.int .i64 0)) (p := ⟨w.heap.size, 1, none⟩) HNB.out (.slice none 0 0))
    have HB5 := Lib.hid ((HB2.out.setCell (p := ⟨w.heap.size, 0, none⟩) (Nat.le_refl _) (.int .i64 0)).setCell (p := ⟨w.heap.size, 1, none⟩) (Nat.le_refl _) (.slice none 0 0))
    have Z0 := Lib.hid z0
    have Z1 := Lib.hid z1
    clear z0 z1
    go_wp2_with fail
    generalize (w2.setCell ⟨w.heap.size, 0, none⟩ (.int .i64 0)).setCell ⟨w.heap.size, 1, none⟩ (.slice none 0 0) = W5 at *
    have z0 := Z0.out
    have z1 := Z1.out
    (try simp only [Exit.inBlock, Exit.then])
    refine bodyPost_ret (by simp [results, Tryd.results7, go_sem, z0, z1]; try rfl) rfl ?_
    exact ⟨_, rfl, .own HO5.out HB5.out⟩
/-- what Put's bytes are: none, or the ones that came and some more -/
def InBq (l q : List Int) : Prop := q = [] ∨ ∃ k a, q = l ++ bytesN a k
theorem InBq.inB {l q : List Int} (h : InBq l q) (hb : InB l) : InB q := by
  rcases h with rfl | ⟨k, a, rfl⟩
  · exact InB.nil
  · exact InB.append hb (bytesN_in _ _)
theorem Put_c (A : Option Addr) (n cap : Nat) (l : List Int) (a1 a2 : Int) (w : World) (h1 : 0 ≤ a1 ∧ a1 ≤ 18446744073709551615) (h2 : -9223372036854775808 ≤ a2 ∧ a2 ≤ 9223372036854775807) (hn : n + 8 ≤ 140737488355328) :
    ∃ q c, InBq l q ∧ (∀ W A cap, RdB W A n l → Calls Tryd.prog 5 #[.slice A n cap, .int .u64 a1, .int .i64 a2] W (PutP q c W)) ∧ (∀ W A cap, RdB W A n l → Calls Tryd.prog 7 #[.slice A n cap, .int .u64 a1, .int .i64 a2] W (PutD q c W)) := by
  rcases cases_of a1 a2 h1 with hk | ⟨k, rfl, hk1, hk, hbig⟩ | ⟨k, rfl, hk1, hk, hfit⟩
  · exact ⟨[], 1, .inl rfl, fun W A cap hr => (Put_arg A n cap a1 a2 W hk h2.1 h2.2).mono fun e w' ⟨he, hw⟩ => ⟨_, he, .none (by rw [hw]; exact Below.refl _ _)⟩, fun W A cap hr => DocPut_arg A n cap a1 a2 W hk h2.1 h2.2⟩
  · exact ⟨[], 9, .inl rfl, fun W A cap hr => (Put_limit A n cap a1 k W hk1 hk h1.1 h1.2 hbig).mono fun e w' ⟨he, hw⟩ => ⟨_, he, .none (by rw [hw]; exact Below.refl _ _)⟩, fun W A cap hr => DocPut_limit A n cap a1 k W hk1 hk h1.1 h1.2 hbig⟩
  · exact ⟨l ++ bytesN a1 k, 0, .inr ⟨k, a1, rfl⟩, fun W A cap hr => (Put_ok A n cap l a1 k W hr hk1 hk h1.1 h1.2 hfit hn).mono fun e w' ⟨v, he, ho, hb⟩ => ⟨_, he, .own ho hb⟩, fun W A cap hr => DocPut_ok A n cap l a1 k W hr hk1 hk h1.1 h1.2 hfit hn⟩

set_option maxHeartbeats 1000000 in
theorem WirePuts_walk (a0 : Option Addr) (len0 cap0 : Nat) (z0 : List Int) (a1 a2 : Int) (a3 : Option Addr) (len3 cap3 : Nat) (z3 : List Int) (w : World) (w0 : IsRow .u8 w a0 len0 cap0 z0) (y0 : len0 * 1 ≤ 140737488351232)
    (w1 : (Lit.int .u64 a1).wf = true) (w2 : (Lit.int .i64 a2).wf = true) (w3 : IsRow .u32 w a3 len3 cap3 z3) (y3 : len3 * 4 ≤ 140737488351232) (small : cap0 + cap3 ≤ 1048576) (hg : ErrT w) :
    Calls Tryd.prog 3 #[.slice a0 len0 cap0, .int .u64 a1, .int .i64 a2, .slice a3 len3 cap3] w (BoolBelow true w) := by
  have h1 : 0 ≤ a1 ∧ a1 ≤ 18446744073709551615 := by simpa [Lit.wf, IntKind.min, IntKind.max, IntKind.signed, IntKind.bits] using w1
  have h2 : -9223372036854775808 ≤ a2 ∧ a2 ≤ 9223372036854775807 := by simpa [Lit.wf, IntKind.min, IntKind.max, IntKind.signed, IntKind.bits] using w2
  obtain ⟨hlc, hcm⟩ := w0.cap
  obtain ⟨hlc3, hcm3⟩ := w3.cap
  have hr := Lib.hid w0.rd
  have hb := Lib.hid w0.inB
  have hl := w0.rd.1
  have hr3 := Lib.hid w3.rd
  have hl3 := w3.rd.1
  have hw3 : Hid (InW (z3.take len3)) := Lib.hid (fun b hb => by
    have h := w3.wf b hb
    simpa [Lit.wf, IntKind.min, IntKind.max, IntKind.signed, IntKind.bits] using h)
  clear w0 w1 w2 w3
  generalize z0.take len0 = p at *
  generalize z3.take len3 = l at *
  obtain rfl := hl
  obtain rfl := hl3
  have HG := Lib.hid hg
  obtain ⟨q, c, hq, hP, hD⟩ := Put_c a0 p.length cap0 p a1 a2 w h1 h2 (by omega)
  have HQ := Lib.hid (hq.inB hb.out)
  have HPP := Lib.hid hP
  have HDD := Lib.hid hD
  have SM : Hid (p.length + 4 * l.length ≤ 140737488355328) := Lib.hid (by omega)
  have SM0 : Hid (p.length ≤ 140737488355328) := Lib.hid (by omega)
  have SM3 : Hid (l.length * 4 ≤ 140737488355328) := Lib.hid (by omega)
  clear hg hq hP hD h1 h2 small y0 y3
  go_enter Tryd.func3, Tryd.ntmps3
  go_wp2_with fail
  refine (awake_any w).mono ?_
  rintro e w1 ⟨rfl, hb1⟩
  have B1 := Lib.hid hb1
  clear hb1
  go_wp2_with fail
  refine (Twin_any a0 p.length cap0 p w1 (hr.out.below B1.out) SM0.out).mono ?_
  rintro e w2 hm2
  obtain ⟨A2, c2, rfl, hc2, hx2, R2, -, -, B2⟩ := thenMade B1.out hm2
  clear hm2
  go_wp2_with fail
  refine (HPP.out w2 A2 c2 R2.out).mono ?_
  rintro e w3 ⟨v3, rfl, A3, c3, rfl, hc3, hx3, hr3', hb3⟩
  have R3 := Lib.hid hr3'
  have B3 := Lib.hid (B2.out.trans (hb3.mono B2.out.size))
  clear hr3' hb3
  go_wp2_with fail
  refine (HDD.out w3 a0 cap0 (hr.out.below B3.out)).mono ?_
  rintro e w4 ⟨v4, rfl, A4, c4, rfl, hc4, hx4, hr4', hb4⟩
  unfold toldV
  have R4 := Lib.hid hr4'
  have R3 := Lib.hid (R3.out.below hb4)
  have B4 := Lib.hid (B3.out.trans (hb4.mono B3.out.size))
  clear hr4' hb4
  go_wp2_with fail
  refine (Same_any A3 q.length c3 q A4 q.length c4 q _ (R3.out.below ((Below.refl _ _).alloc (Nat.le_refl _) _)) (R4.out.below ((Below.refl _ _).alloc (Nat.le_refl _) _)) HQ.out HQ.out).mono ?_
  rintro e w5 ⟨rfl, h⟩
  obtain rfl := h
  rw [decide_eq_true rfl]
  go_wp2_with fail
  refine (Same_told c _ (HG.out.below (B4.out.alloc B4.out.size _))).mono ?_
  rintro e w6 ⟨rfl, hb6⟩
  have B6 := Lib.hid ((B4.out.alloc B4.out.size _).trans (hb6.mono (Nat.le_trans B4.out.size (by simp))))
  clear hb6
  go_wp2_with fail
  refine (Twin_any a0 p.length cap0 p w6 (hr.out.below B6.out) SM0.out).mono ?_
  rintro e w7 hm7
  obtain ⟨A7, c7, rfl, hc7, hx7, R7, -, -, B7⟩ := thenMade B6.out hm7
  clear hm7
  go_wp2_with fail
  refine (Words10_any a3 l.length cap3 l w7 (hr3.out.below B7.out) SM3.out).mono ?_
  rintro e w8 ⟨v8, rfl, ho8, hb8⟩
  have B8 := Lib.hid (B7.out.trans (hb8.mono B7.out.size))
  have R8 := Lib.hid (R7.out.below hb8)
  obtain ⟨A8, c8, rfl, hc8, hx8⟩ := ho8.form
  have L8 := Lib.hid (ho8.rd u32s_len rfl)
  clear ho8 hb8
  go_wp2_with fail
  refine (PutWords_any A7 p.length c7 p A8 l.length c8 l w8 R8.out L8.out hw3.out SM.out).mono ?_
  rintro e w9 hm9
  obtain ⟨A9, c9, rfl, hc9, hx9, R9, -, -, B9⟩ := thenMade B8.out hm9
  clear hm9
  have HLW : Hid ((p ++ wordsB l).length = p.length + 4 * l.length) := Lib.hid (by rw [List.length_append, wordsB_len])
  have HIB := Lib.hid (InB.append hb.out (wordsB_in hw3.out))
  obtain ⟨r, hr0⟩ : ∃ r, p ++ wordsB l = r := ⟨_, rfl⟩
  rw [hr0] at hc9 R9 HIB ⊢
  have HR0 := Lib.hid hr0
  clear hr0
  go_wp2_with fail
  refine (refPutWords_any a0 p.length cap0 p a3 l.length cap3 l w9 (hr.out.below B9.out) (hr3.out.below B9.out) hw3.out SM.out).mono ?_
  rintro e w10 hm10
  obtain ⟨A10, c10, rfl, hc10, hx10, R10, -, hb10, B10⟩ := thenMade B9.out hm10
  clear hm10
  rw [HR0.out] at hc10 R10 ⊢
  have R9 := Lib.hid (R9.out.below hb10.out)
  clear hb10
  go_wp2_with fail
  refine (Same_any A9 r.length c9 r A10 r.length c10 r w10 R9.out R10.out HIB.out HIB.out).mono ?_
  rintro e w11 ⟨rfl, h⟩
  obtain rfl := h
  rw [decide_eq_true rfl]
  go_wp2_with fail
  go_ret
  exact ⟨rfl, B10.out⟩
end Go.Proofs.YtgnphkopdenghaaDoor
