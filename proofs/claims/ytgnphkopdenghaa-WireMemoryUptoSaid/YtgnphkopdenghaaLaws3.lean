/- The law WireMemory: lists that are handed in stay as they are; answers are new memory. -/
import Derived.Test.YtgnphkopdenghaaLaws2
import Derived.Deep.Upon
import Derived.OwnWalk
import Derived.Laws.CopyOwn
set_option linter.unusedSimpArgs false
set_option linter.unusedVariables false
namespace Go.Proofs.Ytgnphkopdenghaa
open Go.RowKit

def one8 : List Int := [1, 2, 3, 4, 5, 6, 7, 8]
theorem in_one8 : InB one8 := by unfold InB one8; decide
def zerosL (n : Nat) : List Value := (List.replicate n (0 : Int)).map (Value.int .u8)
def zerosV (n : Nat) : Array Value := (zerosL n).toArray
theorem made_zeroV (m : Nat) : madeCells #[Value.int .u8 0] m = zerosV m := by
  unfold zerosV zerosL
  apply Array.toList_inj.1
  rw [toList_madeCells_one]
  simp
/-- A slice whose block is known whole. -/
theorem own_of_cells8 {w : World} {g n cap : Nat} {l : List Int} {B : Nat} (h : w.heap[g]? = some (.cells (l.map (Value.int .u8)).toArray 5 (0, 0))) (hB : B ≤ g) (hl : l.length = cap) (hn : n ≤ cap) (hm : cap ≤ maxLen) :
    OwnB w B (.slice (some ⟨g, 0, none⟩) (l.take n).length cap) (l.take n) := by
  have e : (l.take n).length = n := by rw [List.length_take]; omega
  refine ⟨by rw [flat_len u8s_len], .inr ⟨g, cap, _, by rw [e], hB, h, by omega, hm, by simp [hl], ?_⟩⟩
  rw [flat_map, e, Nat.mul_one, List.map_take]

theorem rd_src {w : World} {A : Option Addr} {n : Nat} {l : List Int} (h : RdB w A n l) (hp : 0 < (l.map (Value.int .u8)).length) : ∃ ad, A = some ad ∧ ∀ j v, (l.map (Value.int .u8))[j]? = some v → w.cell? (ad.add j) = some v := by
  rw [List.length_map, h.1] at hp
  obtain ⟨ad, e, hc⟩ := h.2 hp
  refine ⟨ad, e, fun j v hv => ?_⟩
  rw [List.getElem?_map] at hv
  obtain ⟨x, hx, rfl⟩ := Option.map_eq_some_iff.1 hv
  have := hc j x 0 _ hx rfl
  rwa [Nat.mul_one, Nat.add_zero] at this
theorem ints_one (l : List Int) : ∀ v ∈ l.map (Value.int .u8), v.oneCell' = true := by
  intro v hv
  obtain ⟨x, _, rfl⟩ := List.mem_map.1 hv
  rfl
theorem splice_zero (l : List Int) : splice (zerosL (l.length + 8)) 0 (l.map (Value.int .u8)) = (l ++ List.replicate 8 (0 : Int)).map (Value.int .u8) := by
  simp [splice, zerosL]
theorem news8 (W : World) : ∀ j u, (one8.map (Value.int .u8))[j]? = some u → (W.alloc (.cells #[.int .u8 1, .int .u8 2, .int .u8 3, .int .u8 4, .int .u8 5, .int .u8 6, .int .u8 7, .int .u8 8] 5)).cell? ((⟨W.heap.size, 0, none⟩ : Addr).add j) = some u :=
  World.news_of_block (heap_alloc_new W _)
theorem own_joined {w : World} {B g n : Nat} {l : List Int} (h : w.ownsRow B 5 1 (.slice (some ⟨g, 0, none⟩) (l.length + 8) n) (l.length + 8) (l.flatMap u8s ++ one8.map (Value.int .u8))) :
    OwnB w B (.slice (some ⟨g, 0, none⟩) (l ++ one8).length n) (l ++ one8) := by
  have e : (l ++ one8).length = l.length + 8 := by simp [one8]
  unfold OwnB Own
  rw [e, List.flatMap_append, flat_map one8]
  exact h

theorem add_plain0 (g j : Nat) : (⟨g, 0, none⟩ : Addr).add j = ⟨g, j, none⟩ := by unfold Addr.add; split <;> simp_all

/-- A row of the call's own of so many bytes, whatever they are. -/
def Live (W : World) (base : Nat) (v : Value) (n : Nat) : Prop := ∃ l : List Int, l.length = n ∧ OwnB W base v l
theorem Live.put {W : World} {base g n c : Nat} (h : Live W base (.slice (some ⟨g, 0, none⟩) n c) n) (k : Nat) (x : Int) : Live (W.setCell ⟨g, k, none⟩ (.int .u8 x)) base (.slice (some ⟨g, 0, none⟩) n c) n := by
  obtain ⟨l, rfl, ho⟩ := h
  have h2 := own_put ho k x
  rw [List.length_set] at h2
  exact ⟨l.set k x, List.length_set, h2⟩
theorem Live.far {W : World} {base g n k : Nat} {v u : Value} (h : Live W base v n) (hne : v.ownBlock ≠ some g) : Live (W.setCell ⟨g, k, none⟩ u) base v n := by
  obtain ⟨l, hl, ho⟩ := h
  exact ⟨l, hl, own_far ho hne u⟩
theorem Live.get {W : World} {base n c k : Nat} {A : Option Addr} (h : Live W base (.slice A n c) n) (hk : k < n) : ∃ g x, A = some ⟨g, 0, none⟩ ∧ base ≤ g ∧ W.cell? ⟨g, k, none⟩ = some (.int .u8 x) ∧ W.frozen? ⟨g, k, none⟩ = false := by
  obtain ⟨l, rfl, ho⟩ := h
  obtain ⟨g, c', hv, hge, _⟩ := World.ownsRow.form ho (by omega)
  injection hv with h1 _ _
  subst h1
  obtain ⟨d0, d1⟩ := own_get ho hk
  exact ⟨g, _, rfl, hge, d0, d1⟩
/-- Two values hold no block in common. -/
def Apart (v v' : Value) : Prop := ∀ g, v.ownBlock = some g → v'.ownBlock ≠ some g
theorem apart_of {w w' : World} {b1 b2 : Nat} {v v' : Value} {l l' : List Int} (h : OwnB w b1 v l) (h' : OwnB w' b2 v' l') (hb : w.heap.size ≤ b2) : Apart v v' := fun g e e' => by
  have h1 := (h.block e).2
  have h2 := (h'.block e').1
  omega
theorem Apart.symm {v v' : Value} (h : Apart v v') : Apart v' v := fun g e e' => h g e' e
/-- Three lists that are written, two that are not, the list of the three. -/
structure Five (w W : World) (bf ba bb bc bd G : Nat) (vf va vb vc vd : Value) (nf na nc : Nat) (lb ld : List Int) (cells : Array Value) : Prop where
  f : Live W bf vf nf
  a : Live W ba va na
  c : Live W bc vc nc
  b : OwnB W bb vb lb
  d : OwnB W bd vd ld
  cells : Cells W G cells 22
  bel : Below w.heap.size w W

set_option maxHeartbeats 3200000 in
theorem WireMemory_walk (a0 : Option Addr) (len0 cap0 : Nat) (z0 : List Int) (a1 : Option Addr) (len1 cap1 : Nat) (z1 : List Int) (w : World) (w0 : IsRow .u8 w a0 len0 cap0 z0) (y0 : len0 * 1 ≤ 140737488351232)
    (w1 : IsRow .u32 w a1 len1 cap1 z1) (y1 : len1 * 4 ≤ 140737488351232) (small : cap0 + cap1 ≤ 1048576) :
    Calls Try.prog 4 #[.slice a0 len0 cap0, .slice a1 len1 cap1] w (BoolBelow true w) := by
  obtain ⟨hlc, hcm⟩ := w0.cap
  obtain ⟨hlc1, hcm1⟩ := w1.cap
  have hr := Lib.hid w0.rd
  have hb := Lib.hid w0.inB
  have hl := w0.rd.1
  have hr3 := Lib.hid w1.rd
  have hl3 := w1.rd.1
  have hw3 : Hid (InW (z1.take len1)) := Lib.hid (fun b hb => by
    have h := w1.wf b hb
    simpa [Lit.wf, IntKind.min, IntKind.max, IntKind.signed, IntKind.bits] using h)
  clear w0 w1
  generalize z0.take len0 = l at *
  generalize z1.take len1 = m at *
  obtain rfl := hl
  obtain rfl := hl3
  have HLW : Hid ((l ++ wordsB m).length = l.length + 4 * m.length) := Lib.hid (by rw [List.length_append, wordsB_len])
  have HLP : Hid ((l ++ bytesN 77 2).length = l.length + 2) := Lib.hid (by rw [List.length_append, bytesN_len])
  have hmk : ∀ W : World, (Instr.makeSlice 22 (.int .i64 (l.length : Int)) (.int .i64 ((l.length : Int) + 8))).run Try.prog W = .ok (.slice (some ⟨W.heap.size, 0, none⟩) l.length (l.length + 8)) (W.alloc (.cells (zerosV (l.length + 8)) 5)) := fun W => by
    obtain ⟨i, hi, hz0, hz1, hz2⟩ := info_parts info_u8
    have h := run_make (P := Try.prog) W 22 5 i _ Try.underlying22 hi hz0 .i64 .i64 (l.length : Int) ((l.length : Int) + 8) (by omega) (by omega) (by rw [hz2]; omega) (by omega)
    rw [h, hz1, Nat.mul_one, show ((l.length : Int) + 8).toNat = l.length + 8 by omega, Int.toNat_natCast]
    exact congrArg (fun c => Result.ok (Value.slice (some ⟨W.heap.size, 0, none⟩) l.length (l.length + 8)) (W.alloc (.cells c 5))) (made_zeroV (l.length + 8))
  go_enter Try.func4, Try.ntmps4
  go_wp2_with fail
  refine (awake_any w).mono ?_
  rintro e w1 ⟨rfl, hb1⟩
  have B1 := Lib.hid hb1
  clear hb1
  obtain ⟨i, hi, hz0, hz1, hz2⟩ := info_parts info_u8
  go_wp2_with (first
    | (refine wpList_copy_splice rfl (.tmp 24) (.tmp 25) 22 22 rfl 5 Try.underlying22 rfl (some ⟨w1.heap.size, 0, none⟩) a0 l.length (l.length + 8) l.length cap0 rfl rfl w1.heap.size 0 (zerosL (l.length + 8)) 5 (heap_alloc_new w1 _) (l.map (Value.int .u8)) (by simp) (fun h => ⟨rfl, rd_src ((hr.out.below B1.out).below ((Below.refl _ _).alloc (Nat.le_refl _) _)) h⟩) (by simp [zerosL]) (ints_one l) w.heap.size w (B1.out.alloc B1.out.size _) B1.out.size ?_
       intro w2 hh2 hb2
       rw [splice_zero] at hh2
       have HO2 : Hid (OwnB w2 w.heap.size (.slice (some ⟨w1.heap.size, 0, none⟩) ((l ++ List.replicate 8 (0 : Int)).take l.length).length (l.length + 8)) ((l ++ List.replicate 8 (0 : Int)).take l.length)) := Lib.hid (own_of_cells8 hh2.out B1.out.size (by simp) (by omega) (by unfold maxLen; omega))
       have B2 := Lib.hid hb2
       clear hh2 hb2)
    | (at_builtin
       refine wpList_append_fits _ rfl (.tmp 27) (.tmp 28) 22 rfl w.heap.size 5 i 1 Try.underlying22 hi hz1 w1.heap.size l.length (l.length + 8) (l.flatMap u8s) rfl (by have h := HO2.out.below ((Below.refl _ _).alloc (Nat.le_refl _) (.cells #[.int .u8 1, .int .u8 2, .int .u8 3, .int .u8 4, .int .u8 5, .int .u8 6, .int .u8 7, .int .u8 8] 5)); rw [List.take_left] at h; exact h) ⟨w2.heap.size, 0, none⟩ 8 8 (one8.map (Value.int .u8)) rfl rfl (news8 w2) (ints_one one8) (by omega) ?_
       intro w3 ho3 hg3
       have HO3 : Hid (OwnB w3 w.heap.size (.slice (some ⟨w1.heap.size, 0, none⟩) (l ++ one8).length (l.length + 8)) (l ++ one8)) := Lib.hid (own_joined ho3)
       have B3 : Hid (Below w.heap.size w w3) := Lib.hid ((B2.out.alloc B2.out.size _).grown hg3 (by have := B2.out.size; simp; omega) (fun k hk => by injection hk with hk; subst hk; exact B1.out.size))
       clear ho3 hg3))
  have RF := Lib.hid (HO3.out.rd u8s_len rfl)
  have RX : Hid (RdB w3 (some ⟨w1.heap.size, 0, none⟩) l.length l) := Lib.hid (by have h := RF.out.take (k := l.length) (by simp); rwa [List.take_left] at h)
  refine (Put_ok _ _ _ l 77 2 w3 RX.out (by omega) (by omega) (by omega) (by omega) (.inr (by decide)) (by omega)).mono ?_
  rintro e w4 ⟨v4, rfl, ho4, hb4⟩
  obtain ⟨A4, c4, rfl, hc4, hx4⟩ := ho4.form
  have O4 := Lib.hid ho4
  have B34 := Lib.hid hb4
  have B4 := Lib.hid (B3.out.trans (hb4.mono B3.out.size))
  clear ho4 hb4
  rw [HLP.out]
  go_wp2_with fail
  refine (Put_ok _ _ _ l 77 2 w4 (RX.out.below B34.out) (by omega) (by omega) (by omega) (by omega) (.inr (by decide)) (by omega)).mono ?_
  rintro e w5 ⟨v5, rfl, ho5, hb5⟩
  obtain ⟨A5, c5, rfl, hc5, hx5⟩ := ho5.form
  have O5 := Lib.hid ho5
  have B45 := Lib.hid hb5
  have B5 := Lib.hid (B4.out.trans (hb5.mono B4.out.size))
  clear ho5 hb5
  rw [HLP.out]
  have RX5 := Lib.hid ((RX.out.below B34.out).below B45.out)
  go_wp2_with fail
  refine (PutWords_any _ _ _ l a1 m.length cap1 m w5 RX5.out (hr3.out.below B5.out) hw3.out (by omega)).mono ?_
  rintro e w6 ⟨v6, rfl, ho6, hb6⟩
  obtain ⟨A6, c6, rfl, hc6, hx6⟩ := ho6.form
  have O6 := Lib.hid ho6
  have B56 := Lib.hid hb6
  have B6 := Lib.hid (B5.out.trans (hb6.mono B5.out.size))
  clear ho6 hb6
  rw [HLW.out]
  have RX6 := Lib.hid (RX5.out.below B56.out)
  go_wp2_with fail
  refine (PutWords_any _ _ _ l a1 m.length cap1 m w6 RX6.out (hr3.out.below B6.out) hw3.out (by omega)).mono ?_
  rintro e w7 ⟨v7, rfl, ho7, hb7⟩
  obtain ⟨A7, c7, rfl, hc7, hx7⟩ := ho7.form
  have O7 := Lib.hid ho7
  have B67 := Lib.hid hb7
  have B7 := Lib.hid (B6.out.trans (hb7.mono B6.out.size))
  clear ho7 hb7
  rw [HLW.out]
  have RX7 := Lib.hid (RX6.out.below B67.out)
  have RF7 := Lib.hid ((((RF.out.below B34.out).below B45.out).below B56.out).below B67.out)
  go_wp2_with fail
  refine (Same_any _ _ _ l a0 _ cap0 l w7 RX7.out (hr.out.below B7.out) hb.out hb.out).mono ?_
  rintro e w7' ⟨rfl, hw7e⟩
  obtain rfl := hw7e
  rw [decide_eq_true rfl]
  go_wp2_with fail
  have RT7 : Hid (RdB w7 (some ⟨w1.heap.size, l.length, none⟩) 8 one8) := Lib.hid (by
    have h := RF7.out.drop (k := l.length) (cap := l.length + 8) (by simp) (by simp [one8])
    rw [if_neg (by omega), List.drop_left, Option.map_some, Nat.mul_one, add_plain0] at h
    have e : (l ++ one8).length - l.length = 8 := by simp [one8]
    rwa [e] at h)
  have A7' := (Below.refl w7.heap.size w7).alloc (Nat.le_refl _) (.cells #[.int .u8 1, .int .u8 2, .int .u8 3, .int .u8 4, .int .u8 5, .int .u8 6, .int .u8 7, .int .u8 8] 5)
  refine (Same_any _ _ _ one8 _ _ _ one8 _ (RT7.out.below A7') (rd_new u8s_len w7 5 one8) in_one8 in_one8).mono ?_
  rintro e w8 ⟨rfl, hw8⟩
  rw [decide_eq_true rfl]
  have B78 : Hid (Below w7.heap.size w7 w8) := Lib.hid (by rw [← hw8]; exact A7')
  clear hw8 A7'
  go_wp2_with fail
  have HB : ∀ cs, Hid (Below w7.heap.size w7 (w8.alloc (.cells cs 22))) := fun cs => Lib.hid (B78.out.alloc B78.out.size _)
  have HINV : Hid (Five w (w8.alloc (.cells #[.slice (some ⟨w1.heap.size, 0, none⟩) (l.length + 8) (l.length + 8), .slice A4 (l.length + 2) c4, .slice A6 (l.length + 4 * m.length) c6] 22)) w.heap.size w3.heap.size w4.heap.size w5.heap.size w6.heap.size w8.heap.size (.slice (some ⟨w1.heap.size, 0, none⟩) (l.length + 8) (l.length + 8)) (.slice A4 (l.length + 2) c4) (.slice A5 (l.length + 2) c5) (.slice A6 (l.length + 4 * m.length) c6) (.slice A7 (l.length + 4 * m.length) c7) (l.length + 8) (l.length + 2) (l.length + 4 * m.length) (l ++ bytesN 77 2) (l ++ wordsB m) #[.slice (some ⟨w1.heap.size, 0, none⟩) (l.length + 8) (l.length + 8), .slice A4 (l.length + 2) c4, .slice A6 (l.length + 4 * m.length) c6]) := Lib.hid (by
    have hbb := (HB #[.slice (some ⟨w1.heap.size, 0, none⟩) (l.length + 8) (l.length + 8), .slice A4 (l.length + 2) c4, .slice A6 (l.length + 4 * m.length) c6]).out
    have e8 : (l ++ one8).length = l.length + 8 := by simp [one8]
    have hF := (((((HO3.out.below B34.out).below B45.out).below B56.out).below B67.out).below hbb)
    have hA := (((O4.out.below B45.out).below B56.out).below B67.out).below hbb
    have hB := ((O5.out.below B56.out).below B67.out).below hbb
    have hC := (O6.out.below B67.out).below hbb
    have hD := O7.out.below hbb
    rw [e8] at hF
    rw [HLP.out] at hA hB
    rw [HLW.out] at hC hD
    exact ⟨⟨_, e8, hF⟩, ⟨_, HLP.out, hA⟩, ⟨_, HLW.out, hC⟩, hB, hD, heap_alloc_new _ _, B7.out.trans (hbb.mono B7.out.size)⟩)
  have e8 : (l ++ one8).length = l.length + 8 := by simp [one8]
  have hF0 := HO3.out
  have hA0 := O4.out
  have hB0 := O5.out
  have hC0 := O6.out
  have hD0 := O7.out
  rw [e8] at hF0
  rw [HLP.out] at hA0 hB0
  rw [HLW.out] at hC0 hD0
  have s34 := B34.out.size
  have s45 := B45.out.size
  have s56 := B56.out.size
  have s67 := B67.out.size
  have s78 := B78.out.size
  have PFA := Lib.hid (apart_of hF0 hA0 (Nat.le_refl _))
  have PFB := Lib.hid (apart_of hF0 hB0 (by omega))
  have PFC := Lib.hid (apart_of hF0 hC0 (by omega))
  have PFD := Lib.hid (apart_of hF0 hD0 (by omega))
  have PAB := Lib.hid (apart_of hA0 hB0 (Nat.le_refl _))
  have PAC := Lib.hid (apart_of hA0 hC0 (by omega))
  have PAD := Lib.hid (apart_of hA0 hD0 (by omega))
  have PBC := Lib.hid (apart_of hB0 hC0 (Nat.le_refl _))
  have PCD := Lib.hid (apart_of hC0 hD0 (Nat.le_refl _))
  have QF : Hid (w1.heap.size < w8.heap.size ∧ w.heap.size ≤ w1.heap.size) := Lib.hid (by have h := (hF0.block (k := w1.heap.size) rfl).2; have := B1.out.size; omega)
  have QA : Hid (∀ g, A4 = some ⟨g, 0, none⟩ → g < w8.heap.size ∧ w.heap.size ≤ g) := Lib.hid (fun g e => by subst e; have h := hA0.block (k := g) rfl; have := B3.out.size; omega)
  have QC : Hid (∀ g, A6 = some ⟨g, 0, none⟩ → g < w8.heap.size ∧ w.heap.size ≤ g) := Lib.hid (fun g e => by subst e; have h := hC0.block (k := g) rfl; have := B5.out.size; omega)
  clear e8 hF0 hA0 hB0 hC0 hD0 s34 s45 s56 s67 s78 HB
  generalize hG : w8.heap.size = G at *
  have HGX := Lib.hid hG
  clear hG
  go_loopw [67] (fun i W => ∃ q : Nat, q ≤ 3 ∧ i = .int .i64 q ∧ Five w W w.heap.size w3.heap.size w4.heap.size w5.heap.size w6.heap.size G (.slice (some ⟨w1.heap.size, 0, none⟩) (l.length + 8) (l.length + 8)) (.slice A4 (l.length + 2) c4) (.slice A5 (l.length + 2) c5) (.slice A6 (l.length + 4 * m.length) c6) (.slice A7 (l.length + 4 * m.length) c7) (l.length + 8) (l.length + 2) (l.length + 4 * m.length) (l ++ bytesN 77 2) (l ++ wordsB m) #[.slice (some ⟨w1.heap.size, 0, none⟩) (l.length + 8) (l.length + 8), .slice A4 (l.length + 2) c4, .slice A6 (l.length + 4 * m.length) c6]) (fun i _ => 3 - (intOf i).toNat)
  case atStart => exact ⟨0, by omega, rfl, HINV.out⟩
  case round =>
    obtain ⟨q, hq, rfl, hi⟩ := hrel
    have HI := Lib.hid hi
    clear hi HINV
    have hq' : q = 0 ∨ q = 1 ∨ q = 2 ∨ q = 3 := by omega
    rcases hq' with hq | hq | hq | hq
    · have hq0 := Lib.hid hq
      have c0 : wr.cell? ⟨G, q, none⟩ = some (.slice (some ⟨w1.heap.size, 0, none⟩) (l.length + 8) (l.length + 8)) := by rw [hq0.out]; exact HI.out.cells.cell 0
      have hq3 : q < 3 := by omega
      clear hq
      obtain ⟨W0, rfl⟩ : ∃ W0 : World, W0 = wr := ⟨_, rfl⟩
      go_wp2_with fail
      go_loopw [73] (fun i W => ∃ k : Nat, k ≤ l.length + 8 ∧ i = .int .i64 k ∧ Five w W w.heap.size w3.heap.size w4.heap.size w5.heap.size w6.heap.size G (.slice (some ⟨w1.heap.size, 0, none⟩) (l.length + 8) (l.length + 8)) (.slice A4 (l.length + 2) c4) (.slice A5 (l.length + 2) c5) (.slice A6 (l.length + 4 * m.length) c6) (.slice A7 (l.length + 4 * m.length) c7) (l.length + 8) (l.length + 2) (l.length + 4 * m.length) (l ++ bytesN 77 2) (l ++ wordsB m) #[.slice (some ⟨w1.heap.size, 0, none⟩) (l.length + 8) (l.length + 8), .slice A4 (l.length + 2) c4, .slice A6 (l.length + 4 * m.length) c6]) (fun i _ => l.length + 8 - (intOf i).toNat)
      case atStart => exact ⟨0, by omega, rfl, HI.out⟩
      case round =>
        obtain ⟨k, hk, rfl, hi⟩ := hrel
        have HJ := Lib.hid hi
        clear hi
        by_cases hlt2 : k < l.length + 8
        · obtain ⟨g, z, hA, hge, d0, d1⟩ := HJ.out.f.get hlt2
          injection hA with hA
          obtain rfl : w1.heap.size = g := congrArg Addr.block hA
          go_wp2_with fail
          go_roundw
          case rel => exact ⟨k + 1, by omega, by go_num, ⟨HJ.out.f.put k 221, HJ.out.a.far (PFA.out _ rfl), HJ.out.c.far (PFC.out _ rfl), own_far (p := ⟨w1.heap.size, k, none⟩) HJ.out.b (PFB.out _ rfl) _, own_far (p := ⟨w1.heap.size, k, none⟩) HJ.out.d (PFD.out _ rfl) _, HJ.out.cells.far k _ (by have h := QF.out; omega), HJ.out.bel.setCell (p := ⟨w1.heap.size, k, none⟩) (by have h := QF.out; simp only []; omega) _⟩⟩
          case measure => simp [intOf]; omega
        · obtain rfl : k = l.length + 8 := by omega
          go_wp2_with fail
          go_roundw
          case rel => exact ⟨q + 1, by omega, by go_num, HJ.out⟩
          case measure => simp [intOf]; omega
    · have hq0 := Lib.hid hq
      have c0 : wr.cell? ⟨G, q, none⟩ = some (.slice A4 (l.length + 2) c4) := by rw [hq0.out]; exact HI.out.cells.cell 1
      have hq3 : q < 3 := by omega
      clear hq
      obtain ⟨W0, rfl⟩ : ∃ W0 : World, W0 = wr := ⟨_, rfl⟩
      go_wp2_with fail
      go_loopw [73] (fun i W => ∃ k : Nat, k ≤ l.length + 2 ∧ i = .int .i64 k ∧ Five w W w.heap.size w3.heap.size w4.heap.size w5.heap.size w6.heap.size G (.slice (some ⟨w1.heap.size, 0, none⟩) (l.length + 8) (l.length + 8)) (.slice A4 (l.length + 2) c4) (.slice A5 (l.length + 2) c5) (.slice A6 (l.length + 4 * m.length) c6) (.slice A7 (l.length + 4 * m.length) c7) (l.length + 8) (l.length + 2) (l.length + 4 * m.length) (l ++ bytesN 77 2) (l ++ wordsB m) #[.slice (some ⟨w1.heap.size, 0, none⟩) (l.length + 8) (l.length + 8), .slice A4 (l.length + 2) c4, .slice A6 (l.length + 4 * m.length) c6]) (fun i _ => l.length + 2 - (intOf i).toNat)
      case atStart => exact ⟨0, by omega, rfl, HI.out⟩
      case round =>
        obtain ⟨k, hk, rfl, hi⟩ := hrel
        have HJ := Lib.hid hi
        clear hi
        by_cases hlt2 : k < l.length + 2
        · obtain ⟨g, z, hA, hge, d0, d1⟩ := HJ.out.a.get hlt2
          subst hA
          go_wp2_with fail
          go_roundw
          case rel => exact ⟨k + 1, by omega, by go_num, ⟨HJ.out.f.far (PFA.out.symm _ rfl), HJ.out.a.put k 221, HJ.out.c.far (PAC.out _ rfl), own_far (p := ⟨g, k, none⟩) HJ.out.b (PAB.out _ rfl) _, own_far (p := ⟨g, k, none⟩) HJ.out.d (PAD.out _ rfl) _, HJ.out.cells.far k _ (by have h := QA.out g rfl; omega), HJ.out.bel.setCell (p := ⟨g, k, none⟩) (by have h := QA.out g rfl; simp only []; omega) _⟩⟩
          case measure => simp [intOf]; omega
        · obtain rfl : k = l.length + 2 := by omega
          go_wp2_with fail
          go_roundw
          case rel => exact ⟨q + 1, by omega, by go_num, HJ.out⟩
          case measure => simp [intOf]; omega
    · have hq0 := Lib.hid hq
      have c0 : wr.cell? ⟨G, q, none⟩ = some (.slice A6 (l.length + 4 * m.length) c6) := by rw [hq0.out]; exact HI.out.cells.cell 2
      have hq3 : q < 3 := by omega
      clear hq
      obtain ⟨W0, rfl⟩ : ∃ W0 : World, W0 = wr := ⟨_, rfl⟩
      go_wp2_with fail
      go_loopw [73] (fun i W => ∃ k : Nat, k ≤ l.length + 4 * m.length ∧ i = .int .i64 k ∧ Five w W w.heap.size w3.heap.size w4.heap.size w5.heap.size w6.heap.size G (.slice (some ⟨w1.heap.size, 0, none⟩) (l.length + 8) (l.length + 8)) (.slice A4 (l.length + 2) c4) (.slice A5 (l.length + 2) c5) (.slice A6 (l.length + 4 * m.length) c6) (.slice A7 (l.length + 4 * m.length) c7) (l.length + 8) (l.length + 2) (l.length + 4 * m.length) (l ++ bytesN 77 2) (l ++ wordsB m) #[.slice (some ⟨w1.heap.size, 0, none⟩) (l.length + 8) (l.length + 8), .slice A4 (l.length + 2) c4, .slice A6 (l.length + 4 * m.length) c6]) (fun i _ => l.length + 4 * m.length - (intOf i).toNat)
      case atStart => exact ⟨0, by omega, rfl, HI.out⟩
      case round =>
        obtain ⟨k, hk, rfl, hi⟩ := hrel
        have HJ := Lib.hid hi
        clear hi
        by_cases hlt2 : k < l.length + 4 * m.length
        · obtain ⟨g, z, hA, hge, d0, d1⟩ := HJ.out.c.get hlt2
          subst hA
          go_wp2_with fail
          go_roundw
          case rel => exact ⟨k + 1, by omega, by go_num, ⟨HJ.out.f.far (PFC.out.symm _ rfl), HJ.out.a.far (PAC.out.symm _ rfl), HJ.out.c.put k 221, own_far (p := ⟨g, k, none⟩) HJ.out.b (PBC.out.symm _ rfl) _, own_far (p := ⟨g, k, none⟩) HJ.out.d (PCD.out _ rfl) _, HJ.out.cells.far k _ (by have h := QC.out g rfl; omega), HJ.out.bel.setCell (p := ⟨g, k, none⟩) (by have h := QC.out g rfl; simp only []; omega) _⟩⟩
          case measure => simp [intOf]; omega
        · obtain rfl : k = l.length + 4 * m.length := by omega
          go_wp2_with fail
          go_roundw
          case rel => exact ⟨q + 1, by omega, by go_num, HJ.out⟩
          case measure => simp [intOf]; omega
    · have HQ3 := Lib.hid hq
      have hq3 : ¬ q < 3 := by omega
      clear hq
      go_wp2_with fail
      refine (refPut_any a0 l.length cap0 l 77 2 wr (hr.out.below HI.out.bel) (by omega) (by omega) (by omega) (by omega)).mono ?_
      rintro e w10 hm10
      obtain ⟨A10, c10, rfl, hc10, hx10, R10, -, B910, B10⟩ := thenMade (Lib.hid HI.out.bel).out hm10
      clear hm10
      have R10' := R10.out
      rw [HLP.out] at R10' ⊢
      have S10 := Lib.hid R10'
      clear R10' hc10
      go_wp2_with fail
      refine (Same_any A5 (l.length + 2) c5 (l ++ bytesN 77 2) A10 _ c10 (l ++ bytesN 77 2) w10 ((HI.out.b.rd u8s_len rfl).below B910.out) S10.out (InB.append hb.out (bytesN_in _ _)) (InB.append hb.out (bytesN_in _ _))).mono ?_
      rintro e w10' ⟨rfl, hw10e⟩
      obtain rfl := hw10e
      rw [decide_eq_true rfl]
      have RD10 := Lib.hid ((HI.out.d.rd u8s_len rfl).below B910.out)
      go_wp2_with fail
      refine (refPutWords_any a0 l.length cap0 l a1 m.length cap1 m w10 (hr.out.below B10.out) (hr3.out.below B10.out) hw3.out (by omega)).mono ?_
      rintro e w11 hm11
      obtain ⟨A11, c11, rfl, hc11, hx11, R11, -, B1011, B11⟩ := thenMade B10.out hm11
      clear hm11
      have R11' := R11.out
      rw [HLW.out] at R11' ⊢
      have S11 := Lib.hid R11'
      clear R11' hc11
      go_wp2_with fail
      refine (Same_any A7 (l.length + 4 * m.length) c7 (l ++ wordsB m) A11 _ c11 (l ++ wordsB m) w11 (RD10.out.below B1011.out) S11.out (InB.append hb.out (wordsB_in hw3.out)) (InB.append hb.out (wordsB_in hw3.out))).mono ?_
      rintro e w11' ⟨rfl, hw11e⟩
      obtain rfl := hw11e
      rw [decide_eq_true rfl]
      go_wp2
      go_ret
      exact ⟨by simp, B11.out⟩
end Go.Proofs.Ytgnphkopdenghaa
