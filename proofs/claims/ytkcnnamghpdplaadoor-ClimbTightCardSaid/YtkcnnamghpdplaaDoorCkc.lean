/- Two lists of answers, both added to. -/
import Derived.Test.YtkcnnamghpdplaaDoorCkb
import Derived.Test.YtkcnnamghpdplaaDoorCl25
import Derived.Test.YtkcnnamghpdplaaDoorCd3
set_option linter.unusedSimpArgs false
set_option linter.unusedVariables false
namespace Go.Proofs.YtkcnnamghpdplaaDoor
open Go.RowKit

/-- a slice, as one cell tells it -/
structure SlT where
  a : Option Addr
  n : Nat
  c : Nat
abbrev slV (s : SlT) : Value := .slice s.a s.n s.c
abbrev encL (s : SlT) : List Value := [.slice s.a s.n s.c]
theorem encL_len : ∀ x, (encL x).length = 1 := fun _ => rfl
theorem encL_one : ∀ x, ∀ u ∈ encL x, u.oneCell' = true := fun x u h => by
  simp only [encL, List.mem_cons, List.not_mem_nil, or_false] at h
  rw [h]
  rfl
theorem info_seens : (Tryd.prog.info? 28).map (fun i => (i.zero, i.size, i.bytes)) = some (some (.slice none 0 0), 1, 24) := by kernel_rfl
theorem rd_sl {w : World} {k : Nat} {x : SlT} (hk : w.heap.size = k) : Rd 1 encL (w.alloc (.cells #[.slice x.a x.n x.c] 28)) (some ⟨k, 0, none⟩) 1 [x] := by
  subst hk
  exact rd_new encL_len w 28 [x]
abbrev OwnL (w : World) (base : Nat) (v : Value) (l : List SlT) : Prop := Own 28 1 encL w base v l
theorem keptS_own {α : Type} {e sz : Nat} {enc : α → List Value} {w w' : World} {base : Nat} {v : Value} {l : List α} {S : Nat → Prop} (h : Own e sz enc w base v l) (hk : Kept S w w') (hn : ∀ k, v.ownBlock = some k → ¬ S k) : Own e sz enc w' base v l := by
  refine ⟨h.1, ?_⟩
  rcases h.2 with hn' | ⟨g, cap, cur, rfl, hb, hg, r⟩
  · exact .inl hn'
  · exact .inr ⟨g, cap, cur, rfl, hb, (hk.block g (Array.getElem?_eq_some_iff.1 hg).1 (hn g rfl)).trans hg, r⟩
structure Two (w : World) (base : Nat) (uv dv : Value) (us ds : List SlT) (Ls Ms : List (List SeenT)) : Prop where
  u : OwnL w base uv us
  d : OwnL w base dv ds
  ul : us.length = Ls.length
  dl : ds.length = Ms.length
  ur : ∀ (i : Nat) (s : SlT) (L : List SeenT), us[i]? = some s → Ls[i]? = some L → OwnSn w base (slV s) L
  dr : ∀ (i : Nat) (s : SlT) (L : List SeenT), ds[i]? = some s → Ms[i]? = some L → OwnSn w base (slV s) L
  sep : ∀ k, uv.ownBlock = some k → dv.ownBlock ≠ some k
  un : ∀ s ∈ us, ∀ k, (slV s).ownBlock = some k → uv.ownBlock ≠ some k ∧ dv.ownBlock ≠ some k
  dn : ∀ s ∈ ds, ∀ k, (slV s).ownBlock = some k → uv.ownBlock ≠ some k ∧ dv.ownBlock ≠ some k
theorem Two.start (w : World) (base : Nat) : Two w base (.slice none 0 0) (.slice none 0 0) [] [] [] [] :=
  ⟨Own.nil _ _ _ _ _, Own.nil _ _ _ _ _, rfl, rfl, fun i s L h => (by simp at h), fun i s L h => (by simp at h), fun k h => (by cases h), fun s h => (by cases h), fun s h => (by cases h)⟩
theorem Two.swap {w : World} {base : Nat} {uv dv : Value} {us ds : List SlT} {Ls Ms : List (List SeenT)} (h : Two w base uv dv us ds Ls Ms) : Two w base dv uv ds us Ms Ls :=
  ⟨h.d, h.u, h.dl, h.ul, h.dr, h.ur, fun k h1 h2 => h.sep k h2 h1, fun s hs k hk => ⟨(h.dn s hs k hk).2, (h.dn s hs k hk).1⟩, fun s hs k hk => ⟨(h.un s hs k hk).2, (h.un s hs k hk).1⟩⟩
theorem Two.below {w w' : World} {base : Nat} {uv dv : Value} {us ds : List SlT} {Ls Ms : List (List SeenT)} (h : Two w base uv dv us ds Ls Ms) (hb : Below w.heap.size w w') : Two w' base uv dv us ds Ls Ms :=
  ⟨h.u.below hb, h.d.below hb, h.ul, h.dl, fun i s L h1 h2 => (h.ur i s L h1 h2).below hb, fun i s L h1 h2 => (h.dr i s L h1 h2).below hb, h.sep, h.un, h.dn⟩
theorem snoc_at {α : Type} {l : List α} {x y : α} {i : Nat} (h : (l ++ [x])[i]? = some y) : l[i]? = some y ∨ i = l.length ∧ y = x := by
  rcases Nat.lt_trichotomy i l.length with h1 | h1 | h1
  · rw [List.getElem?_append_left h1] at h
    exact .inl h
  · subst h1
    rw [List.getElem?_append_right (Nat.le_refl _), Nat.sub_self] at h
    exact .inr ⟨rfl, (Option.some.inj h).symm⟩
  · rw [List.getElem?_append_right (by omega), show i - l.length = (i - l.length - 1) + 1 by omega] at h
    simp at h
/-- one more answer in the first list -/
theorem Two.push {w w2 : World} {base : Nat} {uv dv uv' : Value} {us ds : List SlT} {Ls Ms : List (List SeenT)} {s : SlT} {L : List SeenT} (h : Two w base uv dv us ds Ls Ms) (hg : w.grownBy w2 uv.ownBlock) (ho : OwnL w2 base uv' (us ++ [s])) (hat : uv'.ownBlock = uv.ownBlock ∨ uv'.ownBlock = some w.heap.size)
    (hs : OwnSn w base (slV s) L) (hn : ∀ k, (slV s).ownBlock = some k → uv.ownBlock ≠ some k ∧ dv.ownBlock ≠ some k) : Two w2 base uv' dv (us ++ [s]) ds (Ls ++ [L]) Ms ∧ (∀ k, k < w.heap.size → uv.ownBlock ≠ some k → uv'.ownBlock ≠ some k) := by
  have hnew : ∀ k, k < w.heap.size → uv.ownBlock ≠ some k → uv'.ownBlock ≠ some k := by
    intro k hk hne e
    rcases hat with h1 | h1
    · rw [h1] at e; exact hne e
    · rw [h1] at e
      have := Option.some.inj e
      omega
  have keep : ∀ {v : Value} {l : List SeenT}, OwnSn w base v l → (∀ k, v.ownBlock = some k → uv.ownBlock ≠ some k) → OwnSn w2 base v l := by
    intro v l h1 h2
    refine Own.kept h1 hg ?_
    cases hv : v.ownBlock with
    | none => exact .inl rfl
    | some k => exact .inr fun e => h2 k hv e.symm
  have lt : ∀ {v : Value} {l : List SeenT}, OwnSn w base v l → ∀ k, v.ownBlock = some k → k < w.heap.size := fun h1 k hk => (h1.block hk).2
  have ltd : ∀ k, dv.ownBlock = some k → k < w.heap.size := fun k hk => (h.d.block hk).2
  have rowU : ∀ t ∈ us, ∀ k, (slV t).ownBlock = some k → k < w.heap.size := by
    intro t ht k hk
    obtain ⟨i, hi, e⟩ := List.getElem_of_mem ht
    have hi2 : i < Ls.length := by rw [← h.ul]; exact hi
    exact lt (h.ur i t _ (by rw [List.getElem?_eq_getElem hi, e]) (List.getElem?_eq_getElem hi2)) k hk
  have rowD : ∀ t ∈ ds, ∀ k, (slV t).ownBlock = some k → k < w.heap.size := by
    intro t ht k hk
    obtain ⟨i, hi, e⟩ := List.getElem_of_mem ht
    have hi2 : i < Ms.length := by rw [← h.dl]; exact hi
    exact lt (h.dr i t _ (by rw [List.getElem?_eq_getElem hi, e]) (List.getElem?_eq_getElem hi2)) k hk
  refine ⟨⟨ho, ?_, by simp [h.ul], h.dl, fun i t M h1 h2 => ?_, fun i t M h1 h2 => ?_, fun k h1 h2 => ?_, fun t ht k hk => ?_, fun t ht k hk => ?_⟩, hnew⟩
  · refine Own.kept h.d hg ?_
    cases hv : dv.ownBlock with
    | none => exact .inl rfl
    | some k => exact .inr fun e => h.sep k e.symm hv
  · rcases snoc_at h1 with hq | ⟨hq, rfl⟩
    · have hi : i < Ls.length := by rw [← h.ul]; exact (List.getElem?_eq_some_iff.1 hq).1
      rw [List.getElem?_append_left hi] at h2
      exact keep (h.ur i t M hq h2) (fun k hk => (h.un t (List.mem_of_getElem? hq) k hk).1)
    · rw [hq, h.ul, List.getElem?_append_right (Nat.le_refl _), Nat.sub_self] at h2
      cases h2
      exact keep hs (fun k hk => (hn k hk).1)
  · exact keep (h.dr i t M h1 h2) (fun k hk => (h.dn t (List.mem_of_getElem? h1) k hk).1)
  · exact hnew k (ltd k h2) (fun e => h.sep k e h2) h1
  · rcases List.mem_append.1 ht with ht | ht
    · exact ⟨hnew k (rowU t ht k hk) (h.un t ht k hk).1, (h.un t ht k hk).2⟩
    · obtain rfl := List.mem_singleton.1 ht
      exact ⟨hnew k (lt hs k hk) (hn k hk).1, (hn k hk).2⟩
  · exact ⟨hnew k (rowD t ht k hk) (h.dn t ht k hk).1, (h.dn t ht k hk).2⟩
/-- what an answer is -/
def UpL (n : Nat) (U V : Nat → List Lk) (i : Nat) (L : List SeenT) : Prop := ∃ D, Sol n U i D ∧ L = seenTo D V n
theorem UpL.safe {n : Nat} {U V : Nat → List Lk} {i : Nat} {L : List SeenT} (hU : Ups n U) (hn : n ≤ 65536) (h : UpL n U V i L) : SafeL L := by
  obtain ⟨D, hD, rfl⟩ := h
  intro x hx
  exact (hD.safe hU hn (seenTo_mem.1 hx).2.1).2
/-- an entry upwards against the matrix's number -/
theorem UpL.entry {n : Nat} {U V : Nat → List Lk} {i : Nat} {L : List SeenT} (hU : Ups n U) (h : UpL n U V i L) {x : SeenT} (hx : x ∈ L) : i ≤ x.rank ∧ x.rank < n ∧ ∀ m, LeastW (Ed n U V) 0 i x.rank m → m ≤ x.dist ∧ (x.st = true → m < x.dist) := by
  obtain ⟨D, hD, rfl⟩ := h
  obtain ⟨h1, h2, h3⟩ := seenTo_mem.1 hx
  refine ⟨?_, h1, fun m hm => ⟨up_ge hU hD h2 hm, fun hst => ?_⟩⟩
  · rcases Nat.lt_or_ge x.rank i with h | h
    · rw [hD.low hU _ h] at h2
      cases h2
    · exact h
  · rw [h3] at hst
    exact up_not hU hD h1 (stalled_iff.1 hst) hm
theorem DnL.entry {n : Nat} {U V : Nat → List Lk} {i : Nat} {L : List SeenT} (hV : Ups n V) (h : UpL n V U i L) {x : SeenT} (hx : x ∈ L) : i ≤ x.rank ∧ x.rank < n ∧ ∀ m, LeastW (Ed n U V) 0 x.rank i m → m ≤ x.dist ∧ (x.st = true → m < x.dist) := by
  obtain ⟨D, hD, rfl⟩ := h
  obtain ⟨h1, h2, h3⟩ := seenTo_mem.1 hx
  refine ⟨?_, h1, fun m hm => ⟨down_ge hV hD h2 hm, fun hst => ?_⟩⟩
  · rcases Nat.lt_or_ge x.rank i with h | h
    · rw [hD.low hV _ h] at h2
      cases h2
    · exact h
  · rw [h3] at hst
    exact down_not hV hD h1 (stalled_iff.1 hst) hm
theorem meet_lists {n : Nat} {U V : Nat → List Lk} {s t : Nat} {L M : List SeenT} (hU : Ups n U) (hV : Ups n V) (ht : ∀ r, r < n → TrueAt n U V r) (hL : UpL n U V s L) (hM : UpL n V U t M) {m : Int} (hm : LeastW (Ed n U V) 0 s t m) (hmf : m ≤ farI) : meetT L M = m := by
  obtain ⟨A, hA, rfl⟩ := hL
  obtain ⟨B, hB, rfl⟩ := hM
  exact meet_is hU hV ht hA hB hm hmf
theorem UpL.len {n : Nat} {U V : Nat → List Lk} {i : Nat} {L : List SeenT} (h : UpL n U V i L) : L.length ≤ n := by
  obtain ⟨D, _, rfl⟩ := h
  exact seenTo_len D V n
/-- the first list's answer, and the row that goes to the second list -/
theorem Two.push2 {w w2 : World} {base : Nat} {uv dv uv' : Value} {us ds : List SlT} {Ls Ms : List (List SeenT)} {s t : SlT} {L M : List SeenT} (h : Two w base uv dv us ds Ls Ms) (hg : w.grownBy w2 uv.ownBlock) (ho : OwnL w2 base uv' (us ++ [s])) (hat : uv'.ownBlock = uv.ownBlock ∨ uv'.ownBlock = some w.heap.size)
    (hs : OwnSn w base (slV s) L) (hn : ∀ k, (slV s).ownBlock = some k → uv.ownBlock ≠ some k ∧ dv.ownBlock ≠ some k) (ht : OwnSn w base (slV t) M) (hm : ∀ k, (slV t).ownBlock = some k → uv.ownBlock ≠ some k ∧ dv.ownBlock ≠ some k) :
    Two w2 base dv uv' ds (us ++ [s]) Ms (Ls ++ [L]) ∧ OwnSn w2 base (slV t) M ∧ (∀ k, (slV t).ownBlock = some k → dv.ownBlock ≠ some k ∧ uv'.ownBlock ≠ some k) := by
  obtain ⟨h1, h2⟩ := h.push hg ho hat hs hn
  refine ⟨h1.swap, ?_, fun k hk => ⟨(hm k hk).2, h2 k (ht.block hk).2 (hm k hk).1⟩⟩
  refine Own.kept ht hg ?_
  cases hv : (slV t).ownBlock with
  | none => exact .inl rfl
  | some k => exact .inr fun e => (hm k hv).1 e.symm
theorem snoc_all {α : Type} {P : Nat → α → Prop} {l : List α} {x : α} (h : ∀ i y, l[i]? = some y → P i y) (hx : P l.length x) : ∀ i y, (l ++ [x])[i]? = some y → P i y := by
  intro i y hy
  rcases snoc_at hy with hq | ⟨rfl, rfl⟩
  · exact h i y hq
  · exact hx
theorem own_cell {w : World} {base n : Nat} {A : Option Addr} {c i : Nat} {us : List SlT} (h : OwnL w base (.slice A n c) us) (hn : us.length = n) (hi : i < n) : ∃ ad s, A = some ad ∧ us[i]? = some s ∧ w.cell? (ad.add i) = some (.slice s.a s.n s.c) := by
  have hr : Rd 1 encL w A n us := h.rd encL_len rfl
  obtain ⟨ad, hA, hc⟩ := hr.at_ hi
  have := hc 0 _ rfl
  rw [Nat.mul_one, Nat.add_zero] at this
  exact ⟨ad, us[i], hA, List.getElem?_eq_getElem _, this⟩
theorem mat_cells {w : World} {base G n : Nat} {f : Nat → Option (Nat × List Int)} {E : Nat → Nat → Int → Prop} {node : List Nat} (hm : RowsU w base G n f) (hg : GoodMat n E node n f) (hp : Perm node n) {r x : Nat} (hr : r < n) (hx : x < n) :
    ∃ R m, w.cell? ⟨G, node.getD r 0, none⟩ = some (.slice (some ⟨R, 0, none⟩) n n) ∧ w.cell? ⟨R, node.getD x 0, none⟩ = some (.int .u64 m) ∧ LeastW E 0 r x m ∧ m ≤ farI := by
  obtain ⟨R, l, hf, hl, hx'⟩ := hg r hr
  obtain ⟨m, h1, h2, _, h4⟩ := hx' x hx
  have hc := RowsU.cell hm (hp.lt r hr) hf
  have c1 := hc.1
  rw [hl] at c1
  obtain ⟨h5, h6⟩ := List.getElem?_eq_some_iff.1 h1
  have c2 := hc.2 _ h5
  rw [h6] at c2
  exact ⟨R, m, c1, c2, h2, h4⟩
def SeesIs (n : Nat) (U V : Nat → List Lk) (r : Nat) (W : World) (e : Ending) (w' : World) : Prop := ∃ L A c, UpL n U V r L ∧ e = .returned (.tuple #[.slice A L.length c, .nilIface]) ∧ OwnSn w' W.heap.size (.slice A L.length c) L ∧ Below W.heap.size W w'
theorem sees_is {n : Nat} {U V : Nat → List Lk} {r : Nat} {W : World} {e : Ending} {w' : World} (h : ClimbIs n U V r W e w') : SeesIs n U V r W e w' := by
  obtain ⟨D, hD, A, c, h1, h2, h3⟩ := h
  exact ⟨_, A, c, ⟨D, hD, rfl⟩, h1, h2, h3⟩
theorem bug_none {h : HierT} {r : Nat} (hc : chkB h = none) (hr : r < h.node.length) : upBug h (r : Int) = none := by
  unfold upBug
  rw [hc]
  exact if_neg (by omega)
theorem Up_is (k : HV) (h : HierT) (W : World) (hp : RdH W k h) (hs : Small k h) (hin : InH h) (hc : chkB h = none) {r : Nat} (hr : r < h.node.length) :
    Calls Tryd.prog 9 #[hierV k h, .int .i64 (r : Int)] W (SeesIs h.node.length (seg h.uf h.up) (seg h.df h.dn) r W) := by
  have hn := hs.s0
  have h1 := Up_any k h (r : Int) W hp hs hin (by omega) (by omega)
  rw [bug_none hc hr] at h1
  exact h1.mono fun e w' he => sees_is he
theorem Down_is (k : HV) (h : HierT) (W : World) (hp : RdH W k h) (hs : Small k h) (hin : InH h) (hc : chkB h = none) {r : Nat} (hr : r < h.node.length) :
    Calls Tryd.prog 15 #[hierV k h, .int .i64 (r : Int)] W (SeesIs h.node.length (seg h.df h.dn) (seg h.uf h.up) r W) := by
  have hn := hs.s0
  have h1 := Down_any k h (r : Int) W hp hs hin (by omega) (by omega)
  rw [bug_none hc hr] at h1
  exact h1.mono fun e w' he => sees_is he
end Go.Proofs.YtkcnnamghpdplaaDoor
