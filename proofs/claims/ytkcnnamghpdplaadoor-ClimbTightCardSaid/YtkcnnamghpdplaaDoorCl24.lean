/- The ends of a hierarchy's links: the program's; what is wrong with it. -/
import Derived.Test.YtkcnnamghpdplaaDoorCl22
import Derived.Test.YtkcnnamghpdplaaDoorClF
set_option linter.unusedSimpArgs false
set_option linter.unusedVariables false
namespace Go.Proofs.YtkcnnamghpdplaaDoor
open Go.RowKit Go.Shelf

attribute [local go_sem] Oper.semAt_some

def EndsIs (h : HierT) (W : World) (e : Ending) (w' : World) : Prop := Below W.heap.size W w' ∧ match chkB h with
  | none => ∃ A c, e = .returned (.tuple #[.slice A (endsT h).length c, .nilIface]) ∧ RdE w' A (endsT h).length (endsT h)
  | some b => ∃ v, e = .returned (.tuple #[.slice none 0 0, v]) ∧ ErrProg (some b) W (.returned v) w'
theorem EndsIs.bad {h : HierT} {W : World} {b : Int × Option (Int × Int)} (hc : chkB h = some b) {v : Value} {w' : World} (he : ErrProg (some b) W (.returned v) w') : EndsIs h W (.returned (.tuple #[.slice none 0 0, v])) w' := by
  unfold EndsIs
  rw [hc]
  exact ⟨he.1, v, rfl, he⟩
/-- an error that is one, by its form -/
theorem ErrProg.iface {b : Int × Option (Int × Int)} {W : World} {e : Ending} {w' : World} (h : ErrProg (some b) W e w') : ∃ t x, (t = 56 ∨ t = 74) ∧ e = .returned (.iface t x) := by
  obtain ⟨c, p⟩ := b
  obtain ⟨hb, h⟩ := h
  cases p with
  | none => exact ⟨_, _, .inl rfl, h⟩
  | some p =>
    obtain ⟨k, a⟩ := p
    obtain ⟨g, h, -⟩ := h
    exact ⟨_, _, .inr rfl, h⟩
theorem ErrProg.mono {b : Int × Option (Int × Int)} {W W1 : World} {e : Ending} {w' : World} (h : ErrProg (some b) W1 e w') (hb : Below W.heap.size W W1) : ErrProg (some b) W e w' := by
  obtain ⟨c, p⟩ := b
  obtain ⟨hb1, h⟩ := h
  refine ⟨hb.trans (hb1.mono hb.size), ?_⟩
  cases p with
  | none => exact h
  | some p =>
    obtain ⟨k, a⟩ := p
    obtain ⟨g, h, h2, h3⟩ := h
    exact ⟨g, h, h2, Nat.le_trans hb.size h3⟩
theorem ErrProg.putObj {b : Int × Option (Int × Int)} {W w' : World} {e : Ending} {D : Nat} {o : Obj} (h : ErrProg (some b) W e w') (hD : W.heap.size ≤ D) (ho : w'.heap[D]? = some o) (hc : o.isCells = false) (o' : Obj) : ErrProg (some b) W e (w'.putObj D o') := by
  obtain ⟨c, p⟩ := b
  obtain ⟨hb1, h⟩ := h
  refine ⟨hb1.grown (grownBy_putObj' w' D o') hb1.size (fun k e => by cases e; exact hD), ?_⟩
  cases p with
  | none => exact h
  | some p =>
    obtain ⟨k, a⟩ := p
    obtain ⟨g, h, h2, h3⟩ := h
    refine ⟨g, h, (World.putObj_heap_other (fun e => ?_)).trans h2, h3⟩
    subst e
    have h4 : w'.heap[g]? = _ := h2
    rw [ho] at h4
    cases h4
    cases hc
theorem Rd.putObj {α : Type} {sz : Nat} {enc : α → List Value} {w : World} {A : Option Addr} {n : Nat} {l : List α} (h : Rd sz enc w A n l) {D : Nat} {o : Obj} (ho : w.heap[D]? = some o) (hc : o.isCells = false) (o' : Obj) : Rd sz enc (w.putObj D o') A n l := by
  refine ⟨h.1, fun h0 => ?_⟩
  obtain ⟨ad, hA, hcs⟩ := h.2 h0
  exact ⟨ad, hA, fun q x r u hq hr => cell_kept (hcs q x r u hq hr) (grownBy_putObj' w D o') (fun k e => by cases e; exact ⟨_, ho, hc⟩)⟩
theorem cells_own {β : Type} (g : Nat) (cs : Array Value) (t : TypeId) : _root_.Go.Own (fun (_ : β) W => Cells W g cs t) := fun s X Y row hs hg hr =>
  (hg.block g hs.lt (fun e => by obtain ⟨o, ho, hc⟩ := hr g e.symm; rw [show X.heap[g]? = _ from hs] at ho; cases ho; cases hc)).trans hs
/-- a row of another type is not this block -/
theorem own_not {α : Type} {e sz : Nat} {enc : α → List Value} {w : World} {base g : Nat} {v : Value} {l : List α} {cs : Array Value} {t : TypeId} (h : Own e sz enc w base v l) (hc : Cells w g cs t) (hte : t ≠ e) : some g ≠ v.ownBlock := by
  rcases h.2 with ⟨rfl, _⟩ | ⟨b, cap, cur, rfl, _, hgb, _⟩
  · simp [Value.ownBlock]
  · intro e'
    obtain rfl : g = b := by simpa [Value.ownBlock] using e'
    have := (show w.heap[g]? = _ from hc).symm.trans hgb
    simp at this
    exact hte this.2
theorem kept_putObj {n₀ Bs : Nat} {w : World} (h1 : n₀ ≤ w.heap.size) (h2 : Bs < w.heap.size) (W : World) (l : Nat) (o o' : Obj) (hl : w.heap.size ≤ l) (_ : W.heap[l]? = some o) (_ : o.isCells = false) (_ : o.isWalk = false) : KpL n₀ Bs W (W.putObj l o') :=
  ⟨rfl, rfl, rfl, (grownBy_putObj' W l o').size, fun k _ hs => World.putObj_heap_other (fun e => hs ⟨by omega, by omega⟩)⟩
theorem kept_grown {n₀ Bs : Nat} {W W' : World} {row : Option Nat} (h : W.grownBy W' row) (hr : ∀ g, row = some g → n₀ ≤ g ∧ g ≠ Bs) : KpL n₀ Bs W W' :=
  ⟨h.os, h.tape, h.output, h.size, fun k hk hs => h.block k hk (fun e => hs (hr k e.symm))⟩
theorem rd_E {w : World} {k : Nat} {x : EndS} (hk : w.heap.size = k) : RdE (w.alloc (.cells #[.int .u32 (x.lk.to : Int), .int .u64 x.lk.w, .int .u32 (x.lk.l : Int), .int .u32 (x.lk.r : Int), .int .i64 (x.tail : Int), .int .i64 (x.head : Int), .int .i64 (x.rank : Int)] 140)) (some ⟨k, 0, none⟩) 1 [x] := by
  subst hk
  exact rd_new (enc := encE) encE_len w _ [x]
theorem wpIn_named {F : Fence} {n : Nat} {P : Program} {c : Code} {Q : Exit → Act → World → Prop} {a : Act} {w : World} (h : ∀ a0, a0 = a → c.wpIn F n P Q a0 w) : c.wpIn F n P Q a w := h a rfl
/-- the iterator's contract -/
theorem links_stops (n : Nat) (hn : 1 ≤ n) (w0 : World) (k : HV) (h : HierT) (Bs : Nat) (hp : RdH w0 k h) (hs : Small k h) (hin : InH h) (hu : Fst h.node.length h.uf h.up.length) (hd : Fst h.node.length h.df h.dn.length) (hn0 : h.node.length ≤ 65536) (hnm : h.up.length + h.dn.length ≤ 1048576)
    (w : World) (hb : Below w0.heap.size w0 w) (hc : Cells w Bs #[.slice k.a0 h.node.length k.c0, .slice k.a1 (h.node.length + 1) k.c1, .slice k.a2 h.up.length k.c2, .slice k.a3 (h.node.length + 1) k.c3, .slice k.a4 h.dn.length k.c4] 25) :
    SeqStopsK Fence.wide n Tryd.prog 78 #[.pointer (some ⟨Bs, 0, none⟩)] (fun x : Nat × EndS => #[.int .i64 (x.1 : Nat), endV x.2]) (KpL w0.heap.size Bs) (fun xs => xs = en (endsT h)) (fun _ => True) (h.up.length + h.dn.length) w := fun l J Jx W hW hJ _ hY h0 => by
  have h1 := hp.r1
  have h3 := hp.r3
  rw [hu.fl] at h1
  rw [hd.fl] at h3
  exact links_walk n hn w0 k h.node.length h.up.length h.dn.length Bs h.uf h.df h.up h.dn h1 hp.r2 h3 hp.r4 hs.t2.1 hs.t4.1 hs.t2.2 hs.t4.2 hu hd hn0 hnm (fun x hx => (hin.i2 x hx).to) (fun x hx => (hin.i4 x hx).to) l J Jx W (hb.trans (hW.mono hb.size)) (hc.below hW) hJ hY h0
structure EndsInv (cs : Array Value) (l : List EndS) (W : World) (Ba D : Nat) (A : Option Addr) (m c : Nat) (w' : World) : Prop where
  below : Below W.heap.size W w'
  box : Cells w' W.heap.size cs 25
  all : Cells w' Ba #[.slice A m c] 94
  rd : RdE w' A m l
  dfr : w'.heap[D]? = some (.deferred (some []))
theorem EndsInv.step {cs : Array Value} {l : List EndS} {W : World} {Ba D : Nat} {A : Option Addr} {m c : Nat} {w' w'' : World} (h : EndsInv cs l W Ba D A m c w') (hb : Below w'.heap.size w' w'') : EndsInv cs l W Ba D A m c w'' :=
  ⟨h.below.trans (hb.mono h.below.size), h.box.below hb, h.all.below hb, h.rd.below hb, (hb.block D (Array.getElem?_eq_some_iff.1 h.dfr).1).trans h.dfr⟩
set_option maxRecDepth 100000 in
set_option maxHeartbeats 8000000 in
theorem ends_in (n : Nat) (hn : 4 ≤ n) (k : HV) (h : HierT) (W : World) (hp : RdH W k h) (hs : Small k h) (hin : InH h) :
    CallsIn Fence.wide n Tryd.prog 45 #[hierV k h] W (EndsIs h W) := by
  have HR : Hid (∀ b, chkB h = some b → ∀ W1, Below W.heap.size W W1 → ∀ v w', ErrProg (some b) W1 (.returned v) w' → EndsIs h W (.returned (.tuple #[.slice none 0 0, v])) w') := Lib.hid fun b hc W1 hb v w' he => EndsIs.bad hc (he.mono hb)
  have hch : chkB h = chkB h := rfl
  conv at hch => rhs; unfold chkB
  have s2 := hs.s2
  have s4 := hs.s4
  have s0 := hs.s0
  have HP := Lib.hid hp
  have HS := Lib.hid hs
  have HIN := Lib.hid hin
  clear hp hs hin
  have h1 : 1 ≤ n := by omega
  refine callsIn_of_wp_marks Tryd.func45 rfl trivial ?_ rfl
  simp only [Tryd.ntmps45, List.size_toArray, List.length_cons, List.length_nil, Nat.reduceAdd, Nat.reduceSub, Array.replicate_succ, Array.replicate_zero, List.push_toArray, List.append_toArray, List.nil_append, List.cons_append]
  by_cases c1 : 65536 < h.node.length ∨ 1048576 < h.up.length + h.dn.length
  · rw [if_pos c1] at hch
    have HE := Lib.hid (HR.out _ hch)
    clear hch HR
    generalize EndsIs h W = R at *
    unfold hierV
    generalize h.node.length = n0 at *
    generalize h.up.length = n2 at *
    generalize h.dn.length = n4 at *
    by_cases c0 : 65536 < n0
    · have g1 : decide ((65536 : Int) < (n0 : Int)) = true := decide_eq_true (by omega)
      have g1' : decide (65536 < n0) = true := decide_eq_true (by omega)
      clear c1 c0
      gi_wp2
      refine ⟨_, results_tmp2 rfl _ _ _, ?_⟩
      exact HE.out W (Below.refl _ _) _ _ ⟨(Below.refl _ _).alloc (Nat.le_refl _) _, rfl⟩
    · have g1 : decide ((65536 : Int) < (n0 : Int)) = false := decide_eq_false (by omega)
      have g1' : decide (65536 < n0) = false := decide_eq_false (by omega)
      have g2 : decide ((1048576 : Int) < (n2 : Int) + (n4 : Int)) = true := decide_eq_true (by omega)
      clear c1 c0
      gi_wp2
      refine ⟨_, results_tmp2 rfl _ _ _, ?_⟩
      exact HE.out W (Below.refl _ _) _ _ ⟨(Below.refl _ _).alloc (Nat.le_refl _) _, rfl⟩
  · rw [if_neg c1] at hch
    by_cases c2 : h.uf.length ≠ h.node.length + 1 ∨ h.df.length ≠ h.node.length + 1
    · rw [if_pos c2] at hch
      have HE := Lib.hid (HR.out _ hch)
      clear hch HR
      generalize EndsIs h W = R at *
      unfold hierV
      generalize h.node.length = n0 at *
      generalize h.up.length = n2 at *
      generalize h.dn.length = n4 at *
      generalize h.uf.length = n1 at *
      generalize h.df.length = n3 at *
      have g1 : decide ((65536 : Int) < (n0 : Int)) = false := decide_eq_false (by omega)
      have g1' : decide (65536 < n0) = false := decide_eq_false (by omega)
      have g2 : decide ((1048576 : Int) < (n2 : Int) + (n4 : Int)) = false := decide_eq_false (by omega)
      have b0 : n0 ≤ 65536 := by omega
      by_cases e1 : n1 = n0 + 1
      · subst e1
        have p1 : ((n3 : Int) == (n0 : Int) + 1) = false := by rw [beq_eq_false_iff_ne]; omega
        have p2 : ((n3 : Int) != (n0 : Int) + 1) = true := by rw [bne, p1]; rfl
        clear c1 c2
        gi_wp2
        refine ⟨_, results_tmp2 rfl _ _ _, ?_⟩
        exact HE.out W (Below.refl _ _) _ _ ⟨(Below.refl _ _).alloc (Nat.le_refl _) _, rfl⟩
      · have p1 : ((n1 : Int) == (n0 : Int) + 1) = false := by rw [beq_eq_false_iff_ne]; omega
        have p2 : ((n1 : Int) != (n0 : Int) + 1) = true := by rw [bne, p1]; rfl
        clear c1 c2 e1
        gi_wp2
        refine ⟨_, results_tmp2 rfl _ _ _, ?_⟩
        exact HE.out W (Below.refl _ _) _ _ ⟨(Below.refl _ _).alloc (Nat.le_refl _) _, rfl⟩
    · rw [if_neg c2] at hch
      have e1 : h.uf.length = h.node.length + 1 := by omega
      have e3 : h.df.length = h.node.length + 1 := by omega
      have b0 : h.node.length ≤ 65536 := by omega
      have b2 : h.up.length + h.dn.length ≤ 1048576 := by omega
      have g1 : decide ((65536 : Int) < (h.node.length : Int)) = false := decide_eq_false (by omega)
      have g1' : decide (65536 < h.node.length) = false := decide_eq_false (by omega)
      have g2 : decide ((1048576 : Int) < (h.up.length : Int) + (h.dn.length : Int)) = false := decide_eq_false (by omega)
      have HF1 : Hid (∀ w, Below W.heap.size W w → Calls Tryd.prog 64 #[.slice k.a1 (h.node.length + 1) k.c1, .int .i64 (h.up.length : Nat)] w (ErrProg (firstsB h.uf h.node.length h.up.length) w)) := Lib.hid fun w hb => by
        have h1 := (HP.out.below hb).r1
        rw [e1] at h1
        exact firsts_prog k.a1 h.node.length k.c1 h.up.length h.uf w h1 HIN.out.i1 b0 (by omega)
      have HF3 : Hid (∀ w, Below W.heap.size W w → Calls Tryd.prog 64 #[.slice k.a3 (h.node.length + 1) k.c3, .int .i64 (h.dn.length : Nat)] w (ErrProg (firstsB h.df h.node.length h.dn.length) w)) := Lib.hid fun w hb => by
        have h1 := (HP.out.below hb).r3
        rw [e3] at h1
        exact firsts_prog k.a3 h.node.length k.c3 h.dn.length h.df w h1 HIN.out.i3 b0 (by omega)
      have HF0 : Hid (∀ w, Below W.heap.size W w → Calls Tryd.prog 65 #[.slice k.a0 h.node.length k.c0] w (ErrProg (orderB h.node h.node.length) w)) := Lib.hid fun w hb =>
        order_prog k.a0 h.node.length k.c0 h.node w (HP.out.below hb).r0 HIN.out.i0 b0
      have HFU : Hid (firstsB h.uf h.node.length h.up.length = none → Fst h.node.length h.uf h.up.length) := Lib.hid fun hf => Fst.of_none e1 hf
      have HFD : Hid (firstsB h.df h.node.length h.dn.length = none → Fst h.node.length h.df h.dn.length) := Lib.hid fun hf => Fst.of_none e3 hf
      have hb1 := (Below.refl W.heap.size W).alloc (Nat.le_refl _) (.cells #[.slice k.a0 h.node.length k.c0, .slice k.a1 (h.node.length + 1) k.c1, .slice k.a2 h.up.length k.c2, .slice k.a3 (h.node.length + 1) k.c3, .slice k.a4 h.dn.length k.c4] 25)
      have hc1 := cells_new W #[.slice k.a0 h.node.length k.c0, .slice k.a1 (h.node.length + 1) k.c1, .slice k.a2 h.up.length k.c2, .slice k.a3 (h.node.length + 1) k.c3, .slice k.a4 h.dn.length k.c4] 25
      unfold hierV
      rw [e1, e3]
      have HCH1 := Lib.hid hch
      have HC1 := Lib.hid hc1
      have HB1 := Lib.hid hb1
      clear hch hc1 hb1 e1 e3 c1 c2
      gi_wp2
      generalize W.alloc (.cells #[.slice k.a0 h.node.length k.c0, .slice k.a1 (h.node.length + 1) k.c1, .slice k.a2 h.up.length k.c2, .slice k.a3 (h.node.length + 1) k.c3, .slice k.a4 h.dn.length k.c4] 25) = W1 at *
      have d0 : W1.cell? ⟨W.heap.size, 0, none⟩ = some (.slice k.a0 h.node.length k.c0) := HC1.out.cell 0
      have d1 : W1.cell? ⟨W.heap.size, 1, none⟩ = some (.slice k.a1 (h.node.length + 1) k.c1) := HC1.out.cell 1
      have d2 : W1.cell? ⟨W.heap.size, 2, none⟩ = some (.slice k.a2 h.up.length k.c2) := HC1.out.cell 2
      gi_wp2_with fail
      refine ⟨trivial, ?_⟩
      refine (callsIn_wide.2 (HF1.out W1 HB1.out)).mono ?_
      cases hq : firstsB h.uf h.node.length h.up.length with
      | some b =>
        rintro e wb he
        have HE := Lib.hid (HR.out b (by rw [HCH1.out, hq]) W1 HB1.out)
        obtain ⟨t, x, ht, rfl⟩ := he.iface
        have HX := Lib.hid he
        clear he hq d0 d1 d2
        rcases ht with rfl | rfl
        all_goals
          gi_wp2
          refine ⟨_, results_tmp2 rfl _ _ _, ?_⟩
          exact HE.out _ _ HX.out
      | none =>
        rintro e W2 ⟨hb2, rfl⟩
        have hch2 := HCH1.out
        rw [hq] at hch2
        have HCH2 := Lib.hid hch2
        have HQ1 := Lib.hid hq
        have HC2 := Lib.hid (HC1.out.below hb2)
        have HB2 := Lib.hid (HB1.out.trans (hb2.mono HB1.out.size))
        clear hch2 hq hb2 d0 d1 d2
        have d3 : W2.cell? ⟨W.heap.size, 3, none⟩ = some (.slice k.a3 (h.node.length + 1) k.c3) := HC2.out.cell 3
        have d4 : W2.cell? ⟨W.heap.size, 4, none⟩ = some (.slice k.a4 h.dn.length k.c4) := HC2.out.cell 4
        gi_wp2_with fail
        refine ⟨trivial, ?_⟩
        refine (callsIn_wide.2 (HF3.out W2 HB2.out)).mono ?_
        cases hq : firstsB h.df h.node.length h.dn.length with
        | some b =>
          rintro e wb he
          have HE := Lib.hid (HR.out b (by rw [HCH2.out, hq]) W2 HB2.out)
          obtain ⟨t, x, ht, rfl⟩ := he.iface
          have HX := Lib.hid he
          clear he hq d3 d4
          rcases ht with rfl | rfl
          all_goals
            gi_wp2
            refine ⟨_, results_tmp2 rfl _ _ _, ?_⟩
            exact HE.out _ _ HX.out
        | none =>
          rintro e W3 ⟨hb2, rfl⟩
          have hch2 := HCH2.out
          rw [hq] at hch2
          have HCH3 := Lib.hid hch2
          have HQ2 := Lib.hid hq
          have HC3 := Lib.hid (HC2.out.below hb2)
          have HB3 := Lib.hid (HB2.out.trans (hb2.mono HB2.out.size))
          clear hch2 hq hb2 d3 d4
          have d0 : W3.cell? ⟨W.heap.size, 0, none⟩ = some (.slice k.a0 h.node.length k.c0) := HC3.out.cell 0
          gi_wp2_with fail
          refine ⟨trivial, ?_⟩
          refine (callsIn_wide.2 (HF0.out W3 HB3.out)).mono ?_
          cases hq : orderB h.node h.node.length with
          | some b =>
            rintro e wb he
            have HE := Lib.hid (HR.out b (by rw [HCH3.out, hq]) W3 HB3.out)
            obtain ⟨t, x, ht, rfl⟩ := he.iface
            have HX := Lib.hid he
            clear he hq d0
            rcases ht with rfl | rfl
            all_goals
              gi_wp2
              refine ⟨_, results_tmp2 rfl _ _ _, ?_⟩
              exact HE.out _ _ HX.out
          | none =>
            rintro e W4 ⟨hb2, rfl⟩
            have hch2 := HCH3.out
            rw [hq] at hch2
            have HCH4 := Lib.hid hch2
            have HQ3 := Lib.hid hq
            have HC4 := Lib.hid (HC3.out.below hb2)
            have HB4 := Lib.hid (HB3.out.trans (hb2.mono HB3.out.size))
            clear hch2 hq hb2 d0
            have HU := Lib.hid (HFU.out HQ1.out)
            have HD := Lib.hid (HFD.out HQ2.out)
            have d0 : W4.cell? ⟨W.heap.size, 0, none⟩ = some (.slice k.a0 h.node.length k.c0) := HC4.out.cell 0
            have d1 : W4.cell? ⟨W.heap.size, 1, none⟩ = some (.slice k.a1 (h.node.length + 1) k.c1) := HC4.out.cell 1
            have d2 : W4.cell? ⟨W.heap.size, 2, none⟩ = some (.slice k.a2 h.up.length k.c2) := HC4.out.cell 2
            have d3 : W4.cell? ⟨W.heap.size, 3, none⟩ = some (.slice k.a3 (h.node.length + 1) k.c3) := HC4.out.cell 3
            have d4 : W4.cell? ⟨W.heap.size, 4, none⟩ = some (.slice k.a4 h.dn.length k.c4) := HC4.out.cell 4
            have s4w : W.heap.size < W4.heap.size := HC4.out.lt
            gi_wp2_with fail
            refine ⟨trivial, ?_⟩
            refine (links_in (n - 1) _ _ _ _ _ _).mono ?_
            rintro e w' ⟨rfl, rfl⟩
            gi_wp2_with fail
            have hc5 := cells_new (W4.alloc (.cells #[.slice none 0 0] 94)) #[.slice k.a0 h.node.length k.c0, .slice k.a1 (h.node.length + 1) k.c1, .slice k.a2 h.up.length k.c2, .slice k.a3 (h.node.length + 1) k.c3, .slice k.a4 h.dn.length k.c4] 25
            rw [size_alloc] at hc5
            have hb5 := two_al W4 (.cells #[.slice none 0 0] 94) (.cells #[.slice k.a0 h.node.length k.c0, .slice k.a1 (h.node.length + 1) k.c1, .slice k.a2 h.up.length k.c2, .slice k.a3 (h.node.length + 1) k.c3, .slice k.a4 h.dn.length k.c4] 25)
            have hv5 : Boxed ((W4.alloc (.cells #[.slice none 0 0] 94)).alloc (.cells #[.slice k.a0 h.node.length k.c0, .slice k.a1 (h.node.length + 1) k.c1, .slice k.a2 h.up.length k.c2, .slice k.a3 (h.node.length + 1) k.c3, .slice k.a4 h.dn.length k.c4] 25)) W4.heap.size 94 (.slice none 0 0) := (Boxed.new W4 94 (.slice none 0 0)).alloc _
            have hz5 : ((W4.alloc (.cells #[.slice none 0 0] 94)).alloc (.cells #[.slice k.a0 h.node.length k.c0, .slice k.a1 (h.node.length + 1) k.c1, .slice k.a2 h.up.length k.c2, .slice k.a3 (h.node.length + 1) k.c3, .slice k.a4 h.dn.length k.c4] 25)).heap.size = W4.heap.size + 2 := by simp
            generalize (W4.alloc (.cells #[.slice none 0 0] 94)).alloc (.cells #[.slice k.a0 h.node.length k.c0, .slice k.a1 (h.node.length + 1) k.c1, .slice k.a2 h.up.length k.c2, .slice k.a3 (h.node.length + 1) k.c3, .slice k.a4 h.dn.length k.c4] 25) = W5 at *
            have HC5 := Lib.hid hc5
            have HX5 := Lib.hid (HC4.out.below hb5)
            have HB5 := Lib.hid (HB4.out.trans (hb5.mono HB4.out.size))
            have HV5 := Lib.hid hv5
            have hWW : W.heap.size ≤ W4.heap.size := HB4.out.size
            clear hc5 hb5 hv5 d0 d1 d2 d3 d4
            obtain ⟨i0, hi, hy0, hy1, hy2⟩ := info_parts info_end
            refine wpIn_named ?_
            intro a0 ha0
            refine wpIn_rangeFunc_ownH rfl h1 (gf := 78) (lb := #[.pointer (some ⟨W4.heap.size + 1, 0, none⟩)]) (by rw [ha0]; rfl) trivial (enters_of Tryd.func78 (by kernel_rfl) rfl)
              (links_stops (n - 1) (by omega) W k h (W4.heap.size + 1) HP.out HS.out HIN.out HU.out HD.out b0 b2 W5 HB5.out HC5.out) (fun a b => a.trans b) (kept_putObj (by omega) (by omega)) (Below.refl _ _) (fun _ => rfl)
              (fun pre wr => (∃ v, Boxed wr W4.heap.size 94 v ∧ wr.ownsRow W4.heap.size 140 7 v (pre.map (·.2)).length ((pre.map (·.2)).flatMap encE) ∧ True) ∧ Cells wr W.heap.size #[.slice k.a0 h.node.length k.c0, .slice k.a1 (h.node.length + 1) k.c1, .slice k.a2 h.up.length k.c2, .slice k.a3 (h.node.length + 1) k.c3, .slice k.a4 h.dn.length k.c4] 25 ∧ Cells wr (W4.heap.size + 1) #[.slice k.a0 h.node.length k.c0, .slice k.a1 (h.node.length + 1) k.c1, .slice k.a2 h.up.length k.c2, .slice k.a3 (h.node.length + 1) k.c3, .slice k.a4 h.dn.length k.c4] 25 ∧ Below W.heap.size W wr)
              (fun _ _ _ => False)
              (OwnFrom.and (_root_.Go.Own.from (holdsRow_own W4.heap.size W4.heap.size 94 140 7 (fun (pre : List (Nat × EndS)) => (pre.map (·.2)).length) (fun pre => (pre.map (·.2)).flatMap encE) (fun _ _ => True)) _) (OwnFrom.and (_root_.Go.Own.from (cells_own _ _ _) _) (OwnFrom.and (_root_.Go.Own.from (cells_own _ _ _) _) (ownFrom_below (Nat.le_refl _) (by omega)))))
              (fun _ _ _ _ _ hs _ _ => hs)
              ⟨⟨_, HV5.out, World.ownsRow_nil _ _ _ _, trivial⟩, HX5.out, HC5.out, HB5.out⟩
              (fun x a' wr => ∃ Bx, Cells wr Bx (encE x.2).toArray 140 ∧ a' = { tmps := ((a0.tmps.setIfInBounds 71 (.int .i64 (x.1 : Nat))).setIfInBounds 72 (endV x.2)).setIfInBounds 10 (.pointer (some ⟨Bx, 0, none⟩)), defers := [] })
              (fun x a' _ X Y row hs hg hr => by obtain ⟨Bx, h1, h2⟩ := hs; exact ⟨Bx, cells_own Bx _ _ () X Y row h1 hg (fun r e => (hr r e).2), h2⟩)
              ?assign ?body ?done ?stop
            case assign =>
              rintro l pre x wr K ⟨⟨v, hv, hrow, -⟩, hx1, hx2, hB⟩ hK
              subst ha0
              gi_wp2
              exact hK _ _ ((KeepsOthers.alloc _ _).from _) (Kept.of_below ((Below.refl _ _).alloc (Nat.le_refl _) _)) ⟨⟨v, hv.alloc _, hrow.alloc _, trivial⟩, hx1.below ((Below.refl _ _).alloc (Nat.le_refl _) _), hx2.below ((Below.refl _ _).alloc (Nat.le_refl _) _), hB.alloc hB.size _⟩ ⟨wr.heap.size, cells_new _ _ _, rfl⟩
            case body =>
              rintro l pre x a' wr hl _ ⟨⟨v, hv, hrow, -⟩, hx1, hx2, hB⟩ ⟨Bx, bX, rfl⟩ hlt
              subst ha0
              obtain ⟨idx, ⟨⟨y0, y1, y2, y3⟩, yt, yh, yr⟩⟩ := x
              have HROW : Hid (Own 140 7 encE wr W4.heap.size v (pre.map (·.2))) := Lib.hid hrow
              have HVX := Lib.hid hv
              have HX1 := Lib.hid hx1
              have HX2 := Lib.hid hx2
              have HBW := Lib.hid hB
              have cv := hv.cell
              have y0c : wr.cell? ⟨Bx, 0, none⟩ = some (.int .u32 y0) := bX.cell 0
              have y1c : wr.cell? ⟨Bx, 1, none⟩ = some (.int .u64 y1) := bX.cell 1
              have y2c : wr.cell? ⟨Bx, 2, none⟩ = some (.int .u32 y2) := bX.cell 2
              have y3c : wr.cell? ⟨Bx, 3, none⟩ = some (.int .u32 y3) := bX.cell 3
              have y4c : wr.cell? ⟨Bx, 4, none⟩ = some (.int .i64 yt) := bX.cell 4
              have y5c : wr.cell? ⟨Bx, 5, none⟩ = some (.int .i64 yh) := bX.cell 5
              have y6c : wr.cell? ⟨Bx, 6, none⟩ = some (.int .i64 yr) := bX.cell 6
              have hpl : (pre.map (·.2)).length ≤ 1048576 := by rw [List.length_map]; omega
              clear hv hrow hx1 hx2 hB bX hlt
              generalize hPP : pre.map (·.2) = P at *
              have HPP := Lib.hid hPP
              clear hPP
              simp only [List.setIfInBounds_toArray, List.set_cons_zero, List.set_cons_succ]
              gi_wp2_with (gi_at_builtin; refine wpListIn_append_rd rfl (.tmp 73) (.tmp 75) 94 rfl 140 (.agg #[.int .u32 0, .int .u64 0, .int .u32 0, .int .u32 0, .int .i64 0, .int .i64 0, .int .i64 0]) 48 Tryd.underlying94 info_end rfl (by omega) (by omega) encE_len encE_one W4.heap.size _ P rfl (HROW.out.below ((Below.refl _ _).alloc (Nat.le_refl _) _)) _ 1 1 [(⟨⟨y0, y1, y2, y3⟩, yt, yh, yr⟩ : EndS)] rfl (rd_E rfl) (by omega) (by have := HVX.out.lt; simp; omega) ?_; intro v6 w6 ho6 hg6 _; obtain ⟨A6, c6, rfl, hc6, hm6⟩ := ho6.form; obtain ⟨hv1, hv2, hr2, hk2, hb2⟩ := HVX.out.appended (by decide) HROW.out (Nat.le_of_lt HVX.out.lt) (Nat.le_refl _) ho6 hg6; have cv1 := hv1.cell; have fv1 := hv1.frozen)
              have hl6 : (P ++ [(⟨⟨y0, y1, y2, y3⟩, yt, yh, yr⟩ : EndS)]).length = P.length + 1 := by simp
              have hx2' : Cells (w6.setCell ⟨W4.heap.size, 0, none⟩ (.slice A6 (P ++ [(⟨⟨y0, y1, y2, y3⟩, yt, yh, yr⟩ : EndS)]).length c6)) (W4.heap.size + 1) _ _ :=
                Cells.far ((hg6.block (W4.heap.size + 1) (by have := HX2.out.lt; simp; omega) (own_not HROW.out HX2.out (by decide))).trans (HX2.out.below ((Below.refl _ _).alloc (Nat.le_refl _) _))) 0 _ (by omega)
              have hx1' := (hb2.block W.heap.size s4w).trans HX1.out
              rw [hl6] at hv2 hr2 hk2 hb2 hx2' hx1'
              refine ⟨hk2.from _, ⟨hb2.os, hb2.tape, hb2.output, hb2.size, fun q hq hs => ?_⟩, ⟨_, hv2, ?_, trivial⟩, hx1', hx2', HBW.out.trans (hb2.mono hWW)⟩
              · by_cases hlt : q < W4.heap.size
                · exact hb2.block q hlt
                · have e : q = W4.heap.size + 1 := by
                    by_cases e : q = W4.heap.size + 1
                    · exact e
                    · exact absurd ⟨by omega, e⟩ hs
                  subst e
                  exact hx2'.trans HX2.out.symm
              · rw [List.map_append, HPP.out, List.map_cons, List.map_nil, hl6]
                exact hr2
            case done =>
              rintro D xs wr hD rfl ⟨⟨v, hv, hrow, -⟩, hx1, hx2, hB⟩ hK
              subst ha0
              rw [en_snd] at hrow
              have hown : Own 140 7 encE wr W4.heap.size v (endsT h) := hrow
              obtain ⟨A, c, rfl, hcc, hcm⟩ := hown.form
              have hml := endsT_len HU.out HD.out
              have hinv : EndsInv #[.slice k.a0 h.node.length k.c0, .slice k.a1 (h.node.length + 1) k.c1, .slice k.a2 h.up.length k.c2, .slice k.a3 (h.node.length + 1) k.c3, .slice k.a4 h.dn.length k.c4] (endsT h) W W4.heap.size D A (endsT h).length c wr := ⟨hB, hx1, hv, hown.rd encE_len rfl, hK⟩
              have hSH : ∀ w j, j < (endsT h).length → Below W.heap.size W w → RdE w A (endsT h).length (endsT h) → Calls Tryd.prog 67 #[.agg #[.slice k.a0 h.node.length k.c0, .slice k.a1 (h.node.length + 1) k.c1, .slice k.a2 h.up.length k.c2, .slice k.a3 (h.node.length + 1) k.c3, .slice k.a4 h.dn.length k.c4], .slice A (endsT h).length c, .int .i64 (j : Nat)] w (BoolBelow (shapeB h j) w) := fun w j hj hb hr => by
                have hc := shape_any k h A (endsT h).length c j (endsT h) w hr hj (by omega) b0 (by omega) (fun q hq => endsT_in HU.out HD.out b0 HIN.out (by omega))
                unfold hierV at hc
                rw [HU.out.fl, HD.out.fl, shape_same HU.out HD.out (by omega)] at hc
                exact hc
              have hWT : ∀ w j, j < (endsT h).length → shapeB h j = true → RdE w A (endsT h).length (endsT h) → Calls Tryd.prog 68 #[.slice A (endsT h).length c, .int .i64 (j : Nat)] w (BoolBelow (weightB h j) w) := fun w j hj hs hr => by
                have hc := weight_any A (endsT h).length c j (endsT h) w hr hj (by omega) (fun q hq => (endsT_in HU.out HD.out b0 HIN.out (by omega)).k) (fun hp => by
                  have ei := endsT_at HU.out HD.out (i := j) (by omega)
                  rw [ei.lk] at hp ⊢
                  have := shape_children hs hp
                  omega)
                rw [weight_same HU.out HD.out (by omega) hs] at hc
                exact hc
              have HSH := Lib.hid hSH
              have HWT := Lib.hid hWT
              have HINV := Lib.hid hinv
              have HML := Lib.hid hml
              have hmb : (endsT h).length ≤ 1048576 := by omega
              have cv := hv.cell
              clear hSH hWT hinv hrow hown hx1 hx2 hB hK hv hml hcc hcm
              generalize hm : (endsT h).length = m at *
              have HM := Lib.hid hm
              clear hm
              gi_wp2
              clear cv
              gi_loopw [79] (fun iv wi => ∃ j : Nat, j ≤ m ∧ iv = .int .i64 j ∧ (∀ r, r < j → linkB h r = none) ∧ EndsInv #[.slice k.a0 h.node.length k.c0, .slice k.a1 (h.node.length + 1) k.c1, .slice k.a2 h.up.length k.c2, .slice k.a3 (h.node.length + 1) k.c3, .slice k.a4 h.dn.length k.c4] (endsT h) W W4.heap.size D A m c wi) (fun iv _ => m - (intOf iv).toNat)
              case atStart => exact ⟨0, by omega, rfl, fun r hr => absurd hr (by omega), HINV.out⟩
              case round =>
                clear HINV
                obtain ⟨j, hj, rfl, hst, hinv⟩ := hrel
                have HST := Lib.hid hst
                have HI := Lib.hid hinv
                clear hst hinv
                by_cases hlt : j < m
                · have g3 : decide ((j : Int) < (m : Int)) = true := decide_eq_true (by omega)
                  have x0 : wr.cell? ⟨W.heap.size, 0, none⟩ = some (.slice k.a0 h.node.length k.c0) := HI.out.box.cell 0
                  have x1 : wr.cell? ⟨W.heap.size, 1, none⟩ = some (.slice k.a1 (h.node.length + 1) k.c1) := HI.out.box.cell 1
                  have x2 : wr.cell? ⟨W.heap.size, 2, none⟩ = some (.slice k.a2 h.up.length k.c2) := HI.out.box.cell 2
                  have x3 : wr.cell? ⟨W.heap.size, 3, none⟩ = some (.slice k.a3 (h.node.length + 1) k.c3) := HI.out.box.cell 3
                  have x4 : wr.cell? ⟨W.heap.size, 4, none⟩ = some (.slice k.a4 h.dn.length k.c4) := HI.out.box.cell 4
                  have x8 : wr.cell? ⟨W4.heap.size, 0, none⟩ = some (.slice A m c) := HI.out.all.cell 0
                  gi_wp2_with fail
                  refine ⟨trivial, ?_⟩
                  refine (callsIn_wide.2 (HSH.out wr j hlt HI.out.below HI.out.rd)).mono ?_
                  rintro e w2 ⟨rfl, hb2⟩
                  have HI2 := Lib.hid (HI.out.step hb2)
                  clear hb2 x0 x1 x2 x3 x4 x8
                  cases hsb : shapeB h j with
                  | false =>
                    have HHIT := Lib.hid (linksB_hit (h := h) (i := j) (c := 14) (by have := HML.out; omega) HST.out (by unfold linkB; rw [hsb]; rfl))
                    gi_wp2_with fail
                    refine ⟨trivial, ?_⟩
                    refine (callsIn_wide.2 (FaultAt_any 4 (j : Int) 14 w2)).mono ?_
                    rintro e w8 ⟨rfl, hc8, hb8⟩
                    have HI8 := Lib.hid (HI2.out.step hb8)
                    have HE8 : Hid (ErrProg (some (14, some (4, (j : Int)))) W (.returned (.iface 74 (.pointer (some ⟨w2.heap.size, 0, none⟩)))) w8) := Lib.hid ⟨HI8.out.below, w2.heap.size, rfl, hc8, HI2.out.below.size⟩
                    clear hc8 hb8
                    gi_wp2
                    refine ⟨by simp, .inl ⟨_, _, rfl, run_takeDeferred HI8.out.dfr, ?_⟩⟩
                    refine ⟨_, results_tmp2 rfl _ _ _, ?_⟩
                    exact HR.out _ (by rw [HCH4.out, HHIT.out]) W (Below.refl _ _) _ _ (HE8.out.putObj (Nat.le_trans hWW (by omega)) HI8.out.dfr rfl _)
                  | true =>
                    have x8 : w2.cell? ⟨W4.heap.size, 0, none⟩ = some (.slice A m c) := HI2.out.all.cell 0
                    gi_wp2_with fail
                    refine ⟨trivial, ?_⟩
                    refine (callsIn_wide.2 (HWT.out w2 j hlt hsb HI2.out.rd)).mono ?_
                    rintro e w3 ⟨rfl, hb3⟩
                    have HI3 := Lib.hid (HI2.out.step hb3)
                    clear hb3 x8
                    cases hwb : weightB h j with
                    | false =>
                      have HHIT := Lib.hid (linksB_hit (h := h) (i := j) (c := 8) (by have := HML.out; omega) HST.out (by unfold linkB; rw [hsb, hwb]; rfl))
                      gi_wp2_with fail
                      refine ⟨trivial, ?_⟩
                      refine (callsIn_wide.2 (FaultAt_any 4 (j : Int) 8 w3)).mono ?_
                      rintro e w8 ⟨rfl, hc8, hb8⟩
                      have HI8 := Lib.hid (HI3.out.step hb8)
                      have HE8 : Hid (ErrProg (some (8, some (4, (j : Int)))) W (.returned (.iface 74 (.pointer (some ⟨w3.heap.size, 0, none⟩)))) w8) := Lib.hid ⟨HI8.out.below, w3.heap.size, rfl, hc8, HI3.out.below.size⟩
                      clear hc8 hb8
                      gi_wp2
                      refine ⟨by simp, .inl ⟨_, _, rfl, run_takeDeferred HI8.out.dfr, ?_⟩⟩
                      refine ⟨_, results_tmp2 rfl _ _ _, ?_⟩
                      exact HR.out _ (by rw [HCH4.out, HHIT.out]) W (Below.refl _ _) _ _ (HE8.out.putObj (Nat.le_trans hWW (by omega)) HI8.out.dfr rfl _)
                    | true =>
                      have HN : Hid (∀ r, r < j + 1 → linkB h r = none) := Lib.hid fun r hr => by
                        by_cases e : r = j
                        · subst e; unfold linkB; rw [hsb, hwb]; rfl
                        · exact HST.out r (by omega)
                      clear hsb hwb
                      gi_wp2
                      go_roundw
                      case rel => exact ⟨j + 1, by omega, by go_num, HN.out, HI3.out⟩
                      case measure => simp [intOf]; omega
                · obtain rfl : j = m := by omega
                  have x8 : wr.cell? ⟨W4.heap.size, 0, none⟩ = some (.slice A j c) := HI.out.all.cell 0
                  have hnone : chkB h = none := by rw [HCH4.out]; exact linksB_none (fun r hr => HST.out r (by have := HML.out; omega))
                  have HEND : Hid (EndsIs h W (.returned (.tuple #[.slice A j c, .nilIface])) (wr.putObj D (.deferred none))) := Lib.hid (by
                    refine ⟨HI.out.below.trans (belowK_b (w := W) (Nat.le_refl _) wr D _ _ (by omega) HI.out.dfr rfl rfl), ?_⟩
                    rw [hnone]
                    exact ⟨A, c, by rw [HM.out], by rw [HM.out]; exact HI.out.rd.putObj HI.out.dfr rfl _⟩)
                  clear hnone
                  gi_wp2
                  refine ⟨by simp, .inl ⟨_, _, rfl, run_takeDeferred HI.out.dfr, ?_⟩⟩
                  refine ⟨_, results_tmp2 rfl _ _ _, ?_⟩
                  exact HEND.out
            case stop =>
              rintro D c pre wr _ _ h _
              exact h.elim
end Go.Proofs.YtkcnnamghpdplaaDoor
