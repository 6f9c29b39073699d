/- The law StampMemory: All's lists are new memory. -/
import Derived.Test.YteejmocdagdeeaaWalk6
import Derived.Deep.RegionWith
set_option linter.unusedSimpArgs false
set_option linter.unusedVariables false
namespace Go.Proofs.Yteejmocdagdeeaa
open Go.RowKit

abbrev docA (x y n : Nat) : Array Value := #[.slice (some ⟨x, 0, none⟩) n n, .slice (some ⟨y, 0, none⟩) n n]
/-- A stamp and the document's stamp, in the variable P, which hold the same. -/
structure Both (w0 w : World) (b g x y P : Nat) (vs : List Int) (m : List (Option Int)) : Prop where
  st : St w b g m
  doc : Doc w x y vs m
  var : Cells w P (docA x y 256) 46
  len : m.length = 256
  bel : Below w0.heap.size w0 w
structure Apart (w0 : World) (b g x y P : Nat) : Prop where
  lb : w0.heap.size ≤ b
  lg : w0.heap.size ≤ g
  lx : w0.heap.size ≤ x
  ly : w0.heap.size ≤ y
  bx : b ≠ x
  by_ : b ≠ y
  gx : g ≠ x
  gy : g ≠ y
  pb : P ≠ b
  pg : P ≠ g
  px : P ≠ x
  py : P ≠ y
theorem Both.below {w0 w w' : World} {b g x y P : Nat} {vs : List Int} {m : List (Option Int)} (h : Both w0 w b g x y P vs m) (hb : Below w.heap.size w w') : Both w0 w' b g x y P vs m :=
  ⟨h.st.below hb, h.doc.below hb, h.var.below hb, h.len, h.bel.trans (hb.mono h.bel.size)⟩
theorem own_get {w : World} {base g c : Nat} {l : List Int} (h : OwnI w base (.slice (some ⟨g, 0, none⟩) l.length c) l) {j : Nat} (hj : j < l.length) : w.cell? ⟨g, j, none⟩ = some (.int .i64 (l.getD j 0)) ∧ w.frozen? ⟨g, j, none⟩ = false := by
  constructor
  · rw [World.ownsRow.cellAt h j (by omega)]
    have := flat_get i64s_len l j 0 (by omega)
    rw [Nat.mul_one, Nat.add_zero] at this
    rw [this, List.getElem?_eq_getElem hj, List.getD_eq_getElem?_getD, List.getElem?_eq_getElem hj]; rfl
  · exact World.ownsRow.frozenAt h j
theorem own_put {w : World} {base g c : Nat} {l : List Int} (h : OwnI w base (.slice (some ⟨g, 0, none⟩) l.length c) l) (j : Nat) (x : Int) :
    OwnI (w.setCell ⟨g, j, none⟩ (.int .i64 x)) base (.slice (some ⟨g, 0, none⟩) (l.set j x).length c) (l.set j x) := by
  have h2 := (World.ownsRow.stored h j (.int .i64 x)).1
  have e : (l.flatMap i64s).set j (.int .i64 x) = (l.set j x).flatMap i64s := by
    have m : ∀ k : List Int, k.flatMap i64s = k.map (Value.int .i64) := fun k => by induction k <;> simp_all
    rw [m, m, List.map_set]
  rw [e] at h2
  unfold OwnI Own
  rw [List.length_set]
  exact h2
theorem own_far {w : World} {base : Nat} {e sz : Nat} {enc : Int → List Value} {v : Value} {l : List Int} (h : Own e sz enc w base v l) {p : Addr} (hp : v.ownBlock ≠ some p.block) (u : Value) : Own e sz enc (w.setCell p u) base v l :=
  h.kept ⟨rfl, rfl, rfl, by simp [World.setCell], fun k _ hk => Below.heap_setCell w p u k (fun e => hk (by rw [e]))⟩ (.inr hp)
/-- Two rows of the call's own, one made behind the other, are apart. -/
theorem own_ne {w w' : World} {b1 : Nat} {v v' : Value} {l l' : List Int} (h : OwnI w b1 v l) (h' : OwnI w' w.heap.size v' l') : v'.ownBlock = none ∨ v'.ownBlock ≠ v.ownBlock := by
  cases hv : v'.ownBlock with
  | none => exact .inl rfl
  | some k =>
    refine .inr fun e => ?_
    have h1 := (h.block e.symm).2
    have h2 := (h'.block hv).1
    omega
theorem rd_two {w : World} {k : Nat} {x y : Int} (hk : w.heap.size = k) : RdI (w.alloc (.cells #[.int .i64 x, .int .i64 y] 3)) (some ⟨k, 0, none⟩) 2 [x, y] := by
  subst hk
  exact rd_new i64s_len w 3 [x, y]
set_option maxHeartbeats 800000 in
theorem StampMemory_walk (a : Option Addr) (len cap : Nat) (zs : List Int) (w : World) (hz : IsRow .u8 w a len cap zs) (hy : len * 1 ≤ 140737488351232) :
    Calls Try.prog 5 #[.slice a len cap] w (BoolBelow true w) := by
  obtain ⟨hlc, hcm⟩ := hz.cap
  have hr := Lib.hid hz.rd
  have hb := Lib.hid hz.inB
  have hl := Lib.hid hz.rd.1
  clear hz
  generalize zs.take len = l at *
  go_enter Try.func5, Try.ntmps5
  go_wp2_with fail
  refine (awake_any w).mono ?_
  rintro e w1 ⟨rfl, hb1⟩
  have B1 := Lib.hid hb1
  clear hb1
  go_wp2_with fail
  refine (New_ex 256 _ w1 (by omega) (by omega) (by omega)).mono ?_
  rintro e w2 ⟨b, g, rfl, hs2, hb2, hlb, hlg⟩
  go_wp2_with fail
  refine (DocNew_ok 256 w2 (by omega)).mono ?_
  rintro e w3 ⟨x, y, rfl, hd3, hb3, hlx, hly⟩
  have hlt2 := hs2.lt
  have HC : Hid (∀ u, Both w (w3.alloc (.cells (docA x y 256) 46) |>.alloc u) b g x y w3.heap.size (List.replicate 256 0) (empty 256) ∧ Apart w b g x y w3.heap.size) := Lib.hid (fun u => by
    have hbb : Below w3.heap.size w3 (w3.alloc (.cells (docA x y 256) 46) |>.alloc u) := ((Below.refl _ _).alloc (Nat.le_refl _) _).alloc (by rw [size_alloc]; omega) _
    have h12 : Below w.heap.size w w2 := B1.out.trans (hb2.mono B1.out.size)
    have h13 : Below w.heap.size w w3 := h12.trans (hb3.mono h12.size)
    have hx := hd3.nums.lt
    have hy := hd3.flags.lt
    have s1 := B1.out.size
    have s2 := h12.size
    have s3 := hb3.size
    refine ⟨⟨(hs2.below hb3).below hbb, hd3.below hbb, (heap_alloc_old _ u (by rw [size_alloc]; omega)).trans (heap_alloc_new _ _), List.length_replicate, h13.trans (hbb.mono h13.size)⟩, ?_⟩
    constructor <;> omega)
  clear hs2 hb2 hlb hlg hd3 hb3 hlx hly hlt2
  rw [docV, noErr]
  go_wp2_with fail
  have HP : Hid (Apart w b g x y w3.heap.size) := Lib.hid (HC.out (.cells #[.int .i64 0, .slice none 0 0] 49)).2
  have HB : Hid (Both w (w3.alloc (.cells (docA x y 256) 46) |>.alloc (.cells #[.int .i64 0, .slice none 0 0] 49)) b g x y w3.heap.size (List.replicate 256 0) (empty 256)) := Lib.hid (HC.out _).1
  clear HC
  go_loopw [27] (fun i wr => ∃ (j : Nat) (vs : List Int) (m : List (Option Int)), j ≤ len ∧ i = .int .i64 j ∧ Both w wr b g x y w3.heap.size vs m) (fun i _ => len - (intOf i).toNat)
  case atStart => exact ⟨0, _, _, by omega, rfl, HB.out⟩
  case round =>
    obtain ⟨j, vs, m, hj, rfl, hs⟩ := hrel
    have HS := Lib.hid hs
    clear hs HB
    by_cases hlt : j < len
    · obtain ⟨ad, rfl, c0⟩ := (hr.out.below HS.out.bel).at1 (f := Value.int .u8) hlt
      have hv := hb.out.at_ (j := j) (by rw [hl.out]; exact hlt)
      have hjl : j < l.length := by rw [hl.out]; exact hlt
      generalize l[j] = v at *
      have HV := Lib.hid hv
      obtain ⟨k, rfl⟩ : ∃ k : Nat, v = k := ⟨v.toNat, by omega⟩
      clear hv
      have hk : k < 256 := by have := HV.out; omega
      go_wp2_with fail
      refine (Set_St HS.out.st k k (by rw [HS.out.len]; omega) (by omega) (by omega)).mono ?_
      rintro e w5 ⟨rfl, hs, ht⟩
      rw [if_pos (by rw [HS.out.len]; have := HV.out; omega)]
      have hp : put m (k : Int) (k : Int) = m.set k (some (k : Int)) := by unfold put; rw [if_pos (by omega), Int.toNat_natCast]
      rw [hp] at hs
      have hv5 : Cells w5 w3.heap.size (docA x y 256) 46 := (ht.block _ HP.out.pb HP.out.pg).trans HS.out.var
      have hd5 := Lib.hid (HS.out.doc.touch ht HP.out.bx.symm HP.out.gx.symm HP.out.by_.symm HP.out.gy.symm)
      have hb5 := Lib.hid (ht.below HS.out.bel HP.out.lb HP.out.lg)
      have hs5 := Lib.hid hs
      have hV5 := Lib.hid hv5
      have p0 := hv5.cell 0
      have p1 := hv5.cell 1
      clear hs ht hp hv5
      go_wp2_with fail
      refine (docSet_in hd5.out HS.out.len hk k (by omega)).mono ?_
      rintro e w6 ⟨rfl, hd6, hn6⟩
      have HS6 : Hid (Both w w6 b g x y w3.heap.size (vs.set k (k : Int)) (m.set k (some (k : Int)))) := Lib.hid
        ⟨hs5.out.near hn6 HP.out.bx HP.out.by_ HP.out.gx HP.out.gy, hd6, (hn6.block _ hV5.out.lt HP.out.px HP.out.py).trans hV5.out, by rw [List.length_set, HS.out.len], hn6.below hb5.out HP.out.lx HP.out.ly hb5.out.size⟩
      clear hd6 hn6
      go_wp2
      go_roundw
      case rel => exact ⟨j + 1, _, _, by omega, by go_num, HS6.out⟩
      case measure => simp [intOf]; omega
    · obtain rfl : j = len := by omega
      obtain ⟨W0, rfl⟩ : ∃ W0 : World, W0 = wr := ⟨_, rfl⟩
      have HM : Hid (m.length ≤ 65536) := Lib.hid (by rw [HS.out.len]; omega)
      go_wp2_with fail
      refine (All_St HS.out.st HM.out).mono ?_
      rintro e w5 ⟨v5, rfl, ho5, hb5⟩
      have HS5 := Lib.hid (HS.out.below hb5)
      have HO5 := Lib.hid ho5
      have HBr5 := Lib.hid hb5
      clear ho5 hb5
      go_wp2_with fail
      refine (All_St HS5.out.st HM.out).mono ?_
      rintro e w6 ⟨v6, rfl, ho6, hb6⟩
      obtain ⟨A5, c5, rfl, hc5, hm5⟩ := HO5.out.form
      obtain ⟨A6, c6, rfl, hc6, hm6⟩ := ho6.form
      have HO6 := Lib.hid ho6
      have HO56 := Lib.hid (HO5.out.below hb6)
      have HB6 := Lib.hid ((HS5.out.bel).trans (hb6.mono HS5.out.bel.size))
      have HBr : Hid (Below W0.heap.size W0 w6) := Lib.hid (HBr5.out.trans (hb6.mono HBr5.out.size))
      have HL : Hid ((marks m).length ≤ 256) := Lib.hid (by have h := picks_len (fun i => (m.getD i none).isSome) m.length; rw [HS.out.len] at h; unfold marks; rw [HS.out.len]; exact h)
      clear ho6 hb6
      generalize hLn : marks m = L at *
      have HLn := Lib.hid hLn
      clear hLn
      generalize hn : L.length = n at *
      have HN := Lib.hid hn
      clear hn
      have HNle := HL.out
      go_wp2_with fail
      go_loopw [51] (fun i W => ∃ (q : Nat) (l' : List Int), q ≤ n ∧ i = .int .i64 q ∧ l'.length = n ∧ OwnI W W0.heap.size (.slice A5 n c5) l' ∧ OwnI W w5.heap.size (.slice A6 n c6) L ∧ Below W0.heap.size W0 W ∧ w6.heap.size ≤ W.heap.size) (fun i _ => n - (intOf i).toNat)
      case atStart => exact ⟨0, L, by omega, rfl, HN.out, HO56.out, HO6.out, HBr.out, Nat.le_refl _⟩
      case round =>
        obtain ⟨q, l', hq, rfl, hl', hoa, hob, hbw, hsz⟩ := hrel
        have HOA := Lib.hid hoa
        have HOB := Lib.hid hob
        have HBW := Lib.hid hbw
        have HSZ := Lib.hid hsz
        have HL' := Lib.hid hl'
        clear hoa hob hbw hsz hl'
        by_cases hlt2 : q < n
        · obtain ⟨g5, c5', hv, hge, hgl⟩ := World.ownsRow.form HOA.out (by rw [HL'.out]; omega)
          injection hv with hv1 hv2 hv3
          subst hv1
          have H5 := Lib.hid (HO5.out.block (k := g5) rfl)
          have hoa' : OwnI wr W0.heap.size (.slice (some ⟨g5, 0, none⟩) l'.length c5) l' := by rw [HL'.out]; exact HOA.out
          obtain ⟨d0, d1⟩ := own_get hoa' (j := q) (by rw [HL'.out]; exact hlt2)
          have HOA' := Lib.hid hoa'
          clear hoa' hv2 hv3
          generalize l'.getD q 0 = z at *
          go_wp2_with fail
          go_roundw
          case rel => 
            refine ⟨q + 1, l'.set q (-5), by omega, by go_num, by rw [List.length_set, HL'.out], ?_, own_far HOB.out ?_ _, HBW.out.setCell (by simpa using hge) _, by simpa [World.setCell] using HSZ.out⟩
            · have h := own_put HOA'.out q (-5)
              rw [List.length_set, HL'.out] at h
              exact h
            · intro e
              have a := (HOB.out.block e).1
              have b := H5.out.2
              simp at a
              omega
          case measure => simp [intOf]; omega
        · obtain rfl : q = n := by omega
          have HOA2 := Lib.hid (HOA.out.below (below_draw_alloc wr 0 (.cells #[.int .i64 1, .int .i64 2] 3)))
          go_wp2_with (at_builtin; go_loud (refine wpList_append_rd rfl (.tmp 58) (.tmp 59) 37 rfl 3 (.int .i64 0) 8 Try.underlying37 info_int rfl (by omega) (by omega) i64s_len i64s_one W0.heap.size (.slice A5 q c5) l' rfl (HOA.out.below ((Below.refl _ _).alloc (Nat.le_refl _) _)) _ 2 2 [1, 2] rfl (rd_two rfl) (by have := HL'.out; omega) (by have := HBW.out.size; simp at this ⊢; omega) ?_; intro v7 w7 ho7 hg7 hat7; obtain ⟨A7, c7, rfl, hc7, hm7⟩ := ho7.form; have HL7 : Hid ((l' ++ [1, 2]).length = q + 2) := Lib.hid (by rw [List.length_append, HL'.out]; rfl); rw [HL7.out]; have HOB7 := Lib.hid ((HOB.out.below ((Below.refl _ _).alloc (Nat.le_refl _) _)).kept hg7 (own_ne HO5.out HOB.out)); have HB7 : Hid (Below W0.heap.size W0 w7) := Lib.hid (below_own (HBW.out.alloc HBW.out.size _) (HOA.out.below ((Below.refl _ _).alloc (Nat.le_refl _) _)) hg7 (Nat.le_refl _) (by have := HBW.out.size; simp at this ⊢; omega)); clear ho7 hg7 hat7 hc7 hm7))
          have FB : Hid (Both w w7.drew b g x y w3.heap.size vs m) := Lib.hid ((HS.out.below HB7.out).below ⟨rfl, rfl, rfl, Nat.le_refl _, fun _ _ => rfl⟩)
          have FR : Hid (RdI w7.drew A6 L.length L) := Lib.hid (Rd.below (HOB7.out.rd i64s_len (by rw [HN.out])) ⟨rfl, rfl, rfl, Nat.le_refl _, fun _ _ => rfl⟩)
          have hq2 : L.length = q := HN.out
          have HLL : Hid (L.length ≤ 256) := Lib.hid (by rw [hq2]; exact HL.out)
          have p0 := FB.out.var.cell 0
          have p1 := FB.out.var.cell 1
          rw [← hq2]
          clear hq2
          go_region_with (first
            | (go_at_call 12; refine (All_St FB.out.st HM.out).mono ?_; rintro e w8 ⟨v8, rfl, ho8, hb8⟩; rw [HLn.out] at ho8; obtain ⟨A8, c8, rfl, hc8, hm8⟩ := ho8.form; have FB := Lib.hid (FB.out.below hb8); have FY := Lib.hid (ho8.rd i64s_len rfl); have p0 := FB.out.var.cell 0; have p1 := FB.out.var.cell 1; clear ho8 hb8 hc8 hm8)
            | (go_at_call 16; refine (docAll_any FB.out.doc FB.out.len (by omega)).mono ?_; rintro e w9 ⟨v9, rfl, ho9, hb9⟩; rw [HLn.out] at ho9; obtain ⟨A9, c9, rfl, hc9, hm9⟩ := ho9.form; have FY := Lib.hid (FY.out.below hb9); have FB := Lib.hid (FB.out.below hb9); have FX := Lib.hid (ho9.rd i64s_len rfl); clear ho9 hb9 hc9 hm9)
            | (go_at_call 16; refine (docAll_any FB.out.doc FB.out.len (by omega)).mono ?_; rintro e w9 ⟨v9, rfl, ho9, hb9⟩; rw [HLn.out] at ho9; obtain ⟨A9, c9, rfl, hc9, hm9⟩ := ho9.form; have FR := Lib.hid (FR.out.below hb9); have FB := Lib.hid (FB.out.below hb9); have FX := Lib.hid (ho9.rd i64s_len rfl); clear ho9 hb9 hc9 hm9)
            | (go_at_call 11; refine (SameInts_any _ _ _ L _ _ _ L _ FY.out FX.out (by have := HLL.out; omega)).mono ?_; rintro e w10 ⟨rfl, hd⟩; rw [decide_eq_true rfl]; have FB := Lib.hid (FB.out.below (hd.below _)); clear hd)
            | (go_at_call 11; refine (SameInts_any _ _ _ L _ _ _ L _ FR.out FX.out (by have := HLL.out; omega)).mono ?_; rintro e w10 ⟨rfl, hd⟩; rw [decide_eq_true rfl]; have FB := Lib.hid (FB.out.below (hd.below _)); have p0 := FB.out.var.cell 0; have p1 := FB.out.var.cell 1; clear hd FR FX))
          all_goals go_wp2
          all_goals go_ret
          all_goals exact ⟨rfl, FB.out.bel⟩
end Go.Proofs.Yteejmocdagdeeaa
