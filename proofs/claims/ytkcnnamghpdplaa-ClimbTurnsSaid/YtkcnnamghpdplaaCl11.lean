/- Links turned about: the document's. -/
import Derived.Test.YtkcnnamghpdplaaCl10
set_option linter.unusedSimpArgs false
set_option linter.unusedVariables false
namespace Go.Proofs.Ytkcnnamghpdplaa
open Go.RowKit

theorem oper_append_rd {P : Program} {α : Type} {sz : Nat} {enc : α → List Value} {o : Oper} {a : Act} {K : Act → World → Prop} {Q : Exit → Act → World → Prop} {w : World} (s x : Operand) (t : TypeId)
    (ho : o.op = .call { callee := .builtin .append, args := #[s, x], argTypes := #[t, t] }) (e : TypeId) (z : Value) (bytes : Nat) (ht : P.underlying t = some (.slice e))
    (hinfo : (P.info? e).map (fun i => (i.zero, i.size, i.bytes)) = some (some z, sz, bytes)) (hz : z.cells.size = sz) (hsz : 0 < sz) (hb0 : 0 < bytes)
    (hE : ∀ x, (enc x).length = sz) (h1 : ∀ x, ∀ u ∈ enc x, u.oneCell' = true) (base : Nat) (v : Value) (l : List α) (hs : a.eval s = v) (hown : Own e sz enc w base v l)
    (A : Option Addr) (m c : Nat) (k : List α) (hx : a.eval x = .slice A m c) (hr : Rd sz enc w A m k) (hbytes : (l.length + m) * bytes ≤ 140737488355328) (hbase : base ≤ w.heap.size)
    (h : ∀ v' w', Own e sz enc w' base v' (l ++ k) → w.grownBy w' v.ownBlock → (v'.ownBlock = v.ownBlock ∨ v'.ownBlock = some w.heap.size) → K (a.put o.dst v') w') :
    Oper.wp P o a w K Q := by
  obtain ⟨v', w', hrun, h2, h3, h4⟩ := run_append_rd (P := P) w t o.type e z bytes ht hinfo hz hsz hb0 hE h1 base v l hown A m c k hr hbytes hbase
  unfold Oper.wp execOp
  simp only [ho, resolve, invoke, builtin, Sem.run_bind, Sem.run_pure, Result.andThen_ok, List.map_toArray, List.map_cons, List.map_nil, hs, hx, hrun]
  exact h v' w' h2 h3 h4
set_option maxRecDepth 100000 in
set_option maxHeartbeats 4000000 in
theorem turned_any (k : HV) (h : HierT) (A : Option Addr) (n cap : Nat) (l : List Lk) (W : World) (hu : h.up.length ≤ 1048576) (hd : h.dn.length ≤ 1048576) (hp : RdK W A n l) (hin : ∀ x ∈ l, InK x) (hn : n * 24 ≤ 140737488351232) :
    Calls Try.prog 44 #[hierV k h, .slice A n cap] W (MadeK (l.map (turnL h.up.length h.dn.length)) W) := by
  have HNUM : Hid (∀ (w : World) (i : Nat), In32 i → Calls Try.prog 59 #[.agg #[.slice k.a0 h.node.length k.c0, .slice k.a1 h.uf.length k.c1, .slice k.a2 h.up.length k.c2, .slice k.a3 h.df.length k.c3, .slice k.a4 h.dn.length k.c4], .int .u32 i] w fun e w' => e = .returned (.int .u32 (numT h.up.length h.dn.length i : Nat)) ∧ Below w.heap.size w w') := Lib.hid fun w i hi => number_any k h i w hu hd hi
  have HP := Lib.hid hp
  have HIN := Lib.hid hin
  clear hp hin hu hd
  unfold hierV
  generalize h.up.length = n2 at *
  generalize h.dn.length = n4 at *
  generalize h.node.length = n0 at *
  generalize h.uf.length = n1 at *
  generalize h.df.length = n3 at *
  go_enter Try.func44, Try.ntmps44
  go_wp2_with fail
  generalize hW1 : W.alloc (.cells #[.slice k.a0 n0 k.c0, .slice k.a1 n1 k.c1, .slice k.a2 n2 k.c2, .slice k.a3 n3 k.c3, .slice k.a4 n4 k.c4] 25) = W1
  have hb1 : Below W.heap.size W W1 := by rw [← hW1]; exact (Below.refl _ _).alloc (Nat.le_refl _) _
  have hc1 : Cells W1 W.heap.size #[.slice k.a0 n0 k.c0, .slice k.a1 n1 k.c1, .slice k.a2 n2 k.c2, .slice k.a3 n3 k.c3, .slice k.a4 n4 k.c4] 25 := by rw [← hW1]; exact cells_new _ _ _
  have HB1 := Lib.hid hb1
  have HBX := Lib.hid hc1
  have HP1 := Lib.hid (HP.out.below hb1)
  have hz1 : W.heap.size < W1.heap.size := HBX.out.lt
  clear hb1 hc1 hW1 HP
  go_loopw [5, 10] (fun sv iv wr => ∃ j : Nat, j ≤ n ∧ iv = .int .i64 j ∧ OwnK wr W1.heap.size sv ((l.take j).map (turnL n2 n4)) ∧ Below W1.heap.size W1 wr) (fun _ iv _ => n - (intOf iv).toNat)
  case atStart => exact ⟨0, by omega, rfl, Own.nil _ _ _ _ _, Below.refl _ _⟩
  case round =>
    obtain ⟨j, hj, rfl, ho, hb⟩ := hrel
    have HB := Lib.hid hb
    have HO := Lib.hid ho
    clear ho hb
    by_cases hlt : j < n
    · have g0 : decide ((j : Int) < (n : Int)) = true := decide_eq_true (by omega)
      obtain ⟨ad, hA, cc⟩ := (HP1.out.below HB.out).at_ hlt
      subst hA
      have hjq : j < l.length := by have := HP1.out.1; omega
      obtain ⟨c0, c1, c2, c3⟩ := four_cells cc
      clear cc
      have htk := List.take_succ_eq_append_getElem hjq
      have hx := HIN.out l[j] (List.getElem_mem _)
      generalize l[j] = x at *
      obtain ⟨x0, x1, x2, x3⟩ := x
      have hx2 : In32 x2 := hx.l_
      have hx3 : In32 x3 := hx.r
      dsimp only at c0 c1 c2 c3
      have hTK : (l.take (j + 1)).map (turnL n2 n4) = (l.take j).map (turnL n2 n4) ++ [⟨x0, x1, numT n2 n4 x3, numT n2 n4 x2⟩] := by rw [htk, List.map_append]; rfl
      have HTK := Lib.hid hTK
      have HLEN : Hid (((l.take j).map (turnL n2 n4)).length = j) := Lib.hid (by rw [List.length_map, List.length_take]; omega)
      have HN3 : Hid (∀ w, Calls Try.prog 59 #[.agg #[.slice k.a0 n0 k.c0, .slice k.a1 n1 k.c1, .slice k.a2 n2 k.c2, .slice k.a3 n3 k.c3, .slice k.a4 n4 k.c4], .int .u32 x3] w fun e w' => e = .returned (.int .u32 (numT n2 n4 x3 : Nat)) ∧ Below w.heap.size w w') := Lib.hid fun w => HNUM.out w x3 hx3
      have HN2 : Hid (∀ w, Calls Try.prog 59 #[.agg #[.slice k.a0 n0 k.c0, .slice k.a1 n1 k.c1, .slice k.a2 n2 k.c2, .slice k.a3 n3 k.c3, .slice k.a4 n4 k.c4], .int .u32 x2] w fun e w' => e = .returned (.int .u32 (numT n2 n4 x2 : Nat)) ∧ Below w.heap.size w w') := Lib.hid fun w => HNUM.out w x2 hx2
      generalize numT n2 n4 x3 = y3 at *
      generalize numT n2 n4 x2 = y2 at *
      generalize hLL : (l.take j).map (turnL n2 n4) = LL at *
      clear htk hjq hx hx2 hx3 hTK hLL
      go_wp2_with fail
      have hca := cells_new wr #[.int .u32 (x0 : Int), .int .u64 x1, .int .u32 (x2 : Int), .int .u32 (x3 : Int)] 68
      have hba := (Below.refl wr.heap.size wr).alloc (Nat.le_refl _) (.cells #[.int .u32 (x0 : Int), .int .u64 x1, .int .u32 (x2 : Int), .int .u32 (x3 : Int)] 68)
      generalize wr.alloc (.cells #[.int .u32 (x0 : Int), .int .u64 x1, .int .u32 (x2 : Int), .int .u32 (x3 : Int)] 68) = wa at *
      have e0 : wa.cell? ⟨wr.heap.size, 0, none⟩ = some (.int .u32 (x0 : Int)) := hca.cell 0
      have e1 : wa.cell? ⟨wr.heap.size, 1, none⟩ = some (.int .u64 x1) := hca.cell 1
      have e2 : wa.cell? ⟨wr.heap.size, 2, none⟩ = some (.int .u32 (x2 : Int)) := hca.cell 2
      have e3 : wa.cell? ⟨wr.heap.size, 3, none⟩ = some (.int .u32 (x3 : Int)) := hca.cell 3
      have hxa : Below W1.heap.size W1 wa := HB.out.trans (hba.mono HB.out.size)
      have hca2 := HBX.out.below hxa
      have d0 : wa.cell? ⟨W.heap.size, 0, none⟩ = some (.slice k.a0 n0 k.c0) := hca2.cell 0
      have d1 : wa.cell? ⟨W.heap.size, 1, none⟩ = some (.slice k.a1 n1 k.c1) := hca2.cell 1
      have d2 : wa.cell? ⟨W.heap.size, 2, none⟩ = some (.slice k.a2 n2 k.c2) := hca2.cell 2
      have d3 : wa.cell? ⟨W.heap.size, 3, none⟩ = some (.slice k.a3 n3 k.c3) := hca2.cell 3
      have d4 : wa.cell? ⟨W.heap.size, 4, none⟩ = some (.slice k.a4 n4 k.c4) := hca2.cell 4
      have hs1 : W1.heap.size ≤ wr.heap.size := HB.out.size
      have HXA := Lib.hid hxa
      have HBA := Lib.hid hba
      have HX : Hid (Below wr.heap.size wr wa) := Lib.hid hba
      clear hca hba hxa hca2 c0 c1 c2 c3
      go_region_held3 (fun w' => (w'.cell? ⟨wr.heap.size, 0, none⟩ = some (.int .u32 (x0 : Int)) ∧ w'.cell? ⟨wr.heap.size, 1, none⟩ = some (.int .u64 x1) ∧ w'.cell? ⟨wr.heap.size, 2, none⟩ = some (.int .u32 (x2 : Int)) ∧ w'.cell? ⟨wr.heap.size, 3, none⟩ = some (.int .u32 (x3 : Int))) ∧ w'.cell? ⟨W.heap.size, 0, none⟩ = some (.slice k.a0 n0 k.c0) ∧ w'.cell? ⟨W.heap.size, 1, none⟩ = some (.slice k.a1 n1 k.c1) ∧ w'.cell? ⟨W.heap.size, 2, none⟩ = some (.slice k.a2 n2 k.c2) ∧ w'.cell? ⟨W.heap.size, 3, none⟩ = some (.slice k.a3 n3 k.c3) ∧ w'.cell? ⟨W.heap.size, 4, none⟩ = some (.slice k.a4 n4 k.c4)) (first | with_reducible exact ⟨⟨e0, e1, e2, e3⟩, d0, d1, d2, d3, d4⟩ | go_keep) (first
        | (go_at_call 59; (with_reducible refine (HN3.out _).mono ?_); rintro e v0 ⟨rfl, hb5⟩; have e0 := cell_below hb5 e0; have e1 := cell_below hb5 e1; have e2 := cell_below hb5 e2; have e3 := cell_below hb5 e3; have d0 := cell_below hb5 d0; have d1 := cell_below hb5 d1; have d2 := cell_below hb5 d2; have d3 := cell_below hb5 d3; have d4 := cell_below hb5 d4; have HX : Hid (Below wr.heap.size wr v0) := Lib.hid (by first | exact HX.out.trans (hb5.mono HX.out.size) | exact HX.out.drew.trans (hb5.mono HX.out.drew.size)); clear hb5)
        | (go_at_call 59; (with_reducible refine (HN2.out _).mono ?_); rintro e v1 ⟨rfl, hb5⟩; have e0 := cell_below hb5 e0; have e1 := cell_below hb5 e1; have e2 := cell_below hb5 e2; have e3 := cell_below hb5 e3; have d0 := cell_below hb5 d0; have d1 := cell_below hb5 d1; have d2 := cell_below hb5 d2; have d3 := cell_below hb5 d3; have d4 := cell_below hb5 d4; have HX : Hid (Below wr.heap.size wr v1) := Lib.hid (by first | exact HX.out.trans (hb5.mono HX.out.size) | exact HX.out.drew.trans (hb5.mono HX.out.drew.size)); have HX1 := HX; clear hb5)
        | ((first | rw [if_pos (by rfl)] | skip); refine oper_append_rd (.tmp 14) (.tmp 28) 23 rfl 68 (.agg #[.int .u32 0, .int .u64 0, .int .u32 0, .int .u32 0]) 24 Try.underlying23 info_link rfl (by omega) (by omega) encK_len encK_one W1.heap.size _ LL rfl (HO.out.below (HX.out.alloc HX.out.size _)) _ 1 1 [(⟨x0, x1, y3, y2⟩ : Lk)] rfl (rd_K (by rfl)) (by rw [HLEN.out]; omega) (by have := HX.out.size; simp; omega) ?_; intro v6 w6 ho6 hg6 hat6; have HO6 := Lib.hid ho6; have HB6 : Hid (Below W1.heap.size W1 w6) := Lib.hid (below_own (HB.out.trans ((HX.out.alloc HX.out.size _).mono HB.out.size)) (HO.out.below (HX.out.alloc HX.out.size _)) hg6 (Nat.le_refl _) (by have := HX.out.size; simp; omega)); have e0 := hg6.cell (cell_below ((Below.refl _ _).alloc (Nat.le_refl _) _) e0) (by intro h; have := (HO.out.block h.symm).2; simp at this); have e1 := hg6.cell (cell_below ((Below.refl _ _).alloc (Nat.le_refl _) _) e1) (by intro h; have := (HO.out.block h.symm).2; simp at this); have e2 := hg6.cell (cell_below ((Below.refl _ _).alloc (Nat.le_refl _) _) e2) (by intro h; have := (HO.out.block h.symm).2; simp at this); have e3 := hg6.cell (cell_below ((Below.refl _ _).alloc (Nat.le_refl _) _) e3) (by intro h; have := (HO.out.block h.symm).2; simp at this); have d0 := hg6.cell (cell_below ((Below.refl _ _).alloc (Nat.le_refl _) _) d0) (by intro h; have h7 := (HO.out.block h.symm).1; simp at h7; omega); have d1 := hg6.cell (cell_below ((Below.refl _ _).alloc (Nat.le_refl _) _) d1) (by intro h; have h7 := (HO.out.block h.symm).1; simp at h7; omega); have d2 := hg6.cell (cell_below ((Below.refl _ _).alloc (Nat.le_refl _) _) d2) (by intro h; have h7 := (HO.out.block h.symm).1; simp at h7; omega); have d3 := hg6.cell (cell_below ((Below.refl _ _).alloc (Nat.le_refl _) _) d3) (by intro h; have h7 := (HO.out.block h.symm).1; simp at h7; omega); have d4 := hg6.cell (cell_below ((Below.refl _ _).alloc (Nat.le_refl _) _) d4) (by intro h; have h7 := (HO.out.block h.symm).1; simp at h7; omega); clear ho6 hg6 hat6))
      all_goals
        go_wp2_with fail
        go_roundw
        case rel => exact ⟨j + 1, by omega, by go_num, by rw [HTK.out]; exact HO6.out, HB6.out⟩
        case measure => simp [intOf]; omega
    · obtain rfl : j = n := by omega
      have htk : l.take j = l := List.take_of_length_le (by have := HP1.out.1; omega)
      rw [htk] at HO
      obtain ⟨A2, c2, rfl, _, _⟩ := HO.out.form
      have HEND : Hid (MadeK (l.map (turnL n2 n4)) W (.returned (.slice A2 (l.map (turnL n2 n4)).length c2)) wr) := Lib.hid ⟨A2, c2, rfl, HO.out.mono HB1.out.size, HB1.out.trans (HB.out.mono HB1.out.size)⟩
      clear htk
      go_wp2_with fail
      go_ret
      exact HEND.out
end Go.Proofs.Ytkcnnamghpdplaa
