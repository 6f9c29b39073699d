/- The document's Print. -/
import Derived.Test.YtngihiebkbheaaaGreatDoorGt23
import Derived.Test.YtngihiebkbheaaaGreatDoorGt25
import Derived.Deep.RegionHeld3
set_option linter.unusedSimpArgs false
set_option linter.unusedVariables false
namespace Go.Proofs.YtngihiebkbheaaaGreatDoor
open Go.RowKit Txt

theorem chkT_good {g : GrT} : GoodB (chkT g) := by
  have ab : ∀ (a : ArcT) (n c : Int), arcBug a n = some c → c ≠ 0 := fun a n c h => by
    unfold arcBug at h
    split at h
    · injection h with h; omega
    · split at h
      · injection h with h; omega
      · cases h
  have go : ∀ (l : List ArcT) (n : Int) (i : Nat) (p : Er), arcsBug n i l = some p → p.1 ≠ 0 := by
    intro l
    induction l with
    | nil => intro n i p h; cases h
    | cons a l ih =>
      intro n i p h
      rw [arcsBug] at h
      split at h
      · rename_i c hc
        injection h with h
        subst h
        exact ab a n c hc
      · exact ih n (i + 1) p h
  intro p hp
  unfold chkT at hp
  split at hp
  · injection hp with hp; subst hp; decide
  · exact go _ _ _ _ hp
theorem oper_append_str {P : Program} {o : Oper} {a : Act} {K : Act → World → Prop} {Q : Exit → Act → World → Prop} {w : World} (s x : Operand) (t u : TypeId)
    (ho : o.op = .call { callee := .builtin .append, args := #[s, x], argTypes := #[t, u] }) (base : Nat) (e : TypeId) (i : TypeInfo) (ht : P.underlying t = some (.slice e)) (hu : P.underlying u = some .string) (hi : P.info? e = some i) (hz : i.zero = some (.int .u8 0))
    (hsize : i.size = 1) (hby : i.bytes = 1) (v : Value) (n : Nat) (xs : List Value) (hs : a.eval s = v) (hown : w.ownsRow base e 1 v n xs) (str : ByteArray) (hx : a.eval x = .string str)
    (h63 : n + str.size ≤ maxLen) (hbytes : n + str.size ≤ 140737488355328) (hbase : base ≤ w.heap.size)
    (h : ∀ v' w', w'.ownsRow base e 1 v' (n + str.size) (xs ++ Lib.strCells str) → w.grownBy w' v.ownBlock → K (a.put o.dst v') w') :
    Oper.wp P o a w K Q := by
  obtain ⟨v', w', hr, h2, h3, h4⟩ := Lib.run_append_own_string (P := P) w base t u o.type e i ht hu hi hz hsize hby v n xs hown str h63 hbytes hbase
  unfold Oper.wp execOp
  simp only [ho, resolve, invoke, builtin, Sem.run_bind, Sem.run_pure, Result.andThen_ok, List.map_toArray, List.map_cons, List.map_nil, hs, hx, hr]
  exact h v' w' h2 h3
/-- a row of bytes of the call's own -/
def OwnBy (w : World) (base : Nat) (v : Value) (l : Bs) : Prop := w.ownsRow base 5 1 v l.length (Lib.byteCells l)
theorem OwnBy.below {w w' : World} {base : Nat} {v : Value} {l : Bs} (h : OwnBy w base v l) (hb : Below w.heap.size w w') : OwnBy w' base v l := World.ownsRow.kept h (grown_of_below hb none) (by cases v.ownBlock <;> simp)
theorem OwnBy.put {w : World} {base : Nat} {v : Value} {l : Bs} {s : ByteArray} (h : w.ownsRow base 5 1 v (l.length + s.size) (Lib.byteCells l ++ Lib.strCells s)) : OwnBy w base v (l ++ s.data.toList) := by
  unfold OwnBy
  rw [List.length_append, size_list, Lib.byteCells_append]
  exact h
theorem string_own {w : World} {base : Nat} {v : Value} {l : Bs} (h : OwnBy w base v l) : (convert 60 9 v).run Tryz.prog w = .ok (.string (toB l)) w := by
  have hl : (Lib.byteCells l).length = l.length := Lib.byteCells_length l
  have e0 : strOfNums (l.map fun b => (b.toNat : Int)) = toB l := by
    refine ByteArray.ext (Array.toList_inj.1 ?_)
    rw [strOfNums_data, toB_list, List.map_map]
    conv => rhs; rw [← List.map_id l]
    exact List.map_congr_left fun b _ => by simp
  rcases h.2 with ⟨rfl, h0⟩ | ⟨g, cap, cur, rfl, _, _, hn, _⟩
  · obtain rfl : l = [] := List.eq_nil_of_length_eq_zero h0
    exact run_convert_bytes_nil w 60 5 Tryz.underlying60 Tryz.underlying5 0 0 9 Tryz.underlying9
  · rw [← e0]
    refine string_of_rd Tryz.underlying60 Tryz.underlying5 Tryz.underlying9 ⟨by rw [List.length_map], fun _ => ⟨_, rfl, fun j x i u hj hi => ?_⟩⟩
    have hi0 : i = 0 := by
      have := (List.getElem?_eq_some_iff.1 hi).1
      simpa using this
    subst hi0
    have hu : u = .int .u8 x := by simpa using hi.symm
    subst hu
    rw [Nat.mul_one, Nat.add_zero]
    refine World.ownsRow.cells h (g := g) rfl j _ ?_
    rw [List.getElem?_map] at hj
    obtain ⟨b, hb, rfl⟩ := Option.map_eq_some_iff.1 hj
    unfold Lib.byteCells
    rw [List.getElem?_map, hb]
    rfl
def PrintDoc (r : Except Er Bs) (W : World) (e : Ending) (w' : World) : Prop := Below W.heap.size W w' ∧ match r with
  | .error b => ∃ x, e = .returned (.tuple #[.string ⟨#[]⟩, errV x]) ∧ DocX (some b) W.heap.size x w'
  | .ok s => e = .returned (.tuple #[.string (toB s), errV zX])
set_option maxRecDepth 100000 in
set_option maxHeartbeats 16000000 in
theorem DocPrint_any (g : GrT) (A : Option Addr) (kk : Nat) (W : World) (hrd : RdA W A g.arcs.length g.arcs) (hlen : g.arcs.length ≤ 9223372036854775806) (ht : TabP W) :
    Calls Tryz.prog 12 #[.agg #[.int .i64 g.n, .slice A g.arcs.length kk]] W (PrintDoc (printT g) W) := by
  have hck := fun w (hb : Below W.heap.size W w) => DocCheck_any g A kk w (hrd.below hb) hlen
  obtain ⟨n, hn⟩ : ∃ n, g.arcs.length = n := ⟨_, rfl⟩
  have HN := Lib.hid hn
  rw [hn] at hrd hlen hck ⊢
  clear hn
  have HCK := Lib.hid hck
  have HRD := Lib.hid hrd
  have HT := Lib.hid ht
  have hb1 := two_alG W (.cells #[.int .i64 g.n, .slice A n kk] 24) (.cells #[.int .i64 0, .slice none 0 0] 32)
  have hp := (cells_new W #[.int .i64 g.n, .slice A n kk] 24).below ((Below.refl _ _).alloc (Nat.le_refl _) (.cells #[.int .i64 0, .slice none 0 0] 32))
  have he := cells_new (W.alloc (.cells #[.int .i64 g.n, .slice A n kk] 24)) #[.int .i64 0, .slice none 0 0] 32
  have hz : ((W.alloc (.cells #[.int .i64 g.n, .slice A n kk] 24)).alloc (.cells #[.int .i64 0, .slice none 0 0] 32)).heap.size = W.heap.size + 1 + 1 := by simp
  rw [size_alloc] at he
  have HB1 := Lib.hid hb1
  have HP1 := Lib.hid hp
  have HE1 := Lib.hid he
  clear hb1 hp he hrd hck ht
  go_enter Tryz.func12, Tryz.ntmps12
  go_upto_region 1 with fail
  generalize ((W.alloc (.cells #[.int .i64 g.n, .slice A n kk] 24)).alloc (.cells #[.int .i64 0, .slice none 0 0] 32)) = w1 at *
  have c0 := HP1.out.cell 0
  have c1 := HP1.out.cell 1
  go_wp2_with fail
  refine (HCK.out w1 HB1.out).mono ?_
  rintro e w2 ⟨hb2, ex, rfl, hd⟩
  have HD2 := Lib.hid hd
  clear hd HCK
  unfold errV
  have HB2 := Lib.hid (HB1.out.trans (hb2.mono HB1.out.size))
  have HP2 := Lib.hid (HP1.out.below hb2)
  have HE2 := Lib.hid (HE1.out.below hb2)
  have hs2 := hb2.size
  clear hb2 c0 c1
  have hb3 := (Below.refl w2.heap.size w2).alloc (Nat.le_refl _) (.cells #[.int .i64 ex.c, .slice ex.A ex.n ex.k] 32)
  have hx3 := cells_new w2 #[.int .i64 ex.c, .slice ex.A ex.n ex.k] 32
  have HB3 := Lib.hid (HB2.out.trans (hb3.mono HB2.out.size))
  have HP3 := Lib.hid (HP2.out.below hb3)
  have HE3 := Lib.hid (HE2.out.below hb3)
  have HD3 := Lib.hid (HD2.out.below hb3)
  have hs3 := hb3.size
  clear hb3
  have HF3 := Lib.hid hx3
  clear hx3
  go_upto_region 2 with fail
  generalize w2.alloc (.cells #[.int .i64 ex.c, .slice ex.A ex.n ex.k] 32) = w3 at *
  have Fc0 : w3.cell? ⟨w2.heap.size, 0, none⟩ = some (.int .i64 ex.c) := HF3.out.cell 0
  have Fc1 : w3.cell? ⟨w2.heap.size, 1, none⟩ = some (.slice ex.A ex.n ex.k) := HF3.out.cell 1
  go_wp2_with fail
  refine (Bad_any ex.c ex.A ex.n ex.k w3).mono ?_
  rintro e w4 ⟨rfl, hb4⟩
  have HB4 := Lib.hid (HB3.out.trans (hb4.mono HB3.out.size))
  have HP4 := Lib.hid (HP3.out.below hb4)
  have HE4 := Lib.hid (HE3.out.below hb4)
  have HF4 := Lib.hid (HF3.out.below hb4)
  have HD4 := Lib.hid (HD3.out.below hb4)
  have hs4 := hb4.size
  clear hb4 Fc0 Fc1
  have hbad : decide (ex.c ≠ 0 ∨ 0 < ex.n) = (chkT g).isSome := HD4.out.bad chkT_good
  rw [hbad]
  clear hbad
  cases hc : chkT g with
  | some b =>
    have hd4 := HD4.out
    rw [hc] at hd4
    have HPT : Hid (printT g = .error b) := Lib.hid (by unfold printT; rw [hc])
    clear HD4 HD3 HD2 hc
    have HD4 := Lib.hid hd4
    clear hd4
    have Fc0 : w4.cell? ⟨w2.heap.size, 0, none⟩ = some (.int .i64 ex.c) := HF4.out.cell 0
    have Fc1 : w4.cell? ⟨w2.heap.size, 1, none⟩ = some (.slice ex.A ex.n ex.k) := HF4.out.cell 1
    have Ec0 : w4.cell? ⟨W.heap.size + 1, 0, none⟩ = some (.int .i64 0) := HE4.out.cell 0
    have Ef0 := HE4.out.frozen 0
    have Ec1 : w4.cell? ⟨W.heap.size + 1, 1, none⟩ = some (.slice none 0 0) := HE4.out.cell 1
    have Ef1 := HE4.out.frozen 1
    go_upto_region 3 with fail
    go_region
    all_goals
      have hfin := (HE4.out.set_ 0 (.int .i64 ex.c)).set_ 1 (.slice ex.A ex.n ex.k)
      simp only [List.setIfInBounds_toArray, List.set_cons_zero, List.set_cons_succ] at hfin
      have hkz : Kept (fun k => k = W.heap.size + 1) w4 ((w4.setCell ⟨W.heap.size + 1, 0, none⟩ (.int .i64 ex.c)).setCell ⟨W.heap.size + 1, 1, none⟩ (.slice ex.A ex.n ex.k)) := ((Kept.refl (fun k => k = W.heap.size + 1) w4).set_ (p := ⟨W.heap.size + 1, 0, none⟩) (.inl rfl) _).set_ (p := ⟨W.heap.size + 1, 1, none⟩) (.inl rfl) _
      have hfd := hfin.below (Below.drew (Below.refl _ _))
      have hkd := hkz.trans (Kept.of_below (Below.drew (Below.refl _ _)))
      generalize ((w4.setCell ⟨W.heap.size + 1, 0, none⟩ (.int .i64 ex.c)).setCell ⟨W.heap.size + 1, 1, none⟩ (.slice ex.A ex.n ex.k)).drew = wz at *
      clear hfin hkz
      have HFIN := Lib.hid hfd
      have HKZ := Lib.hid hkd
      clear hfd hkd
      have r0 : wz.cell? ⟨W.heap.size + 1, 0, none⟩ = some (.int .i64 ex.c) := HFIN.out.cell 0
      have r1 : wz.cell? ⟨W.heap.size + 1, 1, none⟩ = some (.slice ex.A ex.n ex.k) := HFIN.out.cell 1
      have hbz : Below W.heap.size W wz := HKZ.out.below HB4.out (fun k h => by omega) HB4.out.size
      have HEND : Hid (PrintDoc (printT g) W (.returned (.tuple #[.string ⟨#[]⟩, .agg #[.int .i64 ex.c, (.slice ex.A ex.n ex.k)]])) wz) := Lib.hid (by rw [HPT.out]; exact ⟨hbz, ex, rfl, (HD4.out.off HKZ.out (by omega)).mono (by omega)⟩)
      go_wp2_with fail
      refine bodyPost_ret (v := .tuple #[.string ⟨#[]⟩, .agg #[.int .i64 ex.c, (.slice ex.A ex.n ex.k)]]) ?hres rfl HEND.out
      case hres => simp [results, Tryz.results12, go_sem, r0, r1]
  | none =>
    have HPT : Hid (printT g = .ok (printB g)) := Lib.hid (by unfold printT; rw [hc])
    obtain ⟨n1, n2, n3, n4⟩ := chkT_none.1 hc
    have HA := Lib.hid n4
    rw [HN.out] at n3
    clear n4 HD4 HD3 HD2
    have HT4 : Hid (TabP w4) := Lib.hid (HT.out.below HB4.out)
    clear hc
    go_upto_region 5 with fail
    obtain ⟨i0, hi, hz0, hz1, hz2⟩ := info_parts infoByte
    have hn0 : -9223372036854775808 ≤ (n : Int) ∧ (n : Int) ≤ 9223372036854775807 := by omega
    have hg0 : -9223372036854775808 ≤ g.n ∧ g.n ≤ 9223372036854775807 := by omega
    have HI1 : Hid (∀ w, TabP w → Calls Tryz.prog 26 #[.int .i64 g.n] w fun e w' => e = .returned (.string (toB (numB g.n))) ∧ Below w.heap.size w w') := Lib.hid (fun w h => Itoa_any _ hg0.1 hg0.2 w h)
    have HI2 : Hid (∀ w, TabP w → Calls Tryz.prog 26 #[.int .i64 (n : Int)] w fun e w' => e = .returned (.string (toB (numB (n : Int)))) ∧ Below w.heap.size w w') := Lib.hid (fun w h => Itoa_any _ hn0.1 hn0.2 w h)
    have hx1 : (toB (numB g.n)).size ≤ 21 := by rw [toB_size]; exact Lib.itoa_length_le _ hg0.1 hg0.2
    have hx2 : (toB (numB (n : Int))).size ≤ 21 := by rw [toB_size]; exact Lib.itoa_length_le _ hn0.1 hn0.2
    have HX1L : Hid ((toB (numB g.n)).data.toList = numB g.n) := Lib.hid rfl
    have HX2L : Hid ((toB (numB (n : Int))).data.toList = numB (n : Int)) := Lib.hid rfl
    generalize toB (numB g.n) = X1 at *
    generalize toB (numB (n : Int)) = X2 at *
    have d0 : w4.cell? ⟨W.heap.size, 0, none⟩ = some (.int .i64 g.n) := HP4.out.cell 0
    have d1 : w4.cell? ⟨W.heap.size, 1, none⟩ = some (.slice A n kk) := HP4.out.cell 1
    have HX : Hid (Below w4.heap.size w4 w4) := Lib.hid (Below.refl _ _)
    have h6 : (⟨#[103, 114, 97, 112, 104, 32]⟩ : ByteArray).size = 6 := rfl
    have h1 : (⟨#[32]⟩ : ByteArray).size = 1 := rfl
    have h10 : (⟨#[10]⟩ : ByteArray).size = 1 := rfl
    have y1 : ((⟨#[103, 114, 97, 112, 104, 32]⟩ : ByteArray) ++ X1).size ≤ 27 := by rw [size_append']; omega
    have y2 : ((⟨#[103, 114, 97, 112, 104, 32]⟩ : ByteArray) ++ X1 ++ ⟨#[32]⟩).size ≤ 28 := by rw [size_append']; omega
    have y3 : ((⟨#[103, 114, 97, 112, 104, 32]⟩ : ByteArray) ++ X1 ++ ⟨#[32]⟩ ++ X2).size ≤ 49 := by rw [size_append']; omega
    have y4 : ((⟨#[103, 114, 97, 112, 104, 32]⟩ : ByteArray) ++ X1 ++ ⟨#[32]⟩ ++ X2 ++ ⟨#[10]⟩).size ≤ 50 := by rw [size_append']; omega
    have Y4 := Lib.hid y4
    clear hn0 hg0 h6 h1 h10 y1 y2 y3 y4
    have z1 : (9223372036854775807 < 6 + X1.size) = False := eq_false (by omega)
    have z2 : (9223372036854775807 < 6 + X1.size + 1) = False := eq_false (by omega)
    have z3 : (9223372036854775807 < 6 + X1.size + 1 + X2.size) = False := eq_false (by omega)
    have z4 : (9223372036854775807 < 6 + X1.size + 1 + X2.size + 1) = False := eq_false (by omega)
    generalize hsv : Value.slice none 0 0 = sv0
    have HO0 : Hid (OwnBy w4 w4.heap.size sv0 []) := Lib.hid (by rw [← hsv]; exact World.ownsRow_nil _ _ _ _)
    clear hsv
    go_region_held3 (fun w' => w'.cell? ⟨W.heap.size, 0, none⟩ = some (.int .i64 g.n) ∧ w'.cell? ⟨W.heap.size, 1, none⟩ = some (.slice A n kk)) (first | with_reducible exact ⟨d0, d1⟩ | go_keep) (first
      | (go_at_call 26; (with_reducible refine (HI1.out _ (HT4.out.below (by first | exact HX.out | exact HX.out.drew))).mono ?_); rintro e v0 ⟨rfl, hb5⟩; have d0 := cell_below hb5 d0; have d1 := cell_below hb5 d1; have HX : Hid (Below w4.heap.size w4 v0) := Lib.hid (by first | exact HX.out.trans (hb5.mono HX.out.size) | exact HX.out.drew.trans (hb5.mono HX.out.drew.size)); clear hb5)
      | (go_at_call 26; (with_reducible refine (HI2.out _ (HT4.out.below (by first | exact HX.out | exact HX.out.drew))).mono ?_); rintro e v1 ⟨rfl, hb5⟩; have d0 := cell_below hb5 d0; have d1 := cell_below hb5 d1; have HX : Hid (Below w4.heap.size w4 v1) := Lib.hid (by first | exact HX.out.trans (hb5.mono HX.out.size) | exact HX.out.drew.trans (hb5.mono HX.out.drew.size)); clear hb5)
      | ((first | rw [if_pos (by rfl)] | skip); refine oper_append_str (.tmp 13) (.tmp 24) 60 9 rfl w4.heap.size 5 i0 Tryz.underlying60 Tryz.underlying9 hi hz0 hz1 hz2 _ 0 [] rfl (HO0.out.below HX.out) _ rfl (by have := Y4.out; unfold maxLen; omega) (by have := Y4.out; omega) HX.out.size ?_; intro v6 w6 ho6 hg6; have HO6 := Lib.hid ho6; have HX6 : Hid (Below w4.heap.size w4 w6) := Lib.hid (HX.out.grown hg6 HX.out.size (fun k hk => (World.ownsRow.lt (HO0.out.below HX.out) k hk).1)); have d0 : w6.cell? ⟨W.heap.size, 0, none⟩ = some (.int .i64 g.n) := (HP4.out.below HX6.out).cell 0; have d1 : w6.cell? ⟨W.heap.size, 1, none⟩ = some (.slice A n kk) := (HP4.out.below HX6.out).cell 1; clear ho6 hg6))
    rename_i hHeld
    clear hHeld
    have hlt4 := HP4.out.lt
    have hle4 := HE4.out.lt
    have HOP : Hid (OwnBy w6 w4.heap.size v6 (lineB graphW [g.n, (n : Int)])) := Lib.hid (by
      have h := OwnBy.put (l := []) (s := (⟨#[103, 114, 97, 112, 104, 32]⟩ : ByteArray) ++ X1 ++ ⟨#[32]⟩ ++ X2 ++ ⟨#[10]⟩) HO6.out
      rw [List.nil_append, list_append', list_append', list_append', list_append', HX1L.out, HX2L.out] at h
      have e : lineB graphW [g.n, (n : Int)] = (⟨#[103, 114, 97, 112, 104, 32]⟩ : ByteArray).data.toList ++ numB g.n ++ (⟨#[32]⟩ : ByteArray).data.toList ++ numB (n : Int) ++ (⟨#[10]⟩ : ByteArray).data.toList := by simp [lineB, graphW]
      rw [e]
      exact h)
    clear z1 z2 z3 z4 hx1 hx2 HX1L HX2L HO6 HO0 HI1 HI2 Y4 HX
    go_upto_region 7 with fail
    clear d0 d1
    go_loopw [5, 29] (fun pv iv wr => ∃ j : Nat, j ≤ n ∧ iv = .int .i64 (j : Int) ∧ OwnBy wr w4.heap.size pv (lineB graphW [g.n, (n : Int)] ++ (g.arcs.take j).flatMap (fun a => lineB arcW [a.f, a.t, a.w])) ∧ Below w4.heap.size w4 wr) (fun _ iv _ => n - (intOf iv).toNat)
    case atStart => exact ⟨0, by omega, rfl, by rw [List.take_zero, List.flatMap_nil, List.append_nil]; exact HOP.out, HX6.out⟩
    case round =>
      obtain ⟨j, hj, rfl, ho, hb⟩ := hrel
      have HOr := Lib.hid ho
      have HBr := Lib.hid hb
      have HBW : Hid (Below W.heap.size W wr) := Lib.hid (HB4.out.trans (hb.mono HB4.out.size))
      have hsr := hb.size
      have hl1 := lineB_len graphW [g.n, (n : Int)] (by intro x hx; simp at hx; rcases hx with rfl | rfl <;> omega)
      have hl2 := arcs_len (g.arcs.take j) (fun a ha => arc_bounds n2 (HA.out a (List.mem_of_mem_take ha)))
      have hpl : (lineB graphW [g.n, (n : Int)] ++ (g.arcs.take j).flatMap (fun a => lineB arcW [a.f, a.t, a.w])).length ≤ 100 + 70 * j := by
        rw [List.length_append]
        rw [List.length_take] at hl2
        have : graphW.length = 5 := rfl
        simp only [List.length_cons, List.length_nil] at hl1
        omega
      clear ho hb hl1 hl2
      by_cases hlt : j < n
      · have q0 : decide ((j : Int) < (n : Int)) = true := decide_eq_true (by omega)
        have hj' : j < g.arcs.length := by rw [HN.out]; exact hlt
        obtain ⟨ad, hA, cc⟩ := (HRD.out.below HBW.out).at_ hlt
        obtain ⟨d0, d1, d2⟩ := arc_cells cc
        have htk := List.take_succ_eq_append_getElem hj'
        obtain ⟨b1, b2, b3⟩ := arc_bounds n2 (HA.out _ (List.getElem_mem hj'))
        generalize g.arcs[j] = a at *
        have HTK := Lib.hid htk
        have hw1 : IntKind.i64.wrap ((j : Int) + 1) = (j : Int) + 1 := by rw [IntKind.wrap_i64]; omega
        clear cc hj' htk
        subst hA
        generalize hpre : lineB graphW [g.n, (n : Int)] ++ (g.arcs.take j).flatMap (fun a => lineB arcW [a.f, a.t, a.w]) = pre at *
        have HPRE := Lib.hid hpre
        clear hpre
        have HI1 : Hid (∀ w, TabP w → Calls Tryz.prog 26 #[.int .i64 a.f] w fun e w' => e = .returned (.string (toB (numB a.f))) ∧ Below w.heap.size w w') := Lib.hid (fun w h => Itoa_any _ b1.1 b1.2 w h)
        have HI2 : Hid (∀ w, TabP w → Calls Tryz.prog 26 #[.int .i64 a.t] w fun e w' => e = .returned (.string (toB (numB a.t))) ∧ Below w.heap.size w w') := Lib.hid (fun w h => Itoa_any _ b2.1 b2.2 w h)
        have HI3 : Hid (∀ w, TabP w → Calls Tryz.prog 26 #[.int .i64 a.w] w fun e w' => e = .returned (.string (toB (numB a.w))) ∧ Below w.heap.size w w') := Lib.hid (fun w h => Itoa_any _ b3.1 b3.2 w h)
        have hx1 : (toB (numB a.f)).size ≤ 21 := by rw [toB_size]; exact Lib.itoa_length_le _ b1.1 b1.2
        have hx2 : (toB (numB a.t)).size ≤ 21 := by rw [toB_size]; exact Lib.itoa_length_le _ b2.1 b2.2
        have hx3 : (toB (numB a.w)).size ≤ 21 := by rw [toB_size]; exact Lib.itoa_length_le _ b3.1 b3.2
        have HX1L : Hid ((toB (numB a.f)).data.toList = numB a.f) := Lib.hid rfl
        have HX2L : Hid ((toB (numB a.t)).data.toList = numB a.t) := Lib.hid rfl
        have HX3L : Hid ((toB (numB a.w)).data.toList = numB a.w) := Lib.hid rfl
        generalize toB (numB a.f) = X1 at *
        generalize toB (numB a.t) = X2 at *
        generalize toB (numB a.w) = X3 at *
        have hb7 := (Below.refl wr.heap.size wr).alloc (Nat.le_refl _) (.cells #[.int .i64 a.f, .int .i64 a.t, .int .i64 a.w] 54)
        have hx7 := cells_new wr #[.int .i64 a.f, .int .i64 a.t, .int .i64 a.w] 54
        have HO7 := Lib.hid (HOr.out.below hb7)
        have HB7 := Lib.hid (HBr.out.trans (hb7.mono HBr.out.size))
        have HX7 := Lib.hid hx7
        have hs7 := hb7.size
        clear hb7 hx7
        go_upto_region 9 with fail
        generalize wr.alloc (.cells #[.int .i64 a.f, .int .i64 a.t, .int .i64 a.w] 54) = w7 at *
        clear d0 d1 d2
        have d0 : w7.cell? ⟨wr.heap.size, 0, none⟩ = some (.int .i64 a.f) := HX7.out.cell 0
        have d1 : w7.cell? ⟨wr.heap.size, 1, none⟩ = some (.int .i64 a.t) := HX7.out.cell 1
        have d2 : w7.cell? ⟨wr.heap.size, 2, none⟩ = some (.int .i64 a.w) := HX7.out.cell 2
        have HT7 : Hid (TabP w7) := Lib.hid (HT4.out.below HB7.out)
        have HX : Hid (Below w7.heap.size w7 w7) := Lib.hid (Below.refl _ _)
        have h4 : (⟨#[97, 114, 99, 32]⟩ : ByteArray).size = 4 := rfl
        have h1 : (⟨#[32]⟩ : ByteArray).size = 1 := rfl
        have h10 : (⟨#[10]⟩ : ByteArray).size = 1 := rfl
        have y4 : ((⟨#[97, 114, 99, 32]⟩ : ByteArray) ++ X1 ++ ⟨#[32]⟩ ++ X2 ++ ⟨#[32]⟩ ++ X3 ++ ⟨#[10]⟩).size ≤ 70 := by simp only [size_append']; omega
        have Y4 := Lib.hid y4
        clear h4 h1 h10 y4
        have z1 : (9223372036854775807 < 4 + X1.size) = False := eq_false (by omega)
        have z2 : (9223372036854775807 < 4 + X1.size + 1) = False := eq_false (by omega)
        have z3 : (9223372036854775807 < 4 + X1.size + 1 + X2.size) = False := eq_false (by omega)
        have z4 : (9223372036854775807 < 4 + X1.size + 1 + X2.size + 1) = False := eq_false (by omega)
        have z5 : (9223372036854775807 < 4 + X1.size + 1 + X2.size + 1 + X3.size) = False := eq_false (by omega)
        have z6 : (9223372036854775807 < 4 + X1.size + 1 + X2.size + 1 + X3.size + 1) = False := eq_false (by omega)
        have HPL := Lib.hid hpl
        clear hpl
        go_region_held3 (fun w' => w'.cell? ⟨wr.heap.size, 0, none⟩ = some (.int .i64 a.f) ∧ w'.cell? ⟨wr.heap.size, 1, none⟩ = some (.int .i64 a.t) ∧ w'.cell? ⟨wr.heap.size, 2, none⟩ = some (.int .i64 a.w)) (first | with_reducible exact ⟨d0, d1, d2⟩ | go_keep) (first
          | (go_at_call 26; (with_reducible refine (HI1.out _ (HT7.out.below (by first | exact HX.out | exact HX.out.drew))).mono ?_); rintro e v1 ⟨rfl, hb5⟩; have d0 := cell_below hb5 d0; have d1 := cell_below hb5 d1; have d2 := cell_below hb5 d2; have HX : Hid (Below w7.heap.size w7 v1) := Lib.hid (by first | exact HX.out.trans (hb5.mono HX.out.size) | exact HX.out.drew.trans (hb5.mono HX.out.drew.size)); clear hb5)
          | (go_at_call 26; (with_reducible refine (HI2.out _ (HT7.out.below (by first | exact HX.out | exact HX.out.drew))).mono ?_); rintro e v2 ⟨rfl, hb5⟩; have d0 := cell_below hb5 d0; have d1 := cell_below hb5 d1; have d2 := cell_below hb5 d2; have HX : Hid (Below w7.heap.size w7 v2) := Lib.hid (by first | exact HX.out.trans (hb5.mono HX.out.size) | exact HX.out.drew.trans (hb5.mono HX.out.drew.size)); clear hb5)
          | (go_at_call 26; (with_reducible refine (HI3.out _ (HT7.out.below (by first | exact HX.out | exact HX.out.drew))).mono ?_); rintro e v3 ⟨rfl, hb5⟩; have d0 := cell_below hb5 d0; have d1 := cell_below hb5 d1; have d2 := cell_below hb5 d2; have HX : Hid (Below w7.heap.size w7 v3) := Lib.hid (by first | exact HX.out.trans (hb5.mono HX.out.size) | exact HX.out.drew.trans (hb5.mono HX.out.drew.size)); clear hb5)
          | ((first | rw [if_pos (by rfl)] | skip); refine oper_append_str (.tmp 33) (.tmp 48) 60 9 rfl w4.heap.size 5 i0 Tryz.underlying60 Tryz.underlying9 hi hz0 hz1 hz2 _ pre.length (Lib.byteCells pre) rfl (HO7.out.below HX.out) _ rfl (by have := Y4.out; have := HPL.out; unfold maxLen; omega) (by have := Y4.out; have := HPL.out; omega) (by have := HX.out.size; omega) ?_; intro v8 w8 ho8 hg8; have HO8 := Lib.hid ho8; have HB8 : Hid (Below w4.heap.size w4 w8) := Lib.hid ((HB7.out.trans (HX.out.mono HB7.out.size)).grown hg8 (by have := HX.out.size; omega) (fun k hk => (World.ownsRow.lt (HO7.out.below HX.out) k hk).1)); have d0 := hg8.cell d0 (fun h => Lib.ownBlock_ne (HO7.out.below HX.out) (HX7.out.below HX.out) (by decide) h.symm); have d1 := hg8.cell d1 (fun h => Lib.ownBlock_ne (HO7.out.below HX.out) (HX7.out.below HX.out) (by decide) h.symm); have d2 := hg8.cell d2 (fun h => Lib.ownBlock_ne (HO7.out.below HX.out) (HX7.out.below HX.out) (by decide) h.symm); clear ho8 hg8))
        rename_i hHeld
        clear hHeld d0 d1 d2 z1 z2 z3 z4 z5 z6
        have HO9 : Hid (OwnBy w8 w4.heap.size v8 (lineB graphW [g.n, (n : Int)] ++ (g.arcs.take (j + 1)).flatMap (fun a => lineB arcW [a.f, a.t, a.w]))) := Lib.hid (by
          have h := OwnBy.put HO8.out
          simp only [list_append'] at h
          rw [HX1L.out, HX2L.out, HX3L.out] at h
          rw [HTK.out, List.flatMap_append, ← List.append_assoc, HPRE.out]
          have e1 : [a].flatMap (fun a => lineB arcW [a.f, a.t, a.w]) = (⟨#[97, 114, 99, 32]⟩ : ByteArray).data.toList ++ numB a.f ++ (⟨#[32]⟩ : ByteArray).data.toList ++ numB a.t ++ (⟨#[32]⟩ : ByteArray).data.toList ++ numB a.w ++ (⟨#[10]⟩ : ByteArray).data.toList := by simp [lineB, arcW]
          rw [e1]
          exact h)
        go_wp2_with fail
        go_roundw
        case rel => exact ⟨j + 1, by omega, by go_num, HO9.out, HB8.out⟩
        case measure => simp [intOf]; omega
      · obtain rfl : j = n := by omega
        have htk : g.arcs.take j = g.arcs := List.take_of_length_le (by rw [HN.out]; exact Nat.le_refl _)
        rw [htk] at HOr hpl
        clear htk
        have HER : Hid (Cells wr (W.heap.size + 1) #[.int .i64 0, .slice none 0 0] 32) := Lib.hid (HE4.out.below HBr.out)
        have q0 : decide ((j : Int) < (j : Int)) = false := decide_eq_false (by omega)
        generalize hpre : lineB graphW [g.n, (j : Int)] ++ g.arcs.flatMap (fun a => lineB arcW [a.f, a.t, a.w]) = pre at *
        have HPRE := Lib.hid hpre
        have h4 : (⟨#[101, 110, 100, 10]⟩ : ByteArray).size = 4 := rfl
        clear hpre
        go_upto_region 11 with fail
        go_wp2_with (at_builtin; refine Lib.wpList_append_own_string _ rfl _ _ 60 9 rfl w4.heap.size 5 i0 Tryz.underlying60 Tryz.underlying9 hi hz0 hz1 hz2 _ _ _ rfl HOr.out ⟨#[101, 110, 100, 10]⟩ rfl ?c3 ?c4 ?c5 ?_)
        case c3 => unfold maxLen; omega
        case c4 => omega
        case c5 => omega
        intro v8 w8 ho8 hg8 _
        have ho9 := OwnBy.put ho8
        have hpb : pre ++ (⟨#[101, 110, 100, 10]⟩ : ByteArray).data.toList = printB g := by
          rw [printB_lines, HN.out, ← HPRE.out]
          rfl
        rw [hpb] at ho9
        have hcv := string_own ho9
        have hb8 : Below w4.heap.size w4 w8 := HBr.out.grown hg8 (by omega) (fun k hk => (World.ownsRow.lt HOr.out k hk).1)
        have HE8 := Lib.hid (HE4.out.below hb8)
        have HB8 := Lib.hid (HB4.out.trans (hb8.mono HB4.out.size))
        clear ho8 hg8 ho9 hpb hb8 h4
        have Ec0 : w8.cell? ⟨W.heap.size + 1, 0, none⟩ = some (.int .i64 0) := HE8.out.cell 0
        have Ef0 := HE8.out.frozen 0
        have Ec1 : w8.cell? ⟨W.heap.size + 1, 1, none⟩ = some (.slice none 0 0) := HE8.out.cell 1
        have Ef1 := HE8.out.frozen 1
        have hfin := (HE8.out.set_ 0 (.int .i64 0)).set_ 1 (.slice none 0 0)
        simp only [List.setIfInBounds_toArray, List.set_cons_zero, List.set_cons_succ] at hfin
        have hkz : Kept (fun k => k = W.heap.size + 1) w8 ((w8.setCell ⟨W.heap.size + 1, 0, none⟩ (.int .i64 0)).setCell ⟨W.heap.size + 1, 1, none⟩ (.slice none 0 0)) := ((Kept.refl (fun k => k = W.heap.size + 1) w8).set_ (p := ⟨W.heap.size + 1, 0, none⟩) (.inl rfl) _).set_ (p := ⟨W.heap.size + 1, 1, none⟩) (.inl rfl) _
        have HFIN := Lib.hid hfin
        have HKZ := Lib.hid hkz
        clear hfin hkz
        go_wp2_with fail
        generalize ((w8.setCell ⟨W.heap.size + 1, 0, none⟩ (.int .i64 0)).setCell ⟨W.heap.size + 1, 1, none⟩ (.slice none 0 0)) = wz at *
        have r0 : wz.cell? ⟨W.heap.size + 1, 0, none⟩ = some (.int .i64 0) := HFIN.out.cell 0
        have r1 : wz.cell? ⟨W.heap.size + 1, 1, none⟩ = some (.slice none 0 0) := HFIN.out.cell 1
        have hbz : Below W.heap.size W wz := HKZ.out.below HB8.out (fun k h => by omega) HB8.out.size
        have HEND : Hid (PrintDoc (printT g) W (.returned (.tuple #[.string (toB (printB g)), .agg #[.int .i64 0, (.slice none 0 0)]])) wz) := Lib.hid (by rw [HPT.out]; exact ⟨hbz, rfl⟩)
        refine bodyPost_ret (v := .tuple #[.string (toB (printB g)), .agg #[.int .i64 0, (.slice none 0 0)]]) ?hres rfl HEND.out
        case hres => simp [results, Tryz.results12, go_sem, r0, r1]
end Go.Proofs.YtngihiebkbheaaaGreatDoor
