/- Texts. -/
import Derived.Test.YtkncgpnnilcicaaDoorFa6
import Derived.Lib.Join
set_option linter.unusedSimpArgs false
set_option linter.unusedVariables false
namespace Go.Proofs.YtkncgpnnilcicaaDoor
open Go.RowKit Go.Extern.Stop Go.Stop Go.Extern

abbrev strs (b : ByteArray) : List Value := [.string b]
theorem strs_len : ∀ x, (strs x).length = 1 := fun _ => rfl
theorem strs_one : ∀ x, ∀ u ∈ strs x, u.oneCell' = true := fun x u h => by
  simp at h
  subst h
  rfl
theorem info_string : (Tryd.prog.info? 9).map (fun i => (i.zero, i.size, i.bytes)) = some (some (.string ⟨#[]⟩), 1, 16) := by kernel_rfl
abbrev OwnS (w : World) (base : Nat) (v : Value) (l : List ByteArray) : Prop := Own 9 1 strs w base v l
def sepB : ByteArray := ⟨#[58, 32]⟩
def joinB (l : List ByteArray) : ByteArray := ⟨(Lib.join (l.map (·.data.toList)) sepB.data.toList).toArray⟩
theorem lens_le (M : Nat) : ∀ l : List ByteArray, (∀ b ∈ l, b.size ≤ M) → Lib.lens (l.map (·.data.toList)) ≤ M * l.length
  | [], _ => by simp [Lib.lens]
  | b :: r, h => by
    have h1 := h b List.mem_cons_self
    have h2 := lens_le M r fun x hx => h x (List.mem_cons_of_mem _ hx)
    simp only [Lib.lens, List.map_cons, List.sum_cons, List.length_cons, Array.length_toList] at *
    rw [Nat.mul_add]
    have : b.data.size = b.size := rfl
    omega
theorem joinB_len (M : Nat) (l : List ByteArray) (h : ∀ b ∈ l, b.size ≤ M) : (Lib.join (l.map (·.data.toList)) sepB.data.toList).length ≤ (M + 2) * l.length := by
  cases l with
  | nil => simp [Lib.join, List.intercalate]
  | cons b r =>
    have h1 := lens_le M (b :: r) h
    rw [List.map_cons, Lib.join_length]
    rw [List.map_cons] at h1
    have h2 : sepB.data.toList.length = 2 := rfl
    rw [h2, List.length_map]
    simp only [List.length_cons] at *
    rw [Nat.add_mul]
    omega
theorem Join_own {w : World} {base : Nat} {v : Value} {l : List ByteArray} (h : OwnS w base v l) (hs : ∀ b ∈ l, b.size ≤ 64) (hl : l.length ≤ 100) :
    Calls Tryd.prog 42 #[v, .string sepB] w fun e w' => e = .returned (.string (joinB l)) ∧ Below w.heap.size w w' := by
  have hr := h
  rcases h.2 with ⟨rfl, h0⟩ | ⟨g, cap, cur, rfl, hb, hg, hn, hm, hcs, htake⟩
  · obtain rfl : l = [] := List.eq_nil_of_length_eq_zero h0
    exact (Tryd.strings_Join_none none 0 sepB w).mono fun e w' h => ⟨h.1, by rw [h.2]; exact Below.refl _ _⟩
  · have hlen := joinB_len 64 l hs
    refine (Tryd.strings_Join g 0 cap l sepB w ?_ (Array.getElem?_eq_some_iff.1 hg).1 (by omega) hn (by omega)).mono fun e w' h => h
    intro j x hj
    have hj' := (List.getElem?_eq_some_iff.1 hj).1
    obtain ⟨ad, hA, cc⟩ := (hr.rd strs_len rfl).at_ hj'
    obtain rfl := Option.some.inj hA
    have := cc 0 (.string x) (by simp [(List.getElem?_eq_some_iff.1 hj).2])
    have ha : (⟨g, 0, none⟩ : Addr).add j = ⟨g, 0 + j, none⟩ := by unfold Addr.add; split <;> simp_all
    rw [← ha]
    simpa using this
def wordsB (ps : List (Int × Int)) (c : Int) : List ByteArray := ps.map wordB ++ (if c = 0 then [] else [sayB c])
def textB (ps : List (Int × Int)) (c : Int) : ByteArray := joinB (wordsB ps c)
theorem kindB_size (k : Int) : (kindB k).size ≤ 5 := by
  unfold kindB
  repeat' split
  all_goals simp [ByteArray.size]
theorem wordB_size (p : Int × Int) (h : I64 p.2) : (wordB p).size ≤ 27 := by
  have := kindB_size p.1
  have := itoaB_size p.2 h
  have h1 : spaceB.size = 1 := rfl
  unfold wordB
  rw [ByteArray.size_append, ByteArray.size_append, h1]
  omega
theorem sayB_size (c : Int) (h : I64 c) : (sayB c).size ≤ 64 := by
  by_cases hc : 1 ≤ c ∧ c ≤ 20
  · have hcc : c = 1 ∨ c = 2 ∨ c = 3 ∨ c = 4 ∨ c = 5 ∨ c = 6 ∨ c = 7 ∨ c = 8 ∨ c = 9 ∨ c = 10 ∨ c = 11 ∨ c = 12 ∨ c = 13 ∨ c = 14 ∨ c = 15 ∨ c = 16 ∨ c = 17 ∨ c = 18 ∨ c = 19 ∨ c = 20 := by omega
    rcases hcc with rfl | rfl | rfl | rfl | rfl | rfl | rfl | rfl | rfl | rfl | rfl | rfl | rfl | rfl | rfl | rfl | rfl | rfl | rfl | rfl <;> decide
  · have := itoaB_size c h
    have h1 : errorB.size = 6 := rfl
    rw [sayB_out c hc, ByteArray.size_append, h1]
    omega
theorem oper_append_rd {P : Program} {α : Type} {sz : Nat} {enc : α → List Value} {o : Oper} {a : Act} {K : Act → World → Prop} {Q : Exit → Act → World → Prop} {w : World} (s x : Operand) (t : TypeId)
    (ho : o.op = .call { callee := .builtin .append, args := #[s, x], argTypes := #[t, t] }) (e : TypeId) (z : Value) (bytes : Nat) (ht : P.underlying t = some (.slice e))
    (hinfo : (P.info? e).map (fun i => (i.zero, i.size, i.bytes)) = some (some z, sz, bytes)) (hz : z.cells.size = sz) (hsz : 0 < sz) (hb0 : 0 < bytes)
    (hE : ∀ x, (enc x).length = sz) (h1 : ∀ x, ∀ u ∈ enc x, u.oneCell' = true) (base : Nat) (v : Value) (l : List α) (hs : a.eval s = v) (hown : Own e sz enc w base v l)
    (A : Option Addr) (m c : Nat) (k : List α) (hx : a.eval x = .slice A m c) (hr : Rd sz enc w A m k) (hbytes : (l.length + m) * bytes ≤ 140737488355328) (hbase : base ≤ w.heap.size)
    (h : ∀ v' w', Own e sz enc w' base v' (l ++ k) → w.grownBy w' v.ownBlock → (v'.ownBlock = v.ownBlock ∨ v'.ownBlock = some w.heap.size) → K (a.put o.dst v') w') :
    Oper.wp P o a w K Q := by
  obtain ⟨v', w', hrun, h2, h3, h4⟩ := run_append_rd (P := P) w t o.type e z bytes ht hinfo hz hsz hb0 hE h1 base v l hown A m c k hr hbytes hbase
  unfold Oper.wp execOp
  simp only [ho, resolve, invoke, builtin, Sem.run_bind, Sem.run_pure, Result.andThen_ok, List.map_toArray, List.map_cons, List.map_nil, hs, hx, hrun]
  exact h v' w' h2 h3 h4
theorem rd_str (w : World) (x : ByteArray) : Rd 1 strs (w.alloc (.cells #[.string x] 9)) (some ⟨w.heap.size, 0, none⟩) 1 [x] := rd_new strs_len w _ [x]
theorem linkPs_len (ps : List (Int × Int)) : (linkPs ps).length ≤ 64 := by unfold linkPs; rw [List.length_take]; omega
theorem linkPs_mem {ps : List (Int × Int)} (h : ∀ p ∈ ps, I64 p.2) : ∀ p ∈ linkPs ps, I64 p.2 := fun p hp => h p (List.mem_of_mem_take hp)
set_option maxRecDepth 100000 in
set_option maxHeartbeats 2000000 in
theorem Text_any (E : Core) (v : Value) (ps : List (Int × Int)) (W : World) (h : Wrap W E v ps) (hps : ∀ p ∈ ps, I64 p.2) (hE : I64 E.code) (ht : Tab W) :
    Calls Tryd.prog 19 #[v] W fun e w' => e = .returned (.string (textB (linkPs ps) (linkC ps E))) ∧ Below W.heap.size W w' := by
  have hlk := links_any E v ps h
  unfold LinksIs at hlk
  have hpl := linkPs_len ps
  have hpm := linkPs_mem hps
  have hc : I64 (linkC ps E) := by unfold linkC; split; exact hE; exact ⟨by omega, by omega⟩
  generalize linkC ps E = d at *
  generalize linkPs ps = qs at *
  have HLK := Lib.hid hlk
  have HPM := Lib.hid hpm
  have HC := Lib.hid hc
  have HT := Lib.hid ht
  clear hlk hpm hc h hps hE ht
  go_enter Tryd.func19, Tryd.ntmps19
  go_wp2_with fail
  refine HLK.out.mono ?_
  rintro e w2 ⟨p, rfl, ho, hb⟩
  obtain ⟨A, c, rfl, hr, hm⟩ := own_places ho
  have HR := Lib.hid hr
  have HB := Lib.hid hb
  generalize hn : qs.length = n at *
  have HN := Lib.hid hn
  clear hr hb ho hn
  go_wp2_with fail
  go_loopw [5, 15] (fun sv iv wr => ∃ j : Nat, j ≤ n ∧ iv = .int .i64 j ∧ OwnS wr w2.heap.size sv ((qs.take j).map wordB) ∧ Below w2.heap.size w2 wr) (fun _ iv _ => n - (intOf iv).toNat)
  case atStart => exact ⟨0, by omega, rfl, Own.nil _ _ _ _ _, Below.refl _ _⟩
  case round =>
    obtain ⟨j, hj, rfl, ho, hb⟩ := hrel
    have HBR := Lib.hid hb
    have HO := Lib.hid ho
    clear hb ho
    by_cases hlt : j < n
    · have g0 : decide ((j : Int) < (n : Int)) = true := decide_eq_true (by omega)
      obtain ⟨ad, hA, cc⟩ := (HR.out.below HBR.out).at_ hlt
      subst hA
      obtain ⟨c0, c1⟩ := two_places cc
      clear cc
      have hjq : j < qs.length := by have := HN.out; omega
      have htk := List.take_succ_eq_append_getElem hjq
      have hx := HPM.out qs[j] (List.getElem_mem _)
      generalize qs[j] = x at *
      obtain ⟨xk, xa⟩ := x
      dsimp only at c0 c1 hx
      have hz := itoaB_size _ hx
      have hkz := kindB_size xk
      have hk1 : ¬ 9223372036854775807 < (kindB xk).size + 1 := by omega
      have hk2 : ¬ 9223372036854775807 < (kindB xk).size + 1 + (itoaB xa).size := by omega
      have HTK := Lib.hid htk
      have HI := Lib.hid hx
      clear htk hx hjq
      go_wp2_with fail
      have d0 := (cells_new wr #[.int .i64 xk, .int .i64 xa] 34).cell 0
      have d1 := (cells_new wr #[.int .i64 xk, .int .i64 xa] 34).cell 1
      have hb3 := (Below.refl wr.heap.size wr).alloc (Nat.le_refl _) (.cells #[.int .i64 xk, .int .i64 xa] 34)
      generalize wr.alloc (.cells #[.int .i64 xk, .int .i64 xa] 34) = w3 at *
      have e0 : w3.cell? ⟨wr.heap.size, 0, none⟩ = some (.int .i64 xk) := d0
      have e1 : w3.cell? ⟨wr.heap.size, 1, none⟩ = some (.int .i64 xa) := d1
      have HB3 := Lib.hid hb3
      clear d0 d1 hb3 c0 c1
      go_region_held3 (fun w' => w'.cell? ⟨wr.heap.size, 0, none⟩ = some (.int .i64 xk) ∧ w'.cell? ⟨wr.heap.size, 1, none⟩ = some (.int .i64 xa)) (first | exact ⟨e0, e1⟩ | exact ⟨cell_below ((Below.refl _ _).alloc (Nat.le_refl _) _) e0, cell_below ((Below.refl _ _).alloc (Nat.le_refl _) _) e1⟩) (first
        | (go_at_call 39; refine (kind_any _ _).mono ?_; rintro e w5 ⟨rfl, h⟩; obtain rfl := h.symm; clear h)
        | (go_at_call 40; refine (Itoa_any _ HI.out.1 HI.out.2 _ (tab_below HT.out (HB.out.trans ((HBR.out.trans (HB3.out.mono HBR.out.size).drew).mono HB.out.size)))).mono ?_; rintro e w5 ⟨rfl, hb5⟩; have e0 := cell_below hb5 e0; have e1 := cell_below hb5 e1; have HB5 := Lib.hid ((HB3.out.drew).trans (hb5.mono (HB3.out.drew).size)); clear hb5)
        | ((first | rw [if_pos (by rfl)] | skip); refine oper_append_rd (.tmp 19) (.tmp 28) 80 rfl 9 (.string ⟨#[]⟩) 16 Tryd.underlying80 info_string rfl (by omega) (by omega) strs_len strs_one w2.heap.size _ ((qs.take j).map wordB) rfl (HO.out.below (HB5.out.alloc HB5.out.size _)) _ 1 1 [wordB (xk, xa)] rfl (rd_str _ _) (by rw [List.length_map, List.length_take]; omega) (by have := HB5.out.size; have := HBR.out.size; simp; omega) ?_; intro v6 w6 ho6 hg6 hat6; have HO6 := Lib.hid ho6; have HB6 : Hid (Below w2.heap.size w2 w6) := Lib.hid (below_own ((HBR.out.trans ((HB5.out.alloc HB5.out.size _).mono HBR.out.size))) (HO.out.below (HB5.out.alloc HB5.out.size _)) hg6 (Nat.le_refl _) (by have := HB5.out.size; have := HBR.out.size; simp; omega)); have e0 := hg6.cell (cell_below ((Below.refl _ _).alloc (Nat.le_refl _) _) e0) (by intro h; have := (HO.out.block h.symm).2; simp at this); have e1 := hg6.cell (cell_below ((Below.refl _ _).alloc (Nat.le_refl _) _) e1) (by intro h; have := (HO.out.block h.symm).2; simp at this); clear ho6 hg6 hat6))
      all_goals
        go_wp2_with fail
        go_roundw
        case rel => exact ⟨j + 1, by omega, by go_num, by rw [HTK.out, List.map_append]; exact HO6.out, HB6.out⟩
        case measure => simp [intOf]; omega
    · obtain rfl : j = n := by omega
      have g0 : decide ((j : Int) < (j : Int)) = false := decide_eq_false (by omega)
      have htk : qs.take j = qs := List.take_of_length_le (by have := HN.out; omega)
      rw [htk] at HO
      clear htk g0
      by_cases hd : d = 0
      · have HT0 : Hid (textB qs 0 = joinB (qs.map wordB)) := Lib.hid (by unfold textB wordsB; rw [if_pos rfl, List.append_nil])
        have HJ := Lib.hid (Join_own HO.out (fun b hb => by obtain ⟨p, hp, rfl⟩ := List.mem_map.1 hb; have := wordB_size p (HPM.out p hp); omega) (by rw [List.length_map]; have := HN.out; omega))
        subst hd
        go_wp2_with fail
        refine HJ.out.mono ?_
        rintro e w5 ⟨rfl, hb5⟩
        have HB5 := Lib.hid (HB.out.trans ((HBR.out.trans (hb5.mono HBR.out.size)).mono HB.out.size))
        clear hb5
        go_wp2_with fail
        go_ret
        exact ⟨by rw [HT0.out]; rfl, HB5.out⟩
      · have g1 : (d != 0) = true := by simp [bne, hd]
        have HT0 : Hid (textB qs d = joinB (qs.map wordB ++ [sayB d])) := Lib.hid (by unfold textB wordsB; rw [if_neg hd])
        clear hd
        go_wp2_with fail
        refine (Errno_any d _ HC.out (tab_below HT.out (HB.out.trans (HBR.out.mono HB.out.size)))).mono ?_
        rintro e w5 ⟨rfl, hb5⟩
        have HB5 := Lib.hid hb5
        clear hb5
        go_wp2_with (at_builtin; go_loud (refine wpList_append_rd rfl (.tmp 33) (.tmp 36) 80 rfl 9 (.string ⟨#[]⟩) 16 Tryd.underlying80 info_string rfl (by omega) (by omega) strs_len strs_one w2.heap.size _ (qs.map wordB) rfl (HO.out.below (HB5.out.alloc HB5.out.size _)) _ 1 1 [sayB d] rfl (rd_str _ _) (by rw [List.length_map, HN.out]; omega) (by have := HB5.out.size; have := HBR.out.size; simp; omega) ?_; intro v6 w6 ho6 hg6 hat6; have HO6 := Lib.hid ho6; have HB6 : Hid (Below w2.heap.size w2 w6) := Lib.hid (below_own ((HBR.out.trans ((HB5.out.alloc HB5.out.size _).mono HBR.out.size))) (HO.out.below (HB5.out.alloc HB5.out.size _)) hg6 (Nat.le_refl _) (by have := HB5.out.size; have := HBR.out.size; simp; omega)); clear ho6 hg6 hat6))
        refine (Join_own HO6.out (fun b hb => by
          rcases List.mem_append.1 hb with hb | hb
          · obtain ⟨p, hp, rfl⟩ := List.mem_map.1 hb
            have := wordB_size p (HPM.out p hp)
            omega
          · obtain rfl := List.mem_singleton.1 hb
            exact sayB_size d HC.out) (by rw [List.length_append, List.length_map, HN.out]; simp; omega)).mono ?_
        rintro e w7 ⟨rfl, hb7⟩
        have HB7 := Lib.hid (HB.out.trans ((HB6.out.trans (hb7.mono HB6.out.size)).mono HB.out.size))
        clear hb7
        go_wp2_with fail
        go_ret
        exact ⟨by rw [HT0.out]; rfl, HB7.out⟩
end Go.Proofs.YtkncgpnnilcicaaDoor
