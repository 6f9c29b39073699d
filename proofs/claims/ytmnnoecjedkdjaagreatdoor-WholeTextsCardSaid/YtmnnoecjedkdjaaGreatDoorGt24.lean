/- strings.Builder, strconv.Itoa. -/
import Derived.Test.YtmnnoecjedkdjaaGreatDoorGt22
import Derived.Test.YtmnnoecjedkdjaaGreatDoorShelf
import Derived.Lib.AppendStr
set_option linter.unusedSimpArgs false
set_option linter.unusedVariables false
namespace Go.Proofs.YtmnnoecjedkdjaaGreatDoor
open Go.RowKit Txt

def TabP (w : World) : Prop := Lib.TabIs Tryz.prog w "internal/strconv.uint64pow10" .u64 Lib.pow10Tab
theorem TabP.kept {S : Nat → Prop} {w w' : World} (h : TabP w) (hk : Kept S w w') (hS : ¬ S 2) : TabP w' := by
  have hg : Tryz.prog.globalNamed "internal/strconv.uint64pow10" = some 2 := by kernel_rfl
  unfold TabP Lib.TabIs World.var? at h ⊢
  rw [hg] at h ⊢
  simp only [Option.bind_some] at h ⊢
  have hlt : 2 < w.heap.size := by
    rcases Nat.lt_or_ge 2 w.heap.size with h' | h'
    · exact h'
    · rw [Array.getElem?_eq_none h'] at h; cases h
  rw [hk.block _ hlt hS]
  exact h
theorem TabP.below {w w' : World} (h : TabP w) (hb : Below w.heap.size w w') : TabP w' := h.kept (S := fun _ => False) (Kept.of_below hb) (fun h => h)
theorem grow_below (w : World) (k : Nat) (os : Array Obj) : Below w.heap.size w (Go.Sort.grow (w.drewN k) os) :=
  ⟨rfl, rfl, rfl, by rw [Go.Sort.size_grow]; exact Nat.le_add_right _ _, fun i hi => Go.Sort.heap_grow_old (w.drewN k) os hi⟩
theorem Itoa_any (n : Int) (h0 : -9223372036854775808 ≤ n) (h1 : n ≤ 9223372036854775807) (w : World) (ht : TabP w) :
    Calls Tryz.prog 23 #[.int .i64 n] w fun e w' => e = .returned (.string (toB (numB n))) ∧ Below w.heap.size w w' :=
  (Tryz.strconv_Itoa n h0 h1 w ht).mono fun e w' ⟨h, k, os, hw⟩ => ⟨h, by rw [hw]; exact grow_below w k os⟩
theorem sizeBuilder : (Tryz.prog.info? 83).map (fun i => i.size) = some 2 := by kernel_rfl
theorem liesBuilder : liesAt Tryz.prog Tryz.prog.depth 83 (2 / Tryz.prog.cellsOf 83) 0 83 1 = true := by kernel_rfl
theorem infoByte : (Tryz.prog.info? 5).map (fun i => (i.zero, i.size, i.bytes)) = some (some (.int .u8 0), 1, 1) := by kernel_rfl
set_option maxHeartbeats 1000000 in
theorem copyCheck_used (b : Nat) (w : World) (h0 : w.cell? ⟨b, 0, none⟩ = some (.pointer (some ⟨b, 0, none⟩))) :
    Calls Tryz.prog 55 #[.pointer (some ⟨b, 0, none⟩)] w fun e w' => e = .returned (.tuple #[]) ∧ w' = w := by
  obtain ⟨j, hj, _⟩ := Option.map_eq_some_iff.1 sizeBuilder
  have hne : (binOp .neq 80 (.pointer (some ⟨b, 0, none⟩)) (.pointer (some ⟨b, 0, none⟩))).run Tryz.prog w = .ok (.bool false) w := Lib.run_neq_ptr_same w _ Tryz.underlying80 hj
  go_enter Tryz.func55, Tryz.ntmps55
  go_wp2_with fail
  go_end0
  exact ⟨rfl, rfl⟩
set_option maxRecDepth 100000 in
set_option maxHeartbeats 1000000 in
theorem copyCheck_fresh (b : Nat) (w : World) (h0 : w.cell? ⟨b, 0, none⟩ = some (.pointer none)) (hsh : w.shape? b = some (83, 2)) (hfz : w.frozen? ⟨b, 0, none⟩ = false) :
    Calls Tryz.prog 55 #[.pointer (some ⟨b, 0, none⟩)] w fun e w' => e = .returned (.tuple #[]) ∧ w' = w.setCell ⟨b, 0, none⟩ (.pointer (some ⟨b, 0, none⟩)) := by
  obtain ⟨j, hj, hjs⟩ := Option.map_eq_some_iff.1 sizeBuilder
  go_enter Tryz.func55, Tryz.ntmps55
  go_wp2_with fail
  rw [Lib.run_to_unsafe w ⟨b, 0, none⟩ Tryz.underlying80 Tryz.underlying95 hj (by rw [hjs]; decide) hsh (Nat.zero_lt_succ 1)]
  simp only [Result.andThen]
  rw [Oper.upon_value]
  go_wp2_with fail
  rw [run_callFunc_extern Tryz.func73 (by kernel_rfl) (by kernel_rfl) (by kernel_rfl) (e := Extern.AbiNoEscape.same) (by kernel_rfl)]
  rw [Lib.run_noEscape]
  simp only [Result.andThen]
  rw [Oper.upon_value]
  go_wp2_with fail
  rw [Lib.run_from_unsafe w ⟨b, 0, none⟩ Tryz.underlying95 Tryz.underlying80 hj hsh liesBuilder]
  simp only [Result.andThen]
  rw [Oper.upon_value]
  go_wp2_with fail
  go_end0
  exact ⟨rfl, rfl⟩
/-- blocks that are no row of bytes and not the builder's own stay as they are -/
def Wr (b : Nat) (w w' : World) : Prop := ∀ r cs T fr, w.heap[r]? = some (.cells cs T fr) → T ≠ 5 → r ≠ b → w'.heap[r]? = some (.cells cs T fr)
theorem Wr.refl (b : Nat) (w : World) : Wr b w w := fun _ _ _ _ h _ _ => h
theorem Wr.trans {b : Nat} {w w' w'' : World} (h : Wr b w w') (h' : Wr b w' w'') : Wr b w w'' := fun r cs T fr h1 h2 h3 => h' r cs T fr (h r cs T fr h1 h2 h3) h2 h3
theorem Wr.of_below {b : Nat} {w w' : World} (h : Below w.heap.size w w') : Wr b w w' := fun r cs T fr h1 _ _ => by
  have hlt : r < w.heap.size := by
    rcases Nat.lt_or_ge r w.heap.size with h' | h'
    · exact h'
    · rw [Array.getElem?_eq_none h'] at h1; cases h1
  rw [h.block r hlt]
  exact h1
theorem TabP.belowB {B : Nat} {w w' : World} (h : TabP w) (hb : Below B w w') (hg : 2 < B) : TabP w' := by
  have hg' : Tryz.prog.globalNamed "internal/strconv.uint64pow10" = some 2 := by kernel_rfl
  unfold TabP Lib.TabIs World.var? at h ⊢
  rw [hg'] at h ⊢
  simp only [Option.bind_some] at h ⊢
  rw [hb.block _ hg]
  exact h
abbrev BldAt (B b : Nat) (p : Value) (l : List Value) (w : World) : Prop := Lib.BuilderAt 83 5 B b p l w
def Bld (B b : Nat) (l : Bs) (w : World) : Prop := Lib.IsBuilder 83 5 B b (Lib.byteCells l) w
theorem copyCheck_any (B b : Nat) (bs : List Value) (w : World) (h : Lib.IsBuilder 83 5 B b bs w) :
    Calls Tryz.prog 55 #[.pointer (some ⟨b, 0, none⟩)] w fun e w' => e = .returned (.tuple #[]) ∧ (BldAt B b (.pointer (some ⟨b, 0, none⟩)) bs w' ∧ Below B w w' ∧ Wr b w w') := by
  rcases h with h | h
  · refine (copyCheck_fresh b w h.cell0 h.shape h.frozen0).mono ?_
    rintro e w' ⟨rfl, rfl⟩
    exact ⟨rfl, h.used _, (Below.refl B w).setCell (p := ⟨b, 0, none⟩) h.1 _, fun r cs T fr h1 _ h3 => by rw [Below.heap_setCell w ⟨b, 0, none⟩ _ r h3]; exact h1⟩
  · refine (copyCheck_used b w h.cell0).mono ?_
    rintro e w' ⟨rfl, rfl⟩
    exact ⟨rfl, h, Below.refl B _, Wr.refl b _⟩
set_option maxRecDepth 100000 in
set_option maxHeartbeats 2000000 in
theorem WriteString_any (B b : Nat) (l : Bs) (s : ByteArray) (w : World) (h : Bld B b l w) (hlen : l.length + s.size ≤ 140737488355328) (hBw : B ≤ w.heap.size) :
    Calls Tryz.prog 34 #[.pointer (some ⟨b, 0, none⟩), .string s] w fun e w' => e = .returned (.tuple #[.int .i64 s.size, .nilIface]) ∧ Bld B b (l ++ s.data.toList) w' ∧ Below B w w' ∧ Wr b w w' := by
  obtain ⟨i0, hi, hz0, hz1, hz2⟩ := info_parts infoByte
  have hcl : (Lib.byteCells l).length = l.length := Lib.byteCells_length l
  go_enter Tryz.func34, Tryz.ntmps34
  go_wp2_with fail
  refine (copyCheck_any B b _ _ h).mono ?_
  rintro e w1 ⟨rfl, h1, hb1, hwr1⟩
  obtain ⟨hB, v, hbk, hown, hne⟩ := h1
  have c0 : w1.cell? ⟨b, 0, none⟩ = some (.pointer (some ⟨b, 0, none⟩)) := by rw [Lib.cell_of_heap hbk]; rfl
  have c1 : w1.cell? ⟨b, 1, none⟩ = some v := by rw [Lib.cell_of_heap hbk]; rfl
  go_wp2_with (at_builtin; refine Lib.wpList_append_own_string _ rfl _ _ 81 9 rfl B 5 i0 Tryz.underlying81 Tryz.underlying9 hi hz0 hz1 hz2 _ _ _ rfl hown s rfl ?c3 ?c4 ?c5 ?_)
  case c3 => rw [hcl]; unfold maxLen; omega
  case c4 => rw [hcl]; omega
  case c5 => have := hb1.size; omega
  intro v' w2 hown' hgrow _
  have hlt : b < w1.heap.size := by
    rcases Nat.lt_or_ge b w1.heap.size with h' | h'
    · exact h'
    · simp [Array.getElem?_eq_none h'] at hbk
  have hb2 : w2.heap[b]? = some (.cells #[.pointer (some ⟨b, 0, none⟩), v] 83 (0, 0)) := by
    rw [hgrow.block b hlt (fun e => hne e.symm)]
    exact hbk
  have d0 : w2.cell? ⟨b, 0, none⟩ = some (.pointer (some ⟨b, 0, none⟩)) := by rw [Lib.cell_of_heap hb2]; rfl
  have d1 : w2.cell? ⟨b, 1, none⟩ = some v := by rw [Lib.cell_of_heap hb2]; rfl
  have f1 : w2.frozen? ⟨b, 1, none⟩ = false := Lib.frozen_of_heap hb2 1
  obtain ⟨ao, n', cap, rfl⟩ : ∃ ao n' cap, v' = .slice ao n' cap := by
    rcases hown'.2 with ⟨hv, _⟩ | ⟨g, cap, cur, hv, _⟩
    · exact ⟨_, _, _, hv⟩
    · exact ⟨_, _, _, hv⟩
  go_wp2_with fail
  go_ret2
  have hcells : Lib.byteCells l ++ Lib.strCells s = Lib.byteCells (l ++ s.data.toList) := by rw [Lib.byteCells_append]; rfl
  refine ⟨rfl, ?_, ?_, ?_⟩
  · have h9 := Lib.BuilderAt.put (T := 83) (e := 5) hB hb2 (bs' := Lib.byteCells l ++ Lib.strCells s) (by simpa [Lib.strCells_length, hcl] using hown') (by decide)
    rw [hcells] at h9
    exact .inr h9
  · exact (hb1.grown hgrow (by have := hb1.size; omega) (fun k hk => (hown.lt k hk).1)).setCell (p := ⟨b, 1, none⟩) hB _
  · intro r cs T fr h1 h2 h3
    have h4 := hwr1 r cs T fr h1 h2 h3
    rw [Below.heap_setCell w2 ⟨b, 1, none⟩ _ r h3]
    have hlr : r < w1.heap.size := by
      rcases Nat.lt_or_ge r w1.heap.size with h' | h'
      · exact h'
      · rw [Array.getElem?_eq_none h'] at h4; cases h4
    rw [hgrow.block r hlr (fun e => Lib.ownBlock_ne hown h4 h2 e.symm)]
    exact h4
theorem Cells.wr {b : Nat} {w w' : World} {r : Nat} {cs : Array Value} {t : TypeId} (h : Cells w r cs t) (hw : Wr b w w') (ht : t ≠ 5) (hr : r ≠ b) : Cells w' r cs t := hw r cs t (0, 0) h ht hr
theorem Bld.below {B b : Nat} {l : Bs} {w w' : World} (h : Bld B b l w) (hb : Below w.heap.size w w') : Bld B b l w' := by
  have one : ∀ p, BldAt B b p (Lib.byteCells l) w → BldAt B b p (Lib.byteCells l) w' := fun p h => by
    have hlt := h.lt
    obtain ⟨hB, v, hbk, hown, hne⟩ := h
    exact ⟨hB, v, (hb.block b hlt).trans hbk, World.ownsRow.kept hown (grown_of_below hb none) (by cases v.ownBlock <;> simp), hne⟩
  exact h.elim (fun h => .inl (one _ h)) (fun h => .inr (one _ h))
/-- a line of the text -/
def lineB (s : Bs) (ns : List Int) : Bs := s ++ ns.flatMap (fun n => 32 :: numB n) ++ [10]
theorem size_append' (a b : ByteArray) : (a ++ b).size = a.size + b.size := by rw [ByteArray.size_append]
theorem list_append' (a b : ByteArray) : (a ++ b).data.toList = a.data.toList ++ b.data.toList := by rw [ByteArray.data_append, Array.toList_append]
theorem flat_len21 : ∀ (ns : List Int), (∀ n ∈ ns, -9223372036854775808 ≤ n ∧ n ≤ 9223372036854775807) → (ns.flatMap fun n => 32 :: numB n).length ≤ 22 * ns.length
  | [], _ => Nat.le_refl _
  | n :: ns, h => by
    have ih := flat_len21 ns fun x hx => h x (by simp [hx])
    have h1 : (numB n).length ≤ 21 := Lib.itoa_length_le n (h n (by simp)).1 (h n (by simp)).2
    rw [List.flatMap_cons, List.length_append, List.length_cons, List.length_cons]
    omega
set_option maxRecDepth 100000 in
set_option maxHeartbeats 4000000 in
theorem line_any (B b : Nat) (l : Bs) (s : ByteArray) (A : Option Addr) (n c : Nat) (ns : List Int) (W : World) (hb : Bld B b l W) (hB : B ≤ W.heap.size) (hn : ns.length = n) (hn2 : n ≤ 1000)
    (hr : ∀ w, Wr b W w → ∀ j (hj : j < ns.length), ∃ ad, A = some ad ∧ w.cell? (ad.add j) = some (.int .i64 ns[j])) (hns : ∀ x ∈ ns, -9223372036854775808 ≤ x ∧ x ≤ 9223372036854775807)
    (hlen : l.length + s.size + 22 * n + 1 ≤ 140737488355328) (ht : TabP W) (hg : 2 < B) :
    Calls Tryz.prog 33 #[.string s, .slice A n c, .pointer (some ⟨b, 0, none⟩)] W fun e w' => e = .returned (.tuple #[]) ∧ Bld B b (l ++ lineB s.data.toList ns) w' ∧ Below B W w' ∧ Wr b W w' := by
  have HR := Lib.hid hr
  have HNS := Lib.hid hns
  have HT := Lib.hid ht
  have HN := Lib.hid hn
  have hss := size_list s
  clear hr hns ht hn
  go_enter Tryz.func33, Tryz.ntmps33
  go_wp2_with fail
  refine (WriteString_any B b l s W hb (by omega) hB).mono ?_
  rintro e w1 ⟨rfl, hb1, hbe1, hwr1⟩
  have HB1 := Lib.hid hb1
  have HE1 := Lib.hid hbe1
  have HW1 := Lib.hid hwr1
  clear hb1 hbe1 hwr1 hb
  go_wp2_with fail
  go_loopw [11] (fun iv wr => ∃ j : Nat, j ≤ n ∧ iv = .int .i64 (j : Int) ∧ Bld B b (l ++ s.data.toList ++ (ns.take j).flatMap (fun n => 32 :: numB n)) wr ∧ Below B W wr ∧ Wr b W wr) (fun iv _ => n - (intOf iv).toNat)
  case atStart => exact ⟨0, by omega, rfl, by simpa using HB1.out, HE1.out, HW1.out⟩
  case round =>
    obtain ⟨j, hj, rfl, hbb, hbe, hwr⟩ := hrel
    have HBB := Lib.hid hbb
    have HBE := Lib.hid hbe
    have HWR := Lib.hid hwr
    have hsz := hbe.size
    have hfl := flat_len21 (ns.take j) (fun x hx => HNS.out x (List.mem_of_mem_take hx))
    have hll : (l ++ s.data.toList ++ (ns.take j).flatMap (fun n => 32 :: numB n)).length ≤ l.length + s.size + 22 * j := by
      rw [List.length_append, List.length_append]
      rw [List.length_take] at hfl
      omega
    clear hbb hbe hwr hfl
    by_cases hlt : j < n
    · have g0 : decide ((j : Int) < (n : Int)) = true := decide_eq_true (by omega)
      have hj' : j < ns.length := by rw [HN.out]; exact hlt
      obtain ⟨ad, rfl, cc⟩ := HR.out wr HWR.out j hj'
      have htk := List.take_succ_eq_append_getElem hj'
      have hbx := HNS.out ns[j] (List.getElem_mem hj')
      generalize ns[j] = x at *
      have HTK := Lib.hid htk
      have HI := Lib.hid (Itoa_any x hbx.1 hbx.2 wr (HT.out.belowB HBE.out hg))
      have hnl : (numB x).length ≤ 21 := Lib.itoa_length_le x hbx.1 hbx.2
      have hw1 : IntKind.i64.wrap ((j : Int) + 1) = (j : Int) + 1 := by rw [IntKind.wrap_i64]; omega
      clear htk
      go_wp2_with fail
      refine HI.out.mono ?_
      rintro e w2 ⟨rfl, hb2⟩
      have HBB2 : Hid (Bld B b (l ++ s.data.toList ++ (ns.take j).flatMap (fun n => 32 :: numB n)) w2) := Lib.hid (HBB.out.below hb2)
      have HBE2 := Lib.hid (HBE.out.trans (hb2.mono hsz |> fun h => h.mono (by omega)))
      have HWR2 := Lib.hid (HWR.out.trans (Wr.of_below hb2))
      have hsz2 := hb2.size
      have hx1 : (((toB (numB x)).size : Nat) : Int) ≤ 8388608 := by rw [toB_size]; omega
      have hx2 : (((⟨#[32]⟩ : ByteArray).size : Nat) : Int) ≤ 8388608 := by decide
      clear hb2 HI cc
      have h32 : (⟨#[32]⟩ : ByteArray).size = 1 := rfl
      have hsx : ((⟨#[32]⟩ : ByteArray) ++ toB (numB x)).size ≤ 22 := by rw [size_append', toB_size, h32]; omega
      generalize hpre : l ++ s.data.toList ++ (ns.take j).flatMap (fun n => 32 :: numB n) = pre at *
      have HPRE := Lib.hid hpre
      have HWS := Lib.hid (WriteString_any B b pre ((⟨#[32]⟩ : ByteArray) ++ toB (numB x)) w2 HBB2.out (by omega) (by omega))
      clear hpre hsx h32
      go_wp2_with fail
      refine HWS.out.mono ?_
      rintro e w3 ⟨rfl, hb3, hbe3, hwr3⟩
      rw [list_append', toB_list] at hb3
      have HB3 : Hid (Bld B b (l ++ s.data.toList ++ (ns.take (j + 1)).flatMap (fun n => 32 :: numB n)) w3) := Lib.hid (by
        rw [HTK.out, List.flatMap_append, ← List.append_assoc, HPRE.out]
        have e1 : [x].flatMap (fun n => 32 :: numB n) = 32 :: numB x := by simp
        rw [e1]
        exact hb3)
      have HE3 := Lib.hid (HBE2.out.trans hbe3)
      have HW3 := Lib.hid (HWR2.out.trans hwr3)
      clear hb3 hbe3 hwr3 HWS
      go_wp2_with fail
      go_roundw
      case rel => exact ⟨j + 1, by omega, by go_num, HB3.out, HE3.out, HW3.out⟩
      case measure => simp [intOf]; omega
    · obtain rfl : j = n := by omega
      have g0 : decide ((j : Int) < (j : Int)) = false := decide_eq_false (by omega)
      have htk : ns.take j = ns := List.take_of_length_le (by rw [HN.out]; exact Nat.le_refl _)
      rw [htk] at HBB hll
      have h10 : (⟨#[10]⟩ : ByteArray).size = 1 := rfl
      have HWS := Lib.hid (WriteString_any B b _ ⟨#[10]⟩ wr HBB.out (by omega) (by omega))
      clear h10
      go_wp2_with fail
      refine HWS.out.mono ?_
      rintro e w3 ⟨rfl, hb3, hbe3, hwr3⟩
      have HB3 : Hid (Bld B b (l ++ lineB s.data.toList ns) w3) := Lib.hid (by
        unfold lineB
        rw [← List.append_assoc, ← List.append_assoc]
        exact hb3)
      have HE3 := Lib.hid (HBE.out.trans hbe3)
      have HW3 := Lib.hid (HWR.out.trans hwr3)
      clear hb3 hbe3 hwr3
      go_wp2_with fail
      go_end0
      exact ⟨rfl, HB3.out, HE3.out, HW3.out⟩
end Go.Proofs.YtmnnoecjedkdjaaGreatDoor
