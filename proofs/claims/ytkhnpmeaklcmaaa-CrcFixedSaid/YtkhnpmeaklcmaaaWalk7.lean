/- The contract of the program's Join: a check sum carried on by n zero bytes, whatever n. -/
import Derived.Test.YtkhnpmeaklcmaaaWalk6
import Derived.Deep.WholeRow
import Derived.Laws.CopyOwn
set_option linter.unusedSimpArgs false
set_option linter.unusedVariables false
namespace Go.Proofs.Ytkhnpmeaklcmaaa
open Go.RowKit Go.Proofs.Ytkhnpmeaklcmaaa.Crc

theorem and_bit (c : BitVec 32) (k : Nat) : bits .and .u32 ((c.toNat : Int) / 2 ^ k) 1 = if c.getLsbD k = true then 1 else 0 := by
  have e : ((c.toNat : Int) / 2 ^ k) = ((c.toNat / 2 ^ k : Nat) : Int) := by rw [Int.natCast_ediv, Int.natCast_pow]; rfl
  have hlt : c.toNat / 2 ^ k < 4294967296 := Nat.lt_of_le_of_lt (Nat.div_le_self _ _) (lt32 c)
  have h := u32_and_nat (c.toNat / 2 ^ k) 1 hlt (by omega)
  rw [e]
  refine Eq.trans h ?_
  rw [nat_mask1, ← BitVec.testBit_toNat, Nat.testBit_eq_decide_div_mod_eq]
  rcases Nat.mod_two_eq_zero_or_one (c.toNat / 2 ^ k) with h | h <;> simp [h]

set_option maxHeartbeats 800000 in
theorem apply_any (k : Nat) (c : BitVec 32) (w : World) :
    Calls Try.prog 29 #[.agg (stepA k), .int .u32 (c.toNat : Int)] w fun e w' => e = .returned (.int .u32 ((turns k c).toNat : Int)) ∧ w.alloc (.cells (stepA k) 40) = w' := by
  have hsz := Lib.hid (stepA_size k)
  go_enter Try.func29, Try.ntmps29
  go_wp2
  go_loop [5, 7] (fun x i => ∃ j : Nat, j ≤ 32 ∧ i = .int .i64 j ∧ x = .int .u32 ((turns k (low c 32 j)).toNat : Int)) (fun _ i => 32 - (intOf i).toNat)
  case atStart => exact ⟨0, by omega, rfl, val_int (by simp [low, turns_zero])⟩
  case round =>
    obtain ⟨j, hj, rfl, rfl⟩ := hrel
    by_cases hlt : j < 32
    · have hc := stepA_get k hlt
      have hs := turns_low k c j hlt
      by_cases hb : c.getLsbD j = true
      · rw [if_pos hb] at hs
        have q := and_bit c j
        rw [if_pos hb] at q
        have q1 : (bits .and .u32 ((c.toNat : Int) / 2 ^ j) 1 == 1) = true := by rw [q]; rfl
        have HS := Lib.hid hs
        clear hs hb q
        go_wp2
        go_round
        case rel => exact ⟨j + 1, by omega, by go_num, val_int (by rw [HS.out, ← xor32])⟩
        case measure => simp [intOf]; omega
      · rw [if_neg hb] at hs
        have q := and_bit c j
        rw [if_neg hb] at q
        have q1 : (bits .and .u32 ((c.toNat : Int) / 2 ^ j) 1 == 1) = false := by rw [q]; rfl
        have HS := Lib.hid hs
        clear hs hb q
        go_wp2
        go_round
        case rel => exact ⟨j + 1, by omega, by go_num, val_int (by rw [HS.out])⟩
        case measure => simp [intOf]; omega
    · obtain rfl : j = 32 := by omega
      have hs := Lib.hid (low_all c)
      go_wp2
      go_ret
      exact ⟨ret_int (by rw [hs.out]), rfl⟩

/-- the cells of a step, the first j of them laid -/
def mixA (k j : Nat) : Array Value := ((stepL k j).map fun x => Value.int .u32 (x.toNat : Int)).toArray ++ Array.replicate (32 - j) (.int .u32 0)
theorem mixA_full (k : Nat) : mixA k 32 = stepA k := by simp [mixA, stepA]
theorem mixA_size {k j : Nat} (hj : j ≤ 32) : (mixA k j).size = 32 := by simp [mixA, stepL_len]; omega
theorem stepL_succ (k j : Nat) : stepL k (j + 1) = stepL k j ++ [turns k (1#32 <<< j)] := by simp [stepL, List.range_succ]
theorem mixA_get {k j : Nat} (hj : j < 32) : (mixA k j)[j]? = some (.int .u32 0) := by
  simp only [mixA]
  rw [Array.getElem?_append_right (by simp [stepL_len])]
  have e : j - (List.map (fun x => Value.int IntKind.u32 (x.toNat : Int)) (stepL k j)).toArray.size = 0 := by simp [stepL_len]
  rw [e, Array.getElem?_replicate, if_pos (by omega)]
theorem mixA_set {k j : Nat} (hj : j < 32) : (mixA k j).setIfInBounds j (.int .u32 ((turns k (1#32 <<< j)).toNat : Int)) = mixA k (j + 1) := by
  apply Array.toList_inj.1
  simp only [mixA, Array.toList_setIfInBounds, Array.toList_append, stepL_succ, List.map_append, List.map_cons, List.map_nil, Array.toList_replicate]
  rw [List.set_append_right _ _ (by simp [stepL_len])]
  simp only [List.length_map, stepL_len, Nat.sub_self]
  rw [show 32 - j = (32 - (j + 1)) + 1 by omega, List.replicate_succ]
  simp
theorem shl_one {j : Nat} (hj : j < 32) : ((2 : Int) ^ j % 4294967296) = ((1#32 <<< j : BitVec 32).toNat : Int) := by
  have h : (2 : Nat) ^ j < 2 ^ 32 := Nat.pow_lt_pow_right (by omega) hj
  rw [BitVec.toNat_shiftLeft, Nat.shiftLeft_eq]
  have e : ((2 ^ j : Nat) : Int) = (2 : Int) ^ j := Int.natCast_pow 2 j
  rw [← e]
  have e1 : ((1#32 : BitVec 32).toNat * 2 ^ j) = 2 ^ j := by simp
  rw [e1, Nat.mod_eq_of_lt h]
  omega
def Cells (w : World) (g : Nat) (cs : Array Value) (t : TypeId) : Prop := w.heap[g]? = some (.cells cs t (0, 0))
theorem Cells.cell {w : World} {g : Nat} {cs : Array Value} {t : TypeId} (h : Cells w g cs t) (i : Nat) : w.cell? ⟨g, i, none⟩ = cs[i]? := cell_of_row w g i cs t (0, 0) h
theorem Cells.frozen {w : World} {g : Nat} {cs : Array Value} {t : TypeId} (h : Cells w g cs t) (i : Nat) : w.frozen? ⟨g, i, none⟩ = false := frozen_of_row w g i cs t h
theorem Cells.set_ {w : World} {g : Nat} {cs : Array Value} {t : TypeId} (h : Cells w g cs t) (i : Nat) (v : Value) : Cells (w.setCell ⟨g, i, none⟩ v) g (cs.setIfInBounds i v) t := heap_setCell_same w g i cs t v h
theorem Cells.lt {w : World} {g : Nat} {cs : Array Value} {t : TypeId} (h : Cells w g cs t) : g < w.heap.size := (Array.getElem?_eq_some_iff.1 h).1

/-- one step twice, the first i cells of it laid over the step itself -/
def mix2 (k i : Nat) : Array Value := ((stepL (2 * k) i ++ (stepL k 32).drop i).map fun x => Value.int .u32 (x.toNat : Int)).toArray
theorem mix2_zero (k : Nat) : mix2 k 0 = stepA k := by simp [mix2, stepA, stepL]
theorem mix2_full (k : Nat) : mix2 k 32 = stepA (2 * k) := by
  simp only [mix2, stepA]
  rw [List.drop_of_length_le (by rw [stepL_len]; omega), List.append_nil]
theorem mix2_get {k i : Nat} (hi : i < 32) : (mix2 k i)[i]? = some (.int .u32 ((turns k (1#32 <<< i)).toNat : Int)) := by
  simp only [mix2, List.getElem?_toArray, List.getElem?_map]
  rw [List.getElem?_append_right (by rw [stepL_len]; omega), stepL_len, Nat.sub_self, List.getElem?_drop, stepL_get k 32 (by omega)]
  rfl
theorem mix2_set {k i : Nat} (hi : i < 32) : (mix2 k i).setIfInBounds i (.int .u32 ((turns (2 * k) (1#32 <<< i)).toNat : Int)) = mix2 k (i + 1) := by
  apply Array.toList_inj.1
  have hd : (stepL k 32).drop i = (stepL k 32)[i]'(by rw [stepL_len]; exact hi) :: (stepL k 32).drop (i + 1) := List.drop_eq_getElem_cons (by rw [stepL_len]; exact hi)
  simp only [mix2, Array.toList_setIfInBounds, hd]
  generalize (stepL k 32).drop (i + 1) = R
  generalize (stepL k 32)[i]'(by rw [stepL_len]; exact hi) = y
  simp only [stepL_succ, List.map_append, List.map_cons]
  rw [List.set_append_right _ _ (by simp [stepL_len])]
  simp [stepL_len]
theorem step_one (k i : Nat) : mix2 k i = mix2 k i := rfl
theorem mod_bit (n j : Nat) : n % 2 ^ (j + 1) = n % 2 ^ j + n / 2 ^ j % 2 * 2 ^ j := by
  rw [Nat.pow_succ, Nat.mod_mul, Nat.mul_comm]
theorem div_bit (n j : Nat) : n / 2 ^ (j + 1) = n / 2 ^ j / 2 := by rw [Nat.pow_succ, Nat.div_div_eq_div_mul]
theorem step_all1 (k : Nat) : (stepA k).all (·.oneCell') = true := by
  simp only [stepA, List.all_toArray, List.all_map, List.all_eq_true]
  intro x _; rfl
theorem info_arr : (Try.prog.info? 40).map (·.size) = some 32 := by kernel_rfl

theorem Cells.below {w w' : World} {g : Nat} {cs : Array Value} {t : TypeId} (h : Cells w g cs t) (hb : Below w.heap.size w w') : Cells w' g cs t := (hb.block g h.lt).trans h
def ApplyPost (k : Nat) (c : BitVec 32) (w : World) (e : Ending) (w' : World) : Prop := e = .returned (.int .u32 ((turns k c).toNat : Int)) ∧ Below w.heap.size w w'
theorem apply_post (k : Nat) (c : BitVec 32) (w : World) : Calls Try.prog 29 #[.agg (stepA k), .int .u32 (c.toNat : Int)] w (ApplyPost k c w) :=
  (apply_any k c w).mono fun e w' ⟨he, hw⟩ => ⟨he, by subst hw; exact (Below.refl _ _).alloc (Nat.le_refl _) _⟩

theorem setRow_alloc (w : World) (c c' : Array Value) (t : TypeId) : (w.alloc (.cells c t)).setRow w.heap.size c' = w.alloc (.cells c' t) := World.setRow_alloc_new w c c' t
theorem turns_twice (k : Nat) (x : BitVec 32) : turns k (turns k x) = turns (2 * k) x := by rw [← turns_add]; congr 1; omega
theorem run_load_row {P : Program} {ρ : Operand → Value} {o : Oper} {w : World} {ty : TypeId} {x : Operand} {g : Nat} {t : TypeId} {cs : Array Value} {d : TypeDesc} (ho : o.op = .load ty x) (hx : ρ x = .pointer (some ⟨g, 0, none⟩))
    (hg : Cells w g cs t) (hu : P.underlying ty = some d) (hd : (match d with | .struct _ | .array _ _ => true | _ => false) = true) (hi : (P.info? ty).map (·.size) = some cs.size) :
    (execOp ρ o).run P w = .ok (.value (.agg cs)) w := by
  unfold execOp
  simp only [ho, hx, Instr.loadAt, Instr.sureAddr, Sem.run_bind, Sem.run_pure, Result.andThen_ok, run_loadVar_row w g t ty cs (0, 0) d hg hu hd hi]

set_option maxHeartbeats 1600000 in
theorem Join_any (a b : BitVec 32) (n : Int) (w : World) (hn : n ≤ 9223372036854775807) (hm : -9223372036854775808 ≤ n) :
    Calls Try.prog 22 #[.int .u32 (a.toNat : Int), .int .u32 (b.toNat : Int), .int .i64 n] w fun e w' => e = .returned (.int .u32 ((turns (8 * n.toNat) a ^^^ b).toNat : Int)) ∧ Below w.heap.size w w' := by
  go_enter Try.func22, Try.ntmps22
  go_wp2
  go_loopw [11] (fun i wr => ∃ j : Nat, j ≤ 32 ∧ i = .int .i64 j ∧ Cells wr w.heap.size (mixA 8 j) 40 ∧ Below w.heap.size w wr) (fun i _ => 32 - (intOf i).toNat)
  case atStart => exact ⟨0, by omega, rfl, heap_alloc_new w _, (Below.refl _ _).alloc (Nat.le_refl _) _⟩
  case round =>
    obtain ⟨j, hj, rfl, hc, hb⟩ := hrel
    have HC := Lib.hid hc
    have HB := Lib.hid hb
    clear hc hb
    by_cases hlt : j < 32
    · have c1 := (HC.out.cell j).trans (mixA_get hlt)
      have c2 := HC.out.frozen j
      have hs := Lib.hid (shl_one hlt)
      go_wp2_with fail
      refine (half_of hs.out _).mono ?_
      rintro e w' ⟨rfl, rfl⟩
      go_wp2_with fail
      refine (half_any _ _).mono ?_
      rintro e w' ⟨rfl, rfl⟩
      go_wp2
      go_roundw
      case rel => 
        refine ⟨j + 1, by omega, by go_num, ?_, HB.out.setCell (p := ⟨w.heap.size, j, none⟩) (Nat.le_refl _) _⟩
        rw [← mixA_set hlt, half2]
        exact HC.out.set_ _ _
      case measure => simp [intOf]; omega
    · have hc := HC.out
      rw [show j = 32 by omega, mixA_full] at hc
      have HC2 := Lib.hid hc
      clear hc HC
      obtain ⟨j0, rfl⟩ : ∃ j0 : Nat, j0 = j := ⟨_, rfl⟩
      by_cases hpos : 0 < n
      · go_wp2
        go_loopw [0, 2] (fun x m wr => ∃ j : Nat, m = .int .i64 ((n.toNat / 2 ^ j : Nat) : Int) ∧ x = .int .u32 ((turns (8 * (n.toNat % 2 ^ j)) a).toNat : Int) ∧ Cells wr w.heap.size (stepA (8 * 2 ^ j)) 40 ∧ Below w.heap.size w wr) (fun _ m _ => (intOf m).toNat)
        case atStart => exact ⟨0, val_int (by simp; omega), by simp [Nat.mod_one, turns], HC2.out, HB.out⟩
        case round =>
          obtain ⟨j, rfl, rfl, hc, hb⟩ := hrel
          have hN : n.toNat / 2 ^ j ≤ 9223372036854775807 := Nat.le_trans (Nat.div_le_self _ _) (by omega)
          have hdiv := Lib.hid (div_bit n.toNat j)
          have hmod := mod_bit n.toNat j
          have KEY := Lib.hid (show turns (8 * (n.toNat % 2 ^ (j + 1))) a = turns (8 * 2 ^ j * (n.toNat / 2 ^ j % 2)) (turns (8 * (n.toNat % 2 ^ j)) a) by
            rw [hmod, ← turns_add]; congr 1; rw [Nat.mul_add, Nat.mul_assoc 8, Nat.mul_comm (2 ^ j)])
          clear hmod
          have K2 := Lib.hid (show 8 * 2 ^ (j + 1) = 2 * (8 * 2 ^ j) by rw [Nat.pow_succ]; omega)
          have EndK := Lib.hid (show n.toNat / 2 ^ j = 0 → turns (8 * (n.toNat % 2 ^ j)) a = turns (8 * n.toNat) a from fun h => by have e := Nat.div_add_mod n.toNat (2 ^ j); rw [h, Nat.mul_zero, Nat.zero_add] at e; rw [e])
          generalize turns (8 * (n.toNat % 2 ^ j)) a = X at *
          generalize n.toNat / 2 ^ j = N at *
          generalize 8 * 2 ^ j = K at *
          have HC1 := Lib.hid hc
          have HB1 := Lib.hid hb
          clear hc hb
          by_cases hN0 : 0 < N
          · by_cases hodd : N % 2 = 1
            case' pos =>
              have q : (((N : Int) % 2) == 1) = true := by rw [beq_iff_eq]; omega
              have KEY1 : Hid (turns K X = turns (8 * (n.toNat % 2 ^ (j + 1))) a) := Lib.hid (by rw [KEY.out, hodd, Nat.mul_one])
              clear hodd
              go_wp2_with (refine wpList_load_row rfl 40 (.tmp 7) rfl w.heap.size rfl 40 (stepA K) (0, 0) _ HC1.out Try.underlying40 rfl (by rw [stepA_size]; exact info_arr) ?_)
              refine (apply_post K X wr).mono ?_
              rintro e w2 ⟨rfl, hb2⟩
              rw [KEY1.out]
              have HC3 := Lib.hid (HC1.out.below hb2)
              have HB3 : Hid (Below w.heap.size w w2) := Lib.hid (HB1.out.trans (hb2.mono HB1.out.size))
              clear hb2
              go_wp2_with (first | (refine wpList_load_row rfl 40 (.tmp 7) rfl w.heap.size rfl 40 (stepA K) (0, 0) _ HC3.out Try.underlying40 rfl (by rw [stepA_size]; exact info_arr) ?_) | (refine wpList_store_row rfl 40 (.tmp 9) (.tmp 31) rfl w2.heap.size (stepA K) rfl rfl 40 _ (heap_alloc_new w2 _) (by rw [stepA_size]; exact info_arr) (by rw [stepA_size]; rfl) (step_all1 K) ?_))
            case' neg =>
              have q : (((N : Int) % 2) == 1) = false := by rw [beq_eq_false_iff_ne]; omega
              have KEY1 : X = turns (8 * (n.toNat % 2 ^ (j + 1))) a := by rw [KEY.out, show N % 2 = 0 by omega, Nat.mul_zero]; rfl
              clear hodd KEY
              subst KEY1
              obtain ⟨w2, rfl⟩ : ∃ w2 : World, w2 = wr := ⟨_, rfl⟩
              have HC3 := HC1
              have HB3 := HB1
              clear HC1 HB1
              go_wp2_with (first | (refine wpList_load_row rfl 40 (.tmp 7) rfl w.heap.size rfl 40 (stepA K) (0, 0) _ HC3.out Try.underlying40 rfl (by rw [stepA_size]; exact info_arr) ?_) | (refine wpList_store_row rfl 40 (.tmp 9) (.tmp 31) rfl w2.heap.size (stepA K) rfl rfl 40 _ (heap_alloc_new w2 _) (by rw [stepA_size]; exact info_arr) (by rw [stepA_size]; rfl) (step_all1 K) ?_))
            all_goals
              rw [setRow_alloc]
              have HC4 : Hid (Cells (w2.alloc (.cells (stepA K) 40)) w.heap.size (stepA K) 40) := Lib.hid (HC3.out.below ((Below.refl _ _).alloc (Nat.le_refl _) _))
              have HD4 : Hid (Cells (w2.alloc (.cells (stepA K) 40)) w2.heap.size (mix2 K 0) 40) := Lib.hid (by rw [mix2_zero]; exact heap_alloc_new w2 _)
              have HB4 : Hid (Below w.heap.size w (w2.alloc (.cells (stepA K) 40))) := Lib.hid (HB3.out.alloc HB3.out.size _)
              have hgg : w.heap.size ≤ w2.heap.size := HB3.out.size
              have hne : Hid (w.heap.size ≠ w2.heap.size) := Lib.hid (by have := HC3.out.lt; omega)
              go_loopw [32] (fun i wq => ∃ q : Nat, q ≤ 32 ∧ i = .int .i64 q ∧ Cells wq w.heap.size (stepA K) 40 ∧ Cells wq w2.heap.size (mix2 K q) 40 ∧ Below w.heap.size w wq) (fun i _ => 32 - (intOf i).toNat)
              case atStart => exact ⟨0, by omega, rfl, HC4.out, HD4.out, HB4.out⟩
              case round =>
                obtain ⟨q, hq, rfl, hc5, hd5, hb5⟩ := hrel
                obtain ⟨wq, rfl⟩ : ∃ wq : World, wq = wr := ⟨_, rfl⟩
                have HC5 := Lib.hid hc5
                have HD5 := Lib.hid hd5
                have HB5 := Lib.hid hb5
                clear hc5 hd5 hb5
                by_cases hlt2 : q < 32
                · have c1 := (HC5.out.cell q).trans (stepA_get K hlt2)
                  have T2 := Lib.hid (turns_twice K (1#32 <<< q))
                  go_wp2
                  refine wp_region_any (by kernel_rfl) ?_
                  refine wpAny_takes (fuel := 5) (by kernel_rfl) (fun _ _ _ d _ h => by cases d <;> exact h) [0, 2, 3] _ _ _ (by kernel_rfl) ?_
                  iterate 3 (refine YTo.cons (v := ?_) rfl (by rfl) ?_ ?_; rotate_left 1; (focus (intro w; go_simp; try with_reducible rfl)); go_frame)
                  refine YTo.nil ?_
                  refine wpAny_two (fuel := 3) (i := 1) (j := 4) (vi := .agg (stepA K)) (vj := .int .u32 ((turns K (1#32 <<< q)).toNat : Int)) (by kernel_rfl) (by kernel_rfl) (by kernel_rfl) rfl rfl (by rfl) (by rfl) (by rfl) (by rfl) ?_ ?_ ?_ ?_ (by kernel_rfl) (by rfl) ?_
                  · exact run_load_row rfl rfl HC5.out Try.underlying40 rfl (by rw [stepA_size]; exact info_arr)
                  · change Sem.run _ _ wq.drew = .ok _ wq.drew
                    go_simp
                  · exact run_load_row rfl rfl HC5.out Try.underlying40 rfl (by rw [stepA_size]; exact info_arr)
                  · change Sem.run _ _ wq.drew = .ok _ wq.drew
                    go_frame
                    go_simp
                  · go_frame
                    change wpAny _ _ _ _ _ _ _ wq.drew
                    refine wpAny_ready (rs := [5]) (by kernel_rfl) (by simp) (AllReady.cons rfl (fun Kc hKc => ?_) AllReady.nil)
                    go_simp
                    refine (apply_post K (turns K (1#32 <<< q)) _).mono ?_
                    rintro e w6 ⟨rfl, hb6⟩
                    have HB6 : Hid (Below wq.heap.size wq w6) := Lib.hid ((Drawn.below ⟨1, rfl⟩ _).trans hb6)
                    clear hb6
                    rw [T2.out]
                    refine hKc _ _ ?_
                    clear hKc Kc
                    have HC6 := Lib.hid (HC5.out.below HB6.out)
                    have HD6 := Lib.hid (HD5.out.below HB6.out)
                    have c2 := (HD6.out.cell q).trans (mix2_get hlt2)
                    have c3 := HD6.out.frozen q
                    refine wpAny_takes (fuel := 1) (by kernel_rfl) (fun _ _ _ d _ h => by cases d <;> exact h) [6] _ _ _ (by kernel_rfl) ?_
                    iterate 1 (refine YTo.cons (v := ?_) rfl (by rfl) ?_ ?_; rotate_left 1; (focus (intro w; go_simp; try with_reducible rfl)); go_frame)
                    refine YTo.nil ?_
                    refine wpAny_ready (rs := [7]) (by kernel_rfl) (by simp) (AllReady.cons rfl (fun Kc hKc => ?_) AllReady.nil)
                    go_simp
                    refine hKc _ _ ?_
                    clear hKc Kc
                    refine wpAny_done (by kernel_rfl) ?_ _
                    go_wp2
                    go_roundw
                    case rel =>
                      refine ⟨q + 1, by omega, by go_num, ?_, ?_, ?_⟩
                      · exact (heap_setCell_other w6 ⟨w2.heap.size, q, none⟩ w.heap.size _ hne.out).trans HC6.out
                      · rw [← mix2_set hlt2]
                        exact HD6.out.set_ _ _
                      · exact (HB5.out.trans (HB6.out.mono HB5.out.size)).setCell (p := ⟨w2.heap.size, q, none⟩) hgg _
                    case measure => simp [intOf]; omega
                · obtain rfl : q = 32 := by omega
                  have hd7 := HD5.out
                  rw [mix2_full] at hd7
                  have HD7 := Lib.hid hd7
                  clear hd7
                  go_wp2_with (first | (refine wpList_load_row rfl 40 (.tmp 9) rfl w2.heap.size rfl 40 (stepA (2 * K)) (0, 0) _ HD7.out Try.underlying40 rfl (by rw [stepA_size]; exact info_arr) ?_) | (refine wpList_store_row rfl 40 (.tmp 7) (.tmp 43) rfl w.heap.size (stepA (2 * K)) rfl rfl 40 _ HC5.out (by rw [stepA_size]; exact info_arr) (by rw [stepA_size, stepA_size]) (step_all1 (2 * K)) ?_))
                  go_roundw
                  case rel =>
                    refine ⟨j + 1, val_int (by rw [hdiv.out]; omega), rfl, ?_, below_setRow HB5.out (Nat.le_refl _) _⟩
                    rw [K2.out]
                    exact setRow_heap wq _ _ _ _ _ HC5.out
                  case measure => simp [intOf]; omega
          · have e1 := Lib.hid (EndK.out (by omega))
            go_wp2
            go_ret
            exact ⟨ret_int (by rw [← e1.out, ← xor32]), HB1.out⟩
      · have e1 := Lib.hid (show turns (8 * n.toNat) a = a by rw [show n.toNat = 0 by omega]; rfl)
        go_wp2
        go_loopw [0, 2] (fun x m wr => m = .int .i64 n ∧ x = .int .u32 (a.toNat : Int) ∧ Below w.heap.size w wr) (fun _ m _ => 0)
        case atStart => exact ⟨rfl, rfl, HB.out⟩
        case round =>
          obtain ⟨rfl, rfl, hb⟩ := hrel
          have HB1 := Lib.hid hb
          clear hb
          go_wp2
          go_ret
          exact ⟨ret_int (by rw [e1.out, ← xor32]), HB1.out⟩
end Go.Proofs.Ytkhnpmeaklcmaaa
