/- errors.As and errors.Is by their contracts over the program's chains. Go's own text of both is walked, after the kit's worked examples ToyasAs and Nf8Chain. -/
import Derived.Test.YtkcnnamghpdplaaDoorErrs2
set_option linter.unusedVariables false
set_option linter.unusedSimpArgs false
namespace Go.Proofs.YtkcnnamghpdplaaDoor
open Go.RowKit Go.Extern.Stop Go.Stop Go.Extern

theorem size_alloc' (w : World) (o : Obj) : (w.alloc o).heap.size = w.heap.size + 1 := by simp
theorem Chain.form {W : World} {E : Value} {ps : List (Int × Int)} {c : Int} (h : Chain W E ps c) : (E = .nilIface ∧ ps = [] ∧ c = 0) ∨ ∃ u v, E = .iface u v := by
  cases h with
  | none => exact .inl ⟨rfl, rfl, rfl⟩
  | num c h => exact .inr ⟨_, _, rfl⟩
  | wrap b o k a E ps c h1 h2 h3 hc => exact .inr ⟨_, _, rfl⟩

theorem Unwrap_any {W : World} (b o : Nat) (E : Value) (h : W.cell? ⟨b, o + 2, none⟩ = some E) :
    Calls Tryd.prog 104 #[.pointer (some ⟨b, o, none⟩)] W fun e w' => e = .returned E ∧ w' = W := by
  go_enter Tryd.func104, Tryd.ntmps104
  go_wp2
  go_ret
  exact ⟨rfl, rfl⟩


/-! ### errors.Is -/
set_option maxRecDepth 1000000 in
theorem is_chain {W : World} (i : Int) (hi : i ≠ 0) (u : TypeId) (v : Value) (ps : List (Int × Int)) (c : Int) (hch : Chain W (.iface u v) ps c) :
    Calls Tryd.prog 56 #[.iface u v, .iface 56 (.int .i64 i), .bool true] W fun e w' => e = .returned (.bool (decide (c = i))) ∧ w' = W := by
  have nF := noIsF
  have uF := hasUnF
  have nN := noIsN
  have uN := noUnN
  have sN := noUnsN
  have mU := mtUnwrap
  have HI := Lib.hid hi
  clear hi
  go_enter Tryd.func56, Tryd.ntmps56
  go_wp2_with fail
  go_loopw [0] (fun E' wl => wl = W ∧ ∃ u v ps', E' = .iface u v ∧ Chain W (.iface u v) ps' c) (fun E' _ => chainLen W E')
  case atStart => exact ⟨rfl, u, v, ps, rfl, hch⟩
  case round =>
    obtain ⟨rfl, u', v', ps', rfl, hc'⟩ := hrel
    clear hch
    cases hc' with
    | num c h0 =>
      have hq := eqNN c i wr
      by_cases hci : c = i
      · subst hci
        rw [show (c == c) = true from by simp] at hq
        clear h0
        go_wp2_with fail
        go_ret
        exact ⟨by simp, rfl⟩
      · rw [show (c == i) = false from by simp [hci]] at hq
        have HC := Lib.hid hci
        clear h0 hci
        go_wp2_with fail
        go_ret
        exact ⟨by rw [decide_eq_false HC.out]; rfl, rfl⟩
    | wrap b o k a E ps c h1 h2 h3 hc =>
      have hq := eqFN (.pointer (some ⟨b, o, none⟩)) (.int .i64 i) wr
      have hw := Chain.wrap b o k a E ps c h1 h2 h3 hc
      have L0 := Lib.hid (chainLen_eq hw)
      have L1 := Lib.hid (chainLen_eq hc)
      have HC := Lib.hid hc
      have H3 := Lib.hid h3
      clear hc h1 h2 h3 hw
      go_wp2_with fail
      refine (Unwrap_any b o E H3.out).mono ?_
      rintro e w2 ⟨rfl, h⟩
      obtain rfl := h.symm
      clear h
      rcases HC.out.form with ⟨rfl, rfl, rfl⟩ | ⟨u1, v1, rfl⟩
      · have HI2 := Lib.hid (decide_eq_false (fun h => HI.out h.symm) : decide (0 = i) = false)
        go_wp2_with fail
        go_ret
        exact ⟨by rw [HI2.out]; rfl, rfl⟩
      · go_wp2_with fail
        go_roundw
        case rel => exact ⟨trivial, u1, v1, ps, rfl, HC.out⟩
        case measure => rw [L0.out, L1.out]; simp


theorem Is_chain {W : World} (i : Int) (hi : i ≠ 0) (u : TypeId) (v : Value) (ps : List (Int × Int)) (c : Int) (hch : Chain W (.iface u v) ps c) :
    Calls Tryd.prog 34 #[.iface u v, .iface 56 (.int .i64 i)] W fun e w' => e = .returned (.bool (decide (c = i))) ∧ w' = W := by
  have hto := @run_callFunc_extern Tryd.prog 55 _ ReflectliteType.typeOf Tryd.func55 (by kernel_rfl) (by kernel_rfl) (by kernel_rfl) (by kernel_rfl)
  have hco := @run_callFunc_extern Tryd.prog 112 _ compEntry Tryd.func112 (by kernel_rfl) (by kernel_rfl) (by kernel_rfl) (by kernel_rfl)
  have tT := typeOfNc
  have cT := compN
  have mR := mtComp
  have HC := Lib.hid hch
  have HI := Lib.hid hi
  clear hch hi
  go_enter Tryd.func34, Tryd.ntmps34
  go_wp2_with fail
  refine (is_chain i HI.out u v ps c HC.out).mono ?_
  rintro e w2 ⟨rfl, rfl⟩
  go_wp2_with fail
  go_ret
  exact ⟨rfl, rfl⟩


/-! ### errors.As at a 74 -/
theorem As_ofF {W : World} (u : TypeId) (v : Value) (t : Addr) (hg : ErrT W) {Q : Bool → World → Prop}
    (h : Calls Tryd.prog 54 #[.iface u v, .iface 76 (.pointer (some t)), .agg #[.pointer (some ⟨1, 76, none⟩), .pointer (some ⟨W.heap.size, 0, none⟩), .int .u64 150], .iface 151 (.agg #[.pointer (some ⟨1, 74, none⟩)])] ((W.alloc (.cells #[.pointer (some t)] 76)).alloc (.cells #[.pointer (some ⟨1, 76, none⟩), .pointer (some ⟨W.heap.size, 0, none⟩), .int .u64 150] 108)) fun e w' => ∃ r : Bool, e = .returned (.bool r) ∧ Q r w') :
    Calls Tryd.prog 33 #[.iface u v, .iface 76 (.pointer (some t))] W fun e w' => ∃ r : Bool, e = .returned (.bool r) ∧ Q r w' := by
  have hvo := @run_callFunc_extern Tryd.prog 51 _ (fun args => ReflectliteValue.unpack (args.getD 0 (.tuple #[]))) Tryd.func51 (by kernel_rfl) (by kernel_rfl) (by kernel_rfl) (by kernel_rfl)
  have hvt := @run_callFunc_extern Tryd.prog 52 _ (ReflectliteValue.methodAny (ReflectliteValue.valueError "reflectlite.Value.Type" 0) (fun t _ _ _ => ReflectliteType.toType t)) Tryd.func52 (by kernel_rfl) (by kernel_rfl) (by kernel_rfl) (by kernel_rfl)
  have hvn := @run_callFunc_extern Tryd.prog 53 _ (ReflectliteValue.method (ReflectliteValue.valueError "reflectlite.Value.IsNil" 0) ReflectliteValue.isNil) Tryd.func53 (by kernel_rfl) (by kernel_rfl) (by kernel_rfl) (by kernel_rfl)
  have hki := @run_callFunc_extern Tryd.prog 99 _ (ReflectliteType.abiMethod fun t => do pure (.int .u8 (← Rtype.kind t))) Tryd.func99 (by kernel_rfl) (by kernel_rfl) (by kernel_rfl) (by kernel_rfl)
  have hel := @run_callFunc_extern Tryd.prog 113 _ (ReflectliteType.method ReflectliteType.elem) Tryd.func113 (by kernel_rfl) (by kernel_rfl) (by kernel_rfl) (by kernel_rfl)
  have him := @run_callFunc_extern Tryd.prog 114 _ (ReflectliteType.relation "Implements" ReflectliteType.implements_) Tryd.func114 (by kernel_rfl) (by kernel_rfl) (by kernel_rfl) (by kernel_rfl)
  have f1 := valueOfTF
  have f2 := typeTF
  have mK := mtKind
  have mE := mtElem
  have mI := mtImpl
  have k1 := kindTF
  have k2 := kindEF
  have e1 := elemTF
  have i1 := implEF
  have n1 := isNilTF ⟨W.heap.size, 0, none⟩ t ((W.alloc (.cells #[.pointer (some t)] 76)).alloc (.cells #[.pointer (some ⟨1, 76, none⟩), .pointer (some ⟨W.heap.size, 0, none⟩), .int .u64 150] 108)) (by simp)
  have hlt : 0 < W.heap.size := World.block_lt_of_cell? W _ hg
  have hg2 : ((W.alloc (.cells #[.pointer (some t)] 76)).alloc (.cells #[.pointer (some ⟨1, 76, none⟩), .pointer (some ⟨W.heap.size, 0, none⟩), .int .u64 150] 108)).cell? ⟨0, 0, none⟩ = some (.iface 151 (.agg #[.pointer (some ⟨1, 30, none⟩)])) := by
    rw [World.cell?_alloc_lt _ _ ⟨0, 0, none⟩ (by rw [size_alloc']; exact Nat.lt_succ_of_lt hlt), World.cell?_alloc_lt _ _ ⟨0, 0, none⟩ hlt]; exact hg
  have HH := Lib.hid h
  clear h hg
  go_enter Tryd.func33, Tryd.ntmps33
  go_wp2_with fail
  refine HH.out.mono ?_
  rintro e w2 ⟨r, rfl, hq⟩
  have HQ := Lib.hid hq
  clear hq
  go_wp2_with fail
  go_ret
  exact ⟨r, rfl, HQ.out⟩


/-! ### errors.As at a 56 -/
theorem As_ofN {W : World} (u : TypeId) (v : Value) (t : Addr) (hg : ErrT W) {Q : Bool → World → Prop}
    (h : Calls Tryd.prog 54 #[.iface u v, .iface 79 (.pointer (some t)), .agg #[.pointer (some ⟨1, 79, none⟩), .pointer (some ⟨W.heap.size, 0, none⟩), .int .u64 150], .iface 151 (.agg #[.pointer (some ⟨1, 56, none⟩)])] ((W.alloc (.cells #[.pointer (some t)] 79)).alloc (.cells #[.pointer (some ⟨1, 79, none⟩), .pointer (some ⟨W.heap.size, 0, none⟩), .int .u64 150] 108)) fun e w' => ∃ r : Bool, e = .returned (.bool r) ∧ Q r w') :
    Calls Tryd.prog 33 #[.iface u v, .iface 79 (.pointer (some t))] W fun e w' => ∃ r : Bool, e = .returned (.bool r) ∧ Q r w' := by
  have hvo := @run_callFunc_extern Tryd.prog 51 _ (fun args => ReflectliteValue.unpack (args.getD 0 (.tuple #[]))) Tryd.func51 (by kernel_rfl) (by kernel_rfl) (by kernel_rfl) (by kernel_rfl)
  have hvt := @run_callFunc_extern Tryd.prog 52 _ (ReflectliteValue.methodAny (ReflectliteValue.valueError "reflectlite.Value.Type" 0) (fun t _ _ _ => ReflectliteType.toType t)) Tryd.func52 (by kernel_rfl) (by kernel_rfl) (by kernel_rfl) (by kernel_rfl)
  have hvn := @run_callFunc_extern Tryd.prog 53 _ (ReflectliteValue.method (ReflectliteValue.valueError "reflectlite.Value.IsNil" 0) ReflectliteValue.isNil) Tryd.func53 (by kernel_rfl) (by kernel_rfl) (by kernel_rfl) (by kernel_rfl)
  have hki := @run_callFunc_extern Tryd.prog 99 _ (ReflectliteType.abiMethod fun t => do pure (.int .u8 (← Rtype.kind t))) Tryd.func99 (by kernel_rfl) (by kernel_rfl) (by kernel_rfl) (by kernel_rfl)
  have hel := @run_callFunc_extern Tryd.prog 113 _ (ReflectliteType.method ReflectliteType.elem) Tryd.func113 (by kernel_rfl) (by kernel_rfl) (by kernel_rfl) (by kernel_rfl)
  have him := @run_callFunc_extern Tryd.prog 114 _ (ReflectliteType.relation "Implements" ReflectliteType.implements_) Tryd.func114 (by kernel_rfl) (by kernel_rfl) (by kernel_rfl) (by kernel_rfl)
  have f1 := valueOfTN
  have f2 := typeTN
  have mK := mtKind
  have mE := mtElem
  have mI := mtImpl
  have k1 := kindTN
  have k2 := kindEN
  have e1 := elemTN
  have i1 := implEN
  have n1 := isNilTN ⟨W.heap.size, 0, none⟩ t ((W.alloc (.cells #[.pointer (some t)] 79)).alloc (.cells #[.pointer (some ⟨1, 79, none⟩), .pointer (some ⟨W.heap.size, 0, none⟩), .int .u64 150] 108)) (by simp)
  have hlt : 0 < W.heap.size := World.block_lt_of_cell? W _ hg
  have hg2 : ((W.alloc (.cells #[.pointer (some t)] 79)).alloc (.cells #[.pointer (some ⟨1, 79, none⟩), .pointer (some ⟨W.heap.size, 0, none⟩), .int .u64 150] 108)).cell? ⟨0, 0, none⟩ = some (.iface 151 (.agg #[.pointer (some ⟨1, 30, none⟩)])) := by
    rw [World.cell?_alloc_lt _ _ ⟨0, 0, none⟩ (by rw [size_alloc']; exact Nat.lt_succ_of_lt hlt), World.cell?_alloc_lt _ _ ⟨0, 0, none⟩ hlt]; exact hg
  have HH := Lib.hid h
  clear h hg
  go_enter Tryd.func33, Tryd.ntmps33
  go_wp2_with fail
  refine HH.out.mono ?_
  rintro e w2 ⟨r, rfl, hq⟩
  have HQ := Lib.hid hq
  clear hq
  go_wp2_with fail
  go_ret
  exact ⟨r, rfl, HQ.out⟩


/-! ### errors.as -/
def HitF (e t : Addr) (W : World) (r : Bool) (w' : World) : Prop := r = true ∧ ∃ W2, Below W.heap.size W W2 ∧ w' = W2.setCell t (.pointer (some e))
def MissF (W : World) (r : Bool) (w' : World) : Prop := r = false ∧ Below W.heap.size W w'
def GotN (c : Int) (t : Addr) (W : World) (r : Bool) (w' : World) : Prop := r = decide (c ≠ 0) ∧ ∃ W2, Below W.heap.size W W2 ∧ w' = if c = 0 then W2 else W2.setCell t (.int .i64 c)
theorem as_hitF {W : World} (e t : Addr) (vb : Nat) (old : Value) (hv : W.cell? ⟨vb, 0, none⟩ = some (.pointer (some t))) (ht : W.cell? t = some old) (hf : W.frozen? t = false) :
    Calls Tryd.prog 54 #[.iface 74 (.pointer (some e)), .iface 76 (.pointer (some t)), .agg #[.pointer (some ⟨1, 76, none⟩), .pointer (some ⟨vb, 0, none⟩), .int .u64 150], .iface 151 (.agg #[.pointer (some ⟨1, 74, none⟩)])] W fun ev w' => ∃ r : Bool, ev = .returned (.bool r) ∧ HitF e t W r w' := by
  have hto := @run_callFunc_extern Tryd.prog 55 _ ReflectliteType.typeOf Tryd.func55 (by kernel_rfl) (by kernel_rfl) (by kernel_rfl) (by kernel_rfl)
  have hat := @run_callFunc_extern Tryd.prog 111 _ (ReflectliteType.relation "AssignableTo" ReflectliteType.assignableTo) Tryd.func111 (by kernel_rfl) (by kernel_rfl) (by kernel_rfl) (by kernel_rfl)
  have hve := @run_callFunc_extern Tryd.prog 71 _ (ReflectliteValue.method (ReflectliteValue.valueError "reflectlite.Value.Elem" 0) ReflectliteValue.elem) Tryd.func71 (by kernel_rfl) (by kernel_rfl) (by kernel_rfl) (by kernel_rfl)
  have hvo := @run_callFunc_extern Tryd.prog 51 _ (fun args => ReflectliteValue.unpack (args.getD 0 (.tuple #[]))) Tryd.func51 (by kernel_rfl) (by kernel_rfl) (by kernel_rfl) (by kernel_rfl)
  have hvs := @run_callFunc_extern Tryd.prog 72 _ ReflectliteValue.set Tryd.func72 (by kernel_rfl) (by kernel_rfl) (by kernel_rfl) (by kernel_rfl)
  have tO := typeOfEF
  have mA := mtAssign
  have aE := assignEF
  have vE := valueOfEF
  let W1 := W.alloc (.cells #[.pointer (some ⟨1, 76, none⟩), .pointer (some ⟨vb, 0, none⟩), .int .u64 150] 108)
  have bv := World.block_lt_of_cell? W _ hv
  have bt := World.block_lt_of_cell? W _ ht
  have el := elemVTF ⟨vb, 0, none⟩ t (W.alloc (.cells #[.pointer (some ⟨1, 76, none⟩), .pointer (some ⟨vb, 0, none⟩), .int .u64 150] 108)) (by rw [World.cell?_alloc_lt _ _ _ bv]; exact hv)
  have st := setEF e t ⟨W.heap.size + 1, 0, none⟩ old ((W.alloc (.cells #[.pointer (some ⟨1, 76, none⟩), .pointer (some ⟨vb, 0, none⟩), .int .u64 150] 108)).alloc (.cells #[.pointer (some e)] 74))
    (by rw [World.cell?_alloc_at _ _ _ _ (by simp)]; rfl)
    (by rw [World.cell?_alloc_lt _ _ t (by simp; omega), World.cell?_alloc_lt _ _ t bt]; exact ht)
    (by rw [World.frozen?_alloc_old _ _ t (by simp; omega), World.frozen?_alloc_old _ _ t (by omega)]; exact hf)
  have HB := Lib.hid ((Below.refl W.heap.size W).alloc (Nat.le_refl _) (.cells #[.pointer (some ⟨1, 76, none⟩), .pointer (some ⟨vb, 0, none⟩), .int .u64 150] 108))
  clear hv ht hf
  go_enter Tryd.func54, Tryd.ntmps54
  go_wp2_with fail
  refine wp_loop_rounds 1 ?_
  rw [rounds_succ]
  go_wp2_with fail
  go_ret
  exact ⟨true, rfl, rfl, _, HB.out.alloc (by simp) _, rfl⟩
theorem as_missF {W : World} (c : Int) (t : Addr) (vb : Nat) :
    Calls Tryd.prog 54 #[.iface 56 (.int .i64 c), .iface 76 (.pointer (some t)), .agg #[.pointer (some ⟨1, 76, none⟩), .pointer (some ⟨vb, 0, none⟩), .int .u64 150], .iface 151 (.agg #[.pointer (some ⟨1, 74, none⟩)])] W fun ev w' => ∃ r : Bool, ev = .returned (.bool r) ∧ MissF W r w' := by
  have hto := @run_callFunc_extern Tryd.prog 55 _ ReflectliteType.typeOf Tryd.func55 (by kernel_rfl) (by kernel_rfl) (by kernel_rfl) (by kernel_rfl)
  have hat := @run_callFunc_extern Tryd.prog 111 _ (ReflectliteType.relation "AssignableTo" ReflectliteType.assignableTo) Tryd.func111 (by kernel_rfl) (by kernel_rfl) (by kernel_rfl) (by kernel_rfl)
  have hve := @run_callFunc_extern Tryd.prog 71 _ (ReflectliteValue.method (ReflectliteValue.valueError "reflectlite.Value.Elem" 0) ReflectliteValue.elem) Tryd.func71 (by kernel_rfl) (by kernel_rfl) (by kernel_rfl) (by kernel_rfl)
  have hvo := @run_callFunc_extern Tryd.prog 51 _ (fun args => ReflectliteValue.unpack (args.getD 0 (.tuple #[]))) Tryd.func51 (by kernel_rfl) (by kernel_rfl) (by kernel_rfl) (by kernel_rfl)
  have hvs := @run_callFunc_extern Tryd.prog 72 _ ReflectliteValue.set Tryd.func72 (by kernel_rfl) (by kernel_rfl) (by kernel_rfl) (by kernel_rfl)
  have tO := typeOfEN
  have mA := mtAssign
  have aE := assignNF
  have nA := noAsN
  have uN := noUnN
  have sN := noUnsN
  go_enter Tryd.func54, Tryd.ntmps54
  go_wp2_with fail
  refine wp_loop_rounds 1 ?_
  rw [rounds_succ]
  go_wp2_with fail
  go_ret
  exact ⟨false, rfl, rfl, (Below.refl W.heap.size W).alloc (Nat.le_refl _) _⟩


set_option maxRecDepth 1000000 in
theorem as_N {W : World} (u : TypeId) (v : Value) (ps : List (Int × Int)) (c : Int) (hch : Chain W (.iface u v) ps c) (t : Addr) (vb : Nat) (old : Value) (hv : W.cell? ⟨vb, 0, none⟩ = some (.pointer (some t))) (ht : W.cell? t = some old) (hf : W.frozen? t = false) :
    Calls Tryd.prog 54 #[.iface u v, .iface 79 (.pointer (some t)), .agg #[.pointer (some ⟨1, 79, none⟩), .pointer (some ⟨vb, 0, none⟩), .int .u64 150], .iface 151 (.agg #[.pointer (some ⟨1, 56, none⟩)])] W fun ev w' => ∃ r : Bool, ev = .returned (.bool r) ∧ GotN c t W r w' := by
  have hto := @run_callFunc_extern Tryd.prog 55 _ ReflectliteType.typeOf Tryd.func55 (by kernel_rfl) (by kernel_rfl) (by kernel_rfl) (by kernel_rfl)
  have hat := @run_callFunc_extern Tryd.prog 111 _ (ReflectliteType.relation "AssignableTo" ReflectliteType.assignableTo) Tryd.func111 (by kernel_rfl) (by kernel_rfl) (by kernel_rfl) (by kernel_rfl)
  have hve := @run_callFunc_extern Tryd.prog 71 _ (ReflectliteValue.method (ReflectliteValue.valueError "reflectlite.Value.Elem" 0) ReflectliteValue.elem) Tryd.func71 (by kernel_rfl) (by kernel_rfl) (by kernel_rfl) (by kernel_rfl)
  have hvo := @run_callFunc_extern Tryd.prog 51 _ (fun args => ReflectliteValue.unpack (args.getD 0 (.tuple #[]))) Tryd.func51 (by kernel_rfl) (by kernel_rfl) (by kernel_rfl) (by kernel_rfl)
  have hvs := @run_callFunc_extern Tryd.prog 72 _ ReflectliteValue.set Tryd.func72 (by kernel_rfl) (by kernel_rfl) (by kernel_rfl) (by kernel_rfl)
  have tN := typeOfEN
  have tF := typeOfEF
  have mA := mtAssign
  have aN := assignEN
  have aF := assignFN
  have vE := valueOfEN
  have nA := noAsF
  have uF := hasUnF
  have mU := mtUnwrap
  have bv := World.block_lt_of_cell? W _ hv
  have bt := World.block_lt_of_cell? W _ ht
  have el := elemVTN ⟨vb, 0, none⟩ t (W.alloc (.cells #[.pointer (some ⟨1, 79, none⟩), .pointer (some ⟨vb, 0, none⟩), .int .u64 150] 108)) (by rw [World.cell?_alloc_lt _ _ _ bv]; exact hv)
  have st := fun c => setEN c t ⟨W.heap.size + 1, 0, none⟩ old ((W.alloc (.cells #[.pointer (some ⟨1, 79, none⟩), .pointer (some ⟨vb, 0, none⟩), .int .u64 150] 108)).alloc (.cells #[.int .i64 c] 56))
    (by rw [World.cell?_alloc_at _ _ _ _ (by simp)]; rfl)
    (by rw [World.cell?_alloc_lt _ _ t (by simp; omega), World.cell?_alloc_lt _ _ t bt]; exact ht)
    (by rw [World.frozen?_alloc_old _ _ t (by simp; omega), World.frozen?_alloc_old _ _ t (by omega)]; exact hf)
  have HB := Lib.hid ((Below.refl W.heap.size W).alloc (Nat.le_refl _) (.cells #[.pointer (some ⟨1, 79, none⟩), .pointer (some ⟨vb, 0, none⟩), .int .u64 150] 108))
  have HC0 := Lib.hid hch
  clear hch hv ht hf
  go_enter Tryd.func54, Tryd.ntmps54
  go_wp2_with fail
  go_loopw [0] (fun E' wl => wl = W.alloc (.cells #[.pointer (some ⟨1, 79, none⟩), .pointer (some ⟨vb, 0, none⟩), .int .u64 150] 108) ∧ ∃ u v ps', E' = .iface u v ∧ Chain W (.iface u v) ps' c) (fun E' _ => chainLen W E')
  case atStart => exact ⟨rfl, u, v, ps, rfl, HC0.out⟩
  case round =>
    obtain ⟨rfl, u', v', ps', rfl, hc'⟩ := hrel
    cases hc' with
    | num c h0 =>
      have H0 := Lib.hid h0
      clear h0
      go_wp2_with fail
      go_ret
      exact ⟨true, rfl, by simp [H0.out], _, HB.out.alloc (by simp) _, by rw [if_neg H0.out]⟩
    | wrap b o k a E ps c h1 h2 h3 hc =>
      have hw := Chain.wrap b o k a E ps c h1 h2 h3 hc
      have L0 := Lib.hid (chainLen_eq hw)
      have L1 := Lib.hid (chainLen_eq hc)
      have HC := Lib.hid hc
      have H3 := Lib.hid (cell_below HB.out h3)
      clear hc h1 h2 h3 hw
      go_wp2_with fail
      refine (Unwrap_any b o E H3.out).mono ?_
      rintro e w2 ⟨rfl, h⟩
      obtain rfl := h.symm
      clear h
      rcases HC.out.form with ⟨rfl, rfl, rfl⟩ | ⟨u1, v1, rfl⟩
      · go_wp2_with fail
        go_ret
        exact ⟨false, rfl, by simp, _, HB.out, by simp⟩
      · go_wp2_with fail
        go_roundw
        case rel => exact ⟨trivial, u1, v1, ps, rfl, HC.out⟩
        case measure => rw [L0.out, L1.out]; simp

end Go.Proofs.YtkcnnamghpdplaaDoor
