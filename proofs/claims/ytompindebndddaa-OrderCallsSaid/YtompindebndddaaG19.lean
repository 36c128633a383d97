/- All small steps in one, for simp. No condition. -/
import Derived.Test.YtompindebndddaaG10
namespace Go.Am
theorem guard_undef (b : Bool) : guardE undef b = false := rfl
theorem put_some (e : Env) (d : Nat) (v : Value) : put e (some d) v = Env.set e d v := rfl
theorem put_none (e : Env) (v : Value) : put e none v = e := rfl
theorem get_zero (v : Value) (r : Env) : Env.get (v :: r) 0 = v := rfl
theorem get_succ (v : Value) (r : Env) (n : Nat) : Env.get (v :: r) (n + 1) = Env.get r n := rfl
theorem set_zero (x v : Value) (r : Env) : Env.set (x :: r) 0 v = v :: r := rfl
theorem set_succ (x v : Value) (r : Env) (n : Nat) : Env.set (x :: r) (n + 1) v = x :: Env.set r n v := rfl
theorem ev_tmp (e : Env) (t : Nat) : evalOperand e (.tmp t) = e.get t := rfl
theorem ev_const (e : Env) (v : Value) : evalOperand e (.const v) = v := rfl
theorem ev_global (e : Env) (g : Nat) : evalOperand e (.global g) = .pointer (some ⟨g, 0, none⟩) := rfl
theorem ev_func (e : Env) (f : FuncId) : evalOperand e (.func f) = .func (.func f) #[] #[] := rfl
theorem cells_bool (b : Bool) : (Value.bool b).cells = #[.bool b] := rfl
theorem cells_int (k : IntKind) (i : Int) : (Value.int k i).cells = #[.int k i] := rfl
theorem cells_string (s : ByteArray) : (Value.string s).cells = #[.string s] := rfl
theorem cells_slice (a : Option Addr) (n c : Nat) : (Value.slice a n c).cells = #[.slice a n c] := rfl
theorem cells_pointer (a : Option Addr) : (Value.pointer a).cells = #[.pointer a] := rfl
theorem cells_map (a : Option Nat) : (Value.map a).cells = #[.map a] := rfl
theorem cells_func (f : Fn) (a b : Array Value) : (Value.func f a b).cells = #[.func f a b] := rfl
theorem cells_iface (t : TypeId) (v : Value) : (Value.iface t v).cells = #[.iface t v] := rfl
theorem cells_agg (cs : Array Value) : (Value.agg cs).cells = cs := rfl
theorem zeros_def (z : List Value) (n : Nat) : zerosA z n = (List.replicate n z).flatten := rfl
theorem splice_def (cs : List Value) (o : Nat) (vs : List Value) : splice cs o vs = cs.take o ++ vs ++ cs.drop (o + vs.length) := rfl
theorem cut_def (cs : List Value) (o n : Nat) : cut cs o n = if o + n ≤ cs.length then some ((cs.drop o).take n) else none := rfl
theorem symx : type_of% (And.intro @guard_undef <| And.intro @put_some <| And.intro @put_none <| And.intro @get_zero <| And.intro @get_succ <| And.intro @set_zero <| And.intro @set_succ <| And.intro @ev_tmp <| And.intro @ev_const <| And.intro @ev_global <| And.intro @ev_func <| And.intro @cells_bool <| And.intro @cells_int <| And.intro @cells_string <| And.intro @cells_slice <| And.intro @cells_pointer <| And.intro @cells_map <| And.intro @cells_func <| And.intro @cells_iface <| And.intro @cells_agg <| And.intro @zeros_def <| And.intro @splice_def <| And.intro @cut_def <| And.intro @Option.map_some.{0,0} <| And.intro @Option.bind_some.{0,0} <| And.intro @List.length_cons.{0} <| And.intro @List.length_nil.{0} <| And.intro @List.cons_append.{0} <| And.intro @List.nil_append.{0} <| And.intro @List.getElem?_cons_zero.{0} <| And.intro @List.getElem?_cons_succ.{0} <| And.intro @decide_true <| And.intro @decide_false <| And.intro @Int.cast_ofNat_Int <| And.intro @Int.zero_le_ofNat <| And.intro @Int.le_refl <| And.intro @and_self <| And.intro @and_true <| And.intro @true_and <| And.intro @if_true.{1} <| And.intro @if_false.{1} <| And.intro @Nat.zero_add <| And.intro @Bool.not_true <| And.intro @Bool.not_false <| And.intro @Int.toNat_natCast <| And.intro @fillA_nil <| And.intro @fillA_one <| And.intro @List.replicate_zero.{0} <| And.intro @List.replicate_succ.{0} <| And.intro @List.flatten_cons.{0} <| And.intro @List.flatten_nil.{0} <| And.intro @List.take_succ_cons.{0} <| And.intro @List.take_zero.{0} <| And.intro @List.drop_succ_cons.{0} <| And.intro @List.drop_zero.{0} <| And.intro @List.append_nil.{0} <| And.intro @Bool.or_self <| And.intro @Bool.false_eq_true <| And.intro @beq_self_eq_true.{0} <| And.intro @List.size_toArray.{0} <| And.intro @List.append_assoc.{0} <| And.intro @bin_seq <| And.intro @bin_sne <| And.intro @loopN_exit <| And.intro @loopN_ret <| And.intro @WOpsX_nil <| And.intro @amStep_true <| And.intro @amStep_false <| And.intro @amStepX_quiet <| And.intro @amStepX_loud <| And.intro @amStepX_skip <| And.intro @stepEX_quiet <| And.intro @stepEX_loud <| And.intro @stepEX_skip <| And.intro @KOpsQ_app <| And.intro @lay_lay <| @lay_size) := And.intro @guard_undef <| And.intro @put_some <| And.intro @put_none <| And.intro @get_zero <| And.intro @get_succ <| And.intro @set_zero <| And.intro @set_succ <| And.intro @ev_tmp <| And.intro @ev_const <| And.intro @ev_global <| And.intro @ev_func <| And.intro @cells_bool <| And.intro @cells_int <| And.intro @cells_string <| And.intro @cells_slice <| And.intro @cells_pointer <| And.intro @cells_map <| And.intro @cells_func <| And.intro @cells_iface <| And.intro @cells_agg <| And.intro @zeros_def <| And.intro @splice_def <| And.intro @cut_def <| And.intro @Option.map_some.{0,0} <| And.intro @Option.bind_some.{0,0} <| And.intro @List.length_cons.{0} <| And.intro @List.length_nil.{0} <| And.intro @List.cons_append.{0} <| And.intro @List.nil_append.{0} <| And.intro @List.getElem?_cons_zero.{0} <| And.intro @List.getElem?_cons_succ.{0} <| And.intro @decide_true <| And.intro @decide_false <| And.intro @Int.cast_ofNat_Int <| And.intro @Int.zero_le_ofNat <| And.intro @Int.le_refl <| And.intro @and_self <| And.intro @and_true <| And.intro @true_and <| And.intro @if_true.{1} <| And.intro @if_false.{1} <| And.intro @Nat.zero_add <| And.intro @Bool.not_true <| And.intro @Bool.not_false <| And.intro @Int.toNat_natCast <| And.intro @fillA_nil <| And.intro @fillA_one <| And.intro @List.replicate_zero.{0} <| And.intro @List.replicate_succ.{0} <| And.intro @List.flatten_cons.{0} <| And.intro @List.flatten_nil.{0} <| And.intro @List.take_succ_cons.{0} <| And.intro @List.take_zero.{0} <| And.intro @List.drop_succ_cons.{0} <| And.intro @List.drop_zero.{0} <| And.intro @List.append_nil.{0} <| And.intro @Bool.or_self <| And.intro @Bool.false_eq_true <| And.intro @beq_self_eq_true.{0} <| And.intro @List.size_toArray.{0} <| And.intro @List.append_assoc.{0} <| And.intro @bin_seq <| And.intro @bin_sne <| And.intro @loopN_exit <| And.intro @loopN_ret <| And.intro @WOpsX_nil <| And.intro @amStep_true <| And.intro @amStep_false <| And.intro @amStepX_quiet <| And.intro @amStepX_loud <| And.intro @amStepX_skip <| And.intro @stepEX_quiet <| And.intro @stepEX_loud <| And.intro @stepEX_skip <| And.intro @KOpsQ_app <| And.intro @lay_lay <| @lay_size
end Go.Am
namespace Go.Am
def lft : Code → Code
  | .seq a _ => a
  | .cond _ a _ => a
  | .block _ a => a
  | .loop a => a
  | .scope a => a
  | c => c
def rgt : Code → Code
  | .seq _ b => b
  | .cond _ _ b => b
  | c => c
def rops : Code → Array Oper
  | .region _ a _ => a
  | _ => #[]
def kdrop (A : Array Oper) (n : Nat) : List Oper := A.toList.drop n
def kdst (A : Array Oper) (j : Nat) : Option Tmp := match A.toList.drop j with
  | o :: _ => o.dst
  | [] => none
theorem kdst_eq {A : Array Oper} {j t : Nat} (h : kdst A j = some t) : (A[j]?).bind (·.dst) = some t := by
  unfold kdst at h
  split at h
  · rename_i o l hd
    have h1 : A.toList[j]? = some o := by
      have := List.getElem?_drop (xs := A.toList) (i := j) (j := 0)
      rw [hd] at this
      simpa using this.symm
    have h2 : A[j]? = some o := by simpa using h1
    rw [h2]
    exact h
  · cases h
theorem regK (K : Code) (A : Array Oper) {i : Nat} (hK : K = .region i A false := by rfl) (P : Program) (T : Tab) (ov : Ov) : ∀ (rd : Option Nat) (e : Env) (h : Heap) (Q : Ex → Env → Heap → Prop), W P T ov rd K e h Q = WOps P T ov A (kdrop A 0) e h (normE Q) := by
  subst hK
  intro rd e h Q
  rfl
theorem nilK (A : Array Oper) (n : Nat) (hn : kdrop A n = [] := by rfl) (P : Program) (T : Tab) (ov : Ov) : ∀ (e : Env) (h : Heap) (Q : Env → Heap → Prop), WOps P T ov A (kdrop A n) e h Q = Q e h := by
  intro e h Q
  rw [hn]
  rfl
theorem nilX (A : Array Oper) (n : Nat) (hn : kdrop A n = [] := by rfl) (P : Program) (T : Tab) (ov : Ov) : ∀ (b j : Nat) (e : Env) (h : Heap) (Q : Env → Heap → Prop), WOpsX P T ov b A (kdrop A n) j e h Q = Q e h := by
  intro b j e h Q
  rw [hn]
  rfl
theorem opS (A : Array Oper) (n m : Nat) {o : Oper} {t : Nat} (ho : kdrop A n = o :: kdrop A m := by rfl) (hg : o.guard = none := by rfl) (hd : o.dst = some t := by rfl) (P : Program) (T : Tab) (ov : Ov) : ∀ (e : Env) (h : Heap) (Q : Env → Heap → Prop), WOps P T ov A (kdrop A n) e h Q = amStep P T ov A o (kdrop A m) (some t) e h Q true := by
  intro e h Q
  rw [ho, WOps_consG, hd]
  unfold wantedA
  rw [hg]
theorem opN (A : Array Oper) (n m : Nat) {o : Oper} (ho : kdrop A n = o :: kdrop A m := by rfl) (hg : o.guard = none := by rfl) (hd : o.dst = none := by rfl) (P : Program) (T : Tab) (ov : Ov) : ∀ (e : Env) (h : Heap) (Q : Env → Heap → Prop), WOps P T ov A (kdrop A n) e h Q = amStep P T ov A o (kdrop A m) none e h Q true := by
  intro e h Q
  rw [ho, WOps_consG, hd]
  unfold wantedA
  rw [hg]
theorem wanted_guard {A : Array Oper} {o : Oper} {j t : Nat} {g : Bool} (hg : o.guard = some (j, g)) (hj : kdst A j = some t) (e : Env) : wantedA A o e = guardE (e.get t) g := by
  unfold wantedA
  rw [hg]
  simp only [kdst_eq hj]
  rfl
theorem opSG (A : Array Oper) (n m : Nat) {o : Oper} {t j u : Nat} {g : Bool} (ho : kdrop A n = o :: kdrop A m := by rfl) (hg : o.guard = some (j, g) := by rfl) (hj : kdst A j = some u := by rfl) (hd : o.dst = some t := by rfl) (P : Program) (T : Tab) (ov : Ov) : ∀ (e : Env) (h : Heap) (Q : Env → Heap → Prop), WOps P T ov A (kdrop A n) e h Q = amStep P T ov A o (kdrop A m) (some t) e h Q (guardE (e.get u) g) := by
  intro e h Q
  rw [ho, WOps_consG, hd, wanted_guard hg hj]
theorem opSX (A : Array Oper) (n m : Nat) (q : Bool) {o : Oper} {t : Nat} (ho : kdrop A n = o :: kdrop A m := by rfl) (hq : quietS o = q := by rfl) (hg : o.guard = none := by rfl) (hd : o.dst = some t := by rfl) (P : Program) (T : Tab) (ov : Ov) : ∀ (b : Nat) (e : Env) (h : Heap) (Q : Env → Heap → Prop), WOpsX P T ov b A (kdrop A n) n e h Q = amStepX P T ov b A o (kdrop A m) n (some t) e h Q true q := by
  intro b e h Q
  rw [ho, WOpsX_consG, hd, hq]
  unfold wantedA
  rw [hg]
theorem opNX (A : Array Oper) (n m : Nat) (q : Bool) {o : Oper} (ho : kdrop A n = o :: kdrop A m := by rfl) (hq : quietS o = q := by rfl) (hg : o.guard = none := by rfl) (hd : o.dst = none := by rfl) (P : Program) (T : Tab) (ov : Ov) : ∀ (b : Nat) (e : Env) (h : Heap) (Q : Env → Heap → Prop), WOpsX P T ov b A (kdrop A n) n e h Q = amStepX P T ov b A o (kdrop A m) n none e h Q true q := by
  intro b e h Q
  rw [ho, WOpsX_consG, hd, hq]
  unfold wantedA
  rw [hg]
theorem opSY (A : Array Oper) (n m : Nat) (q : Bool) {o : Oper} {t j u : Nat} {g : Bool} (ho : kdrop A n = o :: kdrop A m := by rfl) (hq : quietS o = q := by rfl) (hg : o.guard = some (j, g) := by rfl) (hj : kdst A j = some u := by rfl) (hd : o.dst = some t := by rfl) (P : Program) (T : Tab) (ov : Ov) : ∀ (b : Nat) (e : Env) (h : Heap) (Q : Env → Heap → Prop), WOpsX P T ov b A (kdrop A n) n e h Q = amStepX P T ov b A o (kdrop A m) n (some t) e h Q (guardE (e.get u) g) q := by
  intro b e h Q
  rw [ho, WOpsX_consG, hd, hq, wanted_guard hg hj]
theorem seqK (K A B : Code) (hK : K = .seq A B := by rfl) (P : Program) (T : Tab) (ov : Ov) : ∀ (rd : Option Nat) (e : Env) (h : Heap) (Q : Ex → Env → Heap → Prop), W P T ov rd K e h Q = W P T ov rd A e h (thenE P T ov rd B Q) := by
  subst hK
  intro rd e h Q
  exact W_seq _ _ _ _ _
theorem condK (K A B : Code) {o : Operand} (hK : K = .cond o A B := by rfl) (P : Program) (T : Tab) (ov : Ov) : ∀ (rd : Option Nat) (e : Env) (h : Heap) (Q : Ex → Env → Heap → Prop), W P T ov rd K e h Q = condE' P T ov rd A B e h Q (evalOperand e o) := by
  subst hK
  intro rd e h Q
  rfl
theorem blkK (K A : Code) {i : Nat} (hK : K = .block i A := by rfl) (P : Program) (T : Tab) (ov : Ov) : ∀ (rd : Option Nat) (e : Env) (h : Heap) (Q : Ex → Env → Heap → Prop), W P T ov rd K e h Q = W P T ov rd A e h (blockE i Q) := by
  subst hK
  intro rd e h Q
  exact W_block _ _ _ _ _
theorem loopK (K A : Code) (hK : K = .loop A := by rfl) (P : Program) (T : Tab) (ov : Ov) : ∀ (rd : Option Nat) (e : Env) (h : Heap) (Q : Ex → Env → Heap → Prop), W P T ov rd K e h Q = W P T ov rd (.loop A) e h Q := by
  subst hK
  intro rd e h Q
  rfl
theorem exitK (K : Code) {i : Nat} (hK : K = .exit i := by rfl) (P : Program) (T : Tab) (ov : Ov) : ∀ (rd : Option Nat) (e : Env) (h : Heap) (Q : Ex → Env → Heap → Prop), W P T ov rd K e h Q = Q (.exit i) e h := by
  subst hK
  intro rd e h Q
  rfl
theorem retK (K : Code) (hK : K = .ret := by rfl) (P : Program) (T : Tab) (ov : Ov) : ∀ (rd : Option Nat) (e : Env) (h : Heap) (Q : Ex → Env → Heap → Prop), W P T ov rd K e h Q = Q .ret e h := by
  subst hK
  intro rd e h Q
  rfl
theorem skipK (K : Code) (hK : K = .skip := by rfl) (P : Program) (T : Tab) (ov : Ov) : ∀ (rd : Option Nat) (e : Env) (h : Heap) (Q : Ex → Env → Heap → Prop), W P T ov rd K e h Q = Q .normal e h := by
  subst hK
  intro rd e h Q
  rfl
abbrev DrawK (K : Code) (A : Array Oper) : Prop := ∀ {P : Program} {T : Tab} {ov : Ov} {rd : Option Nat} {e : Env} {h0 h : Heap} {Q : Ex → Env → Heap → Prop}, Ext h0 h → WOpsX P T ov (min h0.low h0.size) A (kdrop A 0) 0 e h (fun e' h1 => Grw h0 h1 ∧ endZ h0 Q e' h1) → W P T ov rd K e h Q
theorem drawK {K : Code} {A : Array Oper} {i : Nat} (hK : K = .region i A true) (ht : apartAll A (masks A.toList []) = true) : DrawK K A := by
  subst hK
  intro P T ov rd e h0 h Q z hw
  exact W_draw' (ops := A.toList) z ht hw
theorem nd {p q : Prop} (h : p) (g : q) : p ∧ q := ⟨h, g⟩
end Go.Am
