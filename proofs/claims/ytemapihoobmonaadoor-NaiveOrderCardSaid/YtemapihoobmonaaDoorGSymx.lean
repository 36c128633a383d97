/- All small steps in one, for simp. No condition. -/
import Derived.Test.YtemapihoobmonaaDoorG12
namespace Go.Am
theorem guard_undef (b : Bool) : guardE undef b = false := rfl
theorem put_some (e : Env) (d : Nat) (v : Value) : put e (some d) v = Env.set e d v := rfl
theorem put_none (e : Env) (v : Value) : put e none v = e := rfl
theorem get_zero (v : Value) (r : Env) : Env.get (v :: r) 0 = v := rfl
theorem get_succ (v : Value) (r : Env) (n : Nat) : Env.get (v :: r) (n + 1) = Env.get r n := rfl
theorem set_zero (x v : Value) (r : Env) : Env.set (x :: r) 0 v = v :: r := rfl
theorem set_succ (x v : Value) (r : Env) (n : Nat) : Env.set (x :: r) (n + 1) v = x :: Env.set r n v := rfl
theorem ev_tmp (e : Env) (t : Nat) : evalOperand e (.tmp t) = e.get t := rfl
theorem ev_const (e : Env) (v : Value) : evalOperand e (.const v) = v := rfl
theorem ev_global (e : Env) (g : Nat) : evalOperand e (.global g) = .pointer (some ⟨g, 0, none⟩) := rfl
theorem ev_func (e : Env) (f : FuncId) : evalOperand e (.func f) = .func (.func f) #[] #[] := rfl
theorem cells_bool (b : Bool) : (Value.bool b).cells = #[.bool b] := rfl
theorem cells_int (k : IntKind) (i : Int) : (Value.int k i).cells = #[.int k i] := rfl
theorem cells_string (s : ByteArray) : (Value.string s).cells = #[.string s] := rfl
theorem cells_slice (a : Option Addr) (n c : Nat) : (Value.slice a n c).cells = #[.slice a n c] := rfl
theorem cells_pointer (a : Option Addr) : (Value.pointer a).cells = #[.pointer a] := rfl
theorem cells_map (a : Option Nat) : (Value.map a).cells = #[.map a] := rfl
theorem cells_func (f : Fn) (a b : Array Value) : (Value.func f a b).cells = #[.func f a b] := rfl
theorem cells_iface (t : TypeId) (v : Value) : (Value.iface t v).cells = #[.iface t v] := rfl
theorem cells_agg (cs : Array Value) : (Value.agg cs).cells = cs := rfl
theorem zeros_def (z : List Value) (n : Nat) : zerosA z n = (List.replicate n z).flatten := rfl
theorem splice_def (cs : List Value) (o : Nat) (vs : List Value) : splice cs o vs = cs.take o ++ vs ++ cs.drop (o + vs.length) := rfl
theorem cut_def (cs : List Value) (o n : Nat) : cut cs o n = if o + n ≤ cs.length then some ((cs.drop o).take n) else none := rfl
def jr (J : Nat → Value) : Nat → Nat → Env → Env
  | _, 0, r => r
  | a, n + 1, r => J a :: jr J (a + 1) n r
theorem jr_zero (J : Nat → Value) (a : Nat) (r : Env) : jr J a 0 r = r := rfl
theorem jr_succ (J : Nat → Value) (a n : Nat) (r : Env) : jr J a (n + 1) r = J a :: jr J (a + 1) n r := rfl
noncomputable def ysymx := PLift.up (And.intro @jr_zero <| And.intro @jr_succ <| And.intro @guard_undef <| And.intro @put_some <| And.intro @put_none <| And.intro @get_zero <| And.intro @get_succ <| And.intro @set_zero <| And.intro @set_succ <| And.intro @ev_tmp <| And.intro @ev_const <| And.intro @ev_global <| And.intro @ev_func <| And.intro @cells_bool <| And.intro @cells_int <| And.intro @cells_string <| And.intro @cells_slice <| And.intro @cells_pointer <| And.intro @cells_map <| And.intro @cells_func <| And.intro @cells_iface <| And.intro @cells_agg <| And.intro @zeros_def <| And.intro @splice_def <| And.intro @cut_def <| And.intro @Option.map_some.{0,0} <| And.intro @Option.bind_some.{0,0} <| And.intro @List.length_cons.{0} <| And.intro @List.length_nil.{0} <| And.intro @List.cons_append.{0} <| And.intro @List.nil_append.{0} <| And.intro @List.getElem?_cons_zero.{0} <| And.intro @List.getElem?_cons_succ.{0} <| And.intro @decide_true <| And.intro @decide_false <| And.intro @Int.cast_ofNat_Int <| And.intro @Int.zero_le_ofNat <| And.intro @Int.le_refl <| And.intro @and_self <| And.intro @and_true <| And.intro @true_and <| And.intro @if_true.{1} <| And.intro @if_false.{1} <| And.intro @Nat.zero_add <| And.intro @Bool.not_true <| And.intro @Bool.not_false <| And.intro @Int.toNat_natCast <| And.intro @fillA_nil <| And.intro @fillA_one <| And.intro @List.replicate_zero.{0} <| And.intro @List.replicate_succ.{0} <| And.intro @List.flatten_cons.{0} <| And.intro @List.flatten_nil.{0} <| And.intro @List.take_succ_cons.{0} <| And.intro @List.take_zero.{0} <| And.intro @List.drop_succ_cons.{0} <| And.intro @List.drop_zero.{0} <| And.intro @List.append_nil.{0} <| And.intro @Bool.or_self <| And.intro @Bool.false_eq_true <| And.intro @beq_self_eq_true.{0} <| And.intro @List.size_toArray.{0} <| And.intro @List.append_assoc.{0} <| And.intro @bin_seq <| And.intro @bin_sne <| And.intro @loopN_exit <| And.intro @loopN_ret <| And.intro @WOpsX_nil <| And.intro @amStep_true <| And.intro @amStep_false <| And.intro @amStepX_quiet <| And.intro @amStepX_loud <| And.intro @amStepX_skip <| And.intro @stepEX_quiet <| And.intro @stepEX_loud <| And.intro @stepEX_skip <| And.intro @KOpsQ_app <| And.intro @lay_lay <| @lay_size)
theorem symx : type_of% ysymx.down := ysymx.down
end Go.Am
