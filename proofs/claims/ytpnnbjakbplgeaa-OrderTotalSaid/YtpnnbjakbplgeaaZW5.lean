/- Walks: atoms compared. Written out by fill.py. No condition. -/
import Derived.Test.YtpnnbjakbplgeaaZW4
import Derived.Test.YtpnnbjakbplgeaaGStill
namespace Go.Proofs.Ytpnnbjakbplgeaa
open Go.Am
set_option linter.unusedSimpArgs false
set_option linter.unusedVariables false
set_option maxRecDepth 100000
set_option maxHeartbeats 0
/-- An atom's data. -/
structure AtomD where
  s : ByteArray
  p : ByteArray
  n : Int
  v0 : Bool
  n0 : ByteArray
  v1 : Bool
  n1 : ByteArray
  v2 : Bool
  n2 : ByteArray
  v3 : Bool
  n3 : ByteArray
def AtomD.val (a : AtomD) : Value := .agg ⟨atomL a.s a.p a.n a.v0 a.n0 a.v1 a.n1 a.v2 a.n2 a.v3 a.n3⟩
def AtomD.light (a : AtomD) : Prop := a.s.size ≤ 300 ∧ a.p.size ≤ 300 ∧ a.n0.size ≤ 300 ∧ a.n1.size ≤ 300 ∧ a.n2.size ≤ 300 ∧ a.n3.size ≤ 300
def AtomD.valid (a : AtomD) : Prop := validA a.s a.p a.n a.v0 a.n0 a.v1 a.n1 a.v2 a.n2 a.v3 a.n3
def AtomD.text (a : AtomD) : Bs := textB a.s.data.toList a.p.data.toList (namesB a.n a.n0 a.n1 a.n2 a.n3)
theorem ok_compare (a b : AtomD) (h : Heap) (K : Value → Heap → Prop) (ha : a.valid) (hb : b.valid) (la : a.light) (lb : b.light)
    (hk : ∀ h', Ext h h' → K (.int .i64 (Lib.compareBytes a.text b.text)) h') : Ok Try.prog tab ov 11 [a.val, b.val] h K := by
  obtain ⟨s, p, n, v0, n0, v1, n1, v2, n2, v3, n3⟩ := a
  obtain ⟨s', p', n', v0', n0', v1', n1', v2', n2', v3', n3'⟩ := b
  rw [lay_nil h]
  unfold AtomD.val atomL
  refine Ok.into rfl tab_fn11 rfl rfl (m := 8) rfl ?_
  simp -implicitDefEqProofs only [syms, tys0, tys1, tys2, tys3, tys4, tys5, tys6, tys7, tys8, put, Env.get, Env.set, evalOperand, Option.map_some, Option.bind_some, List.length_cons, List.length_nil, List.cons_append, List.nil_append, List.getElem?_cons_zero, List.getElem?_cons_succ, Value.cells, decide_true, decide_false, Nat.reduceAdd, Nat.reduceMul, Int.reduceLT, Int.reduceLE, Int.reduceAdd, Int.reduceSub, Int.reduceToNat, Int.reduceNeg, Int.cast_ofNat_Int, Int.zero_le_ofNat, Int.le_refl, and_self, and_true, true_and, if_true, if_false, reduceIte, Nat.zero_add, Bool.not_true, Bool.not_false, Int.toNat_natCast, fillA_nil, fillA_one, zerosA, List.replicate, List.flatten_cons, List.flatten_nil, splice, List.take_succ_cons, List.take_zero, List.drop_succ_cons, List.drop_zero, List.append_nil, Nat.reduceGT, Nat.reduceLT, Nat.reduceLeDiff, Bool.or_self, Bool.false_eq_true, beq_self_eq_true, List.size_toArray, List.append_assoc, bin_seq, bin_sne, cut]
  have ha' : validA s p n v0 n0 v1 n1 v2 n2 v3 n3 := ha
  have hb' : validA s' p' n' v0' n0' v1' n1' v2' n2' v3' n3' := hb
  refine W_still (by kernel_rfl) ?_
  simp -implicitDefEqProofs only [syms, tys0, tys1, tys2, tys3, tys4, tys5, tys6, tys7, tys8, put, Env.get, Env.set, evalOperand, Option.map_some, Option.bind_some, List.length_cons, List.length_nil, List.cons_append, List.nil_append, List.getElem?_cons_zero, List.getElem?_cons_succ, Value.cells, decide_true, decide_false, Nat.reduceAdd, Nat.reduceMul, Int.reduceLT, Int.reduceLE, Int.reduceAdd, Int.reduceSub, Int.reduceToNat, Int.reduceNeg, Int.cast_ofNat_Int, Int.zero_le_ofNat, Int.le_refl, and_self, and_true, true_and, if_true, if_false, reduceIte, Nat.zero_add, Bool.not_true, Bool.not_false, Int.toNat_natCast, fillA_nil, fillA_one, zerosA, List.replicate, List.flatten_cons, List.flatten_nil, splice, List.take_succ_cons, List.take_zero, List.drop_succ_cons, List.drop_zero, List.append_nil, Nat.reduceGT, Nat.reduceLT, Nat.reduceLeDiff, Bool.or_self, Bool.false_eq_true, beq_self_eq_true, List.size_toArray, List.append_assoc, bin_seq, bin_sne, cut, WOpsN_nil, WOpsN_cons, stepEN_true, stepEN_false, KOpsN_app, lay_lay, opBlind, Nat.le_refl, or_true, true_or, Bool.false_eq_true, false_or]
  refine ok_text _ _ _ _ _ _ _ _ _ _ _ _ _ ha'.2.2.1 ha'.2.2.2.1 la (fun t1 h1 e1 x1 => ?_)
  have lw1 := x1.lowW
  have q1 := Holds.top (i := 1) x1 rfl
  have z1 := (Ext.refl h).overW x1 (by omega)
  simp -implicitDefEqProofs only [syms, tys0, tys1, tys2, tys3, tys4, tys5, tys6, tys7, tys8, put, Env.get, Env.set, evalOperand, Option.map_some, Option.bind_some, List.length_cons, List.length_nil, List.cons_append, List.nil_append, List.getElem?_cons_zero, List.getElem?_cons_succ, Value.cells, decide_true, decide_false, Nat.reduceAdd, Nat.reduceMul, Int.reduceLT, Int.reduceLE, Int.reduceAdd, Int.reduceSub, Int.reduceToNat, Int.reduceNeg, Int.cast_ofNat_Int, Int.zero_le_ofNat, Int.le_refl, and_self, and_true, true_and, if_true, if_false, reduceIte, Nat.zero_add, Bool.not_true, Bool.not_false, Int.toNat_natCast, fillA_nil, fillA_one, zerosA, List.replicate, List.flatten_cons, List.flatten_nil, splice, List.take_succ_cons, List.take_zero, List.drop_succ_cons, List.drop_zero, List.append_nil, Nat.reduceGT, Nat.reduceLT, Nat.reduceLeDiff, Bool.or_self, Bool.false_eq_true, beq_self_eq_true, List.size_toArray, List.append_assoc, bin_seq, bin_sne, cut, WOpsN_nil, WOpsN_cons, stepEN_true, stepEN_false, KOpsN_app, lay_lay, opBlind, Nat.le_refl, or_true, true_or, Bool.false_eq_true, false_or, q1.lay]
  refine ⟨by simp at lw1; omega, ?_⟩
  refine ok_text _ _ _ _ _ _ _ _ _ _ _ _ _ hb'.2.2.1 hb'.2.2.2.1 lb (fun t2 h2 e2 x2 => ?_)
  have lw2 := x2.lowW
  have z2 := z1.overW x2 (by omega)
  simp -implicitDefEqProofs only [syms, tys0, tys1, tys2, tys3, tys4, tys5, tys6, tys7, tys8, put, Env.get, Env.set, evalOperand, Option.map_some, Option.bind_some, List.length_cons, List.length_nil, List.cons_append, List.nil_append, List.getElem?_cons_zero, List.getElem?_cons_succ, Value.cells, decide_true, decide_false, Nat.reduceAdd, Nat.reduceMul, Int.reduceLT, Int.reduceLE, Int.reduceAdd, Int.reduceSub, Int.reduceToNat, Int.reduceNeg, Int.cast_ofNat_Int, Int.zero_le_ofNat, Int.le_refl, and_self, and_true, true_and, if_true, if_false, reduceIte, Nat.zero_add, Bool.not_true, Bool.not_false, Int.toNat_natCast, fillA_nil, fillA_one, zerosA, List.replicate, List.flatten_cons, List.flatten_nil, splice, List.take_succ_cons, List.take_zero, List.drop_succ_cons, List.drop_zero, List.append_nil, Nat.reduceGT, Nat.reduceLT, Nat.reduceLeDiff, Bool.or_self, Bool.false_eq_true, beq_self_eq_true, List.size_toArray, List.append_assoc, bin_seq, bin_sne, cut, WOpsN_nil, WOpsN_cons, stepEN_true, stepEN_false, KOpsN_app, lay_lay, opBlind, Nat.le_refl, or_true, true_or, Bool.false_eq_true, false_or]
  refine ⟨by simp at lw2; omega, ?_⟩
  refine Ok.over (g := compareA) rfl rfl ?_
  rw [e1, e2]
  simp -implicitDefEqProofs only [syms, tys0, tys1, tys2, tys3, tys4, tys5, tys6, tys7, tys8, put, Env.get, Env.set, evalOperand, Option.map_some, Option.bind_some, List.length_cons, List.length_nil, List.cons_append, List.nil_append, List.getElem?_cons_zero, List.getElem?_cons_succ, Value.cells, decide_true, decide_false, Nat.reduceAdd, Nat.reduceMul, Int.reduceLT, Int.reduceLE, Int.reduceAdd, Int.reduceSub, Int.reduceToNat, Int.reduceNeg, Int.cast_ofNat_Int, Int.zero_le_ofNat, Int.le_refl, and_self, and_true, true_and, if_true, if_false, reduceIte, Nat.zero_add, Bool.not_true, Bool.not_false, Int.toNat_natCast, fillA_nil, fillA_one, zerosA, List.replicate, List.flatten_cons, List.flatten_nil, splice, List.take_succ_cons, List.take_zero, List.drop_succ_cons, List.drop_zero, List.append_nil, Nat.reduceGT, Nat.reduceLT, Nat.reduceLeDiff, Bool.or_self, Bool.false_eq_true, beq_self_eq_true, List.size_toArray, List.append_assoc, bin_seq, bin_sne, cut, WOpsN_nil, WOpsN_cons, stepEN_true, stepEN_false, KOpsN_app, lay_lay, opBlind, Nat.le_refl, or_true, true_or, Bool.false_eq_true, false_or]
  refine hk _ (z2.upL _ _ ?_)
  simp only [List.length_cons, List.length_nil] at lw1 lw2
  have := z1.size
  have := z2.size
  omega
end Go.Proofs.Ytpnnbjakbplgeaa
