/- slices.Insert over atoms, at this seat's program: what its text does, the builtin operations' runs being given. No condition. -/
import Derived.Test.YtompindebndddaaProg
import Derived.WalkKit
import Derived.Lib.Walk
import Derived.Lib.SliceRun
import Derived.Lib.AppendZeros
import Derived.Laws.Externs
import Derived.Laws.IdiomCopy
import Derived.Deep.RegionLaw
import Derived.OwnWalk
import Derived.KernelRfl
import Derived.Test.YtompindebndddaaG15
import Derived.Test.YtompindebndddaaGEnd
import Derived.Test.YtompindebndddaaG2
import Derived.Test.YtompindebndddaaGIns
import Derived.Test.YtompindebndddaaG12
import Derived.Test.YtompindebndddaaG14
namespace Go.Proofs
open Go.RowKit Go.Lib
namespace Ytompindebndddaa
set_option linter.unusedVariables false
set_option linter.unusedSimpArgs false
theorem wp_copy_runI (w : World) {P : Program} {o : Oper} {a : Act} {K : Act → World → Prop} {Q : Exit → Act → World → Prop} (d s : Operand) (t t' : TypeId)
    (ho : o.op = .call { callee := .builtin .copy, args := #[d, s], argTypes := #[t, t'] }) (v u : Value) (hd : a.eval d = v) (hs : a.eval s = u) {v' : Value} {w' : World}
    (hr : (Builtin.copy_ #[t, t'] o.type #[v, u]).run P w = .ok v' w') (h : K (a.put o.dst v') w') : o.wp P a w K Q := by
  unfold Oper.wp execOp
  simp only [ho, resolve, invoke, builtin, Sem.run_bind, Sem.run_pure, Result.andThen_ok, List.map_toArray, List.map_cons, List.map_nil, hd, hs, hr]
  exact h
theorem wpList_copy_runI (w : World) {P : Program} {ops : Array Oper} {rest : List Oper} {o : Oper} {a : Act} {Q : Exit → Act → World → Prop} (hgd : o.guard = none) (d s : Operand) (t t' : TypeId)
    (ho : o.op = .call { callee := .builtin .copy, args := #[d, s], argTypes := #[t, t'] }) (v u : Value) (hd : a.eval d = v) (hs : a.eval s = u) {v' : Value} {w' : World}
    (hr : (Builtin.copy_ #[t, t'] o.type #[v, u]).run P w = .ok v' w') (h : wpList P ops Q rest (a.put o.dst v') w') : wpList P ops Q (o :: rest) a w :=
  wpList_plain hgd fun _ hK => wp_copy_runI w d s t t' ho v u hd hs hr (hK _ _ h)
theorem step_copy_runI {P : Program} {ops : Array Oper} {o : Oper} {a : Act} {w : World} {K : Act → World → Prop} {Q : Exit → Act → World → Prop} {E : Prop}
    (hg : o.guard = none) (d x : Operand) (dT sT : TypeId) (hop : o.op = Op.call { callee := Callee.builtin Builtin.copy, args := #[d, x], argTypes := #[dT, sT] })
    (v u : Value) (hd : a.eval d = v) (hx : a.eval x = u) {v' : Value} {w' : World} (hr : (Builtin.copy_ #[dT, sT] o.type #[v, u]).run P w = .ok v' w') (hK : K (a.put o.dst v') w') :
    if Region.wanted o (yielded ops a.tmps) = true then Oper.wp P o a w K Q else E := by
  have hw : Region.wanted o (yielded ops a.tmps) = true := by simp [Region.wanted, hg]
  rw [if_pos hw]
  unfold Oper.wp
  simp [execOp, hop, resolve, invoke, builtin, hd, hx, hr, Result.andThen]
  exact hK
set_option maxHeartbeats 4000000 in
set_option maxRecDepth 100000 in
theorem insM_end (a : Option Addr) (n c : Nat) (av : Option Addr) (cv : Nat) (w w' : World) (r : Value) (hnc : n ≤ c)
    (hr : ∀ ty, (Builtin.append_ #[23, 23] ty #[.slice a n c, .slice av 1 cv]).run Try.prog w = .ok r w') :
    Calls Try.prog 113 #[.slice a n c, .int .i64 n, .slice av 1 cv] w fun e W => e = .returned r ∧ W = w' := by
  have h1 : (0 : Int) ≤ (n : Int) ∧ (n : Int) ≤ (n : Int) := by omega
  cases a
  all_goals
    go_enter Try.func113, Try.ntmps113
    go_wp2_with (at_builtin; refine Lib.wpList_append_run _ rfl _ _ _ _ rfl _ _ rfl rfl _ _ (hr _) ?_)
    all_goals
      go_ret
      exact ⟨rfl, rfl⟩
set_option maxHeartbeats 4000000 in
set_option maxRecDepth 100000 in
theorem insM_room (b off n c i : Nat) (av : Option Addr) (cv : Nat) (w w1 w2 : World) (x1 x2 : Value) (hi : i < n) (hroom : n + 1 ≤ c) (hc : c ≤ 9223372036854775807)
    (hov : ∀ lb cb, (callFunc 156 #[.slice av 1 cv, .slice (some ⟨b, off + (i + 1) * 11, none⟩) lb cb]).run Try.prog w = .ok (.value (.bool false)) w)
    (hcp1 : ∀ ty dc sc, (Builtin.copy_ #[23, 23] ty #[.slice (some ⟨b, off + (i + 1) * 11, none⟩) (n - i) dc, .slice (some ⟨b, off + i * 11, none⟩) (n + 1 - i) sc]).run Try.prog w.drew = .ok x1 w1)
    (hcp2 : ∀ ty dc, (Builtin.copy_ #[23, 23] ty #[.slice (some ⟨b, off + i * 11, none⟩) (n + 1 - i) dc, .slice av 1 cv]).run Try.prog w1 = .ok x2 w2) :
    Calls Try.prog 113 #[.slice (some ⟨b, off, none⟩) n c, .int .i64 i, .slice av 1 cv] w fun e W => e = .returned (.slice (some ⟨b, off, none⟩) (n + 1) c) ∧ W = w2 := by
  have hz2 : ¬ ((i : Int) = (n : Int)) := by omega
  have hw1 : IntKind.i64.wrap ((i : Int) + 1) = (i : Int) + 1 := by rw [IntKind.wrap_i64]; omega
  have hw2 : IntKind.i64.wrap ((n : Int) + 1) = (n : Int) + 1 := by rw [IntKind.wrap_i64]; omega
  have hb1 : (0 : Int) ≤ (i : Int) + 1 := by omega
  have hin : i ≤ n := by omega
  have htn : ((i : Int) + 1).toNat = i + 1 := by omega
  have hb2 : ¬ (c = i + 1) := by omega
  have hb3 : (i : Int) ≤ (n : Int) + 1 := by omega
  have hb4 : ¬ (c = i) := by omega
  go_enter Try.func113, Try.ntmps113
  go_wp2_with (simp only [hov])
  go_region_law (refine step_copy_runI rfl _ _ 23 23 rfl _ _ (by simp [Act.eval, Act.put]) (by simp [Act.eval, Act.put]) (hcp1 _ _ _) ?_)
  go_wp2_with (at_builtin; refine wpList_copy_runI _ rfl _ _ 23 23 rfl _ _ rfl rfl (hcp2 _ _) ?_)
  go_ret
  exact ⟨rfl, rfl⟩
set_option maxHeartbeats 4000000 in
set_option maxRecDepth 100000 in
theorem insM_grow (b off n c i nb g : Nat) (av : Option Addr) (cv : Nat) (w w1 w2 w3 : World) (x1 x2 : Value) (hi : i < n) (hnc : n ≤ c) (hroom : c < n + 1) (hg : n + 1 ≤ g) (hg63 : g ≤ 9223372036854775807)
    (hap : ∀ ty, (Builtin.append_ #[23, 3] ty #[.slice (some ⟨b, off, none⟩) i c, .int .i64 ((n : Int) + 1 - (i : Int))]).run Try.prog w = .ok (.slice (some ⟨nb, 0, none⟩) (n + 1) g) w1)
    (hcp1 : ∀ ty dc, (Builtin.copy_ #[23, 23] ty #[.slice (some ⟨nb, i * 11, none⟩) (n + 1 - i) dc, .slice av 1 cv]).run Try.prog w1 = .ok x1 w2)
    (hcp2 : ∀ ty dc sc, (Builtin.copy_ #[23, 23] ty #[.slice (some ⟨nb, (i + 1) * 11, none⟩) (n - i) dc, .slice (some ⟨b, off + i * 11, none⟩) (n - i) sc]).run Try.prog w2.drew = .ok x2 w3) :
    Calls Try.prog 113 #[.slice (some ⟨b, off, none⟩) n c, .int .i64 i, .slice av 1 cv] w fun e W => e = .returned (.slice (some ⟨nb, 0, none⟩) (n + 1) g) ∧ W = w3 := by
  have hz2 : ¬ ((i : Int) = (n : Int)) := by omega
  have hz3 : (c : Int) < (n : Int) + 1 := by omega
  have hw1 : IntKind.i64.wrap ((i : Int) + 1) = (i : Int) + 1 := by rw [IntKind.wrap_i64]; omega
  have hw2 : IntKind.i64.wrap ((n : Int) + 1) = (n : Int) + 1 := by rw [IntKind.wrap_i64]; omega
  have hb1 : (0 : Int) ≤ (i : Int) + 1 := by omega
  have hin : i ≤ n := by omega
  have htn : ((i : Int) + 1).toNat = i + 1 := by omega
  have hGi : ¬ (g = i) := by omega
  have hGim : ¬ (g = i + 1) := by omega
  have hci : ¬ (c = i) := by omega
  have hb3 : (i : Int) ≤ (n : Int) := by omega
  go_enter Try.func113, Try.ntmps113
  go_wp2_with (first | (at_builtin; refine Lib.wpList_append_run _ rfl _ _ _ _ rfl _ _ rfl rfl _ _ (hap _) ?_) | (at_builtin; refine wpList_copy_runI _ rfl _ _ 23 23 rfl _ _ rfl rfl (hcp1 _ _) ?_))
  go_region_law (refine step_copy_runI rfl _ _ 23 23 rfl _ _ (by simp [Act.eval, Act.put]) (by simp [Act.eval, Act.put]) (hcp2 _ _ _) ?_)
  go_wp2
  go_ret
  exact ⟨rfl, rfl⟩
end Ytompindebndddaa
end Go.Proofs
namespace Go.Proofs.Ytompindebndddaa
open Go.RowKit Go.Am
theorem ins_overlaps (x y : Value) (w : World) (h : (Extern.SlicesOverlaps.overlaps #[23, 23] #[4] #[x, y]).run Try.prog w = .ok (.bool false) w) : (callFunc 156 #[x, y]).run Try.prog w = .ok (.value (.bool false)) w := by
  rw [run_callFunc_extern Try.func156 (by kernel_rfl) (by kernel_rfl) (by kernel_rfl) (e := Extern.SlicesOverlaps.overlaps #[23, 23] #[4]) (by kernel_rfl), h]
  rfl
theorem ins_desc : tab.desc 23 = some (.slice 39) := by kernel_rfl
theorem ins_info : tab.info 39 = some (11, 136, noAtomD.cells) := by kernel_rfl
theorem ins_ok : Ov1 Try.prog tab.gs 113 (insertA tab 23) :=
  ov1_insert (k := 11) tab_fits ins_desc ins_info Try.underlying3 (run_enter tab_fits tab_fn113 rfl) ins_overlaps Go.Proofs.Ytompindebndddaa.insM_end Go.Proofs.Ytompindebndddaa.insM_room Go.Proofs.Ytompindebndddaa.insM_grow
noncomputable def ov0 : Ov := fun f => match f with
  | 155 => some joinA
  | 111 => some compareA
  | 113 => some (insertA tab 23)
  | _ => none
theorem ov0_ok : OvS Try.prog tab.gs ov0 := by
  intro f g hg
  unfold ov0 at hg
  split at hg
  · cases hg
    exact ov1_join (run_enter tab_fits tab_fn155 rfl) Try.strings_Join_none Try.strings_Join
  · cases hg
    exact ov1_compare (run_enter tab_fits tab_fn111 rfl) Try.strings_Compare
  · cases hg
    exact ins_ok
  · cases hg
theorem lives13_run : fcall Try.prog tab ov0 100000 200 (.func 13) [] .empty isTrue = true := by kernel_rfl
theorem lives13_any (w : World) : Calls Try.prog 13 #[] w fun e w' => e = .returned (.bool true) ∧ Below w.heap.size w w' := closed_true mixed tab_fits rfl ov0_ok rfl lives13_run w
theorem lives28_run : fcall Try.prog tab ov0 100000 200 (.func 28) [] .empty isTrue = true := by kernel_rfl
theorem lives28_any (w : World) : Calls Try.prog 28 #[] w fun e w' => e = .returned (.bool true) ∧ Below w.heap.size w w' := closed_true mixed tab_fits rfl ov0_ok rfl lives28_run w
theorem lives36_run : fcall Try.prog tab ov0 100000 200 (.func 36) [] .empty isTrue = true := by kernel_rfl
theorem lives36_any (w : World) : Calls Try.prog 36 #[] w fun e w' => e = .returned (.bool true) ∧ Below w.heap.size w w' := closed_true mixed tab_fits rfl ov0_ok rfl lives36_run w
theorem lives55_run : fcall Try.prog tab ov0 100000 200 (.func 55) [] .empty isTrue = true := by kernel_rfl
theorem lives55_any (w : World) : Calls Try.prog 55 #[] w fun e w' => e = .returned (.bool true) ∧ Below w.heap.size w w' := closed_true mixed tab_fits rfl ov0_ok rfl lives55_run w
noncomputable def ov : Ov := fun f => match f with
  | 155 => some joinA
  | 111 => some compareA
  | 113 => some (insertA tab 23)
  | 13 => some trueA
  | 28 => some trueA
  | 36 => some trueA
  | 55 => some trueA
  | _ => none
theorem ov_ok : OvS Try.prog tab.gs ov := by
  intro f g hg
  unfold ov at hg
  split at hg
  · cases hg
    exact ov1_join (run_enter tab_fits tab_fn155 rfl) Try.strings_Join_none Try.strings_Join
  · cases hg
    exact ov1_compare (run_enter tab_fits tab_fn111 rfl) Try.strings_Compare
  · cases hg
    exact ins_ok
  · cases hg
    exact ov1_true (run_enter tab_fits tab_fn13 rfl) lives13_any
  · cases hg
    exact ov1_true (run_enter tab_fits tab_fn28 rfl) lives28_any
  · cases hg
    exact ov1_true (run_enter tab_fits tab_fn36 rfl) lives36_any
  · cases hg
    exact ov1_true (run_enter tab_fits tab_fn55 rfl) lives55_any
  · cases hg
end Go.Proofs.Ytompindebndddaa
namespace Go.Proofs.Ytompindebndddaa
open Go.Am
theorem st4 (h : Heap) (l : List Blk) (w i o : Nat) (v : Value) (hi : i < l.length) : storeA tab 4 (.pointer (some ⟨h.size + i, o, none⟩)) v (h.lay l w) = if v.cells.size = 1 then storeO l[i]? i o v.cells.toList h l w else none := st_lay sz4 h l w i o v hi
theorem st3 (h : Heap) (l : List Blk) (w i o : Nat) (v : Value) (hi : i < l.length) : storeA tab 3 (.pointer (some ⟨h.size + i, o, none⟩)) v (h.lay l w) = if v.cells.size = 1 then storeO l[i]? i o v.cells.toList h l w else none := st_lay sz3 h l w i o v hi
theorem st9 (h : Heap) (l : List Blk) (w i o : Nat) (v : Value) (hi : i < l.length) : storeA tab 9 (.pointer (some ⟨h.size + i, o, none⟩)) v (h.lay l w) = if v.cells.size = 1 then storeO l[i]? i o v.cells.toList h l w else none := st_lay sz9 h l w i o v hi
theorem st36 (h : Heap) (l : List Blk) (w i o : Nat) (v : Value) (hi : i < l.length) : storeA tab 36 (.pointer (some ⟨h.size + i, o, none⟩)) v (h.lay l w) = if v.cells.size = 2 then storeO l[i]? i o v.cells.toList h l w else none := st_lay sz36 h l w i o v hi
theorem st39 (h : Heap) (l : List Blk) (w i o : Nat) (v : Value) (hi : i < l.length) : storeA tab 39 (.pointer (some ⟨h.size + i, o, none⟩)) v (h.lay l w) = if v.cells.size = 11 then storeO l[i]? i o v.cells.toList h l w else none := st_lay sz39 h l w i o v hi
theorem st47 (h : Heap) (l : List Blk) (w i o : Nat) (v : Value) (hi : i < l.length) : storeA tab 47 (.pointer (some ⟨h.size + i, o, none⟩)) v (h.lay l w) = if v.cells.size = 12 then storeO l[i]? i o v.cells.toList h l w else none := st_lay sz47 h l w i o v hi
theorem st41 (h : Heap) (l : List Blk) (w i o : Nat) (v : Value) (hi : i < l.length) : storeA tab 41 (.pointer (some ⟨h.size + i, o, none⟩)) v (h.lay l w) = if v.cells.size = 13 then storeO l[i]? i o v.cells.toList h l w else none := st_lay sz41 h l w i o v hi
theorem st192 (h : Heap) (l : List Blk) (w i o : Nat) (v : Value) (hi : i < l.length) : storeA tab 192 (.pointer (some ⟨h.size + i, o, none⟩)) v (h.lay l w) = if v.cells.size = 3 then storeO l[i]? i o v.cells.toList h l w else none := st_lay sz192 h l w i o v hi
theorem bin_atomE (a b : AtomD) : binA Try.prog tab .eql 39 a.val b.val = some (.bool (decide (a = b))) := by
  have h1 : binA Try.prog tab .eql 39 a.val b.val = (eqA a b).map fun b => .bool b := by kernel_rfl
  rw [h1, eqA_some]; rfl
theorem bin_termE (a b : TermD) : binA Try.prog tab .eql 36 a.val b.val = some (.bool (decide (a = b))) := by
  have h1 : binA Try.prog tab .eql 36 a.val b.val = (eqT a b).map fun b => .bool b := by kernel_rfl
  rw [h1, eqT_some]; rfl
theorem bin_termN (a b : TermD) : binA Try.prog tab .neq 36 a.val b.val = some (.bool (!decide (a = b))) := by
  have h1 : binA Try.prog tab .neq 36 a.val b.val = (eqT a b).map fun b => .bool !b := by kernel_rfl
  rw [h1, eqT_some]; rfl
theorem bool_neq (p q : Bool) : binA Try.prog tab .neq 4 (.bool p) (.bool q) = some (.bool (p != q)) := by cases p <;> cases q <;> kernel_rfl
theorem cat_ruleX {t : TypeId} {a b : ByteArray} {h : Heap} {K : Value → Heap → Prop} (hs : a.size + b.size ≤ 9223372036854775807) (hk : ∀ S : ByteArray, S = a ++ b → S.size = a.size + b.size → K (.string S) h) : valE (binA Try.prog tab .add t (.string a) (.string b)) h K := by
  rw [bin_cat hs]; exact hk _ rfl (ByteArray.size_append)
theorem bin_termN2 (v w : Bool) (s u : ByteArray) : binA Try.prog tab .neq 36 (.agg ⟨[.bool v, .string s]⟩) (.agg ⟨[.bool w, .string u]⟩) = some (.bool (!decide (TermD.mk v s = TermD.mk w u))) := bin_termN ⟨v, s⟩ ⟨w, u⟩
theorem bin_termE2 (v w : Bool) (s u : ByteArray) : binA Try.prog tab .eql 36 (.agg ⟨[.bool v, .string s]⟩) (.agg ⟨[.bool w, .string u]⟩) = some (.bool (decide (TermD.mk v s = TermD.mk w u))) := bin_termE ⟨v, s⟩ ⟨w, u⟩
theorem build_term2 : buildA tab 36 [] = some (.agg ⟨[.bool false, .string ⟨#[]⟩]⟩) := by kernel_rfl
theorem sty23 : srcTyA tab 23 23 = true := by kernel_rfl
end Go.Proofs.Ytompindebndddaa
