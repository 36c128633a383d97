/- An operation of a frame: the plain machine beside the model. No condition. -/
import Derived.Test.YtpnnbjakbplgeaaGIface
import Derived.CallsIn
namespace Go.Am
open Go.RowKit

section
variable {P : Program} {T : Tab} {ρ : Rho} {h h' : Heap} {w : World}

theorem EnvR.put {e : Env} {a : Act} (he : EnvR ρ e a.tmps) {v u : Value} (hv : VR ρ v u) (d : Option Tmp) : EnvR ρ (Am.put e d v) (a.put d u).tmps := by
  cases d with
  | none => exact he
  | some d =>
    refine ⟨by simp [Am.put, Act.put, Env.length_set, he.1], fun i => ?_⟩
    simp only [Am.put, Act.put, Env.get_set]
    by_cases hi : i = d ∧ d < e.length
    · rw [if_pos hi]
      obtain ⟨rfl, hlt⟩ := hi
      have : (a.tmps.setIfInBounds i u).getD i undef = u := by
        have hlt' : i < a.tmps.size := by rw [← he.1]; exact hlt
        simp [hlt']
      rw [this]
      exact hv
    · rw [if_neg hi]
      have : (a.tmps.setIfInBounds d u).getD i undef = a.tmps.getD i undef := by
        by_cases hid : d = i
        · subst hid
          have : ¬ d < a.tmps.size := by rw [← he.1]; exact fun hlt => hi ⟨rfl, hlt⟩
          simp [this]
        · simp [Array.getElem?_setIfInBounds_ne hid]
      rw [this]
      exact he.2 i

theorem EnvR.operand {e : Env} {a : Act} (he : EnvR ρ e a.tmps) {x : Operand} (hx : OkX ρ x) : VR ρ (evalOperand e x) (a.eval x) := by
  cases x with
  | tmp t => exact he.2 t
  | const v => exact .of_plain ρ hx
  | global g =>
    obtain ⟨t, ht⟩ := hx
    exact .ptr (o := 0) ht
  | func f => exact .func _ rfl rfl (by intro i x y hx; simp at hx) (by intro i x y hx; simp at hx)

theorem EnvR.operands {e : Env} {a : Act} (he : EnvR ρ e a.tmps) (xs : List Operand) (hx : ∀ x ∈ xs, OkX ρ x) : VRs ρ (xs.map (evalOperand e)) (xs.map a.eval) := by
  induction xs with
  | nil => exact .nil ρ
  | cons x xs ih =>
    exact .cons (he.operand (hx x (by simp))) (ih fun y hy => hx y (by simp [hy]))

theorem EnvR.opt {e : Env} {a : Act} (he : EnvR ρ e a.tmps) {x : Option Operand} (hx : ∀ y, x = some y → OkX ρ y) : OptR ρ (x.map (evalOperand e)) (x.map a.eval) := by
  cases x with
  | none => trivial
  | some y => exact he.operand (hx y rfl)

/-- What a call of the plain machine stands for. -/
def CallR (P : Program) (ρ : Rho) (h h' : Heap) (w : World) (v : Value) (f : FuncId) (cargs : Array Value) : Prop :=
  (∃ ρ' u w', (callFunc f cargs).run P w = .ok (.value u) w' ∧ Fr ρ ρ' h h' w w' ∧ Sim ρ' h' w' ∧ VR ρ' v u) ∨
  ((callFunc f cargs).run P w = .ok (.enter f cargs) w ∧ Calls P f cargs w fun ed w' => ∃ ρ' u, ed = .returned u ∧ Fr ρ ρ' h h' w w' ∧ Sim ρ' h' w' ∧ VR ρ' v u)

/-- What a round of a range over a function stands for. -/
def RoundR (P : Program) (ρ : Rho) (h h' : Heap) (w : World) (v : Value) (l : Nat) (cargs : Array Value) : Prop :=
  ∃ f tmps assign body, (Instr.yield l cargs).run P w = .ok (.round l f tmps assign body) w ∧ RoundIn Fence.wide 0 P l f tmps assign body w fun ed w' => ∃ ρ' u, ed = .returned u ∧ Fr ρ ρ' h h' w w' ∧ Sim ρ' h' w' ∧ VR ρ' v u

structure CS (P : Program) (gs : List Nat) (C : Fn → List Value → Heap → Option (Value × Heap)) : Prop where
  fn : ∀ f args h v h', C (.func f) args h = some (v, h') → ∀ ρ w (cargs : Array Value), GlobOk gs ρ → Sim ρ h w → Free ρ h h' → VRs ρ args cargs.toList → CallR P ρ h h' w v f cargs
  yield : ∀ A args h v h', C (.yield A) args h = some (v, h') → ∀ ρ w (cargs : Array Value) L, ρ A = some L → GlobOk gs ρ → Sim ρ h w → Free ρ h h' → VRs ρ args cargs.toList → RoundR P ρ h h' w v L.b cargs

/-- What an operation of the plain machine stands for. -/
def OpR (P : Program) (ρ : Rho) (h h' : Heap) (w : World) (v : Value) (r : Result Next) : Prop :=
  (∃ ρ' u w', (r = .ok (.value u) w' ∨ (r = .ok .skip w' ∧ u = undef)) ∧ Fr ρ ρ' h h' w w' ∧ Sim ρ' h' w' ∧ VR ρ' v u) ∨
  (∃ f cargs, r = .ok (.enter f cargs) w ∧ Calls P f cargs w fun ed w' => ∃ ρ' u, ed = .returned u ∧ Fr ρ ρ' h h' w w' ∧ Sim ρ' h' w' ∧ VR ρ' v u) ∨
  (∃ l f tmps assign body, r = .ok (.round l f tmps assign body) w ∧ RoundIn Fence.wide 0 P l f tmps assign body w fun ed w' => ∃ ρ' u, ed = .returned u ∧ Fr ρ ρ' h h' w w' ∧ Sim ρ' h' w' ∧ VR ρ' v u)

theorem World.alloc_heap (w : World) (o : Obj) : (w.alloc o).heap = w.heap.push o := rfl

theorem OpR.still (hs : Sim ρ h w) {v u : Value} {r : Result Next} (hr : r = .ok (.value u) w) (hv : VR ρ v u) : OpR P ρ h h w v r :=
  .inl ⟨ρ, u, w, .inl hr, Fr.refl _ _ _, hs, hv⟩

theorem pureOp_sound {e : Env} {a : Act} {o : Oper} (hs : Sim ρ h w) (he : EnvR ρ e a.tmps) (hok : OpOk ρ o) {v : Value} (hp : pureOp P e o h = some (v, h')) (hcongr : (∀ x ∈ o.op.operands, a.eval x = evalOperand e x) → execOp a.eval o = execOp (evalOperand e) o) :
    OpR P ρ h h' w v ((execOp a.eval o).run P w) := by
  unfold pureOp at hp
  split at hp
  · rename_i hall
    have heq : ∀ x ∈ o.op.operands, a.eval x = evalOperand e x := by
      intro x hx
      have h1 := List.all_eq_true.1 hall x (by simpa using hx)
      exact (he.operand (hok x (by simpa using hx))).eq_plain h1
    rw [hcongr heq]
    split at hp
    · rename_i v' hr
      split at hp
      · rename_i hpl
        cases hp
        exact .still hs (pureRun_sound P _ _ hr w) (.of_plain ρ hpl)
      · cases hp
    · cases hp
  · cases hp

theorem run_newVar {v : Value} (hs : Sim ρ h w) (hnone : ρ h.size = none) {t : TypeId} {cs : List Value} (u : Value) (hv : VRs ρ cs u.cells.toList) :
    ∃ ρ', (newVar t u).run P w = .ok ⟨w.heap.size, 0, none⟩ (w.alloc (.cells u.cells t)) ∧ Fr ρ ρ' h (newRow t cs h).2 w (w.alloc (.cells u.cells t)) ∧ Sim ρ' (newRow t cs h).2 (w.alloc (.cells u.cells t)) ∧
      VR ρ' (newRow t cs h).1 (.pointer (some ⟨w.heap.size, 0, none⟩)) := by
  have _ := v
  obtain ⟨ρ', hρ, hfr, hsim⟩ := push_sound (W := w.alloc (.cells u.cells t)) (cs := cs) (m := u.cells.toList) hs hnone rfl rfl rfl rfl (by rw [hv.1]; exact cut_mk (by omega) rfl (fun j _ => by rw [Nat.zero_add])) hv
  refine ⟨ρ', by simp [newVar, Go.newRow], hfr, hsim, ?_⟩
  have := VR.ptr (ρ := ρ') (o := 0) hρ
  simpa [newRow] using this

theorem toArray_map_list (ps : Array (Nat × Operand)) (f : Operand → Value) : (ps.map fun (i, x) => (i, f x)) = (ps.toList.map fun (i, x) => (i, f x)).toArray := by
  apply Array.ext'
  simp

theorem parts_rel {e : Env} {a : Act} (he : EnvR ρ e a.tmps) (ps : List (Nat × Operand)) (hok : ∀ x ∈ ps.map (·.2), OkX ρ x) :
    (ps.map fun (i, x) => (i, evalOperand e x)).length = (ps.map fun (i, x) => (i, a.eval x)).length ∧
    ∀ (i : Nat) (x y : Nat × Value), (ps.map fun (i, x) => (i, evalOperand e x))[i]? = some x → (ps.map fun (i, x) => (i, a.eval x))[i]? = some y → x.1 = y.1 ∧ VR ρ x.2 y.2 := by
  refine ⟨by simp, fun i x y hx hy => ?_⟩
  rw [List.getElem?_map, Option.map_eq_some_iff] at hx hy
  obtain ⟨⟨j, o⟩, h1, rfl⟩ := hx
  obtain ⟨⟨j', o'⟩, h2, rfl⟩ := hy
  rw [h1] at h2
  cases h2
  exact ⟨rfl, he.operand (hok o (List.mem_map.2 ⟨(j, o), List.mem_of_getElem? h1, rfl⟩))⟩

theorem evalOp_sound (hT : T.Fits P) {C : Fn → List Value → Heap → Option (Value × Heap)} {gs : List Nat} (hC : CS P gs C) (hG : GlobOk gs ρ) {e : Env} {a : Act} {o : Oper} (hs : Sim ρ h w) (he : EnvR ρ e a.tmps) (hok : OpOk ρ o) (hfree : Free ρ h h') {v : Value}
    (hev : evalOp P T C e o h = some (v, h')) : OpR P ρ h h' w v ((execOp a.eval o).run P w) := by
  have hall : ∀ x ∈ o.op.operands.toList, OkX ρ x := hok
  unfold evalOp at hev
  dsimp only at hev
  split at hev
  · rename_i x hop
    cases hev
    refine .still (u := a.eval x) hs (by simp [execOp, hop]) (he.operand (hall _ (by simp [hop, Op.operands])))
  · rename_i x hop
    cases hev
    refine .still (u := a.eval x) hs (by simp [execOp, hop]) (he.operand (hall _ (by simp [hop, Op.operands])))
  · rename_i c x y hop
    have hc := he.operand (hall c (by simp [hop, Op.operands]))
    have hx := he.operand (hall x (by simp [hop, Op.operands]))
    have hy := he.operand (hall y (by simp [hop, Op.operands]))
    split at hev
    · rename_i t ht
      cases hev
      rw [ht] at hc
      have hc' : a.eval c = .bool t := hc.eq_plain rfl
      refine .still (u := if t then a.eval x else a.eval y) hs (by simp [execOp, hop, hc', asBool]) ?_
      cases t
      · exact hy
      · exact hx
    · cases hev
  · rename_i t hop
    simp only [Option.map_eq_some_iff, Prod.exists] at hev
    obtain ⟨k, by', z, hinf, hev⟩ := hev
    obtain ⟨i, zv, hi, rfl, rfl, hz, rfl, hzl, hzp⟩ := hT.info t k by' z hinf
    have e1 : v = (newRow t zv.cells.toList h).1 := (congrArg Prod.fst hev).symm
    have e2 : h' = (newRow t zv.cells.toList h).2 := (congrArg Prod.snd hev).symm
    subst e1 e2
    obtain ⟨ρ', h1, h2, h3, h4⟩ := run_newVar (P := P) (v := undef) hs (hfree _ (Nat.le_refl _) (Nat.lt_succ_self _)) (t := t) zv (VRs.plain ρ hzp)
    refine .inl ⟨ρ', _, _, .inl ?_, h2, h3, h4⟩
    simp [execOp, hop, Instr.alloc, zeroValue, typeInfo, hi, hz, h1]
  · rename_i t x hop
    have hx := he.operand (hall x (by simp [hop, Op.operands]))
    simp only [Option.some.injEq] at hev
    have e1 : v = (newRow t (evalOperand e x).cells.toList h).1 := (congrArg Prod.fst hev).symm
    have e2 : h' = (newRow t (evalOperand e x).cells.toList h).2 := (congrArg Prod.snd hev).symm
    subst e1 e2
    obtain ⟨ρ', h1, h2, h3, h4⟩ := run_newVar (P := P) (v := undef) hs (hfree _ (Nat.le_refl _) (Nat.lt_succ_self _)) (t := t) (a.eval x) hx.cells
    refine .inl ⟨ρ', _, _, .inl ?_, h2, h3, h4⟩
    simp [execOp, hop, Instr.box, h1]
  · rename_i t ps hop
    simp only [Option.map_eq_some_iff, Prod.mk.injEq] at hev
    obtain ⟨r, hr, rfl, rfl⟩ := hev
    obtain ⟨p1, p2⟩ := parts_rel he ps.toList (fun x hx => hall x (by simpa [hop, Op.operands] using hx))
    obtain ⟨vc, h1, h2⟩ := buildA_sound (ρ := ρ) hT p1 p2 hr w
    refine .still hs ?_ h2
    simp only [execOp, hop, toArray_map_list, Sem.run_bind, h1, Result.andThen_ok, Sem.run_pure]
  · rename_i t n ps hop
    obtain ⟨p1, p2⟩ := parts_rel he ps.toList (fun x hx => hall x (by simpa [hop, Op.operands] using hx))
    obtain ⟨ρ', vc, w', h1, h2, h3, h4⟩ := buildSliceA_sound (ρ := ρ) hT hs hfree p1 p2 hev
    refine .inl ⟨ρ', vc, w', .inl ?_, h2, h3, h4⟩
    simp only [execOp, hop, toArray_map_list, Sem.run_bind, h1, Result.andThen_ok, Sem.run_pure]
  · rename_i t x hop
    have hx := he.operand (hall x (by simp [hop, Op.operands]))
    simp only [Option.map_eq_some_iff, Prod.mk.injEq] at hev
    obtain ⟨r, hr, rfl, rfl⟩ := hev
    obtain ⟨u, h1, h2⟩ := loadA_sound hT hs hx hr
    exact .still hs (by simp [execOp, hop, h1]) h2
  · rename_i t x y hop
    have hx := he.operand (hall x (by simp [hop, Op.operands]))
    have hy := he.operand (hall y (by simp [hop, Op.operands]))
    simp only [Option.map_eq_some_iff, Prod.mk.injEq] at hev
    obtain ⟨h1, hr, rfl, rfl⟩ := hev
    unfold storeA at hr
    split at hr
    · rename_i A off hxe
      rw [hxe] at hx
      simp only [Option.bind_eq_some_iff] at hr
      obtain ⟨n, hn, hr⟩ := hr
      split at hr
      · rename_i hsz
        generalize hax : a.eval x = ax at hx
        cases hx with
        | ptr hA =>
          rename_i L
          obtain ⟨w', hst, hfr, hsim⟩ := writeA_sound (P := P) hs hA hy.cells hr
          have hcs : (a.eval y).cells.size = n := by have := hy.cells.1; simp at this; omega
          refine .inl ⟨ρ, undef, w', .inr ⟨?_, rfl⟩, hfr, hsim, .undef ρ⟩
          simp [execOp, hop, hax, Instr.storeAt, Instr.sureAddr, storeVar, run_sizeOf hT hn, hcs, hst]
      · cases hr
    · cases hr
  · rename_i x hop
    have hx := he.operand (hall x (by simp [hop, Op.operands]))
    split at hev
    · rename_i ad hxe
      cases hev
      rw [hxe] at hx
      generalize hax : a.eval x = ax at hx
      cases hx with
      | ptr hA => exact .still hs (by simp [execOp, hop, hax]) (.ptr hA)
    · rename_i f fi ca hxe
      cases hev
      rw [hxe] at hx
      generalize hax : a.eval x = ax at hx
      cases hx with
      | func _ hf hc h1 h2 => exact .still hs (by simp [execOp, hop, hax]) (.func _ hf hc h1 h2)
    · rename_i t z hxe
      cases hev
      rw [hxe] at hx
      generalize hax : a.eval x = ax at hx
      cases hx with
      | iface _ h1 => exact .still hs (by simp [execOp, hop, hax]) (.iface t h1)
    · cases hev
  · rename_i op t x y yt hop
    have hx := he.operand (hall x (by simp [hop, Op.operands]))
    have hy := he.operand (hall y (by simp [hop, Op.operands]))
    simp only [Option.map_eq_some_iff, Prod.mk.injEq] at hev
    obtain ⟨r, hr, rfl, rfl⟩ := hev
    obtain ⟨vc, h1, h2⟩ := binA_sound hT hx hy hr x y w
    refine .still hs ?_ h2
    simp only [execOp, hop]
    rw [Sem.run_bind, h1]
    rfl
  · rename_i fn first captured hop
    split at hev
    · rename_i f
      cases hev
      have h1 := he.operands first.toList (fun x hx => hall x (by simp [hop, Op.operands]; left; simpa using hx))
      have h2 := he.operands captured.toList (fun x hx => hall x (by simp [hop, Op.operands]; right; simpa using hx))
      refine .still (u := .func (.func f) (first.map a.eval) (captured.map a.eval)) hs ?_ ?_
      · simp [execOp, hop, Instr.makeFunc]
      · refine .func _ (by simp) (by simp) (fun i x y hx hy => h1.2 i x y ?_ ?_) (fun i x y hx hy => h2.2 i x y ?_ ?_)
        all_goals simp at hx hy ⊢; assumption
    · cases hev
  · rename_i t l c hop
    have hl := he.operand (hall l (by simp [hop, Op.operands]))
    have hc := he.operand (hall c (by simp [hop, Op.operands]))
    obtain ⟨ρ', vc, w', h1, h2, h3, h4⟩ := makeSliceA_sound hT hs hfree hl hc hev
    refine .inl ⟨ρ', vc, w', .inl ?_, h2, h3, h4⟩
    simp [execOp, hop, h1]
  · rename_i t x l hi m hop
    have hx := he.operand (hall x (by simp [hop, Op.operands]))
    have hl := he.opt (x := l) (fun y hy => hall y (by subst hy; simp [hop, Op.operands]))
    have hhi := he.opt (x := hi) (fun y hy => hall y (by subst hy; simp [hop, Op.operands]))
    have hm := he.opt (x := m) (fun y hy => hall y (by subst hy; simp [hop, Op.operands]))
    simp only [Option.map_eq_some_iff, Prod.mk.injEq] at hev
    obtain ⟨r, hr, rfl, rfl⟩ := hev
    obtain ⟨vc, h1, h2⟩ := sliceA_sound hT hx hl hhi hm hr w
    exact .still hs (by simp [execOp, hop, h1]) h2
  · rename_i s x f hop
    have hx := he.operand (hall x (by simp [hop, Op.operands]))
    simp only [Option.map_eq_some_iff, Prod.mk.injEq] at hev
    obtain ⟨r, hr, rfl, rfl⟩ := hev
    obtain ⟨vc, h1, h2⟩ := fieldAddrA_sound hT hx hr w
    exact .still hs (by simp [execOp, hop, h1]) h2
  · rename_i t x f hop
    have hx := he.operand (hall x (by simp [hop, Op.operands]))
    simp only [Option.map_eq_some_iff, Prod.mk.injEq] at hev
    obtain ⟨r, hr, rfl, rfl⟩ := hev
    obtain ⟨vc, h1, h2⟩ := fieldA_sound hT hx hr w
    exact .still hs (by simp [execOp, hop, h1]) h2
  · rename_i t x i hop
    have hx := he.operand (hall x (by simp [hop, Op.operands]))
    have hi := he.operand (hall i (by simp [hop, Op.operands]))
    simp only [Option.map_eq_some_iff, Prod.mk.injEq] at hev
    obtain ⟨r, hr, rfl, rfl⟩ := hev
    obtain ⟨vc, h1, h2⟩ := indexAddrA_sound hT hx hi hr w
    exact .still hs (by simp [execOp, hop, h1]) h2
  · rename_i t i hop
    have ht := he.operand (hall t (by simp [hop, Op.operands]))
    split at hev
    · rename_i vs hte
      rw [hte] at ht
      simp only [Option.map_eq_some_iff, Prod.mk.injEq] at hev
      obtain ⟨r, hr, rfl, rfl⟩ := hev
      generalize hat : a.eval t = at_ at ht
      cases ht with
      | tuple hc hh =>
        rename_i ds
        have hlt : i < vs.size := (Array.getElem?_eq_some_iff.1 hr).1
        have hd : ds[i]? = some (ds[i]'(by omega)) := Array.getElem?_eq_getElem _
        exact .still hs (by simp [execOp, hop, hat, Instr.extract, hd]) (hh i _ _ hr hd)
    · cases hev
  · rename_i op t x hop
    refine pureOp_sound hs he hok hev (fun heq => ?_)
    have := heq x (by simp [hop, Op.operands])
    simp [execOp, hop, this]
  · rename_i s t x hop
    split at hev
    · have hx := he.operand (hall x (by simp [hop, Op.operands]))
      simp only [Option.map_eq_some_iff, Prod.mk.injEq] at hev
      obtain ⟨r, hr, rfl, rfl⟩ := hev
      obtain ⟨u, h1, h2⟩ := bytesToA_sound hT hs hx hr
      exact .still hs (by simp [execOp, hop, h1]) h2
    · split at hev
      · split at hev
        · rename_i hstr
          have hx := he.operand (hall x (by simp [hop, Op.operands]))
          obtain ⟨ρ', u, w', r1, r2, r3, r4⟩ := toBytesA_sound hT hs hfree hstr hx hev
          exact .inl ⟨ρ', u, w', .inl (by simp [execOp, hop, r1]), r2, r3, r4⟩
        · cases hev
      · refine pureOp_sound hs he hok hev (fun heq => ?_)
        have := heq x (by simp [hop, Op.operands])
        simp [execOp, hop, this]
  · rename_i t x i hop
    refine pureOp_sound hs he hok hev (fun heq => ?_)
    have h1 := heq x (by simp [hop, Op.operands])
    have h2 := heq i (by simp [hop, Op.operands])
    simp [execOp, hop, h1, h2]
  · rename_i c hop
    obtain ⟨callee, args, argTypes⟩ := c
    have hargs : ∀ x ∈ args.toList, OkX ρ x := fun x hx => hall x (by simp [hop, Op.operands, Call.operands]; right; simpa using hx)
    dsimp only at hev
    split at hev
    · split at hev
      · rename_i t u s x hts hxs
        have e1 : argTypes = #[t, u] := by apply Array.ext'; simpa using hts
        have e2 : args = #[s, x] := by apply Array.ext'; simpa using hxs
        subst e1 e2
        have h1 := he.operand (hargs s (by simp))
        have h2 := he.operand (hargs x (by simp))
        split at hev
        · rename_i hu
          have hsrc' : SrcTy P u := by
            unfold srcTyA at hu
            simp only [Bool.or_eq_true, beq_iff_eq] at hu
            rcases hu with rfl | hu
            · have h4 := hev
              unfold appendA at h4
              split at h4
              · rename_i e' hd; exact .inl ⟨_, hT.desc _ _ hd⟩
              · cases h4
            · split at hu
              · rename_i hd; exact .inr (hT.desc _ _ hd)
              · rename_i e' hd; exact .inl ⟨_, hT.desc _ _ hd⟩
              · cases hu
          obtain ⟨ρ', vc, w', r1, r2, r3, r4⟩ := appendA_sound (ty := o.type) hT hs hfree hsrc' h1 h2 hev
          refine .inl ⟨ρ', vc, w', .inl ?_, r2, r3, r4⟩
          simp [execOp, hop, resolve, invoke, builtin, r1]
        · cases hev
      · cases hev
    · split at hev
      · rename_i t u d s hts hxs
        have e1 : argTypes = #[t, u] := by apply Array.ext'; simpa using hts
        have e2 : args = #[d, s] := by apply Array.ext'; simpa using hxs
        subst e1 e2
        have h1 := he.operand (hargs d (by simp))
        have h2 := he.operand (hargs s (by simp))
        obtain ⟨vc, w', r1, r2, r3, r4⟩ := copyA_sound (u := u) (ty := o.type) hT hs h1 h2 hev
        refine .inl ⟨ρ, vc, w', .inl ?_, r2, r3, r4⟩
        simp [execOp, hop, resolve, invoke, builtin, r1]
      · cases hev
    · split at hev
      · rename_i t x hts hxs
        have e1 : argTypes = #[t] := by apply Array.ext'; simpa using hts
        have e2 : args = #[x] := by apply Array.ext'; simpa using hxs
        subst e1 e2
        have h1 := he.operand (hargs x (by simp))
        simp only [Option.map_eq_some_iff, Prod.mk.injEq] at hev
        obtain ⟨h2, hr, rfl, rfl⟩ := hev
        obtain ⟨w', r1, r2, r3⟩ := clearA_sound (ty := o.type) hT hs h1 hr
        refine .inl ⟨ρ, undef, w', .inl ?_, r2, r3, .undef ρ⟩
        simp [execOp, hop, resolve, invoke, builtin, r1]
      · cases hev
    · split at hev
      · rename_i t ts x hts hxs
        have e2 : args = #[x] := by apply Array.ext'; simpa using hxs
        have e1 : argTypes = (t :: ts).toArray := by apply Array.ext'; simpa using hts
        subst e1 e2
        have h1 := he.operand (hargs x (by simp))
        simp only [Option.map_eq_some_iff, Prod.mk.injEq] at hev
        obtain ⟨r, hr, rfl, rfl⟩ := hev
        obtain ⟨vc, r1, r2⟩ := lenA_sound (ty := o.type) hT hs h1 hr ts
        refine .still hs ?_ r2
        simp [execOp, hop, resolve, invoke, builtin, r1]
      · cases hev
    · refine pureOp_sound hs he hok hev (fun heq => ?_)
      have hm : args.map a.eval = args.map (evalOperand e) := by
        apply Array.map_congr_left
        intro x hx
        exact heq x (by simp [hop, Op.operands, Call.operands]; exact hx)
      simp [execOp, hop, resolve, hm]
    · refine pureOp_sound hs he hok hev (fun heq => ?_)
      have hm : args.map a.eval = args.map (evalOperand e) := by
        apply Array.map_congr_left
        intro x hx
        exact heq x (by simp [hop, Op.operands, Call.operands]; exact hx)
      simp [execOp, hop, resolve, hm]
    · split at hev
      · rename_i t ts m k hts hxs
        have e2 : args = #[m, k] := by apply Array.ext'; simpa using hxs
        have e1 : argTypes = (t :: ts).toArray := by apply Array.ext'; simpa using hts
        subst e1 e2
        have h1 := he.operand (hargs m (by simp))
        have h2 := he.operand (hargs k (by simp))
        simp only [Option.map_eq_some_iff, Prod.mk.injEq] at hev
        obtain ⟨h3, hr, rfl, rfl⟩ := hev
        obtain ⟨w', r1, r2, r3⟩ := deleteA_sound (ty := o.type) (ts := ts) hT hs h1 h2 hr
        refine .inl ⟨ρ, undef, w', .inl ?_, r2, r3, .undef ρ⟩
        simp [execOp, hop, resolve, invoke, builtin, r1, undef]
      · cases hev
    · split at hev
      · rename_i t ts x hts hxs
        have e2 : args = #[x] := by apply Array.ext'; simpa using hxs
        have e1 : argTypes = (t :: ts).toArray := by apply Array.ext'; simpa using hts
        subst e1 e2
        have h1 := he.operand (hargs x (by simp))
        simp only [Option.map_eq_some_iff, Prod.mk.injEq] at hev
        obtain ⟨r, hr, rfl, rfl⟩ := hev
        obtain ⟨vc, r1, r2⟩ := capA_sound (ty := o.type) hT h1 hr ts w
        refine .still hs ?_ r2
        simp [execOp, hop, resolve, invoke, builtin, r1]
      · cases hev
    · rename_i rv name
      have hrv := he.operand (hall rv (by simp [hop, Op.operands, Call.operands]))
      split at hev
      · rename_i t x hre
        rw [hre] at hrv
        generalize har : a.eval rv = ar at hrv
        simp only [Option.bind_eq_some_iff, Prod.exists] at hev
        obtain ⟨f, y, hm, hev⟩ := hev
        cases hrv with
        | iface _ hx =>
          rename_i x'
          obtain ⟨y', r1, r2⟩ := methodA_sound hT hs hx hm (P.types.size + Made.depth - 1)
          have hd : P.types.size + Made.depth - 1 + 1 = P.types.size + Made.depth := by simp [Made.depth]
          rw [hd] at r1
          have hva := he.operands args.toList hargs
          have hexec : (execOp a.eval o).run P w = (callFunc f (#[y'] ++ args.map a.eval)).run P w := by
            have h0 : (#[Value.iface t x'] ++ Array.map a.eval args)[0]? = some (.iface t x') := by rw [Array.getElem?_append_left (by simp)]; rfl
            have hprog : (program : Sem Program).run P w = .ok P w := rfl
            have hex : (#[Value.iface t x'] ++ Array.map a.eval args).extract 1 (#[Value.iface t x'] ++ Array.map a.eval args).size = Array.map a.eval args := by
              rw [Array.extract_append]
              simp
            simp only [execOp, hop, resolve, Sem.run_bind, Sem.run_pure, Result.andThen_ok, invoke, har, h0, callMethod, hprog, r1, hex]
          have hcall := hC.fn f _ h v h' hev ρ w (#[y'] ++ args.map a.eval) hG hs hfree (by
            have := VRs.cons r2 hva
            simpa using this)
          rw [hexec]
          rcases hcall with ⟨ρ', u, w', q1, q2, q3, q4⟩ | ⟨q1, q2⟩
          · exact .inl ⟨ρ', u, w', .inl q1, q2, q3, q4⟩
          · exact .inr (.inl ⟨f, _, q1, q2⟩)
      · cases hev
    · rename_i f
      have hf := he.operand (hall f (by simp [hop, Op.operands, Call.operands]))
      split at hev
      · rename_i g first captured hfe
        rw [hfe] at hf
        generalize haf : a.eval f = af at hf
        cases hf with
        | func _ h1 h2 h3 h4 =>
          rename_i first' captured'
          have hv1 : VRs ρ first.toList first'.toList := ⟨by simpa using h1, fun i x y hx hy => h3 i x y (by simpa using hx) (by simpa using hy)⟩
          have hv2 : VRs ρ captured.toList captured'.toList := ⟨by simpa using h2, fun i x y hx hy => h4 i x y (by simpa using hx) (by simpa using hy)⟩
          have hva := he.operands args.toList hargs
          have hcall := hC.fn g _ h v h' hev ρ w ((first' ++ args.map a.eval) ++ captured') hG hs hfree (by
            have := (hv1.append hva).append hv2
            simpa using this)
          have hexec : (execOp a.eval o).run P w = (callFunc g ((first' ++ args.map a.eval) ++ captured')).run P w := by
            simp [execOp, hop, resolve, haf, Deferred.ofValue, invoke]
          rw [hexec]
          rcases hcall with ⟨ρ', u, w', r1, r2, r3, r4⟩ | ⟨r1, r2⟩
          · exact .inl ⟨ρ', u, w', .inl r1, r2, r3, r4⟩
          · exact .inr (.inl ⟨g, _, r1, r2⟩)
      · rename_i A first captured hfe
        rw [hfe] at hf
        generalize haf : a.eval f = af at hf
        split at hev
        · cases hf with
          | yield hA =>
            rename_i L _
            have hva := he.operands args.toList hargs
            obtain ⟨g, tmps, assign, body, r1, r2⟩ := hC.yield A _ h v h' hev ρ w (args.map a.eval) L hA hG hs hfree (by simpa using hva)
            refine .inr (.inr ⟨L.b, g, tmps, assign, body, ?_, r2⟩)
            rw [← r1]
            simp [execOp, hop, resolve, haf, Deferred.ofValue, invoke]
        · cases hev
      · cases hev
    · cases hev
  · rename_i t r hop
    have hnew : ∃ ρ', Fr ρ ρ' h (h.push (.map [] 0)) w (w.alloc (.map #[] 0)) ∧ Sim ρ' (h.push (.map [] 0)) (w.alloc (.map #[] 0)) ∧ VR ρ' (.map (some h.size)) (.map (some w.heap.size)) ∨ ¬ (ρ h.size = none) := by
      by_cases hn : ρ h.size = none
      · obtain ⟨ρ', h1, h2, h3⟩ := pushB_sound (W := w.alloc (.map #[] 0)) (L := ⟨w.heap.size, 0, 0⟩) (b := .map [] 0) hs hn (fun k hk => by rw [Am.World.alloc_heap, Array.getElem?_push, if_neg (by omega)]) (by rw [Am.World.alloc_heap]; simp) rfl rfl rfl (Nat.le_refl _)
          (fun ρ' _ => ⟨#[], by rw [Am.World.alloc_heap]; simp, rfl, by intro i x y hx; simp at hx⟩)
        exact ⟨ρ', .inl ⟨h2, h3, .map h1⟩⟩
      · exact ⟨ρ, .inr hn⟩
    split at hev
    · cases hev
      obtain ⟨ρ', ⟨h2, h3, h4⟩ | hn⟩ := hnew
      · exact .inl ⟨ρ', _, _, .inl (by simp [execOp, hop, Instr.makeMap]), h2, h3, h4⟩
      · exact (hn (hfree _ (Nat.le_refl _) (Nat.lt_succ_self _))).elim
    · rename_i x
      have hx := he.operand (hall x (by simp [hop, Op.operands]))
      split at hev
      · rename_i hd hxe
        cases hev
        rw [hxe] at hx
        generalize hax : a.eval x = ax at hx
        cases hx
        obtain ⟨ρ', ⟨h2, h3, h4⟩ | hn⟩ := hnew
        · refine .inl ⟨ρ', _, _, .inl ?_, h2, h3, h4⟩
          simp [execOp, hop, Instr.makeMap, hax, run_underlying (hT.desc _ _ hd), asInt, asIntOf]
        · exact (hn (hfree _ (Nat.le_refl _) (Nat.lt_succ_self _))).elim
      · cases hev
  · rename_i t x k ok hop
    have hx := he.operand (hall x (by simp [hop, Op.operands]))
    have hk := he.operand (hall k (by simp [hop, Op.operands]))
    simp only [Option.map_eq_some_iff, Prod.mk.injEq] at hev
    obtain ⟨r, hr, rfl, rfl⟩ := hev
    obtain ⟨u, h1, h2⟩ := lookupA_sound hT hs hx hk hr
    exact .still hs (by simp [execOp, hop, h1]) h2
  · rename_i t m k x hop
    have hm := he.operand (hall m (by simp [hop, Op.operands]))
    have hk := he.operand (hall k (by simp [hop, Op.operands]))
    have hx := he.operand (hall x (by simp [hop, Op.operands]))
    simp only [Option.map_eq_some_iff, Prod.mk.injEq] at hev
    obtain ⟨h1, hr, rfl, rfl⟩ := hev
    obtain ⟨w', r1, r2, r3⟩ := updateA_sound hT hs hm hk hx hr
    exact .inl ⟨ρ, undef, w', .inr ⟨by simp [execOp, hop, r1], rfl⟩, r2, r3, .undef ρ⟩
  · rename_i t m k x hop
    have hm := he.operand (hall m (by simp [hop, Op.operands]))
    have hk := he.operand (hall k (by simp [hop, Op.operands]))
    have hx := he.operand (hall x (by simp [hop, Op.operands]))
    simp only [Option.map_eq_some_iff, Prod.mk.injEq] at hev
    obtain ⟨h1, hr, rfl, rfl⟩ := hev
    obtain ⟨w', r1, r2, r3⟩ := updateA_sound hT hs hm hk hx hr
    exact .inl ⟨ρ, undef, w', .inr ⟨by simp [execOp, hop, r1], rfl⟩, r2, r3, .undef ρ⟩
  · rename_i t m k hop
    have hm := he.operand (hall m (by simp [hop, Op.operands]))
    have hk := he.operand (hall k (by simp [hop, Op.operands]))
    obtain ⟨u, w', r1, r2, r3, r4⟩ := entryA_sound hT hs hm hk hev
    exact .inl ⟨ρ, u, w', .inl (by simp [execOp, hop, r1]), r2, r3, r4⟩
  · rename_i t m k x hop
    have hm := he.operand (hall m (by simp [hop, Op.operands]))
    have hk := he.operand (hall k (by simp [hop, Op.operands]))
    have hx := he.operand (hall x (by simp [hop, Op.operands]))
    simp only [Option.map_eq_some_iff, Prod.mk.injEq] at hev
    obtain ⟨h1, hr, rfl, rfl⟩ := hev
    obtain ⟨w', r1, r2, r3⟩ := entryStoreA_sound (P := P) (t := t) hs hm hk hx hr
    exact .inl ⟨ρ, undef, w', .inr ⟨by simp [execOp, hop, r1], rfl⟩, r2, r3, .undef ρ⟩
  · rename_i t x hop
    have hx := he.operand (hall x (by simp [hop, Op.operands]))
    simp only [Option.map_eq_some_iff, Prod.mk.injEq] at hev
    obtain ⟨r, hr, rfl, rfl⟩ := hev
    obtain ⟨u, h1, h2⟩ := ifaceA_sound hT hx hr w
    exact .still hs (by simp [execOp, hop, h1]) h2
  · rename_i x xt t ok hop
    have hx := he.operand (hall x (by simp [hop, Op.operands]))
    simp only [Option.map_eq_some_iff, Prod.mk.injEq] at hev
    obtain ⟨r, hr, rfl, rfl⟩ := hev
    obtain ⟨u, h1, h2⟩ := assertA_sound (xt := xt) hT hx hr w
    exact .still hs (by simp [execOp, hop, h1]) h2
  · cases hev
end
end Go.Am
