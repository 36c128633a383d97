/- More fuel changes nothing. No condition. -/
import Derived.Test.YtpnnbjakbplgeaaGCall
namespace Go.Am

def CLe (C C' : Fn → List Value → Heap → Option (Value × Heap)) : Prop := ∀ f args h r, C f args h = some r → C' f args h = some r
def DLe (D D' : Array Oper → Env → Heap → Option (Env × Heap)) : Prop := ∀ ops e h r, D ops e h = some r → D' ops e h = some r

section
variable {P : Program} {T : Tab} {C C' : Fn → List Value → Heap → Option (Value × Heap)}

theorem evalOp_mono (hC : CLe C C') {e : Env} {o : Oper} {h : Heap} {r : Value × Heap} (hev : evalOp P T C e o h = some r) : evalOp P T C' e o h = some r := by
  obtain ⟨dst, op, ty, pos, after, guard⟩ := o
  cases op <;> simp only [evalOp] at hev ⊢ <;> try exact hev
  case call c =>
    obtain ⟨callee, args, ats⟩ := c
    cases callee with
    | value f =>
      simp only at hev ⊢
      split at hev
      · exact hC _ _ _ _ hev
      · split at hev
        · rename_i hc; rw [if_pos hc]; exact hC _ _ _ _ hev
        · cases hev
      · cases hev
    | invoke rv m =>
      simp only at hev ⊢
      split at hev
      · simp only [Option.bind_eq_some_iff, Prod.exists] at hev ⊢
        obtain ⟨f, y, hm, hev⟩ := hev
        exact ⟨f, y, hm, hC _ _ _ _ hev⟩
      · cases hev
    | builtin b => cases b <;> exact hev

theorem evalOps_mono (hC : CLe C C') {ops : Array Oper} : ∀ (l : List Oper) (e : Env) (h : Heap) (r : Env × Heap), evalOps P T C ops l e h = some r → evalOps P T C' ops l e h = some r
  | [], _, _, _, hev => hev
  | o :: l, e, h, r, hev => by
    simp only [evalOps] at hev ⊢
    split at hev
    · rename_i hw
      rw [if_pos hw]
      split at hev
      · rename_i v h1 h2
        rw [evalOp_mono hC h2]
        exact evalOps_mono hC l _ _ _ hev
      · cases hev
    · rename_i hw
      rw [if_neg hw]
      exact evalOps_mono hC l _ _ _ hev

theorem evalOpsK_mono (hC : CLe C C') {ops : Array Oper} : ∀ (l : List Oper) (e : Env) (h : Heap) (r : List Nat × Env × Heap), evalOpsK P T C ops l e h = some r → evalOpsK P T C' ops l e h = some r
  | [], _, _, _, hev => hev
  | o :: l, e, h, r, hev => by
    simp only [evalOpsK] at hev ⊢
    split at hev
    · rename_i hw
      rw [if_pos hw]
      split at hev
      · rename_i v h1 h2
        rw [evalOp_mono hC h2]
        simp only [Option.map_eq_some_iff, Prod.exists] at hev ⊢
        obtain ⟨ks, x1, x2, hr, rfl⟩ := hev
        exact ⟨ks, x1, x2, evalOpsK_mono hC l _ _ _ hr, rfl⟩
      · cases hev
    · rename_i hw
      rw [if_neg hw]
      simp only [Option.map_eq_some_iff, Prod.exists] at hev ⊢
      obtain ⟨ks, x1, x2, hr, rfl⟩ := hev
      exact ⟨ks, x1, x2, evalOpsK_mono hC l _ _ _ hr, rfl⟩

theorem evalDraw_mono (hC : CLe C C') : DLe (evalDraw P T C) (evalDraw P T C') := by
  intro ops e h r hev
  unfold evalDraw at hev ⊢
  split at hev
  · rename_i hr
    rw [evalOpsK_mono hC _ _ _ _ hr]
    exact hev
  · cases hev

theorem iter_mono {f f' : Env → Heap → Option (Ex × Env × Heap)} (hf : ∀ e h r, f e h = some r → f' e h = some r) : ∀ (n m : Nat) (e : Env) (h : Heap) (r : Ex × Env × Heap), n ≤ m → iter f n e h = some r → iter f' m e h = some r
  | 0, _, _, _, _, _, hi => by simp [iter] at hi
  | n + 1, 0, _, _, _, hle, _ => by omega
  | n + 1, m + 1, e, h, r, hle, hi => by
    simp only [iter] at hi ⊢
    split at hi
    · rename_i e1 h1 h2
      rw [hf _ _ _ h2]
      exact iter_mono hf n m _ _ _ (by omega) hi
    · rename_i hne
      rw [hf _ _ _ hi]
      obtain ⟨x, e1, h1⟩ := r
      cases x with
      | normal => exact (hne _ _ hi).elim
      | exit id => rfl
      | ret => rfl

theorem evalCode_mono (hC : CLe C C') {D D' : Array Oper → Env → Heap → Option (Env × Heap)} (hD : DLe D D') {n m : Nat} (hnm : n ≤ m) (rd : Option Nat) : ∀ (c : Code) (e : Env) (h : Heap) (r : Ex × Env × Heap), evalCode P T C D rd n c e h = some r → evalCode P T C' D' rd m c e h = some r := by
  intro c
  induction c with
  | skip => intro e h r hev; exact hev
  | region id ops d =>
    intro e h r hev
    simp only [evalCode, Option.map_eq_some_iff, Prod.exists] at hev ⊢
    obtain ⟨e1, h1, hr, rfl⟩ := hev
    refine ⟨e1, h1, ?_, rfl⟩
    cases d with
    | true => simp only [if_true] at hr ⊢; exact hD _ _ _ _ hr
    | false => simp only [Bool.false_eq_true, if_false] at hr ⊢; exact evalOps_mono hC _ _ _ _ hr
  | seq a b iha ihb =>
    intro e h r hev
    simp only [evalCode] at hev ⊢
    split at hev
    · rename_i e1 h1 h2
      rw [iha _ _ _ h2]
      exact ihb _ _ _ hev
    · rename_i hne
      rw [iha _ _ _ hev]
      obtain ⟨x, e1, h1⟩ := r
      cases x with
      | normal => exact (hne _ _ hev).elim
      | exit id => rfl
      | ret => rfl
  | cond c a b iha ihb =>
    intro e h r hev
    simp only [evalCode] at hev ⊢
    split at hev
    · exact iha _ _ _ hev
    · exact ihb _ _ _ hev
    · cases hev
  | block id c ih =>
    intro e h r hev
    simp only [evalCode] at hev ⊢
    split at hev
    · rename_i i e1 h1 h2
      rw [ih _ _ _ h2]
      exact hev
    · rename_i hne
      rw [ih _ _ _ hev]
      obtain ⟨x, e1, h1⟩ := r
      cases x with
      | normal => rfl
      | exit id => exact (hne _ _ _ hev).elim
      | ret => rfl
  | loop c ih => intro e h r hev; simp only [evalCode] at hev ⊢; exact iter_mono ih n m _ _ _ hnm hev
  | exit id => intro e h r hev; exact hev
  | ret => intro e h r hev; exact hev
  | label l => intro e h r hev; exact hev
  | rangeFunc f ps a b _ _ =>
    intro e h r hev
    simp only [evalCode, rangeA] at hev ⊢
    split at hev
    · split at hev
      · rename_i hc
        rw [if_pos hc]
        split at hev
        · rename_i hr; rw [hC _ _ _ _ hr]; exact hev
        · cases hev
      · cases hev
    · cases hev
  | scope c ih => intro e h r hev; exact ih _ _ _ hev
  | goto l => intro e h r hev; simp [evalCode] at hev
  | refuse s => intro e h r hev; simp [evalCode] at hev

theorem roundA_mono {E E' : Code → Env → Heap → Option (Ex × Env × Heap)} (hE : ∀ c e h r, E c e h = some r → E' c e h = some r) {A : Nat} {args : List Value} {h : Heap} {r : Value × Heap} (hev : roundA E A args h = some r) : roundA E' A args h = some r := by
  unfold roundA at hev ⊢
  split at hev
  · split at hev
    · rename_i hc
      simp only [if_pos hc]
      split at hev
      · rename_i h1
        rw [hE _ _ _ _ h1]
        simp only
        split at hev
        · split at hev
          · rename_i h2; rw [hE _ _ _ _ h2]; exact hev
          · rename_i h2; rw [hE _ _ _ _ h2]; exact hev
          · rename_i h2; rw [hE _ _ _ _ h2]; exact hev
          · cases hev
        · cases hev
      · cases hev
    · cases hev
  · cases hev

theorem evalPre_mono {E E' : Code → Env → Heap → Option (Ex × Env × Heap)} (hE : ∀ c e h r, E c e h = some r → E' c e h = some r) : ∀ (pre : List Code) (e : Env) (h : Heap) (r : Env × Heap), evalPre E pre e h = some r → evalPre E' pre e h = some r
  | [], _, _, _, hev => hev
  | c :: cs, e, h, r, hev => by
    simp only [evalPre] at hev ⊢
    split at hev
    · rename_i hr
      rw [hE _ _ _ _ hr]
      exact evalPre_mono hE cs _ _ _ hev
    · cases hev
theorem leaveA_mono {E E' : Code → Env → Heap → Option (Ex × Env × Heap)} (hE : ∀ c e h r, E c e h = some r → E' c e h = some r) {fn : Func} {g : Value} {e3 : Env} {h3 : Heap} {r : Value × Heap} (hev : leaveA T E fn g e3 h3 = some r) : leaveA T E' fn g e3 h3 = some r := by
  unfold leaveA at hev ⊢
  split at hev
  · simp only [Option.bind_eq_some_iff] at hev ⊢
    obtain ⟨fg, h1, cg, h2, hev⟩ := hev
    refine ⟨fg, h1, cg, h2, ?_⟩
    split at hev
    · rename_i hn
      rw [if_pos hn]
      split at hev
      · rename_i hr
        rw [hE _ _ _ _ hr]
        exact hev
      · rename_i hr
        rw [hE _ _ _ _ hr]
        exact hev
      · cases hev
    · cases hev
  · cases hev
theorem deferA_mono {C C' : Fn → List Value → Heap → Option (Value × Heap)} (hC : CLe C C') {E E' : Code → Env → Heap → Option (Ex × Env × Heap)} (hE : ∀ c e h r, E c e h = some r → E' c e h = some r) {fn : Func} {c : Code} {e : Env} {h : Heap} {r : Value × Heap} (hev : deferA P T E C fn c e h = some r) : deferA P T E' C' fn c e h = some r := by
  unfold deferA at hev ⊢
  simp only [Option.bind_eq_some_iff, Prod.exists] at hev ⊢
  obtain ⟨pre, m, t, rest, hsp, hev⟩ := hev
  refine ⟨pre, m, t, rest, hsp, ?_⟩
  split at hev
  · rename_i hn
    rw [if_pos hn]
    simp only [Option.bind_eq_some_iff, Prod.exists] at hev ⊢
    obtain ⟨e1, h1, hp, v1, h2, ho, hev⟩ := hev
    refine ⟨e1, h1, evalPre_mono hE _ _ _ _ hp, v1, h2, evalOp_mono hC ho, ?_⟩
    split at hev
    · rename_i hr
      rw [hE _ _ _ _ hr]
      exact leaveA_mono hE hev
    · rename_i hr
      rw [hE _ _ _ _ hr]
      exact leaveA_mono hE hev
    · cases hev
  · cases hev
theorem call_mono {ov : Ov} : ∀ (n m : Nat), n ≤ m → CLe (call P T ov n) (call P T ov m)
  | 0, _, _ => by intro f args h r hev; simp [call] at hev
  | n + 1, 0, hle => by omega
  | n + 1, m + 1, hle => by
    intro f args h r hev
    have ih := call_mono (ov := ov) n m (by omega)
    cases f with
    | func f =>
      simp only [call] at hev ⊢
      split at hev
      · exact hev
      · simp only [Option.bind_eq_some_iff] at hev ⊢
        obtain ⟨fn, hfn, c, hc, hev⟩ := hev
        refine ⟨fn, hfn, c, hc, ?_⟩
        split at hev
        · rename_i hdf
          rw [if_pos hdf]
          exact deferA_mono ih (fun c e h r hr => evalCode_mono ih (evalDraw_mono ih) (by omega) none c e h r hr) hev
        rename_i hdf
        rw [if_neg hdf]
        split at hev
        · rename_i hr
          rw [evalCode_mono ih (evalDraw_mono ih) (by omega) none _ _ _ _ hr]
          exact hev
        · rename_i hr
          rw [evalCode_mono ih (evalDraw_mono ih) (by omega) none _ _ _ _ hr]
          exact hev
        · cases hev
    | yield A =>
      simp only [call] at hev ⊢
      exact roundA_mono (fun c e h r hr => evalCode_mono ih (evalDraw_mono ih) (by omega) (some A) c e h r hr) hev
    | _ => simp [call] at hev
end
#print axioms call_mono
end Go.Am
