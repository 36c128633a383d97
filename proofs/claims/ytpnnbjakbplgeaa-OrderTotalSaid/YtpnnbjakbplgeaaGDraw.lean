/- A region that draws its order: the plain machine goes by the text; what it comes to does not hang on the order. No condition. -/
import Derived.Test.YtpnnbjakbplgeaaGCode
import Derived.Orders
namespace Go.Am
open Go.RowKit

/-- An operation that looks at no memory. -/
def lenBlind (T : Tab) : List TypeId → Bool
  | t :: _ => (match T.desc t with | some (.map _ _) => false | _ => true)
  | [] => true
def opBlind (T : Tab) (o : Oper) : Bool :=
  match o.op with
  | .move _ | .assign _ | .pick _ _ _ | .build _ _ | .nilCheck _ | .binOp _ _ _ _ _ | .makeFunc _ _ _ | .slice _ _ _ _ _ | .fieldAddr _ _ _ | .field _ _ _ | .indexAddr _ _ _ | .extract _ _ | .unOp _ _ _ | .index _ _ _ | .makeInterface _ _ | .typeAssert _ _ _ _ => true
  | .convert s d _ => !isSlice T s && !isSlice T d
  | .call c => match c.callee with
    | .builtin .len => lenBlind T c.argTypes.toList
    | .builtin .min | .builtin .max | .builtin .cap => true
    | _ => false
  | _ => false

section
variable (P : Program) (T : Tab) (C : Fn → List Value → Heap → Option (Value × Heap))

/-- An operation's kind: 0: it looks at no memory; not 2 by three: it turns nothing that is there (from 3 on: it reads that one block alone, it makes a row alone); 2 by three: any other (from 5 on: it writes that one block alone). -/
def kindA (o : Oper) (e : Env) (h h' : Heap) : Nat :=
  if opBlind T o then 0 else if h.size ≤ h'.low then (match o.op with
    | .load _ a => (match evalOperand e a with
      | .pointer (some x) => 3 + 3 * x.block
      | _ => 1)
    | .buildSlice _ _ _ => 4 + 3 * h.size
    | _ => 1)
  else (match o.op with
    | .store _ a _ => (match evalOperand e a with
      | .pointer (some x) => 5 + 3 * x.block
      | _ => 2)
    | _ => 2)
/-- As 'evalOps'; of each operation its kind: 0: it looks at no memory; 1: it turns nothing that is there; 2: any other. -/
def evalOpsK (ops : Array Oper) : List Oper → Env → Heap → Option (List Nat × Env × Heap)
  | [], e, h => some ([], e, h)
  | o :: r, e, h =>
    if wantedA ops o e then
      match evalOp P T C e o { h with low := h.size } with
      | some (v, h') => (evalOpsK ops r (put e o.dst v) { h' with low := min h.low h'.low }).map fun (ks, x) => (kindA T o e h h' :: ks, x)
      | none => none
    else (evalOpsK ops r (put e o.dst undef) h).map fun (ks, x) => (0 :: ks, x)

def edgeMask (acc : List Nat) (o : Oper) : Nat := o.after.toList.foldl (fun s e => if Region.binds .any e then s ||| 2 ^ e.on ||| acc.getD e.on 0 else s) 0
def masks : List Oper → List Nat → List Nat
  | [], acc => acc
  | o :: r, acc => masks r (acc ++ [edgeMask acc o])
def kOk (a b : Nat) : Bool := a == 0 || b == 0 || (a % 3 != 2 && b % 3 != 2) || (Nat.ble 5 b && b % 3 == 2 && Nat.ble 3 a && ((a % 3 == 0 && a + 2 != b) || (a % 3 == 1 && Nat.ble (b + 2) a)))
def compat1 (ops : Array Oper) (ks ms : List Nat) (j : Nat) : Bool :=
  match ops[j]? with
  | some oj => oj.after.toList.all (fun e => !Region.binds .any e || decide (e.on < j)) &&
      (List.range j).all fun i => (ms.getD j 0).testBit i || (match ops[i]? with
        | some oi => oi.apart ops oj && kOk (ks.getD i 2) (ks.getD j 2)
        | none => true)
  | none => true
def compat (ops : Array Oper) (ks ms : List Nat) : Bool := (List.range ops.size).all (compat1 ops ks ms)

def evalDraw (ops : Array Oper) (e : Env) (h : Heap) : Option (Env × Heap) :=
  match evalOpsK P T C ops ops.toList e h with
  | some (ks, e', h') => if compat ops ks (masks ops.toList []) then some (e', h') else none
  | none => none
end

section
variable {P : Program} {T : Tab} {C : Fn → List Value → Heap → Option (Value × Heap)}

theorem lenA_blind {t : TypeId} {x : Value} {ts : List TypeId} (hb : lenBlind T (t :: ts) = true) (h h2 : Heap) : lenA T t x h = lenA T t x h2 := by
  simp only [lenBlind] at hb
  unfold lenA
  split at hb
  · cases hb
  · rename_i hne
    split
    all_goals first | rfl | (rename_i hd; exact (hne _ _ hd).elim)

theorem evalOp_blind {e : Env} {o : Oper} {h h' : Heap} {v : Value} (hb : opBlind T o = true) (hev : evalOp P T C e o h = some (v, h')) : h' = h ∧ ∀ h2, evalOp P T C e o h2 = some (v, h2) := by
  have hmap : ∀ {r : Option Value}, (r.map fun x => (x, h)) = some (v, h') → h' = h ∧ ∀ h2 : Heap, (r.map fun x => (x, h2)) = some (v, h2) := by
    intro r hr
    simp only [Option.map_eq_some_iff, Prod.mk.injEq] at hr
    obtain ⟨_, rfl, rfl, rfl⟩ := hr
    exact ⟨rfl, fun _ => rfl⟩
  have hpure : pureOp P e o h = some (v, h') → h' = h ∧ ∀ h2, pureOp P e o h2 = some (v, h2) := by
    intro hp
    unfold pureOp at hp ⊢
    split at hp
    · rename_i h1
      split at hp
      · rename_i h2
        split at hp
        · rename_i h3
          cases hp
          exact ⟨rfl, fun _ => by simp [h1, h3]⟩
        · cases hp
      · cases hp
    · cases hp
  obtain ⟨dst, op, ty, pos, after, guard⟩ := o
  cases op <;> simp only [opBlind, Bool.false_eq_true] at hb <;> simp only [evalOp] at hev ⊢
  case move x => cases hev; exact ⟨rfl, fun _ => rfl⟩
  case assign x => cases hev; exact ⟨rfl, fun _ => rfl⟩
  case pick c a b =>
    split at hev
    · cases hev; exact ⟨rfl, fun _ => rfl⟩
    · cases hev
  case build => exact hmap hev
  case nilCheck x =>
    split at hev
    · cases hev; exact ⟨rfl, fun _ => rfl⟩
    · cases hev; exact ⟨rfl, fun _ => rfl⟩
    · cases hev; exact ⟨rfl, fun _ => rfl⟩
    · cases hev
  case makeInterface => exact hmap hev
  case typeAssert => exact hmap hev
  case binOp => exact hmap hev
  case makeFunc fn f c =>
    split at hev
    · cases hev; exact ⟨rfl, fun _ => rfl⟩
    · cases hev
  case slice => exact hmap hev
  case fieldAddr => exact hmap hev
  case field => exact hmap hev
  case indexAddr => exact hmap hev
  case extract t i =>
    split at hev
    · exact hmap hev
    · cases hev
  case unOp => exact hpure hev
  case convert s d x =>
    simp only [Bool.and_eq_true, Bool.not_eq_true'] at hb
    rw [hb.1, hb.2] at hev ⊢
    exact hpure hev
  case index => exact hpure hev
  case call c =>
    obtain ⟨callee, args, ats⟩ := c
    cases callee with
    | value f => simp at hb
    | invoke r m => simp at hb
    | builtin b =>
      cases b <;> simp at hb <;> simp only at hev ⊢
      case len =>
        split at hev
        · rename_i hts hxs
          rw [hts] at hb
          obtain ⟨e1, e2⟩ := hmap hev
          exact ⟨e1, fun h2 => by rw [lenA_blind hb h2 h]; exact e2 h2⟩
        · cases hev
      case min => exact hpure hev
      case max => exact hpure hev
      case cap =>
        split at hev
        · exact hmap hev
        · cases hev

theorem evalOp_congr {e e' : Env} {o : Oper} (h : Heap) (he : ∀ x ∈ o.op.operands.toList, evalOperand e x = evalOperand e' x) : evalOp P T C e o h = evalOp P T C e' o h := by
  have hpure : (∀ cs b, o.op ≠ .select cs b) → pureOp P e o h = pureOp P e' o h := by
    intro hsel
    unfold pureOp
    have h1 : execOp (evalOperand e) o = execOp (evalOperand e') o := execOp_congr o hsel (fun x hx => he x (by simpa using hx))
    have h2 : (o.op.operands.toList.all fun x => plain (evalOperand e x)) = (o.op.operands.toList.all fun x => plain (evalOperand e' x)) := by
      rw [Bool.eq_iff_iff, List.all_eq_true, List.all_eq_true]
      exact ⟨fun hh x hx => by rw [← he x hx]; exact hh x hx, fun hh x hx => by rw [he x hx]; exact hh x hx⟩
    rw [h1, h2]
  have hlist : ∀ (xs : List Operand), (∀ x ∈ xs, x ∈ o.op.operands.toList) → xs.map (evalOperand e) = xs.map (evalOperand e') := fun xs hx => List.map_congr_left fun x hxs => he x (hx x hxs)
  unfold evalOp
  dsimp only
  split
  · rename_i x hop; rw [he x (by simp [hop, Op.operands])]
  · rename_i x hop; rw [he x (by simp [hop, Op.operands])]
  · rename_i c a b hop; rw [he c (by simp [hop, Op.operands]), he a (by simp [hop, Op.operands]), he b (by simp [hop, Op.operands])]
  · rfl
  · rename_i t x hop; rw [he x (by simp [hop, Op.operands])]
  · rename_i t ps hop
    rw [List.map_congr_left (g := fun (p : Nat × Operand) => (p.1, evalOperand e' p.2)) fun p hp => by rw [he p.2 (by simp [hop, Op.operands]; exact ⟨p.1, by simpa using hp⟩)]]
  · rename_i t n ps hop
    rw [List.map_congr_left (g := fun (p : Nat × Operand) => (p.1, evalOperand e' p.2)) fun p hp => by rw [he p.2 (by simp [hop, Op.operands]; exact ⟨p.1, by simpa using hp⟩)]]
  · rename_i t x hop; rw [he x (by simp [hop, Op.operands])]
  · rename_i t a x hop; rw [he a (by simp [hop, Op.operands]), he x (by simp [hop, Op.operands])]
  · rename_i x hop; rw [he x (by simp [hop, Op.operands])]
  · rename_i op t x y yt hop; rw [he x (by simp [hop, Op.operands]), he y (by simp [hop, Op.operands])]
  · rename_i fn f c hop
    have h1 := hlist f.toList (fun x hx => by simp [hop, Op.operands]; left; simpa using hx)
    have h2 := hlist c.toList (fun x hx => by simp [hop, Op.operands]; right; simpa using hx)
    have h3 : f.map (evalOperand e) = f.map (evalOperand e') := by apply Array.ext'; simpa using h1
    have h4 : c.map (evalOperand e) = c.map (evalOperand e') := by apply Array.ext'; simpa using h2
    rw [h3, h4]
  · rename_i t l c hop; rw [he l (by simp [hop, Op.operands]), he c (by simp [hop, Op.operands])]
  · rename_i t x l hi m hop
    have hopt : ∀ (y : Option Operand), (∀ z, y = some z → z ∈ o.op.operands.toList) → y.map (evalOperand e) = y.map (evalOperand e') := by
      intro y hy
      cases y with
      | none => rfl
      | some z => simp [he z (hy z rfl)]
    rw [he x (by simp [hop, Op.operands]), hopt l (fun z hz => by subst hz; simp [hop, Op.operands]), hopt hi (fun z hz => by subst hz; simp [hop, Op.operands]), hopt m (fun z hz => by subst hz; simp [hop, Op.operands])]
  · rename_i s x f hop; rw [he x (by simp [hop, Op.operands])]
  · rename_i t x f hop; rw [he x (by simp [hop, Op.operands])]
  · rename_i t x i hop; rw [he x (by simp [hop, Op.operands]), he i (by simp [hop, Op.operands])]
  · rename_i t i hop; rw [he t (by simp [hop, Op.operands])]
  · rename_i hop; exact hpure (by simp [hop])
  · rename_i s d x hop; rw [he x (by simp [hop, Op.operands]), hpure (by simp [hop])]
  · rename_i hop; exact hpure (by simp [hop])
  · rename_i c hop
    obtain ⟨callee, args, ats⟩ := c
    dsimp only
    have ha := hlist args.toList (fun x hx => by simp [hop, Op.operands, Call.operands]; right; simpa using hx)
    have hmem : ∀ x ∈ args.toList, evalOperand e x = evalOperand e' x := fun x hx => he x (by simp [hop, Op.operands, Call.operands]; right; simpa using hx)
    split
    · split
      · rename_i h1 h2; rw [hmem _ (by rw [h2]; simp), hmem _ (by rw [h2]; simp)]
      · rfl
    · split
      · rename_i h1 h2; rw [hmem _ (by rw [h2]; simp), hmem _ (by rw [h2]; simp)]
      · rfl
    · split
      · rename_i h1 h2; rw [hmem _ (by rw [h2]; simp)]
      · rfl
    · split
      · rename_i h1 h2; rw [hmem _ (by rw [h2]; simp)]
      · rfl
    · exact hpure (by simp [hop])
    · exact hpure (by simp [hop])
    · split
      · rename_i h1 h2; rw [hmem _ (by rw [h2]; simp), hmem _ (by rw [h2]; simp)]
      · rfl
    · split
      · rename_i h1 h2; rw [hmem _ (by rw [h2]; simp)]
      · rfl
    · rename_i rv name
      rw [he rv (by simp [hop, Op.operands, Call.operands]), ha]
    · rename_i f
      rw [he f (by simp [hop, Op.operands, Call.operands]), ha]
    · rfl
  · rename_i t r hop
    cases r with
    | none => rfl
    | some x => simp only; rw [he x (by simp [hop, Op.operands])]
  · rename_i t x k ok hop; rw [he x (by simp [hop, Op.operands]), he k (by simp [hop, Op.operands])]
  · rename_i t m k x hop; rw [he m (by simp [hop, Op.operands]), he k (by simp [hop, Op.operands]), he x (by simp [hop, Op.operands])]
  · rename_i t m k x hop; rw [he m (by simp [hop, Op.operands]), he k (by simp [hop, Op.operands]), he x (by simp [hop, Op.operands])]
  · rename_i t m k hop; rw [he m (by simp [hop, Op.operands]), he k (by simp [hop, Op.operands])]
  · rename_i t m k x hop; rw [he m (by simp [hop, Op.operands]), he k (by simp [hop, Op.operands]), he x (by simp [hop, Op.operands])]
  · rename_i t x hop; rw [he x (by simp [hop, Op.operands])]
  · rename_i x xt t ok hop; rw [he x (by simp [hop, Op.operands])]
  · rfl
end
end Go.Am
