/- Steps of the plain machine, for simp. No condition. -/
import Derived.Test.YtemapihoobmonaaDoorG2
namespace Go.Am

def Heap.lay (h : Heap) (l : List Blk) (w : Nat) : Heap := { l.foldl Heap.push h with low := w }

theorem foldl_size (l : List Blk) : ∀ h : Heap, (l.foldl Heap.push h).size = h.size + l.length := by
  induction l with
  | nil => intro h; rfl
  | cons b l ih => intro h; rw [List.foldl_cons, ih, Heap.size_push, List.length_cons]; omega
theorem get_low_eq (h : Heap) (w A : Nat) : Heap.get { h with low := w } A = h.get A := rfl
theorem foldl_get (l : List Blk) : ∀ (h : Heap) (A : Nat), (l.foldl Heap.push h).get A = if h.size ≤ A then l[A - h.size]? else h.get A := by
  induction l with
  | nil =>
    intro h A
    simp only [List.foldl_nil]
    split
    · rename_i hA
      simp only [Heap.get, List.getElem?_nil]
      rw [if_neg (by omega)]
    · rfl
  | cons b l ih =>
    intro h A
    rw [List.foldl_cons, ih, Heap.size_push, Heap.get_push]
    by_cases h1 : h.size + 1 ≤ A
    · rw [if_pos h1, if_pos (by omega), show A - h.size = (A - (h.size + 1)) + 1 by omega, List.getElem?_cons_succ]
    · rw [if_neg h1]
      by_cases h2 : A = h.size
      · rw [if_pos h2, if_pos (by omega), h2, Nat.sub_self, List.getElem?_cons_zero]
      · rw [if_neg h2, if_neg (by omega)]

section
variable (h : Heap) (l : List Blk) (w : Nat)
theorem lay_size : (h.lay l w).size = h.size + l.length := foldl_size l h
theorem lay_low : (h.lay l w).low = w := rfl
theorem lay_push (b : Blk) : (h.lay l w).push b = h.lay (l ++ [b]) w := by
  simp only [Heap.lay, List.foldl_append, List.foldl_cons, List.foldl_nil]
  rfl
theorem lay_get (i : Nat) : (h.lay l w).get (h.size + i) = l[i]? := by
  unfold Heap.lay
  rw [get_low_eq, foldl_get, if_pos (by omega), show h.size + i - h.size = i by omega]
theorem lay_get_old {A : Nat} (hA : A < h.size) : (h.lay l w).get A = h.get A := by
  unfold Heap.lay
  rw [get_low_eq, foldl_get, if_neg (by omega)]
theorem lay_nil : h = h.lay [] h.low := rfl
theorem lay_ext (hw : min h.low h.size ≤ w) : Ext h (h.lay l w) := ⟨by rw [lay_size]; omega, fun A hA => lay_get_old h l w hA, hw⟩
theorem Ext.at {h' : Heap} (e : Ext (h.lay l w) h') (i : Nat) {b : Blk} (hi : l[i]? = some b) : h'.get (h.size + i) = some b := by
  have : i < l.length := (List.getElem?_eq_some_iff.1 hi).1
  rw [e.get _ (by rw [lay_size]; omega), lay_get, hi]
theorem Ext.under {h' : Heap} (e : Ext (h.lay l w) h') (hw : min h.low h.size ≤ w) : Ext h h' := (lay_ext h l w hw).trans e
end

section
variable {P : Program} {T : Tab} {ov : Ov}
section
variable (d : Option Tmp) (ty : TypeId) (pos : String) (af : Array Edge) (g : Option (Nat × Bool)) (e : Env) (h : Heap) (K : Value → Heap → Prop)
def valE (r : Option Value) (h : Heap) (K : Value → Heap → Prop) : Prop := match r with
  | some v => K v h
  | none => False
theorem w_move (x : Operand) : WOp P T ov ⟨d, .move x, ty, pos, af, g⟩ e h K = K (evalOperand e x) h := rfl
theorem w_assign (x : Operand) : WOp P T ov ⟨d, .assign x, ty, pos, af, g⟩ e h K = K (evalOperand e x) h := rfl
def pickV (c a b : Value) : Option Value := match c with | .bool t => some (if t then a else b) | _ => none
theorem pickV_true (a b : Value) : pickV (.bool true) a b = some a := rfl
theorem pickV_false (a b : Value) : pickV (.bool false) a b = some b := rfl
theorem optE_map (r : Option Value) : optE (r.map fun v => (v, h)) K = valE r h K := by cases r <;> rfl
theorem w_pick (c a b : Operand) : WOp P T ov ⟨d, .pick c a b, ty, pos, af, g⟩ e h K = valE (pickV (evalOperand e c) (evalOperand e a) (evalOperand e b)) h K := by
  show optE (pickE (evalOperand e c) (evalOperand e a) (evalOperand e b) h) K = _
  cases evalOperand e c <;> rfl
theorem w_alloc (t : TypeId) {n b : Nat} {z : List Value} (hz : T.info t = some (n, b, z)) : WOp P T ov ⟨d, .alloc t, ty, pos, af, g⟩ e h K = K (.pointer (some ⟨h.size, 0, none⟩)) (h.push (.row z t false)) := by
  show optE ((T.info t).map fun (_, _, z) => newRow t z h) K = _
  rw [hz]; rfl
theorem w_box (t : TypeId) (x : Operand) : WOp P T ov ⟨d, .box t x, ty, pos, af, g⟩ e h K = K (.pointer (some ⟨h.size, 0, none⟩)) (h.push (.row (evalOperand e x).cells.toList t false)) := rfl
def partsE (e : Env) : List (Nat × Operand) → List (Nat × Value)
  | [] => []
  | (i, x) :: l => (i, evalOperand e x) :: partsE e l
theorem partsE_eq (l : List (Nat × Operand)) : l.map (fun (i, x) => (i, evalOperand e x)) = partsE e l := by
  induction l with
  | nil => rfl
  | cons a l ih => rw [List.map_cons, ih]; rfl
theorem partsE_nil : partsE e [] = [] := rfl
theorem partsE_cons (i : Nat) (x : Operand) (l : List (Nat × Operand)) : partsE e ((i, x) :: l) = (i, evalOperand e x) :: partsE e l := rfl
theorem w_build (t : TypeId) (ps : List (Nat × Operand)) : WOp P T ov ⟨d, .build t ⟨ps⟩, ty, pos, af, g⟩ e h K = valE (buildA T t (partsE e ps)) h K := by
  rw [← optE_map, ← partsE_eq]; rfl
theorem w_buildSlice (t : TypeId) (n : Nat) (ps : List (Nat × Operand)) : WOp P T ov ⟨d, .buildSlice t n ⟨ps⟩, ty, pos, af, g⟩ e h K = optE (buildSliceA T t n (partsE e ps) h) K := by
  rw [← partsE_eq]; rfl
theorem w_load (t : TypeId) (x : Operand) : WOp P T ov ⟨d, .load t x, ty, pos, af, g⟩ e h K = valE (loadA T t (evalOperand e x) h) h K := by rw [← optE_map]; rfl
def memE (r : Option Heap) (K : Value → Heap → Prop) : Prop := match r with
  | some h => K undef h
  | none => False
theorem memE_some : memE (some h) K = K undef h := rfl
theorem w_store (t : TypeId) (x y : Operand) : WOp P T ov ⟨d, .store t x y, ty, pos, af, g⟩ e h K = memE (storeA T t (evalOperand e x) (evalOperand e y) h) K := by
  show optE ((storeA T t (evalOperand e x) (evalOperand e y) h).map fun h' => (undef, h')) K = _
  cases storeA T t (evalOperand e x) (evalOperand e y) h <;> rfl
def nilV (v : Value) : Option Value := match v with
  | .pointer (some a) => some (.pointer (some a))
  | .func (.func f) a b => some (.func (.func f) a b)
  | .iface t a => some (.iface t a)
  | _ => none
theorem nilV_ptr (a : Addr) : nilV (.pointer (some a)) = some (.pointer (some a)) := rfl
theorem nilV_func (f : FuncId) (a b : Array Value) : nilV (.func (.func f) a b) = some (.func (.func f) a b) := rfl
theorem w_nilCheck (x : Operand) : WOp P T ov ⟨d, .nilCheck x, ty, pos, af, g⟩ e h K = valE (nilV (evalOperand e x)) h K := by
  show optE (nilE (evalOperand e x) h) K = _
  generalize evalOperand e x = v
  cases v <;> try rfl
  · rename_i p; cases p <;> rfl
  · rename_i f a b; cases f <;> rfl
theorem w_binOp (op : BinOp) (t : TypeId) (x y : Operand) (yt : TypeId) : WOp P T ov ⟨d, .binOp op t x y yt, ty, pos, af, g⟩ e h K = valE (binA P T op t (evalOperand e x) (evalOperand e y)) h K := by rw [← optE_map]; rfl
theorem w_makeFunc (f : FuncId) (fi ca : List Operand) : WOp P T ov ⟨d, .makeFunc (.func f) ⟨fi⟩ ⟨ca⟩, ty, pos, af, g⟩ e h K = K (.func (.func f) ⟨argsE e fi⟩ ⟨argsE e ca⟩) h := by
  rw [← argsE_eq, ← argsE_eq]
  show K (.func (.func f) (Array.map (evalOperand e) ⟨fi⟩) (Array.map (evalOperand e) ⟨ca⟩)) h = _
  congr 2 <;> simp
theorem w_makeSlice (t : TypeId) (l c : Operand) : WOp P T ov ⟨d, .makeSlice t l c, ty, pos, af, g⟩ e h K = optE (makeSliceA T t (evalOperand e l) (evalOperand e c) h) K := rfl
def optV (e : Env) : Option Operand → Option Value
  | some x => some (evalOperand e x)
  | none => none
theorem optV_some (x : Operand) : optV e (some x) = some (evalOperand e x) := rfl
theorem optV_none : optV e none = none := rfl
theorem w_slice (t : TypeId) (x : Operand) (l hi m : Option Operand) : WOp P T ov ⟨d, .slice t x l hi m, ty, pos, af, g⟩ e h K = valE (sliceA T t (evalOperand e x) (optV e l) (optV e hi) (optV e m)) h K := by
  rw [← optE_map]; cases l <;> cases hi <;> cases m <;> rfl
theorem w_fieldAddr (s : TypeId) (x : Operand) (f : Nat) : WOp P T ov ⟨d, .fieldAddr s x f, ty, pos, af, g⟩ e h K = valE (fieldAddrA T s (evalOperand e x) f) h K := by rw [← optE_map]; rfl
theorem w_field (s : TypeId) (x : Operand) (f : Nat) : WOp P T ov ⟨d, .field s x f, ty, pos, af, g⟩ e h K = valE (fieldA T s (evalOperand e x) f) h K := by rw [← optE_map]; rfl
theorem w_indexAddr (t : TypeId) (x i : Operand) : WOp P T ov ⟨d, .indexAddr t x i, ty, pos, af, g⟩ e h K = valE (indexAddrA T t (evalOperand e x) (evalOperand e i)) h K := by rw [← optE_map]; rfl
def tupV (v : Value) (i : Nat) : Option Value := match v with | .tuple vs => vs[i]? | _ => none
theorem tupV_tuple (vs : List Value) (i : Nat) : tupV (.tuple ⟨vs⟩) i = vs[i]? := by simp [tupV]
theorem w_extract (t : Operand) (i : Nat) : WOp P T ov ⟨d, .extract t i, ty, pos, af, g⟩ e h K = valE (tupV (evalOperand e t) i) h K := by
  rw [← optE_map]
  show optE (tupE (evalOperand e t) i h) K = _
  cases evalOperand e t <;> rfl
theorem w_unOp (op : UnOp) (t : TypeId) (x : Operand) : WOp P T ov ⟨d, .unOp op t x, ty, pos, af, g⟩ e h K = optE (pureOp P e ⟨d, .unOp op t x, ty, pos, af, g⟩ h) K := rfl
theorem w_convert (s t : TypeId) (x : Operand) (h1 : isSlice T s = false) (h2 : isSlice T t = false) : WOp P T ov ⟨d, .convert s t x, ty, pos, af, g⟩ e h K = optE (pureOp P e ⟨d, .convert s t x, ty, pos, af, g⟩ h) K := by
  show optE (if isSlice T s then (bytesToA T s t (evalOperand e x) h).map fun r => (r, h) else if isSlice T t then (if isString T s then toBytesA T t (evalOperand e x) h else none) else pureOp P e ⟨d, .convert s t x, ty, pos, af, g⟩ h) K = _
  rw [h1, h2]
  rfl
theorem w_index (t : TypeId) (x i : Operand) : WOp P T ov ⟨d, .index t x i, ty, pos, af, g⟩ e h K = optE (pureOp P e ⟨d, .index t x i, ty, pos, af, g⟩ h) K := rfl
theorem w_len (t : TypeId) (x : Operand) : WOp P T ov ⟨d, .call ⟨.builtin .len, #[x], #[t]⟩, ty, pos, af, g⟩ e h K = valE (lenA T t (evalOperand e x) h) h K := by rw [← optE_map]; rfl
theorem w_append (t u : TypeId) (s x : Operand) (hs : srcTyA T t u = true) : WOp P T ov ⟨d, .call ⟨.builtin .append, #[s, x], #[t, u]⟩, ty, pos, af, g⟩ e h K = optE (appendA T t (evalOperand e s) (evalOperand e x) h) K := by
  show optE (if srcTyA T t u then appendA T t (evalOperand e s) (evalOperand e x) h else none) K = _
  rw [if_pos hs]
theorem w_copy (t u : TypeId) (s x : Operand) : WOp P T ov ⟨d, .call ⟨.builtin .copy, #[s, x], #[t, u]⟩, ty, pos, af, g⟩ e h K = optE (copyA T t (evalOperand e s) (evalOperand e x) h) K := rfl
theorem w_min (x y : Operand) (ats : Array TypeId) : WOp P T ov ⟨d, .call ⟨.builtin .min, #[x, y], ats⟩, ty, pos, af, g⟩ e h K = optE (pureOp P e ⟨d, .call ⟨.builtin .min, #[x, y], ats⟩, ty, pos, af, g⟩ h) K := rfl
theorem w_max (x y : Operand) (ats : Array TypeId) : WOp P T ov ⟨d, .call ⟨.builtin .max, #[x, y], ats⟩, ty, pos, af, g⟩ e h K = optE (pureOp P e ⟨d, .call ⟨.builtin .max, #[x, y], ats⟩, ty, pos, af, g⟩ h) K := rfl
end

def dstAt : List Oper → Nat → Option Tmp
  | [], _ => none
  | o :: _, 0 => o.dst
  | _ :: l, n + 1 => dstAt l n
theorem dstAt_eq : ∀ (l : List Oper) (j : Nat), (l[j]?).bind (·.dst) = dstAt l j
  | [], j => by simp [dstAt]
  | o :: l, 0 => by simp [dstAt]
  | o :: l, j + 1 => by rw [List.getElem?_cons_succ, dstAt_eq l j]; rfl
theorem dstAt_zero (o : Oper) (l : List Oper) : dstAt (o :: l) 0 = o.dst := rfl
theorem dstAt_succ (o : Oper) (l : List Oper) (n : Nat) : dstAt (o :: l) (n + 1) = dstAt l n := rfl
def guardO (t : Option Tmp) (e : Env) (b : Bool) : Bool := match t with | some t => guardE (e.get t) b | none => false
theorem guardO_some (t : Tmp) (e : Env) (b : Bool) : guardO (some t) e b = guardE (e.get t) b := rfl
theorem want_at (ops : List Oper) (d : Option Tmp) (op : Op) (ty : TypeId) (pos : String) (af : Array Edge) (e : Env) (j : Nat) (b : Bool) : wantedA ⟨ops⟩ ⟨d, op, ty, pos, af, some (j, b)⟩ e = guardO (dstAt ops j) e b := by
  rw [← dstAt_eq]
  simp only [wantedA, List.getElem?_toArray]
  cases (ops[j]?).bind (·.dst) <;> rfl
theorem guard_tt : guardE (.bool true) true = true := rfl
theorem guard_ff : guardE (.bool false) false = true := rfl
theorem guard_tf : guardE (.bool true) false = false := rfl
theorem guard_ft : guardE (.bool false) true = false := rfl

def cellO (b : Option Blk) (o : Nat) : Option Value := match b with
  | some (.row cs _ _) => cs[o]?
  | _ => none
theorem cellO_row (cs : List Value) (e : TypeId) (r : Bool) (o : Nat) : cellO (some (.row cs e r)) o = cs[o]? := rfl
def cutO (b : Option Blk) (o n : Nat) : Option Value := match b with
  | some (.row cs _ _) => (cut cs o n).map fun l => .agg l.toArray
  | _ => none
theorem cutO_row (cs : List Value) (e : TypeId) (r : Bool) (o n : Nat) : cutO (some (.row cs e r)) o n = (cut cs o n).map fun l => .agg l.toArray := rfl
theorem load_one {t : TypeId} {A o : Nat} {h : Heap} (hg : aggA T t = some false) : loadA T t (.pointer (some ⟨A, o, none⟩)) h = cellO (h.get A) o := by
  simp only [loadA, hg, Option.bind_some, cellsAt]
  cases h.get A with
  | none => rfl
  | some b =>
    cases b with
    | dead => rfl
    | map es c => rfl
    | loop _ _ _ _ _ _ => rfl
    | row cs e r =>
      simp only [cut, cellO, Bool.false_eq_true, if_false]
      split
      · rename_i hl
        simp [List.getElem?_drop]
      · rename_i hl
        rw [List.getElem?_eq_none (by omega)]; rfl
theorem load_agg {t : TypeId} {A o n : Nat} {h : Heap} (hg : aggA T t = some true) (hs : sizeA T t = some n) : loadA T t (.pointer (some ⟨A, o, none⟩)) h = cutO (h.get A) o n := by
  simp only [loadA, hg, hs, Option.bind_some, cellsAt, if_true]
  cases h.get A with
  | none => rfl
  | some b => cases b <;> rfl
theorem lenA_str {t : TypeId} {s : ByteArray} {h : Heap} (hd : T.desc t = some .string) : lenA T t (.string s) h = some (.int .i64 s.size) := by simp [lenA, hd]
theorem lenA_slice {t e : TypeId} {a : Option Addr} {n c : Nat} {h : Heap} (hd : T.desc t = some (.slice e)) : lenA T t (.slice a n c) h = some (.int .i64 n) := by simp [lenA, hd]
theorem idx_arr {t e : TypeId} {m k : Nat} {A o : Nat} {ik : IntKind} {i : Int} (hd : T.desc t = some (.array m e)) (hs : sizeA T e = some k) :
    indexAddrA T t (.pointer (some ⟨A, o, none⟩)) (.int ik i) = if 0 ≤ i ∧ i < m then some (.pointer (some ⟨A, o + i.toNat * k, none⟩)) else none := by simp [indexAddrA, hd, hs]
theorem idx_slice {t e : TypeId} {k : Nat} {A o n c : Nat} {ik : IntKind} {i : Int} (hd : T.desc t = some (.slice e)) (hs : sizeA T e = some k) :
    indexAddrA T t (.slice (some ⟨A, o, none⟩) n c) (.int ik i) = if 0 ≤ i ∧ i < n then some (.pointer (some ⟨A, o + i.toNat * k, none⟩)) else none := by simp [indexAddrA, hd, hs]
theorem bsl {t e : TypeId} {k b : Nat} {z : List Value} (hd : T.desc t = some (.slice e)) (hi : T.info e = some (k, b, z)) (len : Nat) (parts : List (Nat × Value)) (h : Heap) :
    buildSliceA T t len parts h = if len * k > 16777216 || len > 16777216 then none else (fillA (fun i => some (i * k, k)) (zerosA z len) parts).map fun cs => (.slice (some ⟨h.size, 0, none⟩) len len, h.push (.row cs e false)) := by
  simp [buildSliceA, hd, hi]
theorem fillA_nil (place : Nat → Option (Nat × Nat)) (cells : List Value) : fillA place cells [] = some cells := rfl
theorem fillA_one (cells : List Value) (i k : Nat) (v : Value) (rest : List (Nat × Value)) (h1 : v.cells.size = k) (h2 : i * k + k ≤ cells.length) :
    fillA (fun i => some (i * k, k)) cells ((i, v) :: rest) = fillA (fun i => some (i * k, k)) (splice cells (i * k) v.cells.toList) rest := by
  simp [fillA, h1, h2]
theorem wrap_i64 {i : Int} (h1 : -9223372036854775808 ≤ i) (h2 : i < 9223372036854775808) : IntKind.i64.wrap i = i := by
  show (if (true && decide (i % (2 ^ 64 : Int) ≥ (2 ^ 63 : Int))) = true then i % (2 ^ 64 : Int) - (2 ^ 64 : Int) else i % (2 ^ 64 : Int)) = i
  by_cases hc : i % (2 ^ 64 : Int) ≥ (2 ^ 63 : Int)
  · rw [if_pos (by simpa using hc)]; omega
  · rw [if_neg (by simpa using hc)]; omega

/-! ### A comparison parts the ways at once -/
def forkE (b : Bool) (h : Heap) (K : Value → Heap → Prop) : Prop := (b = true → K (.bool true) h) ∧ (b = false → K (.bool false) h)
theorem valE_bool (b : Bool) (h : Heap) (K : Value → Heap → Prop) : valE (some (.bool b)) h K = forkE b h K := by
  cases b <;> simp [valE, forkE]
theorem forkE_true (h : Heap) (K : Value → Heap → Prop) : forkE true h K = K (.bool true) h := by simp [forkE]
theorem forkE_false (h : Heap) (K : Value → Heap → Prop) : forkE false h K = K (.bool false) h := by simp [forkE]
theorem valE_int (k : IntKind) (i : Int) (h : Heap) (K : Value → Heap → Prop) : valE (some (.int k i)) h K = K (.int k i) h := rfl
theorem valE_str (s : ByteArray) (h : Heap) (K : Value → Heap → Prop) : valE (some (.string s)) h K = K (.string s) h := rfl
theorem valE_ptr (a : Option Addr) (h : Heap) (K : Value → Heap → Prop) : valE (some (.pointer a)) h K = K (.pointer a) h := rfl
theorem valE_slice (a : Option Addr) (n c : Nat) (h : Heap) (K : Value → Heap → Prop) : valE (some (.slice a n c)) h K = K (.slice a n c) h := rfl
theorem valE_agg (cs : Array Value) (h : Heap) (K : Value → Heap → Prop) : valE (some (.agg cs)) h K = K (.agg cs) h := rfl
theorem valE_func (f : FuncId) (a b : Array Value) (h : Heap) (K : Value → Heap → Prop) : valE (some (.func (.func f) a b)) h K = K (.func (.func f) a b) h := rfl

/-! ### One round more -/
theorem WOp.one {o : Oper} {e : Env} {h : Heap} {K : Value → Heap → Prop} (hw : WOp P T ov o e h K) : ∃ v h', K v h' ∧ ∀ K' : Value → Heap → Prop, K' v h' → WOp P T ov o e h K' := by
  unfold WOp at hw
  split at hw
  · rename_i f args ats hop
    split at hw
    · rename_i g fi ca hf
      obtain ⟨n, v, h', h1, h2⟩ := hw
      refine ⟨v, h', h2, fun K' hk => ?_⟩
      unfold WOp
      simp only [hop, hf]
      exact ⟨n, v, h', h1, hk⟩
    · rename_i A fi ca hf
      obtain ⟨hc, n, v, h', h1, h2⟩ := hw
      refine ⟨v, h', h2, fun K' hk => ?_⟩
      unfold WOp
      simp only [hop, hf]
      exact ⟨hc, n, v, h', h1, hk⟩
    · exact hw.elim
  · rename_i r name args ats hop
    split at hw
    · rename_i t x hr
      split at hw
      · rename_i f y hm
        obtain ⟨n, v, h', h1, h2⟩ := hw
        refine ⟨v, h', h2, fun K' hk => ?_⟩
        unfold WOp
        simp only [hop, hr, hm]
        exact ⟨n, v, h', h1, hk⟩
      · exact hw.elim
    · exact hw.elim
  · rename_i hno hno2
    unfold optE at hw
    split at hw
    · rename_i v h' h1
      refine ⟨v, h', hw, fun K' hk => ?_⟩
      unfold WOp
      split
      · rename_i f args ats hop; exact (hno f args ats hop).elim
      · rename_i r name args ats hop; exact (hno2 r name args ats hop).elim
      · rw [h1]; exact hk
    · exact hw.elim
theorem WOps.one {ops : Array Oper} : ∀ (l : List Oper) (e : Env) (h : Heap) (Q : Env → Heap → Prop), WOps P T ov ops l e h Q → ∃ e' h', Q e' h' ∧ ∀ Q' : Env → Heap → Prop, Q' e' h' → WOps P T ov ops l e h Q'
  | [], e, h, Q, hw => ⟨e, h, hw, fun _ hq => hq⟩
  | o :: l, e, h, Q, hw => by
    simp only [WOps, wantE] at hw ⊢
    split at hw
    · rename_i hwt
      obtain ⟨v, h1, h2, h3⟩ := WOp.one hw
      obtain ⟨e', h', h4, h5⟩ := WOps.one l _ _ _ h2
      exact ⟨e', h', h4, fun Q' hq => by rw [if_pos hwt]; exact h3 _ (h5 Q' hq)⟩
    · rename_i hwt
      obtain ⟨e', h', h4, h5⟩ := WOps.one l _ _ _ hw
      exact ⟨e', h', h4, fun Q' hq => by rw [if_neg hwt]; exact h5 Q' hq⟩
theorem WOpsK.one {ops : Array Oper} : ∀ (l : List Oper) (ks : List Nat) (e : Env) (h : Heap) (Q : List Nat → Env → Heap → Prop), WOpsK P T ov ops l ks e h Q → ∃ ks' e' h', Q ks' e' h' ∧ ∀ Q' : List Nat → Env → Heap → Prop, Q' ks' e' h' → WOpsK P T ov ops l ks e h Q'
  | [], ks, e, h, Q, hw => ⟨ks, e, h, hw, fun _ hq => hq⟩
  | o :: l, ks, e, h, Q, hw => by
    simp only [WOpsK, wantE] at hw ⊢
    split at hw
    · rename_i hwt
      obtain ⟨v, h1, h2, h3⟩ := WOp.one hw
      obtain ⟨ks', e', h', h4, h5⟩ := WOpsK.one l _ _ _ _ h2
      exact ⟨ks', e', h', h4, fun Q' hq => by rw [if_pos hwt]; exact h3 _ (h5 Q' hq)⟩
    · rename_i hwt
      obtain ⟨ks', e', h', h4, h5⟩ := WOpsK.one l _ _ _ _ hw
      exact ⟨ks', e', h', h4, fun Q' hq => by rw [if_neg hwt]; exact h5 Q' hq⟩
def roundE (P : Program) (T : Tab) (ov : Ov) (rd : Option Nat) (c : Code) (Q : Ex → Env → Heap → Prop) : Ex → Env → Heap → Prop
  | .normal, e', h' => W P T ov rd (.loop c) e' h' Q
  | .exit i, e', h' => Q (.exit i) e' h'
  | .ret, e', h' => Q .ret e' h'
section
variable {rd : Option Nat}
theorem W.one : ∀ (c : Code) (e : Env) (h : Heap) (Q : Ex → Env → Heap → Prop), W P T ov rd c e h Q → ∃ x e' h', Q x e' h' ∧ ∀ Q' : Ex → Env → Heap → Prop, Q' x e' h' → W P T ov rd c e h Q' := by
  intro c
  induction c with
  | skip => intro e h Q hw; exact ⟨_, _, _, hw, fun _ hq => hq⟩
  | region id ops d =>
    intro e h Q hw
    cases d with
    | false =>
      obtain ⟨e', h', h1, h2⟩ := WOps.one _ _ _ _ hw
      exact ⟨_, e', h', h1, fun Q' hq => h2 _ hq⟩
    | true =>
      obtain ⟨ks, e', h', h1, h2⟩ := WOpsK.one _ _ _ _ _ hw
      exact ⟨_, e', h', h1.2, fun Q' hq => h2 _ ⟨h1.1, hq⟩⟩
  | seq a b iha ihb =>
    intro e h Q hw
    simp only [W] at hw ⊢
    obtain ⟨x, e1, h1, h2, h3⟩ := iha _ _ _ hw
    cases x with
    | normal =>
      obtain ⟨x, e2, h4, h5, h6⟩ := ihb _ _ _ h2
      exact ⟨x, e2, h4, h5, fun Q' hq => h3 _ (h6 Q' hq)⟩
    | exit id => exact ⟨_, e1, h1, h2, fun Q' hq => h3 _ hq⟩
    | ret => exact ⟨_, e1, h1, h2, fun Q' hq => h3 _ hq⟩
  | cond c a b iha ihb =>
    intro e h Q hw
    simp only [W, condE] at hw ⊢
    split at hw
    · rename_i t ht
      cases t with
      | true =>
        obtain ⟨x, e1, h1, h2, h3⟩ := iha _ _ _ (hw.1 rfl)
        exact ⟨x, e1, h1, h2, fun Q' hq => ⟨fun _ => h3 Q' hq, fun hh => nomatch hh⟩⟩
      | false =>
        obtain ⟨x, e1, h1, h2, h3⟩ := ihb _ _ _ (hw.2 rfl)
        exact ⟨x, e1, h1, h2, fun Q' hq => ⟨fun hh => (nomatch hh), fun _ => h3 Q' hq⟩⟩
    · exact hw.elim
  | block id c ih =>
    intro e h Q hw
    simp only [W] at hw ⊢
    obtain ⟨x, e1, h1, h2, h3⟩ := ih _ _ _ hw
    cases x with
    | normal => exact ⟨.normal, e1, h1, h2, fun Q' hq => h3 _ hq⟩
    | exit i =>
      by_cases hi : i = id
      · simp only [if_pos hi] at h2
        exact ⟨.normal, e1, h1, h2, fun Q' hq => h3 _ (by simp only [if_pos hi]; exact hq)⟩
      · simp only [if_neg hi] at h2
        exact ⟨.exit i, e1, h1, h2, fun Q' hq => h3 _ (by simp only [if_neg hi]; exact hq)⟩
    | ret => exact ⟨.ret, e1, h1, h2, fun Q' hq => h3 _ hq⟩
  | loop c ih =>
    intro e h Q hw
    simp only [W] at hw ⊢
    obtain ⟨n, hw⟩ := hw
    induction n generalizing e h with
    | zero => exact hw.elim
    | succ n ihn =>
      simp only [WIter] at hw
      obtain ⟨x, e1, h1, h2, h3⟩ := ih _ _ _ hw
      cases x with
      | normal =>
        obtain ⟨x, e2, h4, h5, h6⟩ := ihn _ _ h2
        refine ⟨x, e2, h4, h5, fun Q' hq => ?_⟩
        obtain ⟨m, hm⟩ := h6 Q' hq
        exact ⟨m + 1, by simp only [WIter]; exact h3 _ hm⟩
      | exit id => exact ⟨.exit id, e1, h1, h2, fun Q' hq => ⟨1, by simp only [WIter]; exact h3 _ hq⟩⟩
      | ret => exact ⟨.ret, e1, h1, h2, fun Q' hq => ⟨1, by simp only [WIter]; exact h3 _ hq⟩⟩
  | exit id => intro e h Q hw; exact ⟨_, _, _, hw, fun _ hq => hq⟩
  | ret => intro e h Q hw; exact ⟨_, _, _, hw, fun _ hq => hq⟩
  | label l => intro e h Q hw; exact ⟨_, _, _, hw, fun _ hq => hq⟩
  | rangeFunc g ps a b _ _ =>
    intro e h Q hw
    simp only [W, rangeE] at hw
    split at hw
    · rename_i f fi ca hg
      obtain ⟨hc, n, v, h1, h2, h3⟩ := hw
      unfold codeE at h3
      split at h3
      · rename_i x e' h' h4
        refine ⟨x, e', h', h3, fun Q' hq => ?_⟩
        simp only [W, rangeE, hg]
        exact ⟨hc, n, v, h1, h2, by show codeE (afterLoop h.size e h1) Q'; rw [h4]; exact hq⟩
      · exact h3.elim
    · exact hw.elim
  | scope c ih => intro e h Q hw; exact ih _ _ _ hw
  | goto l => intro e h Q hw; exact hw.elim
  | refuse s => intro e h Q hw; exact hw.elim
theorem W_unroll {c : Code} {e : Env} {h : Heap} {Q : Ex → Env → Heap → Prop} (hw : W P T ov rd c e h (roundE P T ov rd c Q)) : W P T ov rd (.loop c) e h Q := by
  obtain ⟨x, e1, h1, h2, h3⟩ := W.one _ _ _ _ hw
  simp only [W]
  cases x with
  | normal =>
    simp only [roundE, W] at h2
    obtain ⟨n, hn⟩ := h2
    exact ⟨n + 1, by simp only [WIter]; exact h3 _ hn⟩
  | exit id => exact ⟨1, by simp only [WIter]; exact h3 _ h2⟩
  | ret => exact ⟨1, by simp only [WIter]; exact h3 _ h2⟩
theorem roundE_normal (c : Code) (Q : Ex → Env → Heap → Prop) (e : Env) (h : Heap) : roundE P T ov rd c Q .normal e h = W P T ov rd (.loop c) e h Q := rfl
theorem roundE_exit (c : Code) (Q : Ex → Env → Heap → Prop) (i : Nat) (e : Env) (h : Heap) : roundE P T ov rd c Q (.exit i) e h = Q (.exit i) e h := rfl
theorem roundE_ret (c : Code) (Q : Ex → Env → Heap → Prop) (e : Env) (h : Heap) : roundE P T ov rd c Q .ret e h = Q .ret e h := rfl
end
theorem fin_tmp {fn : Func} {t : Tmp} {K : Value → Heap → Prop} {e : Env} {h : Heap} (hr : fn.results = #[.tmp t]) : finE T fn K .ret e h = K (e.get t) h := by
  simp [finE, resultsA, hr, resultA]
theorem fin_cell {fn : Func} {t : Tmp} {y : TypeId} {K : Value → Heap → Prop} {e : Env} {h : Heap} (hr : fn.results = #[.cell t y]) : finE T fn K .ret e h = valE (loadA T y (e.get t) h) h K := by
  simp only [finE, resultsA, hr, resultA, valE]
  cases loadA T y (e.get t) h <;> simp
theorem fin_two {fn : Func} {t u : Tmp} {K : Value → Heap → Prop} {e : Env} {h : Heap} (hr : fn.results = #[.tmp t, .tmp u]) : finE T fn K .ret e h = K (.tuple #[e.get t, e.get u]) h := by
  simp [finE, resultsA, hr, resultA]
end
noncomputable def ysyms := PLift.up (And.intro @WOps_nil <| And.intro @WOps_cons <| And.intro @stepE_true <| And.intro @stepE_false <| And.intro @KOps_app <| And.intro @W_skip <| And.intro @W_region <| And.intro @normE_app <| And.intro @W_seq <| And.intro @W_block <| And.intro @W_cond <| And.intro @W_exit <| And.intro @W_ret <| And.intro @W_label <| And.intro @thenE_normal <| And.intro @thenE_exit <| And.intro @thenE_ret <| And.intro @blockE_normal <| And.intro @blockE_exit <| And.intro @blockE_ret <| And.intro @loopE_exit <| And.intro @loopE_ret <| And.intro @roundE_normal <| And.intro @roundE_exit <| And.intro @roundE_ret <| And.intro @w_move <| And.intro @w_assign <| And.intro @w_pick <| And.intro @pickV_true <| And.intro @pickV_false <| And.intro @w_box <| And.intro @w_build <| And.intro @partsE_nil <| And.intro @partsE_cons <| And.intro @w_buildSlice <| And.intro @w_load <| And.intro @w_store <| And.intro @memE_some <| And.intro @w_nilCheck <| And.intro @nilV_ptr <| And.intro @nilV_func <| And.intro @w_binOp <| And.intro @w_makeFunc <| And.intro @w_makeSlice <| And.intro @w_slice <| And.intro @optV_some <| And.intro @optV_none <| And.intro @w_fieldAddr <| And.intro @w_field <| And.intro @w_indexAddr <| And.intro @w_extract <| And.intro @tupV_tuple <| And.intro @w_unOp <| And.intro @w_convert <| And.intro @w_index <| And.intro @w_len <| And.intro @w_copy <| And.intro @w_min <| And.intro @w_max <| And.intro @WOp_call <| And.intro @argsE_nil <| And.intro @argsE_cons <| And.intro @callE_func <| And.intro @optE_some <| And.intro @valE_bool <| And.intro @forkE_true <| And.intro @forkE_false <| And.intro @valE_int <| And.intro @valE_str <| And.intro @valE_ptr <| And.intro @valE_slice <| And.intro @valE_agg <| And.intro @valE_func <| And.intro @condE_true <| And.intro @condE_false <| And.intro @want_none <| And.intro @want_at <| And.intro @dstAt_zero <| And.intro @dstAt_succ <| And.intro @guardO_some <| And.intro @guard_tt <| And.intro @guard_tf <| And.intro @guard_ft <| And.intro @guard_ff <| And.intro @bin_add <| And.intro @bin_sub <| And.intro @bin_eql <| And.intro @bin_neq <| And.intro @bin_lss <| And.intro @bin_leq <| And.intro @bin_gtr <| And.intro @bin_geq <| And.intro @lay_push <| And.intro @lay_size <| And.intro @lay_low <| And.intro @lay_get <| And.intro @cellO_row <| And.intro @cutO_row <| @wrap_i64)
theorem syms : type_of% ysyms.down := ysyms.down
theorem vSelf (v : Value) : ∀ (h : Heap) (K : Value → Heap → Prop), valE (some v) h K = K v h := fun _ _ => rfl
end Go.Am
