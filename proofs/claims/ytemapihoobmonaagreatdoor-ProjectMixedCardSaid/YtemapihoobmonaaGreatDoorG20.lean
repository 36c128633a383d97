/- All small steps in one, for simp. No condition. -/
import Derived.Test.YtemapihoobmonaaGreatDoorG12
import Derived.Test.YtemapihoobmonaaGreatDoorG19
import Derived.Test.YtemapihoobmonaaGreatDoorG15
import Derived.Test.YtemapihoobmonaaGreatDoorG17
namespace Go.Am
theorem zoa (b : Bool) : zfN undef b = false := rfl
theorem zuL (e : Env) (d : Nat) (v : Value) : put e (some d) v = Env.set e d v := rfl
theorem zv9 (e : Env) (v : Value) : put e none v = e := rfl
theorem zv7 (v : Value) (r : Env) : Env.get (v :: r) 0 = v := rfl
theorem zvk (v : Value) (r : Env) (n : Nat) : Env.get (v :: r) (n + 1) = Env.get r n := rfl
theorem zu4 (x v : Value) (r : Env) : Env.set (x :: r) 0 v = v :: r := rfl
theorem zwl (x v : Value) (r : Env) (n : Nat) : Env.set (x :: r) (n + 1) v = x :: Env.set r n v := rfl
theorem zyZ (e : Env) (t : Nat) : zaa e (.tmp t) = e.get t := rfl
theorem zuW (e : Env) (v : Value) : zaa e (.const v) = v := rfl
theorem ztR (e : Env) (g : Nat) : zaa e (.global g) = .pointer (some ⟨g, 0, none⟩) := rfl
theorem zxW (e : Env) (f : FuncId) : zaa e (.func f) = .func (.func f) #[] #[] := rfl
theorem zqX (b : Bool) : (Value.bool b).cells = #[.bool b] := rfl
theorem zsz (k : IntKind) (i : Int) : (Value.int k i).cells = #[.int k i] := rfl
theorem zlu (s : ByteArray) : (Value.string s).cells = #[.string s] := rfl
theorem zoB (a : Option Addr) (n c : Nat) : (Value.slice a n c).cells = #[.slice a n c] := rfl
theorem zkB (a : Option Addr) : (Value.pointer a).cells = #[.pointer a] := rfl
theorem ztO (a : Option Nat) : (Value.map a).cells = #[.map a] := rfl
theorem zrB (f : Fn) (a b : Array Value) : (Value.func f a b).cells = #[.func f a b] := rfl
theorem zoD (t : TypeId) (v : Value) : (Value.iface t v).cells = #[.iface t v] := rfl
theorem ztQ (cs : Array Value) : (Value.agg cs).cells = cs := rfl
theorem zuw (z : List Value) (n : Nat) : zbz z n = (List.replicate n z).flatten := rfl
theorem zrn (cs : List Value) (o : Nat) (vs : List Value) : splice cs o vs = cs.take o ++ vs ++ cs.drop (o + vs.length) := rfl
theorem zxf (cs : List Value) (o n : Nat) : cut cs o n = if o + n ≤ cs.length then some ((cs.drop o).take n) else none := rfl
def jr (J : Nat → Value) : Nat → Nat → Env → Env
  | _, 0, r => r
  | a, n + 1, r => J a :: jr J (a + 1) n r
theorem zxk (J : Nat → Value) (a : Nat) (r : Env) : jr J a 0 r = r := rfl
theorem zxS (J : Nat → Value) (a n : Nat) (r : Env) : jr J a (n + 1) r = J a :: jr J (a + 1) n r := rfl
noncomputable def ysymx := PLift.up (And.intro @zxk <| And.intro @zxS <| And.intro @zoa <| And.intro @zuL <| And.intro @zv9 <| And.intro @zv7 <| And.intro @zvk <| And.intro @zu4 <| And.intro @zwl <| And.intro @zyZ <| And.intro @zuW <| And.intro @ztR <| And.intro @zxW <| And.intro @zqX <| And.intro @zsz <| And.intro @zlu <| And.intro @zoB <| And.intro @zkB <| And.intro @ztO <| And.intro @zrB <| And.intro @zoD <| And.intro @ztQ <| And.intro @zuw <| And.intro @zrn <| And.intro @zxf <| And.intro @Option.map_some.{0,0} <| And.intro @Option.bind_some.{0,0} <| And.intro @List.length_cons.{0} <| And.intro @List.length_nil.{0} <| And.intro @List.cons_append.{0} <| And.intro @List.nil_append.{0} <| And.intro @List.getElem?_cons_zero.{0} <| And.intro @List.getElem?_cons_succ.{0} <| And.intro @decide_true <| And.intro @decide_false <| And.intro @Int.cast_ofNat_Int <| And.intro @Int.zero_le_ofNat <| And.intro @Int.le_refl <| And.intro @and_self <| And.intro @and_true <| And.intro @true_and <| And.intro @if_true.{1} <| And.intro @if_false.{1} <| And.intro @Nat.zero_add <| And.intro @Bool.not_true <| And.intro @Bool.not_false <| And.intro @Int.toNat_natCast <| And.intro @zuD <| And.intro @zs8 <| And.intro @List.replicate_zero.{0} <| And.intro @List.replicate_succ.{0} <| And.intro @List.flatten_cons.{0} <| And.intro @List.flatten_nil.{0} <| And.intro @List.take_succ_cons.{0} <| And.intro @List.take_zero.{0} <| And.intro @List.drop_succ_cons.{0} <| And.intro @List.drop_zero.{0} <| And.intro @List.append_nil.{0} <| And.intro @Bool.or_self <| And.intro @Bool.false_eq_true <| And.intro @beq_self_eq_true.{0} <| And.intro @List.size_toArray.{0} <| And.intro @List.append_assoc.{0} <| And.intro @zx3 <| And.intro @zwM <| And.intro @zq1 <| And.intro @zrV <| And.intro @zrI <| And.intro @znu <| And.intro @zmf <| And.intro @zli <| And.intro @zmr <| And.intro @zmq <| And.intro @zmu <| And.intro @zog <| And.intro @zoq <| And.intro @zuq <| And.intro @zau <| @zag)
theorem symx : type_of% ysymx.down := ysymx.down
end Go.Am
namespace Go.Am
set_option linter.unusedVariables false
def resP (s : ByteArray) : Prop := (⟨#[115, 97, 121, 115]⟩ : ByteArray) = s ∨ (⟨#[105, 102]⟩ : ByteArray) = s ∨ (⟨#[99, 97, 110, 115, 97, 121]⟩ : ByteArray) = s ∨ (⟨#[112, 114, 105, 110, 99, 105, 112, 97, 108]⟩ : ByteArray) = s ∨ (⟨#[112, 114, 101, 100]⟩ : ByteArray) = s ∨ (⟨#[99, 108, 101, 97, 114]⟩ : ByteArray) = s ∨ (⟨#[113, 117, 111, 116, 97]⟩ : ByteArray) = s ∨ (⟨#[98, 117, 100, 103, 101, 116]⟩ : ByteArray) = s
structure lowX (s : ByteArray) : Prop where
  pos : 1 ≤ s.size
  len : s.size ≤ 255
  first : zbp s 0 ≠ 95
  all : ∀ i, i < s.size → zf5 (zbp s i)
def constX (s : ByteArray) : Prop := lowX s ∧ ¬ resP s
def zoQ (s : ByteArray) : Prop := constX s ∧ (97 ≤ zbp s 0 ∧ zbp s 0 ≤ 122)
structure varX (s : ByteArray) : Prop where
  pos : 1 ≤ s.size
  len : s.size ≤ 255
  first : 65 ≤ zbp s 0 ∧ zbp s 0 ≤ 90
  all : ∀ i, i < s.size → okCh (zbp s i)
def termX (t : TermD) : Prop := if t.v = true then varX t.s else constX t.s
structure ValidX (a : AtomD) : Prop where
  says : zoQ a.says
  pred : zoQ a.pred
  lo : 0 ≤ a.n
  hi : a.n ≤ 4
  terms : ∀ i : Nat, (i : Int) < a.n → termX (a.arg i)
  rest : ∀ i : Nat, a.n ≤ (i : Int) → i < 4 → a.arg i = zdh
theorem constX.low {s : ByteArray} (h : constX s) : zgP s := ⟨h.1.pos, h.1.all⟩
theorem termX.ok {t : TermD} (h : termX t) : zks t := by
  unfold termX at h
  unfold zks
  split at h
  · rename_i hv
    rw [hv]
    exact ⟨h.pos, h.first, h.all⟩
  · rename_i hv
    rw [show t.v = false by simpa using hv]
    exact h.low
theorem ValidX.valid {a : AtomD} (h : ValidX a) : ValidD a := ⟨h.says.1.low, h.pred.1.low, h.lo, h.hi, fun i hi => (h.terms i hi).ok, h.rest⟩
def zyf (a : AtomD) (x : ByteArray) : Prop := ∃ i : Nat, i < 4 ∧ (i : Int) < a.n ∧ (a.arg i).v = true ∧ (a.arg i).s = x
structure OneX (c : ClauseD) : Prop where
  head : ValidX c.head
  body : ∀ b ∈ c.body, ValidX b
  ranged : ∀ x, zyf c.head x → ∃ b ∈ c.body, zyf b x
structure FactX (a : AtomD) : Prop where
  valid : ValidX a
  ground : a.ground = true
structure MayX (cl : List ClauseD) (facts : List AtomD) : Prop where
  clauses : ∀ c ∈ cl, OneX c
  facts : ∀ a ∈ facts, FactX a
theorem arg_mem {a : AtomD} {t : TermD} : t ∈ a.args ↔ ∃ i : Nat, i < a.cnt ∧ a.arg i = t := by
  have h4 : a.cnt = 0 ∨ a.cnt = 1 ∨ a.cnt = 2 ∨ a.cnt = 3 ∨ a.cnt = 4 := by unfold AtomD.cnt; omega
  unfold AtomD.args
  have one : ∀ {n : Nat} {P : Nat → Prop}, (∃ i, i < n + 1 ∧ P i) ↔ (∃ i, i < n ∧ P i) ∨ P n := by
    intro n P
    constructor
    · rintro ⟨i, hi, hp⟩
      by_cases e : i = n
      · subst e; exact .inr hp
      · exact .inl ⟨i, by omega, hp⟩
    · rintro (⟨i, hi, hp⟩ | hp)
      · exact ⟨i, by omega, hp⟩
      · exact ⟨n, by omega, hp⟩
  rcases h4 with e | e | e | e | e <;> rw [e] <;> simp [one, AtomD.arg, eq_comm, or_assoc]
theorem ground_iff {a : AtomD} : a.ground = true ↔ ∀ i : Nat, i < a.cnt → (a.arg i).v = false := by
  unfold AtomD.ground
  rw [Bool.not_eq_true', List.any_eq_false]
  constructor
  · intro h i hi
    have := h (a.arg i) (arg_mem.2 ⟨i, hi, rfl⟩)
    simpa using this
  · intro h t ht
    obtain ⟨i, hi, rfl⟩ := arg_mem.1 ht
    simpa using h i hi
theorem cnt_lt {a : AtomD} {i : Nat} : i < a.cnt ↔ i < 4 ∧ (i : Int) < a.n := by
  unfold AtomD.cnt
  omega
theorem varIn_iff {a : AtomD} {x : ByteArray} : zyf a x ↔ ∃ i : Nat, i < a.cnt ∧ (a.arg i).v = true ∧ (a.arg i).s = x := by
  constructor
  · rintro ⟨i, h1, h2, h3, h4⟩
    exact ⟨i, cnt_lt.2 ⟨h1, h2⟩, h3, h4⟩
  · rintro ⟨i, h1, h3, h4⟩
    exact ⟨i, (cnt_lt.1 h1).1, (cnt_lt.1 h1).2, h3, h4⟩
end Go.Am
namespace Go.Am
open Go.Op
set_option linter.unusedVariables false
set_option linter.unusedSimpArgs false
/-! ### Operations on bits -/
section
variable {P : Program} {T : Tab} {t : TypeId}
theorem zle {n : Int} (h0 : 0 ≤ n) (h1 : n < 18446744073709551616) : IntKind.u64.wrap n = n := by
  unfold IntKind.wrap
  have e : (2 : Int) ^ IntKind.u64.bits = 18446744073709551616 := by decide
  have e2 : IntKind.u64.signed = false := rfl
  rw [e, e2]
  simp only [Bool.false_and]
  rw [if_neg (by decide)]
  omega
theorem zpt {n : Int} (h0 : 0 ≤ n) (h1 : n < 4294967296) : IntKind.u32.wrap n = n := by
  unfold IntKind.wrap
  have e : (2 : Int) ^ IntKind.u32.bits = 4294967296 := by decide
  have e2 : IntKind.u32.signed = false := rfl
  rw [e, e2]
  simp only [Bool.false_and]
  rw [if_neg (by decide)]
  omega
theorem zs5 {n : Int} (h0 : 0 ≤ n) (h1 : n < 256) : IntKind.u8.wrap n = n := by
  unfold IntKind.wrap
  have e : (2 : Int) ^ IntKind.u8.bits = 256 := by decide
  have e2 : IntKind.u8.signed = false := rfl
  rw [e, e2]
  simp only [Bool.false_and]
  rw [if_neg (by decide)]
  omega
theorem zkp {op : BinOp} {k k2 : IntKind} {a b : Int} {v : Value} (hf : zbO op (.int k a) (.int k2 b) = none) (hp : zaw P (binOp op t (.int k a) (.int k2 b)) = some v) (hv : plain v = true) : binA P T op t (.int k a) (.int k2 b) = some v := by
  have h1 : ((T.desc t).bind fun d => zkk d (.int k a) (.int k2 b)) = none := by
    cases T.desc t with
    | none => rfl
    | some d => cases d <;> rfl
  unfold binA
  rw [hf]
  simp only [h1, hp]
  rw [if_pos (by rfl)]
  simp [hv]
theorem zfX {w : Nat} (a : Nat) : BitVec.ofInt w (a : Int) = BitVec.ofNat w a := BitVec.ofInt_natCast w a
theorem zvr {a b : Nat} (ha : a < 18446744073709551616) (hb : b < 18446744073709551616) : binA P T .or t (.int .u64 a) (.int .u64 b) = some (.int .u64 ((a ||| b : Nat) : Int)) := by
  refine zkp rfl ?_ rfl
  have e : (BitVec.ofInt IntKind.u64.bits (a : Int) ||| BitVec.ofInt IntKind.u64.bits (b : Int)).toNat = a ||| b := by
    rw [BitVec.toNat_or, zfX, zfX]
    show (BitVec.ofNat 64 a).toNat ||| (BitVec.ofNat 64 b).toNat = _
    rw [BitVec.toNat_ofNat, BitVec.toNat_ofNat, Nat.mod_eq_of_lt ha, Nat.mod_eq_of_lt hb]
  have hlt : a ||| b < 18446744073709551616 := Nat.or_lt_two_pow (n := 64) ha hb
  show zaw P (Pure.pure (Value.int .u64 (IntKind.u64.wrap ((BitVec.ofInt IntKind.u64.bits (a : Int) ||| BitVec.ofInt IntKind.u64.bits (b : Int)).toNat : Int)))) = _
  rw [e, zle (by omega) (by omega)]
  exact zcL _
theorem zvK {a b : Nat} (ha : a < 256) (hb : b < 256) : binA P T .and t (.int .u8 a) (.int .u8 b) = some (.int .u8 ((a &&& b : Nat) : Int)) := by
  refine zkp rfl ?_ rfl
  have e : (BitVec.ofInt IntKind.u8.bits (a : Int) &&& BitVec.ofInt IntKind.u8.bits (b : Int)).toNat = a &&& b := by
    rw [BitVec.toNat_and, zfX, zfX]
    show (BitVec.ofNat 8 a).toNat &&& (BitVec.ofNat 8 b).toNat = _
    rw [BitVec.toNat_ofNat, BitVec.toNat_ofNat, Nat.mod_eq_of_lt ha, Nat.mod_eq_of_lt hb]
  have hlt : a &&& b < 256 := Nat.lt_of_le_of_lt Nat.and_le_left ha
  show zaw P (Pure.pure (Value.int .u8 (IntKind.u8.wrap ((BitVec.ofInt IntKind.u8.bits (a : Int) &&& BitVec.ofInt IntKind.u8.bits (b : Int)).toNat : Int)))) = _
  rw [e, zs5 (by omega) (by omega)]
  exact zcL _
theorem zoR {a : Nat} (ha : a < 256) : binA P T .andNot t (.int .u8 a) (.int .u8 128) = some (.int .u8 ((a % 128 : Nat) : Int)) := by
  refine zkp rfl ?_ rfl
  have e : (BitVec.ofInt IntKind.u8.bits (a : Int) &&& ~~~ BitVec.ofInt IntKind.u8.bits (128 : Int)).toNat = a % 128 := by
    rw [zfX]
    show (BitVec.ofNat 8 a &&& ~~~ BitVec.ofInt 8 128).toNat = a % 128
    rw [show ~~~ BitVec.ofInt 8 128 = BitVec.ofNat 8 127 from by decide, BitVec.toNat_and, BitVec.toNat_ofNat, BitVec.toNat_ofNat]
    show a % 256 &&& 127 = a % 128
    rw [Nat.mod_eq_of_lt ha]
    exact Nat.and_two_pow_sub_one_eq_mod a 7
  show zaw P (Pure.pure (Value.int .u8 (IntKind.u8.wrap ((BitVec.ofInt IntKind.u8.bits (a : Int) &&& ~~~ BitVec.ofInt IntKind.u8.bits (128 : Int)).toNat : Int)))) = _
  rw [e, zs5 (by omega) (by omega)]
  exact zcL _
theorem ztf {k2 : IntKind} {a n : Nat} (hn : n ≤ 64) (h : a * 2 ^ n < 18446744073709551616) : binA P T .shl t (.int .u64 a) (.int k2 n) = some (.int .u64 ((a * 2 ^ n : Nat) : Int)) := by
  refine zkp rfl ?_ rfl
  have e1 : ¬ ((n : Int) < 0) := by omega
  have e2 : min ((n : Int)).toNat IntKind.u64.bits = n := by rw [Int.toNat_natCast]; exact Nat.min_eq_left hn
  have e3 : IntKind.u64.wrap ((a : Int) * 2 ^ n) = ((a * 2 ^ n : Nat) : Int) := by
    rw [show ((a : Int) * 2 ^ n) = ((a * 2 ^ n : Nat) : Int) by push_cast; rfl]
    exact zle (by omega) (by omega)
  unfold binOp
  simp only [Op.shift]
  rw [if_neg e1, e2]
  simp only [e3, zcL]
end
/-! ### Numbers -/
def zbG (s : ByteArray) (i : Nat) : Nat := ((s[i]?).getD 0).toNat
theorem zf1 (s : ByteArray) (i : Nat) : zbp s i = (zbG s i : Int) := rfl
theorem zkT (s : ByteArray) (i : Nat) : zbG s i < 256 := UInt8.toNat_lt _
theorem zxE {a : Nat} (h : a < 256) : a &&& 128 = if a < 128 then 0 else 128 := by
  apply Nat.eq_of_testBit_eq
  intro j
  have e : (128 : Nat) = 2 ^ 7 := by decide
  rw [Nat.testBit_and, e, Nat.testBit_two_pow]
  by_cases hj : 7 = j
  · subst hj
    by_cases hl : a < 2 ^ 7
    · rw [if_pos hl, Nat.testBit_lt_two_pow hl]; rfl
    · rw [if_neg hl, Nat.testBit_two_pow]
      rw [Nat.testBit_eq_decide_div_mod_eq, show a / 2 ^ 7 % 2 = 1 by omega]
      rfl
  · rw [decide_eq_false hj, Bool.and_false]
    by_cases hl : a < 2 ^ 7
    · rw [if_pos hl, Nat.zero_testBit]
    · rw [if_neg hl, Nat.testBit_two_pow, decide_eq_false hj]
def accN (s : ByteArray) : Nat → Nat
  | 0 => 0
  | i + 1 => accN s i ||| (zbG s i % 128 * 2 ^ (7 * i))
theorem znS (s : ByteArray) : ∀ i, accN s i < 2 ^ (7 * i)
  | 0 => by show 0 < 1; omega
  | i + 1 => by
    have h1 := znS s i
    have h2 : zbG s i % 128 < 128 := Nat.mod_lt _ (by decide)
    have e : (2 : Nat) ^ (7 * (i + 1)) = 128 * 2 ^ (7 * i) := by rw [show 7 * (i + 1) = 7 * i + 7 by omega, Nat.pow_add]; omega
    refine Nat.or_lt_two_pow ?_ ?_
    · rw [e]; have := Nat.two_pow_pos (7 * i); omega
    · rw [e]; exact Nat.mul_lt_mul_of_pos_right h2 (Nat.two_pow_pos _)
def endN (s : ByteArray) : Option Nat := (List.range (min s.size 5)).find? (fun i => decide (zbG s i < 128))
def numD (s : ByteArray) : Option (Nat × Nat) := match endN s with
  | none => none
  | some i => if accN s (i + 1) > 4294967295 ∨ (0 < i ∧ zbG s i = 0) then none else some (accN s (i + 1), i + 1)
theorem zts {s : ByteArray} (h : ∀ j, j < min s.size 5 → 128 ≤ zbG s j) : endN s = none := by
  unfold endN
  rw [List.find?_eq_none]
  intro i hi
  have := h i (List.mem_range.1 hi)
  simp; omega
theorem ztj {s : ByteArray} {i : Nat} (hi : i < min s.size 5) (h : ∀ j, j < i → 128 ≤ zbG s j) (hb : zbG s i < 128) : endN s = some i := by
  unfold endN
  rw [List.find?_range_eq_some]
  refine ⟨by simpa using hb, List.mem_range.2 hi, fun j hj => by simpa using h j hj⟩
end Go.Am
