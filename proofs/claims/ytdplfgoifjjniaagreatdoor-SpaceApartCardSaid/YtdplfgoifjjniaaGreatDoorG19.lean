/- All small steps in one, for simp. No condition. -/
import Derived.Test.YtdplfgoifjjniaaGreatDoorG11
import Derived.Test.YtdplfgoifjjniaaGreatDoorG18
import Derived.Test.YtdplfgoifjjniaaGreatDoorG14
namespace Go.Am
theorem znL (b:Bool):zgQ undef b=false:=rfl
theorem zyg (e:Env) (d:Nat) (v:Value):put e (some d) v=Env.set e d v:=rfl
theorem zyt (e:Env) (v:Value):put e none v=e:=rfl
theorem zwZ (v:Value) (r:Env):Env.get (v::r) 0=v:=rfl
theorem zv2 (v:Value) (r:Env) (n:Nat):Env.get (v::r) (n+1)=Env.get r n:=rfl
theorem zws (x v:Value) (r:Env):Env.set (x::r) 0 v=v::r:=rfl
theorem zvo (x v:Value) (r:Env) (n:Nat):Env.set (x::r) (n+1) v=x::Env.set r n v:=rfl
theorem zCT (e:Env) (t:Nat):zab e (.tmp t)=e.get t:=rfl
theorem zw4 (e:Env) (v:Value):zab e (.const v)=v:=rfl
theorem zu2 (e:Env) (g:Nat):zab e (.global g)=.pointer (some ⟨g,0,none⟩):=rfl
theorem zAs (e:Env) (f:FuncId):zab e (.func f)=.func (.func f) #[] #[]:=rfl
theorem zq1 (b:Bool):(Value.bool b).cells=#[.bool b]:=rfl
theorem zs4 (k:IntKind) (i:Int):(Value.int k i).cells=#[.int k i]:=rfl
theorem zmZ (s:ByteArray):(Value.string s).cells=#[.string s]:=rfl
theorem zoy (a:Option Addr) (n c:Nat):(Value.slice a n c).cells=#[.slice a n c]:=rfl
theorem zk9 (a:Option Addr):(Value.pointer a).cells=#[.pointer a]:=rfl
theorem zuZ (a:Option Nat):(Value.map a).cells=#[.map a]:=rfl
theorem zqI (f:Fn) (a b:Array Value):(Value.func f a b).cells=#[.func f a b]:=rfl
theorem zoh (t:TypeId) (v:Value):(Value.iface t v).cells=#[.iface t v]:=rfl
theorem zsH (cs:Array Value):(Value.agg cs).cells=cs:=rfl
theorem zun (z:List Value) (n:Nat):zbp z n=(List.replicate n z).flatten:=rfl
theorem zri (cs:List Value) (o:Nat) (vs:List Value):splice cs o vs=cs.take o++vs++cs.drop (o+vs.length):=rfl
theorem zAq (cs:List Value) (o n:Nat):cut cs o n=if o+n≤cs.length then some ((cs.drop o).take n) else none:=rfl
def jr (J:Nat→Value):Nat→Nat→Env→Env
 |_,0,r=>r
 |a,n+1,r=>J a::jr J (a+1) n r
theorem zBQ (J:Nat→Value) (a:Nat) (r:Env):jr J a 0 r=r:=rfl
theorem zBe (J:Nat→Value) (a n:Nat) (r:Env):jr J a (n+1) r=J a::jr J (a+1) n r:=rfl
noncomputable def ysymx:=PLift.up (And.intro @zBQ <| And.intro @zBe <| And.intro @znL <| And.intro @zyg <| And.intro @zyt <| And.intro @zwZ <| And.intro @zv2 <| And.intro @zws <| And.intro @zvo <| And.intro @zCT <| And.intro @zw4 <| And.intro @zu2 <| And.intro @zAs <| And.intro @zq1 <| And.intro @zs4 <| And.intro @zmZ <| And.intro @zoy <| And.intro @zk9 <| And.intro @zuZ <| And.intro @zqI <| And.intro @zoh <| And.intro @zsH <| And.intro @zun <| And.intro @zri <| And.intro @zAq <| And.intro @Option.map_some.{0,0} <| And.intro @Option.bind_some.{0,0} <| And.intro @List.length_cons.{0} <| And.intro @List.length_nil.{0} <| And.intro @List.cons_append.{0} <| And.intro @List.nil_append.{0} <| And.intro @List.getElem?_cons_zero.{0} <| And.intro @List.getElem?_cons_succ.{0} <| And.intro @decide_true <| And.intro @decide_false <| And.intro @Int.cast_ofNat_Int <| And.intro @Int.zero_le_ofNat <| And.intro @Int.le_refl <| And.intro @and_self <| And.intro @and_true <| And.intro @true_and <| And.intro @if_true.{1} <| And.intro @if_false.{1} <| And.intro @Nat.zero_add <| And.intro @Bool.not_true <| And.intro @Bool.not_false <| And.intro @Int.toNat_natCast <| And.intro @zr9 <| And.intro @zuB <| And.intro @List.replicate_zero.{0} <| And.intro @List.replicate_succ.{0} <| And.intro @List.flatten_cons.{0} <| And.intro @List.flatten_nil.{0} <| And.intro @List.take_succ_cons.{0} <| And.intro @List.take_zero.{0} <| And.intro @List.drop_succ_cons.{0} <| And.intro @List.drop_zero.{0} <| And.intro @List.append_nil.{0} <| And.intro @Bool.or_self <| And.intro @Bool.false_eq_true <| And.intro @beq_self_eq_true.{0} <| And.intro @List.size_toArray.{0} <| And.intro @List.append_assoc.{0} <| And.intro @zAm <| And.intro @zBq <| And.intro @zqJ <| And.intro @ztW <| And.intro @ztn <| And.intro @zn4 <| And.intro @znp <| And.intro @zkH <| And.intro @zmO <| And.intro @zny <| And.intro @zlQ <| And.intro @zo1 <| And.intro @zok <| And.intro @zsu <| And.intro @zat <| @zad)
theorem symx:type_of% ysymx.down:=ysymx.down
end Go.Am
namespace Go.Am
set_option linter.unusedVariables false
def resP (s:ByteArray):Prop:=(⟨#[115,97,121,115]⟩:ByteArray)=s∨(⟨#[105,102]⟩:ByteArray)=s∨(⟨#[99,97,110,115,97,121]⟩:ByteArray)=s∨(⟨#[112,114,105,110,99,105,112,97,108]⟩:ByteArray)=s∨(⟨#[112,114,101,100]⟩:ByteArray)=s∨(⟨#[99,108,101,97,114]⟩:ByteArray)=s∨(⟨#[113,117,111,116,97]⟩:ByteArray)=s∨(⟨#[98,117,100,103,101,116]⟩:ByteArray)=s
structure lowX (s:ByteArray):Prop where
 pos:1≤s.size
 len:s.size≤255
 first:zb1 s 0≠95
 all:∀ i,i < s.size→zgN (zb1 s i)
def constX (s:ByteArray):Prop:=lowX s∧¬ resP s
def zeQ (s:ByteArray):Prop:=constX s∧(97≤zb1 s 0∧zb1 s 0≤122)
structure varX (s:ByteArray):Prop where
 pos:1≤s.size
 len:s.size≤255
 first:65≤zb1 s 0∧zb1 s 0≤90
 all:∀ i,i < s.size→okCh (zb1 s i)
def termX (t:TermD):Prop:=if t.v=true then varX t.s else constX t.s
structure ValidX (a:AtomD):Prop where
 says:zeQ a.says
 pred:zeQ a.pred
 lo:0≤a.n
 hi:a.n≤4
 terms:∀ i:Nat,(i:Int) < a.n→termX (a.arg i)
 rest:∀ i:Nat,a.n≤(i:Int)→i < 4→a.arg i=zcl
theorem constX.low {s:ByteArray} (h:constX s):zhf s:=⟨h.1.pos,h.1.all⟩
theorem termX.ok {t:TermD} (h:termX t):zlb t:=by
 unfold termX at h
 unfold zlb
 split at h
 ·rename_i hv
  rw [hv]
  exact ⟨h.pos,h.first,h.all⟩
 ·rename_i hv
  rw [show t.v=false by simpa using hv]
  exact h.low
theorem ValidX.valid {a:AtomD} (h:ValidX a):ValidD a:=⟨h.says.1.low,h.pred.1.low,h.lo,h.hi,fun i hi=>(h.terms i hi).ok,h.rest⟩
def zlq (a:AtomD) (x:ByteArray):Prop:=∃ i:Nat,i < 4∧(i:Int) < a.n∧(a.arg i).v=true∧(a.arg i).s=x
structure OneX (c:ClauseD):Prop where
 head:ValidX c.head
 body:∀ b∈c.body,ValidX b
 ranged:∀ x,zlq c.head x→∃ b∈c.body,zlq b x
structure FactX (a:AtomD):Prop where
 valid:ValidX a
 ground:a.ground=true
structure MayX (cl:List ClauseD) (facts:List AtomD):Prop where
 clauses:∀ c∈cl,OneX c
 facts:∀ a∈facts,FactX a
theorem arg_mem {a:AtomD} {t:TermD}:t∈a.args↔∃ i:Nat,i < a.cnt∧a.arg i=t:=by
 have h4:a.cnt=0∨a.cnt=1∨a.cnt=2∨a.cnt=3∨a.cnt=4:=by unfold AtomD.cnt;omega
 unfold AtomD.args
 have one:∀ {n:Nat} {P:Nat→Prop},(∃ i,i < n+1∧P i)↔(∃ i,i < n∧P i)∨P n:=by
  intro n P
  constructor
  ·rintro ⟨i,hi,hp⟩
   by_cases e:i=n
   ·subst e;exact .inr hp
   ·exact .inl ⟨i,by omega,hp⟩
  ·rintro (⟨i,hi,hp⟩|hp)
   ·exact ⟨i,by omega,hp⟩
   ·exact ⟨n,by omega,hp⟩
 rcases h4 with e|e|e|e|e <;> rw [e] <;> simp [one,AtomD.arg,eq_comm,or_assoc]
theorem ground_iff {a:AtomD}:a.ground=true↔∀ i:Nat,i < a.cnt→(a.arg i).v=false:=by
 unfold AtomD.ground
 rw [Bool.not_eq_true',List.any_eq_false]
 constructor
 ·intro h i hi
  have:=h (a.arg i) (arg_mem.2 ⟨i,hi,rfl⟩)
  simpa using this
 ·intro h t ht
  obtain ⟨i,hi,rfl⟩:=arg_mem.1 ht
  simpa using h i hi
theorem cnt_lt {a:AtomD} {i:Nat}:i < a.cnt↔i < 4∧(i:Int) < a.n:=by
 unfold AtomD.cnt
 omega
theorem varIn_iff {a:AtomD} {x:ByteArray}:zlq a x↔∃ i:Nat,i < a.cnt∧(a.arg i).v=true∧(a.arg i).s=x:=by
 constructor
 ·rintro ⟨i,h1,h2,h3,h4⟩
  exact ⟨i,cnt_lt.2 ⟨h1,h2⟩,h3,h4⟩
 ·rintro ⟨i,h1,h3,h4⟩
  exact ⟨i,(cnt_lt.1 h1).1,(cnt_lt.1 h1).2,h3,h4⟩
theorem zt5 {T:Tab} {t u:TypeId} {w n i:Nat} {cs vs:List Value} {v:Value} {h1:Heap} {bs:List Blk} {K:Value→Heap→Prop} (hb:bs[i]? = some (.row cs u false)) (hs:zay T t=some n) (hc:cs.length=n) (hv:v.cells.toList=vs) (hl:vs.length=n) (hv1:vs.all one=true)
 (hK:K undef (h1.lay (bs.set i (.row vs u false)) (min w (h1.size+i)))):memE (za8 T t (.pointer (some ⟨h1.size+i,0,none⟩)) v (h1.lay bs w)) K:=by
 have hi:=(List.getElem?_eq_some_iff.1 hb).1
 have hg:(h1.lay bs w).get (h1.size+i)=some (.row cs u false):=by rw [zbj];exact hb
 have hsz:v.cells.size=n:=by rw [← Array.length_toList,hv,hl]
 have hsp:splice cs 0 vs=vs:=by
  unfold splice
  rw [List.take_zero,List.nil_append,List.drop_eq_nil_of_le (by omega),List.append_nil]
 have he:za8 T t (.pointer (some ⟨h1.size+i,0,none⟩)) v (h1.lay bs w)=some ((h1.lay bs w).set (h1.size+i) (.row vs u false)):=by
  unfold za8
  simp only [hs,Option.bind_some]
  rw [if_pos hsz,hv]
  unfold zbV
  rw [hg]
  simp only
  rw [if_pos (by simp only [Bool.and_eq_true,decide_eq_true_eq];exact ⟨by omega,hv1⟩),hsp]
 rw [he,zbI _ _ _ _ _ hi]
 exact hK
end Go.Am
namespace Go.Am
set_option linter.unusedVariables false
open Classical in
def zbh:List Int→Int
 | []=>0
 |e::l=>if e=0 then zbh l else e
theorem zrr:zbh []=0:=rfl
theorem zen (e:Int) (l:List Int):zbh (e::l)=if e=0 then zbh l else e:=rfl
theorem firstE_zero {l:List Int}:zbh l=0↔∀ e∈l,e=0:=by
 induction l with
 |nil=>simp [zbh]
 |cons e l ih =>
  rw [zen]
  by_cases h:e=0
  ·rw [if_pos h,ih];simp [h]
  ·rw [if_neg h];simp [h]
def notE (b:Bool) (e:Int):Int:=if b then e else 0
theorem zgL {b:Bool} {e:Int} (h:e≠0):notE b e=0↔b=false:=by cases b <;> simp [notE,h]
def zbX {α:Type} (f:List α→α→Int):List α→List α→Int
 |_,[]=>0
 |pre,x::l=>if f pre x=0 then zbX f (pre++[x]) l else f pre x
theorem zbi {α:Type} {f:List α→α→Int} {l:List α} {i:Nat} {x:α} (hx:l[i]? = some x):zbX f (l.take i) (l.drop i)=if f (l.take i) x=0 then zbX f (l.take (i+1)) (l.drop (i+1)) else f (l.take i) x:=by
 have hi:=List.getElem?_eq_some_iff.1 hx
 rw [List.drop_eq_getElem_cons hi.1,hi.2,List.take_add_one,hx]
 rfl
theorem zdB {α:Type} {f:List α→α→Int} {l:List α} {i:Nat} (hi:l.length≤i):zbX f (l.take i) (l.drop i)=0:=by
 rw [List.drop_of_length_le hi];rfl
theorem eachE_zero {α:Type} {f:List α→α→Int}:∀ {l pre:List α},zbX f pre l=0↔∀ i x,l[i]? = some x→f (pre++l.take i) x=0
 | [],pre=>by simp [zbX]
 |y::l,pre=>by
  unfold zbX
  by_cases h:f pre y=0
  ·rw [if_pos h,eachE_zero]
   constructor
   ·intro g i x hx
    cases i with
    |zero=>simp at hx;subst hx;simpa using h
    |succ i=>have:=g i x (by simpa using hx);simpa using this
   ·intro g i x hx
    have:=g (i+1) x (by simpa using hx)
    simpa using this
  ·rw [if_neg h]
   constructor
   ·intro g;exact absurd g h
   ·intro g;exact absurd (by simpa using g 0 y rfl) h
/-! ### Atoms -/
open Classical in
noncomputable def zeo (s:ByteArray):Bool:=decide (zeQ s)
open Classical in
noncomputable def zsd (t:TermD):Bool := !decide (termX t)
noncomputable def zeh (a:AtomD):Int :=
 if zeo a.says && zeo a.pred then (if a.n < 0∨4 < a.n then 4 else if a.args.any zsd then 3 else if (a.all.drop a.cnt).any (fun t => !decide (t=zcl)) then 15 else 0) else 3
theorem prinB_iff {s:ByteArray}:zeo s=true↔zeQ s:=by unfold zeo;simp
theorem zmc {s:ByteArray} (h:¬ zeQ s):zeo s=false:=by unfold zeo;simp [h]
theorem zkc {a:AtomD} (h:¬ zeQ a.says∨¬ zeQ a.pred):zeh a=3:=by
 unfold zeh
 rw [if_neg]
 rw [Bool.and_eq_true,prinB_iff,prinB_iff]
 exact fun x=>h.elim (fun y=>y x.1) (fun y=>y x.2)
theorem ztA {a:AtomD} (h1:zeQ a.says) (h2:zeQ a.pred) (h:a.n < 0∨4 < a.n):zeh a=4:=by
 unfold zeh
 rw [if_pos (by rw [Bool.and_eq_true,prinB_iff,prinB_iff];exact ⟨h1,h2⟩),if_pos h]
theorem zrv {a:AtomD} (h1:zeQ a.says) (h2:zeQ a.pred) (h3:¬ (a.n < 0∨4 < a.n)) (h:a.args.any zsd=true):zeh a=3:=by
 unfold zeh
 rw [if_pos (by rw [Bool.and_eq_true,prinB_iff,prinB_iff];exact ⟨h1,h2⟩),if_neg h3,if_pos h]
theorem zrj {a:AtomD} (h1:zeQ a.says) (h2:zeQ a.pred) (h3:¬ (a.n < 0∨4 < a.n)) (h4:a.args.any zsd=false):zeh a=if (a.all.drop a.cnt).any (fun t => !decide (t=zcl)) then 15 else 0:=by
 unfold zeh
 rw [if_pos (by rw [Bool.and_eq_true,prinB_iff,prinB_iff];exact ⟨h1,h2⟩),if_neg h3,if_neg (by rw [h4];decide)]
def hasP (l:List ByteArray) (s:ByteArray):Bool:=l.any fun x=>decide (s=x)
theorem hasP_iff {l:List ByteArray} {s:ByteArray}:hasP l s=true↔s∈l:=by
 unfold hasP
 rw [List.any_eq_true]
 exact ⟨fun ⟨x,hx,e⟩=>by rw [of_decide_eq_true e];exact hx,fun h=>⟨s,h,by simp⟩⟩
def zeM (l:List PredD) (s:ByteArray):Int × Bool:=match l.find? (fun x=>decide (x.name=s)) with
 |some x=>(x.arity,true)
 |none=>(0,false)
noncomputable def zfj (d:PolicyD) (a:AtomD):Int:=zbh [zeh a,notE (!hasP d.principals a.says) 6,notE (!(zeM d.preds a.pred).2) 7,notE (!decide ((zeM d.preds a.pred).1=a.n)) 8]
def zoP (a:AtomD):Bool:=a.ground
noncomputable def zbx (d:PolicyD) (s:ByteArray) (a:AtomD):Int:=zbh [notE (!hasP d.principals s) 6,zfj d a,notE (!zoP a) 10,notE (!decide (a.says=s)) 11]
/-! ### Policies -/
noncomputable def ziY (l:List ByteArray):Int:=if l.length < 1∨16 < l.length then 4 else zbX (fun pre w=>zbh [notE (!zeo w) 3,notE (hasP pre w) 5]) [] l
noncomputable def znc (l:List PredD):Int:=if 32 < l.length then 4 else zbX (fun pre x=>zbh [notE (!zeo x.name) 3,notE (hasP (pre.map PredD.name) x.name) 5,notE (decide (x.arity < 0∨4 < x.arity)) 4]) [] l
def zgy (ps:List ByteArray) (c:ClearD):Int:=if c.reads.length < 1∨16 < c.reads.length then 4 else zbX (fun pre w=>zbh [notE (!hasP ps w) 6,notE (decide (w=c.who)) 11,notE (hasP pre w) 5]) [] c.reads
def zk6 (ps:List ByteArray) (l:List ClearD):Int:=zbX (fun pre c=>zbh [notE (!hasP ps c.who) 6,notE (hasP (pre.map ClearD.who) c.who) 5,zgy ps c]) [] l
def zez (d:PolicyD):Int:=notE (decide (d.quota < 0∨1000 < d.quota) || decide (d.budget < 1∨1048576 < d.budget) || decide (64 < d.rules.length+d.grants.length)) 4
noncomputable def zur (d:PolicyD) (l:List AtomD):Int:=zbX (fun _ a=>zfj d a) [] l
noncomputable def zdU (d:PolicyD) (head:AtomD) (body:List AtomD):Int:=zbh [zfj d head,notE (decide (6 < body.length)) 4,zur d body]
open Classical in
noncomputable def zf5 (c:ClauseD):Int:=notE (decide (∃ x,zlq c.head x∧∀ a∈c.body,¬ zlq a x)) 9
noncomputable def zzc (d:PolicyD) (c:ClauseD):Int:=zbh [zdU d c.head c.body,zf5 c]
noncomputable def zrQ (d:PolicyD) (g:GrantD):Int:=zbh [notE (!hasP d.principals g.to) 6,notE (decide (g.to=g.head.says)) 11,zdU d g.head g.body]
noncomputable def zm0 (d:PolicyD):Int:=zbh [zbX (fun _ c=>zzc d c) [] d.rules,zbX (fun _ g=>zrQ d g) [] d.grants]
noncomputable def ziU (d:PolicyD):Int:=zbh [ziY d.principals,znc d.preds,zk6 d.principals d.clears,zez d,zm0 d]
abbrev Rep.fnv:Rep Value:={ k:=1,R:=fun _ cs x=>cs=[x]∧one x=true,len:=by rintro _ cs x ⟨rfl,_⟩;rfl,mono:=fun _ _ _ _ _ h=>h,ones:=by rintro _ cs x ⟨rfl,h⟩;simp [h] }
theorem ztE {T:Tab} {t e:TypeId} {kd:IntKind} {i:Int} {v:Value} {h1:Heap} {bs:List Blk} {w:Nat} {K:Value→Heap→Prop} {l:List Value} {x:Value} (f:Sl Rep.fnv h1 v l) (hd:T.desc t=some (.slice e)) (hs:zay T e=some 1) (h0:0≤i) (hx:l[i.toNat]? = some x) (hk:∀ p,AtP h1 p [x]→K p (h1.lay bs w)):valE (zau T t v (.int kd i)) (h1.lay bs w) K:=by
 have hi:=(List.getElem?_eq_some_iff.1 hx).1
 refine zek f hd hs h0 (by omega) (fun x' p cs hx' hr hp=>?_)
 rw [hx] at hx'
 cases hx'
 exact hk p (hr.1 ▸ hp)
end Go.Am
