/- All small steps in one, for simp. No condition. -/
import Derived.Test.YtdplfgoifjjniaaGreatDoorG18
set_option linter.unusedVariables false
namespace Go.Am
theorem zoY (b:Bool):zR undef b=false:=rfl
theorem zza (e:Env) (d:Nat) (v:Value):put e (some d) v=Env.set e d v:=rfl
theorem zy9 (e:Env) (v:Value):put e none v=e:=rfl
theorem zwz (v:Value) (r:Env):Env.get (v::r) 0=v:=rfl
theorem zwy (v:Value) (r:Env) (n:Nat):Env.get (v::r) (n+1)=Env.get r n:=rfl
theorem zzg (x v:Value) (r:Env):Env.set (x::r) 0 v=v::r:=rfl
theorem zzf (x v:Value) (r:Env) (n:Nat):Env.set (x::r) (n+1) v=x::Env.set r n v:=rfl
theorem zDR (e:Env) (t:Nat):aZ e (.tmp t)=e.get t:=rfl
theorem zws (e:Env) (v:Value):aZ e (.const v)=v:=rfl
theorem ztf (e:Env) (g:Nat):aZ e (.global g)=.pointer (some ⟨g,0,none⟩):=rfl
theorem zCg (e:Env) (f:FuncId):aZ e (.func f)=.func (.func f) #[] #[]:=rfl
theorem zqX (b:Bool):(Value.bool b).cells=#[.bool b]:=rfl
theorem zs0 (k:IntKind) (i:Int):(Value.int k i).cells=#[.int k i]:=rfl
theorem zmo (s:ByteArray):(Value.string s).cells=#[.string s]:=rfl
theorem zoq (a:Option Addr) (n c:Nat):(Value.slice a n c).cells=#[.slice a n c]:=rfl
theorem zlb (a:Option Addr):(Value.pointer a).cells=#[.pointer a]:=rfl
theorem zs1 (a:Option Nat):(Value.map a).cells=#[.map a]:=rfl
theorem zqY (f:Fn) (a b:Array Value):(Value.func f a b).cells=#[.func f a b]:=rfl
theorem zop (t:TypeId) (v:Value):(Value.iface t v).cells=#[.iface t v]:=rfl
theorem zsZ (cs:Array Value):(Value.agg cs).cells=cs:=rfl
theorem zv8 (z:List Value) (n:Nat):jo z n=(List.replicate n z).flatten:=rfl
theorem zsg (cs:List Value) (o:Nat) (vs:List Value):ay cs o vs=cs.take o++vs++cs.drop (o+vs.length):=rfl
theorem zB8 (cs:List Value) (o n:Nat):cut cs o n=if o+n≤cs.length then some ((cs.drop o).take n) else none:=rfl
def jr (J:Nat→Value):Nat→Nat→Env→Env
 |_,0,r=>r
 |a,n+1,r=>J a::jr J (a+1) n r
theorem zCI (J:Nat→Value) (a:Nat) (r:Env):jr J a 0 r=r:=rfl
theorem zCH (J:Nat→Value) (a n:Nat) (r:Env):jr J a (n+1) r=J a::jr J (a+1) n r:=rfl
noncomputable def Bh:=PLift.up (And.intro @zCI <| And.intro @zCH <| And.intro @zoY <| And.intro @zza <| And.intro @zy9 <| And.intro @zwz <| And.intro @zwy <| And.intro @zzg <| And.intro @zzf <| And.intro @zDR <| And.intro @zws <| And.intro @ztf <| And.intro @zCg <| And.intro @zqX <| And.intro @zs0 <| And.intro @zmo <| And.intro @zoq <| And.intro @zlb <| And.intro @zs1 <| And.intro @zqY <| And.intro @zop <| And.intro @zsZ <| And.intro @zv8 <| And.intro @zsg <| And.intro @zB8 <| And.intro @Option.map_some.{0,0} <| And.intro @Option.bind_some.{0,0} <| And.intro @List.length_cons.{0} <| And.intro @List.length_nil.{0} <| And.intro @List.cons_append.{0} <| And.intro @List.nil_append.{0} <| And.intro @List.getElem?_cons_zero.{0} <| And.intro @List.getElem?_cons_succ.{0} <| And.intro @decide_true <| And.intro @decide_false <| And.intro @Int.cast_ofNat_Int <| And.intro @Int.zero_le_ofNat <| And.intro @Int.le_refl <| And.intro @and_self <| And.intro @and_true <| And.intro @true_and <| And.intro @if_true.{1} <| And.intro @if_false.{1} <| And.intro @Nat.zero_add <| And.intro @Bool.not_true <| And.intro @Bool.not_false <| And.intro @Int.toNat_natCast <| And.intro @ztw <| And.intro @ztx <| And.intro @List.replicate_zero.{0} <| And.intro @List.replicate_succ.{0} <| And.intro @List.flatten_cons.{0} <| And.intro @List.flatten_nil.{0} <| And.intro @List.take_succ_cons.{0} <| And.intro @List.take_zero.{0} <| And.intro @List.drop_succ_cons.{0} <| And.intro @List.drop_zero.{0} <| And.intro @List.append_nil.{0} <| And.intro @Bool.or_self <| And.intro @Bool.false_eq_true <| And.intro @beq_self_eq_true.{0} <| And.intro @List.size_toArray.{0} <| And.intro @List.append_assoc.{0} <| And.intro @zBS <| And.intro @zBT <| And.intro @zru <| And.intro @ztQ <| And.intro @zsJ <| And.intro @zog <| And.intro @zl8 <| And.intro @zk0 <| And.intro @zl6 <| And.intro @zl7 <| And.intro @znU <| And.intro @zpy <| And.intro @zpz <| And.intro @zsG <| And.intro @cq <| @bB)
theorem aa:type_of% Bh.down:=Bh.down
end Go.Am
namespace Go.Am
def mj (s:ByteArray):Prop:=(⟨#[115,97,121,115]⟩:ByteArray)=s∨(⟨#[105,102]⟩:ByteArray)=s∨(⟨#[99,97,110,115,97,121]⟩:ByteArray)=s∨(⟨#[112,114,105,110,99,105,112,97,108]⟩:ByteArray)=s∨(⟨#[112,114,101,100]⟩:ByteArray)=s∨(⟨#[99,108,101,97,114]⟩:ByteArray)=s∨(⟨#[113,117,111,116,97]⟩:ByteArray)=s∨(⟨#[98,117,100,103,101,116]⟩:ByteArray)=s
structure xR (s:ByteArray):Prop where
 pos:1≤s.size
 len:s.size≤255
 first:ke s 0≠95
 all:∀ i,i < s.size→od (ke s i)
def gq (s:ByteArray):Prop:=xR s∧¬ mj s
def iL (s:ByteArray):Prop:=gq s∧(97≤ke s 0∧ke s 0≤122)
structure r8 (s:ByteArray):Prop where
 pos:1≤s.size
 len:s.size≤255
 first:65≤ke s 0∧ke s 0≤90
 all:∀ i,i < s.size→jH (ke s i)
def dv (t:aQ):Prop:=if t.v=true then r8 t.s else gq t.s
structure gT (a:ab):Prop where
 says:iL a.says
 pred:iL a.pred
 lo:0≤a.n
 hi:a.n≤4
 jJ:∀ i:Nat,(i:Int) < a.n→dv (a.arg i)
 rest:∀ i:Nat,a.n≤(i:Int)→i < 4→a.arg i=bT
theorem gq.low {s:ByteArray} (h:gq s):Gw s:=⟨h.1.pos,h.1.all⟩
theorem dv.ok {t:aQ} (h:dv t):Pk t:=by
 unfold dv at h
 unfold Pk
 split at h
 ·rename_i hv
  rw [hv]
  exact ⟨h.pos,h.first,h.all⟩
 ·rename_i hv
  rw [show t.v=false by simpa using hv]
  exact h.low
theorem gT.valid {a:ab} (h:gT a):pN a:=⟨h.says.1.low,h.pred.1.low,h.lo,h.hi,fun i hi=>(h.jJ i hi).ok,h.rest⟩
def iM (a:ab) (x:ByteArray):Prop:=∃ i:Nat,i < 4∧(i:Int) < a.n∧(a.arg i).v=true∧(a.arg i).s=x
structure RN (c:bP):Prop where
 head:gT c.head
 body:∀ b∈c.body,gT b
 Xx:∀ x,iM c.head x→∃ b∈c.body,iM b x
structure kh (a:ab):Prop where
 valid:gT a
 ground:a.ground=true
structure ajq (cl:List bP) (facts:List ab):Prop where
 clauses:∀ c∈cl,RN c
 facts:∀ a∈facts,kh a
theorem mZ {a:ab} {t:aQ}:t∈a.args↔∃ i:Nat,i < a.cx∧a.arg i=t:=by
 have h4:a.cx=0∨a.cx=1∨a.cx=2∨a.cx=3∨a.cx=4:=by unfold ab.cx;omega
 unfold ab.args
 have one:∀ {n:Nat} {P:Nat→Prop},(∃ i,i < n+1∧P i)↔(∃ i,i < n∧P i)∨P n:=by
  intro n P
  constructor
  ·rintro ⟨i,hi,hp⟩
   by_cases e:i=n
   ·subst e;exact .inr hp
   ·exact .inl ⟨i,by omega,hp⟩
  ·rintro (⟨i,hi,hp⟩|hp)
   ·exact ⟨i,by omega,hp⟩
   ·exact ⟨n,by omega,hp⟩
 rcases h4 with e|e|e|e|e <;> rw [e] <;> simp [one,ab.arg,eq_comm,or_assoc]
theorem la {a:ab}:a.ground=true↔∀ i:Nat,i < a.cx→(a.arg i).v=false:=by
 unfold ab.ground
 rw [Bool.not_eq_true',List.any_eq_false]
 constructor
 ·intro h i hi
  have:=h (a.arg i) (mZ.2 ⟨i,hi,rfl⟩)
  simpa using this
 ·intro h t ht
  obtain ⟨i,hi,rfl⟩:=mZ.1 ht
  simpa using h i hi
theorem gV {a:ab} {i:Nat}:i < a.cx↔i < 4∧(i:Int) < a.n:=by
 unfold ab.cx
 omega
theorem mP {a:ab} {x:ByteArray}:iM a x↔∃ i:Nat,i < a.cx∧(a.arg i).v=true∧(a.arg i).s=x:=by
 constructor
 ·rintro ⟨i,h1,h2,h3,h4⟩
  exact ⟨i,gV.2 ⟨h1,h2⟩,h3,h4⟩
 ·rintro ⟨i,h1,h3,h4⟩
  exact ⟨i,(gV.1 h1).1,(gV.1 h1).2,h3,h4⟩
theorem zuL {T:bD} {t u:TypeId} {w n i:Nat} {cs vs:List Value} {v:Value} {h1:Heap} {bs:List bh} {K:Value→Heap→Prop} (hb:bs[i]? = some (.row cs u false)) (hs:bO T t=some n) (hc:cs.length=n) (hv:v.cells.toList=vs) (hl:vs.length=n) (jO:vs.all one=true)
 (hK:K undef (h1.lay (bs.set i (.row vs u false)) (min w (h1.size+i)))):gv (gA T t (.pointer (some ⟨h1.size+i,0,none⟩)) v (h1.lay bs w)) K:=by
 have hi:=(List.getElem?_eq_some_iff.1 hb).1
 have hg:(h1.lay bs w).get (h1.size+i)=some (.row cs u false):=by rw [kX];exact hb
 have dB:v.cells.size=n:=by rw [← Array.length_toList,hv,hl]
 have cA:ay cs 0 vs=vs:=by
  unfold ay
  rw [List.take_zero,List.nil_append,List.drop_eq_nil_of_le (by omega),List.append_nil]
 have he:gA T t (.pointer (some ⟨h1.size+i,0,none⟩)) v (h1.lay bs w)=some ((h1.lay bs w).set (h1.size+i) (.row vs u false)):=by
  unfold gA
  simp only [hs,Option.bind_some]
  rw [if_pos dB,hv]
  unfold kW
  rw [hg]
  simp only
  rw [if_pos (by simp only [Bool.and_eq_true,decide_eq_true_eq];exact ⟨by omega,jO⟩),cA]
 rw [he,mr _ _ _ _ _ hi]
 exact hK
end Go.Am
namespace Go.Am
open Classical in
def gh:List Int→Int
 | []=>0
 |e::l=>if e=0 then gh l else e
theorem zri:gh []=0:=rfl
theorem iq (e:Int) (l:List Int):gh (e::l)=if e=0 then gh l else e:=rfl
theorem cH {l:List Int}:gh l=0↔∀ e∈l,e=0:=by
 induction l with
 |nil=>simp [gh]
 |cons e l ih =>
  rw [iq]
  by_cases h:e=0
  ·rw [if_pos h,ih];simp [h]
  ·rw [if_neg h];simp [h]
def aX (b:Bool) (e:Int):Int:=if b then e else 0
theorem Gi {b:Bool} {e:Int} (h:e≠0):aX b e=0↔b=false:=by cases b <;> simp [aX,h]
def ey {α:Type} (f:List α→α→Int):List α→List α→Int
 |_,[]=>0
 |pre,x::l=>if f pre x=0 then ey f (pre++[x]) l else f pre x
theorem pB {α:Type} {f:List α→α→Int} {l:List α} {i:Nat} {x:α} (hx:l[i]? = some x):ey f (l.take i) (l.drop i)=if f (l.take i) x=0 then ey f (l.take (i+1)) (l.drop (i+1)) else f (l.take i) x:=by
 have hi:=List.getElem?_eq_some_iff.1 hx
 rw [List.drop_eq_getElem_cons hi.1,hi.2,List.take_add_one,hx]
 rfl
theorem Bk {α:Type} {f:List α→α→Int} {l:List α} {i:Nat} (hi:l.length≤i):ey f (l.take i) (l.drop i)=0:=by
 rw [List.drop_of_length_le hi];rfl
theorem iZ {α:Type} {f:List α→α→Int}:∀ {l pre:List α},ey f pre l=0↔∀ i x,l[i]? = some x→f (pre++l.take i) x=0
 | [],pre=>by simp [ey]
 |y::l,pre=>by
  unfold ey
  by_cases h:f pre y=0
  ·rw [if_pos h,iZ]
   constructor
   ·intro g i x hx
    cases i with
    |zero=>simp at hx;subst hx;simpa using h
    |succ i=>have:=g i x (by simpa using hx);simpa using this
   ·intro g i x hx
    have:=g (i+1) x (by simpa using hx)
    simpa using this
  ·rw [if_neg h]
   constructor
   ·intro g;exact absurd g h
   ·intro g;exact absurd (by simpa using g 0 y rfl) h
/-! ### Atoms -/
open Classical in
noncomputable def mv (s:ByteArray):Bool:=decide (iL s)
open Classical in
noncomputable def E9 (t:aQ):Bool := !decide (dv t)
noncomputable def iQ (a:ab):Int :=
 if mv a.says && mv a.pred then (if a.n < 0∨4 < a.n then 4 else if a.args.any E9 then 3 else if (a.all.drop a.cx).any (fun t => !decide (t=bT)) then 15 else 0) else 3
theorem bM {s:ByteArray}:mv s=true↔iL s:=by unfold mv;simp
theorem O2 {s:ByteArray} (h:¬ iL s):mv s=false:=by unfold mv;simp [h]
theorem OU {a:ab} (h:¬ iL a.says∨¬ iL a.pred):iQ a=3:=by
 unfold iQ
 rw [if_neg]
 rw [Bool.and_eq_true,bM,bM]
 exact fun x=>h.elim (fun y=>y x.1) (fun y=>y x.2)
theorem zn5 {a:ab} (h1:iL a.says) (h2:iL a.pred) (h:a.n < 0∨4 < a.n):iQ a=4:=by
 unfold iQ
 rw [if_pos (by rw [Bool.and_eq_true,bM,bM];exact ⟨h1,h2⟩),if_pos h]
theorem zkU {a:ab} (h1:iL a.says) (h2:iL a.pred) (h3:¬ (a.n < 0∨4 < a.n)) (h:a.args.any E9=true):iQ a=3:=by
 unfold iQ
 rw [if_pos (by rw [Bool.and_eq_true,bM,bM];exact ⟨h1,h2⟩),if_neg h3,if_pos h]
theorem zkT {a:ab} (h1:iL a.says) (h2:iL a.pred) (h3:¬ (a.n < 0∨4 < a.n)) (h4:a.args.any E9=false):iQ a=if (a.all.drop a.cx).any (fun t => !decide (t=bT)) then 15 else 0:=by
 unfold iQ
 rw [if_pos (by rw [Bool.and_eq_true,bM,bM];exact ⟨h1,h2⟩),if_neg h3,if_neg (by rw [h4];decide)]
def bg (l:List ByteArray) (s:ByteArray):Bool:=l.any fun x=>decide (s=x)
theorem cI {l:List ByteArray} {s:ByteArray}:bg l s=true↔s∈l:=by
 unfold bg
 rw [List.any_eq_true]
 exact ⟨fun ⟨x,hx,e⟩=>by rw [of_decide_eq_true e];exact hx,fun h=>⟨s,h,by simp⟩⟩
def lT (l:List bx) (s:ByteArray):Int × Bool:=match l.find? (fun x=>decide (x.name=s)) with
 |some x=>(x.arity,true)
 |none=>(0,false)
noncomputable def iu (d:au) (a:ab):Int:=gh [iQ a,aX (!bg d.aj a.says) 6,aX (!(lT d.bA a.pred).2) 7,aX (!decide ((lT d.bA a.pred).1=a.n)) 8]
def Z8 (a:ab):Bool:=a.ground
noncomputable def gl (d:au) (s:ByteArray) (a:ab):Int:=gh [aX (!bg d.aj s) 6,iu d a,aX (!Z8 a) 10,aX (!decide (a.says=s)) 11]
/-! ### Policies -/
noncomputable def pj (l:List ByteArray):Int:=if l.length < 1∨16 < l.length then 4 else ey (fun pre w=>gh [aX (!mv w) 3,aX (bg pre w) 5]) [] l
noncomputable def rk (l:List bx):Int:=if 32 < l.length then 4 else ey (fun pre x=>gh [aX (!mv x.name) 3,aX (bg (pre.map bx.name) x.name) 5,aX (decide (x.arity < 0∨4 < x.arity)) 4]) [] l
def ob (ps:List ByteArray) (c:bF):Int:=if c.reads.length < 1∨16 < c.reads.length then 4 else ey (fun pre w=>gh [aX (!bg ps w) 6,aX (decide (w=c.bt)) 11,aX (bg pre w) 5]) [] c.reads
def vp (ps:List ByteArray) (l:List bF):Int:=ey (fun pre c=>gh [aX (!bg ps c.bt) 6,aX (bg (pre.map bF.bt) c.bt) 5,ob ps c]) [] l
def vk (d:au):Int:=aX (decide (d.du < 0∨1000 < d.du) || decide (d.cD < 1∨1048576 < d.cD) || decide (64 < d.rules.length+d.bc.length)) 4
noncomputable def zX (d:au) (l:List ab):Int:=ey (fun _ a=>iu d a) [] l
noncomputable def jR (d:au) (head:ab) (body:List ab):Int:=gh [iu d head,aX (decide (6 < body.length)) 4,zX d body]
open Classical in
noncomputable def zQ (c:bP):Int:=aX (decide (∃ x,iM c.head x∧∀ a∈c.body,¬ iM a x)) 9
noncomputable def qy (d:au) (c:bP):Int:=gh [jR d c.head c.body,zQ c]
noncomputable def pI (d:au) (g:dC):Int:=gh [aX (!bg d.aj g.to) 6,aX (decide (g.to=g.head.says)) 11,jR d g.head g.body]
noncomputable def BG (d:au):Int:=gh [ey (fun _ c=>qy d c) [] d.rules,ey (fun _ g=>pI d g) [] d.bc]
noncomputable def mT (d:au):Int:=gh [pj d.aj,rk d.bA,vp d.aj d.aV,vk d,BG d]
abbrev aK.IH:aK Value:={ k:=1,R:=fun _ cs x=>cs=[x]∧one x=true,len:=by rintro _ cs x ⟨rfl,_⟩;rfl,mono:=fun _ _ _ _ _ h=>h,gK:=by rintro _ cs x ⟨rfl,h⟩;simp [h] }
theorem ztH {T:bD} {t e:TypeId} {kd:IntKind} {i:Int} {v:Value} {h1:Heap} {bs:List bh} {w:Nat} {K:Value→Heap→Prop} {l:List Value} {x:Value} (f:Sl aK.IH h1 v l) (hd:T.desc t=some (.slice e)) (hs:bO T e=some 1) (h0:0≤i) (hx:l[i.toNat]? = some x) (hk:∀ p,eC h1 p [x]→K p (h1.lay bs w)):aU (fM T t v (.int kd i)) (h1.lay bs w) K:=by
 have hi:=(List.getElem?_eq_some_iff.1 hx).1
 refine zO f hd hs h0 (by omega) (fun x' p cs lO hr hp=>?_)
 rw [hx] at lO
 cases lO
 exact hk p (hr.1 ▸ hp)
end Go.Am
