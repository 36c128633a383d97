/- All small steps in one, for simp. No condition. -/
import Derived.Test.YtjildadoepadeaaGreatDoorG16
set_option linter.unusedSimpArgs false
set_option linter.unusedVariables false
namespace Go.Am
theorem Z4 (b:Bool):uI undef b=false:=rfl
theorem zur (e:Env) (d:Nat) (v:ai):put e (some d) v=Env.set e d v:=rfl
theorem zuq (e:Env) (v:ai):put e none v=e:=rfl
theorem ztK (v:ai) (r:Env):Env.get (v::r) 0=v:=rfl
theorem ztJ (v:ai) (r:Env) (n:Nat):Env.get (v::r) (n+1)=Env.get r n:=rfl
theorem zuv (x v:ai) (r:Env):Env.set (x::r) 0 v=v::r:=rfl
theorem zuu (x v:ai) (r:Env) (n:Nat):Env.set (x::r) (n+1) v=x::Env.set r n v:=rfl
theorem zw2 (e:Env) (t:Nat):aX e (.tmp t)=e.get t:=rfl
theorem ztF (e:Env) (v:ai):aX e (.const v)=v:=rfl
theorem zrZ (e:Env) (g:Nat):aX e (.global g)=.pointer (some ⟨g,0,none⟩):=rfl
theorem zv5 (e:Env) (f:FuncId):aX e (.func f)=.func (.func f) #[] #[]:=rfl
theorem zpL (b:Bool):(Value.bool b).cells=#[.bool b]:=rfl
theorem zrL (k:IntKind) (i:Int):(Value.int k i).cells=#[.int k i]:=rfl
theorem Y3 (s:aA):(Value.string s).cells=#[.string s]:=rfl
theorem ZV (a:Option Addr) (n c:Nat):(Value.slice a n c).cells=#[.slice a n c]:=rfl
theorem Yz (a:Option Addr):(Value.pointer a).cells=#[.pointer a]:=rfl
theorem zrM (a:Option Nat):(Value.map a).cells=#[.map a]:=rfl
theorem zpM (f:Fn) (a b:Array ai):(Value.func f a b).cells=#[.func f a b]:=rfl
theorem ZU (t:TypeId) (v:ai):(Value.iface t v).cells=#[.iface t v]:=rfl
theorem zrK (cs:Array ai):(Value.agg cs).cells=cs:=rfl
theorem ztg (z:List ai) (n:Nat):lC z n=(List.replicate n z).flatten:=rfl
theorem zqQ (cs:List ai) (o:Nat) (vs:List ai):an cs o vs=cs.take o++vs++cs.drop (o+vs.length):=rfl
theorem zv0 (cs:List ai) (o n:Nat):cut cs o n=if o+n<=cs.length then some ((cs.drop o).take n) else none:=rfl
def jr (J:Nat->ai):Nat->Nat->Env->Env
 |_,0,r=>r
 |a,n+1,r=>J a::jr J (a+1) n r
theorem zwi (J:Nat->ai) (a:Nat) (r:Env):jr J a 0 r=r:=rfl
theorem zwh (J:Nat->ai) (a n:Nat) (r:Env):jr J a (n+1) r=J a::jr J (a+1) n r:=rfl
noncomputable def vO:=PLift.up (And.intro @zwi <| And.intro @zwh <| And.intro @Z4 <| And.intro @zur <| And.intro @zuq <| And.intro @ztK <| And.intro @ztJ <| And.intro @zuv <| And.intro @zuu <| And.intro @zw2 <| And.intro @ztF <| And.intro @zrZ <| And.intro @zv5 <| And.intro @zpL <| And.intro @zrL <| And.intro @Y3 <| And.intro @ZV <| And.intro @Yz <| And.intro @zrM <| And.intro @zpM <| And.intro @ZU <| And.intro @zrK <| And.intro @ztg <| And.intro @zqQ <| And.intro @zv0 <| And.intro @Option.map_some.{0,0} <| And.intro @Option.bind_some.{0,0} <| And.intro @List.length_cons.{0} <| And.intro @List.length_nil.{0} <| And.intro @List.cons_append.{0} <| And.intro @List.nil_append.{0} <| And.intro @List.getElem?_cons_zero.{0} <| And.intro @List.getElem?_cons_succ.{0} <| And.intro @decide_true <| And.intro @decide_false <| And.intro @Int.cast_ofNat_Int <| And.intro @Int.zero_le_ofNat <| And.intro @Int.le_refl <| And.intro @and_self <| And.intro @and_true <| And.intro @true_and <| And.intro @if_true.{1} <| And.intro @if_false.{1} <| And.intro @Nat.zero_add <| And.intro @Bool.not_true <| And.intro @Bool.not_false <| And.intro @Int.toNat_natCast <| And.intro @zr3 <| And.intro @zr4 <| And.intro @List.replicate_zero.{0} <| And.intro @List.replicate_succ.{0} <| And.intro @List.flatten_cons.{0} <| And.intro @List.flatten_nil.{0} <| And.intro @List.take_succ_cons.{0} <| And.intro @List.take_zero.{0} <| And.intro @List.drop_succ_cons.{0} <| And.intro @List.drop_zero.{0} <| And.intro @List.append_nil.{0} <| And.intro @Bool.or_self <| And.intro @Bool.false_eq_true <| And.intro @beq_self_eq_true.{0} <| And.intro @List.size_toArray.{0} <| And.intro @List.append_assoc.{0} <| And.intro @zvI <| And.intro @zvJ <| And.intro @zqf <| And.intro @zsi <| And.intro @zrp <| And.intro @Zk <| And.intro @Y1 <| And.intro @Yu <| And.intro @YC <| And.intro @Y0 <| And.intro @Zw <| And.intro @Z9 <| And.intro @zog <| And.intro @zrm <| And.intro @dy <| @cF)
theorem gf:type_of% vO.down:=vO.down
noncomputable def vP:=PLift.up (And.intro syms gf)
theorem aa:type_of% vP.down:=vP.down
end Go.Am
namespace Go.Am
variable {a:ae}
def kl (s:aA):Prop:=(⟨#[115,97,121,115]⟩:aA)=s\/(⟨#[105,102]⟩:aA)=s\/(⟨#[99,97,110,115,97,121]⟩:aA)=s\/(⟨#[112,114,105,110,99,105,112,97,108]⟩:aA)=s\/(⟨#[112,114,101,100]⟩:aA)=s\/(⟨#[99,108,101,97,114]⟩:aA)=s\/(⟨#[113,117,111,116,97]⟩:aA)=s\/(⟨#[98,117,100,103,101,116]⟩:aA)=s
structure um (s:aA):Prop where
 pos:1<=s.size
 len:s.size<=255
 first:gG s 0≠95
 all:∀ i,i < s.size->mV (gG s i)
def eU (s:aA):Prop:=um s/\¬ kl s
def gh (s:aA):Prop:=eU s/\(97<=gG s 0/\gG s 0<=122)
structure pq (s:aA):Prop where
 pos:1<=s.size
 len:s.size<=255
 first:65<=gG s 0/\gG s 0<=90
 all:∀ i,i < s.size->iB (gG s i)
def cC (t:aH):Prop:=if t.v=true then pq t.s else eU t.s
structure bu (a:ae):Prop where
 says:gh a.says
 pred:gh a.pred
 lo:0<=a.n
 hi:a.n<=4
 gY:∀ i:Nat,(i:Int) < a.n->cC (a.arg i)
 rest:∀ i:Nat,a.n<=(i:Int)->i < 4->a.arg i=aZ
theorem eU.low {s:aA} (h:eU s):Ix s:=⟨h.1.pos,h.1.all⟩
theorem cC.ok {t:aH} (h:cC t):N3 t:=by
 unfold cC at h
 unfold N3
 split at h
 .rename_i hv
  rw [hv]
  exact ⟨h.pos,h.first,h.all⟩
 .rename_i hv
  rw [show t.v=false by simpa using hv]
  exact h.low
theorem bu.valid (h:bu a):Jh a:=⟨h.says.1.low,h.pred.1.low,h.lo,h.hi,λi hi=>(h.gY i hi).ok,h.rest⟩
def gi (a:ae) (x:aA):Prop:=∃ i:Nat,i < 4/\(i:Int) < a.n/\(a.arg i).v=true/\(a.arg i).s=x
structure Jd (c:bA):Prop where
 head:bu c.head
 body:∀ b∈c.body,bu b
 Mr:∀ x,gi c.head x->∃ b∈c.body,gi b x
structure lU (a:ae):Prop where
 valid:bu a
 ground:a.ground=true
structure UZ (cl:List bA) (facts:cR):Prop where
 clauses:∀ c∈cl,Jd c
 facts:∀ a∈facts,lU a
theorem gN {t:aH}:t∈a.args↔∃ i:Nat,i < a.bR/\a.arg i=t:=by
 have h4:a.bR=0\/a.bR=1\/a.bR=2\/a.bR=3\/a.bR=4:=by unfold ae.bR;omega
 unfold ae.args
 have one:∀ {n:Nat} {P:Nat->Prop},(∃ i,i < n+1/\P i)↔(∃ i,i < n/\P i)\/P n:=by
  intro n P
  constructor
  .rintro ⟨i,hi,hp⟩
   by_cases e:i=n
   .subst e;exact .inr hp
   .exact .inl ⟨i,by omega,hp⟩
  .rintro (⟨i,hi,hp⟩|hp)
   .exact ⟨i,by omega,hp⟩
   .exact ⟨n,by omega,hp⟩
 rcases h4 with e|e|e|e|e <;> rw [e] <;> simp [one,ae.arg,eq_comm,or_assoc]
theorem jj:a.ground=true↔∀ i:Nat,i < a.bR->(a.arg i).v=false:=by
 unfold ae.ground
 rw [zo,uN]
 constructor
 .intro h i hi
  have:=h (a.arg i) (gN.2 ⟨i,hi,rfl⟩)
  simpa using this
 .intro h t ht
  obtain ⟨i,hi,rfl⟩:=gN.1 ht
  simpa using h i hi
theorem eT {i:Nat}:i < a.bR↔i < 4/\(i:Int) < a.n:=by
 unfold ae.bR
 omega
theorem kN {x:aA}:gi a x↔∃ i:Nat,i < a.bR/\(a.arg i).v=true/\(a.arg i).s=x:=by
 constructor
 .rintro ⟨i,h1,h2,h3,h4⟩
  exact ⟨i,eT.2 ⟨h1,h2⟩,h3,h4⟩
 .rintro ⟨i,h1,h3,h4⟩
  exact ⟨i,(eT.1 h1).1,(eT.1 h1).2,h3,h4⟩
end Go.Am
