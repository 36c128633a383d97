/- What the arguments' cells are: policies, names, steps. Written out by fill2.py. No condition. -/
import Derived.Test.YtiapegieocgmfaaGreatDoorG15
set_option linter.unusedSimpArgs false
set_option linter.unusedVariables false
noncomputable section
namespace Go.Proofs.YtiapegieocgmfaaGreatDoor
open Go.Am Tryz
set_option maxRecDepth 100000
variable {v:ab} {n:Nat} {h:Heap} {cs:List ab}
theorem zod:prog.cellsOf 62=2:=by kernel_rfl
theorem zob:prog.cellsOf 64=2:=by kernel_rfl
theorem zoe:prog.cellsOf 67=12:=by kernel_rfl
theorem zoc:prog.cellsOf 70=13:=by kernel_rfl
theorem ztw:prog.cellsOf 28=7:=by kernel_rfl
theorem zjV (hs:eK prog h (n+2) 22 [v]):∃ l,Sl aM.str h v l :=
 HV underlying22 ztx (λcs hc=>Co hc) hs
theorem ztj (hs:AJ prog h (n+1) 9 v):∃ s:au,v=.string s:=by
 unfold AJ at hs
 rw [underlying9] at hs
 obtain ⟨s,hs⟩:=Co hs
 simp only [List.cons.injEq,and_true] at hs
 exact ⟨s,hs⟩
theorem zsH {k:Nat} (h:k < cs.length):∃ v,(cs.drop k).take 1=[v]:=by
 rw [Eg h]
 exact ⟨_,rfl⟩
theorem zzm (hs:eK prog h (n+2) 62 cs):∃ x,aM.pred.R h cs x:=by
 unfold eK at hs
 rw [underlying62] at hs
 obtain ⟨hl,hf⟩:=hs
 rw [zod] at hl
 match cs,hl with
 | [a,b],_ =>
  have h0:eK prog h (n+1) 9 (([a,b].drop 0).take 1):=hf 0 _ rfl
  have h1:eK prog h (n+1) 3 (([a,b].drop 1).take 1):=hf 1 _ rfl
  obtain ⟨s,e0⟩:=Co h0
  obtain ⟨i,e1,_⟩:=QI h1
  simp at e0 e1
  subst e0 e1
  exact ⟨⟨s,i⟩,rfl⟩
theorem zxq (hs:eK prog h (n+3) 64 cs):∃ x,aM.clear.R h cs x:=by
 unfold eK at hs
 rw [underlying64] at hs
 obtain ⟨hl,hf⟩:=hs
 rw [zob] at hl
 match cs,hl with
 | [a,b],_ =>
  have h0:eK prog h (n+2) 9 (([a,b].drop 0).take 1):=hf 0 _ rfl
  have h1:eK prog h (n+2) 22 (([a,b].drop 1).take 1):=hf 1 _ rfl
  obtain ⟨s,e0⟩:=Co h0
  obtain ⟨l,e1⟩:=zjV h1
  simp at e0
  subst e0
  exact ⟨⟨s,l⟩,_,rfl,e1⟩
theorem zzn (hs:eK prog h (n+6) 67 cs):∃ x,aM.clause.R h cs x:=by
 unfold eK at hs
 rw [underlying67] at hs
 obtain ⟨hl,hf⟩:=hs
 rw [zoe] at hl
 have h0:eK prog h (n+5) 47 ((cs.drop 0).take 11):=hf 0 _ rfl
 have h1:eK prog h (n+5) 38 ((cs.drop 11).take 1):=hf 1 _ rfl
 obtain ⟨a,ha⟩:=Tz (n:=n+1) h0
 obtain ⟨v,hv⟩:=zsH (cs:=cs) (k:=11) (by omega)
 rw [hv] at h1
 obtain ⟨l,iE⟩:=zpB h1
 refine ⟨⟨a,l⟩,v,?_,iE⟩
 have e1:cs=cs.take 11++cs.drop 11:=(qv 11 cs).symm
 rw [gE (by simp;omega)] at hv
 rw [zM] at ha
 rw [e1,ha,hv]
theorem zxr (hs:eK prog h (n+6) 70 cs):∃ x,aM.qW.R h cs x:=by
 unfold eK at hs
 rw [underlying70] at hs
 obtain ⟨hl,hf⟩:=hs
 rw [zoc] at hl
 match cs,hl with
 |c0::cs,hl =>
  have hl:cs.length=12:=by simpa using hl
  have h0:eK prog h (n+5) 9 (((c0::cs).drop 0).take 1):=hf 0 _ rfl
  have h1:eK prog h (n+5) 47 ((cs.drop 0).take 11):=hf 1 _ rfl
  have h2:eK prog h (n+5) 38 ((cs.drop 11).take 1):=hf 2 _ rfl
  obtain ⟨s,e0⟩:=Co h0
  obtain ⟨a,ha⟩:=Tz (n:=n+1) h1
  obtain ⟨v,hv⟩:=zsH (cs:=cs) (k:=11) (by omega)
  rw [hv] at h2
  obtain ⟨l,iE⟩:=zpB h2
  simp at e0
  subst e0
  refine ⟨⟨s,a,l⟩,v,?_,iE⟩
  have e1:cs=cs.take 11++cs.drop 11:=(qv 11 cs).symm
  rw [gE (by simp;omega)] at hv
  rw [zM] at ha
  rw [e1,ha,hv]
theorem zti (hs:AJ prog h (n+8) 28 v):∃ d,Ld h v d:=by
 unfold AJ at hs
 rw [underlying28] at hs
 obtain ⟨cs,rfl,hc⟩:=hs
 unfold eK at hc
 rw [underlying28] at hc
 obtain ⟨hl,hf⟩:=hc
 rw [ztw] at hl
 match cs,hl with
 | [c0,c1,c2,c3,c4,c5,c6],_ =>
  have h0:eK prog h (n+7) 22 (([c0,c1,c2,c3,c4,c5,c6].drop 0).take 1):=hf 0 _ rfl
  have h1:eK prog h (n+7) 23 (([c0,c1,c2,c3,c4,c5,c6].drop 1).take 1):=hf 1 _ rfl
  have h2:eK prog h (n+7) 24 (([c0,c1,c2,c3,c4,c5,c6].drop 2).take 1):=hf 2 _ rfl
  have h3:eK prog h (n+7) 3 (([c0,c1,c2,c3,c4,c5,c6].drop 3).take 1):=hf 3 _ rfl
  have h4:eK prog h (n+7) 3 (([c0,c1,c2,c3,c4,c5,c6].drop 4).take 1):=hf 4 _ rfl
  have h5:eK prog h (n+7) 25 (([c0,c1,c2,c3,c4,c5,c6].drop 5).take 1):=hf 5 _ rfl
  have h6:eK prog h (n+7) 26 (([c0,c1,c2,c3,c4,c5,c6].drop 6).take 1):=hf 6 _ rfl
  obtain ⟨l0,g0⟩:=zjV h0
  obtain ⟨l1,g1⟩:=HV (n:=n+6) underlying23 zod (λcs hc=>zzm hc) h1
  obtain ⟨l2,g2⟩:=HV (n:=n+6) underlying24 zob (λcs hc=>zxq hc) h2
  obtain ⟨i3,e3,_⟩:=QI h3
  obtain ⟨i4,e4,_⟩:=QI h4
  obtain ⟨l5,g5⟩:=HV (n:=n+6) underlying25 zoe (λcs hc=>zzn hc) h5
  obtain ⟨l6,g6⟩:=HV (n:=n+6) underlying26 zoc (λcs hc=>zxr hc) h6
  simp at e3 e4
  subst e3 e4
  exact ⟨⟨l0,l1,l2,i3,i4,l5,l6⟩,_,_,_,_,_,_,_,rfl,⟨g0,g1,g2,g5,g6⟩⟩
end Go.Proofs.YtiapegieocgmfaaGreatDoor
namespace Go.Am
variable {s:au} {a b:ak} {l:aS}
def mc (c:Int):Prop:=(97<=c/\c<=122)\/(65<=c/\c<=90)\/(48<=c/\c<=57)\/c=95
def rR (c:Int):Prop:=(97<=c/\c<=122)\/(48<=c/\c<=57)\/c=95
def AD (s:au):Prop:=1<=s.size/\∀ i,i < s.size->rR (mf s i)
def TW (s:au):Prop:=1<=s.size/\(65<=mf s 0/\mf s 0<=90)/\∀ i,i < s.size->mc (mf s i)
def Ee (t:aZ):Prop:=if t.v then TW t.s else AD t.s
structure gO (a:ak):Prop where
 says:AD a.says
 pred:AD a.pred
 lo:0<=a.n
 hi:a.n<=4
 jE:∀ i:Nat,(i:Int) < a.n->Ee (a.arg i)
 rest:∀ i:Nat,a.n<=(i:Int)->i < 4->a.arg i=cT
def zwg (s:au):Bool:=decide (65<=mf s 0) && decide (mf s 0<=90)
structure iI (a:ak):Prop where
 says:Word a.says.data.toList
 pred:Word a.pred.data.toList
 lo:0<=a.n
 hi:a.n<=4
 jE:∀ i:Nat,(i:Int) < a.n->Word (a.arg i).s.data.toList/\(a.arg i).v=zwg (a.arg i).s
 rest:∀ i:Nat,a.n<=(i:Int)->i < 4->a.arg i=cT
theorem zld {c:UInt8} (h:c∈s.data.toList):∃ i,i < s.size/\mf s i=c.toNat:=by
 obtain ⟨i,hi,he⟩:=List.getElem_of_mem h
 have mV:i < s.size:=by rw [<- E1];exact hi
 refine ⟨i,mV,?_⟩
 unfold mf
 have:s[i]? = some s[i]:=by simp [mV]
 rw [this]
 simp only [JX]
 have h2:s[i]=c:=by rw [<- he];rfl
 rw [h2]
theorem znm (h:AD s):Word s.data.toList:=by
 intro c hc
 obtain ⟨i,hi,he⟩:=zld hc
 have:=h.2 i hi
 unfold rR at this
 unfold pD
 omega
theorem zzQ (h:TW s):Word s.data.toList:=by
 intro c hc
 obtain ⟨i,hi,he⟩:=zld hc
 have:=h.2.2 i hi
 unfold mc at this
 unfold pD
 omega
theorem gO.plain (w:gO a):iI a:=by
 refine ⟨znm w.says,znm w.pred,w.lo,w.hi,λi hi=>?_,w.rest⟩
 have h:=w.jE i hi
 unfold Ee at h
 cases hv:(a.arg i).v
 .rw [hv] at h
  have h:AD (a.arg i).s:=h
  refine ⟨znm h,?_⟩
  have:=h.2 0 h.1
  unfold rR at this
  unfold zwg
  rw [eq_comm,QR,decide_eq_false_iff_not,decide_eq_false_iff_not]
  omega
 .rw [hv] at h
  have h:TW (a.arg i).s:=h
  refine ⟨zzQ h,?_⟩
  unfold zwg
  rw [uN h.2.1.1,uN h.2.1.2]
  rfl
theorem zxJ (a:ak):cL a=Rx a.says.data.toList a.pred.data.toList (jO a):=by
 unfold cL Rx J6 jO J4 dC
 cases h:a.args with
 |nil=>simp
 |cons t r=>simp
theorem args_at {i:Nat} (h:i < a.cO):a.args[i]? = some (a.arg i):=by
 have hc:a.cO<=4:=Et _ _
 unfold ak.args
 rw [mi,aE h]
 have:i=0\/i=1\/i=2\/i=3:=by omega
 rcases this with rfl|rfl|rfl|rfl <;> rfl
theorem zAt (h0:a.says=b.says) (h1:a.pred=b.pred) (h2:a.n=b.n) (h:∀ i,i < 4->a.arg i=b.arg i):a=b:=by
 have e0:=h 0 (by omega)
 have e1:=h 1 (by omega)
 have e2:=h 2 (by omega)
 have e3:=h 3 (by omega)
 obtain ⟨s,p,n,t0,t1,t2,t3⟩:=a
 obtain ⟨s',p',n',u0,u1,u2,u3⟩:=b
 simp only [ak.arg] at e0 e1 e2 e3
 simp only at h0 h1 h2
 subst h0 h1 h2 e0 e1 e2 e3
 rfl
theorem zjE (w:iI a):∀ x∈jO a,Word x:=by
 intro x hx
 obtain ⟨t,ht,rfl⟩:=oY.1 hx
 obtain ⟨i,hi⟩:=uL ht
 have aT:i < a.cO:=by
  have h1:=(dP.1 hi).1
  unfold ak.args at h1
  rw [gh] at h1
  omega
 rw [args_at aT] at hi
 cases hi
 have:(i:Int) < a.n:=by
  have:a.cO<=a.n.toNat:=xA _ _
  omega
 exact (w.jE i this).1
theorem zjD (wa:iI a) (wb:iI b) (h:cL a=cL b):a=b:=by
 rw [zxJ,zxJ] at h
 obtain ⟨h1,h2,h3⟩:=zzC wa.says wb.says wa.pred wb.pred (zjE wa) (zjE wb) h
 have hlen:=congrArg List.length h3
 have mC:(a.cO:Int)=a.n:=by
  have:=wa.lo;have:=wa.hi
  unfold ak.cO
  omega
 have FU:(b.cO:Int)=b.n:=by
  have:=wb.lo;have:=wb.hi
  unfold ak.cO
  omega
 have IF:(jO a).length=a.cO:=by
  have:a.cO<=4:=Et _ _
  unfold jO ak.args
  rw [gi,gh]
  simp only [dn,dN]
  omega
 have Sh:(jO b).length=b.cO:=by
  have:b.cO<=4:=Et _ _
  unfold jO ak.args
  rw [gi,gh]
  simp only [dn,dN]
  omega
 rw [IF,Sh] at hlen
 have hn:a.n=b.n:=by omega
 refine zAt (CE h1) (CE h2) hn (λi hi=>?_)
 by_cases aO:(i:Int) < a.n
 .have e1:=args_at (a:=a) (i:=i) (by omega)
  have e2:=args_at (a:=b) (i:=i) (by omega)
  have e3:(jO a)[i]? = (jO b)[i]? := by rw [h3]
  unfold jO at e3
  rw [lC,lC,e1,e2] at e3
  simp only [jn,dO] at e3
  have es:=CE e3
  have ev:=(wa.jE i aO).2
  have ew:=(wb.jE i (by omega)).2
  rw [es] at ev
  have:(a.arg i).v=(b.arg i).v:=ev.trans ew.symm
  calc a.arg i=⟨(a.arg i).v,(a.arg i).s⟩:=rfl
   _=⟨(b.arg i).v,(b.arg i).s⟩:=by rw [this,es]
   _=b.arg i:=rfl
 .rw [wa.rest i (by omega) hi,wb.rest i (by omega) hi]
theorem zxj (wa:iI a) (wb:iI b):aX a b=0↔a=b:=⟨λh=>zjD wa wb (bT.1 h),λh=>by rw [h];exact Jg _⟩
def lN (l:aS):Prop:=∀ x∈l,iI x
theorem lN.app {m:aS} (h:lN l) (g:lN m):lN (l++m):=λx hx=>(mj.1 hx).elim (h x) (g x)
theorem lN.sort (h:lN l):lN (eo l):=λx hx=>h x ((qG l).mem hx)
theorem zjm (h:lN l) {x:ak}:x∈eo l↔x∈l:=by
 refine ⟨λhx=>(qG l).mem hx,λhx=>?_⟩
 obtain ⟨y,hy,e⟩:=(qG l).wC x hx
 have:=zjD (h y ((qG l).mem hy)) (h x hx) e
 subst this
 exact hy
theorem ztm (p:ak->Bool) (h:ef l):ef (l.filter p):=h.sublist JE
end Go.Am
namespace Go.Am
theorem zqS (b:Bool):CC undef b=false:=rfl
theorem zze (e:Env) (d:Nat) (v:ab):put e (some d) v=Env.set e d v:=rfl
theorem zzd (e:Env) (v:ab):put e none v=e:=rfl
theorem zyq (v:ab) (r:Env):Env.get (v::r) 0=v:=rfl
theorem zyp (v:ab) (r:Env) (n:Nat):Env.get (v::r) (n+1)=Env.get r n:=rfl
theorem zzk (x v:ab) (r:Env):Env.set (x::r) 0 v=v::r:=rfl
theorem zzj (x v:ab) (r:Env) (n:Nat):Env.set (x::r) (n+1) v=x::Env.set r n v:=rfl
theorem zCp (e:Env) (t:Nat):bt e (.tmp t)=e.get t:=rfl
theorem zyo (e:Env) (v:ab):bt e (.const v)=v:=rfl
theorem zvY (e:Env) (g:Nat):bt e (.global g)=.pointer (some ⟨g,0,none⟩):=rfl
theorem zAY (e:Env) (f:FuncId):bt e (.func f)=.func (.func f) #[] #[]:=rfl
theorem ztu (b:Bool):(Value.bool b).cells=#[.bool b]:=rfl
theorem zvM (k:IntKind) (i:Int):(Value.int k i).cells=#[.int k i]:=rfl
theorem zof (s:au):(Value.string s).cells=#[.string s]:=rfl
theorem zqx (a:Option Addr) (n c:Nat):(Value.slice a n c).cells=#[.slice a n c]:=rfl
theorem zmv (a:Option Addr):(Value.pointer a).cells=#[.pointer a]:=rfl
theorem zvN (a:Option Nat):(Value.map a).cells=#[.map a]:=rfl
theorem ztv (f:Fn) (a b:Array ab):(Value.func f a b).cells=#[.func f a b]:=rfl
theorem zqw (t:TypeId) (v:ab):(Value.iface t v).cells=#[.iface t v]:=rfl
theorem zvL (cs:Array ab):(Value.agg cs).cells=cs:=rfl
theorem zx2 (z:List ab) (n:Nat):oT z n=(List.replicate n z).flatten:=rfl
theorem zuJ (cs:List ab) (o:Nat) (vs:List ab):aB cs o vs=cs.take o++vs++cs.drop (o+vs.length):=rfl
theorem zAP (cs:List ab) (o n:Nat):cut cs o n=if o+n<=cs.length then some ((cs.drop o).take n) else none:=rfl
def jr (J:Nat->ab):Nat->Nat->Env->Env
 |_,0,r=>r
 |a,n+1,r=>J a::jr J (a+1) n r
theorem zBc (J:Nat->ab) (a:Nat) (r:Env):jr J a 0 r=r:=rfl
theorem zBb (J:Nat->ab) (a n:Nat) (r:Env):jr J a (n+1) r=J a::jr J (a+1) n r:=rfl
def DU:=PLift.up (And.intro @zBc <| And.intro @zBb <| And.intro @zqS <| And.intro @zze <| And.intro @zzd <| And.intro @zyq <| And.intro @zyp <| And.intro @zzk <| And.intro @zzj <| And.intro @zCp <| And.intro @zyo <| And.intro @zvY <| And.intro @zAY <| And.intro @ztu <| And.intro @zvM <| And.intro @zof <| And.intro @zqx <| And.intro @zmv <| And.intro @zvN <| And.intro @ztv <| And.intro @zqw <| And.intro @zvL <| And.intro @zx2 <| And.intro @zuJ <| And.intro @zAP <| And.intro @Option.map_some.{0,0} <| And.intro @Option.bind_some.{0,0} <| And.intro @List.length_cons.{0} <| And.intro @List.length_nil.{0} <| And.intro @List.cons_append.{0} <| And.intro @List.nil_append.{0} <| And.intro @List.getElem?_cons_zero.{0} <| And.intro @List.getElem?_cons_succ.{0} <| And.intro @decide_true <| And.intro @decide_false <| And.intro @Int.cast_ofNat_Int <| And.intro @Int.zero_le_ofNat <| And.intro @Int.le_refl <| And.intro @and_self <| And.intro @and_true <| And.intro @true_and <| And.intro @if_true.{1} <| And.intro @if_false.{1} <| And.intro @Nat.zero_add <| And.intro @Bool.not_true <| And.intro @Bool.not_false <| And.intro @Int.toNat_natCast <| And.intro @zv6 <| And.intro @zv7 <| And.intro @List.replicate_zero.{0} <| And.intro @List.replicate_succ.{0} <| And.intro @List.flatten_cons.{0} <| And.intro @List.flatten_nil.{0} <| And.intro @List.take_succ_cons.{0} <| And.intro @List.take_zero.{0} <| And.intro @List.drop_succ_cons.{0} <| And.intro @List.drop_zero.{0} <| And.intro @List.append_nil.{0} <| And.intro @Bool.or_self <| And.intro @Bool.false_eq_true <| And.intro @beq_self_eq_true.{0} <| And.intro @List.size_toArray.{0} <| And.intro @List.append_assoc.{0} <| And.intro @zAF <| And.intro @zAG <| And.intro @ztW <| And.intro @zwr <| And.intro @zvq <| And.intro @zqm <| And.intro @znY <| And.intro @zmk <| And.intro @znW <| And.intro @znX <| And.intro @zpK <| And.intro @zrx <| And.intro @zry <| And.intro @zvn <| And.intro @bM <| @bc)
theorem lx:type_of% DU.down:=DU.down
def DV:=PLift.up (And.intro syms lx)
theorem aa:type_of% DV.down:=DV.down
end Go.Am
namespace Go.Am
variable {a:ak}
def tk (s:au):Prop:=(⟨#[115,97,121,115]⟩:au)=s\/(⟨#[105,102]⟩:au)=s\/(⟨#[99,97,110,115,97,121]⟩:au)=s\/(⟨#[112,114,105,110,99,105,112,97,108]⟩:au)=s\/(⟨#[112,114,101,100]⟩:au)=s\/(⟨#[99,108,101,97,114]⟩:au)=s\/(⟨#[113,117,111,116,97]⟩:au)=s\/(⟨#[98,117,100,103,101,116]⟩:au)=s
structure NS (s:au):Prop where
 pos:1<=s.size
 len:s.size<=255
 first:mf s 0≠95
 all:∀ i,i < s.size->rR (mf s i)
def js (s:au):Prop:=NS s/\¬ tk s
def qK (s:au):Prop:=js s/\(97<=mf s 0/\mf s 0<=122)
structure Ci (s:au):Prop where
 pos:1<=s.size
 len:s.size<=255
 first:65<=mf s 0/\mf s 0<=90
 all:∀ i,i < s.size->mc (mf s i)
def fx (t:aZ):Prop:=if t.v=true then Ci t.s else js t.s
structure gP (a:ak):Prop where
 says:qK a.says
 pred:qK a.pred
 lo:0<=a.n
 hi:a.n<=4
 jE:∀ i:Nat,(i:Int) < a.n->fx (a.arg i)
 rest:∀ i:Nat,a.n<=(i:Int)->i < 4->a.arg i=cT
theorem js.low {s:au} (h:js s):AD s:=⟨h.1.pos,h.1.all⟩
theorem fx.ok {t:aZ} (h:fx t):Ee t:=by
 unfold fx at h
 unfold Ee
 split at h
 .rename_i hv
  rw [hv]
  exact ⟨h.pos,h.first,h.all⟩
 .rename_i hv
  rw [show t.v=false by simpa using hv]
  exact h.low
theorem gP.valid (h:gP a):gO a:=⟨h.says.1.low,h.pred.1.low,h.lo,h.hi,λi hi=>(h.jE i hi).ok,h.rest⟩
def CN (a:ak) (x:au):Prop:=∃ i:Nat,i < 4/\(i:Int) < a.n/\(a.arg i).v=true/\(a.arg i).s=x
structure UA (c:cB):Prop where
 head:gP c.head
 body:∀ b∈c.body,gP b
 Zu:∀ x,CN c.head x->∃ b∈c.body,CN b x
structure j8 (a:ak):Prop where
 valid:gP a
 ground:a.ground=true
structure alb (cl:List cB) (facts:aS):Prop where
 clauses:∀ c∈cl,UA c
 facts:∀ a∈facts,j8 a
theorem tP {t:aZ}:t∈a.args↔∃ i:Nat,i < a.cO/\a.arg i=t:=by
 have h4:a.cO=0\/a.cO=1\/a.cO=2\/a.cO=3\/a.cO=4:=by unfold ak.cO;omega
 unfold ak.args
 have one:∀ {n:Nat} {P:Nat->Prop},(∃ i,i < n+1/\P i)↔(∃ i,i < n/\P i)\/P n:=by
  intro n P
  constructor
  .rintro ⟨i,hi,hp⟩
   by_cases e:i=n
   .subst e;exact .inr hp
   .exact .inl ⟨i,by omega,hp⟩
  .rintro (⟨i,hi,hp⟩|hp)
   .exact ⟨i,by omega,hp⟩
   .exact ⟨n,by omega,hp⟩
 rcases h4 with e|e|e|e|e <;> rw [e] <;> simp [one,ak.arg,eq_comm,or_assoc]
theorem kx:a.ground=true↔∀ i:Nat,i < a.cO->(a.arg i).v=false:=by
 unfold ak.ground
 rw [CO,H2]
 constructor
 .intro h i hi
  have:=h (a.arg i) (tP.2 ⟨i,hi,rfl⟩)
  simpa using this
 .intro h t ht
  obtain ⟨i,hi,rfl⟩:=tP.1 ht
  simpa using h i hi
theorem kq {i:Nat}:i < a.cO↔i < 4/\(i:Int) < a.n:=by
 unfold ak.cO
 omega
theorem vQ {x:au}:CN a x↔∃ i:Nat,i < a.cO/\(a.arg i).v=true/\(a.arg i).s=x:=by
 constructor
 .rintro ⟨i,h1,h2,h3,h4⟩
  exact ⟨i,kq.2 ⟨h1,h2⟩,h3,h4⟩
 .rintro ⟨i,h1,h3,h4⟩
  exact ⟨i,(kq.1 h1).1,(kq.1 h1).2,h3,h4⟩
theorem zpL {T:bI} {t u:TypeId} {w n i:Nat} {cs vs:List ab} {v:ab} {h1:Heap} {bs:List ba} {K:aF} (hb:bs[i]? = some (.row cs u false)) (hs:dg T t=some n) (hc:cs.length=n) (hv:v.cells.toList=vs) (hl:vs.length=n) (kT:vs.all one=true)
 (hK:K undef (h1.lay (bs.set i (.row vs u false)) (min w (h1.size+i)))):iv (iH T t (.pointer (some ⟨h1.size+i,0,none⟩)) v (h1.lay bs w)) K:=by
 have hi:=(dP.1 hb).1
 have hg:(h1.lay bs w).get (h1.size+i)=some (.row cs u false):=by rw [iB];exact hb
 have dx:v.cells.size=n:=by rw [<- qM,hv,hl]
 have cG:aB cs 0 vs=vs:=by
  unfold aB
  rw [xB,pE,List.drop_eq_nil_of_le (by omega),bu]
 have he:iH T t (.pointer (some ⟨h1.size+i,0,none⟩)) v (h1.lay bs w)=some ((h1.lay bs w).set (h1.size+i) (.row vs u false)):=by
  unfold iH
  simp only [hs,dM]
  rw [aE dx,hv]
  unfold ki
  rw [hg]
  simp only
  rw [aE (by simp only [ep,jH];exact ⟨by omega,kT⟩),cG]
 rw [he,QL _ _ _ _ _ hi]
 exact hK
end Go.Am
namespace Go.Am
variable {s:au} {a:ak}
open Classical in
def jN:List Int->Int
 | []=>0
 |e::l=>if e=0 then jN l else e
theorem ztK:jN []=0:=rfl
theorem SY (e:Int) (l:List Int):jN (e::l)=if e=0 then jN l else e:=rfl
theorem bY {l:List Int}:jN l=0↔∀ e∈l,e=0:=by
 induction l with
 |nil=>simp [jN]
 |cons e l ih =>
  rw [SY]
  by_cases h:e=0
  .rw [aE h,ih];simp [h]
  .rw [az h];simp [h]
def bm (b:Bool) (e:Int):Int:=if b then e else 0
theorem Cn {b:Bool} {e:Int} (h:e≠0):bm b e=0↔b=false:=by cases b <;> simp [bm,h]
def ji {Z:Type} (f:List Z->Z->Int):List Z->List Z->Int
 |_,[]=>0
 |pre,x::l=>if f pre x=0 then ji f (pre++[x]) l else f pre x
theorem uB {Z:Type} {f:List Z->Z->Int} {l:List Z} {i:Nat} {x:Z} (hx:l[i]? = some x):ji f (l.take i) (l.drop i)=if f (l.take i) x=0 then ji f (l.take (i+1)) (l.drop (i+1)) else f (l.take i) x:=by
 have hi:=dP.1 hx
 rw [Eg hi.1,hi.2,oW,hx]
 rfl
theorem Hq {Z:Type} {f:List Z->Z->Int} {l:List Z} {i:Nat} (hi:l.length<=i):ji f (l.take i) (l.drop i)=0:=by
 rw [zG hi];rfl
theorem ku {Z:Type} {f:List Z->Z->Int}:∀ {l pre:List Z},ji f pre l=0↔∀ i x,l[i]? = some x->f (pre++l.take i) x=0
 | [],pre=>by simp [ji]
 |y::l,pre=>by
  unfold ji
  by_cases h:f pre y=0
  .rw [aE h,ku]
   constructor
   .intro g i x hx
    cases i with
    |zero=>simp at hx;subst hx;simpa using h
    |succ i=>have:=g i x (by simpa using hx);simpa using this
   .intro g i x hx
    have:=g (i+1) x (by simpa using hx)
    simpa using this
  .rw [az h]
   constructor
   .intro g;exact absurd g h
   .intro g;exact absurd (by simpa using g 0 y rfl) h
open Classical in
def qt (s:au):Bool:=decide (qK s)
open Classical in
def Rt (t:aZ):Bool := !decide (fx t)
def pB (a:ak):Int :=
 if qt a.says && qt a.pred then (if a.n < 0\/4 < a.n then 4 else if a.args.any Rt then 3 else if (a.all.drop a.cO).any (λt => !decide (t=cT)) then 15 else 0) else 3
theorem cY:qt s=true↔qK s:=by unfold qt;simp
theorem zpj (h:¬ qK s):qt s=false:=by unfold qt;simp [h]
theorem zlY (h:¬ qK a.says\/¬ qK a.pred):pB a=3:=by
 unfold pB
 rw [az]
 rw [ep,cY,cY]
 exact λx=>h.elim (λy=>y x.1) (λy=>y x.2)
theorem zxH (h1:qK a.says) (h2:qK a.pred) (h:a.n < 0\/4 < a.n):pB a=4:=by
 unfold pB
 rw [aE (by rw [ep,cY,cY];exact ⟨h1,h2⟩),aE h]
theorem zuX (h1:qK a.says) (h2:qK a.pred) (h3:¬ (a.n < 0\/4 < a.n)) (h:a.args.any Rt=true):pB a=3:=by
 unfold pB
 rw [aE (by rw [ep,cY,cY];exact ⟨h1,h2⟩),az h3,aE h]
theorem zuW (h1:qK a.says) (h2:qK a.pred) (h3:¬ (a.n < 0\/4 < a.n)) (h4:a.args.any Rt=false):pB a=if (a.all.drop a.cO).any (λt => !decide (t=cT)) then 15 else 0:=by
 unfold pB
 rw [aE (by rw [ep,cY,cY];exact ⟨h1,h2⟩),az h3,az (by rw [h4];decide)]
def cp (l:List au) (s:au):Bool:=l.any λx=>decide (s=x)
theorem dw {l:List au}:cp l s=true↔s∈l:=by
 unfold cp
 rw [xy]
 exact ⟨λ⟨x,hx,e⟩=>by rw [of_decide_eq_true e];exact hx,λh=>⟨s,h,by simp⟩⟩
def xi (l:List da) (s:au):Int × Bool:=match l.find? (λx=>decide (x.name=s)) with
 |some x=>(x.arity,true)
 |none=>(0,false)
def rP (d:aq) (a:ak):Int:=jN [pB a,bm (!cp d.ah a.says) 6,bm (!(xi d.bZ a.pred).2) 7,bm (!decide ((xi d.bZ a.pred).1=a.n)) 8]
def zqQ (a:ak):Bool:=a.ground
def jk (d:aq) (s:au) (a:ak):Int:=jN [bm (!cp d.ah s) 6,rP d a,bm (!zqQ a) 10,bm (!decide (a.says=s)) 11]
def HU (l:List au):Int:=if l.length < 1\/16 < l.length then 4 else ji (λpre w=>jN [bm (!qt w) 3,bm (cp pre w) 5]) [] l
def Rf (l:List da):Int:=if 32 < l.length then 4 else ji (λpre x=>jN [bm (!qt x.name) 3,bm (cp (pre.map da.name) x.name) 5,bm (decide (x.arity < 0\/4 < x.arity)) 4]) [] l
def wi (ps:List au) (c:bz):Int:=if c.reads.length < 1\/16 < c.reads.length then 4 else ji (λpre w=>jN [bm (!cp ps w) 6,bm (decide (w=c.who)) 11,bm (cp pre w) 5]) [] c.reads
def HB (ps:List au) (l:List bz):Int:=ji (λpre c=>jN [bm (!cp ps c.who) 6,bm (cp (pre.map bz.who) c.who) 5,wi ps c]) [] l
def Hx (d:aq):Int:=bm (decide (d.i6 < 0\/1000 < d.i6) || decide (d.fE < 1\/1048576 < d.fE) || decide (64 < d.rules.length+d.bK.length)) 4
def Rl (d:aq) (l:aS):Int:=ji (λ_ a=>rP d a) [] l
def Az (d:aq) (head:ak) (body:aS):Int:=jN [rP d head,bm (decide (6 < body.length)) 4,Rl d body]
open Classical in
def HG (c:cB):Int:=bm (decide (∃ x,CN c.head x/\∀ a∈c.body,¬ CN a x)) 9
def Un (d:aq) (c:cB):Int:=jN [Az d c.head c.body,HG c]
def zwf (d:aq) (g:eZ):Int:=jN [bm (!cp d.ah g.to) 6,bm (decide (g.to=g.head.says)) 11,Az d g.head g.body]
def Rj (d:aq):Int:=jN [ji (λ_ c=>Un d c) [] d.rules,ji (λ_ g=>zwf d g) [] d.bK]
def zy (d:aq):Int:=jN [HU d.ah,Rf d.bZ,HB d.ah d.aR,Hx d,Rj d]
abbrev aM.L5:aM ab:={ k:=1,R:=λ_ cs x=>cs=[x]/\one x=true,len:=by rintro _ cs x ⟨rfl,_⟩;rfl,mono:=λ_ _ _ _ _ h=>h,jf:=by rintro _ cs x ⟨rfl,h⟩;simp [h] }
theorem zwk {T:bI} {t e:TypeId} {kd:IntKind} {i:Int} {v:ab} {h1:Heap} {bs:List ba} {w:Nat} {K:aF} {l:List ab} {x:ab} (f:Sl aM.L5 h1 v l) (hd:T.desc t=some (.slice e)) (hs:dg T e=some 1) (h0:0<=i) (hx:l[i.toNat]? = some x) (hk:∀ p,eF h1 p [x]->K p (h1.lay bs w)):aC (kh T t v (.int kd i)) (h1.lay bs w) K:=by
 have hi:=(dP.1 hx).1
 refine AB f hd hs h0 (by omega) (λx' p cs mF hr hp=>?_)
 rw [hx] at mF
 cases mF
 exact hk p (hr.1 ▸ hp)
end Go.Am
