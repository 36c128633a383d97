/- What the arguments' cells are: policies, names, steps. Written out by fill2.py. No condition. -/
import Derived.Test.YtkgojconmeeegaaGreatDoorG14
set_option linter.unusedSimpArgs false
set_option linter.unusedVariables false
noncomputable section
namespace Go.Proofs.YtkgojconmeeegaaGreatDoor
open Go.Am Tryz
set_option maxRecDepth 100000
variable {v:ae} {n:Nat} {h:Heap} {cs:List ae}
theorem zoz:prog.cellsOf 73=2:=by kernel_rfl
theorem zox:prog.cellsOf 75=2:=by kernel_rfl
theorem zoA:prog.cellsOf 77=12:=by kernel_rfl
theorem zoy:prog.cellsOf 80=13:=by kernel_rfl
theorem zul:prog.cellsOf 28=7:=by kernel_rfl
theorem zka (hs:eJ prog h (n+2) 22 [v]):∃ l,Sl aJ.str h v l :=
 HR underlying22 zum (λcs hc=>CF hc) hs
theorem zt6 (hs:wY prog h (n+1) 9 v):∃ s:aB,v=.string s:=by
 unfold wY at hs
 rw [underlying9] at hs
 obtain ⟨s,hs⟩:=CF hs
 simp only [List.cons.injEq,and_true] at hs
 exact ⟨s,hs⟩
theorem ztu {k:Nat} (h:k < cs.length):∃ v,(cs.drop k).take 1=[v]:=by
 rw [C0 h]
 exact ⟨_,rfl⟩
theorem zAI (hs:eJ prog h (n+2) 73 cs):∃ x,aJ.pred.R h cs x:=by
 unfold eJ at hs
 rw [underlying73] at hs
 obtain ⟨hl,hf⟩:=hs
 rw [zoz] at hl
 match cs,hl with
 | [a,b],_ =>
  have h0:eJ prog h (n+1) 9 (([a,b].drop 0).take 1):=hf 0 _ rfl
  have h1:eJ prog h (n+1) 3 (([a,b].drop 1).take 1):=hf 1 _ rfl
  obtain ⟨s,e0⟩:=CF h0
  obtain ⟨i,e1,_⟩:=RM h1
  simp at e0 e1
  subst e0 e1
  exact ⟨⟨s,i⟩,rfl⟩
theorem zyF (hs:eJ prog h (n+3) 75 cs):∃ x,aJ.clear.R h cs x:=by
 unfold eJ at hs
 rw [underlying75] at hs
 obtain ⟨hl,hf⟩:=hs
 rw [zox] at hl
 match cs,hl with
 | [a,b],_ =>
  have h0:eJ prog h (n+2) 9 (([a,b].drop 0).take 1):=hf 0 _ rfl
  have h1:eJ prog h (n+2) 22 (([a,b].drop 1).take 1):=hf 1 _ rfl
  obtain ⟨s,e0⟩:=CF h0
  obtain ⟨l,e1⟩:=zka h1
  simp at e0
  subst e0
  exact ⟨⟨s,l⟩,_,rfl,e1⟩
theorem zAJ (hs:eJ prog h (n+6) 77 cs):∃ x,aJ.clause.R h cs x:=by
 unfold eJ at hs
 rw [underlying77] at hs
 obtain ⟨hl,hf⟩:=hs
 rw [zoA] at hl
 have h0:eJ prog h (n+5) 34 ((cs.drop 0).take 11):=hf 0 _ rfl
 have h1:eJ prog h (n+5) 44 ((cs.drop 11).take 1):=hf 1 _ rfl
 obtain ⟨a,ha⟩:=RG (n:=n+1) h0
 obtain ⟨v,hv⟩:=ztu (cs:=cs) (k:=11) (by omega)
 rw [hv] at h1
 obtain ⟨l,j7⟩:=zqa h1
 refine ⟨⟨a,l⟩,v,?_,j7⟩
 have e1:cs=cs.take 11++cs.drop 11:=(qo 11 cs).symm
 rw [fX (by simp;omega)] at hv
 rw [zO] at ha
 rw [e1,ha,hv]
theorem zyG (hs:eJ prog h (n+6) 80 cs):∃ x,aJ.q9.R h cs x:=by
 unfold eJ at hs
 rw [underlying80] at hs
 obtain ⟨hl,hf⟩:=hs
 rw [zoy] at hl
 match cs,hl with
 |c0::cs,hl =>
  have hl:cs.length=12:=by simpa using hl
  have h0:eJ prog h (n+5) 9 (((c0::cs).drop 0).take 1):=hf 0 _ rfl
  have h1:eJ prog h (n+5) 34 ((cs.drop 0).take 11):=hf 1 _ rfl
  have h2:eJ prog h (n+5) 44 ((cs.drop 11).take 1):=hf 2 _ rfl
  obtain ⟨s,e0⟩:=CF h0
  obtain ⟨a,ha⟩:=RG (n:=n+1) h1
  obtain ⟨v,hv⟩:=ztu (cs:=cs) (k:=11) (by omega)
  rw [hv] at h2
  obtain ⟨l,j7⟩:=zqa h2
  simp at e0
  subst e0
  refine ⟨⟨s,a,l⟩,v,?_,j7⟩
  have e1:cs=cs.take 11++cs.drop 11:=(qo 11 cs).symm
  rw [fX (by simp;omega)] at hv
  rw [zO] at ha
  rw [e1,ha,hv]
theorem zt5 (hs:wY prog h (n+8) 28 v):∃ d,L3 h v d:=by
 unfold wY at hs
 rw [underlying28] at hs
 obtain ⟨cs,rfl,hc⟩:=hs
 unfold eJ at hc
 rw [underlying28] at hc
 obtain ⟨hl,hf⟩:=hc
 rw [zul] at hl
 match cs,hl with
 | [c0,c1,c2,c3,c4,c5,c6],_ =>
  have h0:eJ prog h (n+7) 22 (([c0,c1,c2,c3,c4,c5,c6].drop 0).take 1):=hf 0 _ rfl
  have h1:eJ prog h (n+7) 23 (([c0,c1,c2,c3,c4,c5,c6].drop 1).take 1):=hf 1 _ rfl
  have h2:eJ prog h (n+7) 24 (([c0,c1,c2,c3,c4,c5,c6].drop 2).take 1):=hf 2 _ rfl
  have h3:eJ prog h (n+7) 3 (([c0,c1,c2,c3,c4,c5,c6].drop 3).take 1):=hf 3 _ rfl
  have h4:eJ prog h (n+7) 3 (([c0,c1,c2,c3,c4,c5,c6].drop 4).take 1):=hf 4 _ rfl
  have h5:eJ prog h (n+7) 25 (([c0,c1,c2,c3,c4,c5,c6].drop 5).take 1):=hf 5 _ rfl
  have h6:eJ prog h (n+7) 26 (([c0,c1,c2,c3,c4,c5,c6].drop 6).take 1):=hf 6 _ rfl
  obtain ⟨l0,g0⟩:=zka h0
  obtain ⟨l1,g1⟩:=HR (n:=n+6) underlying23 zoz (λcs hc=>zAI hc) h1
  obtain ⟨l2,g2⟩:=HR (n:=n+6) underlying24 zox (λcs hc=>zyF hc) h2
  obtain ⟨i3,e3,_⟩:=RM h3
  obtain ⟨i4,e4,_⟩:=RM h4
  obtain ⟨l5,g5⟩:=HR (n:=n+6) underlying25 zoA (λcs hc=>zAJ hc) h5
  obtain ⟨l6,g6⟩:=HR (n:=n+6) underlying26 zoy (λcs hc=>zyG hc) h6
  simp at e3 e4
  subst e3 e4
  exact ⟨⟨l0,l1,l2,i3,i4,l5,l6⟩,_,_,_,_,_,_,_,rfl,⟨g0,g1,g2,g5,g6⟩⟩
end Go.Proofs.YtkgojconmeeegaaGreatDoor
namespace Go.Am
variable {s:aB} {a b:ak}
def lT (c:Int):Prop:=(97<=c/\c<=122)\/(65<=c/\c<=90)\/(48<=c/\c<=57)\/c=95
def rZ (c:Int):Prop:=(97<=c/\c<=122)\/(48<=c/\c<=57)\/c=95
def AD (s:aB):Prop:=1<=s.size/\∀ i,i < s.size->rZ (lW s i)
def U1 (s:aB):Prop:=1<=s.size/\(65<=lW s 0/\lW s 0<=90)/\∀ i,i < s.size->lT (lW s i)
def EA (t:aH):Prop:=if t.v then U1 t.s else AD t.s
structure gN (a:ak):Prop where
 says:AD a.says
 pred:AD a.pred
 lo:0<=a.n
 hi:a.n<=4
 k9:∀ i:Nat,(i:Int) < a.n->EA (a.arg i)
 rest:∀ i:Nat,a.n<=(i:Int)->i < 4->a.arg i=cu
def zxo (s:aB):Bool:=decide (65<=lW s 0) && decide (lW s 0<=90)
structure iv (a:ak):Prop where
 says:Word a.says.data.toList
 pred:Word a.pred.data.toList
 lo:0<=a.n
 hi:a.n<=4
 k9:∀ i:Nat,(i:Int) < a.n->Word (a.arg i).s.data.toList/\(a.arg i).v=zxo (a.arg i).s
 rest:∀ i:Nat,a.n<=(i:Int)->i < 4->a.arg i=cu
theorem zlj {c:UInt8} (h:c∈s.data.toList):∃ i,i < s.size/\lW s i=c.toNat:=by
 obtain ⟨i,hi,he⟩:=JR h
 have qz:i < s.size:=by rw [<- Fi];exact hi
 refine ⟨i,qz,?_⟩
 unfold lW
 have:s[i]? = some s[i]:=by simp [qz]
 rw [this]
 simp only [J3]
 have h2:s[i]=c:=by rw [<- he];rfl
 rw [h2]
theorem znE (h:AD s):Word s.data.toList:=by
 intro c hc
 obtain ⟨i,hi,he⟩:=zlj hc
 have:=h.2 i hi
 unfold rZ at this
 unfold pt
 omega
theorem zBi (h:U1 s):Word s.data.toList:=by
 intro c hc
 obtain ⟨i,hi,he⟩:=zlj hc
 have:=h.2.2 i hi
 unfold lT at this
 unfold pt
 omega
theorem gN.plain (w:gN a):iv a:=by
 refine ⟨znE w.says,znE w.pred,w.lo,w.hi,λi hi=>?_,w.rest⟩
 have h:=w.k9 i hi
 unfold EA at h
 cases hv:(a.arg i).v
 .rw [hv] at h
  have h:AD (a.arg i).s:=h
  refine ⟨znE h,?_⟩
  have:=h.2 0 h.1
  unfold rZ at this
  unfold zxo
  rw [eq_comm,RW,decide_eq_false_iff_not,decide_eq_false_iff_not]
  omega
 .rw [hv] at h
  have h:U1 (a.arg i).s:=h
  refine ⟨zBi h,?_⟩
  unfold zxo
  rw [sY h.2.1.1,sY h.2.1.2]
  rfl
theorem zyZ (a:ak):cF a=SP a.says.data.toList a.pred.data.toList (jJ a):=by
 unfold cF SP Kk jJ Kj dB
 cases h:a.args with
 |nil=>simp
 |cons t r=>simp
theorem args_at {i:Nat} (h:i < a.cU):a.args[i]? = some (a.arg i):=by
 have hc:a.cU<=4:=EN _ _
 unfold ak.args
 rw [lX,aE h]
 have:i=0\/i=1\/i=2\/i=3:=by omega
 rcases this with rfl|rfl|rfl|rfl <;> rfl
theorem zBV (h0:a.says=b.says) (h1:a.pred=b.pred) (h2:a.n=b.n) (h:∀ i,i < 4->a.arg i=b.arg i):a=b:=by
 have e0:=h 0 (by omega)
 have e1:=h 1 (by omega)
 have e2:=h 2 (by omega)
 have e3:=h 3 (by omega)
 obtain ⟨s,p,n,t0,t1,t2,t3⟩:=a
 obtain ⟨s',p',n',u0,u1,u2,u3⟩:=b
 simp only [ak.arg] at e0 e1 e2 e3
 simp only at h0 h1 h2
 subst h0 h1 h2 e0 e1 e2 e3
 rfl
theorem zjV (w:iv a):∀ x∈jJ a,Word x:=by
 intro x hx
 obtain ⟨t,ht,rfl⟩:=ud.1 hx
 obtain ⟨i,hi⟩:=AP ht
 have aP:i < a.cU:=by
  have h1:=(dz.1 hi).1
  unfold ak.args at h1
  rw [fj] at h1
  omega
 rw [args_at aP] at hi
 cases hi
 have:(i:Int) < a.n:=by
  have:a.cU<=a.n.toNat:=zN _ _
  omega
 exact (w.k9 i this).1
theorem zjU (wa:iv a) (wb:iv b) (h:cF a=cF b):a=b:=by
 rw [zyZ,zyZ] at h
 obtain ⟨h1,h2,h3⟩:=zA3 wa.says wb.says wa.pred wb.pred (zjV wa) (zjV wb) h
 have hlen:=congrArg List.length h3
 have kE:(a.cU:Int)=a.n:=by
  have:=wa.lo;have:=wa.hi
  unfold ak.cU
  omega
 have IF:(b.cU:Int)=b.n:=by
  have:=wb.lo;have:=wb.hi
  unfold ak.cU
  omega
 have IJ:(jJ a).length=a.cU:=by
  have:a.cU<=4:=EN _ _
  unfold jJ ak.args
  rw [fV,fj]
  simp only [de,dr]
  omega
 have Tu:(jJ b).length=b.cU:=by
  have:b.cU<=4:=EN _ _
  unfold jJ ak.args
  rw [fV,fj]
  simp only [de,dr]
  omega
 rw [IJ,Tu] at hlen
 have hn:a.n=b.n:=by omega
 refine zBV (AF h1) (AF h2) hn (λi hi=>?_)
 by_cases aK:(i:Int) < a.n
 .have e1:=args_at (a:=a) (i:=i) (by omega)
  have e2:=args_at (a:=b) (i:=i) (by omega)
  have e3:(jJ a)[i]? = (jJ b)[i]? := by rw [h3]
  unfold jJ at e3
  rw [lB,lB,e1,e2] at e3
  simp only [jZ,dY] at e3
  have es:=AF e3
  have ev:=(wa.k9 i aK).2
  have ew:=(wb.k9 i (by omega)).2
  rw [es] at ev
  have:(a.arg i).v=(b.arg i).v:=ev.trans ew.symm
  calc a.arg i=⟨(a.arg i).v,(a.arg i).s⟩:=rfl
   _=⟨(b.arg i).v,(b.arg i).s⟩:=by rw [this,es]
   _=b.arg i:=rfl
 .rw [wa.rest i (by omega) hi,wb.rest i (by omega) hi]
theorem zyw (wa:iv a) (wb:iv b):aT a b=0↔a=b:=⟨λh=>zjU wa wb (bW.1 h),λh=>by rw [h];exact Jr _⟩
def xm (l:aW):Prop:=∀ x∈l,iv x
theorem zxH {l:aW} (h:xm l) {x:ak}:x∈eG l↔x∈l:=by
 refine ⟨λhx=>(qK l).mem hx,λhx=>?_⟩
 obtain ⟨y,hy,e⟩:=(qK l).wC x hx
 have:=zjU (h y ((qK l).mem hy)) (h x hx) e
 subst this
 exact hy
theorem zt9 {l:aW} (p:ak->Bool) (h:eh l):eh (l.filter p):=h.sublist RY
end Go.Am
namespace Go.Am
theorem zrA (b:Bool):CT undef b=false:=rfl
theorem zAA (e:Env) (d:Nat) (v:ae):put e (some d) v=Env.set e d v:=rfl
theorem zAz (e:Env) (v:ae):put e none v=e:=rfl
theorem zzH (v:ae) (r:Env):Env.get (v::r) 0=v:=rfl
theorem zzG (v:ae) (r:Env) (n:Nat):Env.get (v::r) (n+1)=Env.get r n:=rfl
theorem zAG (x v:ae) (r:Env):Env.set (x::r) 0 v=v::r:=rfl
theorem zAF (x v:ae) (r:Env) (n:Nat):Env.set (x::r) (n+1) v=x::Env.set r n v:=rfl
theorem zDS (e:Env) (t:Nat):bz e (.tmp t)=e.get t:=rfl
theorem zzE (e:Env) (v:ae):bz e (.const v)=v:=rfl
theorem zw5 (e:Env) (g:Nat):bz e (.global g)=.pointer (some ⟨g,0,none⟩):=rfl
theorem zCq (e:Env) (f:FuncId):bz e (.func f)=.func (.func f) #[] #[]:=rfl
theorem zuj (b:Bool):(Value.bool b).cells=#[.bool b]:=rfl
theorem zwR (k:IntKind) (i:Int):(Value.int k i).cells=#[.int k i]:=rfl
theorem zoB (s:aB):(Value.string s).cells=#[.string s]:=rfl
theorem zrb (a:Option Addr) (n c:Nat):(Value.slice a n c).cells=#[.slice a n c]:=rfl
theorem zmy (a:Option Addr):(Value.pointer a).cells=#[.pointer a]:=rfl
theorem zwS (a:Option Nat):(Value.map a).cells=#[.map a]:=rfl
theorem zuk (f:Fn) (a b:Array ae):(Value.func f a b).cells=#[.func f a b]:=rfl
theorem zra (t:TypeId) (v:ae):(Value.iface t v).cells=#[.iface t v]:=rfl
theorem zwQ (cs:Array ae):(Value.agg cs).cells=cs:=rfl
theorem zzi (z:List ae) (n:Nat):oU z n=(List.replicate n z).flatten:=rfl
theorem zvK (cs:List ae) (o:Nat) (vs:List ae):aF cs o vs=cs.take o++vs++cs.drop (o+vs.length):=rfl
theorem zCh (cs:List ae) (o n:Nat):cut cs o n=if o+n<=cs.length then some ((cs.drop o).take n) else none:=rfl
def jr (J:Nat->ae):Nat->Nat->Env->Env
 |_,0,r=>r
 |a,n+1,r=>J a::jr J (a+1) n r
theorem zCH (J:Nat->ae) (a:Nat) (r:Env):jr J a 0 r=r:=rfl
theorem zCG (J:Nat->ae) (a n:Nat) (r:Env):jr J a (n+1) r=J a::jr J (a+1) n r:=rfl
def El:=PLift.up (And.intro @zCH <| And.intro @zCG <| And.intro @zrA <| And.intro @zAA <| And.intro @zAz <| And.intro @zzH <| And.intro @zzG <| And.intro @zAG <| And.intro @zAF <| And.intro @zDS <| And.intro @zzE <| And.intro @zw5 <| And.intro @zCq <| And.intro @zuj <| And.intro @zwR <| And.intro @zoB <| And.intro @zrb <| And.intro @zmy <| And.intro @zwS <| And.intro @zuk <| And.intro @zra <| And.intro @zwQ <| And.intro @zzi <| And.intro @zvK <| And.intro @zCh <| And.intro @Option.map_some.{0,0} <| And.intro @Option.bind_some.{0,0} <| And.intro @List.length_cons.{0} <| And.intro @List.length_nil.{0} <| And.intro @List.cons_append.{0} <| And.intro @List.nil_append.{0} <| And.intro @List.getElem?_cons_zero.{0} <| And.intro @List.getElem?_cons_succ.{0} <| And.intro @decide_true <| And.intro @decide_false <| And.intro @Int.cast_ofNat_Int <| And.intro @Int.zero_le_ofNat <| And.intro @Int.le_refl <| And.intro @and_self <| And.intro @and_true <| And.intro @true_and <| And.intro @if_true.{1} <| And.intro @if_false.{1} <| And.intro @Nat.zero_add <| And.intro @Bool.not_true <| And.intro @Bool.not_false <| And.intro @Int.toNat_natCast <| And.intro @zxe <| And.intro @zxf <| And.intro @List.replicate_zero.{0} <| And.intro @List.replicate_succ.{0} <| And.intro @List.flatten_cons.{0} <| And.intro @List.flatten_nil.{0} <| And.intro @List.take_succ_cons.{0} <| And.intro @List.take_zero.{0} <| And.intro @List.drop_succ_cons.{0} <| And.intro @List.drop_zero.{0} <| And.intro @List.append_nil.{0} <| And.intro @Bool.or_self <| And.intro @Bool.false_eq_true <| And.intro @beq_self_eq_true.{0} <| And.intro @List.size_toArray.{0} <| And.intro @List.append_assoc.{0} <| And.intro @zB7 <| And.intro @zB8 <| And.intro @zuR <| And.intro @zxC <| And.intro @zwr <| And.intro @zq2 <| And.intro @zok <| And.intro @zmn <| And.intro @zoi <| And.intro @zoj <| And.intro @zqk <| And.intro @zso <| And.intro @zsp <| And.intro @zwo <| And.intro @bG <| @bf)
theorem cR:type_of% El.down:=El.down
def Em:=PLift.up (And.intro syms cR)
theorem aa:type_of% Em.down:=Em.down
end Go.Am
namespace Go.Am
variable {a:ak}
def tN (s:aB):Prop:=(⟨#[115,97,121,115]⟩:aB)=s\/(⟨#[105,102]⟩:aB)=s\/(⟨#[99,97,110,115,97,121]⟩:aB)=s\/(⟨#[112,114,105,110,99,105,112,97,108]⟩:aB)=s\/(⟨#[112,114,101,100]⟩:aB)=s\/(⟨#[99,108,101,97,114]⟩:aB)=s\/(⟨#[113,117,111,116,97]⟩:aB)=s\/(⟨#[98,117,100,103,101,116]⟩:aB)=s
structure OI (s:aB):Prop where
 pos:1<=s.size
 len:s.size<=255
 first:lW s 0≠95
 all:∀ i,i < s.size->rZ (lW s i)
def ki (s:aB):Prop:=OI s/\¬ tN s
def qQ (s:aB):Prop:=ki s/\(97<=lW s 0/\lW s 0<=122)
structure CB (s:aB):Prop where
 pos:1<=s.size
 len:s.size<=255
 first:65<=lW s 0/\lW s 0<=90
 all:∀ i,i < s.size->lT (lW s i)
def fM (t:aH):Prop:=if t.v=true then CB t.s else ki t.s
structure jk (a:ak):Prop where
 says:qQ a.says
 pred:qQ a.pred
 lo:0<=a.n
 hi:a.n<=4
 k9:∀ i:Nat,(i:Int) < a.n->fM (a.arg i)
 rest:∀ i:Nat,a.n<=(i:Int)->i < 4->a.arg i=cu
theorem ki.low {s:aB} (h:ki s):AD s:=⟨h.1.pos,h.1.all⟩
theorem fM.ok {t:aH} (h:fM t):EA t:=by
 unfold fM at h
 unfold EA
 split at h
 .rename_i hv
  rw [hv]
  exact ⟨h.pos,h.first,h.all⟩
 .rename_i hv
  rw [show t.v=false by simpa using hv]
  exact h.low
theorem jk.valid (h:jk a):gN a:=⟨h.says.1.low,h.pred.1.low,h.lo,h.hi,λi hi=>(h.k9 i hi).ok,h.rest⟩
def Dc (a:ak) (x:aB):Prop:=∃ i:Nat,i < 4/\(i:Int) < a.n/\(a.arg i).v=true/\(a.arg i).s=x
structure Vq (c:cz):Prop where
 head:jk c.head
 body:∀ b∈c.body,jk b
 aar:∀ x,Dc c.head x->∃ b∈c.body,Dc b x
structure lY (a:ak):Prop where
 valid:jk a
 ground:a.ground=true
structure amw (cl:List cz) (facts:aW):Prop where
 clauses:∀ c∈cl,Vq c
 facts:∀ a∈facts,lY a
theorem um {t:aH}:t∈a.args↔∃ i:Nat,i < a.cU/\a.arg i=t:=by
 have h4:a.cU=0\/a.cU=1\/a.cU=2\/a.cU=3\/a.cU=4:=by unfold ak.cU;omega
 unfold ak.args
 have one:∀ {n:Nat} {P:Nat->Prop},(∃ i,i < n+1/\P i)↔(∃ i,i < n/\P i)\/P n:=by
  intro n P
  constructor
  .rintro ⟨i,hi,hp⟩
   by_cases e:i=n
   .subst e;exact .inr hp
   .exact .inl ⟨i,by omega,hp⟩
  .rintro (⟨i,hi,hp⟩|hp)
   .exact ⟨i,by omega,hp⟩
   .exact ⟨n,by omega,hp⟩
 rcases h4 with e|e|e|e|e <;> rw [e] <;> simp [one,ak.arg,eq_comm,or_assoc]
theorem iC:a.ground=true↔∀ i:Nat,i < a.cU->(a.arg i).v=false:=by
 unfold ak.ground
 rw [C9,EP]
 constructor
 .intro h i hi
  have:=h (a.arg i) (um.2 ⟨i,hi,rfl⟩)
  simpa using this
 .intro h t ht
  obtain ⟨i,hi,rfl⟩:=um.1 ht
  simpa using h i hi
theorem lJ {i:Nat}:i < a.cU↔i < 4/\(i:Int) < a.n:=by
 unfold ak.cU
 omega
theorem vS {x:aB}:Dc a x↔∃ i:Nat,i < a.cU/\(a.arg i).v=true/\(a.arg i).s=x:=by
 constructor
 .rintro ⟨i,h1,h2,h3,h4⟩
  exact ⟨i,lJ.2 ⟨h1,h2⟩,h3,h4⟩
 .rintro ⟨i,h1,h3,h4⟩
  exact ⟨i,(lJ.1 h1).1,(lJ.1 h1).2,h3,h4⟩
theorem Rr {T:bL} {t u:TypeId} {w n i:Nat} {cs vs:List ae} {v:ae} {h1:Heap} {bs:List bh} {K:aG} (hb:bs[i]? = some (.row cs u false)) (hs:cN T t=some n) (hc:cs.length=n) (hv:v.cells.toList=vs) (hl:vs.length=n) (qF:vs.all one=true)
 (hK:K undef (h1.lay (bs.set i (.row vs u false)) (min w (h1.size+i)))):iH (iS T t (.pointer (some ⟨h1.size+i,0,none⟩)) v (h1.lay bs w)) K:=by
 have hi:=(dz.1 hb).1
 have hg:(h1.lay bs w).get (h1.size+i)=some (.row cs u false):=by rw [gH];exact hb
 have dS:v.cells.size=n:=by rw [<- qR,hv,hl]
 have cP:aF cs 0 vs=vs:=by
  unfold aF
  rw [zP,qu,List.drop_eq_nil_of_le (by omega),bu]
 have he:iS T t (.pointer (some ⟨h1.size+i,0,none⟩)) v (h1.lay bs w)=some ((h1.lay bs w).set (h1.size+i) (.row vs u false)):=by
  unfold iS
  simp only [hs,dX]
  rw [aE dS,hv]
  unfold kH
  rw [hg]
  simp only
  rw [aE (by simp only [dP,gY];exact ⟨by omega,qF⟩),cP]
 rw [he,UU _ _ _ _ _ hi]
 exact hK
end Go.Am
namespace Go.Am
variable {s:aB} {a:ak}
open Classical in
def jI:List Int->Int
 | []=>0
 |e::l=>if e=0 then jI l else e
theorem zux:jI []=0:=rfl
theorem Ua (e:Int) (l:List Int):jI (e::l)=if e=0 then jI l else e:=rfl
theorem cd {l:List Int}:jI l=0↔∀ e∈l,e=0:=by
 induction l with
 |nil=>simp [jI]
 |cons e l ih =>
  rw [Ua]
  by_cases h:e=0
  .rw [aE h,ih];simp [h]
  .rw [az h];simp [h]
def br (b:Bool) (e:Int):Int:=if b then e else 0
theorem CE {b:Bool} {e:Int} (h:e≠0):br b e=0↔b=false:=by cases b <;> simp [br,h]
def jb {Z:Type} (f:List Z->Z->Int):List Z->List Z->Int
 |_,[]=>0
 |pre,x::l=>if f pre x=0 then jb f (pre++[x]) l else f pre x
theorem uN {Z:Type} {f:List Z->Z->Int} {l:List Z} {i:Nat} {x:Z} (hx:l[i]? = some x):jb f (l.take i) (l.drop i)=if f (l.take i) x=0 then jb f (l.take (i+1)) (l.drop (i+1)) else f (l.take i) x:=by
 have hi:=dz.1 hx
 rw [C0 hi.1,hi.2,nT,hx]
 rfl
theorem HA {Z:Type} {f:List Z->Z->Int} {l:List Z} {i:Nat} (hi:l.length<=i):jb f (l.take i) (l.drop i)=0:=by
 rw [zE hi];rfl
theorem km {Z:Type} {f:List Z->Z->Int}:∀ {l pre:List Z},jb f pre l=0↔∀ i x,l[i]? = some x->f (pre++l.take i) x=0
 | [],pre=>by simp [jb]
 |y::l,pre=>by
  unfold jb
  by_cases h:f pre y=0
  .rw [aE h,km]
   constructor
   .intro g i x hx
    cases i with
    |zero=>simp at hx;subst hx;simpa using h
    |succ i=>have:=g i x (by simpa using hx);simpa using this
   .intro g i x hx
    have:=g (i+1) x (by simpa using hx)
    simpa using this
  .rw [az h]
   constructor
   .intro g;exact absurd g h
   .intro g;exact absurd (by simpa using g 0 y rfl) h
open Classical in
def qn (s:aB):Bool:=decide (qQ s)
open Classical in
def SI (t:aH):Bool := !decide (fM t)
def po (a:ak):Int :=
 if qn a.says && qn a.pred then (if a.n < 0\/4 < a.n then 4 else if a.args.any SI then 3 else if (a.all.drop a.cU).any (λt => !decide (t=cu)) then 15 else 0) else 3
theorem cV:qn s=true↔qQ s:=by unfold qn;simp
theorem zpU (h:¬ qQ s):qn s=false:=by unfold qn;simp [h]
theorem zlZ (h:¬ qQ a.says\/¬ qQ a.pred):po a=3:=by
 unfold po
 rw [az]
 rw [dP,cV,cV]
 exact λx=>h.elim (λy=>y x.1) (λy=>y x.2)
theorem zyX (h1:qQ a.says) (h2:qQ a.pred) (h:a.n < 0\/4 < a.n):po a=4:=by
 unfold po
 rw [aE (by rw [dP,cV,cV];exact ⟨h1,h2⟩),aE h]
theorem zv0 (h1:qQ a.says) (h2:qQ a.pred) (h3:¬ (a.n < 0\/4 < a.n)) (h:a.args.any SI=true):po a=3:=by
 unfold po
 rw [aE (by rw [dP,cV,cV];exact ⟨h1,h2⟩),az h3,aE h]
theorem zvZ (h1:qQ a.says) (h2:qQ a.pred) (h3:¬ (a.n < 0\/4 < a.n)) (h4:a.args.any SI=false):po a=if (a.all.drop a.cU).any (λt => !decide (t=cu)) then 15 else 0:=by
 unfold po
 rw [aE (by rw [dP,cV,cV];exact ⟨h1,h2⟩),az h3,az (by rw [h4];decide)]
def cq (l:List aB) (s:aB):Bool:=l.any λx=>decide (s=x)
theorem dL {l:List aB}:cq l s=true↔s∈l:=by
 unfold cq
 rw [wq]
 exact ⟨λ⟨x,hx,e⟩=>by rw [of_decide_eq_true e];exact hx,λh=>⟨s,h,by simp⟩⟩
def wZ (l:List cX) (s:aB):Int × Bool:=match l.find? (λx=>decide (x.name=s)) with
 |some x=>(x.arity,true)
 |none=>(0,false)
def r6 (d:aw) (a:ak):Int:=jI [po a,br (!cq d.ah a.says) 6,br (!(wZ d.cp a.pred).2) 7,br (!decide ((wZ d.cp a.pred).1=a.n)) 8]
def zry (a:ak):Bool:=a.ground
def jg (d:aw) (s:aB) (a:ak):Int:=jI [br (!cq d.ah s) 6,r6 d a,br (!zry a) 10,br (!decide (a.says=s)) 11]
def HT (l:List aB):Int:=if l.length < 1\/16 < l.length then 4 else jb (λpre w=>jI [br (!qn w) 3,br (cq pre w) 5]) [] l
def Su (l:List cX):Int:=if 32 < l.length then 4 else jb (λpre x=>jI [br (!qn x.name) 3,br (cq (pre.map cX.name) x.name) 5,br (decide (x.arity < 0\/4 < x.arity)) 4]) [] l
def wh (ps:List aB) (c:bB):Int:=if c.reads.length < 1\/16 < c.reads.length then 4 else jb (λpre w=>jI [br (!cq ps w) 6,br (decide (w=c.who)) 11,br (cq pre w) 5]) [] c.reads
def HN (ps:List aB) (l:List bB):Int:=jb (λpre c=>jI [br (!cq ps c.who) 6,br (cq (pre.map bB.who) c.who) 5,wh ps c]) [] l
def HE (d:aw):Int:=br (decide (d.iO < 0\/1000 < d.iO) || decide (d.fE < 1\/1048576 < d.fE) || decide (64 < d.rules.length+d.bO.length)) 4
def SB (d:aw) (l:aW):Int:=jb (λ_ a=>r6 d a) [] l
def Az (d:aw) (head:ak) (body:aW):Int:=jI [r6 d head,br (decide (6 < body.length)) 4,SB d body]
open Classical in
def HI (c:cz):Int:=br (decide (∃ x,Dc c.head x/\∀ a∈c.body,¬ Dc a x)) 9
def TS (d:aw) (c:cz):Int:=jI [Az d c.head c.body,HI c]
def zxn (d:aw) (g:eX):Int:=jI [br (!cq d.ah g.to) 6,br (decide (g.to=g.head.says)) 11,Az d g.head g.body]
def Ss (d:aw):Int:=jI [jb (λ_ c=>TS d c) [] d.rules,jb (λ_ g=>zxn d g) [] d.bO]
def zB (d:aw):Int:=jI [HT d.ah,Su d.cp,HN d.ah d.aU,HE d,Ss d]
abbrev aJ.MJ:aJ ae:={ k:=1,R:=λ_ cs x=>cs=[x]/\one x=true,len:=by rintro _ cs x ⟨rfl,_⟩;rfl,mono:=λ_ _ _ _ _ h=>h,i9:=by rintro _ cs x ⟨rfl,h⟩;simp [h] }
theorem zxu {T:bL} {t e:TypeId} {kd:IntKind} {i:Int} {v:ae} {h1:Heap} {bs:List bh} {w:Nat} {K:aG} {l:List ae} {x:ae} (f:Sl aJ.MJ h1 v l) (hd:T.desc t=some (.slice e)) (hs:cN T e=some 1) (h0:0<=i) (hx:l[i.toNat]? = some x) (hk:∀ p,ei h1 p [x]->K p (h1.lay bs w)):aD (jF T t v (.int kd i)) (h1.lay bs w) K:=by
 have hi:=(dz.1 hx).1
 refine zt f hd hs h0 (by omega) (λx' p cs kW hr hp=>?_)
 rw [hx] at kW
 cases kW
 exact hk p (hr.1 ▸ hp)
end Go.Am
