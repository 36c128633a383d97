/- What the arguments' cells are: policies, names, steps. Written out by fill2.py. No condition. -/
import Derived.Test.YtkgojconmeeegaaGreatDoorG15
set_option linter.unusedSimpArgs false
set_option linter.unusedVariables false
namespace Go.Proofs.YtkgojconmeeegaaGreatDoor
open Go.Am
set_option maxRecDepth 100000
theorem znm:Tryz.prog.cellsOf 73=2:=by kernel_rfl
theorem znk:Tryz.prog.cellsOf 75=2:=by kernel_rfl
theorem znn:Tryz.prog.cellsOf 77=12:=by kernel_rfl
theorem znl:Tryz.prog.cellsOf 80=13:=by kernel_rfl
theorem zss:Tryz.prog.cellsOf 28=7:=by kernel_rfl
theorem zka {h:Heap} {n:Nat} {v:Value} (hs:ep Tryz.prog h (n+2) 22 [v]):∃ l,Sl aJ.str h v l :=
 HS Tryz.underlying22 zst (fun cs hc=>CD hc) hs
theorem zsf {h:Heap} {n:Nat} {v:Value} (hs:vG Tryz.prog h (n+1) 9 v):∃ s:ByteArray,v=.string s:=by
 unfold vG at hs
 rw [Tryz.underlying9] at hs
 obtain ⟨s,hs⟩:=CD hs
 simp only [List.cons.injEq,and_true] at hs
 exact ⟨s,hs⟩
theorem zrN {cs:List Value} {k:Nat} (h:k < cs.length):∃ v,(cs.drop k).take 1=[v]:=by
 rw [List.drop_eq_getElem_cons h]
 exact ⟨_,rfl⟩
theorem zCV {h:Heap} {n:Nat} {cs:List Value} (hs:ep Tryz.prog h (n+2) 73 cs):∃ x,aJ.pred.R h cs x:=by
 unfold ep at hs
 rw [Tryz.underlying73] at hs
 obtain ⟨hl,hf⟩:=hs
 rw [znm] at hl
 match cs,hl with
 | [a,b],_ =>
  have h0:ep Tryz.prog h (n+1) 9 (([a,b].drop 0).take 1):=hf 0 _ rfl
  have h1:ep Tryz.prog h (n+1) 3 (([a,b].drop 1).take 1):=hf 1 _ rfl
  obtain ⟨s,e0⟩:=CD h0
  obtain ⟨i,e1,_⟩:=R1 h1
  simp at e0 e1
  subst e0 e1
  exact ⟨⟨s,i⟩,rfl⟩
theorem zwv {h:Heap} {n:Nat} {cs:List Value} (hs:ep Tryz.prog h (n+3) 75 cs):∃ x,aJ.clear.R h cs x:=by
 unfold ep at hs
 rw [Tryz.underlying75] at hs
 obtain ⟨hl,hf⟩:=hs
 rw [znk] at hl
 match cs,hl with
 | [a,b],_ =>
  have h0:ep Tryz.prog h (n+2) 9 (([a,b].drop 0).take 1):=hf 0 _ rfl
  have h1:ep Tryz.prog h (n+2) 22 (([a,b].drop 1).take 1):=hf 1 _ rfl
  obtain ⟨s,e0⟩:=CD h0
  obtain ⟨l,e1⟩:=zka h1
  simp at e0
  subst e0
  exact ⟨⟨s,l⟩,_,rfl,e1⟩
theorem zCW {h:Heap} {n:Nat} {cs:List Value} (hs:ep Tryz.prog h (n+6) 77 cs):∃ x,aJ.clause.R h cs x:=by
 unfold ep at hs
 rw [Tryz.underlying77] at hs
 obtain ⟨hl,hf⟩:=hs
 rw [znn] at hl
 have h0:ep Tryz.prog h (n+5) 34 ((cs.drop 0).take 11):=hf 0 _ rfl
 have h1:ep Tryz.prog h (n+5) 44 ((cs.drop 11).take 1):=hf 1 _ rfl
 obtain ⟨a,ha⟩:=Xt (n:=n+1) h0
 obtain ⟨v,hv⟩:=zrN (cs:=cs) (k:=11) (by omega)
 rw [hv] at h1
 obtain ⟨l,hU⟩:=zoS h1
 refine ⟨⟨a,l⟩,v,?_,hU⟩
 have e1:cs=cs.take 11++cs.drop 11:=(List.take_append_drop 11 cs).symm
 rw [List.take_of_length_le (by simp;omega)] at hv
 rw [List.drop_zero] at ha
 rw [e1,ha,hv]
theorem zww {h:Heap} {n:Nat} {cs:List Value} (hs:ep Tryz.prog h (n+6) 80 cs):∃ x,aJ.qg.R h cs x:=by
 unfold ep at hs
 rw [Tryz.underlying80] at hs
 obtain ⟨hl,hf⟩:=hs
 rw [znl] at hl
 match cs,hl with
 |c0::cs,hl =>
  have hl:cs.length=12:=by simpa using hl
  have h0:ep Tryz.prog h (n+5) 9 (((c0::cs).drop 0).take 1):=hf 0 _ rfl
  have h1:ep Tryz.prog h (n+5) 34 ((cs.drop 0).take 11):=hf 1 _ rfl
  have h2:ep Tryz.prog h (n+5) 44 ((cs.drop 11).take 1):=hf 2 _ rfl
  obtain ⟨s,e0⟩:=CD h0
  obtain ⟨a,ha⟩:=Xt (n:=n+1) h1
  obtain ⟨v,hv⟩:=zrN (cs:=cs) (k:=11) (by omega)
  rw [hv] at h2
  obtain ⟨l,hU⟩:=zoS h2
  simp at e0
  subst e0
  refine ⟨⟨s,a,l⟩,v,?_,hU⟩
  have e1:cs=cs.take 11++cs.drop 11:=(List.take_append_drop 11 cs).symm
  rw [List.take_of_length_le (by simp;omega)] at hv
  rw [List.drop_zero] at ha
  rw [e1,ha,hv]
theorem zse {h:Heap} {n:Nat} {v:Value} (hs:vG Tryz.prog h (n+8) 28 v):∃ d,LV h v d:=by
 unfold vG at hs
 rw [Tryz.underlying28] at hs
 obtain ⟨cs,rfl,hc⟩:=hs
 unfold ep at hc
 rw [Tryz.underlying28] at hc
 obtain ⟨hl,hf⟩:=hc
 rw [zss] at hl
 match cs,hl with
 | [c0,c1,c2,c3,c4,c5,c6],_ =>
  have h0:ep Tryz.prog h (n+7) 22 (([c0,c1,c2,c3,c4,c5,c6].drop 0).take 1):=hf 0 _ rfl
  have h1:ep Tryz.prog h (n+7) 23 (([c0,c1,c2,c3,c4,c5,c6].drop 1).take 1):=hf 1 _ rfl
  have h2:ep Tryz.prog h (n+7) 24 (([c0,c1,c2,c3,c4,c5,c6].drop 2).take 1):=hf 2 _ rfl
  have h3:ep Tryz.prog h (n+7) 3 (([c0,c1,c2,c3,c4,c5,c6].drop 3).take 1):=hf 3 _ rfl
  have h4:ep Tryz.prog h (n+7) 3 (([c0,c1,c2,c3,c4,c5,c6].drop 4).take 1):=hf 4 _ rfl
  have h5:ep Tryz.prog h (n+7) 25 (([c0,c1,c2,c3,c4,c5,c6].drop 5).take 1):=hf 5 _ rfl
  have h6:ep Tryz.prog h (n+7) 26 (([c0,c1,c2,c3,c4,c5,c6].drop 6).take 1):=hf 6 _ rfl
  obtain ⟨l0,g0⟩:=zka h0
  obtain ⟨l1,g1⟩:=HS (n:=n+6) Tryz.underlying23 znm (fun cs hc=>zCV hc) h1
  obtain ⟨l2,g2⟩:=HS (n:=n+6) Tryz.underlying24 znk (fun cs hc=>zwv hc) h2
  obtain ⟨i3,e3,_⟩:=R1 h3
  obtain ⟨i4,e4,_⟩:=R1 h4
  obtain ⟨l5,g5⟩:=HS (n:=n+6) Tryz.underlying25 znn (fun cs hc=>zCW hc) h5
  obtain ⟨l6,g6⟩:=HS (n:=n+6) Tryz.underlying26 znl (fun cs hc=>zww hc) h6
  simp at e3 e4
  subst e3 e4
  exact ⟨⟨l0,l1,l2,i3,i4,l5,l6⟩,_,_,_,_,_,_,_,rfl,⟨g0,g1,g2,g5,g6⟩⟩
end Go.Proofs.YtkgojconmeeegaaGreatDoor
namespace Go.Am
def kJ (c:Int):Prop:=(97≤c∧c≤122)∨(65≤c∧c≤90)∨(48≤c∧c≤57)∨c=95
def pW (c:Int):Prop:=(97≤c∧c≤122)∨(48≤c∧c≤57)∨c=95
def J6 (s:ByteArray):Prop:=1≤s.size∧∀ i,i < s.size→pW (lu s i)
def r5 (s:ByteArray):Prop:=1≤s.size∧(65≤lu s 0∧lu s 0≤90)∧∀ i,i < s.size→kJ (lu s i)
def XC (t:aX):Prop:=if t.v then r5 t.s else J6 t.s
structure rE (a:ab):Prop where
 says:J6 a.says
 pred:J6 a.pred
 lo:0≤a.n
 hi:a.n≤4
 kL:∀ i:Nat,(i:Int) < a.n→XC (a.arg i)
 rest:∀ i:Nat,a.n≤(i:Int)→i < 4→a.arg i=cm
def U6 (s:ByteArray):Bool:=decide (65≤lu s 0) && decide (lu s 0≤90)
structure ie (a:ab):Prop where
 says:Word a.says.data.toList
 pred:Word a.pred.data.toList
 lo:0≤a.n
 hi:a.n≤4
 kL:∀ i:Nat,(i:Int) < a.n→Word (a.arg i).s.data.toList∧(a.arg i).v=U6 (a.arg i).s
 rest:∀ i:Nat,a.n≤(i:Int)→i < 4→a.arg i=cm
theorem zkT {s:ByteArray} {c:UInt8} (h:c∈s.data.toList):∃ i,i < s.size∧lu s i=c.toNat:=by
 obtain ⟨i,hi,he⟩:=List.getElem_of_mem h
 have pM:i < s.size:=by rw [← Ff];exact hi
 refine ⟨i,pM,?_⟩
 unfold lu
 have:s[i]? = some s[i]:=by simp [pM]
 rw [this]
 simp only [Option.getD_some]
 have h2:s[i]=c:=by rw [← he];rfl
 rw [h2]
theorem Uo {s:ByteArray} (h:J6 s):Word s.data.toList:=by
 intro c hc
 obtain ⟨i,hi,he⟩:=zkT hc
 have:=h.2 i hi
 unfold pW at this
 unfold oF
 omega
theorem zEr {s:ByteArray} (h:r5 s):Word s.data.toList:=by
 intro c hc
 obtain ⟨i,hi,he⟩:=zkT hc
 have:=h.2.2 i hi
 unfold kJ at this
 unfold oF
 omega
theorem rE.plain {a:ab} (w:rE a):ie a:=by
 refine ⟨Uo w.says,Uo w.pred,w.lo,w.hi,fun i hi=>?_,w.rest⟩
 have h:=w.kL i hi
 unfold XC at h
 cases hv:(a.arg i).v
 ·rw [hv] at h
  have h:J6 (a.arg i).s:=h
  refine ⟨Uo h,?_⟩
  have:=h.2 0 h.1
  unfold pW at this
  unfold U6
  rw [eq_comm,Bool.and_eq_false_iff,decide_eq_false_iff_not,decide_eq_false_iff_not]
  omega
 ·rw [hv] at h
  have h:r5 (a.arg i).s:=h
  refine ⟨zEr h,?_⟩
  unfold U6
  rw [decide_eq_true h.2.1.1,decide_eq_true h.2.1.2]
  rfl
theorem zx8 (a:ab):cI a=SL a.says.data.toList a.pred.data.toList (jo a):=by
 unfold cI SL Kx jo Kw dm
 cases h:a.args with
 |nil=>simp
 |cons t r=>simp
theorem args_at {a:ab} {i:Nat} (h:i < a.cL):a.args[i]? = some (a.arg i):=by
 have hc:a.cL≤4:=Nat.min_le_right _ _
 unfold ab.args
 rw [List.getElem?_take,if_pos h]
 have:i=0∨i=1∨i=2∨i=3:=by omega
 rcases this with rfl|rfl|rfl|rfl <;> rfl
theorem zE4 {a b:ab} (h0:a.says=b.says) (h1:a.pred=b.pred) (h2:a.n=b.n) (h:∀ i,i < 4→a.arg i=b.arg i):a=b:=by
 have e0:=h 0 (by omega)
 have e1:=h 1 (by omega)
 have e2:=h 2 (by omega)
 have e3:=h 3 (by omega)
 obtain ⟨s,p,n,t0,t1,t2,t3⟩:=a
 obtain ⟨s',p',n',u0,u1,u2,u3⟩:=b
 simp only [ab.arg] at e0 e1 e2 e3
 simp only at h0 h1 h2
 subst h0 h1 h2 e0 e1 e2 e3
 rfl
theorem zjW {a:ab} (w:ie a):∀ x∈jo a,Word x:=by
 intro x hx
 obtain ⟨t,ht,rfl⟩:=List.mem_map.1 hx
 obtain ⟨i,hi⟩:=List.getElem?_of_mem ht
 have aR:i < a.cL:=by
  have h1:=(List.getElem?_eq_some_iff.1 hi).1
  unfold ab.args at h1
  rw [List.length_take] at h1
  omega
 rw [args_at aR] at hi
 cases hi
 have:(i:Int) < a.n:=by
  have:a.cL≤a.n.toNat:=Nat.min_le_left _ _
  omega
 exact (w.kL i this).1
theorem T3 {a b:ab} (wa:ie a) (wb:ie b) (h:cI a=cI b):a=b:=by
 rw [zx8,zx8] at h
 obtain ⟨h1,h2,h3⟩:=zEc wa.says wb.says wa.pred wb.pred (zjW wa) (zjW wb) h
 have hlen:=congrArg List.length h3
 have lN:(a.cL:Int)=a.n:=by
  have:=wa.lo;have:=wa.hi
  unfold ab.cL
  omega
 have Nw:(b.cL:Int)=b.n:=by
  have:=wb.lo;have:=wb.hi
  unfold ab.cL
  omega
 have DL:(jo a).length=a.cL:=by
  have:a.cL≤4:=Nat.min_le_right _ _
  unfold jo ab.args
  rw [List.length_map,List.length_take]
  simp only [List.length_cons,List.length_nil]
  omega
 have rK:(jo b).length=b.cL:=by
  have:b.cL≤4:=Nat.min_le_right _ _
  unfold jo ab.args
  rw [List.length_map,List.length_take]
  simp only [List.length_cons,List.length_nil]
  omega
 rw [DL,rK] at hlen
 have hn:a.n=b.n:=by omega
 refine zE4 (Dd h1) (Dd h2) hn (fun i hi=>?_)
 by_cases aL:(i:Int) < a.n
 ·have e1:=args_at (a:=a) (i:=i) (by omega)
  have e2:=args_at (a:=b) (i:=i) (by omega)
  have e3:(jo a)[i]? = (jo b)[i]? := by rw [h3]
  unfold jo at e3
  rw [List.getElem?_map,List.getElem?_map,e1,e2] at e3
  simp only [Option.map_some,Option.some.injEq] at e3
  have es:=Dd e3
  have ev:=(wa.kL i aL).2
  have ew:=(wb.kL i (by omega)).2
  rw [es] at ev
  have:(a.arg i).v=(b.arg i).v:=ev.trans ew.symm
  calc a.arg i=⟨(a.arg i).v,(a.arg i).s⟩:=rfl
   _=⟨(b.arg i).v,(b.arg i).s⟩:=by rw [this,es]
   _=b.arg i:=rfl
 ·rw [wa.rest i (by omega) hi,wb.rest i (by omega) hi]
theorem zwj {a b:ab} (wa:ie a) (wb:ie b):aQ a b=0↔a=b:=⟨fun h=>T3 wa wb (bT.1 h),fun h=>by rw [h];exact JN _⟩
def vN (l:List ab):Prop:=∀ x∈l,ie x
theorem zvy {l:List ab} (h:vN l) {x:ab}:x∈eg l↔x∈l:=by
 refine ⟨fun hx=>(ri l).mem hx,fun hx=>?_⟩
 obtain ⟨y,hy,e⟩:=(ri l).uW x hx
 have:=T3 (h y ((ri l).mem hy)) (h x hx) e
 subst this
 exact hy
theorem zsi {l:List ab} (p:ab→Bool) (h:dR l):dR (l.filter p):=h.sublist List.filter_sublist
end Go.Am
namespace Go.Am
theorem zqd (b:Bool):Dc undef b=false:=rfl
theorem zCN (e:Env) (d:Nat) (v:Value):put e (some d) v=Env.set e d v:=rfl
theorem zCM (e:Env) (v:Value):put e none v=e:=rfl
theorem zyX (v:Value) (r:Env):Env.get (v::r) 0=v:=rfl
theorem zyW (v:Value) (r:Env) (n:Nat):Env.get (v::r) (n+1)=Env.get r n:=rfl
theorem zCT (x v:Value) (r:Env):Env.set (x::r) 0 v=v::r:=rfl
theorem zCS (x v:Value) (r:Env) (n:Nat):Env.set (x::r) (n+1) v=x::Env.set r n v:=rfl
theorem zHD (e:Env) (t:Nat):bn e (.tmp t)=e.get t:=rfl
theorem zyP (e:Env) (v:Value):bn e (.const v)=v:=rfl
theorem zuS (e:Env) (g:Nat):bn e (.global g)=.pointer (some ⟨g,0,none⟩):=rfl
theorem zFM (e:Env) (f:FuncId):bn e (.func f)=.func (.func f) #[] #[]:=rfl
theorem zsq (b:Bool):(Value.bool b).cells=#[.bool b]:=rfl
theorem zuC (k:IntKind) (i:Int):(Value.int k i).cells=#[.int k i]:=rfl
theorem zno (s:ByteArray):(Value.string s).cells=#[.string s]:=rfl
theorem zpC (a:Option Addr) (n c:Nat):(Value.slice a n c).cells=#[.slice a n c]:=rfl
theorem zlY (a:Option Addr):(Value.pointer a).cells=#[.pointer a]:=rfl
theorem zuD (a:Option Nat):(Value.map a).cells=#[.map a]:=rfl
theorem zsr (f:Fn) (a b:Array Value):(Value.func f a b).cells=#[.func f a b]:=rfl
theorem zpB (t:TypeId) (v:Value):(Value.iface t v).cells=#[.iface t v]:=rfl
theorem zuB (cs:Array Value):(Value.agg cs).cells=cs:=rfl
theorem zyt (z:List Value) (n:Nat):kb z n=(List.replicate n z).flatten:=rfl
theorem ztJ (cs:List Value) (o:Nat) (vs:List Value):az cs o vs=cs.take o++vs++cs.drop (o+vs.length):=rfl
theorem zFC (cs:List Value) (o n:Nat):cut cs o n=if o+n≤cs.length then some ((cs.drop o).take n) else none:=rfl
def jr (J:Nat→Value):Nat→Nat→Env→Env
 |_,0,r=>r
 |a,n+1,r=>J a::jr J (a+1) n r
theorem zGm (J:Nat→Value) (a:Nat) (r:Env):jr J a 0 r=r:=rfl
theorem zGl (J:Nat→Value) (a n:Nat) (r:Env):jr J a (n+1) r=J a::jr J (a+1) n r:=rfl
noncomputable def Ei:=PLift.up (And.intro @zGm <| And.intro @zGl <| And.intro @zqd <| And.intro @zCN <| And.intro @zCM <| And.intro @zyX <| And.intro @zyW <| And.intro @zCT <| And.intro @zCS <| And.intro @zHD <| And.intro @zyP <| And.intro @zuS <| And.intro @zFM <| And.intro @zsq <| And.intro @zuC <| And.intro @zno <| And.intro @zpC <| And.intro @zlY <| And.intro @zuD <| And.intro @zsr <| And.intro @zpB <| And.intro @zuB <| And.intro @zyt <| And.intro @ztJ <| And.intro @zFC <| And.intro @Option.map_some.{0,0} <| And.intro @Option.bind_some.{0,0} <| And.intro @List.length_cons.{0} <| And.intro @List.length_nil.{0} <| And.intro @List.cons_append.{0} <| And.intro @List.nil_append.{0} <| And.intro @List.getElem?_cons_zero.{0} <| And.intro @List.getElem?_cons_succ.{0} <| And.intro @decide_true <| And.intro @decide_false <| And.intro @Int.cast_ofNat_Int <| And.intro @Int.zero_le_ofNat <| And.intro @Int.le_refl <| And.intro @and_self <| And.intro @and_true <| And.intro @true_and <| And.intro @if_true.{1} <| And.intro @if_false.{1} <| And.intro @Nat.zero_add <| And.intro @Bool.not_true <| And.intro @Bool.not_false <| And.intro @Int.toNat_natCast <| And.intro @zva <| And.intro @zvb <| And.intro @List.replicate_zero.{0} <| And.intro @List.replicate_succ.{0} <| And.intro @List.flatten_cons.{0} <| And.intro @List.flatten_nil.{0} <| And.intro @List.take_succ_cons.{0} <| And.intro @List.take_zero.{0} <| And.intro @List.drop_succ_cons.{0} <| And.intro @List.drop_zero.{0} <| And.intro @List.append_nil.{0} <| And.intro @Bool.or_self <| And.intro @Bool.false_eq_true <| And.intro @beq_self_eq_true.{0} <| And.intro @List.size_toArray.{0} <| And.intro @List.append_assoc.{0} <| And.intro @zFk <| And.intro @zFl <| And.intro @zsV <| And.intro @zvu <| And.intro @zul <| And.intro @zps <| And.intro @zm7 <| And.intro @zlN <| And.intro @zm5 <| And.intro @zm6 <| And.intro @zo2 <| And.intro @zqT <| And.intro @zqU <| And.intro @zui <| And.intro @el <| @bm)
theorem aa:type_of% Ei.down:=Ei.down
end Go.Am
namespace Go.Am
def nO (s:ByteArray):Prop:=(⟨#[115,97,121,115]⟩:ByteArray)=s∨(⟨#[105,102]⟩:ByteArray)=s∨(⟨#[99,97,110,115,97,121]⟩:ByteArray)=s∨(⟨#[112,114,105,110,99,105,112,97,108]⟩:ByteArray)=s∨(⟨#[112,114,101,100]⟩:ByteArray)=s∨(⟨#[99,108,101,97,114]⟩:ByteArray)=s∨(⟨#[113,117,111,116,97]⟩:ByteArray)=s∨(⟨#[98,117,100,103,101,116]⟩:ByteArray)=s
structure AR (s:ByteArray):Prop where
 pos:1≤s.size
 len:s.size≤255
 first:lu s 0≠95
 all:∀ i,i < s.size→pW (lu s i)
def il (s:ByteArray):Prop:=AR s∧¬ nO s
def jE (s:ByteArray):Prop:=il s∧(97≤lu s 0∧lu s 0≤122)
structure uB (s:ByteArray):Prop where
 pos:1≤s.size
 len:s.size≤255
 first:65≤lu s 0∧lu s 0≤90
 all:∀ i,i < s.size→kJ (lu s i)
def dO (t:aX):Prop:=if t.v=true then uB t.s else il t.s
structure iV (a:ab):Prop where
 says:jE a.says
 pred:jE a.pred
 lo:0≤a.n
 hi:a.n≤4
 kL:∀ i:Nat,(i:Int) < a.n→dO (a.arg i)
 rest:∀ i:Nat,a.n≤(i:Int)→i < 4→a.arg i=cm
theorem il.low {s:ByteArray} (h:il s):J6 s:=⟨h.1.pos,h.1.all⟩
theorem dO.ok {t:aX} (h:dO t):XC t:=by
 unfold dO at h
 unfold XC
 split at h
 ·rename_i hv
  rw [hv]
  exact ⟨h.pos,h.first,h.all⟩
 ·rename_i hv
  rw [show t.v=false by simpa using hv]
  exact h.low
theorem iV.valid {a:ab} (h:iV a):rE a:=⟨h.says.1.low,h.pred.1.low,h.lo,h.hi,fun i hi=>(h.kL i hi).ok,h.rest⟩
def jF (a:ab) (x:ByteArray):Prop:=∃ i:Nat,i < 4∧(i:Int) < a.n∧(a.arg i).v=true∧(a.arg i).s=x
structure Yt (c:bZ):Prop where
 head:iV c.head
 body:∀ b∈c.body,iV b
 adS:∀ x,jF c.head x→∃ b∈c.body,jF b x
structure lz (a:ab):Prop where
 valid:iV a
 ground:a.ground=true
structure ap9 (cl:List bZ) (facts:List ab):Prop where
 clauses:∀ c∈cl,Yt c
 facts:∀ a∈facts,lz a
theorem oI {a:ab} {t:aX}:t∈a.args↔∃ i:Nat,i < a.cL∧a.arg i=t:=by
 have h4:a.cL=0∨a.cL=1∨a.cL=2∨a.cL=3∨a.cL=4:=by unfold ab.cL;omega
 unfold ab.args
 have one:∀ {n:Nat} {P:Nat→Prop},(∃ i,i < n+1∧P i)↔(∃ i,i < n∧P i)∨P n:=by
  intro n P
  constructor
  ·rintro ⟨i,hi,hp⟩
   by_cases e:i=n
   ·subst e;exact .inr hp
   ·exact .inl ⟨i,by omega,hp⟩
  ·rintro (⟨i,hi,hp⟩|hp)
   ·exact ⟨i,by omega,hp⟩
   ·exact ⟨n,by omega,hp⟩
 rcases h4 with e|e|e|e|e <;> rw [e] <;> simp [one,ab.arg,eq_comm,or_assoc]
theorem mD {a:ab}:a.ground=true↔∀ i:Nat,i < a.cL→(a.arg i).v=false:=by
 unfold ab.ground
 rw [Bool.not_eq_true',List.any_eq_false]
 constructor
 ·intro h i hi
  have:=h (a.arg i) (oI.2 ⟨i,hi,rfl⟩)
  simpa using this
 ·intro h t ht
  obtain ⟨i,hi,rfl⟩:=oI.1 ht
  simpa using h i hi
theorem iW {a:ab} {i:Nat}:i < a.cL↔i < 4∧(i:Int) < a.n:=by
 unfold ab.cL
 omega
theorem ou {a:ab} {x:ByteArray}:jF a x↔∃ i:Nat,i < a.cL∧(a.arg i).v=true∧(a.arg i).s=x:=by
 constructor
 ·rintro ⟨i,h1,h2,h3,h4⟩
  exact ⟨i,iW.2 ⟨h1,h2⟩,h3,h4⟩
 ·rintro ⟨i,h1,h3,h4⟩
  exact ⟨i,(iW.1 h1).1,(iW.1 h1).2,h3,h4⟩
theorem zwB {T:bK} {t u:TypeId} {w n i:Nat} {cs vs:List Value} {v:Value} {h1:Heap} {bs:List bh} {K:Value→Heap→Prop} (hb:bs[i]? = some (.row cs u false)) (hs:bJ T t=some n) (hc:cs.length=n) (hv:v.cells.toList=vs) (hl:vs.length=n) (kg:vs.all one=true)
 (hK:K undef (h1.lay (bs.set i (.row vs u false)) (min w (h1.size+i)))):iw (ic T t (.pointer (some ⟨h1.size+i,0,none⟩)) v (h1.lay bs w)) K:=by
 have hi:=(List.getElem?_eq_some_iff.1 hb).1
 have hg:(h1.lay bs w).get (h1.size+i)=some (.row cs u false):=by rw [iR];exact hb
 have dz:v.cells.size=n:=by rw [← Array.length_toList,hv,hl]
 have cF:az cs 0 vs=vs:=by
  unfold az
  rw [List.take_zero,List.nil_append,List.drop_eq_nil_of_le (by omega),List.append_nil]
 have he:ic T t (.pointer (some ⟨h1.size+i,0,none⟩)) v (h1.lay bs w)=some ((h1.lay bs w).set (h1.size+i) (.row vs u false)):=by
  unfold ic
  simp only [hs,Option.bind_some]
  rw [if_pos dz,hv]
  unfold kj
  rw [hg]
  simp only
  rw [if_pos (by simp only [Bool.and_eq_true,decide_eq_true_eq];exact ⟨by omega,kg⟩),cF]
 rw [he,nT _ _ _ _ _ hi]
 exact hK
end Go.Am
namespace Go.Am
open Classical in
def gW:List Int→Int
 | []=>0
 |e::l=>if e=0 then gW l else e
theorem zsJ:gW []=0:=rfl
theorem fQ (e:Int) (l:List Int):gW (e::l)=if e=0 then gW l else e:=rfl
theorem bU {l:List Int}:gW l=0↔∀ e∈l,e=0:=by
 induction l with
 |nil=>simp [gW]
 |cons e l ih =>
  rw [fQ]
  by_cases h:e=0
  ·rw [if_pos h,ih];simp [h]
  ·rw [if_neg h];simp [h]
def bd (b:Bool) (e:Int):Int:=if b then e else 0
theorem yZ {b:Bool} {e:Int} (h:e≠0):bd b e=0↔b=false:=by cases b <;> simp [bd,h]
def eO {α:Type} (f:List α→α→Int):List α→List α→Int
 |_,[]=>0
 |pre,x::l=>if f pre x=0 then eO f (pre++[x]) l else f pre x
theorem rk {α:Type} {f:List α→α→Int} {l:List α} {i:Nat} {x:α} (hx:l[i]? = some x):eO f (l.take i) (l.drop i)=if f (l.take i) x=0 then eO f (l.take (i+1)) (l.drop (i+1)) else f (l.take i) x:=by
 have hi:=List.getElem?_eq_some_iff.1 hx
 rw [List.drop_eq_getElem_cons hi.1,hi.2,List.take_add_one,hx]
 rfl
theorem El {α:Type} {f:List α→α→Int} {l:List α} {i:Nat} (hi:l.length≤i):eO f (l.take i) (l.drop i)=0:=by
 rw [List.drop_of_length_le hi];rfl
theorem im {α:Type} {f:List α→α→Int}:∀ {l pre:List α},eO f pre l=0↔∀ i x,l[i]? = some x→f (pre++l.take i) x=0
 | [],pre=>by simp [eO]
 |y::l,pre=>by
  unfold eO
  by_cases h:f pre y=0
  ·rw [if_pos h,im]
   constructor
   ·intro g i x hx
    cases i with
    |zero=>simp at hx;subst hx;simpa using h
    |succ i=>have:=g i x (by simpa using hx);simpa using this
   ·intro g i x hx
    have:=g (i+1) x (by simpa using hx)
    simpa using this
  ·rw [if_neg h]
   constructor
   ·intro g;exact absurd g h
   ·intro g;exact absurd (by simpa using g 0 y rfl) h
/-! ### Atoms -/
open Classical in
noncomputable def nY (s:ByteArray):Bool:=decide (jE s)
open Classical in
noncomputable def Ic (t:aX):Bool := !decide (dO t)
noncomputable def jJ (a:ab):Int :=
 if nY a.says && nY a.pred then (if a.n < 0∨4 < a.n then 4 else if a.args.any Ic then 3 else if (a.all.drop a.cL).any (fun t => !decide (t=cm)) then 15 else 0) else 3
theorem bV {s:ByteArray}:nY s=true↔jE s:=by unfold nY;simp
theorem Xg {s:ByteArray} (h:¬ jE s):nY s=false:=by unfold nY;simp [h]
theorem Xa {a:ab} (h:¬ jE a.says∨¬ jE a.pred):jJ a=3:=by
 unfold jJ
 rw [if_neg]
 rw [Bool.and_eq_true,bV,bV]
 exact fun x=>h.elim (fun y=>y x.1) (fun y=>y x.2)
theorem zpf {a:ab} (h1:jE a.says) (h2:jE a.pred) (h:a.n < 0∨4 < a.n):jJ a=4:=by
 unfold jJ
 rw [if_pos (by rw [Bool.and_eq_true,bV,bV];exact ⟨h1,h2⟩),if_pos h]
theorem zlH {a:ab} (h1:jE a.says) (h2:jE a.pred) (h3:¬ (a.n < 0∨4 < a.n)) (h:a.args.any Ic=true):jJ a=3:=by
 unfold jJ
 rw [if_pos (by rw [Bool.and_eq_true,bV,bV];exact ⟨h1,h2⟩),if_neg h3,if_pos h]
theorem zlG {a:ab} (h1:jE a.says) (h2:jE a.pred) (h3:¬ (a.n < 0∨4 < a.n)) (h4:a.args.any Ic=false):jJ a=if (a.all.drop a.cL).any (fun t => !decide (t=cm)) then 15 else 0:=by
 unfold jJ
 rw [if_pos (by rw [Bool.and_eq_true,bV,bV];exact ⟨h1,h2⟩),if_neg h3,if_neg (by rw [h4];decide)]
def ba (l:List ByteArray) (s:ByteArray):Bool:=l.any fun x=>decide (s=x)
theorem cp {l:List ByteArray} {s:ByteArray}:ba l s=true↔s∈l:=by
 unfold ba
 rw [List.any_eq_true]
 exact ⟨fun ⟨x,hx,e⟩=>by rw [of_decide_eq_true e];exact hx,fun h=>⟨s,h,by simp⟩⟩
def nx (l:List bF) (s:ByteArray):Int × Bool:=match l.find? (fun x=>decide (x.name=s)) with
 |some x=>(x.arity,true)
 |none=>(0,false)
noncomputable def ia (d:au) (a:ab):Int:=gW [jJ a,bd (!ba d.ah a.says) 6,bd (!(nx d.bG a.pred).2) 7,bd (!decide ((nx d.bG a.pred).1=a.n)) 8]
def J5 (a:ab):Bool:=a.ground
noncomputable def fo (d:au) (s:ByteArray) (a:ab):Int:=gW [bd (!ba d.ah s) 6,ia d a,bd (!J5 a) 10,bd (!decide (a.says=s)) 11]
/-! ### Policies -/
noncomputable def qW (l:List ByteArray):Int:=if l.length < 1∨16 < l.length then 4 else eO (fun pre w=>gW [bd (!nY w) 3,bd (ba pre w) 5]) [] l
noncomputable def tj (l:List bF):Int:=if 32 < l.length then 4 else eO (fun pre x=>gW [bd (!nY x.name) 3,bd (ba (pre.map bF.name) x.name) 5,bd (decide (x.arity < 0∨4 < x.arity)) 4]) [] l
def ny (ps:List ByteArray) (c:aZ):Int:=if c.reads.length < 1∨16 < c.reads.length then 4 else eO (fun pre w=>gW [bd (!ba ps w) 6,bd (decide (w=c.who)) 11,bd (ba pre w) 5]) [] c.reads
def td (ps:List ByteArray) (l:List aZ):Int:=eO (fun pre c=>gW [bd (!ba ps c.who) 6,bd (ba (pre.map aZ.who) c.who) 5,ny ps c]) [] l
def CJ (d:au):Int:=bd (decide (d.dB < 0∨1000 < d.dB) || decide (d.cG < 1∨1048576 < d.cG) || decide (64 < d.rules.length+d.bo.length)) 4
noncomputable def Di (d:au) (l:List ab):Int:=eO (fun _ a=>ia d a) [] l
noncomputable def kV (d:au) (head:ab) (body:List ab):Int:=gW [ia d head,bd (decide (6 < body.length)) 4,Di d body]
open Classical in
noncomputable def C6 (c:bZ):Int:=bd (decide (∃ x,jF c.head x∧∀ a∈c.body,¬ jF a x)) 9
noncomputable def so (d:au) (c:bZ):Int:=gW [kV d c.head c.body,C6 c]
noncomputable def ry (d:au) (g:dV):Int:=gW [bd (!ba d.ah g.to) 6,bd (decide (g.to=g.head.says)) 11,kV d g.head g.body]
noncomputable def EK (d:au):Int:=gW [eO (fun _ c=>so d c) [] d.rules,eO (fun _ g=>ry d g) [] d.bo]
noncomputable def lY (d:au):Int:=gW [qW d.ah,tj d.bG,td d.ah d.aF,CJ d,EK d]
abbrev aJ.MU:aJ Value:={ k:=1,R:=fun _ cs x=>cs=[x]∧one x=true,len:=by rintro _ cs x ⟨rfl,_⟩;rfl,mono:=fun _ _ _ _ _ h=>h,iP:=by rintro _ cs x ⟨rfl,h⟩;simp [h] }
theorem zvo {T:bK} {t e:TypeId} {kd:IntKind} {i:Int} {v:Value} {h1:Heap} {bs:List bh} {w:Nat} {K:Value→Heap→Prop} {l:List Value} {x:Value} (f:Sl aJ.MU h1 v l) (hd:T.desc t=some (.slice e)) (hs:bJ T e=some 1) (h0:0≤i) (hx:l[i.toNat]? = some x) (hk:∀ p,eZ h1 p [x]→K p (h1.lay bs w)):aW (fW T t v (.int kd i)) (h1.lay bs w) K:=by
 have hi:=(List.getElem?_eq_some_iff.1 hx).1
 refine y9 f hd hs h0 (by omega) (fun x' p cs lU hr hp=>?_)
 rw [hx] at lU
 cases lU
 exact hk p (hr.1 ▸ hp)
end Go.Am
