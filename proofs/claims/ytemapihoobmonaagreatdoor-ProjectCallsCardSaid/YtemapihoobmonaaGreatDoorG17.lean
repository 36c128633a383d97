/- What the arguments' cells are: policies, names, steps. Written out by fill2.py. No condition. -/
import Derived.Test.YtemapihoobmonaaGreatDoorG13
import Derived.Test.YtemapihoobmonaaGreatDoorG16
import Derived.Test.YtemapihoobmonaaGreatDoorG15
import Derived.Test.YtemapihoobmonaaGreatDoorG11
namespace Go.Proofs.YtemapihoobmonaaGreatDoor
open Go.Am
set_option linter.unusedSimpArgs false
set_option linter.unusedVariables false
set_option maxRecDepth 100000
theorem znf:Tryz.prog.cellsOf 110=2:=by kernel_rfl
theorem znM:Tryz.prog.cellsOf 112=2:=by kernel_rfl
theorem zm4:Tryz.prog.cellsOf 113=12:=by kernel_rfl
theorem zmA:Tryz.prog.cellsOf 115=13:=by kernel_rfl
theorem zs7:Tryz.prog.cellsOf 55=7:=by kernel_rfl
theorem zf4 {h:Heap} {n:Nat} {v:Value} (hs:Shp Tryz.prog h (n+2) 49 [v]):∃ l,Sl Rep.str h v l :=
  zhN Tryz.underlying49 zr7 (fun cs hc=>zbU hc) hs
theorem zr6 {h:Heap} {n:Nat} {v:Value} (hs:zdI Tryz.prog h (n+1) 9 v):∃ s:ByteArray,v=.string s:=by
  unfold zdI at hs
  rw [Tryz.underlying9] at hs
  obtain ⟨s,hs⟩:=zbU hs
  simp only [List.cons.injEq,and_true] at hs
  exact ⟨s,hs⟩
theorem zqG {cs:List Value} {k:Nat} (h:k < cs.length):∃ v,(cs.drop k).take 1=[v]:=by
  rw [List.drop_eq_getElem_cons h]
  exact ⟨_,rfl⟩
theorem zxi {h:Heap} {n:Nat} {cs:List Value} (hs:Shp Tryz.prog h (n+2) 110 cs):∃ x,Rep.pred.R h cs x:=by
  unfold Shp at hs
  rw [Tryz.underlying110] at hs
  obtain ⟨hl,hf⟩:=hs
  rw [znf] at hl
  match cs,hl with
  | [a,b],_ =>
    have h0:Shp Tryz.prog h (n+1) 9 (([a,b].drop 0).take 1):=hf 0 _ rfl
    have h1:Shp Tryz.prog h (n+1) 3 (([a,b].drop 1).take 1):=hf 1 _ rfl
    obtain ⟨s,e0⟩:=zbU h0
    obtain ⟨i,e1,_⟩:=ziX h1
    simp at e0 e1
    subst e0 e1
    exact ⟨⟨s,i⟩,rfl⟩
theorem zuq {h:Heap} {n:Nat} {cs:List Value} (hs:Shp Tryz.prog h (n+3) 112 cs):∃ x,Rep.clear.R h cs x:=by
  unfold Shp at hs
  rw [Tryz.underlying112] at hs
  obtain ⟨hl,hf⟩:=hs
  rw [znM] at hl
  match cs,hl with
  | [a,b],_ =>
    have h0:Shp Tryz.prog h (n+2) 9 (([a,b].drop 0).take 1):=hf 0 _ rfl
    have h1:Shp Tryz.prog h (n+2) 49 (([a,b].drop 1).take 1):=hf 1 _ rfl
    obtain ⟨s,e0⟩:=zbU h0
    obtain ⟨l,e1⟩:=zf4 h1
    simp at e0
    subst e0
    exact ⟨⟨s,l⟩,_,rfl,e1⟩
theorem zyn {h:Heap} {n:Nat} {cs:List Value} (hs:Shp Tryz.prog h (n+6) 113 cs):∃ x,Rep.clause.R h cs x:=by
  unfold Shp at hs
  rw [Tryz.underlying113] at hs
  obtain ⟨hl,hf⟩:=hs
  rw [zm4] at hl
  have h0:Shp Tryz.prog h (n+5) 26 ((cs.drop 0).take 11):=hf 0 _ rfl
  have h1:Shp Tryz.prog h (n+5) 27 ((cs.drop 11).take 1):=hf 1 _ rfl
  obtain ⟨a,ha⟩:=zlE (n:=n+1) h0
  obtain ⟨v,hv⟩:=zqG (cs:=cs) (k:=11) (by omega)
  rw [hv] at h1
  obtain ⟨l,hl2⟩:=zoi h1
  refine ⟨⟨a,l⟩,v,?_,hl2⟩
  have e1:cs=cs.take 11++cs.drop 11:=(List.take_append_drop 11 cs).symm
  rw [List.take_of_length_le (by simp; omega)] at hv
  rw [List.drop_zero] at ha
  rw [e1,ha,hv]
theorem zwj {h:Heap} {n:Nat} {cs:List Value} (hs:Shp Tryz.prog h (n+6) 115 cs):∃ x,Rep.grant.R h cs x:=by
  unfold Shp at hs
  rw [Tryz.underlying115] at hs
  obtain ⟨hl,hf⟩:=hs
  rw [zmA] at hl
  match cs,hl with
  | c0::cs,hl =>
    have hl:cs.length=12:=by simpa using hl
    have h0:Shp Tryz.prog h (n+5) 9 (((c0::cs).drop 0).take 1):=hf 0 _ rfl
    have h1:Shp Tryz.prog h (n+5) 26 ((cs.drop 0).take 11):=hf 1 _ rfl
    have h2:Shp Tryz.prog h (n+5) 27 ((cs.drop 11).take 1):=hf 2 _ rfl
    obtain ⟨s,e0⟩:=zbU h0
    obtain ⟨a,ha⟩:=zlE (n:=n+1) h1
    obtain ⟨v,hv⟩:=zqG (cs:=cs) (k:=11) (by omega)
    rw [hv] at h2
    obtain ⟨l,hl2⟩:=zoi h2
    simp at e0
    subst e0
    refine ⟨⟨s,a,l⟩,v,?_,hl2⟩
    have e1:cs=cs.take 11++cs.drop 11:=(List.take_append_drop 11 cs).symm
    rw [List.take_of_length_le (by simp; omega)] at hv
    rw [List.drop_zero] at ha
    rw [e1,ha,hv]
theorem zsA {h:Heap} {n:Nat} {v:Value} (hs:zdI Tryz.prog h (n+8) 55 v):∃ d,PolV h v d:=by
  unfold zdI at hs
  rw [Tryz.underlying55] at hs
  obtain ⟨cs,rfl,hc⟩:=hs
  unfold Shp at hc
  rw [Tryz.underlying55] at hc
  obtain ⟨hl,hf⟩:=hc
  rw [zs7] at hl
  match cs,hl with
  | [c0,c1,c2,c3,c4,c5,c6],_ =>
    have h0:Shp Tryz.prog h (n+7) 49 (([c0,c1,c2,c3,c4,c5,c6].drop 0).take 1):=hf 0 _ rfl
    have h1:Shp Tryz.prog h (n+7) 50 (([c0,c1,c2,c3,c4,c5,c6].drop 1).take 1):=hf 1 _ rfl
    have h2:Shp Tryz.prog h (n+7) 51 (([c0,c1,c2,c3,c4,c5,c6].drop 2).take 1):=hf 2 _ rfl
    have h3:Shp Tryz.prog h (n+7) 3 (([c0,c1,c2,c3,c4,c5,c6].drop 3).take 1):=hf 3 _ rfl
    have h4:Shp Tryz.prog h (n+7) 3 (([c0,c1,c2,c3,c4,c5,c6].drop 4).take 1):=hf 4 _ rfl
    have h5:Shp Tryz.prog h (n+7) 52 (([c0,c1,c2,c3,c4,c5,c6].drop 5).take 1):=hf 5 _ rfl
    have h6:Shp Tryz.prog h (n+7) 53 (([c0,c1,c2,c3,c4,c5,c6].drop 6).take 1):=hf 6 _ rfl
    obtain ⟨l0,g0⟩:=zf4 h0
    obtain ⟨l1,g1⟩:=zhN (n:=n+6) Tryz.underlying50 znf (fun cs hc=>zxi hc) h1
    obtain ⟨l2,g2⟩:=zhN (n:=n+6) Tryz.underlying51 znM (fun cs hc=>zuq hc) h2
    obtain ⟨i3,e3,_⟩:=ziX h3
    obtain ⟨i4,e4,_⟩:=ziX h4
    obtain ⟨l5,g5⟩:=zhN (n:=n+6) Tryz.underlying52 zm4 (fun cs hc=>zyn hc) h5
    obtain ⟨l6,g6⟩:=zhN (n:=n+6) Tryz.underlying53 zmA (fun cs hc=>zwj hc) h6
    simp at e3 e4
    subst e3 e4
    exact ⟨⟨l0,l1,l2,i3,i4,l5,l6⟩,_,_,_,_,_,_,_,rfl,⟨g0,g1,g2,g5,g6⟩⟩
end Go.Proofs.YtemapihoobmonaaGreatDoor
namespace Go.Am
set_option linter.unusedVariables false
set_option linter.unusedSimpArgs false
def okCh (c:Int):Prop:=(97≤c∧c≤122)∨(65≤c∧c≤90)∨(48≤c∧c≤57)∨c=95
def zeR (c:Int):Prop:=(97≤c∧c≤122)∨(48≤c∧c≤57)∨c=95
def zhB (s:ByteArray):Prop:=1≤s.size∧∀ i,i < s.size→zeR (zbr s i)
def zpG (s:ByteArray):Prop:=1≤s.size∧(65≤zbr s 0∧zbr s 0≤90)∧∀ i,i < s.size→okCh (zbr s i)
def zmu (t:TermD):Prop:=if t.v then zpG t.s else zhB t.s
structure ValidD (a:AtomD):Prop where
  says:zhB a.says
  pred:zhB a.pred
  lo:0≤a.n
  hi:a.n≤4
  terms:∀ i:Nat,(i:Int) < a.n→zmu (a.arg i)
  rest:∀ i:Nat,a.n≤(i:Int)→i < 4→a.arg i=noTermD
def zwn (s:ByteArray):Bool:=decide (65≤zbr s 0) && decide (zbr s 0≤90)
structure PlainD (a:AtomD):Prop where
  says:Word a.says.data.toList
  pred:Word a.pred.data.toList
  lo:0≤a.n
  hi:a.n≤4
  terms:∀ i:Nat,(i:Int) < a.n→Word (a.arg i).s.data.toList∧(a.arg i).v=zwn (a.arg i).s
  rest:∀ i:Nat,a.n≤(i:Int)→i < 4→a.arg i=noTermD
theorem zk6 {s:ByteArray} {c:UInt8} (h:c∈s.data.toList):∃ i,i < s.size∧zbr s i=c.toNat:=by
  obtain ⟨i,hi,he⟩:=List.getElem_of_mem h
  have hi':i < s.size:=by rw [← bsz2]; exact hi
  refine ⟨i,hi',?_⟩
  unfold zbr
  have:s[i]? = some s[i]:=by simp [hi']
  rw [this]
  simp only [Option.getD_some]
  have h2:s[i]=c:=by rw [← he]; rfl
  rw [h2]
theorem zlN {s:ByteArray} (h:zhB s):Word s.data.toList:=by
  intro c hc
  obtain ⟨i,hi,he⟩:=zk6 hc
  have:=h.2 i hi
  unfold zeR at this
  unfold zeb
  omega
theorem zya {s:ByteArray} (h:zpG s):Word s.data.toList:=by
  intro c hc
  obtain ⟨i,hi,he⟩:=zk6 hc
  have:=h.2.2 i hi
  unfold okCh at this
  unfold zeb
  omega
theorem ValidD.plain {a:AtomD} (w:ValidD a):PlainD a:=by
  refine ⟨zlN w.says,zlN w.pred,w.lo,w.hi,fun i hi=>?_,w.rest⟩
  have h:=w.terms i hi
  unfold zmu at h
  cases hv:(a.arg i).v
  · rw [hv] at h
    have h:zhB (a.arg i).s:=h
    refine ⟨zlN h,?_⟩
    have:=h.2 0 h.1
    unfold zeR at this
    unfold zwn
    rw [eq_comm,Bool.and_eq_false_iff,decide_eq_false_iff_not,decide_eq_false_iff_not]
    omega
  · rw [hv] at h
    have h:zpG (a.arg i).s:=h
    refine ⟨zya h,?_⟩
    unfold zwn
    rw [decide_eq_true h.2.1.1,decide_eq_true h.2.1.2]
    rfl
theorem ztK (a:AtomD):zd3 a=zvN a.says.data.toList a.pred.data.toList (ze1 a):=by
  unfold zd3 zvN zrV ze1 zAT zyQ
  cases h:a.args with
  | nil=>simp
  | cons t r=>simp
theorem zpr {a:AtomD} {i:Nat} (h:i < a.cnt):a.args[i]? = some (a.arg i):=by
  have hc:a.cnt≤4:=Nat.min_le_right _ _
  unfold AtomD.args
  rw [List.getElem?_take,if_pos h]
  have:i=0∨i=1∨i=2∨i=3:=by omega
  rcases this with rfl | rfl | rfl | rfl <;> rfl
theorem zzc {a b:AtomD} (h0:a.says=b.says) (h1:a.pred=b.pred) (h2:a.n=b.n) (h:∀ i,i < 4→a.arg i=b.arg i):a=b:=by
  have e0:=h 0 (by omega)
  have e1:=h 1 (by omega)
  have e2:=h 2 (by omega)
  have e3:=h 3 (by omega)
  obtain ⟨s,p,n,t0,t1,t2,t3⟩:=a
  obtain ⟨s',p',n',u0,u1,u2,u3⟩:=b
  simp only [AtomD.arg] at e0 e1 e2 e3
  simp only at h0 h1 h2
  subst h0 h1 h2 e0 e1 e2 e3
  rfl
theorem zkd {a:AtomD} (w:PlainD a):∀ x∈ze1 a,Word x:=by
  intro x hx
  obtain ⟨t,ht,rfl⟩:=List.mem_map.1 hx
  obtain ⟨i,hi⟩:=List.getElem?_of_mem ht
  have hlt:i < a.cnt:=by
    have h1:=(List.getElem?_eq_some_iff.1 hi).1
    unfold AtomD.args at h1
    rw [List.length_take] at h1
    omega
  rw [zpr hlt] at hi
  cases hi
  have:(i:Int) < a.n:=by
    have:a.cnt≤a.n.toNat:=Nat.min_le_left _ _
    omega
  exact (w.terms i this).1
theorem znX {a b:AtomD} (wa:PlainD a) (wb:PlainD b) (h:zd3 a=zd3 b):a=b:=by
  rw [ztK,ztK] at h
  obtain ⟨h1,h2,h3⟩:=zw8 wa.says wb.says wa.pred wb.pred (zkd wa) (zkd wb) h
  have hlen:=congrArg List.length h3
  have hca:(a.cnt:Int)=a.n:=by
    have:=wa.lo; have:=wa.hi
    unfold AtomD.cnt
    omega
  have hcb:(b.cnt:Int)=b.n:=by
    have:=wb.lo; have:=wb.hi
    unfold AtomD.cnt
    omega
  have hla:(ze1 a).length=a.cnt:=by
    have:a.cnt≤4:=Nat.min_le_right _ _
    unfold ze1 AtomD.args
    rw [List.length_map,List.length_take]
    simp only [List.length_cons,List.length_nil]
    omega
  have hlb:(ze1 b).length=b.cnt:=by
    have:b.cnt≤4:=Nat.min_le_right _ _
    unfold ze1 AtomD.args
    rw [List.length_map,List.length_take]
    simp only [List.length_cons,List.length_nil]
    omega
  rw [hla,hlb] at hlen
  have hn:a.n=b.n:=by omega
  refine zzc (zgu h1) (zgu h2) hn (fun i hi=>?_)
  by_cases hin:(i:Int) < a.n
  · have e1:=zpr (a:=a) (i:=i) (by omega)
    have e2:=zpr (a:=b) (i:=i) (by omega)
    have e3:(ze1 a)[i]? = (ze1 b)[i]? := by rw [h3]
    unfold ze1 at e3
    rw [List.getElem?_map,List.getElem?_map,e1,e2] at e3
    simp only [Option.map_some,Option.some.injEq] at e3
    have es:=zgu e3
    have ev:=(wa.terms i hin).2
    have ew:=(wb.terms i (by omega)).2
    rw [es] at ev
    have:(a.arg i).v=(b.arg i).v:=ev.trans ew.symm
    calc a.arg i=⟨(a.arg i).v,(a.arg i).s⟩:=rfl
      _=⟨(b.arg i).v,(b.arg i).s⟩:=by rw [this,es]
      _=b.arg i:=rfl
  · rw [wa.rest i (by omega) hi,wb.rest i (by omega) hi]
theorem zvt {a b:AtomD} (wa:PlainD a) (wb:PlainD b):cmpD a b=0↔a=b:=⟨fun h=>znX wa wb (cmpD_zero.1 h),fun h=>by rw [h]; exact zeT _⟩
def AllP (l:List AtomD):Prop:=∀ x∈l,PlainD x
theorem zgF {l:List AtomD} (h:AllP l) {x:AtomD}:x∈zjM l↔x∈l:=by
  refine ⟨fun hx=>(zdO l).mem hx,fun hx=>?_⟩
  obtain ⟨y,hy,e⟩:=(zdO l).cov x hx
  have:=znX (h y ((zdO l).mem hy)) (h x hx) e
  subst this
  exact hy
theorem zuU {l m:List AtomD} (h:AllP l) (g:AllP m) (e:∀ x,x∈l↔x∈m):zjM l=zjM m :=
  zmF (zdO l).asc (zdO m).asc (fun x=>by rw [zgF h,zgF g,e])
theorem zsG {l:List AtomD} (p:AtomD→Bool) (h:AscD l):AscD (l.filter p):=h.sublist List.filter_sublist
end Go.Am
namespace Go.Am
theorem zqq (b:Bool):zgg undef b=false:=rfl
theorem zyp (e:Env) (d:Nat) (v:Value):put e (some d) v=Env.set e d v:=rfl
theorem zyo (e:Env) (v:Value):put e none v=e:=rfl
theorem zxT (v:Value) (r:Env):Env.get (v::r) 0=v:=rfl
theorem zyb (v:Value) (r:Env) (n:Nat):Env.get (v::r) (n+1)=Env.get r n:=rfl
theorem zxO (x v:Value) (r:Env):Env.set (x::r) 0 v=v::r:=rfl
theorem zx1 (x v:Value) (r:Env) (n:Nat):Env.set (x::r) (n+1) v=x::Env.set r n v:=rfl
theorem zA5 (e:Env) (t:Nat):zab e (.tmp t)=e.get t:=rfl
theorem zxS (e:Env) (v:Value):zab e (.const v)=v:=rfl
theorem zug (e:Env) (g:Nat):zab e (.global g)=.pointer (some ⟨g,0,none⟩):=rfl
theorem zAe (e:Env) (f:FuncId):zab e (.func f)=.func (.func f) #[] #[]:=rfl
theorem zrU (b:Bool):(Value.bool b).cells=#[.bool b]:=rfl
theorem zwf (k:IntKind) (i:Int):(Value.int k i).cells=#[.int k i]:=rfl
theorem zoB (s:ByteArray):(Value.string s).cells=#[.string s]:=rfl
theorem zqd (a:Option Addr) (n c:Nat):(Value.slice a n c).cells=#[.slice a n c]:=rfl
theorem zlL (a:Option Addr):(Value.pointer a).cells=#[.pointer a]:=rfl
theorem ztI (a:Option Nat):(Value.map a).cells=#[.map a]:=rfl
theorem zsQ (f:Fn) (a b:Array Value):(Value.func f a b).cells=#[.func f a b]:=rfl
theorem zo0 (t:TypeId) (v:Value):(Value.iface t v).cells=#[.iface t v]:=rfl
theorem zvE (cs:Array Value):(Value.agg cs).cells=cs:=rfl
theorem zvx (z:List Value) (n:Nat):zbI z n=(List.replicate n z).flatten:=rfl
theorem zsE (cs:List Value) (o:Nat) (vs:List Value):splice cs o vs=cs.take o++vs++cs.drop (o+vs.length):=rfl
theorem zzw (cs:List Value) (o n:Nat):cut cs o n=if o+n≤cs.length then some ((cs.drop o).take n) else none:=rfl
def jr (J:Nat→Value):Nat→Nat→Env→Env
  | _,0,r=>r
  | a,n+1,r=>J a::jr J (a+1) n r
theorem zAs (J:Nat→Value) (a:Nat) (r:Env):jr J a 0 r=r:=rfl
theorem zAB (J:Nat→Value) (a n:Nat) (r:Env):jr J a (n+1) r=J a::jr J (a+1) n r:=rfl
noncomputable def ysymx:=PLift.up (And.intro @zAs <| And.intro @zAB <| And.intro @zqq <| And.intro @zyp <| And.intro @zyo <| And.intro @zxT <| And.intro @zyb <| And.intro @zxO <| And.intro @zx1 <| And.intro @zA5 <| And.intro @zxS <| And.intro @zug <| And.intro @zAe <| And.intro @zrU <| And.intro @zwf <| And.intro @zoB <| And.intro @zqd <| And.intro @zlL <| And.intro @ztI <| And.intro @zsQ <| And.intro @zo0 <| And.intro @zvE <| And.intro @zvx <| And.intro @zsE <| And.intro @zzw <| And.intro @Option.map_some.{0,0} <| And.intro @Option.bind_some.{0,0} <| And.intro @List.length_cons.{0} <| And.intro @List.length_nil.{0} <| And.intro @List.cons_append.{0} <| And.intro @List.nil_append.{0} <| And.intro @List.getElem?_cons_zero.{0} <| And.intro @List.getElem?_cons_succ.{0} <| And.intro @decide_true <| And.intro @decide_false <| And.intro @Int.cast_ofNat_Int <| And.intro @Int.zero_le_ofNat <| And.intro @Int.le_refl <| And.intro @and_self <| And.intro @and_true <| And.intro @true_and <| And.intro @if_true.{1} <| And.intro @if_false.{1} <| And.intro @Nat.zero_add <| And.intro @Bool.not_true <| And.intro @Bool.not_false <| And.intro @Int.toNat_natCast <| And.intro @zu2 <| And.intro @zv0 <| And.intro @List.replicate_zero.{0} <| And.intro @List.replicate_succ.{0} <| And.intro @List.flatten_cons.{0} <| And.intro @List.flatten_nil.{0} <| And.intro @List.take_succ_cons.{0} <| And.intro @List.take_zero.{0} <| And.intro @List.drop_succ_cons.{0} <| And.intro @List.drop_zero.{0} <| And.intro @List.append_nil.{0} <| And.intro @Bool.or_self <| And.intro @Bool.false_eq_true <| And.intro @beq_self_eq_true.{0} <| And.intro @List.size_toArray.{0} <| And.intro @List.append_assoc.{0} <| And.intro @zAx <| And.intro @zAI <| And.intro @zsw <| And.intro @zvD <| And.intro @ztB <| And.intro @zo7 <| And.intro @zmX <| And.intro @zlH <| And.intro @znJ <| And.intro @zoC <| And.intro @zoO <| And.intro @zpH <| And.intro @zpD <| And.intro @zub <| And.intro @zat <| @zag)
theorem symx:type_of% ysymx.down:=ysymx.down
end Go.Am
namespace Go.Am
set_option linter.unusedVariables false
def resP (s:ByteArray):Prop:=(⟨#[115,97,121,115]⟩:ByteArray)=s∨(⟨#[105,102]⟩:ByteArray)=s∨(⟨#[99,97,110,115,97,121]⟩:ByteArray)=s∨(⟨#[112,114,105,110,99,105,112,97,108]⟩:ByteArray)=s∨(⟨#[112,114,101,100]⟩:ByteArray)=s∨(⟨#[99,108,101,97,114]⟩:ByteArray)=s∨(⟨#[113,117,111,116,97]⟩:ByteArray)=s∨(⟨#[98,117,100,103,101,116]⟩:ByteArray)=s
structure lowX (s:ByteArray):Prop where
  pos:1≤s.size
  len:s.size≤255
  first:zbr s 0≠95
  all:∀ i,i < s.size→zeR (zbr s i)
def constX (s:ByteArray):Prop:=lowX s∧¬ resP s
def zjk (s:ByteArray):Prop:=constX s∧(97≤zbr s 0∧zbr s 0≤122)
structure varX (s:ByteArray):Prop where
  pos:1≤s.size
  len:s.size≤255
  first:65≤zbr s 0∧zbr s 0≤90
  all:∀ i,i < s.size→okCh (zbr s i)
def termX (t:TermD):Prop:=if t.v=true then varX t.s else constX t.s
structure ValidX (a:AtomD):Prop where
  says:zjk a.says
  pred:zjk a.pred
  lo:0≤a.n
  hi:a.n≤4
  terms:∀ i:Nat,(i:Int) < a.n→termX (a.arg i)
  rest:∀ i:Nat,a.n≤(i:Int)→i < 4→a.arg i=noTermD
theorem constX.low {s:ByteArray} (h:constX s):zhB s:=⟨h.1.pos,h.1.all⟩
theorem termX.ok {t:TermD} (h:termX t):zmu t:=by
  unfold termX at h
  unfold zmu
  split at h
  · rename_i hv
    rw [hv]
    exact ⟨h.pos,h.first,h.all⟩
  · rename_i hv
    rw [show t.v=false by simpa using hv]
    exact h.low
theorem ValidX.valid {a:AtomD} (h:ValidX a):ValidD a:=⟨h.says.1.low,h.pred.1.low,h.lo,h.hi,fun i hi=>(h.terms i hi).ok,h.rest⟩
def zy7 (a:AtomD) (x:ByteArray):Prop:=∃ i:Nat,i < 4∧(i:Int) < a.n∧(a.arg i).v=true∧(a.arg i).s=x
structure OneX (c:ClauseD):Prop where
  head:ValidX c.head
  body:∀ b∈c.body,ValidX b
  ranged:∀ x,zy7 c.head x→∃ b∈c.body,zy7 b x
structure FactX (a:AtomD):Prop where
  valid:ValidX a
  ground:a.ground=true
structure MayX (cl:List ClauseD) (facts:List AtomD):Prop where
  clauses:∀ c∈cl,OneX c
  facts:∀ a∈facts,FactX a
theorem arg_mem {a:AtomD} {t:TermD}:t∈a.args↔∃ i:Nat,i < a.cnt∧a.arg i=t:=by
  have h4:a.cnt=0∨a.cnt=1∨a.cnt=2∨a.cnt=3∨a.cnt=4:=by unfold AtomD.cnt; omega
  unfold AtomD.args
  have one:∀ {n:Nat} {P:Nat→Prop},(∃ i,i < n+1∧P i)↔(∃ i,i < n∧P i)∨P n:=by
    intro n P
    constructor
    · rintro ⟨i,hi,hp⟩
      by_cases e:i=n
      · subst e; exact .inr hp
      · exact .inl ⟨i,by omega,hp⟩
    · rintro (⟨i,hi,hp⟩ | hp)
      · exact ⟨i,by omega,hp⟩
      · exact ⟨n,by omega,hp⟩
  rcases h4 with e | e | e | e | e <;> rw [e] <;> simp [one,AtomD.arg,eq_comm,or_assoc]
theorem ground_iff {a:AtomD}:a.ground=true↔∀ i:Nat,i < a.cnt→(a.arg i).v=false:=by
  unfold AtomD.ground
  rw [Bool.not_eq_true',List.any_eq_false]
  constructor
  · intro h i hi
    have:=h (a.arg i) (arg_mem.2 ⟨i,hi,rfl⟩)
    simpa using this
  · intro h t ht
    obtain ⟨i,hi,rfl⟩:=arg_mem.1 ht
    simpa using h i hi
theorem cnt_lt {a:AtomD} {i:Nat}:i < a.cnt↔i < 4∧(i:Int) < a.n:=by
  unfold AtomD.cnt
  omega
theorem varIn_iff {a:AtomD} {x:ByteArray}:zy7 a x↔∃ i:Nat,i < a.cnt∧(a.arg i).v=true∧(a.arg i).s=x:=by
  constructor
  · rintro ⟨i,h1,h2,h3,h4⟩
    exact ⟨i,cnt_lt.2 ⟨h1,h2⟩,h3,h4⟩
  · rintro ⟨i,h1,h3,h4⟩
    exact ⟨i,(cnt_lt.1 h1).1,(cnt_lt.1 h1).2,h3,h4⟩
end Go.Am
