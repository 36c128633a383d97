/- Atoms of the document's form, and plain ones: their texts tell them apart; lists of such, merged. No condition. -/
import Derived.Test.YtnkmeidmdaidhaaGreatDoorG19
import Derived.Test.YtnkmeidmdaidhaaGreatDoorG10
set_option linter.unusedSimpArgs false
set_option linter.unusedVariables false
namespace Go.Am
variable {s:bf} {a b:ae}
def kE (c:Int):Prop:=(97<=c/\c<=122)\/(65<=c/\c<=90)\/(48<=c/\c<=57)\/c=95
def sg (c:Int):Prop:=(97<=c/\c<=122)\/(48<=c/\c<=57)\/c=95
def Ux (s:bf):Prop:=1<=s.size/\∀ i,i < s.size->sg (j5 s i)
def zzI (s:bf):Prop:=1<=s.size/\(65<=j5 s 0/\j5 s 0<=90)/\∀ i,i < s.size->kE (j5 s i)
def UA (t:az):Prop:=if t.v then zzI t.s else Ux t.s
structure Al (a:ae):Prop where
 says:Ux a.says
 pred:Ux a.pred
 lo:0<=a.n
 hi:a.n<=4
 ie:∀ i:Nat,(i:Int) < a.n->UA (a.arg i)
 rest:∀ i:Nat,a.n<=(i:Int)->i < 4->a.arg i=di
def zAp (s:bf):Bool:=decide (65<=j5 s 0) && decide (j5 s 0<=90)
structure my (a:ae):Prop where
 says:Word a.says.data.toList
 pred:Word a.pred.data.toList
 lo:0<=a.n
 hi:a.n<=4
 ie:∀ i:Nat,(i:Int) < a.n->Word (a.arg i).s.data.toList/\(a.arg i).v=zAp (a.arg i).s
 rest:∀ i:Nat,a.n<=(i:Int)->i < 4->a.arg i=di
theorem zBK {c:UInt8} (h:c∈s.data.toList):∃ i,i < s.size/\j5 s i=c.toNat:=by
 obtain ⟨i,hi,he⟩:=J6 h
 have qh:i < s.size:=by rw [<- FY];exact hi
 refine ⟨i,qh,?_⟩
 unfold j5
 have:s[i]? = some s[i]:=by simp [qh]
 rw [this]
 simp only [yw]
 have h2:s[i]=c:=by rw [<- he];rfl
 rw [h2]
theorem zBL (h:Ux s):Word s.data.toList:=by
 intro c hc
 obtain ⟨i,hi,he⟩:=zBK hc
 have:=h.2 i hi
 unfold sg at this
 unfold nq
 omega
theorem zBN (h:zzI s):Word s.data.toList:=by
 intro c hc
 obtain ⟨i,hi,he⟩:=zBK hc
 have:=h.2.2 i hi
 unfold kE at this
 unfold nq
 omega
theorem Al.plain (w:Al a):my a:=by
 refine ⟨zBL w.says,zBL w.pred,w.lo,w.hi,λi hi=>?_,w.rest⟩
 have h:=w.ie i hi
 unfold UA at h
 cases hv:(a.arg i).v
 .rw [hv] at h
  have h:Ux (a.arg i).s:=h
  refine ⟨zBL h,?_⟩
  have:=h.2 0 h.1
  unfold sg at this
  unfold zAp
  rw [eq_comm,Bool.and_eq_false_iff,decide_eq_false_iff_not,decide_eq_false_iff_not]
  omega
 .rw [hv] at h
  have h:zzI (a.arg i).s:=h
  refine ⟨zBN h,?_⟩
  unfold zAp
  rw [wm h.2.1.1,wm h.2.1.2]
  rfl
theorem zvX (a:ae):gu a=Kz a.says.data.toList a.pred.data.toList (lN a):=by
 unfold gu Kz Fj lN Kx eU
 cases h:a.args with
 |nil=>simp
 |cons t r=>simp
theorem args_at {i:Nat} (h:i < a.cH):a.args[i]? = some (a.arg i):=by
 have hc:a.cH<=4:=E4 _ _
 unfold ae.args
 rw [oG,aG h]
 have:i=0\/i=1\/i=2\/i=3:=by omega
 rcases this with rfl|rfl|rfl|rfl <;> rfl
theorem zyy (h0:a.says=b.says) (h1:a.pred=b.pred) (h2:a.n=b.n) (h:∀ i,i < 4->a.arg i=b.arg i):a=b:=by
 have e0:=h 0 (by omega)
 have e1:=h 1 (by omega)
 have e2:=h 2 (by omega)
 have e3:=h 3 (by omega)
 obtain ⟨s,p,n,t0,t1,t2,t3⟩:=a
 obtain ⟨s',p',n',u0,u1,u2,u3⟩:=b
 simp only [ae.arg] at e0 e1 e2 e3
 simp only at h0 h1 h2
 subst h0 h1 h2 e0 e1 e2 e3
 rfl
theorem zjw (w:my a):∀ x∈lN a,Word x:=by
 intro x hx
 obtain ⟨t,ht,rfl⟩:=sx.1 hx
 obtain ⟨i,hi⟩:=Dd ht
 have aW:i < a.cH:=by
  have h1:=(fD.1 hi).1
  unfold ae.args at h1
  rw [hZ] at h1
  omega
 rw [args_at aW] at hi
 cases hi
 have:(i:Int) < a.n:=by
  have:a.cH<=a.n.toNat:=wk _ _
  omega
 exact (w.ie i this).1
theorem zvB (wa:my a) (wb:my b) (h:gu a=gu b):a=b:=by
 rw [zvX,zvX] at h
 obtain ⟨h1,h2,h3⟩:=zxz wa.says wb.says wa.pred wb.pred (zjw wa) (zjw wb) h
 have hlen:=congrArg List.length h3
 have kj:(a.cH:Int)=a.n:=by
  have:=wa.lo;have:=wa.hi
  unfold ae.cH
  omega
 have nh:(b.cH:Int)=b.n:=by
  have:=wb.lo;have:=wb.hi
  unfold ae.cH
  omega
 have Lf:(lN a).length=a.cH:=by
  have:a.cH<=4:=E4 _ _
  unfold lN ae.args
  rw [fN,hZ]
  simp only [dB,cW]
  omega
 have xf:(lN b).length=b.cH:=by
  have:b.cH<=4:=E4 _ _
  unfold lN ae.args
  rw [fN,hZ]
  simp only [dB,cW]
  omega
 rw [Lf,xf] at hlen
 have hn:a.n=b.n:=by omega
 refine zyy (C9 h1) (C9 h2) hn (λi hi=>?_)
 by_cases aT:(i:Int) < a.n
 .have e1:=args_at (a:=a) (i:=i) (by omega)
  have e2:=args_at (a:=b) (i:=i) (by omega)
  have e3:(lN a)[i]? = (lN b)[i]? := by rw [h3]
  unfold lN at e3
  rw [jS,jS,e1,e2] at e3
  simp only [jT,dy] at e3
  have es:=C9 e3
  have ev:=(wa.ie i aT).2
  have ew:=(wb.ie i (by omega)).2
  rw [es] at ev
  have:(a.arg i).v=(b.arg i).v:=ev.trans ew.symm
  calc a.arg i=⟨(a.arg i).v,(a.arg i).s⟩:=rfl
   _=⟨(b.arg i).v,(b.arg i).s⟩:=by rw [this,es]
   _=b.arg i:=rfl
 .rw [wa.rest i (by omega) hi,wb.rest i (by omega) hi]
theorem zBM (wa:my a) (wb:my b):aZ a b=0↔a=b:=⟨λh=>zvB wa wb (je.1 h),λh=>by rw [h];exact L6 _⟩
def sA (l:aU):Prop:=∀ x∈l,my x
theorem zu9 {l:aU} (h:sA l) {x:ae}:x∈j8 l↔x∈l:=by
 refine ⟨λhx=>(JM l).mem hx,λhx=>?_⟩
 obtain ⟨y,hy,e⟩:=(JM l).yK x hx
 have:=zvB (h y ((JM l).mem hy)) (h x hx) e
 subst this
 exact hy
theorem zr2 {l:aU} (p:ae->Bool) (h:jB l):jB (l.filter p):=h.sublist List.filter_sublist
end Go.Am
namespace Go.Am
variable {a:ae}
def pA (s:bf):Prop:=(⟨#[115,97,121,115]⟩:bf)=s\/(⟨#[105,102]⟩:bf)=s\/(⟨#[99,97,110,115,97,121]⟩:bf)=s\/(⟨#[112,114,105,110,99,105,112,97,108]⟩:bf)=s\/(⟨#[112,114,101,100]⟩:bf)=s\/(⟨#[99,108,101,97,114]⟩:bf)=s\/(⟨#[113,117,111,116,97]⟩:bf)=s\/(⟨#[98,117,100,103,101,116]⟩:bf)=s
structure H4 (s:bf):Prop where
 pos:1<=s.size
 len:s.size<=255
 first:j5 s 0≠95
 all:∀ i,i < s.size->sg (j5 s i)
def aab (s:bf):Prop:=H4 s/\¬ pA s
def Dv (s:bf):Prop:=aab s/\(97<=j5 s 0/\j5 s 0<=122)
structure uC (s:bf):Prop where
 pos:1<=s.size
 len:s.size<=255
 first:65<=j5 s 0/\j5 s 0<=90
 all:∀ i,i < s.size->kE (j5 s i)
def eR (t:az):Prop:=if t.v=true then uC t.s else aab t.s
structure bT (a:ae):Prop where
 says:Dv a.says
 pred:Dv a.pred
 lo:0<=a.n
 hi:a.n<=4
 ie:∀ i:Nat,(i:Int) < a.n->eR (a.arg i)
 rest:∀ i:Nat,a.n<=(i:Int)->i < 4->a.arg i=di
theorem aab.low {s:bf} (h:aab s):Ux s:=⟨h.1.pos,h.1.all⟩
theorem eR.ok {t:az} (h:eR t):UA t:=by
 unfold eR at h
 unfold UA
 split at h
 .rename_i hv
  rw [hv]
  exact ⟨h.pos,h.first,h.all⟩
 .rename_i hv
  rw [show t.v=false by simpa using hv]
  exact h.low
theorem bT.valid (h:bT a):Al a:=⟨h.says.1.low,h.pred.1.low,h.lo,h.hi,λi hi=>(h.ie i hi).ok,h.rest⟩
def sk (a:ae) (x:bf):Prop:=∃ i:Nat,i < 4/\(i:Int) < a.n/\(a.arg i).v=true/\(a.arg i).s=x
structure sF (c:ay):Prop where
 head:bT c.head
 body:∀ b∈c.body,bT b
 Cr:∀ x,sk c.head x->∃ b∈c.body,sk b x
structure ke (a:ae):Prop where
 valid:bT a
 ground:a.ground=true
structure sE (cl:List ay) (facts:aU):Prop where
 clauses:∀ c∈cl,sF c
 facts:∀ a∈facts,ke a
theorem jU {t:az}:t∈a.args↔∃ i:Nat,i < a.cH/\a.arg i=t:=by
 have h4:a.cH=0\/a.cH=1\/a.cH=2\/a.cH=3\/a.cH=4:=by unfold ae.cH;omega
 unfold ae.args
 have one:∀ {n:Nat} {P:Nat->Prop},(∃ i,i < n+1/\P i)↔(∃ i,i < n/\P i)\/P n:=by
  intro n P
  constructor
  .rintro ⟨i,hi,hp⟩
   by_cases e:i=n
   .subst e;exact .inr hp
   .exact .inl ⟨i,by omega,hp⟩
  .rintro (⟨i,hi,hp⟩|hp)
   .exact ⟨i,by omega,hp⟩
   .exact ⟨n,by omega,hp⟩
 rcases h4 with e|e|e|e|e <;> rw [e] <;> simp [one,ae.arg,eq_comm,or_assoc]
theorem oU:a.ground=true↔∀ i:Nat,i < a.cH->(a.arg i).v=false:=by
 unfold ae.ground
 rw [yx,Kc]
 constructor
 .intro h i hi
  have:=h (a.arg i) (jU.2 ⟨i,hi,rfl⟩)
  simpa using this
 .intro h t ht
  obtain ⟨i,hi,rfl⟩:=jU.1 ht
  simpa using h i hi
theorem iu {i:Nat}:i < a.cH↔i < 4/\(i:Int) < a.n:=by
 unfold ae.cH
 omega
theorem rB {x:bf}:sk a x↔∃ i:Nat,i < a.cH/\(a.arg i).v=true/\(a.arg i).s=x:=by
 constructor
 .rintro ⟨i,h1,h2,h3,h4⟩
  exact ⟨i,iu.2 ⟨h1,h2⟩,h3,h4⟩
 .rintro ⟨i,h1,h3,h4⟩
  exact ⟨i,(iu.1 h1).1,(iu.1 h1).2,h3,h4⟩
theorem ye {T:bx} {t u:TypeId} {w n i:Nat} {cs vs:List ai} {v:ai} {h1:Heap} {bs:List bc} {K:aL} (hb:bs[i]? = some (.row cs u false)) (hs:de T t=some n) (hc:cs.length=n) (hv:v.cells.toList=vs) (hl:vs.length=n) (rm:vs.all one=true)
 (hK:K undef (h1.lay (bs.set i (.row vs u false)) (min w (h1.size+i)))):jM (gN T t (.pointer (some ⟨h1.size+i,0,none⟩)) v (h1.lay bs w)) K:=by
 have hi:=(fD.1 hb).1
 have hg:(h1.lay bs w).get (h1.size+i)=some (.row cs u false):=by rw [kM];exact hb
 have dC:v.cells.size=n:=by rw [<- ss,hv,hl]
 have cY:aJ cs 0 vs=vs:=by
  unfold aJ
  rw [Ds,yy,List.drop_eq_nil_of_le (by omega),bu]
 have he:gN T t (.pointer (some ⟨h1.size+i,0,none⟩)) v (h1.lay bs w)=some ((h1.lay bs w).set (h1.size+i) (.row vs u false)):=by
  unfold gN
  simp only [hs,dz]
  rw [aG dC,hv]
  unfold np
  rw [hg]
  simp only
  rw [aG (by simp only [dj,iC];exact ⟨by omega,rm⟩),cY]
 rw [he,EL _ _ _ _ _ hi]
 exact hK
end Go.Am
namespace Go.Am
def atR (l:List aV) (a:ae):Int:=lB (λx=>decide (x.atom=a)) l
end Go.Am
