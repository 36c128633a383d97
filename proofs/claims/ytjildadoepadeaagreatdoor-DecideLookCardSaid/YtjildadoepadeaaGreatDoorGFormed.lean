/- Policies that may be: the error of each, as plain functions. No condition. -/
import Derived.Test.YtjildadoepadeaaGreatDoorG17
set_option linter.unusedSimpArgs false
set_option linter.unusedVariables false
noncomputable section
namespace Go.Am
variable {s:aA} {a:ae}
open Classical in
def eN:List Int->Int
 | []=>0
 |e::l=>if e=0 then eN l else e
theorem zp2:eN []=0:=rfl
theorem dN (e:Int) (l:List Int):eN (e::l)=if e=0 then eN l else e:=rfl
theorem c8 {l:List Int}:eN l=0↔∀ e∈l,e=0:=by
 induction l with
 |nil=>simp [eN]
 |cons e l ih =>
  rw [dN]
  by_cases h:e=0
  .rw [aC h,ih];simp [h]
  .rw [ay h];simp [h]
def aO (b:Bool) (e:Int):Int:=if b then e else 0
theorem HZ {b:Bool} {e:Int} (h:e≠0):aO b e=0↔b=false:=by cases b <;> simp [aO,h]
def dw {Z:Type} (f:List Z->Z->Int):List Z->List Z->Int
 |_,[]=>0
 |pre,x::l=>if f pre x=0 then dw f (pre++[x]) l else f pre x
theorem mP {Z:Type} {f:List Z->Z->Int} {l:List Z} {i:Nat} {x:Z} (hx:l[i]? = some x):dw f (l.take i) (l.drop i)=if f (l.take i) x=0 then dw f (l.take (i+1)) (l.drop (i+1)) else f (l.take i) x:=by
 have hi:=fB.1 hx
 rw [F5 hi.1,hi.2,wz,hx]
 rfl
theorem vT {Z:Type} {f:List Z->Z->Int} {l:List Z} {i:Nat} (hi:l.length<=i):dw f (l.take i) (l.drop i)=0:=by
 rw [zzd hi];rfl
theorem ji {Z:Type} {f:List Z->Z->Int}:∀ {l pre:List Z},dw f pre l=0↔∀ i x,l[i]? = some x->f (pre++l.take i) x=0
 | [],pre=>by simp [dw]
 |y::l,pre=>by
  unfold dw
  by_cases h:f pre y=0
  .rw [aC h,ji]
   constructor
   .intro g i x hx
    cases i with
    |zero=>simp at hx;subst hx;simpa using h
    |succ i=>have:=g i x (by simpa using hx);simpa using this
   .intro g i x hx
    have:=g (i+1) x (by simpa using hx)
    simpa using this
  .rw [ay h]
   constructor
   .intro g;exact absurd g h
   .intro g;exact absurd (by simpa using g 0 y rfl) h
open Classical in
def kr (s:aA):Bool:=decide (gh s)
open Classical in
def zq (t:aH):Bool := !decide (cC t)
def gn (a:ae):Int :=
 if kr a.says && kr a.pred then (if a.n < 0\/4 < a.n then 4 else if a.args.any zq then 3 else if (a.all.drop a.bR).any (λt => !decide (t=aZ)) then 15 else 0) else 3
theorem bl:kr s=true↔gh s:=by unfold kr;simp
theorem H4 (h:¬ gh s):kr s=false:=by unfold kr;simp [h]
theorem HT (h:¬ gh a.says\/¬ gh a.pred):gn a=3:=by
 unfold gn
 rw [ay]
 rw [cY,bl,bl]
 exact λx=>h.elim (λy=>y x.1) (λy=>y x.2)
theorem Tw (h1:gh a.says) (h2:gh a.pred) (h:a.n < 0\/4 < a.n):gn a=4:=by
 unfold gn
 rw [aC (by rw [cY,bl,bl];exact ⟨h1,h2⟩),aC h]
theorem S2 (h1:gh a.says) (h2:gh a.pred) (h3:¬ (a.n < 0\/4 < a.n)) (h:a.args.any zq=true):gn a=3:=by
 unfold gn
 rw [aC (by rw [cY,bl,bl];exact ⟨h1,h2⟩),ay h3,aC h]
theorem S1 (h1:gh a.says) (h2:gh a.pred) (h3:¬ (a.n < 0\/4 < a.n)) (h4:a.args.any zq=false):gn a=if (a.all.drop a.bR).any (λt => !decide (t=aZ)) then 15 else 0:=by
 unfold gn
 rw [aC (by rw [cY,bl,bl];exact ⟨h1,h2⟩),ay h3,ay (by rw [h4];decide)]
def aM (l:List aA) (s:aA):Bool:=l.any λx=>decide (s=x)
theorem cG {l:List aA}:aM l s=true↔s∈l:=by
 unfold aM
 rw [oI]
 exact ⟨λ⟨x,hx,e⟩=>by rw [of_decide_eq_true e];exact hx,λh=>⟨s,h,by simp⟩⟩
def jS (l:List bb) (s:aA):Int × Bool:=match l.find? (λx=>decide (x.name=s)) with
 |some x=>(x.arity,true)
 |none=>(0,false)
def ek (d:aD) (a:ae):Int:=eN [gn a,aO (!aM d.ah a.says) 6,aO (!(jS d.bo a.pred).2) 7,aO (!decide ((jS d.bo a.pred).1=a.n)) 8]
def AU (a:ae):Bool:=a.ground
def kq (d:aD) (s:aA) (a:ae):Int:=eN [aO (!aM d.ah s) 6,ek d a,aO (!AU a) 10,aO (!decide (a.says=s)) 11]
def nN (l:List aA):Int:=if l.length < 1\/16 < l.length then 4 else dw (λpre w=>eN [aO (!kr w) 3,aO (aM pre w) 5]) [] l
def oE (l:List bb):Int:=if 32 < l.length then 4 else dw (λpre x=>eN [aO (!kr x.name) 3,aO (aM (pre.map bb.name) x.name) 5,aO (decide (x.arity < 0\/4 < x.arity)) 4]) [] l
def lP (ps:List aA) (c:ba):Int:=if c.reads.length < 1\/16 < c.reads.length then 4 else dw (λpre w=>eN [aO (!aM ps w) 6,aO (decide (w=c.bW)) 11,aO (aM pre w) 5]) [] c.reads
def r6 (ps:List aA) (l:List ba):Int:=dw (λpre c=>eN [aO (!aM ps c.bW) 6,aO (aM (pre.map ba.bW) c.bW) 5,lP ps c]) [] l
def uB (d:aD):Int:=aO (decide (d.cB < 0\/1000 < d.cB) || decide (d.bO < 1\/1048576 < d.bO) || decide (64 < d.rules.length+d.aP.length)) 4
def uM (d:aD) (l:cR):Int:=dw (λ_ a=>ek d a) [] l
def ic (d:aD) (head:ae) (body:cR):Int:=eN [ek d head,aO (decide (6 < body.length)) 4,uM d body]
open Classical in
def uG (c:bA):Int:=aO (decide (∃ x,gi c.head x/\∀ a∈c.body,¬ gi a x)) 9
def nS (d:aD) (c:bA):Int:=eN [ic d c.head c.body,uG c]
def mU (d:aD) (g:dg):Int:=eN [aO (!aM d.ah g.to) 6,aO (decide (g.to=g.head.says)) 11,ic d g.head g.body]
def wu (d:aD):Int:=eN [dw (λ_ c=>nS d c) [] d.rules,dw (λ_ g=>mU d g) [] d.aP]
def kp (d:aD):Int:=eN [nN d.ah,oE d.bo,r6 d.ah d.aN,uB d,wu d]
abbrev aQ.xk:aQ ai:={ k:=1,R:=λ_ cs x=>cs=[x]/\one x=true,len:=by rintro _ cs x ⟨rfl,_⟩;rfl,mono:=λ_ _ _ _ _ h=>h,fk:=by rintro _ cs x ⟨rfl,h⟩;simp [h] }
theorem NX {T:bm} {t e:TypeId} {kd:IntKind} {i:Int} {v:ai} {h1:Heap} {bs:List bd} {w:Nat} {K:aF} {l:List ai} {x:ai} (f:Sl aQ.xk h1 v l) (hd:T.desc t=some (.slice e)) (hs:c9 T e=some 1) (h0:0<=i) (hx:l[i.toNat]? = some x) (hk:∀ p,dY h1 p [x]->K p (h1.lay bs w)):aE (hZ T t v (.int kd i)) (h1.lay bs w) K:=by
 have hi:=(fB.1 hx).1
 refine v8 f hd hs h0 (by omega) (λx' p cs ln hr hp=>?_)
 rw [hx] at ln
 cases ln
 exact hk p (hr.1 ▸ hp)
end Go.Am
