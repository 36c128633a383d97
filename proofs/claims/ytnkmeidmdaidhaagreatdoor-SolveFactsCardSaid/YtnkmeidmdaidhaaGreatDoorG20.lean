/- One element appended, cells stored within a row. No condition. -/
import Derived.Test.YtnkmeidmdaidhaaGreatDoorGJoin
set_option linter.unusedSimpArgs false
set_option linter.unusedVariables false
noncomputable section
namespace Go.Am
variable {cs:List ai} {ro:Bool} {u:TypeId} {h:Heap}
section
variable {Z:Type} {r:aC Z} {h0 h1:Heap} {v:ai} {l:List Z} {t e:TypeId} {A k bytes:Nat} {z:List ai} {T:bJ} {bs:List aZ} {w:Nat} {K:aJ}
theorem te (hd:T.desc t=some (.slice e)) (hi:T.info e=some (k,bytes,z)) (Cs:r.k=k) (hk:0 < k) {i c:Nat} {x:Z} (hg:bs[i]? = some (.row cs u ro)) (hz:h0.size<=h1.size) (f:Ow r h0 h1 e A v l) (hr:r.R (kill A (h1.lay bs w)) cs x)
 (hb:(l.length+1)*bytes<=140737488355328) (hl:l.length+1<=1152921504606846976)
 (hK:∀ v' h' A',Ow r h0 h' e A' v' (l++[x])->ff A (h1.lay bs w) h'->(A'=A\/h1.size<=A')->K v' h'):dv (jT T t v (.slice (some ⟨h1.size+i,0,none⟩) 1 c) (h1.lay bs w)) K:=by
 have tP:(h1.lay bs w).get (h1.size+i)=some (.row cs u ro):=by rw [jG];exact hg
 obtain ⟨hs,j3⟩:=Bo (r:=r) (A:=A) (c:=c) (y:=x) (by omega) tP hr
 exact YZ hd hi Cs hk hz f (by rw [<- Cs];exact hs) j3 hb hl hK
theorem j4 {n o:Nat} {vs:List ai} {v:ai} (q:Holds h1 A (.row cs u false)) (hs:dJ T t=some n) (hv:v.cells.toList=vs) (hl:vs.length=n) (hb:o+n<=cs.length) (bU:vs.all one=true)
 (hK:∀ h',Holds h' A (.row (aI cs o vs) u false)->ff A (h1.lay bs w) h'->K undef h'):lG (i7 T t (.pointer (some ⟨A,o,none⟩)) v (h1.lay bs w)) K:=by
 have hg:(h1.lay bs w).get A=some (.row cs u false):=q.lay bs w
 have hA:A < (h1.lay bs w).size:=(q.on bs w).lt
 have dS:v.cells.size=n:=by rw [<- hl,<- hv];simp
 have he:i7 T t (.pointer (some ⟨A,o,none⟩)) v (h1.lay bs w)=some ((h1.lay bs w).set A (.row (aI cs o vs) u false)):=by
  unfold i7
  simp only [hs,dO]
  rw [aD dS,hv]
  unfold nM
  rw [hg]
  simp only
  rw [aD (by simp only [dK,jm];exact ⟨by omega,bU⟩)]
 rw [he]
 refine hK _ ⟨by rw [Heap.size_set];exact hA,by rw [Heap.aG _ _ _ _ hA,aD rfl]⟩ ⟨by rw [Heap.size_set];exact aR _,λB hB aM=>by rw [Heap.aG _ _ _ _ hA,az aM],by rw [Heap.cM];omega⟩
end
section
variable {P:Program} {T:bJ} {ov:Ov}
theorem znU {b:Nat} {ops:Array Oper} {l:List Oper} {j:Nat} {d:Option Tmp} {Q:Env->Heap->Prop} {e:Env} {hh:Heap} {yg bs:List aZ} {w s:Nat} {v:ai} (hl:yg.length<=bs.length) (hb:b<=s) (hs:hh.size+yg.length<=s)
 (hk:b8 P T ov b ops l (j+1) (put e d v) (hh.lay bs s) Q):zd P T ov b ops l j d Q e (hh.lay yg w) v (hh.lay bs s):=by
 refine ⟨⟨⟨.inl ?_,?_,?_⟩,hk⟩⟩
 .rw [bh];exact hs
 .exact hb
 .rw [bh,bh];omega
theorem Fv {b:Nat} {ops:Array Oper} {l:List Oper} {j:Nat} {d:Option Tmp} {Q:Env->Heap->Prop} {e:Env} {hh:Heap} {yg bs:List aZ} {w s:Nat} {v:ai} (ho:uI T ops j=true) (hl:yg.length<=bs.length) (hb:b<=s)
 (hk:b8 P T ov b ops l (j+1) (put e d v) (hh.lay bs s) Q):zd P T ov b ops l j d Q e (hh.lay yg w) v (hh.lay bs s) :=
 Hf ho hb (by rw [bh,bh];omega) hk
end
theorem u7 {A B:Nat} (aM:B≠A):(kill A h).get B=h.get B:=by
 unfold kill
 split
 .rename_i hA
  rw [Heap.aG _ _ _ _ hA,az aM]
 .rfl
theorem FM {A:Nat} (hA:A < h.size):(kill A h).get A=some .dead:=by
 unfold kill
 rw [aD hA,Heap.aG _ _ _ _ hA,aD rfl]
structure mX (B:Heap) (A:Nat) (h:Heap):Prop where
 lt:A < h.size
 inc:bN B (kill A h)
section
variable {B h1 h2:Heap} {A A':Nat} {bs:List aZ} {w:Nat}
theorem mX.all (k:mX B A h1):bN B h1:=k.inc.trans (HL _ _)
theorem Qq {a b:Heap} (i:bN a b):bN (kill A a) (kill A b):=⟨by rw [qY,qY];exact i.size,λC hC hd=>by
 by_cases GM:C=A
 .subst GM
  rw [qY] at hC
  exact absurd (FM hC) hd
 .rw [qY] at hC
  rw [u7 GM] at hd ⊢
  rw [u7 GM]
  exact i.get C hC hd⟩
theorem mX.mono (k:mX B A h1) (i:bN h1 h2):mX B A h2:=⟨dr k.lt i.size,k.inc.trans (Qq i)⟩
theorem mX.over (k:mX B A h1) (x:Ext (h1.lay bs w) h2):mX B A h2:=k.mono ((bN.lay _ _ _).trans x.inc)
theorem mX.lay (k:mX B A h1) (bs:List aZ) (w:Nat):mX B A (h1.lay bs w):=k.mono (bN.lay _ _ _)
theorem mX.step (k:mX B A h1) (c:ff A (h1.lay bs w) h2) (hA:A'=A\/h1.size<=A') (hl:A' < h2.size):mX B A' h2:=by
 have hs:h1.size<=(h1.lay bs w).size:=by rw [bh];omega
 refine ⟨hl,⟨by rw [qY];exact eA k.all.size (eA hs c.size),λC hC hd=>?_⟩⟩
 have h3:=k.inc.get C hC hd
 have GM:C≠A:=by
  intro e
  subst e
  rw [FM k.lt] at h3
  exact hd h3.symm
 have OJ:C < h1.size:=dr hC k.all.size
 rw [u7 GM] at h3
 rw [u7 (by rcases hA with e|e <;> omega),c.get C (by omega) GM,sU _ _ _ OJ]
 exact h3
theorem mX.trans (k:mX B A h1) (k2:mX (kill A (h1.lay bs w)) A' h2):mX B A' h2:=⟨k2.lt,(k.lay bs w).inc.trans k2.inc⟩
theorem mX.holds {C:Nat} (k:mX B A h1) (q:Holds B C (.row cs u ro)):Holds h1 C (.row cs u ro)/\C≠A:=by
 refine ⟨q.mono k.all,λe=>?_⟩
 have:=k.inc.get C q.lt (by rw [q.get];nofun)
 rw [e,FM k.lt,<- e,q.get] at this
 cases this
theorem mX.keep {C:Nat} (k:mX (kill A (h1.lay bs w)) A' h2) (q:Holds h1 C (.row cs u ro)) (aM:C≠A):Holds h2 C (.row cs u ro)/\C≠A' :=
 k.holds ⟨by rw [qY];exact (q.on bs w).lt,(u7 aM).trans (q.on bs w).get⟩
theorem Ow.Wj {Z:Type} {r:aC Z} {h0:Heap} {e A:Nat} {v:ai} {l:List Z} (f:Ow r h0 h e A v l) (aM:l≠[]):A < h.size:=by
 rcases f with ⟨_,e2,_⟩|⟨_,_,_,_,e4,_⟩
 .exact absurd e2 aM
 .exact e4
end
section
variable {T:bJ} {t e:TypeId} {v:ai} {B h1:Heap} {bs:List aZ} {w:Nat} {K:aJ} {kd:IntKind} {i:Int}
end
theorem bN.eV {a b d:Heap} {A:Nat} (i:bN a b) (c:ff A b d) (hA:a.size<=A):bN a d:=⟨eA i.size c.size,λB hB hd=>(c.get B (dr hB i.size) (by omega)).trans (i.get B hB hd)⟩
theorem Ow.re {Z:Type} {r:aC Z} {h0:Heap} {e A B:Nat} {v:ai} (f:Ow r h0 h e A v []) (hB:h0.size<=B):Ow r h0 h e B v []:=by
 rcases f with ⟨_,_,e3⟩|⟨_,_,e2,_⟩
 .exact .inl ⟨hB,rfl,e3⟩
 .exact absurd rfl e2
theorem YJ {s:aU} (h:AO s):s.size<=300:=by have:=h.len;omega
theorem dh.size {t:ay} (h:dh t):t.s.size<=300:=by
 unfold dh at h
 split at h
 .have:=h.len;omega
 .exact YJ h.1
theorem zvO {a:ae} (h0:a.says.size<=300) (h1:a.pred.size<=300) (h:∀ i,i < 4->(a.arg i).s.size<=300):a.bW=true:=by
 unfold ae.bW
 simp only [dK,jm]
 exact ⟨h0,h1,h 0 (by omega),h 1 (by omega),h 2 (by omega),h 3 (by omega)⟩
theorem bg.bW {a:ae} (h:bg a):a.bW=true:=by
 refine zvO (YJ h.says.1.1) (YJ h.pred.1.1) (λi hi=>?_)
 by_cases hn:(i:Int) < a.n
 .exact (h.fx i hn).size
 .rw [h.rest i (by omega) hi]
  decide
def H9 (l:List au) (a:ae) (k:Nat):ae :=
 { a with t0:=if 0 < k then cu l a.t0 else a.t0,t1:=if 1 < k then cu l a.t1 else a.t1,t2:=if 2 < k then cu l a.t2 else a.t2,t3:=if 3 < k then cu l a.t3 else a.t3 }
theorem ztC (l:List au) (a:ae):H9 l a a.bx=cN l a:=rfl
theorem ztD (l:List au) (a:ae) {k:Nat} (hk:k < 4):(H9 l a k).arg k=a.arg k:=by
 have:k=0\/k=1\/k=2\/k=3:=by omega
 rcases this with rfl|rfl|rfl|rfl <;> rfl
theorem ztE (l:List au) (a:ae) {k:Nat} (hk:k < 4):aI (H9 l a k).cells (3+k*2) (cu l (a.arg k)).cells=(H9 l a (k+1)).cells:=by
 have:k=0\/k=1\/k=2\/k=3:=by omega
 rcases this with rfl|rfl|rfl|rfl <;> rfl
end Go.Am
namespace Go.Am
variable {i k:Nat} {a:ae} {x:au} {b:List au}
def kN (n:Nat):aU:=⟨#[UInt8.ofNat (48+n)]⟩
def ie (s:aU) (ns:List aU):Nat:=ns.findIdx λx=>decide (s=x)
theorem FI (s x:aU) (ns:List aU):ie s (x::ns)=if s=x then 0 else ie s ns+1:=by
 unfold ie
 rw [List.findIdx_cons]
 by_cases h:s=x
 .simp [h]
 .simp [h]
theorem YW {s:aU}:∀ {ns:List aU},s∈ns->ie s ns < ns.length
 |x::ns,h=>by
  rw [FI]
  by_cases hx:s=x
  .rw [aD hx];simp
  .rw [az hx]
   have:=YW (s:=s) (ns:=ns) (by simpa [hx] using h)
   simp;omega
theorem zoO {s:aU}:∀ {ns:List aU},s ∉ ns->ie s (ns++[s])=ns.length
 | [],_=>by rw [ya,FI,aD rfl];rfl
 |x::ns,h=>by
  simp only [df,not_or] at h
  rw [rh,FI,az h.1,zoO h.2]
  rfl
theorem zoN {s y:aU}:∀ {ns:List aU},s∈ns->ie s (ns++[y])=ie s ns
 |x::ns,h=>by
  rw [rh,FI,FI]
  by_cases hx:s=x
  .rw [aD hx,aD hx]
  .rw [az hx,az hx,zoN (by simpa [hx] using h)]
def xn (k:Nat):List aU->List (aU × ai)
 | []=>[]
 |s::ns=>(s,.int .i64 (k:Int))::xn (k+1) ns
theorem zwZ (k:Nat):∀ ns:List aU,(xn k ns).length=ns.length
 | []=>rfl
 |s::ns=>by rw [xn,ek,zwZ,ek]
theorem zsw (s:aU):∀ (k:Nat) (ns:List aU),xn k (ns++[s])=xn k ns++[(s,.int .i64 ((k+ns.length:Nat):Int))]
 |k,[]=>rfl
 |k,x::ns=>by
  rw [rh,xn,xn,zsw s (k+1) ns,rh,ek]
  have e:k+1+ns.length=k+(ns.length+1):=by omega
  rw [e]
open Classical in
theorem zCU (s:aU):∀ (k:Nat) (ns:List aU),nn (xn k ns) s=if s∈ns then some (Value.int .i64 ((k+ie s ns:Nat):Int)) else none
 |k,[]=>by simp [xn,nn]
 |k,x::ns=>by
  rw [xn,XU,FI,zCU s (k+1) ns]
  by_cases hx:s=x
  .simp [hx]
  .simp only [hx,if_false,df,false_or]
   have e:k+1+ie s ns=k+(ie s ns+1):=by omega
   rw [e]
def Fb (ns:List aU):List (aU × ai):=xn 0 ns
open Classical in
theorem zCV (s:aU) (ns:List aU):nn (Fb ns) s=if s∈ns then some (Value.int .i64 (ie s ns:Int)) else none:=by
 unfold Fb
 rw [zCU,iA]
theorem WA {s:aU} {ns:List aU} (h:s ∉ ns):lH (Fb ns) s (.int .i64 (ns.length:Int))=Fb (ns++[s]):=by
 unfold lH
 rw [zCV,az h]
 unfold Fb
 rw [zsw,iA]
 rfl
theorem zBC (ns:List aU):(Fb ns).length=ns.length:=zwZ 0 ns
def eZ (f:Nat->ay) (a:ae) (k:Nat):ae :=
 { a with t0:=if 0 < k then f 0 else a.t0,t1:=if 1 < k then f 1 else a.t1,t2:=if 2 < k then f 2 else a.t2,t3:=if 3 < k then f 3 else a.t3 }
theorem zsA (f:Nat->ay) (a:ae) (hk:k < 4):(eZ f a k).arg k=a.arg k:=by
 have:k=0\/k=1\/k=2\/k=3:=by omega
 rcases this with rfl|rfl|rfl|rfl <;> rfl
theorem zw4 (f:Nat->ay) (a:ae) (hi:i < 4):(eZ f a k).arg i=if i < k then f i else a.arg i:=by
 have:i=0\/i=1\/i=2\/i=3:=by omega
 rcases this with rfl|rfl|rfl|rfl <;> rfl
theorem zoY {f:Nat->ay} (hk:k < 4) (he:f k=a.arg k):eZ f a (k+1)=eZ f a k:=by
 have:k=0\/k=1\/k=2\/k=3:=by omega
 rcases this with rfl|rfl|rfl|rfl <;> simp_all [eZ,ae.arg]
theorem X1 {f:Nat->ay} (hk:k < 4) (hv:(f k).v=(a.arg k).v):aI (eZ f a k).cells (3+k*2+1) [.string (f k).s]=(eZ f a (k+1)).cells:=by
 have:k=0\/k=1\/k=2\/k=3:=by omega
 rcases this with rfl|rfl|rfl|rfl
 .show aI (eZ f a 0).cells 4 [.string (f 0).s]=_
  have uh:(f 0).v=a.t0.v:=hv
  simp [eZ,ae.cells,aI,uh]
 .show aI (eZ f a 1).cells 6 [.string (f 1).s]=_
  have uh:(f 1).v=a.t1.v:=hv
  simp [eZ,ae.cells,aI,uh]
 .show aI (eZ f a 2).cells 8 [.string (f 2).s]=_
  have uh:(f 2).v=a.t2.v:=hv
  simp [eZ,ae.cells,aI,uh]
 .show aI (eZ f a 3).cells 10 [.string (f 3).s]=_
  have uh:(f 3).v=a.t3.v:=hv
  simp [eZ,ae.cells,aI,uh]
open Classical in
def cT (a:ae):Nat->List aU
 |0=>[]
 |i+1=>if (a.arg i).v=true/\(a.arg i).s ∉ cT a i then cT a i++[(a.arg i).s] else cT a i
open Classical in
theorem zBG (h:(a.arg i).v=false):cT a (i+1)=cT a i:=by
 show (if (a.arg i).v=true/\(a.arg i).s ∉ cT a i then cT a i++[(a.arg i).s] else cT a i)=_
 rw [az (by rw [h];simp)]
open Classical in
theorem zza (h:(a.arg i).s∈cT a i):cT a (i+1)=cT a i:=by
 show (if (a.arg i).v=true/\(a.arg i).s ∉ cT a i then cT a i++[(a.arg i).s] else cT a i)=_
 rw [az (by simp [h])]
open Classical in
theorem zsC (hv:(a.arg i).v=true) (h:(a.arg i).s ∉ cT a i):cT a (i+1)=cT a i++[(a.arg i).s]:=by
 show (if (a.arg i).v=true/\(a.arg i).s ∉ cT a i then cT a i++[(a.arg i).s] else cT a i)=_
 rw [aD ⟨hv,h⟩]
theorem Ys (a:ae):∀ i,(cT a i).length<=i
 |0=>aR _
 |i+1=>by
  have:=Ys a i
  unfold cT
  split
  .simp;omega
  .omega
theorem Yt (hv:(a.arg i).v=true):(a.arg i).s∈cT a (i+1):=by
 unfold cT
 by_cases h:(a.arg i).s∈cT a i
 .rw [az (by simp [h])];exact h
 .rw [aD ⟨hv,h⟩];simp
def lk (a:ae) (i:Nat):ay:=if (a.arg i).v=true then ⟨true,⟨#[86]⟩++kN (ie (a.arg i).s (cT a (i+1)))⟩ else a.arg i
def bB (a:ae):ae:=eZ (lk a) a a.bx
def jy (a:ae) (i:Nat):ay:=if (a.arg i).v=true then ⟨true,(a.arg i).s++⟨#[35,49]⟩⟩ else a.arg i
def fN (a:ae):ae:=eZ (jy a) a a.bx
def eT (p:ae) (l:aN):aN:=l.filter λa=>(bG [] p a).isSome
theorem zvK (p:ae) (l:aN) (a:ae):eT p (l++[a])=if (bG [] p a).isSome=true then eT p l++[a] else eT p l:=by
 unfold eT
 rw [NH]
 cases h:(bG [] p a).isSome <;> simp [h]
theorem Qh (p:ae) (l:aN):(eT p l).length<=l.length:=List.length_filter_le _ _
def y4 (l:List au) (x y:ay):Option (List au) :=
 if x=y then some l else if x.v=true/\(y.v=false\/slt y.s x.s=true) then jW l x.s y else if y.v=true then jW l y.s x else none
def nL (a b:ae):Nat->Option (List au)
 |0=>some []
 |k+1=>(nL a b k).bind λl=>y4 l (cu l (a.arg k)) (cu l (b.arg k))
def kD (a b:ae):Option (List au):=if mP a b=true then nL a b a.n.toNat else none
theorem MJ {b:ae} {l:List au} (h:nL a b k=some l):nL a b (k+1)=y4 l (cu l (a.arg k)) (cu l (b.arg k)):=by
 show (nL a b k).bind _=_
 rw [h]
 rfl
theorem Hj {a b:ae}:∀ {k m:Nat},k<=m->nL a b k=none->nL a b m=none
 |k,0,h,hn=>by obtain rfl:k=0:=by omega
               exact hn
 |k,m+1,h,hn=>by
  by_cases e:k=m+1
  .subst e;exact hn
  .show (nL a b m).bind _=_
   rw [Hj (by omega) hn]
   rfl
theorem Xo (l m:List au) (s:aU):(bE (gE l m) s).2=(bE l s).2:=by
 induction l with
 |nil=>rfl
 |cons x l ih =>
  show (bE (⟨x.var,cu m x.term⟩::gE l m) s).2=_
  rw [qW,qW]
  split
  .rfl
  .exact ih
def i6 (a b:List au):Nat->List au
 |0=>gE a b
 |k+1=>match b[k]? with
  |some x=>if (bE a x.var).2=true then i6 a b k else kE (i6 a b k) x
  |none=>i6 a b k
theorem HC {a:List au} (hx:b[k]? = some x) (h:(bE a x.var).2=true):i6 a b (k+1)=i6 a b k:=by
 show (match b[k]? with|some x=>if (bE a x.var).2=true then i6 a b k else kE (i6 a b k) x|none=>i6 a b k)=_
 rw [hx]
 simp only
 rw [aD h]
theorem HB {a:List au} (hx:b[k]? = some x) (h:(bE a x.var).2=false):i6 a b (k+1)=kE (i6 a b k) x:=by
 show (match b[k]? with|some x=>if (bE a x.var).2=true then i6 a b k else kE (i6 a b k) x|none=>i6 a b k)=_
 rw [hx]
 simp only
 rw [az (by rw [h];decide)]
theorem Yb {a b:List au} (hb:lZ b b.length):∀ {k:Nat} {s:aU},k<=b.length->(bE a s).2=false->(∀ j y,j < k->b[j]? = some y->y.var≠s)->(bE (i6 a b k) s).2=false
 |0,s,_,h,_=>by
  show (bE (gE a b) s).2=false
  rw [Xo,h]
 |k+1,s,hk,h,hn=>by
  have hx:b[k]? = some b[k]:=iH (by omega)
  have ih:=Yb hb (k:=k) (s:=s) (by omega) h (λj y hj=>hn j y (by omega))
  cases hg:(bE a b[k].var).2
  .rw [HB hx hg]
   have iW:(bE (i6 a b k) b[k].var).2=false:=Yb hb (by omega) hg (λj y hj hy e=>by
    have aT:=Ht hb hj hy hx
    rw [e,Hr] at aT
    cases aT)
   rw [Hi iW,az (hn k _ (by omega) hx)]
   exact ih
  .rw [HC hx hg]
   exact ih
theorem zgP {a:List au} (hb:lZ b b.length) (hx:b[k]? = some x) (hg:(bE a x.var).2=false):(bE (i6 a b k) x.var).2=false :=
 Yb hb (Nat.le_of_lt (fG.1 hx).1) hg (λj y hj hy e=>by
  have aT:=Ht hb hj hy hx
  rw [e,Hr] at aT
  cases aT)
theorem XC {a b:List au} (ha:lZ a a.length) (hb:lZ b b.length):∀ {k:Nat},k<=b.length->lZ (i6 a b k) (i6 a b k).length
 |0,_=>PT ha
 |k+1,hk=>by
  have hx:b[k]? = some b[k]:=iH (by omega)
  have ih:=XC ha hb (k:=k) (by omega)
  cases hg:(bE a b[k].var).2
  .rw [HB hx hg]
   exact Xx ih (zgP hb hx hg)
  .rw [HC hx hg]
   exact ih
theorem YF {a b:List au}:∀ (k:Nat),(i6 a b k).length<=a.length+k
 |0=>by show (gE a b).length<=_;unfold gE;simp
 |k+1=>by
  have ih:=YF (a:=a) (b:=b) k
  cases hx:b[k]? with
  |none =>
   show (match b[k]? with|some x=>if (bE a x.var).2=true then i6 a b k else kE (i6 a b k) x|none=>i6 a b k).length<=_
   rw [hx];simp only;omega
  |some x =>
   cases hg:(bE a x.var).2
   .rw [HB hx hg]
    have:(kE (i6 a b k) x).length=(i6 a b k).length+1:=by
     unfold kE
     rw [cE,ek,<- pB,<- cE,Xz]
    omega
   .rw [HC hx hg];omega
open Classical in
def jE (a b:List au):List au:=if eG a then (if eG (i6 a b b.length) then i6 a b b.length else []) else []
theorem zC6 {a:List au} (ha:eG a) (hb:∀ y∈b,y.term.v=false):∀ y∈gE a b,mL y=false:=by
 intro y hy
 unfold gE at hy
 obtain ⟨x,hx,rfl⟩:=pC.1 hy
 unfold mL
 simp only [Bool.and_eq_false_iff,decide_eq_false_iff_not]
 by_cases hc:(bE b x.term.s).2=true/\x.term.v=true
 .left
  unfold cu
  rw [aD hc]
  have hm:=MP (xH hc.1)
  exact hb _ hm
 .unfold cu
  rw [az hc]
  by_cases hv:x.term.v=true
  .right
   intro e
   refine (ha.2 x hx).2 ⟨hv,?_⟩
   cases hq:(bE a x.term.s).2
   .exact absurd e.symm (XI hq x hx)
   .rfl
  .left
   simpa using hv
end Go.Am
