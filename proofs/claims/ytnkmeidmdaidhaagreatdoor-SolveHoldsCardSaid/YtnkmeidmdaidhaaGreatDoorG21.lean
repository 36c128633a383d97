/- One element appended, cells stored within a row. No condition. -/
import Derived.Test.YtnkmeidmdaidhaaGreatDoorGJoin
set_option linter.unusedSimpArgs false
set_option linter.unusedVariables false
noncomputable section
namespace Go.Am
variable {cs:List ai} {ro:Bool} {u:TypeId} {h:Heap}
section
variable {Z:Type} {r:aG Z} {h0 h1:Heap} {v:ai} {l:List Z} {t e:TypeId} {A k bytes:Nat} {z:List ai} {T:bN} {bs:List aZ} {w:Nat} {K:aO}
theorem xb (hd:T.desc t=some (.slice e)) (hi:T.info e=some (k,bytes,z)) (Bn:r.k=k) (hk:0 < k) {i c:Nat} {x:Z} (hg:bs[i]? = some (.row cs u ro)) (hz:h0.size<=h1.size) (f:Ow r h0 h1 e A v l) (hr:r.R (kill A (h1.lay bs w)) cs x)
 (hb:(l.length+1)*bytes<=140737488355328) (hl:l.length+1<=1152921504606846976)
 (hK:∀ v' h' A',Ow r h0 h' e A' v' (l++[x])->fc A (h1.lay bs w) h'->(A'=A\/h1.size<=A')->K v' h'):dz (j4 T t v (.slice (some ⟨h1.size+i,0,none⟩) 1 c) (h1.lay bs w)) K:=by
 have td:(h1.lay bs w).get (h1.size+i)=some (.row cs u ro):=by rw [kE];exact hg
 obtain ⟨hs,mX⟩:=GM (r:=r) (A:=A) (c:=c) (y:=x) (by omega) td hr
 exact zuW hd hi Bn hk hz f (by rw [<- Bn];exact hs) mX hb hl hK
theorem jL {n o:Nat} {vs:List ai} {v:ai} (q:ak h1 A (.row cs u false)) (hs:dF T t=some n) (hv:v.cells.toList=vs) (hl:vs.length=n) (hb:o+n<=cs.length) (cF:vs.all one=true)
 (hK:∀ h',ak h' A (.row (aI cs o vs) u false)->fc A (h1.lay bs w) h'->K undef h'):kX (iQ T t (.pointer (some ⟨A,o,none⟩)) v (h1.lay bs w)) K:=by
 have hg:(h1.lay bs w).get A=some (.row cs u false):=q.lay bs w
 have hA:A < (h1.lay bs w).size:=(q.on bs w).lt
 have dV:v.cells.size=n:=by rw [<- hl,<- hv];simp
 have he:iQ T t (.pointer (some ⟨A,o,none⟩)) v (h1.lay bs w)=some ((h1.lay bs w).set A (.row (aI cs o vs) u false)):=by
  unfold iQ
  simp only [hs,dH]
  rw [aB dV,hv]
  unfold nQ
  rw [hg]
  simp only
  rw [aB (by simp only [dW,ix];exact ⟨by omega,cF⟩)]
 rw [he]
 refine hK _ ⟨by rw [Heap.size_set];exact hA,by rw [Heap.aH _ _ _ _ hA,aB rfl]⟩ ⟨by rw [Heap.size_set];exact aQ _,λB hB aL=>by rw [Heap.aH _ _ _ _ hA,aA aL],by rw [Heap.cA];omega⟩
end
section
variable {P:Program} {T:bN} {ov:Ov}
theorem znE {b:Nat} {ops:Array Oper} {l:List Oper} {j:Nat} {d:Option Tmp} {Q:Env->Heap->Prop} {e:Env} {hh:Heap} {Fv bs:List aZ} {w s:Nat} {v:ai} (hl:Fv.length<=bs.length) (hb:b<=s) (hs:hh.size+Fv.length<=s)
 (hk:bT P T ov b ops l (j+1) (put e d v) (hh.lay bs s) Q):yh P T ov b ops l j d Q e (hh.lay Fv w) v (hh.lay bs s):=by
 refine ⟨⟨⟨.inl ?_,?_,?_⟩,hk⟩⟩
 .rw [br];exact hs
 .exact hb
 .rw [br,br];omega
theorem Eo {b:Nat} {ops:Array Oper} {l:List Oper} {j:Nat} {d:Option Tmp} {Q:Env->Heap->Prop} {e:Env} {hh:Heap} {Fv bs:List aZ} {w s:Nat} {v:ai} (ho:tK T ops j=true) (hl:Fv.length<=bs.length) (hb:b<=s)
 (hk:bT P T ov b ops l (j+1) (put e d v) (hh.lay bs s) Q):yh P T ov b ops l j d Q e (hh.lay Fv w) v (hh.lay bs s) :=
 F6 ho hb (by rw [br,br];omega) hk
end
theorem ur {A B:Nat} (aL:B≠A):(kill A h).get B=h.get B:=by
 unfold kill
 split
 .rename_i hA
  rw [Heap.aH _ _ _ _ hA,aA aL]
 .rfl
theorem EC {A:Nat} (hA:A < h.size):(kill A h).get A=some .dead:=by
 unfold kill
 rw [aB hA,Heap.aH _ _ _ _ hA,aB rfl]
structure ln (B:Heap) (A:Nat) (h:Heap):Prop where
 lt:A < h.size
 inc:bP B (kill A h)
section
variable {B h1 h2:Heap} {A A':Nat} {bs:List aZ} {w:Nat}
theorem ln.start (hA:A < h1.size):ln (kill A h1) A h1:=⟨hA,bP.refl _⟩
theorem ln.all (k:ln B A h1):bP B h1:=k.inc.trans (GB _ _)
theorem OL {a b:Heap} (i:bP a b):bP (kill A a) (kill A b):=⟨by rw [rC,rC];exact i.size,λC hC hd=>by
 by_cases FF:C=A
 .subst FF
  rw [rC] at hC
  exact absurd (EC hC) hd
 .rw [rC] at hC
  rw [ur FF] at hd ⊢
  rw [ur FF]
  exact i.get C hC hd⟩
theorem ln.mono (k:ln B A h1) (i:bP h1 h2):ln B A h2:=⟨dt k.lt i.size,k.inc.trans (OL i)⟩
theorem ln.over (k:ln B A h1) (x:Ext (h1.lay bs w) h2):ln B A h2:=k.mono ((bP.lay _ _ _).trans x.inc)
theorem ln.lay (k:ln B A h1) (bs:List aZ) (w:Nat):ln B A (h1.lay bs w):=k.mono (bP.lay _ _ _)
theorem ln.step (k:ln B A h1) (c:fc A (h1.lay bs w) h2) (hA:A'=A\/h1.size<=A') (hl:A' < h2.size):ln B A' h2:=by
 have hs:h1.size<=(h1.lay bs w).size:=by rw [br];omega
 refine ⟨hl,⟨by rw [rC];exact dZ k.all.size (dZ hs c.size),λC hC hd=>?_⟩⟩
 have h3:=k.inc.get C hC hd
 have FF:C≠A:=by
  intro e
  subst e
  rw [EC k.lt] at h3
  exact hd h3.symm
 have MW:C < h1.size:=dt hC k.all.size
 rw [ur FF] at h3
 rw [ur (by rcases hA with e|e <;> omega),c.get C (by omega) FF,sd _ _ _ MW]
 exact h3
theorem ln.trans (k:ln B A h1) (k2:ln (kill A (h1.lay bs w)) A' h2):ln B A' h2:=⟨k2.lt,(k.lay bs w).inc.trans k2.inc⟩
theorem ln.holds {C:Nat} (k:ln B A h1) (q:ak B C (.row cs u ro)):ak h1 C (.row cs u ro)/\C≠A:=by
 refine ⟨q.mono k.all,λe=>?_⟩
 have:=k.inc.get C q.lt (by rw [q.get];nofun)
 rw [e,EC k.lt,<- e,q.get] at this
 cases this
theorem ln.fN {C:Nat} (k:ln (kill A (h1.lay bs w)) A' h2) (q:ak h1 C (.row cs u ro)) (aL:C≠A):ak h2 C (.row cs u ro)/\C≠A' :=
 k.holds ⟨by rw [rC];exact (q.on bs w).lt,(ur aL).trans (q.on bs w).get⟩
theorem Ow.Uu {Z:Type} {r:aG Z} {h0:Heap} {e A:Nat} {v:ai} {l:List Z} (f:Ow r h0 h e A v l) (aL:l≠[]):A < h.size:=by
 rcases f with ⟨_,e2,_⟩|⟨_,_,_,_,e4,_⟩
 .exact absurd e2 aL
 .exact e4
end
section
variable {T:bN} {t e:TypeId} {v:ai} {B h1:Heap} {bs:List aZ} {w:Nat} {K:aO} {kd:IntKind} {i:Int}
end
theorem bP.eN {a b d:Heap} {A:Nat} (i:bP a b) (c:fc A b d) (hA:a.size<=A):bP a d:=⟨dZ i.size c.size,λB hB hd=>(c.get B (dt hB i.size) (by omega)).trans (i.get B hB hd)⟩
theorem Ow.re {Z:Type} {r:aG Z} {h0:Heap} {e A B:Nat} {v:ai} (f:Ow r h0 h e A v []) (hB:h0.size<=B):Ow r h0 h e B v []:=by
 rcases f with ⟨_,_,e3⟩|⟨_,_,e2,_⟩
 .exact .inl ⟨hB,rfl,e3⟩
 .exact absurd rfl e2
theorem WD {s:aV} (h:J4 s):s.size<=300:=by have:=h.len;omega
theorem dQ.size {t:ay} (h:dQ t):t.s.size<=300:=by
 unfold dQ at h
 split at h
 .have:=h.len;omega
 .exact WD h.1
theorem zuZ {a:ae} (h0:a.says.size<=300) (h1:a.pred.size<=300) (h:∀ i,i < 4->(a.arg i).s.size<=300):a.bQ=true:=by
 unfold ae.bQ
 simp only [dW,ix]
 exact ⟨h0,h1,h 0 (by omega),h 1 (by omega),h 2 (by omega),h 3 (by omega)⟩
theorem bm.bQ {a:ae} (h:bm a):a.bQ=true:=by
 refine zuZ (WD h.says.1.1) (WD h.pred.1.1) (λi hi=>?_)
 by_cases hn:(i:Int) < a.n
 .exact (h.fG i hn).size
 .rw [h.rest i (by omega) hi]
  decide
def GQ (l:List av) (a:ae) (k:Nat):ae :=
 { a with t0:=if 0 < k then b9 l a.t0 else a.t0,t1:=if 1 < k then b9 l a.t1 else a.t1,t2:=if 2 < k then b9 l a.t2 else a.t2,t3:=if 3 < k then b9 l a.t3 else a.t3 }
theorem zsV (l:List av) (a:ae):GQ l a a.bt=cB l a:=rfl
theorem zsW (l:List av) (a:ae) {k:Nat} (hk:k < 4):(GQ l a k).arg k=a.arg k:=by
 have:k=0\/k=1\/k=2\/k=3:=by omega
 rcases this with rfl|rfl|rfl|rfl <;> rfl
theorem zsX (l:List av) (a:ae) {k:Nat} (hk:k < 4):aI (GQ l a k).cells (3+k*2) (b9 l (a.arg k)).cells=(GQ l a (k+1)).cells:=by
 have:k=0\/k=1\/k=2\/k=3:=by omega
 rcases this with rfl|rfl|rfl|rfl <;> rfl
end Go.Am
namespace Go.Am
variable {i k:Nat} {a:ae} {x:av} {b:List av}
def kh (n:Nat):aV:=⟨#[UInt8.ofNat (48+n)]⟩
def gP (s:aV) (ns:List aV):Nat:=ns.findIdx λx=>decide (s=x)
theorem EA (s x:aV) (ns:List aV):gP s (x::ns)=if s=x then 0 else gP s ns+1:=by
 unfold gP
 rw [List.findIdx_cons]
 by_cases h:s=x
 .simp [h]
 .simp [h]
theorem Xf {s:aV}:∀ {ns:List aV},s∈ns->gP s ns < ns.length
 |x::ns,h=>by
  rw [EA]
  by_cases hx:s=x
  .rw [aB hx];simp
  .rw [aA hx]
   have:=Xf (s:=s) (ns:=ns) (by simpa [hx] using h)
   simp;omega
theorem zox {s:aV}:∀ {ns:List aV},s ∉ ns->gP s (ns++[s])=ns.length
 | [],_=>by rw [yk,EA,aB rfl];rfl
 |x::ns,h=>by
  simp only [db,not_or] at h
  rw [rO,EA,aA h.1,zox h.2]
  rfl
theorem zow {s y:aV}:∀ {ns:List aV},s∈ns->gP s (ns++[y])=gP s ns
 |x::ns,h=>by
  rw [rO,EA,EA]
  by_cases hx:s=x
  .rw [aB hx,aB hx]
  .rw [aA hx,aA hx,zow (by simpa [hx] using h)]
def wF (k:Nat):List aV->List (aV × ai)
 | []=>[]
 |s::ns=>(s,.int .i64 (k:Int))::wF (k+1) ns
theorem zv2 (k:Nat):∀ ns:List aV,(wF k ns).length=ns.length
 | []=>rfl
 |s::ns=>by rw [wF,eB,zv2,eB]
theorem zrV (s:aV):∀ (k:Nat) (ns:List aV),wF k (ns++[s])=wF k ns++[(s,.int .i64 ((k+ns.length:Nat):Int))]
 |k,[]=>rfl
 |k,x::ns=>by
  rw [rO,wF,wF,zrV s (k+1) ns,rO,eB]
  have e:k+1+ns.length=k+(ns.length+1):=by omega
  rw [e]
open Classical in
theorem zBz (s:aV):∀ (k:Nat) (ns:List aV),mL (wF k ns) s=if s∈ns then some (Value.int .i64 ((k+gP s ns:Nat):Int)) else none
 |k,[]=>by simp [wF,mL]
 |k,x::ns=>by
  rw [wF,VL,EA,zBz s (k+1) ns]
  by_cases hx:s=x
  .simp [hx]
  .simp only [hx,if_false,db,false_or]
   have e:k+1+gP s ns=k+(gP s ns+1):=by omega
   rw [e]
def D2 (ns:List aV):List (aV × ai):=wF 0 ns
open Classical in
theorem zBA (s:aV) (ns:List aV):mL (D2 ns) s=if s∈ns then some (Value.int .i64 (gP s ns:Int)) else none:=by
 unfold D2
 rw [zBz,i5]
theorem UJ {s:aV} {ns:List aV} (h:s ∉ ns):la (D2 ns) s (.int .i64 (ns.length:Int))=D2 (ns++[s]):=by
 unfold la
 rw [zBA,aA h]
 unfold D2
 rw [zrV,i5]
 rfl
theorem zAm (ns:List aV):(D2 ns).length=ns.length:=zv2 0 ns
def eP (f:Nat->ay) (a:ae) (k:Nat):ae :=
 { a with t0:=if 0 < k then f 0 else a.t0,t1:=if 1 < k then f 1 else a.t1,t2:=if 2 < k then f 2 else a.t2,t3:=if 3 < k then f 3 else a.t3 }
theorem zrY (f:Nat->ay) (a:ae) (hk:k < 4):(eP f a k).arg k=a.arg k:=by
 have:k=0\/k=1\/k=2\/k=3:=by omega
 rcases this with rfl|rfl|rfl|rfl <;> rfl
theorem zv6 (f:Nat->ay) (a:ae) (hi:i < 4):(eP f a k).arg i=if i < k then f i else a.arg i:=by
 have:i=0\/i=1\/i=2\/i=3:=by omega
 rcases this with rfl|rfl|rfl|rfl <;> rfl
theorem zoI {f:Nat->ay} (hk:k < 4) (he:f k=a.arg k):eP f a (k+1)=eP f a k:=by
 have:k=0\/k=1\/k=2\/k=3:=by omega
 rcases this with rfl|rfl|rfl|rfl <;> simp_all [eP,ae.arg]
theorem Wl {f:Nat->ay} (hk:k < 4) (hv:(f k).v=(a.arg k).v):aI (eP f a k).cells (3+k*2+1) [.string (f k).s]=(eP f a (k+1)).cells:=by
 have:k=0\/k=1\/k=2\/k=3:=by omega
 rcases this with rfl|rfl|rfl|rfl
 .show aI (eP f a 0).cells 4 [.string (f 0).s]=_
  have tt:(f 0).v=a.t0.v:=hv
  simp [eP,ae.cells,aI,tt]
 .show aI (eP f a 1).cells 6 [.string (f 1).s]=_
  have tt:(f 1).v=a.t1.v:=hv
  simp [eP,ae.cells,aI,tt]
 .show aI (eP f a 2).cells 8 [.string (f 2).s]=_
  have tt:(f 2).v=a.t2.v:=hv
  simp [eP,ae.cells,aI,tt]
 .show aI (eP f a 3).cells 10 [.string (f 3).s]=_
  have tt:(f 3).v=a.t3.v:=hv
  simp [eP,ae.cells,aI,tt]
open Classical in
def cQ (a:ae):Nat->List aV
 |0=>[]
 |i+1=>if (a.arg i).v=true/\(a.arg i).s ∉ cQ a i then cQ a i++[(a.arg i).s] else cQ a i
open Classical in
theorem zAq (h:(a.arg i).v=false):cQ a (i+1)=cQ a i:=by
 show (if (a.arg i).v=true/\(a.arg i).s ∉ cQ a i then cQ a i++[(a.arg i).s] else cQ a i)=_
 rw [aA (by rw [h];simp)]
open Classical in
theorem zyc (h:(a.arg i).s∈cQ a i):cQ a (i+1)=cQ a i:=by
 show (if (a.arg i).v=true/\(a.arg i).s ∉ cQ a i then cQ a i++[(a.arg i).s] else cQ a i)=_
 rw [aA (by simp [h])]
open Classical in
theorem zr0 (hv:(a.arg i).v=true) (h:(a.arg i).s ∉ cQ a i):cQ a (i+1)=cQ a i++[(a.arg i).s]:=by
 show (if (a.arg i).v=true/\(a.arg i).s ∉ cQ a i then cQ a i++[(a.arg i).s] else cQ a i)=_
 rw [aB ⟨hv,h⟩]
theorem Ww (a:ae):∀ i,(cQ a i).length<=i
 |0=>aQ _
 |i+1=>by
  have:=Ww a i
  unfold cQ
  split
  .simp;omega
  .omega
theorem Wx (hv:(a.arg i).v=true):(a.arg i).s∈cQ a (i+1):=by
 unfold cQ
 by_cases h:(a.arg i).s∈cQ a i
 .rw [aA (by simp [h])];exact h
 .rw [aB ⟨hv,h⟩];simp
def kJ (a:ae) (i:Nat):ay:=if (a.arg i).v=true then ⟨true,⟨#[86]⟩++kh (gP (a.arg i).s (cQ a (i+1)))⟩ else a.arg i
def bC (a:ae):ae:=eP (kJ a) a a.bt
def jj (a:ae) (i:Nat):ay:=if (a.arg i).v=true then ⟨true,(a.arg i).s++⟨#[35,49]⟩⟩ else a.arg i
def fp (a:ae):ae:=eP (jj a) a a.bt
def fB (p:ae) (l:aN):aN:=l.filter λa=>(bz [] p a).isSome
theorem zuU (p:ae) (l:aN) (a:ae):fB p (l++[a])=if (bz [] p a).isSome=true then fB p l++[a] else fB p l:=by
 unfold fB
 rw [L4]
 cases h:(bz [] p a).isSome <;> simp [h]
theorem OC (p:ae) (l:aN):(fB p l).length<=l.length:=List.length_filter_le _ _
def uD (l:List av) (x y:ay):Option (List av) :=
 if x=y then some l else if x.v=true/\(y.v=false\/slt y.s x.s=true) then iN l x.s y else if y.v=true then iN l y.s x else none
def mK (a b:ae):Nat->Option (List av)
 |0=>some []
 |k+1=>(mK a b k).bind λl=>uD l (b9 l (a.arg k)) (b9 l (b.arg k))
def j8 (a b:ae):Option (List av):=if kG a b=true then mK a b a.n.toNat else none
theorem Ga {b:ae} {l:List av} (h:mK a b k=some l):mK a b (k+1)=uD l (b9 l (a.arg k)) (b9 l (b.arg k)):=by
 show (mK a b k).bind _=_
 rw [h]
 rfl
theorem F9 {a b:ae}:∀ {k m:Nat},k<=m->mK a b k=none->mK a b m=none
 |k,0,h,hn=>by obtain rfl:k=0:=by omega
               exact hn
 |k,m+1,h,hn=>by
  by_cases e:k=m+1
  .subst e;exact hn
  .show (mK a b m).bind _=_
   rw [F9 (by omega) hn]
   rfl
theorem Vo (l m:List av) (s:aV):(bx (gm l m) s).2=(bx l s).2:=by
 induction l with
 |nil=>rfl
 |cons x l ih =>
  show (bx (⟨x.var,b9 m x.term⟩::gm l m) s).2=_
  rw [qq,qq]
  split
  .rfl
  .exact ih
def iO (a b:List av):Nat->List av
 |0=>gm a b
 |k+1=>match b[k]? with
  |some x=>if (bx a x.var).2=true then iO a b k else j9 (iO a b k) x
  |none=>iO a b k
theorem Gi {a:List av} (hx:b[k]? = some x) (h:(bx a x.var).2=true):iO a b (k+1)=iO a b k:=by
 show (match b[k]? with|some x=>if (bx a x.var).2=true then iO a b k else j9 (iO a b k) x|none=>iO a b k)=_
 rw [hx]
 simp only
 rw [aB h]
theorem Gh {a:List av} (hx:b[k]? = some x) (h:(bx a x.var).2=false):iO a b (k+1)=j9 (iO a b k) x:=by
 show (match b[k]? with|some x=>if (bx a x.var).2=true then iO a b k else j9 (iO a b k) x|none=>iO a b k)=_
 rw [hx]
 simp only
 rw [aA (by rw [h];decide)]
theorem Wf {a b:List av} (hb:lG b b.length):∀ {k:Nat} {s:aV},k<=b.length->(bx a s).2=false->(∀ j y,j < k->b[j]? = some y->y.var≠s)->(bx (iO a b k) s).2=false
 |0,s,_,h,_=>by
  show (bx (gm a b) s).2=false
  rw [Vo,h]
 |k+1,s,hk,h,hn=>by
  have hx:b[k]? = some b[k]:=gG (by omega)
  have ih:=Wf hb (k:=k) (s:=s) (by omega) h (λj y hj=>hn j y (by omega))
  cases hg:(bx a b[k].var).2
  .rw [Gh hx hg]
   have iE:(bx (iO a b k) b[k].var).2=false:=Wf hb (by omega) hg (λj y hj hy e=>by
    have bc:=Gx hb hj hy hx
    rw [e,Gr] at bc
    cases bc)
   rw [Ez iE,aA (hn k _ (by omega) hx)]
   exact ih
  .rw [Gi hx hg]
   exact ih
theorem zgD {a:List av} (hb:lG b b.length) (hx:b[k]? = some x) (hg:(bx a x.var).2=false):(bx (iO a b k) x.var).2=false :=
 Wf hb (Nat.le_of_lt (fR.1 hx).1) hg (λj y hj hy e=>by
  have bc:=Gx hb hj hy hx
  rw [e,Gr] at bc
  cases bc)
theorem VA {a b:List av} (ha:lG a a.length) (hb:lG b b.length):∀ {k:Nat},k<=b.length->lG (iO a b k) (iO a b k).length
 |0,_=>Og ha
 |k+1,hk=>by
  have hx:b[k]? = some b[k]:=gG (by omega)
  have ih:=VA ha hb (k:=k) (by omega)
  cases hg:(bx a b[k].var).2
  .rw [Gh hx hg]
   exact VI ih (zgD hb hx hg)
  .rw [Gi hx hg]
   exact ih
theorem WL {a b:List av}:∀ (k:Nat),(iO a b k).length<=a.length+k
 |0=>by show (gm a b).length<=_;unfold gm;simp
 |k+1=>by
  have ih:=WL (a:=a) (b:=b) k
  cases hx:b[k]? with
  |none =>
   show (match b[k]? with|some x=>if (bx a x.var).2=true then iO a b k else j9 (iO a b k) x|none=>iO a b k).length<=_
   rw [hx];simp only;omega
  |some x =>
   cases hg:(bx a x.var).2
   .rw [Gh hx hg]
    have:(j9 (iO a b k) x).length=(iO a b k).length+1:=by
     unfold j9
     rw [cT,eB,<- oU,<- cT,Vp]
    omega
   .rw [Gi hx hg];omega
open Classical in
def jq (a b:List av):List av:=if dX a then (if dX (iO a b b.length) then iO a b b.length else []) else []
theorem zBH {a:List av} (ha:dX a) (hb:∀ y∈b,y.term.v=false):∀ y∈gm a b,kZ y=false:=by
 intro y hy
 unfold gm at hy
 obtain ⟨x,hx,rfl⟩:=ph.1 hy
 unfold kZ
 simp only [Bool.and_eq_false_iff,decide_eq_false_iff_not]
 by_cases hc:(bx b x.term.s).2=true/\x.term.v=true
 .left
  unfold b9
  rw [aB hc]
  have hm:=Ll (qx hc.1)
  exact hb _ hm
 .unfold b9
  rw [aA hc]
  by_cases hv:x.term.v=true
  .right
   intro e
   refine (ha.2 x hx).2 ⟨hv,?_⟩
   cases hq:(bx a x.term.s).2
   .exact absurd e.symm (VT hq x hx)
   .rfl
  .left
   simpa using hv
end Go.Am
