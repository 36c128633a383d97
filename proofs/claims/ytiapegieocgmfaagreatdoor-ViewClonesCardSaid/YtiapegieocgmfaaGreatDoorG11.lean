/- Arguments that are slices, by what they hold. No condition. -/
import Derived.Test.YtiapegieocgmfaaGreatDoorG10
import Derived.Test.YtiapegieocgmfaaGreatDoorG8
set_option linter.unusedSimpArgs false
set_option linter.unusedVariables false
namespace Go.Am
theorem HV {Z:Type} {r:aM Z} {P:Program} {h:Heap} {n:Nat} {t e:TypeId} {v:ab} (hu:P.underlying t=some (.slice e)) (hk:P.cellsOf e=r.k) (wK:∀ cs,eK P h n e cs->∃ x,r.R h cs x) (hs:eK P h (n+1) t [v]):∃ l,Sl r h v l:=by
 unfold eK at hs
 rw [hu] at hs
 rcases hs with hs|⟨A,len,cap,row,u,hv,h1,h2,h3,h4,h5,h6⟩
 .simp only [List.cons.injEq,and_true] at hs
  subst hs
  exact ⟨[],Sl.nil⟩
 .simp only [List.cons.injEq,and_true] at hv
  subst hv
  rw [hk] at h5 h6
  have hx:∀ i:Fin len,∃ x,r.R h ((row.drop (i.val*r.k)).take r.k) x:=λi=>wK _ (h6 i.val i.isLt)
  refine ⟨List.ofFn λi=>Classical.choose (hx i),.inr ⟨A,0,cap,row,u,true,by rw [List.length_ofFn],by rw [List.length_ofFn];omega,.inl ⟨by unfold G;unfold maxLen at h2;omega,by rw [List.length_ofFn];exact h1⟩,h3,h4,λi x hi=>?_⟩⟩
  rw [List.getElem?_ofFn] at hi
  split at hi
  .rename_i aT
   simp only [dO] at hi
   subst hi
   refine ⟨_,?_,Classical.choose_spec (hx ⟨i,aT⟩)⟩
   unfold cut
   have:i*r.k+r.k<=len*r.k:=by rw [<- qx];exact qw _ (by omega)
   rw [jo,aE (by omega)]
  .cases hi
end Go.Am
namespace Go.Proofs.YtiapegieocgmfaaGreatDoor
open Go.Am Tryz
set_option maxRecDepth 100000
variable {args cs:List ab} {n:Nat} {h:Heap} {P:Program}
theorem ztO {Z:Type} {l:List Z} (h:l.length=11):∃ a0 a1 a2 a3 a4 a5 a6 a7 a8 a9 EP,l=[a0,a1,a2,a3,a4,a5,a6,a7,a8,a9,EP]:=by
 match l,h with
 | [a0,a1,a2,a3,a4,a5,a6,a7,a8,a9,EP],_=>exact ⟨_,_,_,_,_,_,_,_,_,_,_,rfl⟩
theorem ziQ:prog.cellsOf 47=11:=by kernel_rfl
theorem zqy:prog.cellsOf 44=2:=by kernel_rfl
theorem ztx:prog.cellsOf 9=1:=by kernel_rfl
theorem Co (hs:eK prog h (n+1) 9 cs):∃ s:au,cs=[.string s]:=by
 unfold eK at hs
 rw [underlying9] at hs
 exact ⟨hs.choose,hs.choose_spec.1⟩
theorem zzl (hs:eK prog h (n+1) 4 cs):∃ b:Bool,cs=[.bool b]:=by
 unfold eK at hs
 rw [underlying4] at hs
 exact hs
theorem QI (hs:eK prog h (n+1) 3 cs):∃ b:Int,cs=[.int .i64 b]/\(Lit.int .i64 b).wf=true:=by
 unfold eK at hs
 rw [underlying3] at hs
 exact hs
theorem TA {x y:ab} (hs:eK prog h (n+2) 44 [x,y]):∃ (b:Bool) (s:au),x=.bool b/\y=.string s:=by
 unfold eK at hs
 rw [underlying44] at hs
 obtain ⟨_,hf⟩:=hs
 have h0:eK prog h (n+1) 4 (([x,y].drop 0).take 1):=hf 0 _ rfl
 have h1:eK prog h (n+1) 9 (([x,y].drop 1).take 1):=hf 1 _ rfl
 obtain ⟨b,hb⟩:=zzl h0
 obtain ⟨s,hs⟩:=Co h1
 simp at hb hs
 exact ⟨b,s,hb,hs⟩
theorem Tz (hs:eK prog h (n+4) 47 cs):∃ a:ak,cs=a.cells:=by
 unfold eK at hs
 rw [underlying47] at hs
 obtain ⟨hl,hf⟩:=hs
 rw [ziQ] at hl
 obtain ⟨a0,a1,a2,a3,a4,a5,a6,a7,a8,a9,EP,rfl⟩:=ztO hl
 have h0:eK prog h (n+3) 9 (([a0,a1,a2,a3,a4,a5,a6,a7,a8,a9,EP].drop 0).take 1):=hf 0 _ rfl
 have h1:eK prog h (n+3) 9 (([a0,a1,a2,a3,a4,a5,a6,a7,a8,a9,EP].drop 1).take 1):=hf 1 _ rfl
 have h2:eK prog h (n+3) 3 (([a0,a1,a2,a3,a4,a5,a6,a7,a8,a9,EP].drop 2).take 1):=hf 2 _ rfl
 have h3:eK prog h (n+3) 45 (([a0,a1,a2,a3,a4,a5,a6,a7,a8,a9,EP].drop 3).take 8):=hf 3 _ rfl
 obtain ⟨s,hs⟩:=Co h0
 obtain ⟨p,hp⟩:=Co h1
 obtain ⟨i,hi,_⟩:=QI h2
 unfold eK at h3
 rw [underlying45] at h3
 obtain ⟨_,hg⟩:=h3
 have g0:=hg 0 (by omega)
 have g1:=hg 1 (by omega)
 have g2:=hg 2 (by omega)
 have g3:=hg 3 (by omega)
 simp only [zqy] at g0 g1 g2 g3
 obtain ⟨b0,s0,e0,e0'⟩:=TA g0
 obtain ⟨b1,s1,e1,Va⟩:=TA g1
 obtain ⟨b2,s2,e2,Vb⟩:=TA g2
 obtain ⟨b3,s3,e3,e3'⟩:=TA g3
 simp at hs hp hi
 subst hs hp hi e0 e0' e1 Va e2 Vb e3 e3'
 exact ⟨⟨s,p,i,⟨b0,s0⟩,⟨b1,s1⟩,⟨b2,s2⟩,⟨b3,s3⟩⟩,rfl⟩
theorem zpB {v:ab} (hs:eK prog h (n+5) 38 [v]):∃ l,Sl aM.atom h v l :=
 HV underlying38 ziQ (λcs hc=>Tz hc) hs
theorem ztl {ts us:List TypeId} (e:ts=us) (hs:Ay P h n ts args):Ay P h n us args:=by
 subst e
 exact hs
theorem SJ {t:TypeId} {ts:List TypeId} (hs:Ay P h n (t::ts) args):∃ v vs,args=v::vs/\AJ P h n t v/\Ay P h n ts vs:=by
 cases args with
 |nil=>exact absurd hs id
 |cons v vs=>exact ⟨v,vs,rfl,hs.1,hs.2⟩
theorem zqn (hs:Ay P h n [] args):args=[]:=by
 cases args with
 |nil=>rfl
 |cons v vs=>exact absurd hs id
end Go.Proofs.YtiapegieocgmfaaGreatDoor
namespace Go.Am
variable {A:Nat} {h:Heap} {Z:Type} {a b:Int} {k:IntKind}
theorem Ow.slice {Z:Type} {r:aM Z} {h0 h:Heap} {e A:Nat} {v:ab} {l:List Z} (f:Ow r h0 h e A v l):∃ a n c,v=.slice a n c:=by
 rcases f with ⟨_,_,rfl|⟨B,o,rfl,_⟩⟩|⟨row,rfl,_⟩
 .exact ⟨_,_,_,rfl⟩
 .exact ⟨_,_,_,rfl⟩
 .exact ⟨_,_,_,rfl⟩
theorem Ow.lt {r:aM Z} {h0:Heap} {e:Nat} {v:ab} {l:List Z} (f:Ow r h0 h e A v l):A < h.size\/l=[]:=by
 rcases f with ⟨_,h2,_⟩|⟨row,_,_,_,h4,_⟩
 .exact .inr h2
 .exact .inl h4
theorem Ow.any {r:aM Z} {h0:Heap} {e:Nat} {v:ab} (f:Ow r h0 h e A v []) (B:Nat) (hB:h0.size<=B):Ow r h0 h e B v []:=by
 rcases f with ⟨_,h2,h3⟩|⟨row,_,h2,_⟩
 .exact .inl ⟨hB,h2,h3⟩
 .exact absurd rfl h2
theorem zqX (hA:h.size<=A):kill A h=h:=az (by omega)
section
variable {P:Program} {T:bI} {ov:Ov}
theorem w8 {b:Nat} {ops:Array Oper} {l:List Oper} {j:Nat} {d:Option Tmp} {Q:Env->Heap->Prop} {e:Env} {hh:Heap} {bs:List ba} {w s:Nat} {v:ab} (hb:b<=hh.size) (hs:hh.size<=s)
 (hk:cx P T ov b ops l (j+1) (put e d v) (hh.lay bs s) Q):CM P T ov b ops l j d Q e (hh.lay [] w) v (hh.lay bs s):=by
 refine ⟨⟨⟨.inl ?_,?_,?_⟩,hk⟩⟩
 .rw [bc];show hh.size+0<=s;omega
 .show b<=s;omega
 .rw [bc,bc];simp
end
theorem Jh (a:ak) (z0 z1 z2 z3 z4 z5 z6 z7 z8 z9 ZP:ab):uJ (λi=>some (i*11,11)) [z0,z1,z2,z3,z4,z5,z6,z7,z8,z9,ZP] [(0,a.val)]=some a.cells:=rfl
section
variable {h1:Heap} {bs:List ba} {w:Nat} {T:bI} {K:aF} {t e s:TypeId} {v p:ab} {kd:IntKind} {i:Int}
theorem qI {l:aS} {x:ak} (f:Sl aM.atom h1 v l) (hd:T.desc t=some (.slice e)) (hs:dg T e=some 11) (h0:0<=i) (hx:l[i.toNat]? = some x) (hk:∀ p,eF h1 p (x.cells)->K p (h1.lay bs w)):aC (kh T t v (.int kd i)) (h1.lay bs w) K :=
 Y1 f hd hs h0 (by have:=(dP.1 hx).1;omega) λx' p mF hp=>by
  obtain rfl:x=x':=Option.some.inj (hx.symm.trans mF)
  exact hk p hp
theorem Q6 {l:List aZ} {x:aZ} (f:Sl aM.term h1 v l) (hd:T.desc t=some (.slice e)) (hs:dg T e=some 2) (h0:0<=i) (hx:l[i.toNat]? = some x) (hk:∀ p,eF h1 p (x.cells)->K p (h1.lay bs w)):aC (kh T t v (.int kd i)) (h1.lay bs w) K :=
 ixt f hd hs h0 (by have:=(dP.1 hx).1;omega) λx' p mF hp=>by
  obtain rfl:x=x':=Option.some.inj (hx.symm.trans mF)
  exact hk p hp
theorem rK {l:List au} {x:au} (f:Sl aM.str h1 v l) (hd:T.desc t=some (.slice e)) (hs:dg T e=some 1) (h0:0<=i) (hx:l[i.toNat]? = some x) (hk:∀ p,eF h1 p ([.string x])->K p (h1.lay bs w)):aC (kh T t v (.int kd i)) (h1.lay bs w) K :=
 ixs f hd hs h0 (by have:=(dP.1 hx).1;omega) λx' p mF hp=>by
  obtain rfl:x=x':=Option.some.inj (hx.symm.trans mF)
  exact hk p hp
theorem Q5 {l:List cB} {x:cB} (f:Sl aM.clause h1 v l) (hd:T.desc t=some (.slice e)) (hs:dg T e=some 12) (h0:0<=i) (hx:l[i.toNat]? = some x) (hk:∀ p b,Sl aM.atom h1 b x.body->eF h1 p (x.head.cells++[b])->K p (h1.lay bs w)):aC (kh T t v (.int kd i)) (h1.lay bs w) K :=
 ixc f hd hs h0 (by have:=(dP.1 hx).1;omega) λx' p b mF hb hp=>by
  obtain rfl:x=x':=Option.some.inj (hx.symm.trans mF)
  exact hk p b hb hp
theorem eW {l:List Z} {i:Nat} (h:(i:Int) < l.length):∃ x,l[(i:Int).toNat]? = some x/\l[i]? = some x:=⟨l[i]'(by omega),by simp,by simp⟩
end
section
variable {P:Program} {T:bI}
theorem zmp {op:BinOp} {t:TypeId} {v:ab} (hf:sk op (.int k a) (.int k b)=none) (hp:jh P (binOp op t (.int k a) (.int k b))=some v) (hv:plain v=true):cz P T op t (.int k a) (.int k b)=some v:=by
 have h1:((T.desc t).bind λd=>EB d (.int k a) (.int k b))=none:=by
  cases T.desc t with
  |none=>rfl
  |some d=>cases d <;> rfl
 unfold cz
 rw [hf]
 simp only [h1]
 rw [aE (show (plain (Value.int k a) && plain (Value.int k b))=true from rfl)]
 rw [hp,dM,aE hv]
theorem zAE {t:TypeId} (hb:b≠0):cz P T .rem t (.int k a) (.int k b)=some (.int k (a.tmod b)):=by
 refine zmp rfl ?_ rfl
 simp [binOp,Op.intDiv,hb,AE]
theorem zvB {t:TypeId} (hb:b≠0):cz P T .quo t (.int k a) (.int k b)=some (.int k (k.wrap (a.tdiv b))):=by
 refine zmp rfl ?_ rfl
 simp [binOp,Op.intDiv,hb,AE]
end
end Go.Am
namespace Go.Am
variable {Z:Type}
def kE (p:Z->Bool) (l:List Z):Int:=match l.findIdx? p with
 |some i=>i
 |none => -1
theorem Jj {p:Z->Bool} {l:List Z} {i:Nat} {x:Z} (hx:l[i]? = some x) (aH:∀ y∈l.take i,p y=false) (hp:p x=true):kE p l=i:=by
 have:l.findIdx? p=some i:=by
  induction l generalizing i with
  |nil=>simp at hx
  |cons a l ih =>
   rw [List.findIdx?_cons]
   cases i with
   |zero =>
    simp at hx
    subst hx
    simp [hp]
   |succ i =>
    have ha:=aH a (by simp)
    rw [ha]
    have:=ih (i:=i) (by simpa using hx) (λy hy=>aH y (by simp [hy]))
    simp [this]
 unfold kE
 rw [this]
theorem Jp {p:Z->Bool} {l:List Z} (aH:∀ y∈l,p y=false):kE p l = -1:=by
 have:l.findIdx? p=none:=by rw [List.findIdx?_eq_none_iff];exact aH
 unfold kE
 rw [this]
theorem TR (p:Z->Bool) (l:List Z):decide (kE p l >= 0)=l.any p:=by
 unfold kE
 cases h:l.findIdx? p with
 |none =>
  rw [List.findIdx?_eq_none_iff] at h
  have:l.any p=false:=by rw [H2];intro x hx;rw [h x hx];decide
  rw [this]
  decide
 |some i =>
  have h2:∃ x∈l,p x=true:=by
   have:=List.findIdx?_isSome (xs:=l) (p:=p)
   rw [h] at this
   simp at this
   exact this
  have:l.any p=true:=by rw [xy];exact h2
  rw [this]
  simp
theorem w9 (a:ak):a.args.length=a.cO:=by
 unfold ak.args ak.cO
 rw [gh]
 simp only [dn,dN]
 omega
theorem zBz {H:Heap} {A o:Nat} {a:ak} {u:TypeId} {ro:Bool} (q:Holds H A (.row a.cells u ro)) (ho:o=3):Sl aM.term H (.slice (some ⟨A,o,none⟩) a.cO 4) a.args:=by
 subst ho
 have hc:a.cO<=4:=by unfold ak.cO;omega
 refine .inr ⟨A,3,4,a.cells,u,ro,by rw [w9],by rw [w9];unfold maxLen;omega,.inl ⟨by decide,by rw [w9];exact hc⟩,q.lt,q.get,λi x hx=>?_⟩
 have hi:i < a.cO:=by have:=(dP.1 hx).1;rw [w9] at this;exact this
 unfold ak.args at hx
 rw [JC hi] at hx
 have:i=0\/i=1\/i=2\/i=3:=by omega
 rcases this with rfl|rfl|rfl|rfl <;> (simp at hx;subst hx;exact ⟨_,rfl,rfl⟩)
theorem eY (a:ak):cut a.cells 0 11=some a.cells:=rfl
theorem eJ (a:ak):Value.agg a.cells.toArray=a.val:=rfl
theorem eE (a:ak):a.val.cells.toList=a.cells:=rfl
theorem dX (a:ak) (h:Heap) (K:aF):aC (some a.val) h K=K a.val h:=rfl
theorem Qe (a:aZ) (h:Heap) (K:aF):aC (some a.val) h K=K a.val h:=rfl
def ak.ground (a:ak):Bool := !a.args.any (·.v)
end Go.Am
namespace Go.Am
variable {kd:IntKind} {hi lo:Option ab} {a b:Nat}
section
variable {Z:Type} {r:aM Z} {h0 h h1:Heap} {v:ab} {l:List Z} {t e:TypeId} {T:bI} {bs:List ba} {w:Nat} {K:aF}
def ea (x:Option ab) (d n:Nat):Prop:=(x=none/\n=d)\/∃ kd,x=some (.int kd n)
theorem ea.no (n:Nat):ea none n n:=.inl ⟨rfl,rfl⟩
theorem ea.num (kd:IntKind) (d n:Nat):ea (some (.int kd n)) d n:=.inr ⟨kd,rfl⟩
theorem Ho {n hi:Nat} (hn:n<=hi):xm (.int kd n) hi=some n:=by
 have:(0:Int)<=n/\(n:Int)<=hi:=by omega
 simp only [xm,this,and_self,if_true,Q0]
theorem P7 {n c:Nat} (dt:ea lo 0 a) (mD:ea hi n b) (u9:a<=b) (hbc:b<=c):rF n c lo hi none=some (a,b,c):=by
 unfold rF
 rcases dt with ⟨rfl,rfl⟩|⟨kd,rfl⟩ <;> rcases mD with ⟨rfl,rfl⟩|⟨kd2,rfl⟩ <;> simp [Ho,u9,hbc]
theorem zB1:0 < G:=by unfold G;omega
theorem xd {k q:Nat} (hk:0 < k) (hq:q < G):G<=G*k+q/\(G*k+q) / G=k/\(G*k+q) % G=q:=by
 obtain ⟨c1,c2,c3⟩:=Ct (k:=k) (q:=q) hk hq
 exact ⟨by omega,c3,c2⟩
theorem Sl.sub (f:Sl r h v l) (hk:0 < r.k) (hd:T.desc t=some (.slice e)) (hs:dg T e=some r.k) (dt:ea lo 0 a) (mD:ea hi l.length b) (u9:a<=b) (hb:b<=l.length) :
 ∃ v',kV T t v lo hi none=some v'/\Sl r h v' ((l.take b).drop a):=by
 have hlen:((l.take b).drop a).length=b - a:=by simp;omega
 have wK:∀ (i:Nat) (x:Z),((l.take b).drop a)[i]? = some x->l[a+i]? = some x/\i < b - a:=by
  intro i x hx
  have:=(dP.1 hx).1
  rw [hlen] at this
  rw [lL,JC (by omega)] at hx
  exact ⟨hx,this⟩
 rcases f with ⟨rfl,rfl⟩|⟨A,o,c,row,u,ro,rfl,e2,e3,e4,e5,e6⟩
 .have My:b=0:=by simpa using hb
  subst My
  have Mr:a=0:=by omega
  subst Mr
  refine ⟨.slice none 0 0,?_,by simpa using Sl.nil⟩
  unfold kV
  simp only [hd,hs,dM,aE zB1]
  have:=P7 (n:=0) (c:=0) dt (by simpa using mD) (bj 0) (bj 0)
  rw [this]
  rfl
 .rcases e3 with ⟨c1,c2⟩|⟨c1,c2,c3⟩
  .refine ⟨.slice (some ⟨A,if c=a then o else o+a*r.k,none⟩) (b - a) (c - a),?_,?_⟩
   .unfold kV
    simp only [hd,hs,dM,aE c1]
    rw [P7 dt mD u9 (by omega)]
    rfl
   .refine .inr ⟨A,_,c - a,row,u,ro,by rw [hlen],by rw [hlen];omega,.inl ⟨by omega,by rw [hlen];omega⟩,e4,e5,λi x hx=>?_⟩
    obtain ⟨hx,hi⟩:=wK i x hx
    obtain ⟨cs,g1,g2⟩:=e6 _ _ hx
    refine ⟨cs,?_,g2⟩
    rw [az (by omega),pF,<- rS]
    exact g1
  .refine ⟨.slice (some ⟨A,o+a*r.k,none⟩) (b - a) (G*r.k+(c % G - a)),?_,?_⟩
   .unfold kV
    simp only [hd,hs,dM,az (show ¬ c < G by omega),aE c2]
    rw [P7 dt mD u9 (by omega)]
    rfl
   .have hm:=EH c zB1
    obtain ⟨d1,d2,d3⟩:=xd (k:=r.k) (q:=c % G - a) hk (by omega)
    refine .inr ⟨A,_,_,row,u,ro,by rw [hlen],by rw [hlen];omega,.inr ⟨d1,d2,by rw [hlen,d3];omega⟩,e4,e5,λi x hx=>?_⟩
    obtain ⟨hx,hi⟩:=wK i x hx
    obtain ⟨cs,g1,g2⟩:=e6 _ _ hx
    refine ⟨cs,?_,g2⟩
    rw [pF,<- rS]
    exact g1
theorem zsW (f:Sl r h1 v l) (hk:0 < r.k) (hd:T.desc t=some (.slice e)) (hs:dg T e=some r.k) (dt:ea lo 0 a) (mD:ea hi l.length b) (u9:a<=b) (hb:b<=l.length)
 (hK:∀ v',Sl r h1 v' ((l.take b).drop a)->K v' (h1.lay bs w)):aC (kV T t v lo hi none) (h1.lay bs w) K:=by
 obtain ⟨v',g1,g2⟩:=f.sub hk hd hs dt mD u9 hb
 rw [g1]
 exact hK v' g2
theorem zBL (f:Sl r h1 v l) (hk:0 < r.k) (hd:T.desc t=some (.slice e)) (hs:dg T e=some r.k) (hb:b<=l.length)
 (hK:∀ v',Sl r h1 v' (l.take b)->K v' (h1.lay bs w)):aC (kV T t v none (some (.int kd b)) none) (h1.lay bs w) K :=
 zsW f hk hd hs (ea.no 0) (ea.num kd _ b) (lE _) hb (λv' h=>hK v' (by simpa using h))
theorem zwc (f:Sl r h1 v l) (hk:0 < r.k) (hd:T.desc t=some (.slice e)) (hs:dg T e=some r.k) (ha:a<=l.length)
 (hK:∀ v',Sl r h1 v' (l.drop a)->K v' (h1.lay bs w)):aC (kV T t v (some (.int kd a)) none none) (h1.lay bs w) K :=
 zsW f hk hd hs (ea.num kd _ a) (ea.no _) ha (bj _) (λv' h=>hK v' (by rw [JW] at h;exact h))
theorem zx9 {k bytes:Nat} {z:List ab} {base:Option Addr} {x:ab} {l2:List Z} (hd:T.desc t=some (.slice e)) (hi:T.info e=some (k,bytes,z)) (DE:r.k=k) (hk:0 < k) (hz:h0.size<=h.size)
 (f:Sl r h (.slice base l.length l.length) l) {m:Nat} {news:List ab} (hs:fw x k h=some (m,news)) (nI:Src r h m news l2) (uj:0 < m)
 (hb:(l.length+m)*bytes<=140737488355328) (hl:l.length+m<=1152921504606846976) :
 ∃ v' h',gC T t (.slice base l.length l.length) x h=some (v',h')/\Ow r h0 h' e h.size v' (l++l2)/\Ext h h':=by
 subst DE
 obtain ⟨hm,Gp,h1,yQ⟩:=nI
 obtain ⟨rr,s1,ZA,Oe,so3,SB⟩:=uF (A:=h.size) hk f (λcs y hr=>by rw [zqX (bj _)];exact hr)
 rw [zqX (bj _)] at SB
 have nC:mg (.slice base l.length l.length) r.k h=some rr:=by
  simp only [fw,cA,cV] at s1
  obtain ⟨a,ha,_,rfl⟩:=s1
  exact ha
 have hlG:l.length < G:=by unfold G;omega
 have yF:l.length % G=l.length:=Eu hlG
 refine ⟨.slice (some ⟨h.size,0,none⟩) (l.length+m) (G*r.k+(l.length+m)),h.push (.row (rr++news) e false),?_,?_,?_⟩
 .unfold gC
  simp only [hd,hi,hs,dM]
  rw [az (by omega),az,az (by rw [yF];omega)]
  .simp only [nC,dM]
   rw [aE hlG]
  .simp only [sB,jH,CO,h1,not_or]
   exact ⟨⟨⟨by omega,by omega⟩,by omega⟩,by simp⟩
 .have wL:bL h ((h.push (.row (rr++news) e false)).set h.size .dead):=⟨by rw [Heap.size_set,Heap.size_push];omega,λB hB _=>by
   rw [Heap.aJ _ _ _ _ (by rw [Heap.size_push];omega),az (by omega),Heap.bg,az (by omega)]⟩
  refine .inr ⟨rr++news,by rw [dy,hm],λhh=>?_,hz,by rw [Heap.size_push];omega,by rw [Heap.bg,aE rfl],by rw [dy,dy,Oe,Gp,hm,rS],by rw [dy,hm];exact hl,λi y hy=>?_⟩
  .have:=congrArg List.length hh
   rw [dy,hm] at this
   simp at this
   omega
  .by_cases hi:i < l.length
   .rw [nc hi] at hy
    obtain ⟨cs,g1,g2⟩:=SB i y hy
    exact ⟨cs,zqD g1,r.mono _ _ _ _ wL g2⟩
   .rw [qu (by omega)] at hy
    obtain ⟨cs,g1,g2⟩:=yQ _ y hy
    refine ⟨cs,?_,r.mono _ _ _ _ wL g2⟩
    have:=zmA (a:=rr) g1
    rwa [Oe,<- rS,show l.length+(i - l.length)=i by omega] at this
 .refine ⟨by rw [Heap.size_push];omega,λA hA=>by rw [Heap.bg,az (by omega)],by rw [Heap.cR];omega⟩
end
end Go.Am
namespace Go.Am
def slt (a b:au):Bool:=Op.bytesLess a.data.toList b.data.toList
def zB2 (l:List dQ) (m:Nat):Prop:=∀ k x y,k+1 < m->l[k]? = some x->l[k+1]? = some y->slt x.var y.var=true
def HS (l:List dQ) (s:au):aZ × Bool:=match l.find? (λx=>decide (x.var=s)) with
 |some x=>(x.term,true)
 |none=>(cT,false)
end Go.Am
namespace Go.Am
section
variable {P:Program} {T:bI} {ov:Ov} {d:Option Tmp} {ty:TypeId} {pos:String} {af:Array Edge} {g:Option (Nat × Bool)} {e:Env} {h:Heap} {K:aF}
theorem Hv (t:TypeId):cS P T ov ⟨d,.makeMap t none,ty,pos,af,g⟩ e h K=K (.map (some h.size)) (h.push (.map [] 0)):=rfl
theorem D6 (t:TypeId) (x k:Operand) (ok:Bool):cS P T ov ⟨d,.lookup t x k ok,ty,pos,af,g⟩ e h K=aC (Cs T t (bt e x) (bt e k) ok h) h K:=by rw [<- xf];rfl
theorem PW (t:TypeId) (m k x:Operand):cS P T ov ⟨d,.mapUpdate t m k x,ty,pos,af,g⟩ e h K=iv (rO T t (bt e m) (bt e k) (bt e x) h) K:=by
 show dD ((rO T t (bt e m) (bt e k) (bt e x) h).map λh'=>(undef,h')) K=_
 cases rO T t (bt e m) (bt e k) (bt e x) h <;> rfl
end
def qQ (h:Heap) (A:Nat) (met:aS):Prop:=∃ es clock,∃ ks:aS,Holds h A (.map es clock)/\es.map (λx:MapEntry=>x.key)=ks.map ak.val/\(∀ a,a∈ks↔a∈met)/\∀ x∈es,x.val=.agg ⟨[]⟩
section
variable {T:bI} {t kt et:TypeId} {A:Nat} {met:aS} {a:ak} {h1:Heap} {bs:List ba} {w:Nat} {K:aF} {z:ab}
theorem qQ.over (m:qQ h1 A met) {h2:Heap} (x:Ext (h1.lay bs w) h2):qQ h2 A met:=by
 obtain ⟨es,cl,ks,m1,m2,m3⟩:=m
 exact ⟨es,cl,ks,m1.over x,m2,m3⟩
theorem qQ.ext (m:qQ h1 A met) {h2:Heap} (x:Ext h1 h2):qQ h2 A met:=by
 obtain ⟨es,cl,ks,m1,m2,m3⟩:=m
 exact ⟨es,cl,ks,⟨dB m1.lt x.size,(x.get A m1.lt).trans m1.get⟩,m2,m3⟩
theorem qQ.top {h2:Heap} {i:Nat} (x:Ext (h1.lay bs w) h2) (hi:bs[i]? = some (.map [] 0)):qQ h2 (h1.size+i) []:=⟨[],0,[],Holds.top x hi,rfl,λ_=>Iff.rfl,λ_ hx=>by simp at hx⟩
end
theorem zxx {T:bI} {t u:TypeId} {A n:Nat} {cs:List ab} {v:ab} {h1:Heap} {bs:List ba} {w:Nat} {K:aF} (q:Holds h1 A (.row cs u false)) (hs:dg T t=some n) (hv:v.cells.toList.length=n) (hl:cs.length=n) (bC:v.cells.toList.all one=true)
 (hK:∀ h',Holds h' A (.row v.cells.toList u false)->eG A (h1.lay bs w) h'->K undef h'):iv (iH T t (.pointer (some ⟨A,0,none⟩)) v (h1.lay bs w)) K:=by
 have hg:(h1.lay bs w).get A=some (.row cs u false):=q.lay bs w
 have hA:A < (h1.lay bs w).size:=(q.on bs w).lt
 have dx:v.cells.size=n:=by rw [<- hv];simp
 have hw:ki A 0 v.cells.toList (h1.lay bs w)=some ((h1.lay bs w).set A (.row v.cells.toList u false)):=by
  unfold ki
  rw [hg]
  simp only
  rw [aE (by simp only [ep,jH];exact ⟨by omega,bC⟩)]
  congr 2
  unfold aB
  rw [xB,pE,zG (by omega),bu]
 have he:iH T t (.pointer (some ⟨A,0,none⟩)) v (h1.lay bs w)=some ((h1.lay bs w).set A (.row v.cells.toList u false)):=by
  unfold iH
  simp only [hs,dM]
  rw [aE dx]
  exact hw
 rw [he]
 refine hK _ ⟨by rw [Heap.size_set];exact hA,by rw [Heap.aJ _ _ _ _ hA,aE rfl]⟩ ⟨by rw [Heap.size_set];exact bj _,λB hB aQ=>by rw [Heap.aJ _ _ _ _ hA,az aQ],by rw [Heap.bQ];omega⟩
theorem zty (t:aZ):t.val.cells.toList=t.cells:=rfl
end Go.Am
namespace Go.Am
variable {a:ak}
def J4:List UInt8:=[32,115,97,121,115,32]
def dC:List UInt8:=[44,32]
def jO (a:ak):List (List UInt8):=a.args.map λt=>t.s.data.toList
def cL (a:ak):List UInt8:=a.says.data.toList++J4++a.pred.data.toList++(if a.args=[] then [] else [40]++Lib.join (jO a) dC++[41])
def aX (a b:ak):Int:=Lib.compareBytes (cL a) (cL b)
theorem xj (a b:au):(a++b).data.toList=a.data.toList++b.data.toList:=by
 rw [ByteArray.data_append,JD]
theorem E1 (x:au):x.data.toList.length=x.size:=by rw [qM];rfl
theorem zxy {row:List ab}:∀ (xs:List au) (o:Nat),(∀ (i:Nat) (x:au),xs[i]? = some x->cut row (o+i) 1=some [.string x])->cut row o xs.length=some (xs.map Value.string)\/xs=[]
 | [],o,h=>.inr rfl
 |x::xs,o,h=>by
  left
  have h0:=h 0 x rfl
  rw [iU] at h0
  have hr:=zxy xs (o+1) (λi y hy=>by
   have:=h (i+1) y hy
   rwa [show o+(i+1)=o+1+i by omega] at this)
  unfold cut at h0 hr ⊢
  split at h0
  .rename_i hle
   simp only [dO] at h0
   rcases hr with hr|rfl
   .split at hr
    .rename_i amQ
     simp only [dO] at hr
     rw [aE (by simp only [dn];omega)]
     simp only [dn,lD,dO]
     have e1:(row.drop o).take (xs.length+1)=(row.drop o).take 1++((row.drop o).drop 1).take xs.length:=by
      rw [Nat.add_comm,List.take_add]
     rw [e1,h0,H6,hr]
     rfl
    .cases hr
   .rw [aE (by simp only [dn,dN];omega)]
    simp only [dn,dN,lD,List.map_nil]
    rw [h0]
  .cases h0
theorem zzr (xs:List au):strs (xs.map Value.string)=some xs:=by
 induction xs with
 |nil=>rfl
 |cons x xs ih=>simp only [lD,strs,ih,jn]
theorem zBa {h:Heap} {v:ab} {xs:List au} {sep:au} (f:Sl aM.str h v xs) (aQ:xs≠[]) (hl:xs.length<=1000) (hj:(Lib.join (xs.map (·.data.toList)) sep.data.toList).length<=100000) :
 H5 [v,.string sep] h=some (.string ⟨(Lib.join (xs.map (·.data.toList)) sep.data.toList).toArray⟩,h):=by
 rcases f with ⟨_,e⟩|⟨A,o,c,row,u,ro,rfl,_,_,_,hg,wK⟩
 .exact absurd e aQ
 .have lj:xs.length≠0:=λe=>aQ (xu.1 e)
  have hc:cut row o xs.length=some (xs.map Value.string):=by
   rcases zxy (row:=row) xs o (λi x hx=>by
    obtain ⟨cs,g1,g2⟩:=wK i x hx
    have g2':cs=[.string x]:=g2
    rw [g2'] at g1
    have g1':cut row (o+i*1) 1=some [.string x]:=g1
    rwa [CT] at g1') with h1|h1
   .exact h1
   .exact absurd h1 aQ
  unfold H5
  simp only [lj,if_false,gD,hg,hc,dM,zzr]
  rw [aE ⟨by omega,by omega⟩]
theorem zA5 {a b d:Heap} {A:Nat} (i:bL a b) (c:eG A b d) (hA:a.size<=A):bL a d:=⟨gn i.size c.size,λB hB hd=>(c.get B (dB hB i.size) (by omega)).trans (i.get B hB hd)⟩
theorem zxK (h:a.args.length=0):cL a=a.says.data.toList++J4++a.pred.data.toList:=by
 have:a.args=[]:=xu.1 h
 unfold cL
 rw [aE this,bu]
theorem Z3 {s:au} {l:List UInt8} (h:s.data.toList=l):s=⟨l.toArray⟩:=by
 apply CE
 rw [h]
theorem zsr:∀ (l:List (List UInt8)) (m:Nat),(∀ x∈l,x.length<=m)->(Lib.join l dC).length<=l.length*(m+2)
 | [],m,_=>by simp [Lib.join]
 | [x],m,h=>by
  rw [Lib.join_one]
  have:=h x (by simp)
  simp
  omega
 |x::y::l,m,h=>by
  have e:(Lib.join (x::y::l) dC).length=x.length+dC.length+(Lib.join (y::l) dC).length:=by simp [Lib.join,List.intercalate];omega
  have h1:=zsr (y::l) m (λz hz=>h z (by simp only [dh] at hz ⊢;exact .inr hz))
  have h2:=h x (by simp)
  have h3:dC.length=2:=rfl
  rw [e]
  simp only [dn,qx] at h1 ⊢
  omega
theorem ztP (h:a.aW=true):∀ t∈a.args,t.s.size<=300:=by
 intro t ht
 have h1:=List.mem_of_mem_take ht
 simp only [dh,tL,or_false] at h1
 rcases h1 with rfl|rfl|rfl|rfl
 .exact Qf h 0
 .exact Qf h 1
 .exact Qf h 2
 .exact Qf h 3
theorem ztL (h:a.aW=true):(Lib.join (jO a) dC).length<=1300:=by
 have h1:=zsr (jO a) 300 (λx hx=>by
  unfold jO at hx
  obtain ⟨t,ht,rfl⟩:=oY.1 hx
  rw [E1]
  exact ztP h t ht)
 have h2:(jO a).length<=4:=by
  unfold jO
  rw [gi,w9]
  unfold ak.cO
  omega
 have h3:(jO a).length*(300+2)<=4*302:=qw _ h2
 omega
theorem zxM (h:¬ a.args.length=0):cL a=a.says.data.toList++J4++a.pred.data.toList++[40]++Lib.join (jO a) dC++[41]:=by
 have:a.args≠[]:=λe=>h (by rw [e];rfl)
 unfold cL
 rw [az this]
 simp only [j7]
end Go.Am
