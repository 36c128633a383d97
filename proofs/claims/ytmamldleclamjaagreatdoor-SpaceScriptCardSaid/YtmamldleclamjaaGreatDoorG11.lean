/- Arguments that are slices, by what they hold. No condition. -/
import Derived.Test.YtmamldleclamjaaGreatDoorG10
import Derived.Test.YtmamldleclamjaaGreatDoorG8
import Derived.Shelf.Sort.Plain
import Derived.Shelf.Slices.In.SortNone
import Derived.Shelf.Slices.CompactS
set_option linter.unusedSimpArgs false
set_option linter.unusedVariables false
noncomputable section
namespace Go.Am
theorem Hy {Z:Type} {r:aK Z} {P:Program} {h:Heap} {n:Nat} {t e:TypeId} {v:ah} (hu:P.underlying t=some (.slice e)) (hk:P.cellsOf e=r.k) (wu:∀ cs,eK P h n e cs->∃ x,r.R h cs x) (hs:eK P h (n+1) t [v]):∃ l,Sl r h v l:=by
 unfold eK at hs
 rw [hu] at hs
 rcases hs with hs|⟨A,len,cap,row,u,hv,h1,h2,h3,h4,h5,h6⟩
 .simp only [List.cons.injEq,and_true] at hs
  subst hs
  exact ⟨[],Sl.nil⟩
 .simp only [List.cons.injEq,and_true] at hv
  subst hv
  rw [hk] at h5 h6
  have hx:∀ i:Fin len,∃ x,r.R h ((row.drop (i.val*r.k)).take r.k) x:=λi=>wu _ (h6 i.val i.isLt)
  refine ⟨List.ofFn λi=>Classical.choose (hx i),.inr ⟨A,0,cap,row,u,true,by rw [List.length_ofFn],by rw [List.length_ofFn];omega,.inl ⟨by unfold G;unfold maxLen at h2;omega,by rw [List.length_ofFn];exact h1⟩,h3,h4,λi x hi=>?_⟩⟩
  rw [List.getElem?_ofFn] at hi
  split at hi
  .rename_i aW
   simp only [eh] at hi
   subst hi
   refine ⟨_,?_,Classical.choose_spec (hx ⟨i,aW⟩)⟩
   unfold cut
   have:i*r.k+r.k<=len*r.k:=by rw [<- rF];exact qj _ (by omega)
   rw [j3,aB (by omega)]
  .cases hi
end Go.Am
namespace Go.Proofs.YtmamldleclamjaaGreatDoor
open Go.Am Tryz
set_option maxRecDepth 100000
variable {args cs:List ah} {n:Nat} {h:Heap} {P:Program}
theorem ztY {Z:Type} {l:List Z} (h:l.length=11):∃ a0 a1 a2 a3 a4 a5 a6 a7 a8 a9 Eg,l=[a0,a1,a2,a3,a4,a5,a6,a7,a8,a9,Eg]:=by
 match l,h with
 | [a0,a1,a2,a3,a4,a5,a6,a7,a8,a9,Eg],_=>exact ⟨_,_,_,_,_,_,_,_,_,_,_,rfl⟩
theorem zjl:prog.cellsOf 47=11:=by kernel_rfl
theorem zqC:prog.cellsOf 44=2:=by kernel_rfl
theorem ztE:prog.cellsOf 9=1:=by kernel_rfl
theorem BS (hs:eK prog h (n+1) 9 cs):∃ s:au,cs=[.string s]:=by
 unfold eK at hs
 rw [underlying9] at hs
 exact ⟨hs.choose,hs.choose_spec.1⟩
theorem zzL (hs:eK prog h (n+1) 4 cs):∃ b:Bool,cs=[.bool b]:=by
 unfold eK at hs
 rw [underlying4] at hs
 exact hs
theorem Qq (hs:eK prog h (n+1) 3 cs):∃ b:Int,cs=[.int .i64 b]/\(Lit.int .i64 b).wf=true:=by
 unfold eK at hs
 rw [underlying3] at hs
 exact hs
theorem Tj {x y:ah} (hs:eK prog h (n+2) 44 [x,y]):∃ (b:Bool) (s:au),x=.bool b/\y=.string s:=by
 unfold eK at hs
 rw [underlying44] at hs
 obtain ⟨_,hf⟩:=hs
 have h0:eK prog h (n+1) 4 (([x,y].drop 0).take 1):=hf 0 _ rfl
 have h1:eK prog h (n+1) 9 (([x,y].drop 1).take 1):=hf 1 _ rfl
 obtain ⟨b,hb⟩:=zzL h0
 obtain ⟨s,hs⟩:=BS h1
 simp at hb hs
 exact ⟨b,s,hb,hs⟩
theorem Ti (hs:eK prog h (n+4) 47 cs):∃ a:aj,cs=a.cells:=by
 unfold eK at hs
 rw [underlying47] at hs
 obtain ⟨hl,hf⟩:=hs
 rw [zjl] at hl
 obtain ⟨a0,a1,a2,a3,a4,a5,a6,a7,a8,a9,Eg,rfl⟩:=ztY hl
 have h0:eK prog h (n+3) 9 (([a0,a1,a2,a3,a4,a5,a6,a7,a8,a9,Eg].drop 0).take 1):=hf 0 _ rfl
 have h1:eK prog h (n+3) 9 (([a0,a1,a2,a3,a4,a5,a6,a7,a8,a9,Eg].drop 1).take 1):=hf 1 _ rfl
 have h2:eK prog h (n+3) 3 (([a0,a1,a2,a3,a4,a5,a6,a7,a8,a9,Eg].drop 2).take 1):=hf 2 _ rfl
 have h3:eK prog h (n+3) 45 (([a0,a1,a2,a3,a4,a5,a6,a7,a8,a9,Eg].drop 3).take 8):=hf 3 _ rfl
 obtain ⟨s,hs⟩:=BS h0
 obtain ⟨p,hp⟩:=BS h1
 obtain ⟨i,hi,_⟩:=Qq h2
 unfold eK at h3
 rw [underlying45] at h3
 obtain ⟨_,hg⟩:=h3
 have g0:=hg 0 (by omega)
 have g1:=hg 1 (by omega)
 have g2:=hg 2 (by omega)
 have g3:=hg 3 (by omega)
 simp only [zqC] at g0 g1 g2 g3
 obtain ⟨b0,s0,e0,e0'⟩:=Tj g0
 obtain ⟨b1,s1,e1,UN⟩:=Tj g1
 obtain ⟨b2,s2,e2,EJ⟩:=Tj g2
 obtain ⟨b3,s3,e3,e3'⟩:=Tj g3
 simp at hs hp hi
 subst hs hp hi e0 e0' e1 UN e2 EJ e3 e3'
 exact ⟨⟨s,p,i,⟨b0,s0⟩,⟨b1,s1⟩,⟨b2,s2⟩,⟨b3,s3⟩⟩,rfl⟩
theorem zpG {v:ah} (hs:eK prog h (n+5) 51 [v]):∃ l,Sl aK.atom h v l :=
 Hy underlying51 zjl (λcs hc=>Ti hc) hs
theorem ztp {ts us:List TypeId} (e:ts=us) (hs:Ab P h n ts args):Ab P h n us args:=by
 subst e
 exact hs
theorem Z8 {t:TypeId} {ts:List TypeId} (hs:Ab P h n (t::ts) args):∃ v vs,args=v::vs/\Af P h n t v/\Ab P h n ts vs:=by
 cases args with
 |nil=>exact absurd hs id
 |cons v vs=>exact ⟨v,vs,rfl,hs.1,hs.2⟩
theorem zqr (hs:Ab P h n [] args):args=[]:=by
 cases args with
 |nil=>rfl
 |cons v vs=>exact absurd hs id
end Go.Proofs.YtmamldleclamjaaGreatDoor
namespace Go.Am
variable {Z:Type} {a b:Int} {k:IntKind}
theorem Ow.slice {Z:Type} {r:aK Z} {h0 h:Heap} {e A:Nat} {v:ah} {l:List Z} (f:Ow r h0 h e A v l):∃ a n c,v=.slice a n c:=by
 rcases f with ⟨_,_,rfl|⟨B,o,rfl,_⟩⟩|⟨row,rfl,_⟩
 .exact ⟨_,_,_,rfl⟩
 .exact ⟨_,_,_,rfl⟩
 .exact ⟨_,_,_,rfl⟩
theorem Ow.lt {r:aK Z} {h0 h:Heap} {e A:Nat} {v:ah} {l:List Z} (f:Ow r h0 h e A v l):A < h.size\/l=[]:=by
 rcases f with ⟨_,h2,_⟩|⟨row,_,_,_,h4,_⟩
 .exact .inr h2
 .exact .inl h4
theorem Ow.any {r:aK Z} {h0 h:Heap} {e A:Nat} {v:ah} (f:Ow r h0 h e A v []) (B:Nat) (hB:h0.size<=B):Ow r h0 h e B v []:=by
 rcases f with ⟨_,h2,h3⟩|⟨row,_,h2,_⟩
 .exact .inl ⟨hB,h2,h3⟩
 .exact absurd rfl h2
section
variable {P:Program} {T:bO} {ov:Ov}
theorem vN {b:Nat} {ops:Array Oper} {l:List Oper} {j:Nat} {d:Option Tmp} {Q:Env->Heap->Prop} {e:Env} {hh:Heap} {bs:List ba} {w s:Nat} {v:ah} (hb:b<=hh.size) (hs:hh.size<=s)
 (hk:cu P T ov b ops l (j+1) (put e d v) (hh.lay bs s) Q):Ce P T ov b ops l j d Q e (hh.lay [] w) v (hh.lay bs s):=by
 refine ⟨⟨⟨.inl ?_,?_,?_⟩,hk⟩⟩
 .rw [bd];show hh.size+0<=s;omega
 .show b<=s;omega
 .rw [bd,bd];simp
end
theorem IU (a:aj) (z0 z1 z2 z3 z4 z5 z6 z7 z8 z9 ZC:ah):uE (λi=>some (i*11,11)) [z0,z1,z2,z3,z4,z5,z6,z7,z8,z9,ZC] [(0,a.val)]=some a.cells:=rfl
section
variable {h1:Heap} {bs:List ba} {w:Nat} {T:bO} {K:aI} {t e s:TypeId} {v p:ah} {kd:IntKind} {i:Int}
theorem oG {l:aN} {x:aj} (f:Sl aK.atom h1 v l) (hd:T.desc t=some (.slice e)) (hs:di T e=some 11) (h0:0<=i) (hx:l[i.toNat]? = some x) (hk:∀ p,eI h1 p (x.cells)->K p (h1.lay bs w)):aH (kF T t v (.int kd i)) (h1.lay bs w) K :=
 YU f hd hs h0 (by have:=(dH.1 hx).1;omega) λx' p nJ hp=>by
  obtain rfl:x=x':=Option.some.inj (hx.symm.trans nJ)
  exact hk p hp
theorem QJ {l:List aZ} {x:aZ} (f:Sl aK.term h1 v l) (hd:T.desc t=some (.slice e)) (hs:di T e=some 2) (h0:0<=i) (hx:l[i.toNat]? = some x) (hk:∀ p,eI h1 p (x.cells)->K p (h1.lay bs w)):aH (kF T t v (.int kd i)) (h1.lay bs w) K :=
 ixt f hd hs h0 (by have:=(dH.1 hx).1;omega) λx' p nJ hp=>by
  obtain rfl:x=x':=Option.some.inj (hx.symm.trans nJ)
  exact hk p hp
theorem qz {l:List au} {x:au} (f:Sl aK.str h1 v l) (hd:T.desc t=some (.slice e)) (hs:di T e=some 1) (h0:0<=i) (hx:l[i.toNat]? = some x) (hk:∀ p,eI h1 p ([.string x])->K p (h1.lay bs w)):aH (kF T t v (.int kd i)) (h1.lay bs w) K :=
 ixs f hd hs h0 (by have:=(dH.1 hx).1;omega) λx' p nJ hp=>by
  obtain rfl:x=x':=Option.some.inj (hx.symm.trans nJ)
  exact hk p hp
theorem QI {l:List bw} {x:bw} (f:Sl aK.clause h1 v l) (hd:T.desc t=some (.slice e)) (hs:di T e=some 12) (h0:0<=i) (hx:l[i.toNat]? = some x) (hk:∀ p b,Sl aK.atom h1 b x.body->eI h1 p (x.head.cells++[b])->K p (h1.lay bs w)):aH (kF T t v (.int kd i)) (h1.lay bs w) K :=
 ixc f hd hs h0 (by have:=(dH.1 hx).1;omega) λx' p b nJ hb hp=>by
  obtain rfl:x=x':=Option.some.inj (hx.symm.trans nJ)
  exact hk p b hb hp
theorem fo {l:List Z} {i:Nat} (h:(i:Int) < l.length):∃ x,l[(i:Int).toNat]? = some x/\l[i]? = some x:=⟨l[i]'(by omega),by simp,by simp⟩
end
section
variable {P:Program} {T:bO}
theorem zmC {op:BinOp} {t:TypeId} {v:ah} (hf:r8 op (.int k a) (.int k b)=none) (hp:jf P (binOp op t (.int k a) (.int k b))=some v) (hv:plain v=true):cm P T op t (.int k a) (.int k b)=some v:=by
 have h1:((T.desc t).bind λd=>DV d (.int k a) (.int k b))=none:=by
  cases T.desc t with
  |none=>rfl
  |some d=>cases d <;> rfl
 unfold cm
 rw [hf]
 simp only [h1]
 rw [aB (show (plain (Value.int k a) && plain (Value.int k b))=true from rfl)]
 rw [hp,dX,aB hv]
theorem zA6 {t:TypeId} (hb:b≠0):cm P T .rem t (.int k a) (.int k b)=some (.int k (a.tmod b)):=by
 refine zmC rfl ?_ rfl
 simp [binOp,Op.intDiv,hb,Ad]
theorem zvL {t:TypeId} (hb:b≠0):cm P T .quo t (.int k a) (.int k b)=some (.int k (k.wrap (a.tdiv b))):=by
 refine zmC rfl ?_ rfl
 simp [binOp,Op.intDiv,hb,Ad]
end
end Go.Am
namespace Go.Am
variable {Z:Type}
def mr (p:Z->Bool) (l:List Z):Int:=match l.findIdx? p with
 |some i=>i
 |none => -1
theorem SY {p:Z->Bool} {l:List Z} {i:Nat} {x:Z} (hx:l[i]? = some x) (aE:∀ y∈l.take i,p y=false) (hp:p x=true):mr p l=i:=by
 have:l.findIdx? p=some i:=by
  induction l generalizing i with
  |nil=>simp at hx
  |cons a l ih =>
   rw [List.findIdx?_cons]
   cases i with
   |zero =>
    simp at hx
    subst hx
    simp [hp]
   |succ i =>
    have ha:=aE a (by simp)
    rw [ha]
    have:=ih (i:=i) (by simpa using hx) (λy hy=>aE y (by simp [hy]))
    simp [this]
 unfold mr
 rw [this]
theorem Tt {p:Z->Bool} {l:List Z} (aE:∀ y∈l,p y=false):mr p l = -1:=by
 have:l.findIdx? p=none:=by rw [List.findIdx?_eq_none_iff];exact aE
 unfold mr
 rw [this]
theorem TB (p:Z->Bool) (l:List Z):decide (mr p l >= 0)=l.any p:=by
 unfold mr
 cases h:l.findIdx? p with
 |none =>
  rw [List.findIdx?_eq_none_iff] at h
  have:l.any p=false:=by rw [Aq];intro x hx;rw [h x hx];decide
  rw [this]
  decide
 |some i =>
  have h2:∃ x∈l,p x=true:=by
   have:=List.findIdx?_isSome (xs:=l) (p:=p)
   rw [h] at this
   simp at this
   exact this
  have:l.any p=true:=by rw [tF];exact h2
  rw [this]
  simp
theorem wO (a:aj):a.args.length=a.bQ:=by
 unfold aj.args aj.bQ
 rw [fw]
 simp only [dY,dK]
 omega
theorem zCh {H:Heap} {A o:Nat} {a:aj} {u:TypeId} {ro:Bool} (q:Holds H A (.row a.cells u ro)) (ho:o=3):Sl aK.term H (.slice (some ⟨A,o,none⟩) a.bQ 4) a.args:=by
 subst ho
 have hc:a.bQ<=4:=by unfold aj.bQ;omega
 refine .inr ⟨A,3,4,a.cells,u,ro,by rw [wO],by rw [wO];unfold maxLen;omega,.inl ⟨by decide,by rw [wO];exact hc⟩,q.lt,q.get,λi x hx=>?_⟩
 have hi:i < a.bQ:=by have:=(dH.1 hx).1;rw [wO] at this;exact this
 unfold aj.args at hx
 rw [Jk hi] at hx
 have:i=0\/i=1\/i=2\/i=3:=by omega
 rcases this with rfl|rfl|rfl|rfl <;> (simp at hx;subst hx;exact ⟨_,rfl,rfl⟩)
theorem eP (a:aj):cut a.cells 0 11=some a.cells:=rfl
theorem ef (a:aj):Value.agg a.cells.toArray=a.val:=rfl
theorem gI (a:aj):a.val.cells.toList=a.cells:=rfl
theorem dy (a:aj) (h:Heap) (K:aI):aH (some a.val) h K=K a.val h:=rfl
theorem Tc (a:aZ) (h:Heap) (K:aI):aH (some a.val) h K=K a.val h:=rfl
theorem zC9 [DecidableEq Z] (a:Z) (l:List Z):decide (mr (λx=>decide (a=x)) l >= 0)=decide (a∈l):=by
 rw [TB]
 by_cases h:a∈l
 .rw [pn h,tF]
  exact ⟨a,h,by simp⟩
 .rw [oL h,Aq]
  intro x hx
  simp
  rintro rfl
  exact h hx
def aj.ground (a:aj):Bool := !a.args.any (·.v)
end Go.Am
namespace Go.Am
variable {kd:IntKind} {hi lo:Option ah} {a b:Nat}
section
variable {Z:Type} {r:aK Z} {h0 h h1:Heap} {v:ah} {l:List Z} {t e:TypeId} {T:bO} {bs:List ba} {w:Nat} {K:aI}
def ea (x:Option ah) (d n:Nat):Prop:=(x=none/\n=d)\/∃ kd,x=some (.int kd n)
theorem ea.no (n:Nat):ea none n n:=.inl ⟨rfl,rfl⟩
theorem ea.num (kd:IntKind) (d n:Nat):ea (some (.int kd n)) d n:=.inr ⟨kd,rfl⟩
theorem GW {n hi:Nat} (hn:n<=hi):wV (.int kd n) hi=some n:=by
 have:(0:Int)<=n/\(n:Int)<=hi:=by omega
 simp only [wV,this,and_self,if_true,Qz]
theorem PJ {n c:Nat} (dj:ea lo 0 a) (kp:ea hi n b) (tS:a<=b) (hbc:b<=c):rq n c lo hi none=some (a,b,c):=by
 unfold rq
 rcases dj with ⟨rfl,rfl⟩|⟨kd,rfl⟩ <;> rcases kp with ⟨rfl,rfl⟩|⟨kd2,rfl⟩ <;> simp [GW,tS,hbc]
theorem zCJ:0 < G:=by unfold G;omega
theorem yX {k q:Nat} (hk:0 < k) (hq:q < G):G<=G*k+q/\(G*k+q) / G=k/\(G*k+q) % G=q:=by
 obtain ⟨c1,c2,c3⟩:=B1 (k:=k) (q:=q) hk hq
 exact ⟨by omega,c3,c2⟩
theorem Sl.sub (f:Sl r h v l) (hk:0 < r.k) (hd:T.desc t=some (.slice e)) (hs:di T e=some r.k) (dj:ea lo 0 a) (kp:ea hi l.length b) (tS:a<=b) (hb:b<=l.length) :
 ∃ v',jL T t v lo hi none=some v'/\Sl r h v' ((l.take b).drop a):=by
 have hlen:((l.take b).drop a).length=b - a:=by simp;omega
 have wu:∀ (i:Nat) (x:Z),((l.take b).drop a)[i]? = some x->l[a+i]? = some x/\i < b - a:=by
  intro i x hx
  have:=(dH.1 hx).1
  rw [hlen] at this
  rw [kL,Jk (by omega)] at hx
  exact ⟨hx,this⟩
 rcases f with ⟨rfl,rfl⟩|⟨A,o,c,row,u,ro,rfl,e2,e3,e4,e5,e6⟩
 .have CD:b=0:=by simpa using hb
  subst CD
  have L8:a=0:=by omega
  subst L8
  refine ⟨.slice none 0 0,?_,by simpa using Sl.nil⟩
  unfold jL
  simp only [hd,hs,dX,aB zCJ]
  have:=PJ (n:=0) (c:=0) dj (by simpa using kp) (bo 0) (bo 0)
  rw [this]
  rfl
 .rcases e3 with ⟨c1,c2⟩|⟨c1,c2,c3⟩
  .refine ⟨.slice (some ⟨A,if c=a then o else o+a*r.k,none⟩) (b - a) (c - a),?_,?_⟩
   .unfold jL
    simp only [hd,hs,dX,aB c1]
    rw [PJ dj kp tS (by omega)]
    rfl
   .refine .inr ⟨A,_,c - a,row,u,ro,by rw [hlen],by rw [hlen];omega,.inl ⟨by omega,by rw [hlen];omega⟩,e4,e5,λi x hx=>?_⟩
    obtain ⟨hx,hi⟩:=wu i x hx
    obtain ⟨cs,g1,g2⟩:=e6 _ _ hx
    refine ⟨cs,?_,g2⟩
    rw [aA (by omega),qk,<- tH]
    exact g1
  .refine ⟨.slice (some ⟨A,o+a*r.k,none⟩) (b - a) (G*r.k+(c % G - a)),?_,?_⟩
   .unfold jL
    simp only [hd,hs,dX,aA (show ¬ c < G by omega),aB c2]
    rw [PJ dj kp tS (by omega)]
    rfl
   .have hm:=D4 c zCJ
    obtain ⟨d1,d2,d3⟩:=yX (k:=r.k) (q:=c % G - a) hk (by omega)
    refine .inr ⟨A,_,_,row,u,ro,by rw [hlen],by rw [hlen];omega,.inr ⟨d1,d2,by rw [hlen,d3];omega⟩,e4,e5,λi x hx=>?_⟩
    obtain ⟨hx,hi⟩:=wu i x hx
    obtain ⟨cs,g1,g2⟩:=e6 _ _ hx
    refine ⟨cs,?_,g2⟩
    rw [qk,<- tH]
    exact g1
theorem zs0 (f:Sl r h1 v l) (hk:0 < r.k) (hd:T.desc t=some (.slice e)) (hs:di T e=some r.k) (dj:ea lo 0 a) (kp:ea hi l.length b) (tS:a<=b) (hb:b<=l.length)
 (hK:∀ v',Sl r h1 v' ((l.take b).drop a)->K v' (h1.lay bs w)):aH (jL T t v lo hi none) (h1.lay bs w) K:=by
 obtain ⟨v',g1,g2⟩:=f.sub hk hd hs dj kp tS hb
 rw [g1]
 exact hK v' g2
theorem zya (f:Sl r h1 v l) (hk:0 < r.k) (hd:T.desc t=some (.slice e)) (hs:di T e=some r.k) (hb:b<=l.length)
 (hK:∀ v',Sl r h1 v' (l.take b)->K v' (h1.lay bs w)):aH (jL T t v none (some (.int kd b)) none) (h1.lay bs w) K :=
 zs0 f hk hd hs (ea.no 0) (ea.num kd _ b) (i6 _) hb (λv' h=>hK v' (by simpa using h))
theorem zoO (f:Sl r h1 v l) (hk:0 < r.k) (hd:T.desc t=some (.slice e)) (hs:di T e=some r.k) (ha:a<=l.length)
 (hK:∀ v',Sl r h1 v' (l.drop a)->K v' (h1.lay bs w)):aH (jL T t v (some (.int kd a)) none none) (h1.lay bs w) K :=
 zs0 f hk hd hs (ea.num kd _ a) (ea.no _) ha (bo _) (λv' h=>hK v' (by rw [JK] at h;exact h))
end
end Go.Am
namespace Go.Am
def slt (a b:au):Bool:=Op.bytesLess a.data.toList b.data.toList
theorem T3:∀ (x y:List UInt8),Op.bytesLess x y=decide (x < y)
 | [],[]=>by simp [Op.bytesLess]
 |_::_,[]=>by simp [Op.bytesLess]
 | [],_::_=>by simp [Op.bytesLess]
 |a::x,b::y=>by
  rw [Op.bytesLess,T3 x y]
  simp only [List.cons_lt_cons_iff]
  by_cases h1:a < b <;> by_cases h2:a=b <;> by_cases h3:x < y <;> simp [h1,h2,h3]
theorem zuS (a:au):slt a a=false:=by
 unfold slt
 rw [T3]
 simp [List.lt_irrefl]
theorem zkv {a b c:au} (h1:slt a b=true) (h2:slt b c=true):slt a c=true:=by
 unfold slt at *
 rw [T3] at *
 simp only [jl] at *
 exact List.lt_trans h1 h2
theorem zpK {a b:au} (h1:slt a b=false) (h2:slt b a=false):a=b:=by
 unfold slt at *
 rw [T3] at *
 simp only [decide_eq_false_iff_not,List.not_lt] at *
 exact Hn (List.le_antisymm h2 h1)
def Hh (l:List bp) (m:Nat):Prop:=∀ k x y,k+1 < m->l[k]? = some x->l[k+1]? = some y->slt x.var y.var=true
theorem zuK {l:List bp} {m:Nat} (h:m<=1):Hh l m:=by
 intro k x y hk
 omega
theorem zxG {l:List bp} (h:Hh l l.length) {i j:Nat} {x y:bp} (dp:i < j) (hx:l[i]? = some x) (hy:l[j]? = some y):slt x.var y.var=true:=by
 induction j generalizing y with
 |zero=>omega
 |succ j ih =>
  have hj:=(dH.1 hy).1
  have hz:l[j]? = some l[j]:=ie (by omega)
  have h1:=h j l[j] y hj hz hy
  by_cases he:i=j
  .subst he
   rw [hz] at hx
   cases hx
   exact h1
  .exact zkv (ih (by omega) hz) h1
def iP (l:List bp) (s:au):aZ × Bool:=match l.find? (λx=>decide (x.var=s)) with
 |some x=>(x.term,true)
 |none=>(cf,false)
def D5 (l:List bp):Prop:=Hh l l.length/\∀ b∈l,b.term.s≠⟨#[]⟩/\¬ (b.term.v=true/\(iP l b.term.s).2=true)
def oJ (l:List bp) (t:aZ):aZ:=if (iP l t.s).2=true/\t.v=true then (iP l t.s).1 else t
def zyf (l m:List bp):List bp:=l.map λb=>⟨b.var,oJ m b.term⟩
def NH (b:bp):Bool:=b.term.v && decide (b.term.s=b.var)
def wX (l:List bp) (b:bp):List bp:=l.takeWhile (λx => !slt b.var x.var)++b::l.dropWhile (λx => !slt b.var x.var)
open Classical in
def QR (l:List bp) (v:au) (t:aZ):Option (List bp) :=
 if ¬ D5 l then none
 else if v=⟨#[]⟩\/t.s=⟨#[]⟩ then none
 else if (iP l v).2=true then none
 else if NH ⟨v,oJ l t⟩=true then none
 else some (wX (zyf l [⟨v,oJ l t⟩]) ⟨v,oJ l t⟩)
def Hm (a b:aj):Bool:=decide (a.says=b.says) && (decide (a.pred=b.pred) && (decide (a.n=b.n) && (decide (0<=a.n) && decide (a.n<=4))))
def TM (out:List bp) (x y:aZ):Option (List bp) :=
 if x.v=false then (if x=y then some out else none)
 else if (iP out x.s).2=true then (if (iP out x.s).1=y then some out else none)
 else QR out x.s y
def Qn (p g:aj):Nat->List bp->Option (List bp)
 |0,out=>some out
 |n+1,out=>(Qn p g n out).bind λo=>TM o (p.arg n) (g.arg n)
def Uy (l:List bp) (x:aZ):Bool:=x.v && (decide (x.s=⟨#[]⟩) || ((iP l x.s).2 && (iP l x.s).1.v))
open Classical in
def nZ (l:List bp) (p g:aj):Option (List bp) :=
 if ¬ D5 l\/Hm p g=false\/g.ground=false then none
 else if ∃ i:Nat,i < 4/\(i:Int) < p.n/\Uy l (p.arg i)=true then none
 else Qn p g p.n.toNat l
def HJ:aN->aN->List bp->Option (List bp)
 |p::ps,g::gs,l=>(nZ l p g).bind (HJ ps gs)
 |_,_,l=>some l
end Go.Am
namespace Go.Am
section
variable {P:Program} {T:bO} {ov:Ov} {d:Option Tmp} {ty:TypeId} {pos:String} {af:Array Edge} {g:Option (Nat × Bool)} {e:Env} {h:Heap} {K:aI}
theorem G4 (t:TypeId):cS P T ov ⟨d,.makeMap t none,ty,pos,af,g⟩ e h K=K (.map (some h.size)) (h.push (.map [] 0)):=rfl
theorem Aa (t:TypeId) (x k:Operand) (ok:Bool):cS P T ov ⟨d,.lookup t x k ok,ty,pos,af,g⟩ e h K=aH (B0 T t (bz e x) (bz e k) ok h) h K:=by rw [<- wP];rfl
theorem Pz (t:TypeId) (m k x:Operand):cS P T ov ⟨d,.mapUpdate t m k x,ty,pos,af,g⟩ e h K=iq (rz T t (bz e m) (bz e k) (bz e x) h) K:=by
 show dw ((rz T t (bz e m) (bz e k) (bz e x) h).map λh'=>(undef,h')) K=_
 cases rz T t (bz e m) (bz e k) (bz e x) h <;> rfl
end
def qE (h:Heap) (A:Nat) (met:aN):Prop:=∃ es clock,∃ ks:aN,Holds h A (.map es clock)/\es.map (λx:MapEntry=>x.key)=ks.map aj.val/\(∀ a,a∈ks↔a∈met)/\∀ x∈es,x.val=.agg ⟨[]⟩
section
variable {T:bO} {t kt et:TypeId} {A:Nat} {met:aN} {a:aj} {h1:Heap} {bs:List ba} {w:Nat} {K:aI} {z:ah}
theorem qE.over (m:qE h1 A met) {h2:Heap} (x:Ext (h1.lay bs w) h2):qE h2 A met:=by
 obtain ⟨es,cl,ks,m1,m2,m3⟩:=m
 exact ⟨es,cl,ks,m1.over x,m2,m3⟩
theorem qE.ext (m:qE h1 A met) {h2:Heap} (x:Ext h1 h2):qE h2 A met:=by
 obtain ⟨es,cl,ks,m1,m2,m3⟩:=m
 exact ⟨es,cl,ks,⟨dJ m1.lt x.size,(x.get A m1.lt).trans m1.get⟩,m2,m3⟩
theorem qE.top {h2:Heap} {i:Nat} (x:Ext (h1.lay bs w) h2) (hi:bs[i]? = some (.map [] 0)):qE h2 (h1.size+i) []:=⟨[],0,[],Holds.top x hi,rfl,λ_=>Iff.rfl,λ_ hx=>by simp at hx⟩
end
theorem zxS {T:bO} {t u:TypeId} {A n:Nat} {cs:List ah} {v:ah} {h1:Heap} {bs:List ba} {w:Nat} {K:aI} (q:Holds h1 A (.row cs u false)) (hs:di T t=some n) (hv:v.cells.toList.length=n) (hl:cs.length=n) (bx:v.cells.toList.all one=true)
 (hK:∀ h',Holds h' A (.row v.cells.toList u false)->eX A (h1.lay bs w) h'->K undef h'):iq (iO T t (.pointer (some ⟨A,0,none⟩)) v (h1.lay bs w)) K:=by
 have hg:(h1.lay bs w).get A=some (.row cs u false):=q.lay bs w
 have hA:A < (h1.lay bs w).size:=(q.on bs w).lt
 have dF:v.cells.size=n:=by rw [<- hv];simp
 have hw:lY A 0 v.cells.toList (h1.lay bs w)=some ((h1.lay bs w).set A (.row v.cells.toList u false)):=by
  unfold lY
  rw [hg]
  simp only
  rw [aB (by simp only [eo,jl];exact ⟨by omega,bx⟩)]
  congr 2
  unfold aF
  rw [Cg,pk,wW (by omega),bG]
 have he:iO T t (.pointer (some ⟨A,0,none⟩)) v (h1.lay bs w)=some ((h1.lay bs w).set A (.row v.cells.toList u false)):=by
  unfold iO
  simp only [hs,dX]
  rw [aB dF]
  exact hw
 rw [he]
 refine hK _ ⟨by rw [Heap.size_set];exact hA,by rw [Heap.aJ _ _ _ _ hA,aB rfl]⟩ ⟨by rw [Heap.size_set];exact bo _,λB hB aS=>by rw [Heap.aJ _ _ _ _ hA,aA aS],by rw [Heap.cd];omega⟩
theorem ztF (t:aZ):t.val.cells.toList=t.cells:=rfl
end Go.Am
namespace Go.Am
variable {a:aj}
def JP:List UInt8:=[32,115,97,121,115,32]
def dv:List UInt8:=[44,32]
def jK (a:aj):List (List UInt8):=a.args.map λt=>t.s.data.toList
def cM (a:aj):List UInt8:=a.says.data.toList++JP++a.pred.data.toList++(if a.args=[] then [] else [40]++Lib.join (jK a) dv++[41])
def aU (a b:aj):Int:=Lib.compareBytes (cM a) (cM b)
theorem wU (a b:au):(a++b).data.toList=a.data.toList++b.data.toList:=by
 rw [ByteArray.data_append,JA]
theorem Eo (x:au):x.data.toList.length=x.size:=by rw [rD];rfl
theorem zxT {row:List ah}:∀ (xs:List au) (o:Nat),(∀ (i:Nat) (x:au),xs[i]? = some x->cut row (o+i) 1=some [.string x])->cut row o xs.length=some (xs.map Value.string)\/xs=[]
 | [],o,h=>.inr rfl
 |x::xs,o,h=>by
  left
  have h0:=h 0 x rfl
  rw [i0] at h0
  have hr:=zxT xs (o+1) (λi y hy=>by
   have:=h (i+1) y hy
   rwa [show o+(i+1)=o+1+i by omega] at this)
  unfold cut at h0 hr ⊢
  split at h0
  .rename_i hle
   simp only [eh] at h0
   rcases hr with hr|rfl
   .split at hr
    .rename_i anm
     simp only [eh] at hr
     rw [aB (by simp only [dY];omega)]
     simp only [dY,lA,eh]
     have e1:(row.drop o).take (xs.length+1)=(row.drop o).take 1++((row.drop o).drop 1).take xs.length:=by
      rw [Nat.add_comm,List.take_add]
     rw [e1,h0,HF,hr]
     rfl
    .cases hr
   .rw [aB (by simp only [dY,dK];omega)]
    simp only [dY,dK,lA,List.map_nil]
    rw [h0]
  .cases h0
theorem zzR (xs:List au):strs (xs.map Value.string)=some xs:=by
 induction xs with
 |nil=>rfl
 |cons x xs ih=>simp only [lA,strs,ih,j2]
theorem zBJ {h:Heap} {v:ah} {xs:List au} {sep:au} (f:Sl aK.str h v xs) (aS:xs≠[]) (hl:xs.length<=1000) (hj:(Lib.join (xs.map (·.data.toList)) sep.data.toList).length<=100000) :
 HE [v,.string sep] h=some (.string ⟨(Lib.join (xs.map (·.data.toList)) sep.data.toList).toArray⟩,h):=by
 rcases f with ⟨_,e⟩|⟨A,o,c,row,u,ro,rfl,_,_,_,hg,wu⟩
 .exact absurd e aS
 .have k6:xs.length≠0:=λe=>aS (Ai.1 e)
  have hc:cut row o xs.length=some (xs.map Value.string):=by
   rcases zxT (row:=row) xs o (λi x hx=>by
    obtain ⟨cs,g1,g2⟩:=wu i x hx
    have g2':cs=[.string x]:=g2
    rw [g2'] at g1
    have g1':cut row (o+i*1) 1=some [.string x]:=g1
    rwa [Nat.mul_one] at g1') with h1|h1
   .exact h1
   .exact absurd h1 aS
  unfold HE
  simp only [k6,if_false,iQ,hg,hc,dX,zzR]
  rw [aB ⟨by omega,by omega⟩]
theorem zBE {a b d:Heap} {A:Nat} (i:bH a b) (c:eX A b d) (hA:a.size<=A):bH a d:=⟨hY i.size c.size,λB hB hd=>(c.get B (dJ hB i.size) (by omega)).trans (i.get B hB hd)⟩
theorem zx5 (h:a.args.length=0):cM a=a.says.data.toList++JP++a.pred.data.toList:=by
 have:a.args=[]:=Ai.1 h
 unfold cM
 rw [aB this,bG]
theorem ZH {s:au} {l:List UInt8} (h:s.data.toList=l):s=⟨l.toArray⟩:=by
 apply Hn
 rw [h]
theorem zst:∀ (l:List (List UInt8)) (m:Nat),(∀ x∈l,x.length<=m)->(Lib.join l dv).length<=l.length*(m+2)
 | [],m,_=>by simp [Lib.join]
 | [x],m,h=>by
  rw [Lib.join_one]
  have:=h x (by simp)
  simp
  omega
 |x::y::l,m,h=>by
  have e:(Lib.join (x::y::l) dv).length=x.length+dv.length+(Lib.join (y::l) dv).length:=by simp [Lib.join,List.intercalate];omega
  have h1:=zst (y::l) m (λz hz=>h z (by simp only [cJ] at hz ⊢;exact .inr hz))
  have h2:=h x (by simp)
  have h3:dv.length=2:=rfl
  rw [e]
  simp only [dY,rF] at h1 ⊢
  omega
theorem ztZ (h:a.aY=true):∀ t∈a.args,t.s.size<=300:=by
 intro t ht
 have h1:=List.mem_of_mem_take ht
 simp only [cJ,we,or_false] at h1
 rcases h1 with rfl|rfl|rfl|rfl
 .exact PO h 0
 .exact PO h 1
 .exact PO h 2
 .exact PO h 3
theorem ztV (h:a.aY=true):(Lib.join (jK a) dv).length<=1300:=by
 have h1:=zst (jK a) 300 (λx hx=>by
  unfold jK at hx
  obtain ⟨t,ht,rfl⟩:=nD.1 hx
  rw [Eo]
  exact ztZ h t ht)
 have h2:(jK a).length<=4:=by
  unfold jK
  rw [nA,wO]
  unfold aj.bQ
  omega
 have h3:(jK a).length*(300+2)<=4*302:=qj _ h2
 omega
theorem zx7 (h:¬ a.args.length=0):cM a=a.says.data.toList++JP++a.pred.data.toList++[40]++Lib.join (jK a) dv++[41]:=by
 have:a.args≠[]:=λe=>h (by rw [e];rfl)
 unfold cM
 rw [aA this]
 simp only [ka]
end Go.Am
namespace Go.Am
open Go.RowKit Go.Sort Go.Proofs
section
variable {P:Program} {gs:List Nat}
end
end Go.Am
