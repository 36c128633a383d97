/- Arguments that are slices, by what they hold. No condition. -/
import Derived.Test.YtjildadoepadeaaGreatDoorG6
import Derived.Test.YtjildadoepadeaaGreatDoorG11
import Derived.Test.YtjildadoepadeaaGreatDoorG9
set_option linter.unusedSimpArgs false
set_option linter.unusedVariables false
namespace Go.Am
theorem Bc {Z:Type} {r:aQ Z} {P:Program} {h:Heap} {n:Nat} {t e:TypeId} {v:ai} (hu:P.underlying t=some (.slice e)) (hk:P.cellsOf e=r.k) (zU:∀ cs,dn P h n e cs->∃ x,r.R h cs x) (hs:dn P h (n+1) t [v]):∃ l,Sl r h v l:=by
 unfold dn at hs
 rw [hu] at hs
 rcases hs with hs|⟨A,len,cap,row,u,hv,h1,h2,h3,h4,h5,h6⟩
 .simp only [List.cons.injEq,and_true] at hs
  subst hs
  exact ⟨[],Sl.nil⟩
 .simp only [List.cons.injEq,and_true] at hv
  subst hv
  rw [hk] at h5 h6
  have hx:∀ i:Fin len,∃ x,r.R h ((row.drop (i.val*r.k)).take r.k) x:=λi=>zU _ (h6 i.val i.isLt)
  refine ⟨List.ofFn λi=>Classical.choose (hx i),.inr ⟨A,0,cap,row,u,true,by rw [List.length_ofFn],by rw [List.length_ofFn];omega,.inl ⟨by unfold G;unfold maxLen at h2;omega,by rw [List.length_ofFn];exact h1⟩,h3,h4,λi x hi=>?_⟩⟩
  rw [List.getElem?_ofFn] at hi
  split at hi
  .rename_i aS
   simp only [de] at hi
   subst hi
   refine ⟨_,?_,Classical.choose_spec (hx ⟨i,aS⟩)⟩
   unfold cut
   have:i*r.k+r.k<=len*r.k:=by rw [<- sz];exact nU _ (by omega)
   rw [jX,aC (by omega)]
  .cases hi
end Go.Am
namespace Go.Proofs.YtjildadoepadeaaGreatDoor
open Go.Am Tryz
set_option maxRecDepth 100000
variable {args cs:List ai} {n:Nat} {h:Heap} {P:Program}
theorem zp9 {Z:Type} {l:List Z} (h:l.length=11):∃ a0 a1 a2 a3 a4 a5 a6 a7 a8 a9 wO,l=[a0,a1,a2,a3,a4,a5,a6,a7,a8,a9,wO]:=by
 match l,h with
 | [a0,a1,a2,a3,a4,a5,a6,a7,a8,a9,wO],_=>exact ⟨_,_,_,_,_,_,_,_,_,_,_,rfl⟩
theorem R1:prog.cellsOf 41=11:=by kernel_rfl
theorem ZW:prog.cellsOf 38=2:=by kernel_rfl
theorem zpR:prog.cellsOf 9=1:=by kernel_rfl
theorem vV (hs:dn prog h (n+1) 9 cs):∃ s:aA,cs=[.string s]:=by
 unfold dn at hs
 rw [underlying9] at hs
 exact ⟨hs.choose,hs.choose_spec.1⟩
theorem zuw (hs:dn prog h (n+1) 4 cs):∃ b:Bool,cs=[.bool b]:=by
 unfold dn at hs
 rw [underlying4] at hs
 exact hs
theorem Gj (hs:dn prog h (n+1) 3 cs):∃ b:Int,cs=[.int .i64 b]/\(Lit.int .i64 b).wf=true:=by
 unfold dn at hs
 rw [underlying3] at hs
 exact hs
theorem Il {x y:ai} (hs:dn prog h (n+2) 38 [x,y]):∃ (b:Bool) (s:aA),x=.bool b/\y=.string s:=by
 unfold dn at hs
 rw [underlying38] at hs
 obtain ⟨_,hf⟩:=hs
 have h0:dn prog h (n+1) 4 (([x,y].drop 0).take 1):=hf 0 _ rfl
 have h1:dn prog h (n+1) 9 (([x,y].drop 1).take 1):=hf 1 _ rfl
 obtain ⟨b,hb⟩:=zuw h0
 obtain ⟨s,hs⟩:=vV h1
 simp at hb hs
 exact ⟨b,s,hb,hs⟩
theorem Ik (hs:dn prog h (n+4) 41 cs):∃ a:ae,cs=a.cells:=by
 unfold dn at hs
 rw [underlying41] at hs
 obtain ⟨hl,hf⟩:=hs
 rw [R1] at hl
 obtain ⟨a0,a1,a2,a3,a4,a5,a6,a7,a8,a9,wO,rfl⟩:=zp9 hl
 have h0:dn prog h (n+3) 9 (([a0,a1,a2,a3,a4,a5,a6,a7,a8,a9,wO].drop 0).take 1):=hf 0 _ rfl
 have h1:dn prog h (n+3) 9 (([a0,a1,a2,a3,a4,a5,a6,a7,a8,a9,wO].drop 1).take 1):=hf 1 _ rfl
 have h2:dn prog h (n+3) 3 (([a0,a1,a2,a3,a4,a5,a6,a7,a8,a9,wO].drop 2).take 1):=hf 2 _ rfl
 have h3:dn prog h (n+3) 39 (([a0,a1,a2,a3,a4,a5,a6,a7,a8,a9,wO].drop 3).take 8):=hf 3 _ rfl
 obtain ⟨s,hs⟩:=vV h0
 obtain ⟨p,hp⟩:=vV h1
 obtain ⟨i,hi,_⟩:=Gj h2
 unfold dn at h3
 rw [underlying39] at h3
 obtain ⟨_,hg⟩:=h3
 have g0:=hg 0 (by omega)
 have g1:=hg 1 (by omega)
 have g2:=hg 2 (by omega)
 have g3:=hg 3 (by omega)
 simp only [ZW] at g0 g1 g2 g3
 obtain ⟨b0,s0,e0,U9⟩:=Il g0
 obtain ⟨b1,s1,e1,Va⟩:=Il g1
 obtain ⟨b2,s2,e2,Vb⟩:=Il g2
 obtain ⟨b3,s3,e3,Vc⟩:=Il g3
 simp at hs hp hi
 subst hs hp hi e0 U9 e1 Va e2 Vb e3 Vc
 exact ⟨⟨s,p,i,⟨b0,s0⟩,⟨b1,s1⟩,⟨b2,s2⟩,⟨b3,s3⟩⟩,rfl⟩
theorem TI {v:ai} (hs:dn prog h (n+5) 50 [v]):∃ l,Sl aQ.atom h v l :=
 Bc underlying50 R1 (λcs hc=>Ik hc) hs
theorem zpA {ts us:List TypeId} (e:ts=us) (hs:sZ P h n ts args):sZ P h n us args:=by
 subst e
 exact hs
theorem HG {t:TypeId} {ts:List TypeId} (hs:sZ P h n (t::ts) args):∃ v vs,args=v::vs/\s8 P h n t v/\sZ P h n ts vs:=by
 cases args with
 |nil=>exact absurd hs id
 |cons v vs=>exact ⟨v,vs,rfl,hs.1,hs.2⟩
theorem Za (hs:sZ P h n [] args):args=[]:=by
 cases args with
 |nil=>rfl
 |cons v vs=>exact absurd hs id
end Go.Proofs.YtjildadoepadeaaGreatDoor
namespace Go.Am
variable {Z:Type}
theorem Ow.slice {Z:Type} {r:aQ Z} {h0 h:Heap} {e A:Nat} {v:ai} {l:List Z} (f:Ow r h0 h e A v l):∃ a n c,v=.slice a n c:=by
 rcases f with ⟨_,_,rfl|⟨B,o,rfl,_⟩⟩|⟨row,rfl,_⟩
 .exact ⟨_,_,_,rfl⟩
 .exact ⟨_,_,_,rfl⟩
 .exact ⟨_,_,_,rfl⟩
theorem Ow.lt {r:aQ Z} {h0 h:Heap} {e A:Nat} {v:ai} {l:List Z} (f:Ow r h0 h e A v l):A < h.size\/l=[]:=by
 rcases f with ⟨_,h2,_⟩|⟨row,_,_,_,h4,_⟩
 .exact .inr h2
 .exact .inl h4
theorem Ow.any {r:aQ Z} {h0 h:Heap} {e A:Nat} {v:ai} (f:Ow r h0 h e A v []) (B:Nat) (hB:h0.size<=B):Ow r h0 h e B v []:=by
 rcases f with ⟨_,h2,h3⟩|⟨row,_,h2,_⟩
 .exact .inl ⟨hB,h2,h3⟩
 .exact absurd rfl h2
section
variable {P:Program} {T:bm} {ov:Ov}
theorem yO {b:Nat} {ops:Array Oper} {l:List Oper} {j:Nat} {d:Option Tmp} {Q:Env->Heap->Prop} {e:Env} {hh:Heap} {bs:List bd} {w s:Nat} {v:ai} (hb:b<=hh.size) (hs:hh.size<=s)
 (hk:bF P T ov b ops l (j+1) (put e d v) (hh.lay bs s) Q):wy P T ov b ops l j d Q e (hh.lay [] w) v (hh.lay bs s):=by
 refine ⟨⟨⟨.inl ?_,?_,?_⟩,hk⟩⟩
 .rw [cF];show hh.size+0<=s;omega
 .show b<=s;omega
 .rw [cF,cF];simp
end
section
variable {h1:Heap} {bs:List bd} {w:Nat} {T:bm} {K:aF} {t e s:TypeId} {v p:ai} {kd:IntKind} {i:Int}
theorem Gw {l:cR} {x:ae} (f:Sl aQ.atom h1 v l) (hd:T.desc t=some (.slice e)) (hs:c9 T e=some 11) (h0:0<=i) (hx:l[i.toNat]? = some x) (hk:∀ p,dY h1 p (x.cells)->K p (h1.lay bs w)):aE (hZ T t v (.int kd i)) (h1.lay bs w) K :=
 Qy f hd hs h0 (by have:=(fB.1 hx).1;omega) λx' p ln hp=>by
  obtain rfl:x=x':=Option.some.inj (hx.symm.trans ln)
  exact hk p hp
theorem IV {l:List aH} {x:aH} (f:Sl aQ.term h1 v l) (hd:T.desc t=some (.slice e)) (hs:c9 T e=some 2) (h0:0<=i) (hx:l[i.toNat]? = some x) (hk:∀ p,dY h1 p (x.cells)->K p (h1.lay bs w)):aE (hZ T t v (.int kd i)) (h1.lay bs w) K :=
 W1 f hd hs h0 (by have:=(fB.1 hx).1;omega) λx' p ln hp=>by
  obtain rfl:x=x':=Option.some.inj (hx.symm.trans ln)
  exact hk p hp
theorem sd {l:List aA} {x:aA} (f:Sl aQ.str h1 v l) (hd:T.desc t=some (.slice e)) (hs:c9 T e=some 1) (h0:0<=i) (hx:l[i.toNat]? = some x) (hk:∀ p,dY h1 p ([.string x])->K p (h1.lay bs w)):aE (hZ T t v (.int kd i)) (h1.lay bs w) K :=
 W0 f hd hs h0 (by have:=(fB.1 hx).1;omega) λx' p ln hp=>by
  obtain rfl:x=x':=Option.some.inj (hx.symm.trans ln)
  exact hk p hp
theorem Gx {l:List bA} {x:bA} (f:Sl aQ.clause h1 v l) (hd:T.desc t=some (.slice e)) (hs:c9 T e=some 12) (h0:0<=i) (hx:l[i.toNat]? = some x) (hk:∀ p b,Sl aQ.atom h1 b x.body->dY h1 p (x.head.cells++[b])->K p (h1.lay bs w)):aE (hZ T t v (.int kd i)) (h1.lay bs w) K :=
 WY f hd hs h0 (by have:=(fB.1 hx).1;omega) λx' p b ln hb hp=>by
  obtain rfl:x=x':=Option.some.inj (hx.symm.trans ln)
  exact hk p b hb hp
theorem fx {l:List Z} {i:Nat} (h:(i:Int) < l.length):∃ x,l[(i:Int).toNat]? = some x/\l[i]? = some x:=⟨l[i]'(by omega),by simp,by simp⟩
end
section
variable {P:Program} {T:bm}
end
end Go.Am
namespace Go.Am
variable {Z:Type}
def ka (p:Z->Bool) (l:List Z):Int:=match l.findIdx? p with
 |some i=>i
 |none => -1
theorem Ni {p:Z->Bool} {l:List Z} {i:Nat} {x:Z} (hx:l[i]? = some x) (aq:∀ y∈l.take i,p y=false) (hp:p x=true):ka p l=i:=by
 have:l.findIdx? p=some i:=by
  induction l generalizing i with
  |nil=>simp at hx
  |cons a l ih =>
   rw [List.findIdx?_cons]
   cases i with
   |zero =>
    simp at hx
    subst hx
    simp [hp]
   |succ i =>
    have ha:=aq a (by simp)
    rw [ha]
    have:=ih (i:=i) (by simpa using hx) (λy hy=>aq y (by simp [hy]))
    simp [this]
 unfold ka
 rw [this]
theorem Ns {p:Z->Bool} {l:List Z} (aq:∀ y∈l,p y=false):ka p l = -1:=by
 have:l.findIdx? p=none:=by rw [List.findIdx?_eq_none_iff];exact aq
 unfold ka
 rw [this]
theorem Og (p:Z->Bool) (l:List Z):decide (ka p l >= 0)=l.any p:=by
 unfold ka
 cases h:l.findIdx? p with
 |none =>
  rw [List.findIdx?_eq_none_iff] at h
  have:l.any p=false:=by rw [uN];intro x hx;rw [h x hx];decide
  rw [this]
  decide
 |some i =>
  have h2:∃ x∈l,p x=true:=by
   have:=List.findIdx?_isSome (xs:=l) (p:=p)
   rw [h] at this
   simp at this
   exact this
  have:l.any p=true:=by rw [oI];exact h2
  rw [this]
  simp
theorem vR (a:ae):a.args.length=a.bR:=by
 unfold ae.args ae.bR
 rw [ku]
 simp only [nW,jb]
 omega
theorem zwx {H:Heap} {A o:Nat} {a:ae} {u:TypeId} {ro:Bool} (q:Holds H A (.row a.cells u ro)) (ho:o=3):Sl aQ.term H (.slice (some ⟨A,o,none⟩) a.bR 4) a.args:=by
 subst ho
 have hc:a.bR<=4:=by unfold ae.bR;omega
 refine .inr ⟨A,3,4,a.cells,u,ro,by rw [vR],by rw [vR];unfold maxLen;omega,.inl ⟨by decide,by rw [vR];exact hc⟩,q.lt,q.get,λi x hx=>?_⟩
 have hi:i < a.bR:=by have:=(fB.1 hx).1;rw [vR] at this;exact this
 unfold ae.args at hx
 rw [AW hi] at hx
 have:i=0\/i=1\/i=2\/i=3:=by omega
 rcases this with rfl|rfl|rfl|rfl <;> (simp at hx;subst hx;exact ⟨_,rfl,rfl⟩)
theorem eZ (a:ae):cut a.cells 0 11=some a.cells:=rfl
theorem dO (a:ae):Value.agg a.cells.toArray=a.val:=rfl
theorem e9 (a:ae):a.val.cells.toList=a.cells:=rfl
theorem dx (a:ae) (h:Heap) (K:aF):aE (some a.val) h K=K a.val h:=rfl
theorem Az (a:aH) (h:Heap) (K:aF):aE (some a.val) h K=K a.val h:=rfl
def ae.ground (a:ae):Bool := !a.args.any (·.v)
end Go.Am
