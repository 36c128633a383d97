/- Arguments that are slices, by what they hold. No condition. -/
import Derived.Test.YtnkmeidmdaidhaaGreatDoorG5
import Derived.Test.YtnkmeidmdaidhaaGreatDoorG9
import Derived.Test.YtnkmeidmdaidhaaGreatDoorG7
set_option linter.unusedSimpArgs false
set_option linter.unusedVariables false
namespace Go.Am
theorem Zr {Z:Type} {r:aC Z} {P:Program} {h:Heap} {n:Nat} {t e:TypeId} {v:ai} (hu:P.underlying t=some (.slice e)) (hk:P.cellsOf e=r.k) (zU:∀ cs,jd P h n e cs->∃ x,r.R h cs x) (hs:jd P h (n+1) t [v]):∃ l,Sl r h v l:=by
 unfold jd at hs
 rw [hu] at hs
 rcases hs with hs|⟨A,len,cap,row,u,hv,h1,h2,h3,h4,h5,h6⟩
 .simp only [List.cons.injEq,and_true] at hs
  subst hs
  exact ⟨[],Sl.nil⟩
 .simp only [List.cons.injEq,and_true] at hv
  subst hv
  rw [hk] at h5 h6
  have hx:∀ i:Fin len,∃ x,r.R h ((row.drop (i.val*r.k)).take r.k) x:=λi=>zU _ (h6 i.val i.isLt)
  refine ⟨List.ofFn λi=>Classical.choose (hx i),.inr ⟨A,0,cap,row,u,true,by rw [List.length_ofFn],by rw [List.length_ofFn];omega,.inl ⟨by unfold G;unfold maxLen at h2;omega,by rw [List.length_ofFn];exact h1⟩,h3,h4,λi x hi=>?_⟩⟩
  rw [List.getElem?_ofFn] at hi
  split at hi
  .rename_i aT
   simp only [eh] at hi
   subst hi
   refine ⟨_,?_,Classical.choose_spec (hx ⟨i,aT⟩)⟩
   unfold cut
   have:i*r.k+r.k<=len*r.k:=by rw [<- vz];exact uJ _ (by omega)
   rw [iA,aD (by omega)]
  .cases hi
end Go.Am
namespace Go.Proofs.YtnkmeidmdaidhaaGreatDoor
open Go.Am Tryz
set_option maxRecDepth 100000
variable {args cs:List ai} {n:Nat} {h:Heap} {v:ai} {P:Program}
theorem zun {Z:Type} {l:List Z} (h:l.length=11):∃ a0 a1 a2 a3 a4 a5 a6 a7 a8 a9 zr,l=[a0,a1,a2,a3,a4,a5,a6,a7,a8,a9,zr]:=by
 match l,h with
 | [a0,a1,a2,a3,a4,a5,a6,a7,a8,a9,zr],_=>exact ⟨_,_,_,_,_,_,_,_,_,_,_,rfl⟩
theorem zjj:prog.cellsOf 28=11:=by kernel_rfl
theorem zqz:prog.cellsOf 25=2:=by kernel_rfl
theorem zt0:prog.cellsOf 9=1:=by kernel_rfl
theorem zol:prog.cellsOf 35=12:=by kernel_rfl
theorem PU (hs:jd prog h (n+1) 9 cs):∃ s:aU,cs=[.string s]:=by
 unfold jd at hs
 rw [underlying9] at hs
 exact ⟨hs.choose,hs.choose_spec.1⟩
theorem zzG (hs:jd prog h (n+1) 4 cs):∃ b:Bool,cs=[.bool b]:=by
 unfold jd at hs
 rw [underlying4] at hs
 exact hs
theorem zB2 (hs:jd prog h (n+1) 3 cs):∃ b:Int,cs=[.int .i64 b]/\(Lit.int .i64 b).wf=true:=by
 unfold jd at hs
 rw [underlying3] at hs
 exact hs
theorem Qv {x y:ai} (hs:jd prog h (n+2) 25 [x,y]):∃ (b:Bool) (s:aU),x=.bool b/\y=.string s:=by
 unfold jd at hs
 rw [underlying25] at hs
 obtain ⟨_,hf⟩:=hs
 have h0:jd prog h (n+1) 4 (([x,y].drop 0).take 1):=hf 0 _ rfl
 have h1:jd prog h (n+1) 9 (([x,y].drop 1).take 1):=hf 1 _ rfl
 obtain ⟨b,hb⟩:=zzG h0
 obtain ⟨s,hs⟩:=PU h1
 simp at hb hs
 exact ⟨b,s,hb,hs⟩
theorem YI (hs:jd prog h (n+4) 28 cs):∃ a:ae,cs=a.cells:=by
 unfold jd at hs
 rw [underlying28] at hs
 obtain ⟨hl,hf⟩:=hs
 rw [zjj] at hl
 obtain ⟨a0,a1,a2,a3,a4,a5,a6,a7,a8,a9,zr,rfl⟩:=zun hl
 have h0:jd prog h (n+3) 9 (([a0,a1,a2,a3,a4,a5,a6,a7,a8,a9,zr].drop 0).take 1):=hf 0 _ rfl
 have h1:jd prog h (n+3) 9 (([a0,a1,a2,a3,a4,a5,a6,a7,a8,a9,zr].drop 1).take 1):=hf 1 _ rfl
 have h2:jd prog h (n+3) 3 (([a0,a1,a2,a3,a4,a5,a6,a7,a8,a9,zr].drop 2).take 1):=hf 2 _ rfl
 have h3:jd prog h (n+3) 26 (([a0,a1,a2,a3,a4,a5,a6,a7,a8,a9,zr].drop 3).take 8):=hf 3 _ rfl
 obtain ⟨s,hs⟩:=PU h0
 obtain ⟨p,hp⟩:=PU h1
 obtain ⟨i,hi,_⟩:=zB2 h2
 unfold jd at h3
 rw [underlying26] at h3
 obtain ⟨_,hg⟩:=h3
 have g0:=hg 0 (by omega)
 have g1:=hg 1 (by omega)
 have g2:=hg 2 (by omega)
 have g3:=hg 3 (by omega)
 simp only [zqz] at g0 g1 g2 g3
 obtain ⟨b0,s0,e0,e0'⟩:=Qv g0
 obtain ⟨b1,s1,e1,GG⟩:=Qv g1
 obtain ⟨b2,s2,e2,GH⟩:=Qv g2
 obtain ⟨b3,s3,e3,JB⟩:=Qv g3
 simp at hs hp hi
 subst hs hp hi e0 e0' e1 GG e2 GH e3 JB
 exact ⟨⟨s,p,i,⟨b0,s0⟩,⟨b1,s1⟩,⟨b2,s2⟩,⟨b3,s3⟩⟩,rfl⟩
theorem zpx (hs:jd prog h (n+5) 23 [v]):∃ l,Sl aC.atom h v l :=
 Zr underlying23 zjj (λcs hc=>YI hc) hs
theorem zu2 (hs:jd prog h (n+6) 35 cs):∃ x,aC.clause.R h cs x:=by
 unfold jd at hs
 rw [underlying35] at hs
 obtain ⟨hl,hf⟩:=hs
 rw [zol] at hl
 have h0:jd prog h (n+5) 28 ((cs.drop 0).take 11):=hf 0 _ rfl
 have h1:jd prog h (n+5) 23 ((cs.drop 11).take 1):=hf 1 _ rfl
 obtain ⟨a,ha⟩:=YI (n:=n+1) h0
 obtain ⟨v,hv⟩:∃ v,(cs.drop 11).take 1=[v]:=by
  match hc:(cs.drop 11).take 1,(show ((cs.drop 11).take 1).length=1 by simp;omega) with
  | [v],_=>exact ⟨v,rfl⟩
 rw [hv] at h1
 obtain ⟨l,nb⟩:=zpx h1
 refine ⟨⟨a,l⟩,v,?_,nb⟩
 have e1:cs=cs.take 11++cs.drop 11:=(H4 11 cs).symm
 rw [gb (by simp;omega)] at hv
 rw [Gr] at ha
 rw [e1,ha,hv]
theorem zrq (hs:jd prog h (n+7) 22 [v]):∃ l,Sl aC.clause h v l :=
 Zr underlying22 zol (λcs hc=>zu2 hc) hs
theorem zvN (hs:vm prog h (n+5) 23 v):∃ l,Sl aC.atom h v l:=by
 unfold vm at hs
 rw [underlying23] at hs
 exact zpx hs
theorem zqn (hs:vm prog h (n+7) 22 v):∃ l,Sl aC.clause h v l:=by
 unfold vm at hs
 rw [underlying22] at hs
 exact zrq hs
theorem zyw (hs:vm prog h (n+4) 28 v):∃ x:ae,v=x.val:=by
 unfold vm at hs
 rw [underlying28] at hs
 obtain ⟨cs,rfl,hc⟩:=hs
 obtain ⟨x,rfl⟩:=YI hc
 exact ⟨x,rfl⟩
theorem ztG {ts us:List TypeId} (e:ts=us) (hs:yR P h n ts args):yR P h n us args:=by
 subst e
 exact hs
theorem PG {t:TypeId} {ts:List TypeId} (hs:yR P h n (t::ts) args):∃ v vs,args=v::vs/\vm P h n t v/\yR P h n ts vs:=by
 cases args with
 |nil=>exact absurd hs id
 |cons v vs=>exact ⟨v,vs,rfl,hs.1,hs.2⟩
theorem zqp (hs:yR P h n [] args):args=[]:=by
 cases args with
 |nil=>rfl
 |cons v vs=>exact absurd hs id
end Go.Proofs.YtnkmeidmdaidhaaGreatDoor
namespace Go.Am
variable {A:Nat} {h:Heap} {Z:Type}
theorem zju (a:ae) (v z0 z1 z2 z3 z4 z5 z6 z7 z8 z9 xG My:ai):pA (λi=>some (i*12,12)) [z0,z1,z2,z3,z4,z5,z6,z7,z8,z9,xG,My] [(0,.agg ⟨a.cells++[v]⟩)]=some (a.cells++[v]):=rfl
theorem Ow.slice {Z:Type} {r:aC Z} {h0 h:Heap} {e A:Nat} {v:ai} {l:List Z} (f:Ow r h0 h e A v l):∃ a n c,v=.slice a n c:=by
 rcases f with ⟨_,_,rfl|⟨B,o,rfl,_⟩⟩|⟨row,rfl,_⟩
 .exact ⟨_,_,_,rfl⟩
 .exact ⟨_,_,_,rfl⟩
 .exact ⟨_,_,_,rfl⟩
theorem Ow.lt {r:aC Z} {h0:Heap} {e:Nat} {v:ai} {l:List Z} (f:Ow r h0 h e A v l):A < h.size\/l=[]:=by
 rcases f with ⟨_,h2,_⟩|⟨row,_,_,_,h4,_⟩
 .exact .inr h2
 .exact .inl h4
theorem Ow.any {r:aC Z} {h0:Heap} {e:Nat} {v:ai} (f:Ow r h0 h e A v []) (B:Nat) (hB:h0.size<=B):Ow r h0 h e B v []:=by
 rcases f with ⟨_,h2,h3⟩|⟨row,_,h2,_⟩
 .exact .inl ⟨hB,h2,h3⟩
 .exact absurd rfl h2
theorem Nq (hA:h.size<=A):kill A h=h:=az (by omega)
theorem Ow.under {r:aC Z} {hc:Heap} {e C:Nat} {v:ai} {l:List Z} (hk:0 < r.k) (ef:∀ h h' cs x,r.R h cs x->r.R h' cs x) (f:Ow r hc h e A v l) (hC:C < hc.size\/h.size<=C):Sl r (Am.kill C h) v l:=by
 rcases hC with hC|hC
 .exact (f.kill ef hC).sl hk
 .rw [Nq hC];exact f.sl hk
section
variable {P:Program} {T:bJ} {ov:Ov}
theorem ni {b:Nat} {ops:Array Oper} {l:List Oper} {j:Nat} {d:Option Tmp} {Q:Env->Heap->Prop} {e:Env} {hh:Heap} {bs:List aZ} {w s:Nat} {v:ai} (hb:b<=hh.size) (hs:hh.size<=s)
 (hk:b8 P T ov b ops l (j+1) (put e d v) (hh.lay bs s) Q):zd P T ov b ops l j d Q e (hh.lay [] w) v (hh.lay bs s):=by
 refine ⟨⟨⟨.inl ?_,?_,?_⟩,hk⟩⟩
 .rw [bh];show hh.size+0<=s;omega
 .show b<=s;omega
 .rw [bh,bh];simp
end
theorem M4 (a:ae) (z0 z1 z2 z3 z4 z5 z6 z7 z8 z9 xG:ai):pA (λi=>some (i*11,11)) [z0,z1,z2,z3,z4,z5,z6,z7,z8,z9,xG] [(0,a.val)]=some a.cells:=rfl
section
variable {h1:Heap} {bs:List aZ} {w:Nat} {T:bJ} {K:aJ} {t e s:TypeId} {v p:ai} {kd:IntKind} {i:Int}
theorem r9 {l:aN} {x:ae} (f:Sl aC.atom h1 v l) (hd:T.desc t=some (.slice e)) (hs:dJ T e=some 11) (h0:0<=i) (hx:l[i.toNat]? = some x) (hk:∀ p,gy h1 p (x.cells)->K p (h1.lay bs w)):aK (kC T t v (.int kd i)) (h1.lay bs w) K :=
 ixa f hd hs h0 (by have:=(fG.1 hx).1;omega) λx' p oz hp=>by
  obtain rfl:x=x':=Option.some.inj (hx.symm.trans oz)
  exact hk p hp
theorem QT {l:List ay} {x:ay} (f:Sl aC.term h1 v l) (hd:T.desc t=some (.slice e)) (hs:dJ T e=some 2) (h0:0<=i) (hx:l[i.toNat]? = some x) (hk:∀ p,gy h1 p (x.cells)->K p (h1.lay bs w)):aK (kC T t v (.int kd i)) (h1.lay bs w) K :=
 ixt f hd hs h0 (by have:=(fG.1 hx).1;omega) λx' p oz hp=>by
  obtain rfl:x=x':=Option.some.inj (hx.symm.trans oz)
  exact hk p hp
theorem yX {l:List au} {x:au} (f:Sl aC.bind h1 v l) (hd:T.desc t=some (.slice e)) (hs:dJ T e=some 3) (h0:0<=i) (hx:l[i.toNat]? = some x) (hk:∀ p,gy h1 p (x.cells)->K p (h1.lay bs w)):aK (kC T t v (.int kd i)) (h1.lay bs w) K :=
 ixb f hd hs h0 (by have:=(fG.1 hx).1;omega) λx' p oz hp=>by
  obtain rfl:x=x':=Option.some.inj (hx.symm.trans oz)
  exact hk p hp
theorem F7 {l:List aU} {x:aU} (f:Sl aC.str h1 v l) (hd:T.desc t=some (.slice e)) (hs:dJ T e=some 1) (h0:0<=i) (hx:l[i.toNat]? = some x) (hk:∀ p,gy h1 p ([.string x])->K p (h1.lay bs w)):aK (kC T t v (.int kd i)) (h1.lay bs w) K :=
 ixs f hd hs h0 (by have:=(fG.1 hx).1;omega) λx' p oz hp=>by
  obtain rfl:x=x':=Option.some.inj (hx.symm.trans oz)
  exact hk p hp
theorem Db {l:List ak} {x:ak} (f:Sl aC.clause h1 v l) (hd:T.desc t=some (.slice e)) (hs:dJ T e=some 12) (h0:0<=i) (hx:l[i.toNat]? = some x) (hk:∀ p b,Sl aC.atom h1 b x.body->gy h1 p (x.head.cells++[b])->K p (h1.lay bs w)):aK (kC T t v (.int kd i)) (h1.lay bs w) K :=
 ixc f hd hs h0 (by have:=(fG.1 hx).1;omega) λx' p b oz hb hp=>by
  obtain rfl:x=x':=Option.some.inj (hx.symm.trans oz)
  exact hk p b hb hp
theorem gC {l:List Z} {i:Nat} (h:(i:Int) < l.length):∃ x,l[(i:Int).toNat]? = some x/\l[i]? = some x:=⟨l[i]'(by omega),by simp,by simp⟩
end
section
variable {P:Program} {T:bJ}
end
end Go.Am
namespace Go.Am
variable {Z:Type}
def nA (p:Z->Bool) (l:List Z):Int:=match l.findIdx? p with
 |some i=>i
 |none => -1
theorem Ye {p:Z->Bool} {l:List Z} {i:Nat} {x:Z} (hx:l[i]? = some x) (aB:∀ y∈l.take i,p y=false) (hp:p x=true):nA p l=i:=by
 have:l.findIdx? p=some i:=by
  induction l generalizing i with
  |nil=>simp at hx
  |cons a l ih =>
   rw [List.findIdx?_cons]
   cases i with
   |zero =>
    simp at hx
    subst hx
    simp [hp]
   |succ i =>
    have ha:=aB a (by simp)
    rw [ha]
    have:=ih (i:=i) (by simpa using hx) (λy hy=>aB y (by simp [hy]))
    simp [this]
 unfold nA
 rw [this]
theorem Yp {p:Z->Bool} {l:List Z} (aB:∀ y∈l,p y=false):nA p l = -1:=by
 have:l.findIdx? p=none:=by rw [List.findIdx?_eq_none_iff];exact aB
 unfold nA
 rw [this]
theorem YX (p:Z->Bool) (l:List Z):decide (nA p l >= 0)=l.any p:=by
 unfold nA
 cases h:l.findIdx? p with
 |none =>
  rw [List.findIdx?_eq_none_iff] at h
  have:l.any p=false:=by rw [NN];intro x hx;rw [h x hx];decide
  rw [this]
  decide
 |some i =>
  have h2:∃ x∈l,p x=true:=by
   have:=List.findIdx?_isSome (xs:=l) (p:=p)
   rw [h] at this
   simp at this
   exact this
  have:l.any p=true:=by rw [Gi];exact h2
  rw [this]
  simp
theorem Bc (a:ae):a.args.length=a.bx:=by
 unfold ae.args ae.bx
 rw [gR]
 simp only [ek,db]
 omega
theorem zB3 {H:Heap} {A o:Nat} {a:ae} {u:TypeId} {ro:Bool} (q:Holds H A (.row a.cells u ro)) (ho:o=3):Sl aC.term H (.slice (some ⟨A,o,none⟩) a.bx 4) a.args:=by
 subst ho
 have hc:a.bx<=4:=by unfold ae.bx;omega
 refine .inr ⟨A,3,4,a.cells,u,ro,by rw [Bc],by rw [Bc];unfold maxLen;omega,.inl ⟨by decide,by rw [Bc];exact hc⟩,q.lt,q.get,λi x hx=>?_⟩
 have hi:i < a.bx:=by have:=(fG.1 hx).1;rw [Bc] at this;exact this
 unfold ae.args at hx
 rw [F6 hi] at hx
 have:i=0\/i=1\/i=2\/i=3:=by omega
 rcases this with rfl|rfl|rfl|rfl <;> (simp at hx;subst hx;exact ⟨_,rfl,rfl⟩)
theorem fe (a:ae):cut a.cells 0 11=some a.cells:=rfl
theorem dU (a:ae):Value.agg a.cells.toArray=a.val:=rfl
theorem gV (a:ae):a.val.cells.toList=a.cells:=rfl
theorem dq (a:ae) (h:Heap) (K:aJ):aK (some a.val) h K=K a.val h:=rfl
theorem xO (a:ay) (h:Heap) (K:aJ):aK (some a.val) h K=K a.val h:=rfl
def ae.ground (a:ae):Bool := !a.args.any (·.v)
end Go.Am
