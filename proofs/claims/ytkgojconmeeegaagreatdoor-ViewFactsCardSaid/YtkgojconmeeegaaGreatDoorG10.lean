/- Arguments that are slices, by what they hold. No condition. -/
import Derived.Test.YtkgojconmeeegaaGreatDoorG5
import Derived.Test.YtkgojconmeeegaaGreatDoorG9
import Derived.Test.YtkgojconmeeegaaGreatDoorG7
set_option linter.unusedSimpArgs false
set_option linter.unusedVariables false
noncomputable section
namespace Go.Am
theorem HR {Z:Type} {r:aJ Z} {P:Program} {h:Heap} {n:Nat} {t e:TypeId} {v:ae} (hu:P.underlying t=some (.slice e)) (hk:P.cellsOf e=r.k) (uA:∀ cs,eJ P h n e cs->∃ x,r.R h cs x) (hs:eJ P h (n+1) t [v]):∃ l,Sl r h v l:=by
 unfold eJ at hs
 rw [hu] at hs
 rcases hs with hs|⟨A,len,cap,row,u,hv,h1,h2,h3,h4,h5,h6⟩
 .simp only [List.cons.injEq,and_true] at hs
  subst hs
  exact ⟨[],Sl.nil⟩
 .simp only [List.cons.injEq,and_true] at hv
  subst hv
  rw [hk] at h5 h6
  have hx:∀ i:Fin len,∃ x,r.R h ((row.drop (i.val*r.k)).take r.k) x:=λi=>uA _ (h6 i.val i.isLt)
  refine ⟨List.ofFn λi=>Classical.choose (hx i),.inr ⟨A,0,cap,row,u,true,by rw [List.length_ofFn],by rw [List.length_ofFn];omega,.inl ⟨by unfold G;unfold maxLen at h2;omega,by rw [List.length_ofFn];exact h1⟩,h3,h4,λi x hi=>?_⟩⟩
  rw [List.getElem?_ofFn] at hi
  split at hi
  .rename_i aP
   simp only [dY] at hi
   subst hi
   refine ⟨_,?_,Classical.choose_spec (hx ⟨i,aP⟩)⟩
   unfold cut
   have:i*r.k+r.k<=len*r.k:=by rw [<- r9];exact py _ (by omega)
   rw [iu,aE (by omega)]
  .cases hi
end Go.Am
namespace Go.Proofs.YtkgojconmeeegaaGreatDoor
open Go.Am Tryz
set_option maxRecDepth 100000
variable {args cs:List ae} {n:Nat} {h:Heap} {P:Program}
theorem zuL {Z:Type} {l:List Z} (h:l.length=11):∃ a0 a1 a2 a3 a4 a5 a6 a7 a8 a9 Fc,l=[a0,a1,a2,a3,a4,a5,a6,a7,a8,a9,Fc]:=by
 match l,h with
 | [a0,a1,a2,a3,a4,a5,a6,a7,a8,a9,Fc],_=>exact ⟨_,_,_,_,_,_,_,_,_,_,_,rfl⟩
theorem zjc:prog.cellsOf 34=11:=by kernel_rfl
theorem zrc:prog.cellsOf 31=2:=by kernel_rfl
theorem zum:prog.cellsOf 9=1:=by kernel_rfl
theorem CF (hs:eJ prog h (n+1) 9 cs):∃ s:aB,cs=[.string s]:=by
 unfold eJ at hs
 rw [underlying9] at hs
 exact ⟨hs.choose,hs.choose_spec.1⟩
theorem zAH (hs:eJ prog h (n+1) 4 cs):∃ b:Bool,cs=[.bool b]:=by
 unfold eJ at hs
 rw [underlying4] at hs
 exact hs
theorem RM (hs:eJ prog h (n+1) 3 cs):∃ b:Int,cs=[.int .i64 b]/\(Lit.int .i64 b).wf=true:=by
 unfold eJ at hs
 rw [underlying3] at hs
 exact hs
theorem UM {x y:ae} (hs:eJ prog h (n+2) 31 [x,y]):∃ (b:Bool) (s:aB),x=.bool b/\y=.string s:=by
 unfold eJ at hs
 rw [underlying31] at hs
 obtain ⟨_,hf⟩:=hs
 have h0:eJ prog h (n+1) 4 (([x,y].drop 0).take 1):=hf 0 _ rfl
 have h1:eJ prog h (n+1) 9 (([x,y].drop 1).take 1):=hf 1 _ rfl
 obtain ⟨b,hb⟩:=zAH h0
 obtain ⟨s,hs⟩:=CF h1
 simp at hb hs
 exact ⟨b,s,hb,hs⟩
theorem RG (hs:eJ prog h (n+4) 34 cs):∃ a:ak,cs=a.cells:=by
 unfold eJ at hs
 rw [underlying34] at hs
 obtain ⟨hl,hf⟩:=hs
 rw [zjc] at hl
 obtain ⟨a0,a1,a2,a3,a4,a5,a6,a7,a8,a9,Fc,rfl⟩:=zuL hl
 have h0:eJ prog h (n+3) 9 (([a0,a1,a2,a3,a4,a5,a6,a7,a8,a9,Fc].drop 0).take 1):=hf 0 _ rfl
 have h1:eJ prog h (n+3) 9 (([a0,a1,a2,a3,a4,a5,a6,a7,a8,a9,Fc].drop 1).take 1):=hf 1 _ rfl
 have h2:eJ prog h (n+3) 3 (([a0,a1,a2,a3,a4,a5,a6,a7,a8,a9,Fc].drop 2).take 1):=hf 2 _ rfl
 have h3:eJ prog h (n+3) 32 (([a0,a1,a2,a3,a4,a5,a6,a7,a8,a9,Fc].drop 3).take 8):=hf 3 _ rfl
 obtain ⟨s,hs⟩:=CF h0
 obtain ⟨p,hp⟩:=CF h1
 obtain ⟨i,hi,_⟩:=RM h2
 unfold eJ at h3
 rw [underlying32] at h3
 obtain ⟨_,hg⟩:=h3
 have g0:=hg 0 (by omega)
 have g1:=hg 1 (by omega)
 have g2:=hg 2 (by omega)
 have g3:=hg 3 (by omega)
 simp only [zrc] at g0 g1 g2 g3
 obtain ⟨b0,s0,e0,e0'⟩:=UM g0
 obtain ⟨b1,s1,e1,e1'⟩:=UM g1
 obtain ⟨b2,s2,e2,e2'⟩:=UM g2
 obtain ⟨b3,s3,e3,e3'⟩:=UM g3
 simp at hs hp hi
 subst hs hp hi e0 e0' e1 e1' e2 e2' e3 e3'
 exact ⟨⟨s,p,i,⟨b0,s0⟩,⟨b1,s1⟩,⟨b2,s2⟩,⟨b3,s3⟩⟩,rfl⟩
theorem zqa {v:ae} (hs:eJ prog h (n+5) 44 [v]):∃ l,Sl aJ.atom h v l :=
 HR underlying44 zjc (λcs hc=>RG hc) hs
theorem zzs {v:ae} (hs:wY prog h (n+4) 34 v):∃ x:ak,v=x.val:=by
 unfold wY at hs
 rw [underlying34] at hs
 obtain ⟨cs,rfl,hc⟩:=hs
 obtain ⟨x,rfl⟩:=RG hc
 exact ⟨x,rfl⟩
theorem zt8 {ts us:List TypeId} (e:ts=us) (hs:Ay P h n ts args):Ay P h n us args:=by
 subst e
 exact hs
theorem Ub {t:TypeId} {ts:List TypeId} (hs:Ay P h n (t::ts) args):∃ v vs,args=v::vs/\wY P h n t v/\Ay P h n ts vs:=by
 cases args with
 |nil=>exact absurd hs id
 |cons v vs=>exact ⟨v,vs,rfl,hs.1,hs.2⟩
theorem zq3 (hs:Ay P h n [] args):args=[]:=by
 cases args with
 |nil=>rfl
 |cons v vs=>exact absurd hs id
end Go.Proofs.YtkgojconmeeegaaGreatDoor
namespace Go.Am
variable {A:Nat} {h:Heap} {Z:Type} {a b:Int} {k:IntKind}
theorem Ow.slice {Z:Type} {r:aJ Z} {h0 h:Heap} {e A:Nat} {v:ae} {l:List Z} (f:Ow r h0 h e A v l):∃ a n c,v=.slice a n c:=by
 rcases f with ⟨_,_,rfl|⟨B,o,rfl,_⟩⟩|⟨row,rfl,_⟩
 .exact ⟨_,_,_,rfl⟩
 .exact ⟨_,_,_,rfl⟩
 .exact ⟨_,_,_,rfl⟩
theorem Ow.lt {r:aJ Z} {h0:Heap} {e:Nat} {v:ae} {l:List Z} (f:Ow r h0 h e A v l):A < h.size\/l=[]:=by
 rcases f with ⟨_,h2,_⟩|⟨row,_,_,_,h4,_⟩
 .exact .inr h2
 .exact .inl h4
theorem Ow.any {r:aJ Z} {h0:Heap} {e:Nat} {v:ae} (f:Ow r h0 h e A v []) (B:Nat) (hB:h0.size<=B):Ow r h0 h e B v []:=by
 rcases f with ⟨_,h2,h3⟩|⟨row,_,h2,_⟩
 .exact .inl ⟨hB,h2,h3⟩
 .exact absurd rfl h2
theorem UT (hA:h.size<=A):kill A h=h:=az (by omega)
section
variable {P:Program} {T:bL} {ov:Ov}
theorem tS {b:Nat} {ops:Array Oper} {l:List Oper} {j:Nat} {d:Option Tmp} {Q:Env->Heap->Prop} {e:Env} {hh:Heap} {bs:List bh} {w s:Nat} {v:ae} (hb:b<=hh.size) (hs:hh.size<=s)
 (hk:cw P T ov b ops l (j+1) (put e d v) (hh.lay bs s) Q):C8 P T ov b ops l j d Q e (hh.lay [] w) v (hh.lay bs s):=by
 refine ⟨⟨⟨.inl ?_,?_,?_⟩,hk⟩⟩
 .rw [bf];show hh.size+0<=s;omega
 .show b<=s;omega
 .rw [bf,bf];simp
end
theorem Hu (a:ak) (z0 z1 z2 z3 z4 z5 z6 z7 z8 z9 z10:ae):sU (λi=>some (i*11,11)) [z0,z1,z2,z3,z4,z5,z6,z7,z8,z9,z10] [(0,a.val)]=some a.cells:=rfl
section
variable {h1:Heap} {bs:List bh} {w:Nat} {T:bL} {K:aG} {t e s:TypeId} {v p:ae} {kd:IntKind} {i:Int}
theorem mM {l:aW} {x:ak} (f:Sl aJ.atom h1 v l) (hd:T.desc t=some (.slice e)) (hs:cN T e=some 11) (h0:0<=i) (hx:l[i.toNat]? = some x) (hk:∀ p,ei h1 p (x.cells)->K p (h1.lay bs w)):aD (jF T t v (.int kd i)) (h1.lay bs w) K :=
 ixa f hd hs h0 (by have:=(dz.1 hx).1;omega) λx' p kW hp=>by
  obtain rfl:x=x':=Option.some.inj (hx.symm.trans kW)
  exact hk p hp
theorem Sx {l:List aH} {x:aH} (f:Sl aJ.term h1 v l) (hd:T.desc t=some (.slice e)) (hs:cN T e=some 2) (h0:0<=i) (hx:l[i.toNat]? = some x) (hk:∀ p,ei h1 p (x.cells)->K p (h1.lay bs w)):aD (jF T t v (.int kd i)) (h1.lay bs w) K :=
 ixt f hd hs h0 (by have:=(dz.1 hx).1;omega) λx' p kW hp=>by
  obtain rfl:x=x':=Option.some.inj (hx.symm.trans kW)
  exact hk p hp
theorem sS {l:List aN} {x:aN} (f:Sl aJ.bind h1 v l) (hd:T.desc t=some (.slice e)) (hs:cN T e=some 3) (h0:0<=i) (hx:l[i.toNat]? = some x) (hk:∀ p,ei h1 p (x.cells)->K p (h1.lay bs w)):aD (jF T t v (.int kd i)) (h1.lay bs w) K :=
 ixb f hd hs h0 (by have:=(dz.1 hx).1;omega) λx' p kW hp=>by
  obtain rfl:x=x':=Option.some.inj (hx.symm.trans kW)
  exact hk p hp
theorem oT {l:List aB} {x:aB} (f:Sl aJ.str h1 v l) (hd:T.desc t=some (.slice e)) (hs:cN T e=some 1) (h0:0<=i) (hx:l[i.toNat]? = some x) (hk:∀ p,ei h1 p ([.string x])->K p (h1.lay bs w)):aD (jF T t v (.int kd i)) (h1.lay bs w) K :=
 ixs f hd hs h0 (by have:=(dz.1 hx).1;omega) λx' p kW hp=>by
  obtain rfl:x=x':=Option.some.inj (hx.symm.trans kW)
  exact hk p hp
theorem Sw {l:List cz} {x:cz} (f:Sl aJ.clause h1 v l) (hd:T.desc t=some (.slice e)) (hs:cN T e=some 12) (h0:0<=i) (hx:l[i.toNat]? = some x) (hk:∀ p b,Sl aJ.atom h1 b x.body->ei h1 p (x.head.cells++[b])->K p (h1.lay bs w)):aD (jF T t v (.int kd i)) (h1.lay bs w) K :=
 ixc f hd hs h0 (by have:=(dz.1 hx).1;omega) λx' p b kW hb hp=>by
  obtain rfl:x=x':=Option.some.inj (hx.symm.trans kW)
  exact hk p b hb hp
theorem eb {l:List Z} {i:Nat} (h:(i:Int) < l.length):∃ x,l[(i:Int).toNat]? = some x/\l[i]? = some x:=⟨l[i]'(by omega),by simp,by simp⟩
end
section
variable {P:Program} {T:bL}
theorem zmr {op:BinOp} {t:TypeId} {v:ae} (hf:sL op (.int k a) (.int k b)=none) (hp:gT P (binOp op t (.int k a) (.int k b))=some v) (hv:plain v=true):bY P T op t (.int k a) (.int k b)=some v:=by
 have h1:((T.desc t).bind λd=>EU d (.int k a) (.int k b))=none:=by
  cases T.desc t with
  |none=>rfl
  |some d=>cases d <;> rfl
 unfold bY
 rw [hf]
 simp only [h1]
 rw [aE (show (plain (Value.int k a) && plain (Value.int k b))=true from rfl)]
 rw [hp,dX,aE hv]
theorem zB6 {t:TypeId} (hb:b≠0):bY P T .rem t (.int k a) (.int k b)=some (.int k (a.tmod b)):=by
 refine zmr rfl ?_ rfl
 simp [binOp,Op.intDiv,hb,AE]
theorem zwC {t:TypeId} (hb:b≠0):bY P T .quo t (.int k a) (.int k b)=some (.int k (k.wrap (a.tdiv b))):=by
 refine zmr rfl ?_ rfl
 simp [binOp,Op.intDiv,hb,AE]
end
end Go.Am
namespace Go.Am
variable {Z:Type}
def jz (p:Z->Bool) (l:List Z):Int:=match l.findIdx? p with
 |some i=>i
 |none => -1
theorem Hw {p:Z->Bool} {l:List Z} {i:Nat} {x:Z} (hx:l[i]? = some x) (aC:∀ y∈l.take i,p y=false) (hp:p x=true):jz p l=i:=by
 have:l.findIdx? p=some i:=by
  induction l generalizing i with
  |nil=>simp at hx
  |cons a l ih =>
   rw [List.findIdx?_cons]
   cases i with
   |zero =>
    simp at hx
    subst hx
    simp [hp]
   |succ i =>
    have ha:=aC a (by simp)
    rw [ha]
    have:=ih (i:=i) (by simpa using hx) (λy hy=>aC y (by simp [hy]))
    simp [this]
 unfold jz
 rw [this]
theorem HC {p:Z->Bool} {l:List Z} (aC:∀ y∈l,p y=false):jz p l = -1:=by
 have:l.findIdx? p=none:=by rw [List.findIdx?_eq_none_iff];exact aC
 unfold jz
 rw [this]
theorem RV (p:Z->Bool) (l:List Z):decide (jz p l >= 0)=l.any p:=by
 unfold jz
 cases h:l.findIdx? p with
 |none =>
  rw [List.findIdx?_eq_none_iff] at h
  have:l.any p=false:=by rw [EP];intro x hx;rw [h x hx];decide
  rw [this]
  decide
 |some i =>
  have h2:∃ x∈l,p x=true:=by
   have:=List.findIdx?_isSome (xs:=l) (p:=p)
   rw [h] at this
   simp at this
   exact this
  have:l.any p=true:=by rw [wq];exact h2
  rw [this]
  simp
theorem wU (a:ak):a.args.length=a.cU:=by
 unfold ak.args ak.cU
 rw [fj]
 simp only [de,dr]
 omega
theorem zC8 {H:Heap} {A o:Nat} {a:ak} {u:TypeId} {ro:Bool} (q:Holds H A (.row a.cells u ro)) (ho:o=3):Sl aJ.term H (.slice (some ⟨A,o,none⟩) a.cU 4) a.args:=by
 subst ho
 have hc:a.cU<=4:=by unfold ak.cU;omega
 refine .inr ⟨A,3,4,a.cells,u,ro,by rw [wU],by rw [wU];unfold maxLen;omega,.inl ⟨by decide,by rw [wU];exact hc⟩,q.lt,q.get,λi x hx=>?_⟩
 have hi:i < a.cU:=by have:=(dz.1 hx).1;rw [wU] at this;exact this
 unfold ak.args at hx
 rw [HQ hi] at hx
 have:i=0\/i=1\/i=2\/i=3:=by omega
 rcases this with rfl|rfl|rfl|rfl <;> (simp at hx;subst hx;exact ⟨_,rfl,rfl⟩)
theorem dW (a:ak):cut a.cells 0 11=some a.cells:=rfl
theorem dO (a:ak):Value.agg a.cells.toArray=a.val:=rfl
theorem fA (a:ak):a.val.cells.toList=a.cells:=rfl
theorem da (a:ak) (h:Heap) (K:aG):aD (some a.val) h K=K a.val h:=rfl
theorem zq (a:aH) (h:Heap) (K:aG):aD (some a.val) h K=K a.val h:=rfl
theorem zDV [DecidableEq Z] (a:Z) (l:List Z):decide (jz (λx=>decide (a=x)) l >= 0)=decide (a∈l):=by
 rw [RV]
 by_cases h:a∈l
 .rw [sY h,wq]
  exact ⟨a,h,by simp⟩
 .rw [uW h,EP]
  intro x hx
  simp
  rintro rfl
  exact h hx
def ak.ground (a:ak):Bool := !a.args.any (·.v)
end Go.Am
namespace Go.Am
variable {a b i n:Nat} {kd TK:IntKind} {hi lo:Option ae}
section
variable {Z:Type} {r:aJ Z} {h0 h h1:Heap} {v:ae} {l:List Z} {t e:TypeId} {T:bL} {bs:List bh} {w:Nat} {K:aG}
def ef (x:Option ae) (d n:Nat):Prop:=(x=none/\n=d)\/∃ kd,x=some (.int kd n)
theorem ef.no (n:Nat):ef none n n:=.inl ⟨rfl,rfl⟩
theorem ef.num (kd:IntKind) (d n:Nat):ef (some (.int kd n)) d n:=.inr ⟨kd,rfl⟩
theorem Hy {hi:Nat} (hn:n<=hi):zF (.int kd n) hi=some n:=by
 have:(0:Int)<=n/\(n:Int)<=hi:=by omega
 simp only [zF,this,and_self,if_true,R3]
theorem Rf {c:Nat} (cM:ef lo 0 a) (j5:ef hi n b) (xY:a<=b) (Yg:b<=c):qI n c lo hi none=some (a,b,c):=by
 unfold qI
 rcases cM with ⟨rfl,rfl⟩|⟨kd,rfl⟩ <;> rcases j5 with ⟨rfl,rfl⟩|⟨TK,rfl⟩ <;> simp [Hy,xY,Yg]
theorem zfu {c:Nat} (hi:i<=c):qI n c none (some (.int kd i)) (some (.int TK i))=some (0,i,i):=by
 unfold qI
 simp [Hy,hi]
theorem zBH:0 < G:=by unfold G;omega
theorem CK {k q:Nat} (hk:0 < k) (hq:q < G):G<=G*k+q/\(G*k+q) / G=k/\(G*k+q) % G=q:=by
 obtain ⟨c1,c2,c3⟩:=CN (k:=k) (q:=q) hk hq
 exact ⟨by omega,c3,c2⟩
theorem Sl.sub (f:Sl r h v l) (hk:0 < r.k) (hd:T.desc t=some (.slice e)) (hs:cN T e=some r.k) (cM:ef lo 0 a) (j5:ef hi l.length b) (xY:a<=b) (hb:b<=l.length) :
 ∃ v',jY T t v lo hi none=some v'/\Sl r h v' ((l.take b).drop a):=by
 have hlen:((l.take b).drop a).length=b - a:=by simp;omega
 have uA:∀ (i:Nat) (x:Z),((l.take b).drop a)[i]? = some x->l[a+i]? = some x/\i < b - a:=by
  intro i x hx
  have:=(dz.1 hx).1
  rw [hlen] at this
  rw [lA,HQ (by omega)] at hx
  exact ⟨hx,this⟩
 rcases f with ⟨rfl,rfl⟩|⟨A,o,c,row,u,ro,rfl,e2,e3,e4,e5,e6⟩
 .have DA:b=0:=by simpa using hb
  subst DA
  have M3:a=0:=by omega
  subst M3
  refine ⟨.slice none 0 0,?_,by simpa using Sl.nil⟩
  unfold jY
  simp only [hd,hs,dX,aE zBH]
  have:=Rf (n:=0) (c:=0) cM (by simpa using j5) (bo 0) (bo 0)
  rw [this]
  rfl
 .rcases e3 with ⟨c1,c2⟩|⟨c1,c2,c3⟩
  .refine ⟨.slice (some ⟨A,if c=a then o else o+a*r.k,none⟩) (b - a) (c - a),?_,?_⟩
   .unfold jY
    simp only [hd,hs,dX,aE c1]
    rw [Rf cM j5 xY (by omega)]
    rfl
   .refine .inr ⟨A,_,c - a,row,u,ro,by rw [hlen],by rw [hlen];omega,.inl ⟨by omega,by rw [hlen];omega⟩,e4,e5,λi x hx=>?_⟩
    obtain ⟨hx,hi⟩:=uA i x hx
    obtain ⟨cs,g1,g2⟩:=e6 _ _ hx
    refine ⟨cs,?_,g2⟩
    rw [az (by omega),oW,<- sZ]
    exact g1
  .refine ⟨.slice (some ⟨A,o+a*r.k,none⟩) (b - a) (G*r.k+(c % G - a)),?_,?_⟩
   .unfold jY
    simp only [hd,hs,dX,az (show ¬ c < G by omega),aE c2]
    rw [Rf cM j5 xY (by omega)]
    rfl
   .have hm:=Nat.mod_lt c zBH
    obtain ⟨d1,d2,d3⟩:=CK (k:=r.k) (q:=c % G - a) hk (by omega)
    refine .inr ⟨A,_,_,row,u,ro,by rw [hlen],by rw [hlen];omega,.inr ⟨d1,d2,by rw [hlen,d3];omega⟩,e4,e5,λi x hx=>?_⟩
    obtain ⟨hx,hi⟩:=uA i x hx
    obtain ⟨cs,g1,g2⟩:=e6 _ _ hx
    refine ⟨cs,?_,g2⟩
    rw [oW,<- sZ]
    exact g1
theorem Sl.full (f:Sl r h v l) (hd:T.desc t=some (.slice e)) (hs:cN T e=some r.k) (hi:i<=l.length) :
 ∃ base,jY T t v none (some (.int kd i)) (some (.int TK i))=some (.slice base i i)/\Sl r h (.slice base i i) (l.take i):=by
 have hlen:(l.take i).length=i:=by simp;omega
 rcases f with ⟨rfl,rfl⟩|⟨A,o,c,row,u,ro,rfl,e2,e3,e4,e5,e6⟩
 .have DA:i=0:=by simpa using hi
  subst DA
  refine ⟨none,?_,by simpa using Sl.nil⟩
  unfold jY
  simp only [hd,hs,dX,aE zBH]
  rw [zfu (bo 0)]
  rfl
 .have hG:maxLen < G:=by decide
  have uA:Sl r h (.slice (some ⟨A,o,none⟩) i i) (l.take i):=by
   refine .inr ⟨A,o,i,row,u,ro,by rw [hlen],by rw [hlen];omega,.inl ⟨by omega,by rw [hlen];omega⟩,e4,e5,λj x hx=>?_⟩
   have hj:=(dz.1 hx).1
   rw [hlen] at hj
   rw [HQ hj] at hx
   exact e6 _ _ hx
  refine ⟨some ⟨A,o,none⟩,?_,uA⟩
  rcases e3 with ⟨c1,c2⟩|⟨c1,c2,c3⟩
  .unfold jY
   simp only [hd,hs,dX,aE c1]
   rw [zfu (by omega)]
   simp
  .unfold jY
   simp only [hd,hs,dX,az (show ¬ c < G by omega),aE c2]
   rw [zfu (by omega)]
   simp
theorem ztJ (f:Sl r h1 v l) (hk:0 < r.k) (hd:T.desc t=some (.slice e)) (hs:cN T e=some r.k) (cM:ef lo 0 a) (j5:ef hi l.length b) (xY:a<=b) (hb:b<=l.length)
 (hK:∀ v',Sl r h1 v' ((l.take b).drop a)->K v' (h1.lay bs w)):aD (jY T t v lo hi none) (h1.lay bs w) K:=by
 obtain ⟨v',g1,g2⟩:=f.sub hk hd hs cM j5 xY hb
 rw [g1]
 exact hK v' g2
theorem zDj (f:Sl r h1 v l) (hk:0 < r.k) (hd:T.desc t=some (.slice e)) (hs:cN T e=some r.k) (hb:b<=l.length)
 (hK:∀ v',Sl r h1 v' (l.take b)->K v' (h1.lay bs w)):aD (jY T t v none (some (.int kd b)) none) (h1.lay bs w) K :=
 ztJ f hk hd hs (ef.no 0) (ef.num kd _ b) (sg _) hb (λv' h=>hK v' (by simpa using h))
theorem zo7 (f:Sl r h1 v l) (hk:0 < r.k) (hd:T.desc t=some (.slice e)) (hs:cN T e=some r.k) (ha:a<=l.length)
 (hK:∀ v',Sl r h1 v' (l.drop a)->K v' (h1.lay bs w)):aD (jY T t v (some (.int kd a)) none none) (h1.lay bs w) K :=
 ztJ f hk hd hs (ef.num kd _ a) (ef.no _) ha (bo _) (λv' h=>hK v' (by rw [AQ] at h;exact h))
theorem zxm (f:Sl r h1 v l) (hd:T.desc t=some (.slice e)) (hs:cN T e=some r.k) (hi:i<=l.length)
 (hK:∀ base,Sl r h1 (.slice base i i) (l.take i)->K (.slice base i i) (h1.lay bs w)):aD (jY T t v none (some (.int kd i)) (some (.int TK i))) (h1.lay bs w) K:=by
 obtain ⟨b,g1,g2⟩:=f.full hd hs hi
 rw [g1]
 exact hK b g2
theorem zsT {k bytes:Nat} {z:List ae} {base:Option Addr} {x:ae} {l2:List Z} (hd:T.desc t=some (.slice e)) (hi:T.info e=some (k,bytes,z)) (DZ:r.k=k) (hk:0 < k) (hz:h0.size<=h.size)
 (f:Sl r h (.slice base l.length l.length) l) {m:Nat} {news:List ae} (hs:fT x k h=some (m,news)) (lQ:Src r h m news l2) (Ad:0 < m)
 (hb:(l.length+m)*bytes<=140737488355328) (hl:l.length+m<=1152921504606846976) :
 ∃ v' h',iP T t (.slice base l.length l.length) x h=some (v',h')/\Ow r h0 h' e h.size v' (l++l2)/\Ext h h':=by
 subst DZ
 obtain ⟨hm,GC,h1,yK⟩:=lQ
 obtain ⟨rI,s1,so1,OZ,so3,TP⟩:=rX (A:=h.size) hk f (λcs y hr=>by rw [UT (bo _)];exact hr)
 rw [UT (bo _)] at TP
 have nq:nQ (.slice base l.length l.length) r.k h=some rI:=by
  simp only [fT,cC,df] at s1
  obtain ⟨a,ha,_,rfl⟩:=s1
  exact ha
 have hlG:l.length < G:=by unfold G;omega
 have yC:l.length % G=l.length:=EO hlG
 refine ⟨.slice (some ⟨h.size,0,none⟩) (l.length+m) (G*r.k+(l.length+m)),h.push (.row (rI++news) e false),?_,?_,?_⟩
 .unfold iP
  simp only [hd,hi,hs,dX]
  rw [az (by omega),az,az (by rw [yC];omega)]
  .simp only [nq,dX]
   rw [aE hlG]
  .simp only [qt,gY,C9,h1,not_or]
   exact ⟨⟨⟨by omega,by omega⟩,by omega⟩,by simp⟩
 .have wI:b8 h ((h.push (.row (rI++news) e false)).set h.size .dead):=⟨by rw [Heap.size_set,Heap.size_push];omega,λB hB _=>by
   rw [Heap.aR _ _ _ _ (by rw [Heap.size_push];omega),az (by omega),Heap.bx,az (by omega)]⟩
  refine .inr ⟨rI++news,by rw [cW,hm],λhh=>?_,hz,by rw [Heap.size_push];omega,by rw [Heap.bx,aE rfl],by rw [cW,cW,OZ,GC,hm,sZ],by rw [cW,hm];exact hl,λi y hy=>?_⟩
  .have:=congrArg List.length hh
   rw [cW,hm] at this
   simp at this
   omega
  .by_cases hi:i < l.length
   .rw [mX hi] at hy
    obtain ⟨cs,g1,g2⟩:=TP i y hy
    exact ⟨cs,zrj g1,r.mono _ _ _ _ wI g2⟩
   .rw [px (by omega)] at hy
    obtain ⟨cs,g1,g2⟩:=yK _ y hy
    refine ⟨cs,?_,r.mono _ _ _ _ wI g2⟩
    have:=zmE (a:=rI) g1
    rwa [OZ,<- sZ,show l.length+(i - l.length)=i by omega] at this
 .refine ⟨by rw [Heap.size_push];omega,λA hA=>by rw [Heap.bx,az (by omega)],by rw [Heap.dv];omega⟩
end
end Go.Am
namespace Go.Am
variable {l:List aN} {x y:aN} {i:Nat} {s:aB}
def slt (a b:aB):Bool:=Op.bytesLess a.data.toList b.data.toList
theorem SA:∀ (x y:List UInt8),Op.bytesLess x y=decide (x < y)
 | [],[]=>by simp [Op.bytesLess]
 |_::_,[]=>by simp [Op.bytesLess]
 | [],_::_=>by simp [Op.bytesLess]
 |a::x,b::y=>by
  rw [Op.bytesLess,SA x y]
  simp only [List.cons_lt_cons_iff]
  by_cases h1:a < b <;> by_cases h2:a=b <;> by_cases h3:x < y <;> simp [h1,h2,h3]
theorem zhY (a:aB):slt a a=false:=by
 unfold slt
 rw [SA]
 simp [List.lt_irrefl]
theorem Uz {a b c:aB} (h1:slt a b=true) (h2:slt b c=true):slt a c=true:=by
 unfold slt at *
 rw [SA] at *
 simp only [gY] at *
 exact List.lt_trans h1 h2
theorem zqe {a b:aB} (h1:slt a b=false) (h2:slt b a=false):a=b:=by
 unfold slt at *
 rw [SA] at *
 simp only [decide_eq_false_iff_not,List.not_lt] at *
 exact AF (List.le_antisymm h2 h1)
def sO (l:List aN) (m:Nat):Prop:=∀ k x y,k+1 < m->l[k]? = some x->l[k+1]? = some y->slt x.var y.var=true
theorem zhV {m:Nat} (h:m<=1):sO l m:=by
 intro k x y hk
 omega
theorem zj5 (h:sO l i) (h0:0 < i) (hx:l[i - 1]? = some x) (hy:l[i]? = some y) (hs:slt x.var y.var=true):sO l (i+1):=by
 intro k a b hk ha hb
 by_cases qB:k+1 < i
 .exact h k a b qB ha hb
 .have qB:k=i - 1:=by omega
  subst qB
  have e:i - 1+1=i:=by omega
  rw [e] at hb
  obtain rfl:x=a:=Option.some.inj (hx.symm.trans ha)
  obtain rfl:y=b:=Option.some.inj (hy.symm.trans hb)
  exact hs
theorem zvB (h0:0 < i) (hx:l[i - 1]? = some x) (hy:l[i]? = some y) (hs:¬ slt x.var y.var=true):¬ sO l l.length:=by
 intro hR
 refine hs (hR (i - 1) x y ?_ hx ?_)
 .have:=(dz.1 hy).1
  omega
 .rw [show i - 1+1=i by omega]
  exact hy
theorem zj4 (h:sO l l.length) {j:Nat} (dF:i < j) (hx:l[i]? = some x) (hy:l[j]? = some y):slt x.var y.var=true:=by
 induction j generalizing y with
 |zero=>omega
 |succ j ih =>
  have hj:=(dz.1 hy).1
  have hz:l[j]? = some l[j]:=gI (by omega)
  have h1:=h j l[j] y hj hz hy
  by_cases he:i=j
  .subst he
   rw [hz] at hx
   cases hx
   exact h1
  .exact Uz (ih (by omega) hz) h1
def jC (l:List aN) (s:aB):aH × Bool:=match l.find? (λx=>decide (x.var=s)) with
 |some x=>(x.term,true)
 |none=>(cu,false)
theorem zCw {Z:Type} {p:Z->Bool} {l:List Z} {x:Z} (hx:l[i]? = some x) (aC:∀ y∈l.take i,p y=false) (hp:p x=true):l.find? p=some x:=by
 induction l generalizing i with
 |nil=>simp at hx
 |cons a l ih =>
  rw [List.find?_cons]
  cases i with
  |zero =>
   simp at hx
   subst hx
   simp [hp]
  |succ i =>
   have ha:=aC a (by simp)
   rw [ha]
   exact ih (i:=i) (by simpa using hx) (λy hy=>aC y (by simp [hy]))
theorem zqm (hx:l[i]? = some x) (aC:∀ y∈l.take i,y.var≠s) (hp:x.var=s):jC l s=(x.term,true):=by
 unfold jC
 rw [zCw hx (λy hy=>by simpa using aC y hy) (by simpa using hp)]
theorem zqn (aC:∀ y∈l,y.var≠s):jC l s=(cu,false):=by
 unfold jC
 rw [List.find?_eq_none.2 (λx hx=>by simpa using aC x hx)]
theorem zvH (h:sO l l.length) (hi:i<=l.length) (cM:0 < i->(match l[i - 1]? with|some x => !slt x.var s|none=>false)=false):∀ y∈l.take i,y.var≠s:=by
 intro y hy
 obtain ⟨k,hk,rfl⟩:=JR hy
 rw [fj] at hk
 rw [List.getElem_take]
 have h0:=cM (by omega)
 have hx:l[i - 1]? = some (l[i - 1]'(by omega)):=gI (by omega)
 rw [hx] at h0
 simp only [Bool.not_eq_eq_eq_not,Bool.not_false] at h0
 have aP:slt (l[k]'(by omega)).var s=true:=by
  by_cases he:k=i - 1
  .subst he
   exact h0
  .exact Uz (zj4 h (show k < i - 1 by omega) (gI (by omega)) hx) h0
 intro he
 rw [he,zhY] at aP
 cases aP
def s7 (l:List aN):Prop:=sO l l.length/\∀ b∈l,b.term.s≠⟨#[]⟩/\¬ (b.term.v=true/\(jC l b.term.s).2=true)
def mP (l:List aN) (t:aH):aH:=if (jC l t.s).2=true/\t.v=true then (jC l t.s).1 else t
def qN (l m:List aN):List aN:=l.map λb=>⟨b.var,mP m b.term⟩
def rJ (b:aN):Bool:=b.term.v && decide (b.term.s=b.var)
def uV (l:List aN) (b:aN):List aN:=l.takeWhile (λx => !slt b.var x.var)++b::l.dropWhile (λx => !slt b.var x.var)
theorem zfX {Z:Type} {p:Z->Bool} {l:List Z} (hi:i<=l.length) (aC:∀ y∈l.take i,p y=true) (hn:∀ x,l[i]? = some x->p x=false):l.takeWhile p=l.take i/\l.dropWhile p=l.drop i:=by
 induction l generalizing i with
 |nil=>simp
 |cons a l ih =>
  cases i with
  |zero =>
   have:=hn a (by simp)
   simp [this]
  |succ i =>
   have ha:=aC a (by simp)
   have:=ih (i:=i) (by simpa using hi) (λy hy=>aC y (by simp [hy])) (λx hx=>hn x (by simpa using hx))
   simp [ha,this]
theorem zBh {b:aN} (h:sO l l.length) (hi:i<=l.length) (cM:0 < i->(match l[i - 1]? with|some x=>slt b.var x.var|none=>false)=false) (j5:i < l.length->(match l[i]? with|some x=>slt b.var x.var|none=>false)=true) :
 uV l b=l.take i++b::l.drop i:=by
 unfold uV
 obtain ⟨e1,e2⟩:=zfX (p:=λx:aN => !slt b.var x.var) hi (λy hy=>by
  obtain ⟨k,hk,rfl⟩:=JR hy
  rw [fj] at hk
  rw [List.getElem_take]
  have h0:=cM (by omega)
  have hx:l[i - 1]? = some (l[i - 1]'(by omega)):=gI (by omega)
  rw [hx] at h0
  simp only at h0
  by_cases he:k=i - 1
  .subst he
   simpa using h0
  .have h2:=zj4 h (show k < i - 1 by omega) (gI (by omega)) hx
   cases h3:slt b.var (l[k]'(by omega)).var
   .rfl
   .rw [Uz h3 h2] at h0
    cases h0) (λx hx=>by
  have h0:=j5 (dz.1 hx).1
  rw [hx] at h0
  simpa using h0)
 rw [e1,e2]
theorem zvA {f:aN->aH} (h:sO l l.length):sO (l.map λb=>⟨b.var,f b⟩) (l.map λb=>(⟨b.var,f b⟩:aN)).length:=by
 intro k x y hk hx hy
 rw [fV] at hk
 rw [lB] at hx hy
 simp only [cC] at hx hy
 obtain ⟨x',kW,rfl⟩:=hx
 obtain ⟨y',hy',rfl⟩:=hy
 exact h k x' y' hk kW hy'
open Classical in
def ua (l:List aN) (v:aB) (t:aH):Option (List aN) :=
 if ¬ s7 l then none
 else if v=⟨#[]⟩\/t.s=⟨#[]⟩ then none
 else if (jC l v).2=true then none
 else if rJ ⟨v,mP l t⟩=true then none
 else some (uV (qN l [⟨v,mP l t⟩]) ⟨v,mP l t⟩)
def rU (a b:ak):Bool:=decide (a.says=b.says) && (decide (a.pred=b.pred) && (decide (a.n=b.n) && (decide (0<=a.n) && decide (a.n<=4))))
def ql (out:List aN) (x y:aH):Option (List aN) :=
 if x.v=false then (if x=y then some out else none)
 else if (jC out x.s).2=true then (if (jC out x.s).1=y then some out else none)
 else ua out x.s y
def vW (p g:ak):Nat->List aN->Option (List aN)
 |0,out=>some out
 |n+1,out=>(vW p g n out).bind λo=>ql o (p.arg n) (g.arg n)
def lH (l:List aN) (x:aH):Bool:=x.v && (decide (x.s=⟨#[]⟩) || ((jC l x.s).2 && (jC l x.s).1.v))
open Classical in
def ec (l:List aN) (p g:ak):Option (List aN) :=
 if ¬ s7 l\/rU p g=false\/g.ground=false then none
 else if ∃ i:Nat,i < 4/\(i:Int) < p.n/\lH l (p.arg i)=true then none
 else vW p g p.n.toNat l
end Go.Am
