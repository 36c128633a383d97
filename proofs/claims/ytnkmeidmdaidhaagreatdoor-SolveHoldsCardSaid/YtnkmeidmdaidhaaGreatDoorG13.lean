/- Steps on ints: quotient, remainder, shift. No condition. -/
import Derived.Test.YtnkmeidmdaidhaaGreatDoorG9
set_option linter.unusedSimpArgs false
set_option linter.unusedVariables false
noncomputable section
namespace Go.Am
variable {A:Nat} {h:Heap} {Z:Type}
theorem Ow.slice {Z:Type} {r:aG Z} {h0 h:Heap} {e A:Nat} {v:ai} {l:List Z} (f:Ow r h0 h e A v l):∃ a n c,v=.slice a n c:=by
 rcases f with ⟨_,_,rfl|⟨B,o,rfl,_⟩⟩|⟨row,rfl,_⟩
 .exact ⟨_,_,_,rfl⟩
 .exact ⟨_,_,_,rfl⟩
 .exact ⟨_,_,_,rfl⟩
theorem Ow.lt {r:aG Z} {h0:Heap} {e:Nat} {v:ai} {l:List Z} (f:Ow r h0 h e A v l):A < h.size\/l=[]:=by
 rcases f with ⟨_,h2,_⟩|⟨row,_,_,_,h4,_⟩
 .exact .inr h2
 .exact .inl h4
theorem Ow.any {r:aG Z} {h0:Heap} {e:Nat} {v:ai} (f:Ow r h0 h e A v []) (B:Nat) (hB:h0.size<=B):Ow r h0 h e B v []:=by
 rcases f with ⟨_,h2,h3⟩|⟨row,_,h2,_⟩
 .exact .inl ⟨hB,h2,h3⟩
 .exact absurd rfl h2
theorem LW (hA:h.size<=A):kill A h=h:=aA (by omega)
theorem Ow.under {r:aG Z} {hc:Heap} {e C:Nat} {v:ai} {l:List Z} (hk:0 < r.k) (dP:∀ h h' cs x,r.R h cs x->r.R h' cs x) (f:Ow r hc h e A v l) (hC:C < hc.size\/h.size<=C):Sl r (Am.kill C h) v l:=by
 rcases hC with hC|hC
 .exact (f.kill dP hC).sl hk
 .rw [LW hC];exact f.sl hk
section
variable {P:Program} {T:bN} {ov:Ov}
theorem nL {b:Nat} {ops:Array Oper} {l:List Oper} {j:Nat} {d:Option Tmp} {Q:Env->Heap->Prop} {e:Env} {hh:Heap} {bs:List aZ} {w s:Nat} {v:ai} (hb:b<=hh.size) (hs:hh.size<=s)
 (hk:bT P T ov b ops l (j+1) (put e d v) (hh.lay bs s) Q):yh P T ov b ops l j d Q e (hh.lay [] w) v (hh.lay bs s):=by
 refine ⟨⟨⟨.inl ?_,?_,?_⟩,hk⟩⟩
 .rw [br];show hh.size+0<=s;omega
 .show b<=s;omega
 .rw [br,br];simp
end
section
variable {h1:Heap} {bs:List aZ} {w:Nat} {T:bN} {K:aO} {t e s:TypeId} {v p:ai} {kd:IntKind} {i:Int}
theorem tH {l:aN} {x:ae} (f:Sl aG.atom h1 v l) (hd:T.desc t=some (.slice e)) (hs:dF T e=some 11) (h0:0<=i) (hx:l[i.toNat]? = some x) (hk:∀ p,gJ h1 p (x.cells)->K p (h1.lay bs w)):aM (kF T t v (.int kd i)) (h1.lay bs w) K :=
 ZT f hd hs h0 (by have:=(fR.1 hx).1;omega) λx' p nF hp=>by
  obtain rfl:x=x':=Option.some.inj (hx.symm.trans nF)
  exact hk p hp
theorem Pj {l:List ay} {x:ay} (f:Sl aG.term h1 v l) (hd:T.desc t=some (.slice e)) (hs:dF T e=some 2) (h0:0<=i) (hx:l[i.toNat]? = some x) (hk:∀ p,gJ h1 p (x.cells)->K p (h1.lay bs w)):aM (kF T t v (.int kd i)) (h1.lay bs w) K :=
 ixt f hd hs h0 (by have:=(fR.1 hx).1;omega) λx' p nF hp=>by
  obtain rfl:x=x':=Option.some.inj (hx.symm.trans nF)
  exact hk p hp
theorem ya {l:List av} {x:av} (f:Sl aG.bind h1 v l) (hd:T.desc t=some (.slice e)) (hs:dF T e=some 3) (h0:0<=i) (hx:l[i.toNat]? = some x) (hk:∀ p,gJ h1 p (x.cells)->K p (h1.lay bs w)):aM (kF T t v (.int kd i)) (h1.lay bs w) K :=
 ixb f hd hs h0 (by have:=(fR.1 hx).1;omega) λx' p nF hp=>by
  obtain rfl:x=x':=Option.some.inj (hx.symm.trans nF)
  exact hk p hp
theorem Xn {l:List aV} {x:aV} (f:Sl aG.str h1 v l) (hd:T.desc t=some (.slice e)) (hs:dF T e=some 1) (h0:0<=i) (hx:l[i.toNat]? = some x) (hk:∀ p,gJ h1 p ([.string x])->K p (h1.lay bs w)):aM (kF T t v (.int kd i)) (h1.lay bs w) K :=
 ixs f hd hs h0 (by have:=(fR.1 hx).1;omega) λx' p nF hp=>by
  obtain rfl:x=x':=Option.some.inj (hx.symm.trans nF)
  exact hk p hp
theorem GX {l:List aq} {x:aq} (f:Sl aG.clause h1 v l) (hd:T.desc t=some (.slice e)) (hs:dF T e=some 12) (h0:0<=i) (hx:l[i.toNat]? = some x) (hk:∀ p b,Sl aG.atom h1 b x.body->gJ h1 p (x.head.cells++[b])->K p (h1.lay bs w)):aM (kF T t v (.int kd i)) (h1.lay bs w) K :=
 ixc f hd hs h0 (by have:=(fR.1 hx).1;omega) λx' p b nF hb hp=>by
  obtain rfl:x=x':=Option.some.inj (hx.symm.trans nF)
  exact hk p b hb hp
theorem i4 {l:List Z} {i:Nat} (h:(i:Int) < l.length):∃ x,l[(i:Int).toNat]? = some x/\l[i]? = some x:=⟨l[i]'(by omega),by simp,by simp⟩
end
section
variable {P:Program} {T:bN}
theorem zxx {op:BinOp} {t:TypeId} {k:IntKind} {a b:Int} {v:ai} (hf:qy op (.int k a) (.int k b)=none) (hp:gd P (binOp op t (.int k a) (.int k b))=some v) (hv:plain v=true):cE P T op t (.int k a) (.int k b)=some v:=by
 have h1:((T.desc t).bind λd=>Cn d (.int k a) (.int k b))=none:=by
  cases T.desc t with
  |none=>rfl
  |some d=>cases d <;> rfl
 unfold cE
 rw [hf]
 simp only [h1]
 rw [aB (show (plain (Value.int k a) && plain (Value.int k b))=true from rfl)]
 rw [hp,dH,aB hv]
theorem zzN {t:TypeId} {k:IntKind} {a b:Int} (hb:b≠0):cE P T .rem t (.int k a) (.int k b)=some (.int k (a.tmod b)):=by
 refine zxx rfl ?_ rfl
 simp [binOp,Op.intDiv,hb,B0]
end
end Go.Am
namespace Go.Am
variable {Z:Type}
def mY (p:Z->Bool) (l:List Z):Int:=match l.findIdx? p with
 |some i=>i
 |none => -1
theorem Wi {p:Z->Bool} {l:List Z} {i:Nat} {x:Z} (hx:l[i]? = some x) (aE:∀ y∈l.take i,p y=false) (hp:p x=true):mY p l=i:=by
 have:l.findIdx? p=some i:=by
  induction l generalizing i with
  |nil=>simp at hx
  |cons a l ih =>
   rw [List.findIdx?_cons]
   cases i with
   |zero =>
    simp at hx
    subst hx
    simp [hp]
   |succ i =>
    have ha:=aE a (by simp)
    rw [ha]
    have:=ih (i:=i) (by simpa using hx) (λy hy=>aE y (by simp [hy]))
    simp [this]
 unfold mY
 rw [this]
theorem WV {p:Z->Bool} {l:List Z} (aE:∀ y∈l,p y=false):mY p l = -1:=by
 have:l.findIdx? p=none:=by rw [List.findIdx?_eq_none_iff];exact aE
 unfold mY
 rw [this]
theorem Xg (p:Z->Bool) (l:List Z):decide (mY p l >= 0)=l.any p:=by
 unfold mY
 cases h:l.findIdx? p with
 |none =>
  rw [List.findIdx?_eq_none_iff] at h
  have:l.any p=false:=by rw [L5];intro x hx;rw [h x hx];decide
  rw [this]
  decide
 |some i =>
  have h2:∃ x∈l,p x=true:=by
   have:=List.findIdx?_isSome (xs:=l) (p:=p)
   rw [h] at this
   simp at this
   exact this
  have:l.any p=true:=by rw [Fc];exact h2
  rw [this]
  simp
theorem zL (a:ae):a.args.length=a.bt:=by
 unfold ae.args ae.bt
 rw [gR]
 simp only [eB,dK]
 omega
theorem zAH {H:Heap} {A o:Nat} {a:ae} {u:TypeId} {ro:Bool} (q:ak H A (.row a.cells u ro)) (ho:o=3):Sl aG.term H (.slice (some ⟨A,o,none⟩) a.bt 4) a.args:=by
 subst ho
 have hc:a.bt<=4:=by unfold ae.bt;omega
 refine .inr ⟨A,3,4,a.cells,u,ro,by rw [zL],by rw [zL];unfold maxLen;omega,.inl ⟨by decide,by rw [zL];exact hc⟩,q.lt,q.get,λi x hx=>?_⟩
 have hi:i < a.bt:=by have:=(fR.1 hx).1;rw [zL] at this;exact this
 unfold ae.args at hx
 rw [EW hi] at hx
 have:i=0\/i=1\/i=2\/i=3:=by omega
 rcases this with rfl|rfl|rfl|rfl <;> (simp at hx;subst hx;exact ⟨_,rfl,rfl⟩)
theorem fU (a:ae):cut a.cells 0 11=some a.cells:=rfl
theorem eG (a:ae):Value.agg a.cells.toArray=a.val:=rfl
theorem js (a:ae):a.val.cells.toList=a.cells:=rfl
theorem dS (a:ae) (h:Heap) (K:aO):aM (some a.val) h K=K a.val h:=rfl
theorem BM (a:ay) (h:Heap) (K:aO):aM (some a.val) h K=K a.val h:=rfl
def ae.ground (a:ae):Bool := !a.args.any (·.v)
end Go.Am
namespace Go.Am
variable {a b i n:Nat} {kd Nz:IntKind} {hi lo:Option ai}
section
variable {Z:Type} {r:aG Z} {h0 h h1:Heap} {v:ai} {l:List Z} {t e:TypeId} {T:bN} {bs:List aZ} {w:Nat} {K:aO}
def eZ (x:Option ai) (d n:Nat):Prop:=(x=none/\n=d)\/∃ kd,x=some (.int kd n)
theorem eZ.no (n:Nat):eZ none n n:=.inl ⟨rfl,rfl⟩
theorem eZ.num (kd:IntKind) (d n:Nat):eZ (some (.int kd n)) d n:=.inr ⟨kd,rfl⟩
theorem znV {hi:Nat} (hn:n<=hi):xf (.int kd n) hi=some n:=by
 have:(0:Int)<=n/\(n:Int)<=hi:=by omega
 simp only [xf,this,and_self,if_true,uG]
theorem K7 {c:Nat} (gx:eZ lo 0 a) (oC:eZ hi n b) (ve:a<=b) (Sp:b<=c):qz n c lo hi none=some (a,b,c):=by
 unfold qz
 rcases gx with ⟨rfl,rfl⟩|⟨kd,rfl⟩ <;> rcases oC with ⟨rfl,rfl⟩|⟨Nz,rfl⟩ <;> simp [znV,ve,Sp]
theorem Ve {c:Nat} (hi:i<=c):qz n c none (some (.int kd i)) (some (.int Nz i))=some (0,i,i):=by
 unfold qz
 simp [znV,hi]
theorem XB:0 < G:=by unfold G;omega
theorem GD {k q:Nat} (hk:0 < k) (hq:q < G):G<=G*k+q/\(G*k+q) / G=k/\(G*k+q) % G=q:=by
 obtain ⟨c1,c2,c3⟩:=BZ (k:=k) (q:=q) hk hq
 exact ⟨by omega,c3,c2⟩
theorem Sl.sub (f:Sl r h v l) (hk:0 < r.k) (hd:T.desc t=some (.slice e)) (hs:dF T e=some r.k) (gx:eZ lo 0 a) (oC:eZ hi l.length b) (ve:a<=b) (hb:b<=l.length) :
 ∃ v',lf T t v lo hi none=some v'/\Sl r h v' ((l.take b).drop a):=by
 have hlen:((l.take b).drop a).length=b - a:=by simp;omega
 have yN:∀ (i:Nat) (x:Z),((l.take b).drop a)[i]? = some x->l[a+i]? = some x/\i < b - a:=by
  intro i x hx
  have:=(fR.1 hx).1
  rw [hlen] at this
  rw [lJ,EW (by omega)] at hx
  exact ⟨hx,this⟩
 rcases f with ⟨rfl,rfl⟩|⟨A,o,c,row,u,ro,rfl,e2,e3,e4,e5,e6⟩
 .have xr:b=0:=by simpa using hb
  subst xr
  have sR:a=0:=by omega
  subst sR
  refine ⟨.slice none 0 0,?_,by simpa using Sl.nil⟩
  unfold lf
  simp only [hd,hs,dH,aB XB]
  have:=K7 (n:=0) (c:=0) gx (by simpa using oC) (aQ 0) (aQ 0)
  rw [this]
  rfl
 .rcases e3 with ⟨c1,c2⟩|⟨c1,c2,c3⟩
  .refine ⟨.slice (some ⟨A,if c=a then o else o+a*r.k,none⟩) (b - a) (c - a),?_,?_⟩
   .unfold lf
    simp only [hd,hs,dH,aB c1]
    rw [K7 gx oC ve (by omega)]
    rfl
   .refine .inr ⟨A,_,c - a,row,u,ro,by rw [hlen],by rw [hlen];omega,.inl ⟨by omega,by rw [hlen];omega⟩,e4,e5,λi x hx=>?_⟩
    obtain ⟨hx,hi⟩:=yN i x hx
    obtain ⟨cs,g1,g2⟩:=e6 _ _ hx
    refine ⟨cs,?_,g2⟩
    rw [aA (by omega),oU,<- qH]
    exact g1
  .refine ⟨.slice (some ⟨A,o+a*r.k,none⟩) (b - a) (G*r.k+(c % G - a)),?_,?_⟩
   .unfold lf
    simp only [hd,hs,dH,aA (show ¬ c < G by omega),aB c2]
    rw [K7 gx oC ve (by omega)]
    rfl
   .have hm:=Nat.mod_lt c XB
    obtain ⟨d1,d2,d3⟩:=GD (k:=r.k) (q:=c % G - a) hk (by omega)
    refine .inr ⟨A,_,_,row,u,ro,by rw [hlen],by rw [hlen];omega,.inr ⟨d1,d2,by rw [hlen,d3];omega⟩,e4,e5,λi x hx=>?_⟩
    obtain ⟨hx,hi⟩:=yN i x hx
    obtain ⟨cs,g1,g2⟩:=e6 _ _ hx
    refine ⟨cs,?_,g2⟩
    rw [oU,<- qH]
    exact g1
theorem Sl.full (f:Sl r h v l) (hd:T.desc t=some (.slice e)) (hs:dF T e=some r.k) (hi:i<=l.length) :
 ∃ base,lf T t v none (some (.int kd i)) (some (.int Nz i))=some (.slice base i i)/\Sl r h (.slice base i i) (l.take i):=by
 have hlen:(l.take i).length=i:=by simp;omega
 rcases f with ⟨rfl,rfl⟩|⟨A,o,c,row,u,ro,rfl,e2,e3,e4,e5,e6⟩
 .have xr:i=0:=by simpa using hi
  subst xr
  refine ⟨none,?_,by simpa using Sl.nil⟩
  unfold lf
  simp only [hd,hs,dH,aB XB]
  rw [Ve (aQ 0)]
  rfl
 .have hG:maxLen < G:=by decide
  have yN:Sl r h (.slice (some ⟨A,o,none⟩) i i) (l.take i):=by
   refine .inr ⟨A,o,i,row,u,ro,by rw [hlen],by rw [hlen];omega,.inl ⟨by omega,by rw [hlen];omega⟩,e4,e5,λj x hx=>?_⟩
   have hj:=(fR.1 hx).1
   rw [hlen] at hj
   rw [EW hj] at hx
   exact e6 _ _ hx
  refine ⟨some ⟨A,o,none⟩,?_,yN⟩
  rcases e3 with ⟨c1,c2⟩|⟨c1,c2,c3⟩
  .unfold lf
   simp only [hd,hs,dH,aB c1]
   rw [Ve (by omega)]
   simp
  .unfold lf
   simp only [hd,hs,dH,aA (show ¬ c < G by omega),aB c2]
   rw [Ve (by omega)]
   simp
theorem zyI (f:Sl r h1 v l) (hk:0 < r.k) (hd:T.desc t=some (.slice e)) (hs:dF T e=some r.k) (gx:eZ lo 0 a) (oC:eZ hi l.length b) (ve:a<=b) (hb:b<=l.length)
 (hK:∀ v',Sl r h1 v' ((l.take b).drop a)->K v' (h1.lay bs w)):aM (lf T t v lo hi none) (h1.lay bs w) K:=by
 obtain ⟨v',g1,g2⟩:=f.sub hk hd hs gx oC ve hb
 rw [g1]
 exact hK v' g2
theorem On (f:Sl r h1 v l) (hk:0 < r.k) (hd:T.desc t=some (.slice e)) (hs:dF T e=some r.k) (ha:a<=l.length)
 (hK:∀ v',Sl r h1 v' (l.drop a)->K v' (h1.lay bs w)):aM (lf T t v (some (.int kd a)) none none) (h1.lay bs w) K :=
 zyI f hk hd hs (eZ.num kd _ a) (eZ.no _) ha (aQ _) (λv' h=>hK v' (by rw [Mf] at h;exact h))
theorem zov (f:Sl r h1 v l) (hd:T.desc t=some (.slice e)) (hs:dF T e=some r.k) (hi:i<=l.length)
 (hK:∀ base,Sl r h1 (.slice base i i) (l.take i)->K (.slice base i i) (h1.lay bs w)):aM (lf T t v none (some (.int kd i)) (some (.int Nz i))) (h1.lay bs w) K:=by
 obtain ⟨b,g1,g2⟩:=f.full hd hs hi
 rw [g1]
 exact hK b g2
theorem zrv {k bytes:Nat} {z:List ai} {base:Option Addr} {x:ai} {l2:List Z} (hd:T.desc t=some (.slice e)) (hi:T.info e=some (k,bytes,z)) (Bn:r.k=k) (hk:0 < k) (hz:h0.size<=h.size)
 (f:Sl r h (.slice base l.length l.length) l) {m:Nat} {news:List ai} (hs:fO x k h=some (m,news)) (mX:Src r h m news l2) (y6:0 < m)
 (hb:(l.length+m)*bytes<=140737488355328) (hl:l.length+m<=1152921504606846976) :
 ∃ v' h',j4 T t (.slice base l.length l.length) x h=some (v',h')/\Ow r h0 h' e h.size v' (l++l2)/\Ext h h':=by
 subst Bn
 obtain ⟨hm,Dz,h1,we⟩:=mX
 obtain ⟨pS,s1,UN,Kg,so3,NL⟩:=zZ (A:=h.size) hk f (λcs y hr=>by rw [LW (aQ _)];exact hr)
 rw [LW (aQ _)] at NL
 have lT:mJ (.slice base l.length l.length) r.k h=some pS:=by
  simp only [fO,cn,cR] at s1
  obtain ⟨a,ha,_,rfl⟩:=s1
  exact ha
 have Zo:l.length < G:=by unfold G;omega
 have Dv:l.length % G=l.length:=Cj Zo
 refine ⟨.slice (some ⟨h.size,0,none⟩) (l.length+m) (G*r.k+(l.length+m)),h.push (.row (pS++news) e false),?_,?_,?_⟩
 .unfold j4
  simp only [hd,hi,hs,dH]
  rw [aA (by omega),aA,aA (by rw [Dv];omega)]
  .simp only [lT,dH]
   rw [aB Zo]
  .simp only [sF,ix,yi,h1,not_or]
   exact ⟨⟨⟨by omega,by omega⟩,by omega⟩,by simp⟩
 .have vF:bP h ((h.push (.row (pS++news) e false)).set h.size .dead):=⟨by rw [Heap.size_set,Heap.size_push];omega,λB hB _=>by
   rw [Heap.aH _ _ _ _ (by rw [Heap.size_push];omega),aA (by omega),Heap.bH,aA (by omega)]⟩
  refine .inr ⟨pS++news,by rw [cT,hm],λhh=>?_,hz,by rw [Heap.size_push];omega,by rw [Heap.bH,aB rfl],by rw [cT,cT,Kg,Dz,hm,qH],by rw [cT,hm];exact hl,λi y hy=>?_⟩
  .have:=congrArg List.length hh
   rw [cT,hm] at this
   simp at this
   omega
  .by_cases hi:i < l.length
   .rw [jC hi] at hy
    obtain ⟨cs,g1,g2⟩:=NL i y hy
    exact ⟨cs,W8 g1,r.mono _ _ _ _ vF g2⟩
   .rw [lj (by omega)] at hy
    obtain ⟨cs,g1,g2⟩:=we _ y hy
    refine ⟨cs,?_,r.mono _ _ _ _ vF g2⟩
    have:=WM (a:=pS) g1
    rwa [Kg,<- qH,show l.length+(i - l.length)=i by omega] at this
 .refine ⟨by rw [Heap.size_push];omega,λA hA=>by rw [Heap.bH,aA (by omega)],by rw [Heap.eO];omega⟩
end
end Go.Am
namespace Go.Am
variable {l:List av} {x y:av} {i:Nat} {s:aV}
def slt (a b:aV):Bool:=Op.bytesLess a.data.toList b.data.toList
theorem Pv:∀ (x y:List UInt8),Op.bytesLess x y=decide (x < y)
 | [],[]=>by simp [Op.bytesLess]
 |_::_,[]=>by simp [Op.bytesLess]
 | [],_::_=>by simp [Op.bytesLess]
 |a::x,b::y=>by
  rw [Op.bytesLess,Pv x y]
  simp only [List.cons_lt_cons_iff]
  by_cases h1:a < b <;> by_cases h2:a=b <;> by_cases h3:x < y <;> simp [h1,h2,h3]
theorem Gr (a:aV):slt a a=false:=by
 unfold slt
 rw [Pv]
 simp [List.lt_irrefl]
theorem Lu {a b c:aV} (h1:slt a b=true) (h2:slt b c=true):slt a c=true:=by
 unfold slt at *
 rw [Pv] at *
 simp only [ix] at *
 exact List.lt_trans h1 h2
theorem zpg {a b:aV} (h1:slt a b=false) (h2:slt b a=false):a=b:=by
 unfold slt at *
 rw [Pv] at *
 simp only [decide_eq_false_iff_not,List.not_lt] at *
 exact EV (List.le_antisymm h2 h1)
def lG (l:List av) (m:Nat):Prop:=∀ k x y,k+1 < m->l[k]? = some x->l[k+1]? = some y->slt x.var y.var=true
theorem zlw {m:Nat} (h:m<=1):lG l m:=by
 intro k x y hk
 omega
theorem zqP (h:lG l i) (h0:0 < i) (hx:l[i - 1]? = some x) (hy:l[i]? = some y) (hs:slt x.var y.var=true):lG l (i+1):=by
 intro k a b hk ha hb
 by_cases tg:k+1 < i
 .exact h k a b tg ha hb
 .have tg:k=i - 1:=by omega
  subst tg
  have e:i - 1+1=i:=by omega
  rw [e] at hb
  obtain rfl:x=a:=Option.some.inj (hx.symm.trans ha)
  obtain rfl:y=b:=Option.some.inj (hy.symm.trans hb)
  exact hs
theorem zt8 (h0:0 < i) (hx:l[i - 1]? = some x) (hy:l[i]? = some y) (hs:¬ slt x.var y.var=true):¬ lG l l.length:=by
 intro hR
 refine hs (hR (i - 1) x y ?_ hx ?_)
 .have:=(fR.1 hy).1
  omega
 .rw [show i - 1+1=i by omega]
  exact hy
theorem Gx (h:lG l l.length) {j:Nat} (fk:i < j) (hx:l[i]? = some x) (hy:l[j]? = some y):slt x.var y.var=true:=by
 induction j generalizing y with
 |zero=>omega
 |succ j ih =>
  have hj:=(fR.1 hy).1
  have hz:l[j]? = some l[j]:=gG (by omega)
  have h1:=h j l[j] y hj hz hy
  by_cases he:i=j
  .subst he
   rw [hz] at hx
   cases hx
   exact h1
  .exact Lu (ih (by omega) hz) h1
def bx (l:List av) (s:aV):ay × Bool:=match l.find? (λx=>decide (x.var=s)) with
 |some x=>(x.term,true)
 |none=>(bX,false)
theorem zAg {Z:Type} {p:Z->Bool} {l:List Z} {x:Z} (hx:l[i]? = some x) (aE:∀ y∈l.take i,p y=false) (hp:p x=true):l.find? p=some x:=by
 induction l generalizing i with
 |nil=>simp at hx
 |cons a l ih =>
  rw [List.find?_cons]
  cases i with
  |zero =>
   simp at hx
   subst hx
   simp [hp]
  |succ i =>
   have ha:=aE a (by simp)
   rw [ha]
   exact ih (i:=i) (by simpa using hx) (λy hy=>aE y (by simp [hy]))
theorem zwT (hx:l[i]? = some x) (aE:∀ y∈l.take i,y.var≠s) (hp:x.var=s):bx l s=(x.term,true):=by
 unfold bx
 rw [zAg hx (λy hy=>by simpa using aE y hy) (by simpa using hp)]
theorem zwU (aE:∀ y∈l,y.var≠s):bx l s=(bX,false):=by
 unfold bx
 rw [List.find?_eq_none.2 (λx hx=>by simpa using aE x hx)]
theorem zuc (h:lG l l.length) (hi:i<=l.length) (gx:0 < i->(match l[i - 1]? with|some x => !slt x.var s|none=>false)=false):∀ y∈l.take i,y.var≠s:=by
 intro y hy
 obtain ⟨k,hk,rfl⟩:=tM hy
 rw [gR] at hk
 rw [List.getElem_take]
 have h0:=gx (by omega)
 have hx:l[i - 1]? = some (l[i - 1]'(by omega)):=gG (by omega)
 rw [hx] at h0
 simp only [Bool.not_eq_eq_eq_not,Bool.not_false] at h0
 have bc:slt (l[k]'(by omega)).var s=true:=by
  by_cases he:k=i - 1
  .subst he
   exact h0
  .exact Lu (Gx h (show k < i - 1 by omega) (gG (by omega)) hx) h0
 intro he
 rw [he,Gr] at bc
 cases bc
def dX (l:List av):Prop:=lG l l.length/\∀ b∈l,b.term.s≠⟨#[]⟩/\¬ (b.term.v=true/\(bx l b.term.s).2=true)
def b9 (l:List av) (t:ay):ay:=if (bx l t.s).2=true/\t.v=true then (bx l t.s).1 else t
def gm (l m:List av):List av:=l.map λb=>⟨b.var,b9 m b.term⟩
def kZ (b:av):Bool:=b.term.v && decide (b.term.s=b.var)
def j9 (l:List av) (b:av):List av:=l.takeWhile (λx => !slt b.var x.var)++b::l.dropWhile (λx => !slt b.var x.var)
theorem zpn {Z:Type} {p:Z->Bool} {l:List Z} (hi:i<=l.length) (aE:∀ y∈l.take i,p y=true) (hn:∀ x,l[i]? = some x->p x=false):l.takeWhile p=l.take i/\l.dropWhile p=l.drop i:=by
 induction l generalizing i with
 |nil=>simp
 |cons a l ih =>
  cases i with
  |zero =>
   have:=hn a (by simp)
   simp [this]
  |succ i =>
   have ha:=aE a (by simp)
   have:=ih (i:=i) (by simpa using hi) (λy hy=>aE y (by simp [hy])) (λx hx=>hn x (by simpa using hx))
   simp [ha,this]
theorem zsF {b:av} (h:lG l l.length) (hi:i<=l.length) (gx:0 < i->(match l[i - 1]? with|some x=>slt b.var x.var|none=>false)=false) (oC:i < l.length->(match l[i]? with|some x=>slt b.var x.var|none=>false)=true) :
 j9 l b=l.take i++b::l.drop i:=by
 unfold j9
 obtain ⟨e1,e2⟩:=zpn (p:=λx:av => !slt b.var x.var) hi (λy hy=>by
  obtain ⟨k,hk,rfl⟩:=tM hy
  rw [gR] at hk
  rw [List.getElem_take]
  have h0:=gx (by omega)
  have hx:l[i - 1]? = some (l[i - 1]'(by omega)):=gG (by omega)
  rw [hx] at h0
  simp only at h0
  by_cases he:k=i - 1
  .subst he
   simpa using h0
  .have h2:=Gx h (show k < i - 1 by omega) (gG (by omega)) hx
   cases h3:slt b.var (l[k]'(by omega)).var
   .rfl
   .rw [Lu h3 h2] at h0
    cases h0) (λx hx=>by
  have h0:=oC (fR.1 hx).1
  rw [hx] at h0
  simpa using h0)
 rw [e1,e2]
theorem Og {f:av->ay} (h:lG l l.length):lG (l.map λb=>⟨b.var,f b⟩) (l.map λb=>(⟨b.var,f b⟩:av)).length:=by
 intro k x y hk hx hy
 rw [gq] at hk
 rw [lk] at hx hy
 simp only [cn] at hx hy
 obtain ⟨x',nF,rfl⟩:=hx
 obtain ⟨y',FX,rfl⟩:=hy
 exact h k x' y' hk nF FX
open Classical in
def iN (l:List av) (v:aV) (t:ay):Option (List av) :=
 if ¬ dX l then none
 else if v=⟨#[]⟩\/t.s=⟨#[]⟩ then none
 else if (bx l v).2=true then none
 else if kZ ⟨v,b9 l t⟩=true then none
 else some (j9 (gm l [⟨v,b9 l t⟩]) ⟨v,b9 l t⟩)
def kG (a b:ae):Bool:=decide (a.says=b.says) && (decide (a.pred=b.pred) && (decide (a.n=b.n) && (decide (0<=a.n) && decide (a.n<=4))))
def qB (out:List av) (x y:ay):Option (List av) :=
 if x.v=false then (if x=y then some out else none)
 else if (bx out x.s).2=true then (if (bx out x.s).1=y then some out else none)
 else iN out x.s y
def pY (p g:ae):Nat->List av->Option (List av)
 |0,out=>some out
 |n+1,out=>(pY p g n out).bind λo=>qB o (p.arg n) (g.arg n)
def po (l:List av) (x:ay):Bool:=x.v && (decide (x.s=⟨#[]⟩) || ((bx l x.s).2 && (bx l x.s).1.v))
open Classical in
def bz (l:List av) (p g:ae):Option (List av) :=
 if ¬ dX l\/kG p g=false\/g.ground=false then none
 else if ∃ i:Nat,i < 4/\(i:Int) < p.n/\po l (p.arg i)=true then none
 else pY p g p.n.toNat l
def Fe:aN->aN->List av->Option (List av)
 |p::ps,g::gs,l=>(bz l p g).bind (Fe ps gs)
 |_,_,l=>some l
end Go.Am
