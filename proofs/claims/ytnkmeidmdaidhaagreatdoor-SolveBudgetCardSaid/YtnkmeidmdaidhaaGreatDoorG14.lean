/- Steps on ints: quotient, remainder, shift. No condition. -/
import Derived.Test.YtnkmeidmdaidhaaGreatDoorG9
set_option linter.unusedSimpArgs false
set_option linter.unusedVariables false
noncomputable section
namespace Go.Am
variable {A:Nat} {h:Heap} {Z:Type}
theorem Ow.slice {Z:Type} {r:aF Z} {h0 h:Heap} {e A:Nat} {v:ai} {l:List Z} (f:Ow r h0 h e A v l):∃ a n c,v=.slice a n c:=by
 rcases f with ⟨_,_,rfl|⟨B,o,rfl,_⟩⟩|⟨row,rfl,_⟩
 .exact ⟨_,_,_,rfl⟩
 .exact ⟨_,_,_,rfl⟩
 .exact ⟨_,_,_,rfl⟩
theorem Ow.lt {r:aF Z} {h0:Heap} {e:Nat} {v:ai} {l:List Z} (f:Ow r h0 h e A v l):A < h.size\/l=[]:=by
 rcases f with ⟨_,h2,_⟩|⟨row,_,_,_,h4,_⟩
 .exact .inr h2
 .exact .inl h4
theorem Ow.any {r:aF Z} {h0:Heap} {e:Nat} {v:ai} (f:Ow r h0 h e A v []) (B:Nat) (hB:h0.size<=B):Ow r h0 h e B v []:=by
 rcases f with ⟨_,h2,h3⟩|⟨row,_,h2,_⟩
 .exact .inl ⟨hB,h2,h3⟩
 .exact absurd rfl h2
theorem JX (hA:h.size<=A):kill A h=h:=aA (by omega)
theorem Ow.under {r:aF Z} {hc:Heap} {e C:Nat} {v:ai} {l:List Z} (hk:0 < r.k) (dF:∀ h h' cs x,r.R h cs x->r.R h' cs x) (f:Ow r hc h e A v l) (hC:C < hc.size\/h.size<=C):Sl r (Am.kill C h) v l:=by
 rcases hC with hC|hC
 .exact (f.kill dF hC).sl hk
 .rw [JX hC];exact f.sl hk
section
variable {P:Program} {T:bx} {ov:Ov}
theorem kO {b:Nat} {ops:Array Oper} {l:List Oper} {j:Nat} {d:Option Tmp} {Q:Env->Heap->Prop} {e:Env} {hh:Heap} {bs:List bc} {w s:Nat} {v:ai} (hb:b<=hh.size) (hs:hh.size<=s)
 (hk:bI P T ov b ops l (j+1) (put e d v) (hh.lay bs s) Q):wh P T ov b ops l j d Q e (hh.lay [] w) v (hh.lay bs s):=by
 refine ⟨⟨⟨.inl ?_,?_,?_⟩,hk⟩⟩
 .rw [bo];show hh.size+0<=s;omega
 .show b<=s;omega
 .rw [bo,bo];simp
end
section
variable {h1:Heap} {bs:List bc} {w:Nat} {T:bx} {K:aL} {t e s:TypeId} {v p:ai} {kd:IntKind} {i:Int}
theorem uQ {l:aU} {x:ae} (f:Sl aF.atom h1 v l) (hd:T.desc t=some (.slice e)) (hs:de T e=some 11) (h0:0<=i) (hx:l[i.toNat]? = some x) (hk:∀ p,gU h1 p (x.cells)->K p (h1.lay bs w)):aK (jq T t v (.int kd i)) (h1.lay bs w) K :=
 XB f hd hs h0 (by have:=(fD.1 hx).1;omega) λx' p mU hp=>by
  obtain rfl:x=x':=Option.some.inj (hx.symm.trans mU)
  exact hk p hp
theorem MV {l:List az} {x:az} (f:Sl aF.term h1 v l) (hd:T.desc t=some (.slice e)) (hs:de T e=some 2) (h0:0<=i) (hx:l[i.toNat]? = some x) (hk:∀ p,gU h1 p (x.cells)->K p (h1.lay bs w)):aK (jq T t v (.int kd i)) (h1.lay bs w) K :=
 ixt f hd hs h0 (by have:=(fD.1 hx).1;omega) λx' p mU hp=>by
  obtain rfl:x=x':=Option.some.inj (hx.symm.trans mU)
  exact hk p hp
theorem vU {l:List av} {x:av} (f:Sl aF.bind h1 v l) (hd:T.desc t=some (.slice e)) (hs:de T e=some 3) (h0:0<=i) (hx:l[i.toNat]? = some x) (hk:∀ p,gU h1 p (x.cells)->K p (h1.lay bs w)):aK (jq T t v (.int kd i)) (h1.lay bs w) K :=
 ixb f hd hs h0 (by have:=(fD.1 hx).1;omega) λx' p mU hp=>by
  obtain rfl:x=x':=Option.some.inj (hx.symm.trans mU)
  exact hk p hp
theorem U2 {l:List bf} {x:bf} (f:Sl aF.str h1 v l) (hd:T.desc t=some (.slice e)) (hs:de T e=some 1) (h0:0<=i) (hx:l[i.toNat]? = some x) (hk:∀ p,gU h1 p ([.string x])->K p (h1.lay bs w)):aK (jq T t v (.int kd i)) (h1.lay bs w) K :=
 ixs f hd hs h0 (by have:=(fD.1 hx).1;omega) λx' p mU hp=>by
  obtain rfl:x=x':=Option.some.inj (hx.symm.trans mU)
  exact hk p hp
theorem EW {l:List ay} {x:ay} (f:Sl aF.clause h1 v l) (hd:T.desc t=some (.slice e)) (hs:de T e=some 12) (h0:0<=i) (hx:l[i.toNat]? = some x) (hk:∀ p b,Sl aF.atom h1 b x.body->gU h1 p (x.head.cells++[b])->K p (h1.lay bs w)):aK (jq T t v (.int kd i)) (h1.lay bs w) K :=
 ixc f hd hs h0 (by have:=(fD.1 hx).1;omega) λx' p b mU hb hp=>by
  obtain rfl:x=x':=Option.some.inj (hx.symm.trans mU)
  exact hk p b hb hp
theorem zyf {l:List aV} {x:aV} (f:Sl aF.reason h1 v l) (hd:T.desc t=some (.slice e)) (hs:de T e=some 13) (h0:0<=i) (hx:l[i.toNat]? = some x) (hk:∀ p b,Sl aF.atom h1 b x.body->gU h1 p (x.atom.cells++[.int .i64 x.clause,b])->K p (h1.lay bs w)):aK (jq T t v (.int kd i)) (h1.lay bs w) K :=
 ixr f hd hs h0 (by have:=(fD.1 hx).1;omega) λx' p b mU hb hp=>by
  obtain rfl:x=x':=Option.some.inj (hx.symm.trans mU)
  exact hk p b hb hp
theorem ig {l:List Z} {i:Nat} (h:(i:Int) < l.length):∃ x,l[(i:Int).toNat]? = some x/\l[i]? = some x:=⟨l[i]'(by omega),by simp,by simp⟩
end
section
variable {P:Program} {T:bx}
theorem zwo {op:BinOp} {t:TypeId} {k:IntKind} {a b:Int} {v:ai} (hf:oB op (.int k a) (.int k b)=none) (hp:fc P (binOp op t (.int k a) (.int k b))=some v) (hv:plain v=true):bZ P T op t (.int k a) (.int k b)=some v:=by
 have h1:((T.desc t).bind λd=>Ad d (.int k a) (.int k b))=none:=by
  cases T.desc t with
  |none=>rfl
  |some d=>cases d <;> rfl
 unfold bZ
 rw [hf]
 simp only [h1]
 rw [aG (show (plain (Value.int k a) && plain (Value.int k b))=true from rfl)]
 rw [hp,dz,aG hv]
theorem zyH {t:TypeId} {k:IntKind} {a b:Int} (hb:b≠0):bZ P T .rem t (.int k a) (.int k b)=some (.int k (a.tmod b)):=by
 refine zwo rfl ?_ rfl
 simp [binOp,Op.intDiv,hb,zK]
end
end Go.Am
namespace Go.Am
variable {Z:Type}
def lB (p:Z->Bool) (l:List Z):Int:=match l.findIdx? p with
 |some i=>i
 |none => -1
theorem TX {p:Z->Bool} {l:List Z} {i:Nat} {x:Z} (hx:l[i]? = some x) (aD:∀ y∈l.take i,p y=false) (hp:p x=true):lB p l=i:=by
 have:l.findIdx? p=some i:=by
  induction l generalizing i with
  |nil=>simp at hx
  |cons a l ih =>
   rw [List.findIdx?_cons]
   cases i with
   |zero =>
    simp at hx
    subst hx
    simp [hp]
   |succ i =>
    have ha:=aD a (by simp)
    rw [ha]
    have:=ih (i:=i) (by simpa using hx) (λy hy=>aD y (by simp [hy]))
    simp [this]
 unfold lB
 rw [this]
theorem Ud {p:Z->Bool} {l:List Z} (aD:∀ y∈l,p y=false):lB p l = -1:=by
 have:l.findIdx? p=none:=by rw [List.findIdx?_eq_none_iff];exact aD
 unfold lB
 rw [this]
theorem UN (p:Z->Bool) (l:List Z):decide (lB p l >= 0)=l.any p:=by
 unfold lB
 cases h:l.findIdx? p with
 |none =>
  rw [List.findIdx?_eq_none_iff] at h
  have:l.any p=false:=by rw [Kc];intro x hx;rw [h x hx];decide
  rw [this]
  decide
 |some i =>
  have h2:∃ x∈l,p x=true:=by
   have:=List.findIdx?_isSome (xs:=l) (p:=p)
   rw [h] at this
   simp at this
   exact this
  have:l.any p=true:=by rw [Dl];exact h2
  rw [this]
  simp
theorem xV (a:ae):a.args.length=a.cH:=by
 unfold ae.args ae.cH
 rw [hZ]
 simp only [dB,cW]
 omega
theorem zzB {H:Heap} {A o:Nat} {a:ae} {u:TypeId} {ro:Bool} (q:ak H A (.row a.cells u ro)) (ho:o=3):Sl aF.term H (.slice (some ⟨A,o,none⟩) a.cH 4) a.args:=by
 subst ho
 have hc:a.cH<=4:=by unfold ae.cH;omega
 refine .inr ⟨A,3,4,a.cells,u,ro,by rw [xV],by rw [xV];unfold maxLen;omega,.inl ⟨by decide,by rw [xV];exact hc⟩,q.lt,q.get,λi x hx=>?_⟩
 have hi:i < a.cH:=by have:=(fD.1 hx).1;rw [xV] at this;exact this
 unfold ae.args at hx
 rw [C1 hi] at hx
 have:i=0\/i=1\/i=2\/i=3:=by omega
 rcases this with rfl|rfl|rfl|rfl <;> (simp at hx;subst hx;exact ⟨_,rfl,rfl⟩)
theorem eH (a:ae):cut a.cells 0 11=some a.cells:=rfl
theorem dJ (a:ae):Value.agg a.cells.toArray=a.val:=rfl
theorem iB (a:ae):a.val.cells.toList=a.cells:=rfl
theorem dt (a:ae) (h:Heap) (K:aL):aK (some a.val) h K=K a.val h:=rfl
theorem zF (a:az) (h:Heap) (K:aL):aK (some a.val) h K=K a.val h:=rfl
def ae.ground (a:ae):Bool := !a.args.any (·.v)
end Go.Am
namespace Go.Am
variable {a b i n:Nat} {kd Ls:IntKind} {hi lo:Option ai}
section
variable {Z:Type} {r:aF Z} {h0 h h1:Heap} {v:ai} {l:List Z} {t e:TypeId} {T:bx} {bs:List bc} {w:Nat} {K:aL}
def ei (x:Option ai) (d n:Nat):Prop:=(x=none/\n=d)\/∃ kd,x=some (.int kd n)
theorem ei.no (n:Nat):ei none n n:=.inl ⟨rfl,rfl⟩
theorem ei.num (kd:IntKind) (d n:Nat):ei (some (.int kd n)) d n:=.inr ⟨kd,rfl⟩
theorem zmY {hi:Nat} (hn:n<=hi):uT (.int kd n) hi=some n:=by
 have:(0:Int)<=n/\(n:Int)<=hi:=by omega
 simp only [uT,this,and_self,if_true,wj]
theorem Jm {c:Nat} (fm:ei lo 0 a) (mN:ei hi n b) (ta:a<=b) (hbc:b<=c):oC n c lo hi none=some (a,b,c):=by
 unfold oC
 rcases fm with ⟨rfl,rfl⟩|⟨kd,rfl⟩ <;> rcases mN with ⟨rfl,rfl⟩|⟨Ls,rfl⟩ <;> simp [zmY,ta,hbc]
theorem SY {c:Nat} (hi:i<=c):oC n c none (some (.int kd i)) (some (.int Ls i))=some (0,i,i):=by
 unfold oC
 simp [zmY,hi]
theorem Vc:0 < G:=by unfold G;omega
theorem Mr {k q:Nat} (hk:0 < k) (hq:q < G):G<=G*k+q/\(G*k+q) / G=k/\(G*k+q) % G=q:=by
 obtain ⟨c1,c2,c3⟩:=zQ (k:=k) (q:=q) hk hq
 exact ⟨by omega,c3,c2⟩
theorem Sl.sub (f:Sl r h v l) (hk:0 < r.k) (hd:T.desc t=some (.slice e)) (hs:de T e=some r.k) (fm:ei lo 0 a) (mN:ei hi l.length b) (ta:a<=b) (hb:b<=l.length) :
 ∃ v',jQ T t v lo hi none=some v'/\Sl r h v' ((l.take b).drop a):=by
 have hlen:((l.take b).drop a).length=b - a:=by simp;omega
 have wU:∀ (i:Nat) (x:Z),((l.take b).drop a)[i]? = some x->l[a+i]? = some x/\i < b - a:=by
  intro i x hx
  have:=(fD.1 hx).1
  rw [hlen] at this
  rw [ka,C1 (by omega)] at hx
  exact ⟨hx,this⟩
 rcases f with ⟨rfl,rfl⟩|⟨A,o,c,row,u,ro,rfl,e2,e3,e4,e5,e6⟩
 .have vm:b=0:=by simpa using hb
  subst vm
  have AV:a=0:=by omega
  subst AV
  refine ⟨.slice none 0 0,?_,by simpa using Sl.nil⟩
  unfold jQ
  simp only [hd,hs,dz,aG Vc]
  have:=Jm (n:=0) (c:=0) fm (by simpa using mN) (aS 0) (aS 0)
  rw [this]
  rfl
 .rcases e3 with ⟨c1,c2⟩|⟨c1,c2,c3⟩
  .refine ⟨.slice (some ⟨A,if c=a then o else o+a*r.k,none⟩) (b - a) (c - a),?_,?_⟩
   .unfold jQ
    simp only [hd,hs,dz,aG c1]
    rw [Jm fm mN ta (by omega)]
    rfl
   .refine .inr ⟨A,_,c - a,row,u,ro,by rw [hlen],by rw [hlen];omega,.inl ⟨by omega,by rw [hlen];omega⟩,e4,e5,λi x hx=>?_⟩
    obtain ⟨hx,hi⟩:=wU i x hx
    obtain ⟨cs,g1,g2⟩:=e6 _ _ hx
    refine ⟨cs,?_,g2⟩
    rw [aA (by omega),na,<- oH]
    exact g1
  .refine ⟨.slice (some ⟨A,o+a*r.k,none⟩) (b - a) (G*r.k+(c % G - a)),?_,?_⟩
   .unfold jQ
    simp only [hd,hs,dz,aA (show ¬ c < G by omega),aG c2]
    rw [Jm fm mN ta (by omega)]
    rfl
   .have hm:=Nat.mod_lt c Vc
    obtain ⟨d1,d2,d3⟩:=Mr (k:=r.k) (q:=c % G - a) hk (by omega)
    refine .inr ⟨A,_,_,row,u,ro,by rw [hlen],by rw [hlen];omega,.inr ⟨d1,d2,by rw [hlen,d3];omega⟩,e4,e5,λi x hx=>?_⟩
    obtain ⟨hx,hi⟩:=wU i x hx
    obtain ⟨cs,g1,g2⟩:=e6 _ _ hx
    refine ⟨cs,?_,g2⟩
    rw [na,<- oH]
    exact g1
theorem Sl.full (f:Sl r h v l) (hd:T.desc t=some (.slice e)) (hs:de T e=some r.k) (hi:i<=l.length) :
 ∃ base,jQ T t v none (some (.int kd i)) (some (.int Ls i))=some (.slice base i i)/\Sl r h (.slice base i i) (l.take i):=by
 have hlen:(l.take i).length=i:=by simp;omega
 rcases f with ⟨rfl,rfl⟩|⟨A,o,c,row,u,ro,rfl,e2,e3,e4,e5,e6⟩
 .have vm:i=0:=by simpa using hi
  subst vm
  refine ⟨none,?_,by simpa using Sl.nil⟩
  unfold jQ
  simp only [hd,hs,dz,aG Vc]
  rw [SY (aS 0)]
  rfl
 .have hG:maxLen < G:=by decide
  have wU:Sl r h (.slice (some ⟨A,o,none⟩) i i) (l.take i):=by
   refine .inr ⟨A,o,i,row,u,ro,by rw [hlen],by rw [hlen];omega,.inl ⟨by omega,by rw [hlen];omega⟩,e4,e5,λj x hx=>?_⟩
   have hj:=(fD.1 hx).1
   rw [hlen] at hj
   rw [C1 hj] at hx
   exact e6 _ _ hx
  refine ⟨some ⟨A,o,none⟩,?_,wU⟩
  rcases e3 with ⟨c1,c2⟩|⟨c1,c2,c3⟩
  .unfold jQ
   simp only [hd,hs,dz,aG c1]
   rw [SY (by omega)]
   simp
  .unfold jQ
   simp only [hd,hs,dz,aA (show ¬ c < G by omega),aG c2]
   rw [SY (by omega)]
   simp
theorem zxu (f:Sl r h1 v l) (hk:0 < r.k) (hd:T.desc t=some (.slice e)) (hs:de T e=some r.k) (fm:ei lo 0 a) (mN:ei hi l.length b) (ta:a<=b) (hb:b<=l.length)
 (hK:∀ v',Sl r h1 v' ((l.take b).drop a)->K v' (h1.lay bs w)):aK (jQ T t v lo hi none) (h1.lay bs w) K:=by
 obtain ⟨v',g1,g2⟩:=f.sub hk hd hs fm mN ta hb
 rw [g1]
 exact hK v' g2
theorem Mk (f:Sl r h1 v l) (hk:0 < r.k) (hd:T.desc t=some (.slice e)) (hs:de T e=some r.k) (ha:a<=l.length)
 (hK:∀ v',Sl r h1 v' (l.drop a)->K v' (h1.lay bs w)):aK (jQ T t v (some (.int kd a)) none none) (h1.lay bs w) K :=
 zxu f hk hd hs (ei.num kd _ a) (ei.no _) ha (aS _) (λv' h=>hK v' (by rw [List.take_length] at h;exact h))
theorem zny (f:Sl r h1 v l) (hd:T.desc t=some (.slice e)) (hs:de T e=some r.k) (hi:i<=l.length)
 (hK:∀ base,Sl r h1 (.slice base i i) (l.take i)->K (.slice base i i) (h1.lay bs w)):aK (jQ T t v none (some (.int kd i)) (some (.int Ls i))) (h1.lay bs w) K:=by
 obtain ⟨b,g1,g2⟩:=f.full hd hs hi
 rw [g1]
 exact hK b g2
theorem zqE {k bytes:Nat} {z:List ai} {base:Option Addr} {x:ai} {l2:List Z} (hd:T.desc t=some (.slice e)) (hi:T.info e=some (k,bytes,z)) (ze:r.k=k) (hk:0 < k) (hz:h0.size<=h.size)
 (f:Sl r h (.slice base l.length l.length) l) {m:Nat} {news:List ai} (hs:gg x k h=some (m,news)) (lA:Src r h m news l2) (xj:0 < m)
 (hb:(l.length+m)*bytes<=140737488355328) (hl:l.length+m<=1152921504606846976) :
 ∃ v' h',lh T t (.slice base l.length l.length) x h=some (v',h')/\Ow r h0 h' e h.size v' (l++l2)/\Ext h h':=by
 subst ze
 obtain ⟨hm,BI,h1,tO⟩:=lA
 obtain ⟨nS,s1,SA,Il,XX,LD⟩:=ym (A:=h.size) hk f (λcs y hr=>by rw [JX (aS _)];exact hr)
 rw [JX (aS _)] at LD
 have kl:pJ (.slice base l.length l.length) r.k h=some nS:=by
  simp only [gg,bX,cx] at s1
  obtain ⟨a,ha,_,rfl⟩:=s1
  exact ha
 have Xd:l.length < G:=by unfold G;omega
 have BD:l.length % G=l.length:=Di Xd
 refine ⟨.slice (some ⟨h.size,0,none⟩) (l.length+m) (G*r.k+(l.length+m)),h.push (.row (nS++news) e false),?_,?_,?_⟩
 .unfold lh
  simp only [hd,hi,hs,dz]
  rw [aA (by omega),aA,aA (by rw [BD];omega)]
  .simp only [kl,dz]
   rw [aG Xd]
  .simp only [qH,iC,yx,h1,not_or]
   exact ⟨⟨⟨by omega,by omega⟩,by omega⟩,by simp⟩
 .have G0:bQ h ((h.push (.row (nS++news) e false)).set h.size .dead):=⟨by rw [Heap.size_set,Heap.size_push];omega,λB hB _=>by
   rw [Heap.aM _ _ _ _ (by rw [Heap.size_push];omega),aA (by omega),Heap.bS,aA (by omega)]⟩
  refine .inr ⟨nS++news,by rw [dx,hm],λhh=>?_,hz,by rw [Heap.size_push];omega,by rw [Heap.bS,aG rfl],by rw [dx,dx,Il,BI,hm,oH],by rw [dx,hm];exact hl,λi y hy=>?_⟩
  .have:=congrArg List.length hh
   rw [dx,hm] at this
   simp at this
   omega
  .by_cases hi:i < l.length
   .rw [kY hi] at hy
    obtain ⟨cs,g1,g2⟩:=LD i y hy
    exact ⟨cs,zur g1,r.mono _ _ _ _ G0 g2⟩
   .rw [n9 (by omega)] at hy
    obtain ⟨cs,g1,g2⟩:=tO _ y hy
    refine ⟨cs,?_,r.mono _ _ _ _ G0 g2⟩
    have:=zqQ (a:=nS) g1
    rwa [Il,<- oH,show l.length+(i - l.length)=i by omega] at this
 .refine ⟨by rw [Heap.size_push];omega,λA hA=>by rw [Heap.bS,aA (by omega)],by rw [Heap.fw];omega⟩
end
end Go.Am
namespace Go.Am
variable {l:List av} {x y:av} {i:Nat} {s:bf}
def slt (a b:bf):Bool:=Op.bytesLess a.data.toList b.data.toList
theorem Nd:∀ (x y:List UInt8),Op.bytesLess x y=decide (x < y)
 | [],[]=>by simp [Op.bytesLess]
 |_::_,[]=>by simp [Op.bytesLess]
 | [],_::_=>by simp [Op.bytesLess]
 |a::x,b::y=>by
  rw [Op.bytesLess,Nd x y]
  simp only [List.cons_lt_cons_iff]
  by_cases h1:a < b <;> by_cases h2:a=b <;> by_cases h3:x < y <;> simp [h1,h2,h3]
theorem Js (a:bf):slt a a=false:=by
 unfold slt
 rw [Nd]
 simp [List.lt_irrefl]
theorem Jx {a b c:bf} (h1:slt a b=true) (h2:slt b c=true):slt a c=true:=by
 unfold slt at *
 rw [Nd] at *
 simp only [iC] at *
 exact List.lt_trans h1 h2
theorem zoh {a b:bf} (h1:slt a b=false) (h2:slt b a=false):a=b:=by
 unfold slt at *
 rw [Nd] at *
 simp only [decide_eq_false_iff_not,List.not_lt] at *
 exact C9 (List.le_antisymm h2 h1)
def kS (l:List av) (m:Nat):Prop:=∀ k x y,k+1 < m->l[k]? = some x->l[k+1]? = some y->slt x.var y.var=true
theorem zkQ {m:Nat} (h:m<=1):kS l m:=by
 intro k x y hk
 omega
theorem zpY (h:kS l i) (h0:0 < i) (hx:l[i - 1]? = some x) (hy:l[i]? = some y) (hs:slt x.var y.var=true):kS l (i+1):=by
 intro k a b hk ha hb
 by_cases qX:k+1 < i
 .exact h k a b qX ha hb
 .have qX:k=i - 1:=by omega
  subst qX
  have e:i - 1+1=i:=by omega
  rw [e] at hb
  obtain rfl:x=a:=Option.some.inj (hx.symm.trans ha)
  obtain rfl:y=b:=Option.some.inj (hy.symm.trans hb)
  exact hs
theorem ztb (h0:0 < i) (hx:l[i - 1]? = some x) (hy:l[i]? = some y) (hs:¬ slt x.var y.var=true):¬ kS l l.length:=by
 intro hR
 refine hs (hR (i - 1) x y ?_ hx ?_)
 .have:=(fD.1 hy).1
  omega
 .rw [show i - 1+1=i by omega]
  exact hy
theorem Jw (h:kS l l.length) {j:Nat} (ej:i < j) (hx:l[i]? = some x) (hy:l[j]? = some y):slt x.var y.var=true:=by
 induction j generalizing y with
 |zero=>omega
 |succ j ih =>
  have hj:=(fD.1 hy).1
  have hz:l[j]? = some l[j]:=i4 (by omega)
  have h1:=h j l[j] y hj hz hy
  by_cases he:i=j
  .subst he
   rw [hz] at hx
   cases hx
   exact h1
  .exact Jx (ih (by omega) hz) h1
def df (l:List av) (s:bf):az × Bool:=match l.find? (λx=>decide (x.var=s)) with
 |some x=>(x.term,true)
 |none=>(di,false)
theorem zy9 {Z:Type} {p:Z->Bool} {l:List Z} {x:Z} (hx:l[i]? = some x) (aD:∀ y∈l.take i,p y=false) (hp:p x=true):l.find? p=some x:=by
 induction l generalizing i with
 |nil=>simp at hx
 |cons a l ih =>
  rw [List.find?_cons]
  cases i with
  |zero =>
   simp at hx
   subst hx
   simp [hp]
  |succ i =>
   have ha:=aD a (by simp)
   rw [ha]
   exact ih (i:=i) (by simpa using hx) (λy hy=>aD y (by simp [hy]))
theorem zvN (hx:l[i]? = some x) (aD:∀ y∈l.take i,y.var≠s) (hp:x.var=s):df l s=(x.term,true):=by
 unfold df
 rw [zy9 hx (λy hy=>by simpa using aD y hy) (by simpa using hp)]
theorem zvO (aD:∀ y∈l,y.var≠s):df l s=(di,false):=by
 unfold df
 rw [List.find?_eq_none.2 (λx hx=>by simpa using aD x hx)]
theorem zte (h:kS l l.length) (hi:i<=l.length) (fm:0 < i->(match l[i - 1]? with|some x => !slt x.var s|none=>false)=false):∀ y∈l.take i,y.var≠s:=by
 intro y hy
 obtain ⟨k,hk,rfl⟩:=J6 hy
 rw [hZ] at hk
 rw [List.getElem_take]
 have h0:=fm (by omega)
 have hx:l[i - 1]? = some (l[i - 1]'(by omega)):=i4 (by omega)
 rw [hx] at h0
 simp only [Bool.not_eq_eq_eq_not,Bool.not_false] at h0
 have aW:slt (l[k]'(by omega)).var s=true:=by
  by_cases he:k=i - 1
  .subst he
   exact h0
  .exact Jx (Jw h (show k < i - 1 by omega) (i4 (by omega)) hx) h0
 intro he
 rw [he,Js] at aW
 cases aW
def kb (l:List av):Prop:=kS l l.length/\∀ b∈l,b.term.s≠⟨#[]⟩/\¬ (b.term.v=true/\(df l b.term.s).2=true)
def ep (l:List av) (t:az):az:=if (df l t.s).2=true/\t.v=true then (df l t.s).1 else t
def hY (l m:List av):List av:=l.map λb=>⟨b.var,ep m b.term⟩
def lG (b:av):Bool:=b.term.v && decide (b.term.s=b.var)
def jt (l:List av) (b:av):List av:=l.takeWhile (λx => !slt b.var x.var)++b::l.dropWhile (λx => !slt b.var x.var)
theorem zop {Z:Type} {p:Z->Bool} {l:List Z} (hi:i<=l.length) (aD:∀ y∈l.take i,p y=true) (hn:∀ x,l[i]? = some x->p x=false):l.takeWhile p=l.take i/\l.dropWhile p=l.drop i:=by
 induction l generalizing i with
 |nil=>simp
 |cons a l ih =>
  cases i with
  |zero =>
   have:=hn a (by simp)
   simp [this]
  |succ i =>
   have ha:=aD a (by simp)
   have:=ih (i:=i) (by simpa using hi) (λy hy=>aD y (by simp [hy])) (λx hx=>hn x (by simpa using hx))
   simp [ha,this]
theorem zrG {b:av} (h:kS l l.length) (hi:i<=l.length) (fm:0 < i->(match l[i - 1]? with|some x=>slt b.var x.var|none=>false)=false) (mN:i < l.length->(match l[i]? with|some x=>slt b.var x.var|none=>false)=true) :
 jt l b=l.take i++b::l.drop i:=by
 unfold jt
 obtain ⟨e1,e2⟩:=zop (p:=λx:av => !slt b.var x.var) hi (λy hy=>by
  obtain ⟨k,hk,rfl⟩:=J6 hy
  rw [hZ] at hk
  rw [List.getElem_take]
  have h0:=fm (by omega)
  have hx:l[i - 1]? = some (l[i - 1]'(by omega)):=i4 (by omega)
  rw [hx] at h0
  simp only at h0
  by_cases he:k=i - 1
  .subst he
   simpa using h0
  .have h2:=Jw h (show k < i - 1 by omega) (i4 (by omega)) hx
   cases h3:slt b.var (l[k]'(by omega)).var
   .rfl
   .rw [Jx h3 h2] at h0
    cases h0) (λx hx=>by
  have h0:=mN (fD.1 hx).1
  rw [hx] at h0
  simpa using h0)
 rw [e1,e2]
theorem Tu {f:av->az} (h:kS l l.length):kS (l.map λb=>⟨b.var,f b⟩) (l.map λb=>(⟨b.var,f b⟩:av)).length:=by
 intro k x y hk hx hy
 rw [fN] at hk
 rw [jS] at hx hy
 simp only [bX] at hx hy
 obtain ⟨x',mU,rfl⟩:=hx
 obtain ⟨y',D3,rfl⟩:=hy
 exact h k x' y' hk mU D3
open Classical in
def jz (l:List av) (v:bf) (t:az):Option (List av) :=
 if ¬ kb l then none
 else if v=⟨#[]⟩\/t.s=⟨#[]⟩ then none
 else if (df l v).2=true then none
 else if lG ⟨v,ep l t⟩=true then none
 else some (jt (hY l [⟨v,ep l t⟩]) ⟨v,ep l t⟩)
def lM (a b:ae):Bool:=decide (a.says=b.says) && (decide (a.pred=b.pred) && (decide (a.n=b.n) && (decide (0<=a.n) && decide (a.n<=4))))
def qA (out:List av) (x y:az):Option (List av) :=
 if x.v=false then (if x=y then some out else none)
 else if (df out x.s).2=true then (if (df out x.s).1=y then some out else none)
 else jz out x.s y
def pH (p g:ae):Nat->List av->Option (List av)
 |0,out=>some out
 |n+1,out=>(pH p g n out).bind λo=>qA o (p.arg n) (g.arg n)
def oN (l:List av) (x:az):Bool:=x.v && (decide (x.s=⟨#[]⟩) || ((df l x.s).2 && (df l x.s).1.v))
open Classical in
def cz (l:List av) (p g:ae):Option (List av) :=
 if ¬ kb l\/lM p g=false\/g.ground=false then none
 else if ∃ i:Nat,i < 4/\(i:Int) < p.n/\oN l (p.arg i)=true then none
 else pH p g p.n.toNat l
end Go.Am
