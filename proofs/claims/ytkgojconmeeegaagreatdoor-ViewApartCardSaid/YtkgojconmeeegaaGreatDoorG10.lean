/- Arguments that are slices, by what they hold. No condition. -/
import Derived.Test.YtkgojconmeeegaaGreatDoorG9
import Derived.Test.YtkgojconmeeegaaGreatDoorG7
import Derived.Test.YtkgojconmeeegaaGreatDoorG6
set_option linter.unusedSimpArgs false
set_option linter.unusedVariables false
namespace Go.Am
theorem HS {α:Type} {r:aJ α} {P:Program} {h:Heap} {n:Nat} {t e:TypeId} {v:Value} (hu:P.underlying t=some (.slice e)) (hk:P.cellsOf e=r.k) (vh:∀ cs,ep P h n e cs→∃ x,r.R h cs x) (hs:ep P h (n+1) t [v]):∃ l,Sl r h v l:=by
 unfold ep at hs
 rw [hu] at hs
 rcases hs with hs|⟨A,len,cap,row,u,hv,h1,h2,h3,h4,h5,h6⟩
 ·simp only [List.cons.injEq,and_true] at hs
  subst hs
  exact ⟨[],Sl.nil⟩
 ·simp only [List.cons.injEq,and_true] at hv
  subst hv
  rw [hk] at h5 h6
  have hx:∀ i:Fin len,∃ x,r.R h ((row.drop (i.val*r.k)).take r.k) x:=fun i=>vh _ (h6 i.val i.isLt)
  refine ⟨List.ofFn fun i=>Classical.choose (hx i),.inr ⟨A,0,cap,row,u,true,by rw [List.length_ofFn],by rw [List.length_ofFn];omega,.inl ⟨by unfold G;unfold maxLen at h2;omega,by rw [List.length_ofFn];exact h1⟩,h3,h4,fun i x hi=>?_⟩⟩
  rw [List.getElem?_ofFn] at hi
  split at hi
  ·rename_i aR
   simp only [Option.some.injEq] at hi
   subst hi
   refine ⟨_,?_,Classical.choose_spec (hx ⟨i,aR⟩)⟩
   unfold cut
   have:i*r.k+r.k≤len*r.k:=by rw [← Nat.succ_mul];exact Nat.mul_le_mul_right _ (by omega)
   rw [Nat.zero_add,if_pos (by omega)]
  ·cases hi
end Go.Am
namespace Go.Proofs.YtkgojconmeeegaaGreatDoor
open Go.Am
set_option maxRecDepth 100000
theorem zsO {α:Type} {l:List α} (h:l.length=11):∃ a0 a1 a2 a3 a4 a5 a6 a7 a8 a9 E8,l=[a0,a1,a2,a3,a4,a5,a6,a7,a8,a9,E8]:=by
 match l,h with
 | [a0,a1,a2,a3,a4,a5,a6,a7,a8,a9,E8],_=>exact ⟨_,_,_,_,_,_,_,_,_,_,_,rfl⟩
theorem zi0:Tryz.prog.cellsOf 34=11:=by kernel_rfl
theorem zpD:Tryz.prog.cellsOf 31=2:=by kernel_rfl
theorem zst:Tryz.prog.cellsOf 9=1:=by kernel_rfl
theorem CD {h:Heap} {n:Nat} {cs:List Value} (hs:ep Tryz.prog h (n+1) 9 cs):∃ s:ByteArray,cs=[.string s]:=by
 unfold ep at hs
 rw [Tryz.underlying9] at hs
 exact ⟨hs.choose,hs.choose_spec.1⟩
theorem zCU {h:Heap} {n:Nat} {cs:List Value} (hs:ep Tryz.prog h (n+1) 4 cs):∃ b:Bool,cs=[.bool b]:=by
 unfold ep at hs
 rw [Tryz.underlying4] at hs
 exact hs
theorem R1 {h:Heap} {n:Nat} {cs:List Value} (hs:ep Tryz.prog h (n+1) 3 cs):∃ b:Int,cs=[.int .i64 b]∧(Lit.int .i64 b).wf=true:=by
 unfold ep at hs
 rw [Tryz.underlying3] at hs
 exact hs
theorem Xu {h:Heap} {n:Nat} {x y:Value} (hs:ep Tryz.prog h (n+2) 31 [x,y]):∃ (b:Bool) (s:ByteArray),x=.bool b∧y=.string s:=by
 unfold ep at hs
 rw [Tryz.underlying31] at hs
 obtain ⟨_,hf⟩:=hs
 have h0:ep Tryz.prog h (n+1) 4 (([x,y].drop 0).take 1):=hf 0 _ rfl
 have h1:ep Tryz.prog h (n+1) 9 (([x,y].drop 1).take 1):=hf 1 _ rfl
 obtain ⟨b,hb⟩:=zCU h0
 obtain ⟨s,hs⟩:=CD h1
 simp at hb hs
 exact ⟨b,s,hb,hs⟩
theorem Xt {h:Heap} {n:Nat} {cs:List Value} (hs:ep Tryz.prog h (n+4) 34 cs):∃ a:ab,cs=a.cells:=by
 unfold ep at hs
 rw [Tryz.underlying34] at hs
 obtain ⟨hl,hf⟩:=hs
 rw [zi0] at hl
 obtain ⟨a0,a1,a2,a3,a4,a5,a6,a7,a8,a9,E8,rfl⟩:=zsO hl
 have h0:ep Tryz.prog h (n+3) 9 (([a0,a1,a2,a3,a4,a5,a6,a7,a8,a9,E8].drop 0).take 1):=hf 0 _ rfl
 have h1:ep Tryz.prog h (n+3) 9 (([a0,a1,a2,a3,a4,a5,a6,a7,a8,a9,E8].drop 1).take 1):=hf 1 _ rfl
 have h2:ep Tryz.prog h (n+3) 3 (([a0,a1,a2,a3,a4,a5,a6,a7,a8,a9,E8].drop 2).take 1):=hf 2 _ rfl
 have h3:ep Tryz.prog h (n+3) 32 (([a0,a1,a2,a3,a4,a5,a6,a7,a8,a9,E8].drop 3).take 8):=hf 3 _ rfl
 obtain ⟨s,hs⟩:=CD h0
 obtain ⟨p,hp⟩:=CD h1
 obtain ⟨i,hi,_⟩:=R1 h2
 unfold ep at h3
 rw [Tryz.underlying32] at h3
 obtain ⟨_,hg⟩:=h3
 have g0:=hg 0 (by omega)
 have g1:=hg 1 (by omega)
 have g2:=hg 2 (by omega)
 have g3:=hg 3 (by omega)
 simp only [zpD] at g0 g1 g2 g3
 obtain ⟨b0,s0,e0,e0'⟩:=Xu g0
 obtain ⟨b1,s1,e1,e1'⟩:=Xu g1
 obtain ⟨b2,s2,e2,e2'⟩:=Xu g2
 obtain ⟨b3,s3,e3,e3'⟩:=Xu g3
 simp at hs hp hi
 subst hs hp hi e0 e0' e1 e1' e2 e2' e3 e3'
 exact ⟨⟨s,p,i,⟨b0,s0⟩,⟨b1,s1⟩,⟨b2,s2⟩,⟨b3,s3⟩⟩,rfl⟩
theorem zoS {h:Heap} {n:Nat} {v:Value} (hs:ep Tryz.prog h (n+5) 44 [v]):∃ l,Sl aJ.atom h v l :=
 HS Tryz.underlying44 zi0 (fun cs hc=>Xt hc) hs
theorem zsh {P:Program} {h:Heap} {n:Nat} {ts us:List TypeId} {args:List Value} (e:ts=us) (hs:y8 P h n ts args):y8 P h n us args:=by
 subst e
 exact hs
theorem WO {P:Program} {h:Heap} {n:Nat} {t:TypeId} {ts:List TypeId} {args:List Value} (hs:y8 P h n (t::ts) args):∃ v vs,args=v::vs∧vG P h n t v∧y8 P h n ts vs:=by
 cases args with
 |nil=>exact absurd hs id
 |cons v vs=>exact ⟨v,vs,rfl,hs.1,hs.2⟩
theorem zpt {P:Program} {h:Heap} {n:Nat} {args:List Value} (hs:y8 P h n [] args):args=[]:=by
 cases args with
 |nil=>rfl
 |cons v vs=>exact absurd hs id
end Go.Proofs.YtkgojconmeeegaaGreatDoor
namespace Go.Am
theorem Ow.slice {α:Type} {r:aJ α} {h0 h:Heap} {e A:Nat} {v:Value} {l:List α} (f:Ow r h0 h e A v l):∃ a n c,v=.slice a n c:=by
 rcases f with ⟨_,_,rfl|⟨B,o,rfl,_⟩⟩|⟨row,rfl,_⟩
 ·exact ⟨_,_,_,rfl⟩
 ·exact ⟨_,_,_,rfl⟩
 ·exact ⟨_,_,_,rfl⟩
theorem Ow.any {α:Type} {r:aJ α} {h0 h:Heap} {e A:Nat} {v:Value} (f:Ow r h0 h e A v []) (B:Nat) (hB:h0.size≤B):Ow r h0 h e B v []:=by
 rcases f with ⟨_,h2,h3⟩|⟨row,_,h2,_⟩
 ·exact .inl ⟨hB,h2,h3⟩
 ·exact absurd rfl h2
theorem UT {A:Nat} {h:Heap} (hA:h.size≤A):kill A h=h:=if_neg (by omega)
section
variable {P:Program} {T:bK} {ov:Ov}
theorem xQ {b:Nat} {ops:Array Oper} {l:List Oper} {j:Nat} {d:Option Tmp} {Q:Env→Heap→Prop} {e:Env} {hh:Heap} {bs:List bh} {w s:Nat} {v:Value} (hb:b≤hh.size) (hs:hh.size≤s)
 (hk:cx P T ov b ops l (j+1) (put e d v) (hh.lay bs s) Q):Dh P T ov b ops l j d Q e (hh.lay [] w) v (hh.lay bs s):=by
 refine ⟨⟨⟨.inl ?_,?_,?_⟩,hk⟩⟩
 ·rw [bm];show hh.size+0≤s;omega
 ·show b≤s;omega
 ·rw [bm,bm];simp
end
theorem JO (a:ab) (z0 z1 z2 z3 z4 z5 z6 z7 z8 z9 xP:Value):mb (fun i=>some (i*11,11)) [z0,z1,z2,z3,z4,z5,z6,z7,z8,z9,xP] [(0,a.val)]=some a.cells:=rfl
section
variable {h1:Heap} {bs:List bh} {w:Nat} {T:bK} {K:Value→Heap→Prop} {t e s:TypeId} {v p:Value} {kd:IntKind} {i:Int}
theorem pT {l:List ab} {x:ab} (f:Sl aJ.atom h1 v l) (hd:T.desc t=some (.slice e)) (hs:bJ T e=some 11) (h0:0≤i) (hx:l[i.toNat]? = some x) (hk:∀ p,eZ h1 p (x.cells)→K p (h1.lay bs w)):aW (fW T t v (.int kd i)) (h1.lay bs w) K :=
 YU f hd hs h0 (by have:=(List.getElem?_eq_some_iff.1 hx).1;omega) fun x' p lU hp=>by
  obtain rfl:x=x':=Option.some.inj (hx.symm.trans lU)
  exact hk p hp
theorem Sj {l:List aX} {x:aX} (f:Sl aJ.term h1 v l) (hd:T.desc t=some (.slice e)) (hs:bJ T e=some 2) (h0:0≤i) (hx:l[i.toNat]? = some x) (hk:∀ p,eZ h1 p (x.cells)→K p (h1.lay bs w)):aW (fW T t v (.int kd i)) (h1.lay bs w) K :=
 ixt f hd hs h0 (by have:=(List.getElem?_eq_some_iff.1 hx).1;omega) fun x' p lU hp=>by
  obtain rfl:x=x':=Option.some.inj (hx.symm.trans lU)
  exact hk p hp
theorem qV {l:List ByteArray} {x:ByteArray} (f:Sl aJ.str h1 v l) (hd:T.desc t=some (.slice e)) (hs:bJ T e=some 1) (h0:0≤i) (hx:l[i.toNat]? = some x) (hk:∀ p,eZ h1 p ([.string x])→K p (h1.lay bs w)):aW (fW T t v (.int kd i)) (h1.lay bs w) K :=
 ixs f hd hs h0 (by have:=(List.getElem?_eq_some_iff.1 hx).1;omega) fun x' p lU hp=>by
  obtain rfl:x=x':=Option.some.inj (hx.symm.trans lU)
  exact hk p hp
theorem Si {l:List bZ} {x:bZ} (f:Sl aJ.clause h1 v l) (hd:T.desc t=some (.slice e)) (hs:bJ T e=some 12) (h0:0≤i) (hx:l[i.toNat]? = some x) (hk:∀ p b,Sl aJ.atom h1 b x.body→eZ h1 p (x.head.cells++[b])→K p (h1.lay bs w)):aW (fW T t v (.int kd i)) (h1.lay bs w) K :=
 ixc f hd hs h0 (by have:=(List.getElem?_eq_some_iff.1 hx).1;omega) fun x' p b lU hb hp=>by
  obtain rfl:x=x':=Option.some.inj (hx.symm.trans lU)
  exact hk p b hb hp
theorem eU {α:Type} {l:List α} {i:Nat} (h:(i:Int) < l.length):∃ x,l[(i:Int).toNat]? = some x∧l[i]? = some x:=⟨l[i]'(by omega),by simp,by simp⟩
end
section
variable {P:Program} {T:bK}
theorem Uk {op:BinOp} {t:TypeId} {k:IntKind} {a b:Int} {v:Value} (hf:rp op (.int k a) (.int k b)=none) (hp:iH P (binOp op t (.int k a) (.int k b))=some v) (hv:plain v=true):cw P T op t (.int k a) (.int k b)=some v:=by
 have h1:((T.desc t).bind fun d=>EO d (.int k a) (.int k b))=none:=by
  cases T.desc t with
  |none=>rfl
  |some d=>cases d <;> rfl
 unfold cw
 rw [hf]
 simp only [h1]
 rw [if_pos (show (plain (Value.int k a) && plain (Value.int k b))=true from rfl)]
 rw [hp,Option.bind_some,if_pos hv]
theorem zFj {t:TypeId} {k:IntKind} {a b:Int} (hb:b≠0):cw P T .rem t (.int k a) (.int k b)=some (.int k (a.tmod b)):=by
 refine Uk rfl ?_ rfl
 simp [binOp,Op.intDiv,hb,za]
theorem zuw {t:TypeId} {k:IntKind} {a b:Int} (hb:b≠0):cw P T .quo t (.int k a) (.int k b)=some (.int k (k.wrap (a.tdiv b))):=by
 refine Uk rfl ?_ rfl
 simp [binOp,Op.intDiv,hb,za]
end
end Go.Am
namespace Go.Am
def j4 {α:Type} (p:α→Bool) (l:List α):Int:=match l.findIdx? p with
 |some i=>i
 |none => -1
theorem JQ {α:Type} {p:α→Bool} {l:List α} {i:Nat} {x:α} (hx:l[i]? = some x) (aB:∀ y∈l.take i,p y=false) (hp:p x=true):j4 p l=i:=by
 have:l.findIdx? p=some i:=by
  induction l generalizing i with
  |nil=>simp at hx
  |cons a l ih =>
   rw [List.findIdx?_cons]
   cases i with
   |zero =>
    simp at hx
    subst hx
    simp [hp]
   |succ i =>
    have ha:=aB a (by simp)
    rw [ha]
    have:=ih (i:=i) (by simpa using hx) (fun y hy=>aB y (by simp [hy]))
    simp [this]
 unfold j4
 rw [this]
theorem JX {α:Type} {p:α→Bool} {l:List α} (aB:∀ y∈l,p y=false):j4 p l = -1:=by
 have:l.findIdx? p=none:=by rw [List.findIdx?_eq_none_iff];exact aB
 unfold j4
 rw [this]
theorem Xz {α:Type} (p:α→Bool) (l:List α):decide (j4 p l ≥ 0)=l.any p:=by
 unfold j4
 cases h:l.findIdx? p with
 |none =>
  rw [List.findIdx?_eq_none_iff] at h
  have:l.any p=false:=by rw [List.any_eq_false];intro x hx;rw [h x hx];decide
  rw [this]
  decide
 |some i =>
  have h2:∃ x∈l,p x=true:=by
   have:=List.findIdx?_isSome (xs:=l) (p:=p)
   rw [h] at this
   simp at this
   exact this
  have:l.any p=true:=by rw [List.any_eq_true];exact h2
  rw [this]
  simp
theorem vB (a:ab):a.args.length=a.cL:=by
 unfold ab.args ab.cL
 rw [List.length_take]
 simp only [List.length_cons,List.length_nil]
 omega
theorem zGI {H:Heap} {A o:Nat} {a:ab} {u:TypeId} {ro:Bool} (q:Holds H A (.row a.cells u ro)) (ho:o=3):Sl aJ.term H (.slice (some ⟨A,o,none⟩) a.cL 4) a.args:=by
 subst ho
 have hc:a.cL≤4:=by unfold ab.cL;omega
 refine .inr ⟨A,3,4,a.cells,u,ro,by rw [vB],by rw [vB];unfold maxLen;omega,.inl ⟨by decide,by rw [vB];exact hc⟩,q.lt,q.get,fun i x hx=>?_⟩
 have hi:i < a.cL:=by have:=(List.getElem?_eq_some_iff.1 hx).1;rw [vB] at this;exact this
 unfold ab.args at hx
 rw [List.getElem?_take_of_lt hi] at hx
 have:i=0∨i=1∨i=2∨i=3:=by omega
 rcases this with rfl|rfl|rfl|rfl <;> (simp at hx;subst hx;exact ⟨_,rfl,rfl⟩)
theorem eM (a:ab):cut a.cells 0 11=some a.cells:=rfl
theorem eh (a:ab):Value.agg a.cells.toArray=a.val:=rfl
theorem ec (a:ab):a.val.cells.toList=a.cells:=rfl
theorem dC (a:ab) (h:Heap) (K:Value→Heap→Prop):aW (some a.val) h K=K a.val h:=rfl
theorem RF (a:aX) (h:Heap) (K:Value→Heap→Prop):aW (some a.val) h K=K a.val h:=rfl
def ab.ground (a:ab):Bool := !a.args.any (·.v)
end Go.Am
namespace Go.Am
section
variable {α:Type} {r:aJ α} {h0 h h1:Heap} {v:Value} {l:List α} {t e:TypeId} {T:bK} {bs:List bh} {w:Nat} {K:Value→Heap→Prop}
def dS (x:Option Value) (d n:Nat):Prop:=(x=none∧n=d)∨∃ kd,x=some (.int kd n)
theorem dS.no (n:Nat):dS none n n:=.inl ⟨rfl,rfl⟩
theorem dS.num (kd:IntKind) (d n:Nat):dS (some (.int kd n)) d n:=.inr ⟨kd,rfl⟩
theorem JM {kd:IntKind} {n hi:Nat} (hn:n≤hi):yf (.int kd n) hi=some n:=by
 have:(0:Int)≤n∧(n:Int)≤hi:=by omega
 simp only [yf,this,and_self,if_true,Int.toNat_natCast]
theorem Rp {n c a b:Nat} {lo hi:Option Value} (cV:dS lo 0 a) (lP:dS hi n b) (wB:a≤b) (hbc:b≤c):rq n c lo hi none=some (a,b,c):=by
 unfold rq
 rcases cV with ⟨rfl,rfl⟩|⟨kd,rfl⟩ <;> rcases lP with ⟨rfl,rfl⟩|⟨kd2,rfl⟩ <;> simp [JM,wB,hbc]
theorem OO:0 < G:=by unfold G;omega
theorem CK {k q:Nat} (hk:0 < k) (hq:q < G):G≤G*k+q∧(G*k+q) / G=k∧(G*k+q) % G=q:=by
 obtain ⟨c1,c2,c3⟩:=CL (k:=k) (q:=q) hk hq
 exact ⟨by omega,c3,c2⟩
theorem Sl.sub (f:Sl r h v l) (hk:0 < r.k) (hd:T.desc t=some (.slice e)) (hs:bJ T e=some r.k) {a b:Nat} {lo hi:Option Value} (cV:dS lo 0 a) (lP:dS hi l.length b) (wB:a≤b) (hb:b≤l.length) :
 ∃ v',ki T t v lo hi none=some v'∧Sl r h v' ((l.take b).drop a):=by
 have hlen:((l.take b).drop a).length=b - a:=by simp;omega
 have vh:∀ (i:Nat) (x:α),((l.take b).drop a)[i]? = some x→l[a+i]? = some x∧i < b - a:=by
  intro i x hx
  have:=(List.getElem?_eq_some_iff.1 hx).1
  rw [hlen] at this
  rw [List.getElem?_drop,List.getElem?_take_of_lt (by omega)] at hx
  exact ⟨hx,this⟩
 rcases f with ⟨rfl,rfl⟩|⟨A,o,c,row,u,ro,rfl,e2,e3,e4,e5,e6⟩
 ·have Nl:b=0:=by simpa using hb
  subst Nl
  have Nf:a=0:=by omega
  subst Nf
  refine ⟨.slice none 0 0,?_,by simpa using Sl.nil⟩
  unfold ki
  simp only [hd,hs,Option.bind_some,if_pos OO]
  have:=Rp (n:=0) (c:=0) cV (by simpa using lP) (Nat.le_refl 0) (Nat.le_refl 0)
  rw [this]
  rfl
 ·rcases e3 with ⟨c1,c2⟩|⟨c1,c2,c3⟩
  ·refine ⟨.slice (some ⟨A,if c=a then o else o+a*r.k,none⟩) (b - a) (c - a),?_,?_⟩
   ·unfold ki
    simp only [hd,hs,Option.bind_some,if_pos c1]
    rw [Rp cV lP wB (by omega)]
    rfl
   ·refine .inr ⟨A,_,c - a,row,u,ro,by rw [hlen],by rw [hlen];omega,.inl ⟨by omega,by rw [hlen];omega⟩,e4,e5,fun i x hx=>?_⟩
    obtain ⟨hx,hi⟩:=vh i x hx
    obtain ⟨cs,g1,g2⟩:=e6 _ _ hx
    refine ⟨cs,?_,g2⟩
    rw [if_neg (by omega),Nat.add_assoc,← Nat.add_mul]
    exact g1
  ·refine ⟨.slice (some ⟨A,o+a*r.k,none⟩) (b - a) (G*r.k+(c % G - a)),?_,?_⟩
   ·unfold ki
    simp only [hd,hs,Option.bind_some,if_neg (show ¬ c < G by omega),if_pos c2]
    rw [Rp cV lP wB (by omega)]
    rfl
   ·have hm:=Nat.mod_lt c OO
    obtain ⟨d1,d2,d3⟩:=CK (k:=r.k) (q:=c % G - a) hk (by omega)
    refine .inr ⟨A,_,_,row,u,ro,by rw [hlen],by rw [hlen];omega,.inr ⟨d1,d2,by rw [hlen,d3];omega⟩,e4,e5,fun i x hx=>?_⟩
    obtain ⟨hx,hi⟩:=vh i x hx
    obtain ⟨cs,g1,g2⟩:=e6 _ _ hx
    refine ⟨cs,?_,g2⟩
    rw [Nat.add_assoc,← Nat.add_mul]
    exact g1
theorem zr0 (f:Sl r h1 v l) (hk:0 < r.k) (hd:T.desc t=some (.slice e)) (hs:bJ T e=some r.k) {a b:Nat} {lo hi:Option Value} (cV:dS lo 0 a) (lP:dS hi l.length b) (wB:a≤b) (hb:b≤l.length)
 (hK:∀ v',Sl r h1 v' ((l.take b).drop a)→K v' (h1.lay bs w)):aW (ki T t v lo hi none) (h1.lay bs w) K:=by
 obtain ⟨v',g1,g2⟩:=f.sub hk hd hs cV lP wB hb
 rw [g1]
 exact hK v' g2
theorem zGY (f:Sl r h1 v l) (hk:0 < r.k) (hd:T.desc t=some (.slice e)) (hs:bJ T e=some r.k) {b:Nat} {kd:IntKind} (hb:b≤l.length)
 (hK:∀ v',Sl r h1 v' (l.take b)→K v' (h1.lay bs w)):aW (ki T t v none (some (.int kd b)) none) (h1.lay bs w) K :=
 zr0 f hk hd hs (dS.no 0) (dS.num kd _ b) (Nat.zero_le _) hb (fun v' h=>hK v' (by simpa using h))
theorem zvg (f:Sl r h1 v l) (hk:0 < r.k) (hd:T.desc t=some (.slice e)) (hs:bJ T e=some r.k) {a:Nat} {kd:IntKind} (ha:a≤l.length)
 (hK:∀ v',Sl r h1 v' (l.drop a)→K v' (h1.lay bs w)):aW (ki T t v (some (.int kd a)) none none) (h1.lay bs w) K :=
 zr0 f hk hd hs (dS.num kd _ a) (dS.no _) ha (Nat.le_refl _) (fun v' h=>hK v' (by rw [List.take_length] at h;exact h))
theorem zyB {k bytes:Nat} {z:List Value} {base:Option Addr} {x:Value} {l2:List α} (hd:T.desc t=some (.slice e)) (hi:T.info e=some (k,bytes,z)) (DZ:r.k=k) (hk:0 < k) (hz:h0.size≤h.size)
 (f:Sl r h (.slice base l.length l.length) l) {m:Nat} {news:List Value} (hs:fO x k h=some (m,news)) (mR:Src r h m news l2) (yv:0 < m)
 (hb:(l.length+m)*bytes≤140737488355328) (hl:l.length+m≤1152921504606846976) :
 ∃ v' h',hZ T t (.slice base l.length l.length) x h=some (v',h')∧Ow r h0 h' e h.size v' (l++l2)∧Ext h h':=by
 subst DZ
 obtain ⟨hm,Gz,h1,xg⟩:=mR
 obtain ⟨qJ,s1,B1,Pr,Y7,TK⟩:=tk (A:=h.size) hk f (fun cs y hr=>by rw [UT (Nat.le_refl _)];exact hr)
 rw [UT (Nat.le_refl _)] at TK
 have mI:nc (.slice base l.length l.length) r.k h=some qJ:=by
  simp only [fO,Option.map_eq_some_iff,Prod.mk.injEq] at s1
  obtain ⟨a,ha,_,rfl⟩:=s1
  exact ha
 have Yz:l.length < G:=by unfold G;omega
 have wZ:l.length % G=l.length:=Nat.mod_eq_of_lt Yz
 refine ⟨.slice (some ⟨h.size,0,none⟩) (l.length+m) (G*r.k+(l.length+m)),h.push (.row (qJ++news) e false),?_,?_,?_⟩
 ·unfold hZ
  simp only [hd,hi,hs,Option.bind_some]
  rw [if_neg (by omega),if_neg,if_neg (by rw [wZ];omega)]
  ·simp only [mI,Option.bind_some]
   rw [if_pos Yz]
  ·simp only [Bool.or_eq_true,decide_eq_true_eq,Bool.not_eq_true',h1,not_or]
   exact ⟨⟨⟨by omega,by omega⟩,by omega⟩,by simp⟩
 ·have vj:cn h ((h.push (.row (qJ++news) e false)).set h.size .dead):=⟨by rw [Heap.size_set,Heap.size_push];omega,fun B hB _=>by
   rw [Heap.aD _ _ _ _ (by rw [Heap.size_push];omega),if_neg (by omega),Heap.bu,if_neg (by omega)]⟩
  refine .inr ⟨qJ++news,by rw [List.length_append,hm],fun hh=>?_,hz,by rw [Heap.size_push];omega,by rw [Heap.bu,if_pos rfl],by rw [List.length_append,List.length_append,Pr,Gz,hm,Nat.add_mul],by rw [List.length_append,hm];exact hl,fun i y hy=>?_⟩
  ·have:=congrArg List.length hh
   rw [List.length_append,hm] at this
   simp at this
   omega
  ·by_cases hi:i < l.length
   ·rw [List.getElem?_append_left hi] at hy
    obtain ⟨cs,g1,g2⟩:=TK i y hy
    exact ⟨cs,UK g1,r.mono _ _ _ _ vj g2⟩
   ·rw [List.getElem?_append_right (by omega)] at hy
    obtain ⟨cs,g1,g2⟩:=xg _ y hy
    refine ⟨cs,?_,r.mono _ _ _ _ vj g2⟩
    have:=Ug (a:=qJ) g1
    rwa [Pr,← Nat.add_mul,show l.length+(i - l.length)=i by omega] at this
 ·refine ⟨by rw [Heap.size_push];omega,fun A hA=>by rw [Heap.bu,if_neg (by omega)],by rw [Heap.de];omega⟩
end
end Go.Am
namespace Go.Am
def slt (a b:ByteArray):Bool:=Op.bytesLess a.data.toList b.data.toList
def zHe (l:List iT) (m:Nat):Prop:=∀ k x y,k+1 < m→l[k]? = some x→l[k+1]? = some y→slt x.var y.var=true
end Go.Am
namespace Go.Am
section
variable {P:Program} {T:bK} {ov:Ov} {d:Option Tmp} {ty:TypeId} {pos:String} {af:Array Edge} {g:Option (Nat × Bool)} {e:Env} {h:Heap} {K:Value→Heap→Prop}
theorem Rw (t:TypeId):cu P T ov ⟨d,.makeMap t none,ty,pos,af,g⟩ e h K=K (.map (some h.size)) (h.push (.map [] 0)):=rfl
theorem Er (t:TypeId) (x k:Operand) (ok:Bool):cu P T ov ⟨d,.lookup t x k ok,ty,pos,af,g⟩ e h K=aW (xX T t (bn e x) (bn e k) ok h) h K:=by rw [← vD];rfl
theorem W3 (t:TypeId) (m k x:Operand):cu P T ov ⟨d,.mapUpdate t m k x,ty,pos,af,g⟩ e h K=iw (oB T t (bn e m) (bn e k) (bn e x) h) K:=by
 show cq ((oB T t (bn e m) (bn e k) (bn e x) h).map fun h'=>(undef,h')) K=_
 cases oB T t (bn e m) (bn e k) (bn e x) h <;> rfl
end
section
variable {T:bK} {t kt et:TypeId} {A:Nat} {met:List ab} {a:ab} {h1:Heap} {bs:List bh} {w:Nat} {K:Value→Heap→Prop} {z:Value}
end
theorem zwC {T:bK} {t u:TypeId} {A n:Nat} {cs:List Value} {v:Value} {h1:Heap} {bs:List bh} {w:Nat} {K:Value→Heap→Prop} (q:Holds h1 A (.row cs u false)) (hs:bJ T t=some n) (hv:v.cells.toList.length=n) (hl:cs.length=n) (bH:v.cells.toList.all one=true)
 (hK:∀ h',Holds h' A (.row v.cells.toList u false)→fp A (h1.lay bs w) h'→K undef h'):iw (ic T t (.pointer (some ⟨A,0,none⟩)) v (h1.lay bs w)) K:=by
 have hg:(h1.lay bs w).get A=some (.row cs u false):=q.lay bs w
 have hA:A < (h1.lay bs w).size:=(q.on bs w).lt
 have dz:v.cells.size=n:=by rw [← hv];simp
 have hw:kj A 0 v.cells.toList (h1.lay bs w)=some ((h1.lay bs w).set A (.row v.cells.toList u false)):=by
  unfold kj
  rw [hg]
  simp only
  rw [if_pos (by simp only [Bool.and_eq_true,decide_eq_true_eq];exact ⟨by omega,bH⟩)]
  congr 2
  unfold az
  rw [List.take_zero,List.nil_append,List.drop_of_length_le (by omega),List.append_nil]
 have he:ic T t (.pointer (some ⟨A,0,none⟩)) v (h1.lay bs w)=some ((h1.lay bs w).set A (.row v.cells.toList u false)):=by
  unfold ic
  simp only [hs,Option.bind_some]
  rw [if_pos dz]
  exact hw
 rw [he]
 refine hK _ ⟨by rw [Heap.size_set];exact hA,by rw [Heap.aD _ _ _ _ hA,if_pos rfl]⟩ ⟨by rw [Heap.size_set];exact Nat.le_refl _,fun B hB aP=>by rw [Heap.aD _ _ _ _ hA,if_neg aP],by rw [Heap.bW];omega⟩
theorem zsu (t:aX):t.val.cells.toList=t.cells:=rfl
end Go.Am
namespace Go.Am
def Kw:List UInt8:=[32,115,97,121,115,32]
def dm:List UInt8:=[44,32]
def jo (a:ab):List (List UInt8):=a.args.map fun t=>t.s.data.toList
def cI (a:ab):List UInt8:=a.says.data.toList++Kw++a.pred.data.toList++(if a.args=[] then [] else [40]++Lib.join (jo a) dm++[41])
def aQ (a b:ab):Int:=Lib.compareBytes (cI a) (cI b)
theorem vH (a b:ByteArray):(a++b).data.toList=a.data.toList++b.data.toList:=by
 rw [ByteArray.data_append,Array.toList_append]
theorem Ff (x:ByteArray):x.data.toList.length=x.size:=by rw [Array.length_toList];rfl
theorem zwD {row:List Value}:∀ (xs:List ByteArray) (o:Nat),(∀ (i:Nat) (x:ByteArray),xs[i]? = some x→cut row (o+i) 1=some [.string x])→cut row o xs.length=some (xs.map Value.string)∨xs=[]
 | [],o,h=>.inr rfl
 |x::xs,o,h=>by
  left
  have h0:=h 0 x rfl
  rw [Nat.add_zero] at h0
  have hr:=zwD xs (o+1) (fun i y hy=>by
   have:=h (i+1) y hy
   rwa [show o+(i+1)=o+1+i by omega] at this)
  unfold cut at h0 hr ⊢
  split at h0
  ·rename_i hle
   simp only [Option.some.injEq] at h0
   rcases hr with hr|rfl
   ·split at hr
    ·rename_i ar0
     simp only [Option.some.injEq] at hr
     rw [if_pos (by simp only [List.length_cons];omega)]
     simp only [List.length_cons,List.map_cons,Option.some.injEq]
     have e1:(row.drop o).take (xs.length+1)=(row.drop o).take 1++((row.drop o).drop 1).take xs.length:=by
      rw [Nat.add_comm,List.take_add]
     rw [e1,h0,List.drop_drop,hr]
     rfl
    ·cases hr
   ·rw [if_pos (by simp only [List.length_cons,List.length_nil];omega)]
    simp only [List.length_cons,List.length_nil,List.map_cons,List.map_nil]
    rw [h0]
  ·cases h0
theorem zC2 (xs:List ByteArray):strs (xs.map Value.string)=some xs:=by
 induction xs with
 |nil=>rfl
 |cons x xs ih=>simp only [List.map_cons,strs,ih,Option.map_some]
theorem zGk {h:Heap} {v:Value} {xs:List ByteArray} {sep:ByteArray} (f:Sl aJ.str h v xs) (aP:xs≠[]) (hl:xs.length≤1000) (hj:(Lib.join (xs.map (·.data.toList)) sep.data.toList).length≤100000) :
 Ii [v,.string sep] h=some (.string ⟨(Lib.join (xs.map (·.data.toList)) sep.data.toList).toArray⟩,h):=by
 rcases f with ⟨_,e⟩|⟨A,o,c,row,u,ro,rfl,_,_,_,hg,vh⟩
 ·exact absurd e aP
 ·have kC:xs.length≠0:=fun e=>aP (List.length_eq_zero_iff.1 e)
  have hc:cut row o xs.length=some (xs.map Value.string):=by
   rcases zwD (row:=row) xs o (fun i x hx=>by
    obtain ⟨cs,g1,g2⟩:=vh i x hx
    have g2':cs=[.string x]:=g2
    rw [g2'] at g1
    have g1':cut row (o+i*1) 1=some [.string x]:=g1
    rwa [Nat.mul_one] at g1') with h1|h1
   ·exact h1
   ·exact absurd h1 aP
  unfold Ii
  simp only [kC,if_false,gQ,hg,hc,Option.bind_some,zC2]
  rw [if_pos ⟨by omega,by omega⟩]
theorem zGf {a b d:Heap} {A:Nat} (i:cn a b) (c:fp A b d) (hA:a.size≤A):cn a d:=⟨Nat.le_trans i.size c.size,fun B hB hd=>(c.get B (Nat.lt_of_lt_of_le hB i.size) (by omega)).trans (i.get B hB hd)⟩
theorem zx9 {a:ab} (h:a.args.length=0):cI a=a.says.data.toList++Kw++a.pred.data.toList:=by
 have:a.args=[]:=List.length_eq_zero_iff.1 h
 unfold cI
 rw [if_pos this,List.append_nil]
theorem Cg {s:ByteArray} {l:List UInt8} (h:s.data.toList=l):s=⟨l.toArray⟩:=by
 apply Dd
 rw [h]
theorem zrB:∀ (l:List (List UInt8)) (m:Nat),(∀ x∈l,x.length≤m)→(Lib.join l dm).length≤l.length*(m+2)
 | [],m,_=>by simp [Lib.join]
 | [x],m,h=>by
  rw [Lib.join_one]
  have:=h x (by simp)
  simp
  omega
 |x::y::l,m,h=>by
  have e:(Lib.join (x::y::l) dm).length=x.length+dm.length+(Lib.join (y::l) dm).length:=by simp [Lib.join,List.intercalate];omega
  have h1:=zrB (y::l) m (fun z hz=>h z (by simp only [List.mem_cons] at hz ⊢;exact .inr hz))
  have h2:=h x (by simp)
  have h3:dm.length=2:=rfl
  rw [e]
  simp only [List.length_cons,Nat.succ_mul] at h1 ⊢
  omega
theorem zsP {a:ab} (h:a.aT=true):∀ t∈a.args,t.s.size≤300:=by
 intro t ht
 have h1:=List.mem_of_mem_take ht
 simp only [List.mem_cons,List.not_mem_nil,or_false] at h1
 rcases h1 with rfl|rfl|rfl|rfl
 ·exact Rz h 0
 ·exact Rz h 1
 ·exact Rz h 2
 ·exact Rz h 3
theorem zsL {a:ab} (h:a.aT=true):(Lib.join (jo a) dm).length≤1300:=by
 have h1:=zrB (jo a) 300 (fun x hx=>by
  unfold jo at hx
  obtain ⟨t,ht,rfl⟩:=List.mem_map.1 hx
  rw [Ff]
  exact zsP h t ht)
 have h2:(jo a).length≤4:=by
  unfold jo
  rw [List.length_map,vB]
  unfold ab.cL
  omega
 have h3:(jo a).length*(300+2)≤4*302:=Nat.mul_le_mul_right _ h2
 omega
theorem zyb {a:ab} (h:¬ a.args.length=0):cI a=a.says.data.toList++Kw++a.pred.data.toList++[40]++Lib.join (jo a) dm++[41]:=by
 have:a.args≠[]:=fun e=>h (by rw [e];rfl)
 unfold cI
 rw [if_neg this]
 simp only [List.append_assoc]
end Go.Am
