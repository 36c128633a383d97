/- Arguments that are slices, by what they hold. No condition. -/
import Derived.Test.YtdplfgoifjjniaaGreatDoorG7
import Derived.Test.YtdplfgoifjjniaaGreatDoorG12
import Derived.Test.YtdplfgoifjjniaaGreatDoorG10
set_option linter.unusedSimpArgs false
set_option linter.unusedVariables false
namespace Go.Am
theorem EY {α:Type} {r:aK α} {P:Program} {h:Heap} {n:Nat} {t e:TypeId} {v:Value} (hu:P.underlying t=some (.slice e)) (hk:P.cellsOf e=r.k) (sF:∀ cs,dX P h n e cs→∃ x,r.R h cs x) (hs:dX P h (n+1) t [v]):∃ l,Sl r h v l:=by
 unfold dX at hs
 rw [hu] at hs
 rcases hs with hs|⟨A,len,cap,row,u,hv,h1,h2,h3,h4,h5,h6⟩
 ·simp only [List.cons.injEq,and_true] at hs
  subst hs
  exact ⟨[],Sl.nil⟩
 ·simp only [List.cons.injEq,and_true] at hv
  subst hv
  rw [hk] at h5 h6
  have hx:∀ i:Fin len,∃ x,r.R h ((row.drop (i.val*r.k)).take r.k) x:=fun i=>sF _ (h6 i.val i.isLt)
  refine ⟨List.ofFn fun i=>Classical.choose (hx i),.inr ⟨A,0,cap,row,u,true,by rw [List.length_ofFn],by rw [List.length_ofFn];omega,.inl ⟨by unfold G;unfold maxLen at h2;omega,by rw [List.length_ofFn];exact h1⟩,h3,h4,fun i x hi=>?_⟩⟩
  rw [List.getElem?_ofFn] at hi
  split at hi
  ·rename_i aS
   simp only [Option.some.injEq] at hi
   subst hi
   refine ⟨_,?_,Classical.choose_spec (hx ⟨i,aS⟩)⟩
   unfold cut
   have:i*r.k+r.k≤len*r.k:=by rw [← Nat.succ_mul];exact Nat.mul_le_mul_right _ (by omega)
   rw [Nat.zero_add,if_pos (by omega)]
  ·cases hi
end Go.Am
namespace Go.Proofs.YtdplfgoifjjniaaGreatDoor
open Go.Am
set_option maxRecDepth 100000
theorem zrn {α:Type} {l:List α} (h:l.length=11):∃ a0 a1 a2 a3 a4 a5 a6 a7 a8 a9 B2,l=[a0,a1,a2,a3,a4,a5,a6,a7,a8,a9,B2]:=by
 match l,h with
 | [a0,a1,a2,a3,a4,a5,a6,a7,a8,a9,B2],_=>exact ⟨_,_,_,_,_,_,_,_,_,_,_,rfl⟩
theorem zim:Tryz.prog.cellsOf 42=11:=by kernel_rfl
theorem zor:Tryz.prog.cellsOf 39=2:=by kernel_rfl
theorem zq0:Tryz.prog.cellsOf 9=1:=by kernel_rfl
theorem Bn {h:Heap} {n:Nat} {cs:List Value} (hs:dX Tryz.prog h (n+1) 9 cs):∃ s:ByteArray,cs=[.string s]:=by
 unfold dX at hs
 rw [Tryz.underlying9] at hs
 exact ⟨hs.choose,hs.choose_spec.1⟩
theorem zzh {h:Heap} {n:Nat} {cs:List Value} (hs:dX Tryz.prog h (n+1) 4 cs):∃ b:Bool,cs=[.bool b]:=by
 unfold dX at hs
 rw [Tryz.underlying4] at hs
 exact hs
theorem MJ {h:Heap} {n:Nat} {cs:List Value} (hs:dX Tryz.prog h (n+1) 3 cs):∃ b:Int,cs=[.int .i64 b]∧(Lit.int .i64 b).wf=true:=by
 unfold dX at hs
 rw [Tryz.underlying3] at hs
 exact hs
theorem Pg {h:Heap} {n:Nat} {x y:Value} (hs:dX Tryz.prog h (n+2) 39 [x,y]):∃ (b:Bool) (s:ByteArray),x=.bool b∧y=.string s:=by
 unfold dX at hs
 rw [Tryz.underlying39] at hs
 obtain ⟨_,hf⟩:=hs
 have h0:dX Tryz.prog h (n+1) 4 (([x,y].drop 0).take 1):=hf 0 _ rfl
 have h1:dX Tryz.prog h (n+1) 9 (([x,y].drop 1).take 1):=hf 1 _ rfl
 obtain ⟨b,hb⟩:=zzh h0
 obtain ⟨s,hs⟩:=Bn h1
 simp at hb hs
 exact ⟨b,s,hb,hs⟩
theorem Pf {h:Heap} {n:Nat} {cs:List Value} (hs:dX Tryz.prog h (n+4) 42 cs):∃ a:ab,cs=a.cells:=by
 unfold dX at hs
 rw [Tryz.underlying42] at hs
 obtain ⟨hl,hf⟩:=hs
 rw [zim] at hl
 obtain ⟨a0,a1,a2,a3,a4,a5,a6,a7,a8,a9,B2,rfl⟩:=zrn hl
 have h0:dX Tryz.prog h (n+3) 9 (([a0,a1,a2,a3,a4,a5,a6,a7,a8,a9,B2].drop 0).take 1):=hf 0 _ rfl
 have h1:dX Tryz.prog h (n+3) 9 (([a0,a1,a2,a3,a4,a5,a6,a7,a8,a9,B2].drop 1).take 1):=hf 1 _ rfl
 have h2:dX Tryz.prog h (n+3) 3 (([a0,a1,a2,a3,a4,a5,a6,a7,a8,a9,B2].drop 2).take 1):=hf 2 _ rfl
 have h3:dX Tryz.prog h (n+3) 40 (([a0,a1,a2,a3,a4,a5,a6,a7,a8,a9,B2].drop 3).take 8):=hf 3 _ rfl
 obtain ⟨s,hs⟩:=Bn h0
 obtain ⟨p,hp⟩:=Bn h1
 obtain ⟨i,hi,_⟩:=MJ h2
 unfold dX at h3
 rw [Tryz.underlying40] at h3
 obtain ⟨_,hg⟩:=h3
 have g0:=hg 0 (by omega)
 have g1:=hg 1 (by omega)
 have g2:=hg 2 (by omega)
 have g3:=hg 3 (by omega)
 simp only [zor] at g0 g1 g2 g3
 obtain ⟨b0,s0,e0,e0'⟩:=Pg g0
 obtain ⟨b1,s1,e1,e1'⟩:=Pg g1
 obtain ⟨b2,s2,e2,e2'⟩:=Pg g2
 obtain ⟨b3,s3,e3,e3'⟩:=Pg g3
 simp at hs hp hi
 subst hs hp hi e0 e0' e1 e1' e2 e2' e3 e3'
 exact ⟨⟨s,p,i,⟨b0,s0⟩,⟨b1,s1⟩,⟨b2,s2⟩,⟨b3,s3⟩⟩,rfl⟩
theorem znL {h:Heap} {n:Nat} {v:Value} (hs:dX Tryz.prog h (n+5) 52 [v]):∃ l,Sl aK.atom h v l :=
 EY Tryz.underlying52 zim (fun cs hc=>Pf hc) hs
theorem zqO {P:Program} {h:Heap} {n:Nat} {ts us:List TypeId} {args:List Value} (e:ts=us) (hs:wi P h n ts args):wi P h n us args:=by
 subst e
 exact hs
theorem zhw {P:Program} {h:Heap} {n:Nat} {t:TypeId} {ts:List TypeId} {args:List Value} (hs:wi P h n (t::ts) args):∃ v vs,args=v::vs∧BH P h n t v∧wi P h n ts vs:=by
 cases args with
 |nil=>exact absurd hs id
 |cons v vs=>exact ⟨v,vs,rfl,hs.1,hs.2⟩
theorem zoh {P:Program} {h:Heap} {n:Nat} {args:List Value} (hs:wi P h n [] args):args=[]:=by
 cases args with
 |nil=>rfl
 |cons v vs=>exact absurd hs id
end Go.Proofs.YtdplfgoifjjniaaGreatDoor
namespace Go.Am
theorem Ow.slice {α:Type} {r:aK α} {h0 h:Heap} {e A:Nat} {v:Value} {l:List α} (f:Ow r h0 h e A v l):∃ a n c,v=.slice a n c:=by
 rcases f with ⟨_,_,rfl|⟨B,o,rfl,_⟩⟩|⟨row,rfl,_⟩
 ·exact ⟨_,_,_,rfl⟩
 ·exact ⟨_,_,_,rfl⟩
 ·exact ⟨_,_,_,rfl⟩
theorem Ow.any {α:Type} {r:aK α} {h0 h:Heap} {e A:Nat} {v:Value} (f:Ow r h0 h e A v []) (B:Nat) (hB:h0.size≤B):Ow r h0 h e B v []:=by
 rcases f with ⟨_,h2,h3⟩|⟨row,_,h2,_⟩
 ·exact .inl ⟨hB,h2,h3⟩
 ·exact absurd rfl h2
section
variable {P:Program} {T:bD} {ov:Ov}
theorem Ep {b:Nat} {ops:Array Oper} {l:List Oper} {j:Nat} {d:Option Tmp} {Q:Env→Heap→Prop} {e:Env} {hh:Heap} {bs:List bh} {w s:Nat} {v:Value} (hb:b≤hh.size) (hs:hh.size≤s)
 (hk:bZ P T ov b ops l (j+1) (put e d v) (hh.lay bs s) Q):zY P T ov b ops l j d Q e (hh.lay [] w) v (hh.lay bs s):=by
 refine ⟨⟨⟨.inl ?_,?_,?_⟩,hk⟩⟩
 ·rw [bB];show hh.size+0≤s;omega
 ·show b≤s;omega
 ·rw [bB,bB];simp
end
theorem zty (a:ab) (z0 z1 z2 z3 z4 z5 z6 z7 z8 z9 zH:Value):lI (fun i=>some (i*11,11)) [z0,z1,z2,z3,z4,z5,z6,z7,z8,z9,zH] [(0,a.val)]=some a.cells:=rfl
section
variable {h1:Heap} {bs:List bh} {w:Nat} {T:bD} {K:Value→Heap→Prop} {t e s:TypeId} {v p:Value} {kd:IntKind} {i:Int}
theorem pg {l:List ab} {x:ab} (f:Sl aK.atom h1 v l) (hd:T.desc t=some (.slice e)) (hs:bO T e=some 11) (h0:0≤i) (hx:l[i.toNat]? = some x) (hk:∀ p,eC h1 p (x.cells)→K p (h1.lay bs w)):aU (fM T t v (.int kd i)) (h1.lay bs w) K :=
 ixa f hd hs h0 (by have:=(List.getElem?_eq_some_iff.1 hx).1;omega) fun x' p lO hp=>by
  obtain rfl:x=x':=Option.some.inj (hx.symm.trans lO)
  exact hk p hp
theorem MM {l:List aQ} {x:aQ} (f:Sl aK.term h1 v l) (hd:T.desc t=some (.slice e)) (hs:bO T e=some 2) (h0:0≤i) (hx:l[i.toNat]? = some x) (hk:∀ p,eC h1 p (x.cells)→K p (h1.lay bs w)):aU (fM T t v (.int kd i)) (h1.lay bs w) K :=
 ixt f hd hs h0 (by have:=(List.getElem?_eq_some_iff.1 hx).1;omega) fun x' p lO hp=>by
  obtain rfl:x=x':=Option.some.inj (hx.symm.trans lO)
  exact hk p hp
theorem ph {l:List ByteArray} {x:ByteArray} (f:Sl aK.str h1 v l) (hd:T.desc t=some (.slice e)) (hs:bO T e=some 1) (h0:0≤i) (hx:l[i.toNat]? = some x) (hk:∀ p,eC h1 p ([.string x])→K p (h1.lay bs w)):aU (fM T t v (.int kd i)) (h1.lay bs w) K :=
 ixs f hd hs h0 (by have:=(List.getElem?_eq_some_iff.1 hx).1;omega) fun x' p lO hp=>by
  obtain rfl:x=x':=Option.some.inj (hx.symm.trans lO)
  exact hk p hp
theorem ML {l:List bP} {x:bP} (f:Sl aK.clause h1 v l) (hd:T.desc t=some (.slice e)) (hs:bO T e=some 12) (h0:0≤i) (hx:l[i.toNat]? = some x) (hk:∀ p b,Sl aK.atom h1 b x.body→eC h1 p (x.head.cells++[b])→K p (h1.lay bs w)):aU (fM T t v (.int kd i)) (h1.lay bs w) K :=
 ixc f hd hs h0 (by have:=(List.getElem?_eq_some_iff.1 hx).1;omega) fun x' p b lO hb hp=>by
  obtain rfl:x=x':=Option.some.inj (hx.symm.trans lO)
  exact hk p b hb hp
theorem eP {α:Type} {l:List α} {i:Nat} (h:(i:Int) < l.length):∃ x,l[(i:Int).toNat]? = some x∧l[i]? = some x:=⟨l[i]'(by omega),by simp,by simp⟩
end
section
variable {P:Program} {T:bD}
theorem Zq {op:BinOp} {t:TypeId} {k:IntKind} {a b:Int} {v:Value} (hf:pE op (.int k a) (.int k b)=none) (hp:gF P (binOp op t (.int k a) (.int k b))=some v) (hv:plain v=true):bU P T op t (.int k a) (.int k b)=some v:=by
 have h1:((T.desc t).bind fun d=>BM d (.int k a) (.int k b))=none:=by
  cases T.desc t with
  |none=>rfl
  |some d=>cases d <;> rfl
 unfold bU
 rw [hf]
 simp only [h1]
 rw [if_pos (show (plain (Value.int k a) && plain (Value.int k b))=true from rfl)]
 rw [hp,Option.bind_some,if_pos hv]
theorem zBR {t:TypeId} {k:IntKind} {a b:Int} (hb:b≠0):bU P T .rem t (.int k a) (.int k b)=some (.int k (a.tmod b)):=by
 refine Zq rfl ?_ rfl
 simp [binOp,Op.intDiv,hb,wj]
theorem zBQ {t:TypeId} {k:IntKind} {a b:Int} (hb:b≠0):bU P T .quo t (.int k a) (.int k b)=some (.int k (k.wrap (a.tdiv b))):=by
 refine Zq rfl ?_ rfl
 simp [binOp,Op.intDiv,hb,wj]
end
end Go.Am
namespace Go.Am
def kK {α:Type} (p:α→Bool) (l:List α):Int:=match l.findIdx? p with
 |some i=>i
 |none => -1
theorem OX {α:Type} {p:α→Bool} {l:List α} {i:Nat} {x:α} (hx:l[i]? = some x) (az:∀ y∈l.take i,p y=false) (hp:p x=true):kK p l=i:=by
 have:l.findIdx? p=some i:=by
  induction l generalizing i with
  |nil=>simp at hx
  |cons a l ih =>
   rw [List.findIdx?_cons]
   cases i with
   |zero =>
    simp at hx
    subst hx
    simp [hp]
   |succ i =>
    have ha:=az a (by simp)
    rw [ha]
    have:=ih (i:=i) (by simpa using hx) (fun y hy=>az y (by simp [hy]))
    simp [this]
 unfold kK
 rw [this]
theorem Pa {α:Type} {p:α→Bool} {l:List α} (az:∀ y∈l,p y=false):kK p l = -1:=by
 have:l.findIdx? p=none:=by rw [List.findIdx?_eq_none_iff];exact az
 unfold kK
 rw [this]
theorem Po {α:Type} (p:α→Bool) (l:List α):decide (kK p l ≥ 0)=l.any p:=by
 unfold kK
 cases h:l.findIdx? p with
 |none =>
  rw [List.findIdx?_eq_none_iff] at h
  have:l.any p=false:=by rw [List.any_eq_false];intro x hx;rw [h x hx];decide
  rw [this]
  decide
 |some i =>
  have h2:∃ x∈l,p x=true:=by
   have:=List.findIdx?_isSome (xs:=l) (p:=p)
   rw [h] at this
   simp at this
   exact this
  have:l.any p=true:=by rw [List.any_eq_true];exact h2
  rw [this]
  simp
theorem sS (a:ab):a.args.length=a.cx:=by
 unfold ab.args ab.cx
 rw [List.length_take]
 simp only [List.length_cons,List.length_nil]
 omega
theorem zC4 {H:Heap} {A o:Nat} {a:ab} {u:TypeId} {ro:Bool} (q:Holds H A (.row a.cells u ro)) (ho:o=3):Sl aK.term H (.slice (some ⟨A,o,none⟩) a.cx 4) a.args:=by
 subst ho
 have hc:a.cx≤4:=by unfold ab.cx;omega
 refine .inr ⟨A,3,4,a.cells,u,ro,by rw [sS],by rw [sS];unfold maxLen;omega,.inl ⟨by decide,by rw [sS];exact hc⟩,q.lt,q.get,fun i x hx=>?_⟩
 have hi:i < a.cx:=by have:=(List.getElem?_eq_some_iff.1 hx).1;rw [sS] at this;exact this
 unfold ab.args at hx
 rw [List.getElem?_take_of_lt hi] at hx
 have:i=0∨i=1∨i=2∨i=3:=by omega
 rcases this with rfl|rfl|rfl|rfl <;> (simp at hx;subst hx;exact ⟨_,rfl,rfl⟩)
theorem ff (a:ab):cut a.cells 0 11=some a.cells:=rfl
theorem eR (a:ab):Value.agg a.cells.toArray=a.val:=rfl
theorem eW (a:ab):a.val.cells.toList=a.cells:=rfl
theorem dQ (a:ab) (h:Heap) (K:Value→Heap→Prop):aU (some a.val) h K=K a.val h:=rfl
theorem Mj (a:aQ) (h:Heap) (K:Value→Heap→Prop):aU (some a.val) h K=K a.val h:=rfl
theorem zD6 {α:Type} [DecidableEq α] (a:α) (l:List α):decide (kK (fun x=>decide (a=x)) l ≥ 0)=decide (a∈l):=by
 rw [Po]
 by_cases h:a∈l
 ·rw [decide_eq_true h,List.any_eq_true]
  exact ⟨a,h,by simp⟩
 ·rw [decide_eq_false h,List.any_eq_false]
  intro x hx
  simp
  rintro rfl
  exact h hx
def ab.ground (a:ab):Bool := !a.args.any (·.v)
end Go.Am
