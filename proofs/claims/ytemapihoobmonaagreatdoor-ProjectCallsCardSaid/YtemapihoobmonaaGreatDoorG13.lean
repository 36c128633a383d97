/- Arguments that are slices, by what they hold. No condition. -/
import Derived.Test.YtemapihoobmonaaGreatDoorG8
import Derived.Test.YtemapihoobmonaaGreatDoorG12
import Derived.Test.YtemapihoobmonaaGreatDoorG10
namespace Go.Am
set_option linter.unusedVariables false
theorem zhN {α:Type} {r:Rep α} {P:Program} {h:Heap} {n:Nat} {t e:TypeId} {v:Value} (hu:P.underlying t=some (.slice e)) (hk:P.cellsOf e=r.k) (hel:∀ cs,Shp P h n e cs→∃ x,r.R h cs x) (hs:Shp P h (n+1) t [v]):∃ l,Sl r h v l:=by
  unfold Shp at hs
  rw [hu] at hs
  rcases hs with hs | ⟨A,len,cap,row,u,hv,h1,h2,h3,h4,h5,h6⟩
  · simp only [List.cons.injEq,and_true] at hs
    subst hs
    exact ⟨[],Sl.nil⟩
  · simp only [List.cons.injEq,and_true] at hv
    subst hv
    rw [hk] at h5 h6
    have hx:∀ i:Fin len,∃ x,r.R h ((row.drop (i.val*r.k)).take r.k) x:=fun i=>hel _ (h6 i.val i.isLt)
    refine ⟨List.ofFn fun i=>Classical.choose (hx i),.inr ⟨A,0,cap,row,u,true,by rw [List.length_ofFn],by rw [List.length_ofFn]; omega,.inl ⟨by unfold G; unfold maxLen at h2; omega,by rw [List.length_ofFn]; exact h1⟩,h3,h4,fun i x hi=>?_⟩⟩
    rw [List.getElem?_ofFn] at hi
    split at hi
    · rename_i hlt
      simp only [Option.some.injEq] at hi
      subst hi
      refine ⟨_,?_,Classical.choose_spec (hx ⟨i,hlt⟩)⟩
      unfold cut
      have:i*r.k+r.k≤len*r.k:=by rw [← Nat.succ_mul]; exact Nat.mul_le_mul_right _ (by omega)
      rw [Nat.zero_add,if_pos (by omega)]
    · cases hi
end Go.Am
namespace Go.Proofs.YtemapihoobmonaaGreatDoor
open Go.Am
set_option linter.unusedSimpArgs false
set_option linter.unusedVariables false
set_option maxRecDepth 100000
theorem zrK {α:Type} {l:List α} (h:l.length=11):∃ a0 a1 a2 a3 a4 a5 a6 a7 a8 a9 a10,l=[a0,a1,a2,a3,a4,a5,a6,a7,a8,a9,a10]:=by
  match l,h with
  | [a0,a1,a2,a3,a4,a5,a6,a7,a8,a9,a10],_=>exact ⟨_,_,_,_,_,_,_,_,_,_,_,rfl⟩
theorem zju:Tryz.prog.cellsOf 26=11:=by kernel_rfl
theorem zo1:Tryz.prog.cellsOf 23=2:=by kernel_rfl
theorem zr7:Tryz.prog.cellsOf 9=1:=by kernel_rfl
theorem zsl:Tryz.prog.cellsOf 3=1:=by kernel_rfl
theorem zbU {h:Heap} {n:Nat} {cs:List Value} (hs:Shp Tryz.prog h (n+1) 9 cs):∃ s:ByteArray,cs=[.string s]:=by
  unfold Shp at hs
  rw [Tryz.underlying9] at hs
  exact ⟨hs.choose,hs.choose_spec.1⟩
theorem zxK {h:Heap} {n:Nat} {cs:List Value} (hs:Shp Tryz.prog h (n+1) 4 cs):∃ b:Bool,cs=[.bool b]:=by
  unfold Shp at hs
  rw [Tryz.underlying4] at hs
  exact hs
theorem ziX {h:Heap} {n:Nat} {cs:List Value} (hs:Shp Tryz.prog h (n+1) 3 cs):∃ b:Int,cs=[.int .i64 b]∧(Lit.int .i64 b).wf=true:=by
  unfold Shp at hs
  rw [Tryz.underlying3] at hs
  exact hs
theorem ziu {h:Heap} {n:Nat} {x y:Value} (hs:Shp Tryz.prog h (n+2) 23 [x,y]):∃ (b:Bool) (s:ByteArray),x=.bool b∧y=.string s:=by
  unfold Shp at hs
  rw [Tryz.underlying23] at hs
  obtain ⟨_,hf⟩:=hs
  have h0:Shp Tryz.prog h (n+1) 4 (([x,y].drop 0).take 1):=hf 0 _ rfl
  have h1:Shp Tryz.prog h (n+1) 9 (([x,y].drop 1).take 1):=hf 1 _ rfl
  obtain ⟨b,hb⟩:=zxK h0
  obtain ⟨s,hs⟩:=zbU h1
  simp at hb hs
  exact ⟨b,s,hb,hs⟩
theorem zlE {h:Heap} {n:Nat} {cs:List Value} (hs:Shp Tryz.prog h (n+4) 26 cs):∃ a:AtomD,cs=a.cells:=by
  unfold Shp at hs
  rw [Tryz.underlying26] at hs
  obtain ⟨hl,hf⟩:=hs
  rw [zju] at hl
  obtain ⟨a0,a1,a2,a3,a4,a5,a6,a7,a8,a9,a10,rfl⟩:=zrK hl
  have h0:Shp Tryz.prog h (n+3) 9 (([a0,a1,a2,a3,a4,a5,a6,a7,a8,a9,a10].drop 0).take 1):=hf 0 _ rfl
  have h1:Shp Tryz.prog h (n+3) 9 (([a0,a1,a2,a3,a4,a5,a6,a7,a8,a9,a10].drop 1).take 1):=hf 1 _ rfl
  have h2:Shp Tryz.prog h (n+3) 3 (([a0,a1,a2,a3,a4,a5,a6,a7,a8,a9,a10].drop 2).take 1):=hf 2 _ rfl
  have h3:Shp Tryz.prog h (n+3) 24 (([a0,a1,a2,a3,a4,a5,a6,a7,a8,a9,a10].drop 3).take 8):=hf 3 _ rfl
  obtain ⟨s,hs⟩:=zbU h0
  obtain ⟨p,hp⟩:=zbU h1
  obtain ⟨i,hi,_⟩:=ziX h2
  unfold Shp at h3
  rw [Tryz.underlying24] at h3
  obtain ⟨_,hg⟩:=h3
  have g0:=hg 0 (by omega)
  have g1:=hg 1 (by omega)
  have g2:=hg 2 (by omega)
  have g3:=hg 3 (by omega)
  simp only [zo1] at g0 g1 g2 g3
  obtain ⟨b0,s0,e0,e0'⟩:=ziu g0
  obtain ⟨b1,s1,e1,e1'⟩:=ziu g1
  obtain ⟨b2,s2,e2,e2'⟩:=ziu g2
  obtain ⟨b3,s3,e3,e3'⟩:=ziu g3
  simp at hs hp hi
  subst hs hp hi e0 e0' e1 e1' e2 e2' e3 e3'
  exact ⟨⟨s,p,i,⟨b0,s0⟩,⟨b1,s1⟩,⟨b2,s2⟩,⟨b3,s3⟩⟩,rfl⟩
theorem zoi {h:Heap} {n:Nat} {v:Value} (hs:Shp Tryz.prog h (n+5) 27 [v]):∃ l,Sl Rep.atom h v l :=
  zhN Tryz.underlying27 zju (fun cs hc=>zlE hc) hs
theorem zsd {P:Program} {h:Heap} {n:Nat} {ts us:List TypeId} {args:List Value} (e:ts=us) (hs:zdY P h n ts args):zdY P h n us args:=by
  subst e
  exact hs
theorem zcw {P:Program} {h:Heap} {n:Nat} {t:TypeId} {ts:List TypeId} {args:List Value} (hs:zdY P h n (t::ts) args):∃ v vs,args=v::vs∧zdI P h n t v∧zdY P h n ts vs:=by
  cases args with
  | nil=>exact absurd hs id
  | cons v vs=>exact ⟨v,vs,rfl,hs.1,hs.2⟩
theorem zpc {P:Program} {h:Heap} {n:Nat} {args:List Value} (hs:zdY P h n [] args):args=[]:=by
  cases args with
  | nil=>rfl
  | cons v vs=>exact absurd hs id
end Go.Proofs.YtemapihoobmonaaGreatDoor
namespace Go.Am
theorem Ow.slice {α:Type} {r:Rep α} {h0 h:Heap} {e A:Nat} {v:Value} {l:List α} (f:Ow r h0 h e A v l):∃ a n c,v=.slice a n c:=by
  rcases f with ⟨_,_,rfl | ⟨B,o,rfl,_⟩⟩ | ⟨row,rfl,_⟩
  · exact ⟨_,_,_,rfl⟩
  · exact ⟨_,_,_,rfl⟩
  · exact ⟨_,_,_,rfl⟩
theorem Ow.lt {α:Type} {r:Rep α} {h0 h:Heap} {e A:Nat} {v:Value} {l:List α} (f:Ow r h0 h e A v l):A < h.size∨l=[]:=by
  rcases f with ⟨_,h2,_⟩ | ⟨row,_,_,_,h4,_⟩
  · exact .inr h2
  · exact .inl h4
theorem Ow.any {α:Type} {r:Rep α} {h0 h:Heap} {e A:Nat} {v:Value} (f:Ow r h0 h e A v []) (B:Nat) (hB:h0.size≤B):Ow r h0 h e B v []:=by
  rcases f with ⟨_,h2,h3⟩ | ⟨row,_,h2,_⟩
  · exact .inl ⟨hB,h2,h3⟩
  · exact absurd rfl h2
theorem zl2 {A:Nat} {h:Heap} (hA:h.size≤A):kill A h=h:=if_neg (by omega)
theorem Ow.under {α:Type} {r:Rep α} {hc h:Heap} {e A C:Nat} {v:Value} {l:List α} (hk:0 < r.k) (hflat:∀ h h' cs x,r.R h cs x→r.R h' cs x) (f:Ow r hc h e A v l) (hC:C < hc.size∨h.size≤C):Sl r (Am.kill C h) v l:=by
  rcases hC with hC | hC
  · exact (f.kill hflat hC).sl hk
  · rw [zl2 hC]; exact f.sl hk
section
variable {P:Program} {T:Tab} {ov:Ov}
theorem zf5 {b:Nat} {ops:Array Oper} {l:List Oper} {j:Nat} {d:Option Tmp} {Q:Env→Heap→Prop} {e:Env} {hh:Heap} {bs:List Blk} {w s:Nat} {v:Value} (hb:b≤hh.size) (hs:hh.size≤s)
    (hk:WOpsX P T ov b ops l (j+1) (put e d v) (hh.lay bs s) Q):znA P T ov b ops l j d Q e (hh.lay [] w) v (hh.lay bs s):=by
  refine ⟨⟨⟨.inl ?_,?_,?_⟩,hk⟩⟩
  · rw [zag]; show hh.size+0≤s; omega
  · show b≤s; omega
  · rw [zag,zag]; simp
end
section
variable {h1:Heap} {bs:List Blk} {w:Nat} {T:Tab} {K:Value→Heap→Prop} {t e s:TypeId} {v p:Value} {kd:IntKind} {i:Int}
theorem zyC {l:List TermD} {x:TermD} (f:Sl Rep.term h1 v l) (hd:T.desc t=some (.slice e)) (hs:zaM T e=some 2) (h0:0≤i) (hx:l[i.toNat]? = some x) (hk:∀ p,AtP h1 p (x.cells)→K p (h1.lay bs w)):valE (zau T t v (.int kd i)) (h1.lay bs w) K :=
  ixt f hd hs h0 (by have:=(List.getElem?_eq_some_iff.1 hx).1; omega) fun x' p hx' hp=>by
    obtain rfl:x=x':=Option.some.inj (hx.symm.trans hx')
    exact hk p hp
theorem zyF {l:List Int} {x:Int} (f:Sl Rep.int h1 v l) (hd:T.desc t=some (.slice e)) (hs:zaM T e=some 1) (h0:0≤i) (hx:l[i.toNat]? = some x) (hk:∀ p,AtP h1 p ([.int .i64 x])→K p (h1.lay bs w)):valE (zau T t v (.int kd i)) (h1.lay bs w) K :=
  ixi f hd hs h0 (by have:=(List.getElem?_eq_some_iff.1 hx).1; omega) fun x' p hx' hp=>by
    obtain rfl:x=x':=Option.some.inj (hx.symm.trans hx')
    exact hk p hp
theorem zeh {l:List ByteArray} {x:ByteArray} (f:Sl Rep.str h1 v l) (hd:T.desc t=some (.slice e)) (hs:zaM T e=some 1) (h0:0≤i) (hx:l[i.toNat]? = some x) (hk:∀ p,AtP h1 p ([.string x])→K p (h1.lay bs w)):valE (zau T t v (.int kd i)) (h1.lay bs w) K :=
  ixs f hd hs h0 (by have:=(List.getElem?_eq_some_iff.1 hx).1; omega) fun x' p hx' hp=>by
    obtain rfl:x=x':=Option.some.inj (hx.symm.trans hx')
    exact hk p hp
theorem zyA {l:List ClauseD} {x:ClauseD} (f:Sl Rep.clause h1 v l) (hd:T.desc t=some (.slice e)) (hs:zaM T e=some 12) (h0:0≤i) (hx:l[i.toNat]? = some x) (hk:∀ p b,Sl Rep.atom h1 b x.body→AtP h1 p (x.head.cells++[b])→K p (h1.lay bs w)):valE (zau T t v (.int kd i)) (h1.lay bs w) K :=
  ixc f hd hs h0 (by have:=(List.getElem?_eq_some_iff.1 hx).1; omega) fun x' p b hx' hb hp=>by
    obtain rfl:x=x':=Option.some.inj (hx.symm.trans hx')
    exact hk p b hb hp
theorem zaY {α:Type} {l:List α} {i:Nat} (h:(i:Int) < l.length):∃ x,l[(i:Int).toNat]? = some x∧l[i]? = some x:=⟨l[i]'(by omega),by simp,by simp⟩
end
section
variable {P:Program} {T:Tab}
theorem zwP {op:BinOp} {t:TypeId} {k:IntKind} {a b:Int} {v:Value} (hf:zb5 op (.int k a) (.int k b)=none) (hp:zaF P (binOp op t (.int k a) (.int k b))=some v) (hv:plain v=true):binA P T op t (.int k a) (.int k b)=some v:=by
  have h1:((T.desc t).bind fun d=>zlD d (.int k a) (.int k b))=none:=by
    cases T.desc t with
    | none=>rfl
    | some d=>cases d <;> rfl
  unfold binA
  rw [hf]
  simp only [h1]
  rw [if_pos (show (plain (Value.int k a) && plain (Value.int k b))=true from rfl)]
  rw [hp,Option.bind_some,if_pos hv]
theorem zwe {t:TypeId} {k:IntKind} {a b:Int} (hb:b≠0):binA P T .rem t (.int k a) (.int k b)=some (.int k (a.tmod b)):=by
  refine zwP rfl ?_ rfl
  simp [binOp,Op.intDiv,hb,zco]
end
end Go.Am
namespace Go.Am
set_option linter.unusedVariables false
def idxP {α:Type} (p:α→Bool) (l:List α):Int:=match l.findIdx? p with
  | some i=>i
  | none => -1
theorem zd6 {α:Type} {p:α→Bool} {l:List α} {i:Nat} {x:α} (hx:l[i]? = some x) (hall:∀ y∈l.take i,p y=false) (hp:p x=true):idxP p l=i:=by
  have:l.findIdx? p=some i:=by
    induction l generalizing i with
    | nil=>simp at hx
    | cons a l ih =>
      rw [List.findIdx?_cons]
      cases i with
      | zero =>
        simp at hx
        subst hx
        simp [hp]
      | succ i =>
        have ha:=hall a (by simp)
        rw [ha]
        have:=ih (i:=i) (by simpa using hx) (fun y hy=>hall y (by simp [hy]))
        simp [this]
  unfold idxP
  rw [this]
theorem zeA {α:Type} {p:α→Bool} {l:List α} (hall:∀ y∈l,p y=false):idxP p l = -1:=by
  have:l.findIdx? p=none:=by rw [List.findIdx?_eq_none_iff]; exact hall
  unfold idxP
  rw [this]
theorem zpZ {α:Type} (p:α→Bool) (l:List α):decide (idxP p l ≥ 0)=l.any p:=by
  unfold idxP
  cases h:l.findIdx? p with
  | none =>
    rw [List.findIdx?_eq_none_iff] at h
    have:l.any p=false:=by rw [List.any_eq_false]; intro x hx; rw [h x hx]; decide
    rw [this]
    decide
  | some i =>
    have h2:∃ x∈l,p x=true:=by
      have:=List.findIdx?_isSome (xs:=l) (p:=p)
      rw [h] at this
      simp at this
      exact this
    have:l.any p=true:=by rw [List.any_eq_true]; exact h2
    rw [this]
    simp
theorem zdy (a:AtomD):a.args.length=a.cnt:=by
  unfold AtomD.args AtomD.cnt
  rw [List.length_take]
  simp only [List.length_cons,List.length_nil]
  omega
theorem zz7 {H:Heap} {A o:Nat} {a:AtomD} {u:TypeId} {ro:Bool} (q:Holds H A (.row a.cells u ro)) (ho:o=3):Sl Rep.term H (.slice (some ⟨A,o,none⟩) a.cnt 4) a.args:=by
  subst ho
  have hc:a.cnt≤4:=by unfold AtomD.cnt; omega
  refine .inr ⟨A,3,4,a.cells,u,ro,by rw [zdy],by rw [zdy]; unfold maxLen; omega,.inl ⟨by decide,by rw [zdy]; exact hc⟩,q.lt,q.get,fun i x hx=>?_⟩
  have hi:i < a.cnt:=by have:=(List.getElem?_eq_some_iff.1 hx).1; rw [zdy] at this; exact this
  unfold AtomD.args at hx
  rw [List.getElem?_take_of_lt hi] at hx
  have:i=0∨i=1∨i=2∨i=3:=by omega
  rcases this with rfl | rfl | rfl | rfl <;> (simp at hx; subst hx; exact ⟨_,rfl,rfl⟩)
theorem zaN (a:AtomD):cut a.cells 0 11=some a.cells:=rfl
theorem zaO (a:AtomD):Value.agg a.cells.toArray=a.val:=rfl
theorem zaG (a:AtomD):a.val.cells.toList=a.cells:=rfl
theorem zas (a:AtomD) (h:Heap) (K:Value→Heap→Prop):valE (some a.val) h K=K a.val h:=rfl
theorem zjy (a:TermD) (h:Heap) (K:Value→Heap→Prop):valE (some a.val) h K=K a.val h:=rfl
def AtomD.ground (a:AtomD):Bool := !a.args.any (·.v)
end Go.Am
namespace Go.Am
set_option linter.unusedVariables false
section
variable {α:Type} {r:Rep α} {h0 h h1:Heap} {v:Value} {l:List α} {t e:TypeId} {T:Tab} {bs:List Blk} {w:Nat} {K:Value→Heap→Prop}
def BndIs (x:Option Value) (d n:Nat):Prop:=(x=none∧n=d)∨∃ kd,x=some (.int kd n)
theorem BndIs.no (n:Nat):BndIs none n n:=.inl ⟨rfl,rfl⟩
theorem BndIs.num (kd:IntKind) (d n:Nat):BndIs (some (.int kd n)) d n:=.inr ⟨kd,rfl⟩
theorem zov {kd:IntKind} {n hi:Nat} (hn:n≤hi):zfG (.int kd n) hi=some n:=by
  have:(0:Int)≤n∧(n:Int)≤hi:=by omega
  simp only [zfG,this,and_self,if_true,Int.toNat_natCast]
theorem zec {n c a b:Nat} {lo hi:Option Value} (hlo:BndIs lo 0 a) (hhi:BndIs hi n b) (hab:a≤b) (hbc:b≤c):zbM n c lo hi none=some (a,b,c):=by
  unfold zbM
  rcases hlo with ⟨rfl,rfl⟩ | ⟨kd,rfl⟩ <;> rcases hhi with ⟨rfl,rfl⟩ | ⟨kd2,rfl⟩ <;> simp [zov,hab,hbc]
theorem zfg {n c i:Nat} {kd kd2:IntKind} (hi:i≤c):zbM n c none (some (.int kd i)) (some (.int kd2 i))=some (0,i,i):=by
  unfold zbM
  simp [zov,hi]
theorem zAd:0 < G:=by unfold G; omega
theorem zdQ {k q:Nat} (hk:0 < k) (hq:q < G):G≤G*k+q∧(G*k+q) / G=k∧(G*k+q) % G=q:=by
  obtain ⟨c1,c2,c3⟩:=zf6 (k:=k) (q:=q) hk hq
  exact ⟨by omega,c3,c2⟩
theorem Sl.sub (f:Sl r h v l) (hk:0 < r.k) (hd:T.desc t=some (.slice e)) (hs:zaM T e=some r.k) {a b:Nat} {lo hi:Option Value} (hlo:BndIs lo 0 a) (hhi:BndIs hi l.length b) (hab:a≤b) (hb:b≤l.length) :
    ∃ v',zba T t v lo hi none=some v'∧Sl r h v' ((l.take b).drop a):=by
  have hlen:((l.take b).drop a).length=b - a:=by simp; omega
  have hel:∀ (i:Nat) (x:α),((l.take b).drop a)[i]? = some x→l[a+i]? = some x∧i < b - a:=by
    intro i x hx
    have:=(List.getElem?_eq_some_iff.1 hx).1
    rw [hlen] at this
    rw [List.getElem?_drop,List.getElem?_take_of_lt (by omega)] at hx
    exact ⟨hx,this⟩
  rcases f with ⟨rfl,rfl⟩ | ⟨A,o,c,row,u,ro,rfl,e2,e3,e4,e5,e6⟩
  · have hb0:b=0:=by simpa using hb
    subst hb0
    have ha0:a=0:=by omega
    subst ha0
    refine ⟨.slice none 0 0,?_,by simpa using Sl.nil⟩
    unfold zba
    simp only [hd,hs,Option.bind_some,if_pos zAd]
    have:=zec (n:=0) (c:=0) hlo (by simpa using hhi) (Nat.le_refl 0) (Nat.le_refl 0)
    rw [this]
    rfl
  · rcases e3 with ⟨c1,c2⟩ | ⟨c1,c2,c3⟩
    · refine ⟨.slice (some ⟨A,if c=a then o else o+a*r.k,none⟩) (b - a) (c - a),?_,?_⟩
      · unfold zba
        simp only [hd,hs,Option.bind_some,if_pos c1]
        rw [zec hlo hhi hab (by omega)]
        rfl
      · refine .inr ⟨A,_,c - a,row,u,ro,by rw [hlen],by rw [hlen]; omega,.inl ⟨by omega,by rw [hlen]; omega⟩,e4,e5,fun i x hx=>?_⟩
        obtain ⟨hx,hi⟩:=hel i x hx
        obtain ⟨cs,g1,g2⟩:=e6 _ _ hx
        refine ⟨cs,?_,g2⟩
        rw [if_neg (by omega),Nat.add_assoc,← Nat.add_mul]
        exact g1
    · refine ⟨.slice (some ⟨A,o+a*r.k,none⟩) (b - a) (G*r.k+(c % G - a)),?_,?_⟩
      · unfold zba
        simp only [hd,hs,Option.bind_some,if_neg (show ¬ c < G by omega),if_pos c2]
        rw [zec hlo hhi hab (by omega)]
        rfl
      · have hm:=Nat.mod_lt c zAd
        obtain ⟨d1,d2,d3⟩:=zdQ (k:=r.k) (q:=c % G - a) hk (by omega)
        refine .inr ⟨A,_,_,row,u,ro,by rw [hlen],by rw [hlen]; omega,.inr ⟨d1,d2,by rw [hlen,d3]; omega⟩,e4,e5,fun i x hx=>?_⟩
        obtain ⟨hx,hi⟩:=hel i x hx
        obtain ⟨cs,g1,g2⟩:=e6 _ _ hx
        refine ⟨cs,?_,g2⟩
        rw [Nat.add_assoc,← Nat.add_mul]
        exact g1
theorem Sl.full (f:Sl r h v l) (hd:T.desc t=some (.slice e)) (hs:zaM T e=some r.k) {i:Nat} {kd kd2:IntKind} (hi:i≤l.length) :
    ∃ base,zba T t v none (some (.int kd i)) (some (.int kd2 i))=some (.slice base i i)∧Sl r h (.slice base i i) (l.take i):=by
  have hlen:(l.take i).length=i:=by simp; omega
  rcases f with ⟨rfl,rfl⟩ | ⟨A,o,c,row,u,ro,rfl,e2,e3,e4,e5,e6⟩
  · have hb0:i=0:=by simpa using hi
    subst hb0
    refine ⟨none,?_,by simpa using Sl.nil⟩
    unfold zba
    simp only [hd,hs,Option.bind_some,if_pos zAd]
    rw [zfg (Nat.le_refl 0)]
    rfl
  · have hG:maxLen < G:=by decide
    have hel:Sl r h (.slice (some ⟨A,o,none⟩) i i) (l.take i):=by
      refine .inr ⟨A,o,i,row,u,ro,by rw [hlen],by rw [hlen]; omega,.inl ⟨by omega,by rw [hlen]; omega⟩,e4,e5,fun j x hx=>?_⟩
      have hj:=(List.getElem?_eq_some_iff.1 hx).1
      rw [hlen] at hj
      rw [List.getElem?_take_of_lt hj] at hx
      exact e6 _ _ hx
    refine ⟨some ⟨A,o,none⟩,?_,hel⟩
    rcases e3 with ⟨c1,c2⟩ | ⟨c1,c2,c3⟩
    · unfold zba
      simp only [hd,hs,Option.bind_some,if_pos c1]
      rw [zfg (by omega)]
      simp
    · unfold zba
      simp only [hd,hs,Option.bind_some,if_neg (show ¬ c < G by omega),if_pos c2]
      rw [zfg (by omega)]
      simp
theorem zqQ (f:Sl r h1 v l) (hk:0 < r.k) (hd:T.desc t=some (.slice e)) (hs:zaM T e=some r.k) {a b:Nat} {lo hi:Option Value} (hlo:BndIs lo 0 a) (hhi:BndIs hi l.length b) (hab:a≤b) (hb:b≤l.length)
    (hK:∀ v',Sl r h1 v' ((l.take b).drop a)→K v' (h1.lay bs w)):valE (zba T t v lo hi none) (h1.lay bs w) K:=by
  obtain ⟨v',g1,g2⟩:=f.sub hk hd hs hlo hhi hab hb
  rw [g1]
  exact hK v' g2
theorem zzJ (f:Sl r h1 v l) (hk:0 < r.k) (hd:T.desc t=some (.slice e)) (hs:zaM T e=some r.k) {b:Nat} {kd:IntKind} (hb:b≤l.length)
    (hK:∀ v',Sl r h1 v' (l.take b)→K v' (h1.lay bs w)):valE (zba T t v none (some (.int kd b)) none) (h1.lay bs w) K :=
  zqQ f hk hd hs (BndIs.no 0) (BndIs.num kd _ b) (Nat.zero_le _) hb (fun v' h=>hK v' (by simpa using h))
theorem ztJ (f:Sl r h1 v l) (hk:0 < r.k) (hd:T.desc t=some (.slice e)) (hs:zaM T e=some r.k) {a:Nat} {kd:IntKind} (ha:a≤l.length)
    (hK:∀ v',Sl r h1 v' (l.drop a)→K v' (h1.lay bs w)):valE (zba T t v (some (.int kd a)) none none) (h1.lay bs w) K :=
  zqQ f hk hd hs (BndIs.num kd _ a) (BndIs.no _) ha (Nat.le_refl _) (fun v' h=>hK v' (by rw [List.take_length] at h; exact h))
theorem zxw {k bytes:Nat} {z:List Value} {base:Option Addr} {x:Value} {l2:List α} (hd:T.desc t=some (.slice e)) (hi:T.info e=some (k,bytes,z)) (hrk:r.k=k) (hk:0 < k) (hz:h0.size≤h.size)
    (f:Sl r h (.slice base l.length l.length) l) {m:Nat} {news:List Value} (hs:srcA x k h=some (m,news)) (hsr:Src r h m news l2) (hm0:0 < m)
    (hb:(l.length+m)*bytes≤140737488355328) (hl:l.length+m≤1152921504606846976) :
    ∃ v' h',zbo T t (.slice base l.length l.length) x h=some (v',h')∧Ow r h0 h' e h.size v' (l++l2)∧Ext h h':=by
  subst hrk
  obtain ⟨hm,hnl,h1,hrep⟩:=hsr
  obtain ⟨olds,s1,so1,so2,so3,so4⟩:=ziW (A:=h.size) hk f (fun cs y hr=>by rw [zl2 (Nat.le_refl _)]; exact hr)
  rw [zl2 (Nat.le_refl _)] at so4
  have hcells:zcX (.slice base l.length l.length) r.k h=some olds:=by
    simp only [srcA,Option.map_eq_some_iff,Prod.mk.injEq] at s1
    obtain ⟨a,ha,_,rfl⟩:=s1
    exact ha
  have hlG:l.length < G:=by unfold G; omega
  have hmod:l.length % G=l.length:=Nat.mod_eq_of_lt hlG
  refine ⟨.slice (some ⟨h.size,0,none⟩) (l.length+m) (G*r.k+(l.length+m)),h.push (.row (olds++news) e false),?_,?_,?_⟩
  · unfold zbo
    simp only [hd,hi,hs,Option.bind_some]
    rw [if_neg (by omega),if_neg,if_neg (by rw [hmod]; omega)]
    · simp only [hcells,Option.bind_some]
      rw [if_pos hlG]
    · simp only [Bool.or_eq_true,decide_eq_true_eq,Bool.not_eq_true',h1,not_or]
      exact ⟨⟨⟨by omega,by omega⟩,by omega⟩,by simp⟩
  · have hi2:Inc h ((h.push (.row (olds++news) e false)).set h.size .dead):=⟨by rw [Heap.size_set,Heap.size_push]; omega,fun B hB _=>by
      rw [Heap.get_set _ _ _ _ (by rw [Heap.size_push]; omega),if_neg (by omega),Heap.get_push,if_neg (by omega)]⟩
    refine .inr ⟨olds++news,by rw [List.length_append,hm],fun hh=>?_,hz,by rw [Heap.size_push]; omega,by rw [Heap.get_push,if_pos rfl],by rw [List.length_append,List.length_append,so2,hnl,hm,Nat.add_mul],by rw [List.length_append,hm]; exact hl,fun i y hy=>?_⟩
    · have:=congrArg List.length hh
      rw [List.length_append,hm] at this
      simp at this
      omega
    · by_cases hi:i < l.length
      · rw [List.getElem?_append_left hi] at hy
        obtain ⟨cs,g1,g2⟩:=so4 i y hy
        exact ⟨cs,zwi g1,r.mono _ _ _ _ hi2 g2⟩
      · rw [List.getElem?_append_right (by omega)] at hy
        obtain ⟨cs,g1,g2⟩:=hrep _ y hy
        refine ⟨cs,?_,r.mono _ _ _ _ hi2 g2⟩
        have:=zq1 (a:=olds) g1
        rwa [so2,← Nat.add_mul,show l.length+(i - l.length)=i by omega] at this
  · refine ⟨by rw [Heap.size_push]; omega,fun A hA=>by rw [Heap.get_push,if_neg (by omega)],by rw [Heap.low_push]; omega⟩
end
end Go.Am
namespace Go.Am
set_option linter.unusedVariables false
def slt (a b:ByteArray):Bool:=Op.bytesLess a.data.toList b.data.toList
theorem zzo:∀ (x y:List UInt8),Op.bytesLess x y=decide (x < y)
  | [],[]=>by simp [Op.bytesLess]
  | _::_,[]=>by simp [Op.bytesLess]
  | [],_::_=>by simp [Op.bytesLess]
  | a::x,b::y=>by
    rw [Op.bytesLess,zzo x y]
    simp only [List.cons_lt_cons_iff]
    by_cases h1:a < b <;> by_cases h2:a=b <;> by_cases h3:x < y <;> simp [h1,h2,h3]
theorem znz {a b c:ByteArray} (h1:slt a b=true) (h2:slt b c=true):slt a c=true:=by
  unfold slt at *
  rw [zzo] at *
  simp only [decide_eq_true_eq] at *
  exact List.lt_trans h1 h2
theorem zwm {a b:ByteArray} (h1:slt a b=false) (h2:slt b a=false):a=b:=by
  unfold slt at *
  rw [zzo] at *
  simp only [decide_eq_false_iff_not,List.not_lt] at *
  exact zgu (List.le_antisymm h2 h1)
def zi8 (l:List BindD) (m:Nat):Prop:=∀ k x y,k+1 < m→l[k]? = some x→l[k+1]? = some y→slt x.var y.var=true
theorem zrR {l:List BindD} {m:Nat} (h:m≤1):zi8 l m:=by
  intro k x y hk
  omega
theorem zu7 {l:List BindD} (h:zi8 l l.length) {i j:Nat} {x y:BindD} (hij:i < j) (hx:l[i]? = some x) (hy:l[j]? = some y):slt x.var y.var=true:=by
  induction j generalizing y with
  | zero=>omega
  | succ j ih =>
    have hj:=(List.getElem?_eq_some_iff.1 hy).1
    have hz:l[j]? = some l[j]:=List.getElem?_eq_getElem (by omega)
    have h1:=h j l[j] y hj hz hy
    by_cases he:i=j
    · subst he
      rw [hz] at hx
      cases hx
      exact h1
    · exact znz (ih (by omega) hz) h1
def za2 (l:List BindD) (s:ByteArray):TermD × Bool:=match l.find? (fun x=>decide (x.var=s)) with
  | some x=>(x.term,true)
  | none=>(noTermD,false)
def ChkD (l:List BindD):Prop:=zi8 l l.length∧∀ b∈l,b.term.s≠⟨#[]⟩∧¬ (b.term.v=true∧(za2 l b.term.s).2=true)
def zdW (l:List BindD) (t:TermD):TermD:=if (za2 l t.s).2=true∧t.v=true then (za2 l t.s).1 else t
def ztW (l m:List BindD):List BindD:=l.map fun b=>⟨b.var,zdW m b.term⟩
def ownD (b:BindD):Bool:=b.term.v && decide (b.term.s=b.var)
def zh3 (l:List BindD) (b:BindD):List BindD:=l.takeWhile (fun x => !slt b.var x.var)++b::l.dropWhile (fun x => !slt b.var x.var)
open Classical in
noncomputable def ztP (l:List BindD) (v:ByteArray) (t:TermD):Option (List BindD) :=
  if ¬ ChkD l then none
  else if v=⟨#[]⟩∨t.s=⟨#[]⟩ then none
  else if (za2 l v).2=true then none
  else if ownD ⟨v,zdW l t⟩=true then none
  else some (zh3 (ztW l [⟨v,zdW l t⟩]) ⟨v,zdW l t⟩)
def zjP (a b:AtomD):Bool:=decide (a.says=b.says) && (decide (a.pred=b.pred) && (decide (a.n=b.n) && (decide (0≤a.n) && decide (a.n≤4))))
noncomputable def zqN (out:List BindD) (x y:TermD):Option (List BindD) :=
  if x.v=false then (if x=y then some out else none)
  else if (za2 out x.s).2=true then (if (za2 out x.s).1=y then some out else none)
  else ztP out x.s y
noncomputable def zjl (p g:AtomD):Nat→List BindD→Option (List BindD)
  | 0,out=>some out
  | n+1,out=>(zjl p g n out).bind fun o=>zqN o (p.arg n) (g.arg n)
def barD (l:List BindD) (x:TermD):Bool:=x.v && (decide (x.s=⟨#[]⟩) || ((za2 l x.s).2 && (za2 l x.s).1.v))
open Classical in
noncomputable def extD (l:List BindD) (p g:AtomD):Option (List BindD) :=
  if ¬ ChkD l∨zjP p g=false∨g.ground=false then none
  else if ∃ i:Nat,i < 4∧(i:Int) < p.n∧barD l (p.arg i)=true then none
  else zjl p g p.n.toNat l
noncomputable def zqu:List AtomD→List AtomD→List BindD→Option (List BindD)
  | p::ps,g::gs,l=>(extD l p g).bind (zqu ps gs)
  | _,_,l=>some l
end Go.Am
