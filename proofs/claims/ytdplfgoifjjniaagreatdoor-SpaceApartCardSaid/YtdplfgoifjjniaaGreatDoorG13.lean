/- Arguments that are slices, by what they hold. No condition. -/
import Derived.Test.YtdplfgoifjjniaaGreatDoorG7
import Derived.Test.YtdplfgoifjjniaaGreatDoorG12
import Derived.Test.YtdplfgoifjjniaaGreatDoorG10
namespace Go.Am
set_option linter.unusedVariables false
theorem zi3 {α:Type} {r:Rep α} {P:Program} {h:Heap} {n:Nat} {t e:TypeId} {v:Value} (hu:P.underlying t=some (.slice e)) (hk:P.cellsOf e=r.k) (hel:∀ cs,Shp P h n e cs→∃ x,r.R h cs x) (hs:Shp P h (n+1) t [v]):∃ l,Sl r h v l:=by
 unfold Shp at hs
 rw [hu] at hs
 rcases hs with hs|⟨A,len,cap,row,u,hv,h1,h2,h3,h4,h5,h6⟩
 ·simp only [List.cons.injEq,and_true] at hs
  subst hs
  exact ⟨[],Sl.nil⟩
 ·simp only [List.cons.injEq,and_true] at hv
  subst hv
  rw [hk] at h5 h6
  have hx:∀ i:Fin len,∃ x,r.R h ((row.drop (i.val*r.k)).take r.k) x:=fun i=>hel _ (h6 i.val i.isLt)
  refine ⟨List.ofFn fun i=>Classical.choose (hx i),.inr ⟨A,0,cap,row,u,true,by rw [List.length_ofFn],by rw [List.length_ofFn];omega,.inl ⟨by unfold G;unfold maxLen at h2;omega,by rw [List.length_ofFn];exact h1⟩,h3,h4,fun i x hi=>?_⟩⟩
  rw [List.getElem?_ofFn] at hi
  split at hi
  ·rename_i hlt
   simp only [Option.some.injEq] at hi
   subst hi
   refine ⟨_,?_,Classical.choose_spec (hx ⟨i,hlt⟩)⟩
   unfold cut
   have:i*r.k+r.k≤len*r.k:=by rw [← Nat.succ_mul];exact Nat.mul_le_mul_right _ (by omega)
   rw [Nat.zero_add,if_pos (by omega)]
  ·cases hi
end Go.Am
namespace Go.Proofs.YtdplfgoifjjniaaGreatDoor
open Go.Am
set_option linter.unusedSimpArgs false
set_option linter.unusedVariables false
set_option maxRecDepth 100000
theorem zqP {α:Type} {l:List α} (h:l.length=11):∃ a0 a1 a2 a3 a4 a5 a6 a7 a8 a9 a10,l=[a0,a1,a2,a3,a4,a5,a6,a7,a8,a9,a10]:=by
 match l,h with
 | [a0,a1,a2,a3,a4,a5,a6,a7,a8,a9,a10],_=>exact ⟨_,_,_,_,_,_,_,_,_,_,_,rfl⟩
theorem zjc:Tryz.prog.cellsOf 42=11:=by kernel_rfl
theorem znV:Tryz.prog.cellsOf 39=2:=by kernel_rfl
theorem zqX:Tryz.prog.cellsOf 9=1:=by kernel_rfl
theorem zb9 {h:Heap} {n:Nat} {cs:List Value} (hs:Shp Tryz.prog h (n+1) 9 cs):∃ s:ByteArray,cs=[.string s]:=by
 unfold Shp at hs
 rw [Tryz.underlying9] at hs
 exact ⟨hs.choose,hs.choose_spec.1⟩
theorem zxU {h:Heap} {n:Nat} {cs:List Value} (hs:Shp Tryz.prog h (n+1) 4 cs):∃ b:Bool,cs=[.bool b]:=by
 unfold Shp at hs
 rw [Tryz.underlying4] at hs
 exact hs
theorem ziZ {h:Heap} {n:Nat} {cs:List Value} (hs:Shp Tryz.prog h (n+1) 3 cs):∃ b:Int,cs=[.int .i64 b]∧(Lit.int .i64 b).wf=true:=by
 unfold Shp at hs
 rw [Tryz.underlying3] at hs
 exact hs
theorem zhQ {h:Heap} {n:Nat} {x y:Value} (hs:Shp Tryz.prog h (n+2) 39 [x,y]):∃ (b:Bool) (s:ByteArray),x=.bool b∧y=.string s:=by
 unfold Shp at hs
 rw [Tryz.underlying39] at hs
 obtain ⟨_,hf⟩:=hs
 have h0:Shp Tryz.prog h (n+1) 4 (([x,y].drop 0).take 1):=hf 0 _ rfl
 have h1:Shp Tryz.prog h (n+1) 9 (([x,y].drop 1).take 1):=hf 1 _ rfl
 obtain ⟨b,hb⟩:=zxU h0
 obtain ⟨s,hs⟩:=zb9 h1
 simp at hb hs
 exact ⟨b,s,hb,hs⟩
theorem zgm {h:Heap} {n:Nat} {cs:List Value} (hs:Shp Tryz.prog h (n+4) 42 cs):∃ a:AtomD,cs=a.cells:=by
 unfold Shp at hs
 rw [Tryz.underlying42] at hs
 obtain ⟨hl,hf⟩:=hs
 rw [zjc] at hl
 obtain ⟨a0,a1,a2,a3,a4,a5,a6,a7,a8,a9,a10,rfl⟩:=zqP hl
 have h0:Shp Tryz.prog h (n+3) 9 (([a0,a1,a2,a3,a4,a5,a6,a7,a8,a9,a10].drop 0).take 1):=hf 0 _ rfl
 have h1:Shp Tryz.prog h (n+3) 9 (([a0,a1,a2,a3,a4,a5,a6,a7,a8,a9,a10].drop 1).take 1):=hf 1 _ rfl
 have h2:Shp Tryz.prog h (n+3) 3 (([a0,a1,a2,a3,a4,a5,a6,a7,a8,a9,a10].drop 2).take 1):=hf 2 _ rfl
 have h3:Shp Tryz.prog h (n+3) 40 (([a0,a1,a2,a3,a4,a5,a6,a7,a8,a9,a10].drop 3).take 8):=hf 3 _ rfl
 obtain ⟨s,hs⟩:=zb9 h0
 obtain ⟨p,hp⟩:=zb9 h1
 obtain ⟨i,hi,_⟩:=ziZ h2
 unfold Shp at h3
 rw [Tryz.underlying40] at h3
 obtain ⟨_,hg⟩:=h3
 have g0:=hg 0 (by omega)
 have g1:=hg 1 (by omega)
 have g2:=hg 2 (by omega)
 have g3:=hg 3 (by omega)
 simp only [znV] at g0 g1 g2 g3
 obtain ⟨b0,s0,e0,e0'⟩:=zhQ g0
 obtain ⟨b1,s1,e1,e1'⟩:=zhQ g1
 obtain ⟨b2,s2,e2,e2'⟩:=zhQ g2
 obtain ⟨b3,s3,e3,e3'⟩:=zhQ g3
 simp at hs hp hi
 subst hs hp hi e0 e0' e1 e1' e2 e2' e3 e3'
 exact ⟨⟨s,p,i,⟨b0,s0⟩,⟨b1,s1⟩,⟨b2,s2⟩,⟨b3,s3⟩⟩,rfl⟩
theorem zmt {h:Heap} {n:Nat} {v:Value} (hs:Shp Tryz.prog h (n+5) 52 [v]):∃ l,Sl Rep.atom h v l :=
 zi3 Tryz.underlying52 zjc (fun cs hc=>zgm hc) hs
theorem zx0 {h:Heap} {n:Nat} {v:Value} (hs:zeG Tryz.prog h (n+4) 42 v):∃ x:AtomD,v=x.val:=by
 unfold zeG at hs
 rw [Tryz.underlying42] at hs
 obtain ⟨cs,rfl,hc⟩:=hs
 obtain ⟨x,rfl⟩:=zgm hc
 exact ⟨x,rfl⟩
theorem zqh {P:Program} {h:Heap} {n:Nat} {ts us:List TypeId} {args:List Value} (e:ts=us) (hs:zdW P h n ts args):zdW P h n us args:=by
 subst e
 exact hs
theorem zdI {P:Program} {h:Heap} {n:Nat} {t:TypeId} {ts:List TypeId} {args:List Value} (hs:zdW P h n (t::ts) args):∃ v vs,args=v::vs∧zeG P h n t v∧zdW P h n ts vs:=by
 cases args with
 |nil=>exact absurd hs id
 |cons v vs=>exact ⟨v,vs,rfl,hs.1,hs.2⟩
theorem zo0 {P:Program} {h:Heap} {n:Nat} {args:List Value} (hs:zdW P h n [] args):args=[]:=by
 cases args with
 |nil=>rfl
 |cons v vs=>exact absurd hs id
end Go.Proofs.YtdplfgoifjjniaaGreatDoor
namespace Go.Am
theorem Ow.slice {α:Type} {r:Rep α} {h0 h:Heap} {e A:Nat} {v:Value} {l:List α} (f:Ow r h0 h e A v l):∃ a n c,v=.slice a n c:=by
 rcases f with ⟨_,_,rfl|⟨B,o,rfl,_⟩⟩|⟨row,rfl,_⟩
 ·exact ⟨_,_,_,rfl⟩
 ·exact ⟨_,_,_,rfl⟩
 ·exact ⟨_,_,_,rfl⟩
theorem Ow.lt {α:Type} {r:Rep α} {h0 h:Heap} {e A:Nat} {v:Value} {l:List α} (f:Ow r h0 h e A v l):A < h.size∨l=[]:=by
 rcases f with ⟨_,h2,_⟩|⟨row,_,_,_,h4,_⟩
 ·exact .inr h2
 ·exact .inl h4
theorem Ow.any {α:Type} {r:Rep α} {h0 h:Heap} {e A:Nat} {v:Value} (f:Ow r h0 h e A v []) (B:Nat) (hB:h0.size≤B):Ow r h0 h e B v []:=by
 rcases f with ⟨_,h2,h3⟩|⟨row,_,h2,_⟩
 ·exact .inl ⟨hB,h2,h3⟩
 ·exact absurd rfl h2
theorem zBg {A:Nat} {h:Heap} (hA:h.size≤A):kill A h=h:=if_neg (by omega)
theorem Ow.under {α:Type} {r:Rep α} {hc h:Heap} {e A C:Nat} {v:Value} {l:List α} (hk:0 < r.k) (hflat:∀ h h' cs x,r.R h cs x→r.R h' cs x) (f:Ow r hc h e A v l) (hC:C < hc.size∨h.size≤C):Sl r (Am.kill C h) v l:=by
 rcases hC with hC|hC
 ·exact (f.kill hflat hC).sl hk
 ·rw [zBg hC];exact f.sl hk
section
variable {P:Program} {T:Tab} {ov:Ov}
theorem zcm {b:Nat} {ops:Array Oper} {l:List Oper} {j:Nat} {d:Option Tmp} {Q:Env→Heap→Prop} {e:Env} {hh:Heap} {bs:List Blk} {w s:Nat} {v:Value} (hb:b≤hh.size) (hs:hh.size≤s)
 (hk:WOpsX P T ov b ops l (j+1) (put e d v) (hh.lay bs s) Q):zlk P T ov b ops l j d Q e (hh.lay [] w) v (hh.lay bs s):=by
 refine ⟨⟨⟨.inl ?_,?_,?_⟩,hk⟩⟩
 ·rw [zad];show hh.size+0≤s;omega
 ·show b≤s;omega
 ·rw [zad,zad];simp
end
theorem zsY (a:AtomD) (z0 z1 z2 z3 z4 z5 z6 z7 z8 z9 z10:Value):zdE (fun i=>some (i*11,11)) [z0,z1,z2,z3,z4,z5,z6,z7,z8,z9,z10] [(0,a.val)]=some a.cells:=rfl
section
variable {h1:Heap} {bs:List Blk} {w:Nat} {T:Tab} {K:Value→Heap→Prop} {t e s:TypeId} {v p:Value} {kd:IntKind} {i:Int}
theorem zgu {l:List AtomD} {x:AtomD} (f:Sl Rep.atom h1 v l) (hd:T.desc t=some (.slice e)) (hs:zay T e=some 11) (h0:0≤i) (hx:l[i.toNat]? = some x) (hk:∀ p,AtP h1 p (x.cells)→K p (h1.lay bs w)):valE (zau T t v (.int kd i)) (h1.lay bs w) K :=
 ixa f hd hs h0 (by have:=(List.getElem?_eq_some_iff.1 hx).1;omega) fun x' p hx' hp=>by
  obtain rfl:x=x':=Option.some.inj (hx.symm.trans hx')
  exact hk p hp
theorem zm1 {l:List TermD} {x:TermD} (f:Sl Rep.term h1 v l) (hd:T.desc t=some (.slice e)) (hs:zay T e=some 2) (h0:0≤i) (hx:l[i.toNat]? = some x) (hk:∀ p,AtP h1 p (x.cells)→K p (h1.lay bs w)):valE (zau T t v (.int kd i)) (h1.lay bs w) K :=
 ixt f hd hs h0 (by have:=(List.getElem?_eq_some_iff.1 hx).1;omega) fun x' p hx' hp=>by
  obtain rfl:x=x':=Option.some.inj (hx.symm.trans hx')
  exact hk p hp
theorem ziC {l:List ByteArray} {x:ByteArray} (f:Sl Rep.str h1 v l) (hd:T.desc t=some (.slice e)) (hs:zay T e=some 1) (h0:0≤i) (hx:l[i.toNat]? = some x) (hk:∀ p,AtP h1 p ([.string x])→K p (h1.lay bs w)):valE (zau T t v (.int kd i)) (h1.lay bs w) K :=
 ixs f hd hs h0 (by have:=(List.getElem?_eq_some_iff.1 hx).1;omega) fun x' p hx' hp=>by
  obtain rfl:x=x':=Option.some.inj (hx.symm.trans hx')
  exact hk p hp
theorem zr6 {l:List ClauseD} {x:ClauseD} (f:Sl Rep.clause h1 v l) (hd:T.desc t=some (.slice e)) (hs:zay T e=some 12) (h0:0≤i) (hx:l[i.toNat]? = some x) (hk:∀ p b,Sl Rep.atom h1 b x.body→AtP h1 p (x.head.cells++[b])→K p (h1.lay bs w)):valE (zau T t v (.int kd i)) (h1.lay bs w) K :=
 ixc f hd hs h0 (by have:=(List.getElem?_eq_some_iff.1 hx).1;omega) fun x' p b hx' hb hp=>by
  obtain rfl:x=x':=Option.some.inj (hx.symm.trans hx')
  exact hk p b hb hp
theorem za5 {α:Type} {l:List α} {i:Nat} (h:(i:Int) < l.length):∃ x,l[(i:Int).toNat]? = some x∧l[i]? = some x:=⟨l[i]'(by omega),by simp,by simp⟩
end
section
variable {P:Program} {T:Tab}
theorem zkB {op:BinOp} {t:TypeId} {k:IntKind} {a b:Int} {v:Value} (hf:zcb op (.int k a) (.int k b)=none) (hp:zaO P (binOp op t (.int k a) (.int k b))=some v) (hv:plain v=true):binA P T op t (.int k a) (.int k b)=some v:=by
 have h1:((T.desc t).bind fun d=>zmP d (.int k a) (.int k b))=none:=by
  cases T.desc t with
  |none=>rfl
  |some d=>cases d <;> rfl
 unfold binA
 rw [hf]
 simp only [h1]
 rw [if_pos (show (plain (Value.int k a) && plain (Value.int k b))=true from rfl)]
 rw [hp,Option.bind_some,if_pos hv]
theorem zBh {t:TypeId} {k:IntKind} {a b:Int} (hb:b≠0):binA P T .rem t (.int k a) (.int k b)=some (.int k (a.tmod b)):=by
 refine zkB rfl ?_ rfl
 simp [binOp,Op.intDiv,hb,zdV]
theorem zAP {t:TypeId} {k:IntKind} {a b:Int} (hb:b≠0):binA P T .quo t (.int k a) (.int k b)=some (.int k (k.wrap (a.tdiv b))):=by
 refine zkB rfl ?_ rfl
 simp [binOp,Op.intDiv,hb,zdV]
end
end Go.Am
namespace Go.Am
set_option linter.unusedVariables false
def idxP {α:Type} (p:α→Bool) (l:List α):Int:=match l.findIdx? p with
 |some i=>i
 |none => -1
theorem zgr {α:Type} {p:α→Bool} {l:List α} {i:Nat} {x:α} (hx:l[i]? = some x) (hall:∀ y∈l.take i,p y=false) (hp:p x=true):idxP p l=i:=by
 have:l.findIdx? p=some i:=by
  induction l generalizing i with
  |nil=>simp at hx
  |cons a l ih =>
   rw [List.findIdx?_cons]
   cases i with
   |zero =>
    simp at hx
    subst hx
    simp [hp]
   |succ i =>
    have ha:=hall a (by simp)
    rw [ha]
    have:=ih (i:=i) (by simpa using hx) (fun y hy=>hall y (by simp [hy]))
    simp [this]
 unfold idxP
 rw [this]
theorem zhW {α:Type} {p:α→Bool} {l:List α} (hall:∀ y∈l,p y=false):idxP p l = -1:=by
 have:l.findIdx? p=none:=by rw [List.findIdx?_eq_none_iff];exact hall
 unfold idxP
 rw [this]
theorem zlr {α:Type} (p:α→Bool) (l:List α):decide (idxP p l ≥ 0)=l.any p:=by
 unfold idxP
 cases h:l.findIdx? p with
 |none =>
  rw [List.findIdx?_eq_none_iff] at h
  have:l.any p=false:=by rw [List.any_eq_false];intro x hx;rw [h x hx];decide
  rw [this]
  decide
 |some i =>
  have h2:∃ x∈l,p x=true:=by
   have:=List.findIdx?_isSome (xs:=l) (p:=p)
   rw [h] at this
   simp at this
   exact this
  have:l.any p=true:=by rw [List.any_eq_true];exact h2
  rw [this]
  simp
theorem zbw (a:AtomD):a.args.length=a.cnt:=by
 unfold AtomD.args AtomD.cnt
 rw [List.length_take]
 simp only [List.length_cons,List.length_nil]
 omega
theorem zAT {H:Heap} {A o:Nat} {a:AtomD} {u:TypeId} {ro:Bool} (q:Holds H A (.row a.cells u ro)) (ho:o=3):Sl Rep.term H (.slice (some ⟨A,o,none⟩) a.cnt 4) a.args:=by
 subst ho
 have hc:a.cnt≤4:=by unfold AtomD.cnt;omega
 refine .inr ⟨A,3,4,a.cells,u,ro,by rw [zbw],by rw [zbw];unfold maxLen;omega,.inl ⟨by decide,by rw [zbw];exact hc⟩,q.lt,q.get,fun i x hx=>?_⟩
 have hi:i < a.cnt:=by have:=(List.getElem?_eq_some_iff.1 hx).1;rw [zbw] at this;exact this
 unfold AtomD.args at hx
 rw [List.getElem?_take_of_lt hi] at hx
 have:i=0∨i=1∨i=2∨i=3:=by omega
 rcases this with rfl|rfl|rfl|rfl <;> (simp at hx;subst hx;exact ⟨_,rfl,rfl⟩)
theorem zaG (a:AtomD):cut a.cells 0 11=some a.cells:=rfl
theorem zaD (a:AtomD):Value.agg a.cells.toArray=a.val:=rfl
theorem zas (a:AtomD):a.val.cells.toList=a.cells:=rfl
theorem zar (a:AtomD) (h:Heap) (K:Value→Heap→Prop):valE (some a.val) h K=K a.val h:=rfl
theorem zu1 (a:TermD) (h:Heap) (K:Value→Heap→Prop):valE (some a.val) h K=K a.val h:=rfl
theorem zCb {α:Type} [DecidableEq α] (a:α) (l:List α):decide (idxP (fun x=>decide (a=x)) l ≥ 0)=decide (a∈l):=by
 rw [zlr]
 by_cases h:a∈l
 ·rw [decide_eq_true h,List.any_eq_true]
  exact ⟨a,h,by simp⟩
 ·rw [decide_eq_false h,List.any_eq_false]
  intro x hx
  simp
  rintro rfl
  exact h hx
def AtomD.ground (a:AtomD):Bool := !a.args.any (·.v)
end Go.Am
