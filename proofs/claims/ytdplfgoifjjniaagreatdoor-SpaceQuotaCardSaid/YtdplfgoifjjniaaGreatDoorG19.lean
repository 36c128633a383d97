/- The code of some functions, node by node, for simp. Written by a program (mkcode.py). No condition. -/
import Derived.Test.YtdplfgoifjjniaaGreatDoorG18
set_option linter.unusedSimpArgs false
set_option linter.unusedVariables false
namespace Go.Proofs.YtdplfgoifjjniaaGreatDoor
open Go.Am
set_option maxRecDepth 100000
set_option maxHeartbeats 0
noncomputable def N99:=zax Tryz.f99
noncomputable def x99:=PLift.up (by have c:=zag N99 Tryz.f99;simp only [nEqs,Tryz.f99,seval] at c;exact nd c <| nd @zAD <| @fi99)
theorem c99:type_of% x99.down:=x99.down
noncomputable def N189:=zax Tryz.f189
noncomputable def x189:=PLift.up (by have c:=zag N189 Tryz.f189;simp only [nEqs,Tryz.f189,seval] at c;exact nd c <| nd @zyP <| nd @ld3 <| @zDW)
theorem c189:type_of% x189.down:=x189.down
noncomputable def N192:=zax Tryz.f192
noncomputable def x192:=PLift.up (by have c:=zag N192 Tryz.f192;simp only [nEqs,Tryz.f192,seval] at c;exact nd c <| nd @zyP <| nd @ld3 <| nd @zDZ <| @zD8)
theorem c192:type_of% x192.down:=x192.down
noncomputable def N190:=zax Tryz.f190
noncomputable def x190:=PLift.up (by have c:=zag N190 Tryz.f190;simp only [nEqs,Tryz.f190,seval] at c;exact nd c <| nd @zn0 <| nd @zyP <| nd @zyX <| nd @ld3 <| nd @zAD <| @zDX)
theorem c190:type_of% x190.down:=x190.down
noncomputable def N191:=zax Tryz.f191
noncomputable def x191:=PLift.up (by have c:=zag N191 Tryz.f191;simp only [nEqs,Tryz.f191,seval] at c;exact nd c <| nd @zC5 <| nd @zn0 <| nd @zyX <| nd @zDY <| @zD7)
theorem c191:type_of% x191.down:=x191.down
noncomputable def N100:=zax Tryz.f100
noncomputable def x100:=PLift.up (by have c:=zag N100 Tryz.f100;simp only [nEqs,Tryz.f100,seval] at c;exact nd c <| @zDf)
theorem c100:type_of% x100.down:=x100.down
noncomputable def N102:=zax Tryz.f102
noncomputable def x102:=PLift.up (by have c:=zag N102 Tryz.f102;simp only [nEqs,Tryz.f102,seval] at c;exact nd c <| nd @zDh <| @zD0)
theorem c102:type_of% x102.down:=x102.down
noncomputable def N131:=zax Tryz.f131
noncomputable def x131:=PLift.up (by have c:=zag N131 Tryz.f131;simp only [nEqs,Tryz.f131,seval] at c;exact nd c <| nd @zDE <| @zD2)
theorem c131:type_of% x131.down:=x131.down
noncomputable def N130:=zax Tryz.f130
noncomputable def x130:=PLift.up (by have c:=zag N130 Tryz.f130;simp only [nEqs,Tryz.f130,seval] at c;exact nd c <| @zDD)
theorem c130:type_of% x130.down:=x130.down
noncomputable def N101:=zax Tryz.f101
noncomputable def x101:=PLift.up (by have c:=zag N101 Tryz.f101;simp only [nEqs,Tryz.f101,seval] at c;exact nd c <| nd @zn1 <| nd @zn2 <| nd @zyQ <| nd @zyY <| nd @ld3 <| nd @zAE <| @zDg)
theorem c101:type_of% x101.down:=x101.down
noncomputable def N65:=zax Tryz.f65
noncomputable def x65:=PLift.up (by have c:=zag N65 Tryz.f65;simp only [nEqs,Tryz.f65,seval] at c;exact nd c <| nd @zC6 <| nd @zn0 <| nd @zsd <| nd @zn1 <| nd @zkU <| nd @zn2 <| nd @zyQ <| nd @zyX <| nd @zyY <| nd @ld3 <| nd @ld63 <| nd @zAE <| nd @ln9 <| @fi65)
theorem c65:type_of% x65.down:=x65.down
noncomputable def N68:=zax Tryz.f68
noncomputable def x68:=PLift.up (by have c:=zag N68 Tryz.f68;simp only [nEqs,Tryz.f68,seval] at c;exact nd c <| nd @zsd <| nd @zn1 <| nd @zkU <| nd @zyI <| nd @zn2 <| nd @zyQ <| nd @zyY <| nd @ld3 <| nd @ld63 <| nd @ld9 <| @fi68)
theorem c68:type_of% x68.down:=x68.down
noncomputable def N67:=zax Tryz.f67
noncomputable def x67:=PLift.up (by have c:=zag N67 Tryz.f67;simp only [nEqs,Tryz.f67,seval] at c;exact nd c <| nd @zkU <| nd @ld63 <| @fi67)
theorem c67:type_of% x67.down:=x67.down
noncomputable def N36:=zax Tryz.f36
noncomputable def x36:=PLift.up (by have c:=zag N36 Tryz.f36;simp only [nEqs,Tryz.f36,seval] at c;exact nd c <| nd @zkU <| nd @ld63 <| @fi36)
theorem c36:type_of% x36.down:=x36.down
noncomputable def N57:=zax Tryz.f57
noncomputable def x57:=PLift.up (by have c:=zag N57 Tryz.f57;simp only [nEqs,Tryz.f57,seval] at c;exact nd c <| @fi57)
theorem c57:type_of% x57.down:=x57.down
end Go.Proofs.YtdplfgoifjjniaaGreatDoor
namespace Go.Am
theorem Ow.slice {α:Type} {r:Rep α} {h0 h:Heap} {e A:Nat} {v:Value} {l:List α} (f:Ow r h0 h e A v l):∃ a n c,v=.slice a n c:=by
 rcases f with ⟨_,_,rfl|⟨B,o,rfl,_⟩⟩|⟨row,rfl,_⟩
 ·exact ⟨_,_,_,rfl⟩
 ·exact ⟨_,_,_,rfl⟩
 ·exact ⟨_,_,_,rfl⟩
theorem Ow.lt {α:Type} {r:Rep α} {h0 h:Heap} {e A:Nat} {v:Value} {l:List α} (f:Ow r h0 h e A v l):A < h.size∨l=[]:=by
 rcases f with ⟨_,h2,_⟩|⟨row,_,_,_,h4,_⟩
 ·exact .inr h2
 ·exact .inl h4
theorem Ow.any {α:Type} {r:Rep α} {h0 h:Heap} {e A:Nat} {v:Value} (f:Ow r h0 h e A v []) (B:Nat) (hB:h0.size≤B):Ow r h0 h e B v []:=by
 rcases f with ⟨_,h2,h3⟩|⟨row,_,h2,_⟩
 ·exact .inl ⟨hB,h2,h3⟩
 ·exact absurd rfl h2
theorem zyU {A:Nat} {h:Heap} (hA:h.size≤A):kill A h=h:=if_neg (by omega)
theorem Ow.under {α:Type} {r:Rep α} {hc h:Heap} {e A C:Nat} {v:Value} {l:List α} (hk:0 < r.k) (hflat:∀ h h' cs x,r.R h cs x→r.R h' cs x) (f:Ow r hc h e A v l) (hC:C < hc.size∨h.size≤C):Sl r (Am.kill C h) v l:=by
 rcases hC with hC|hC
 ·exact (f.kill hflat hC).sl hk
 ·rw [zyU hC];exact f.sl hk
section
variable {P:Program} {T:Tab} {ov:Ov}
theorem zci {b:Nat} {ops:Array Oper} {l:List Oper} {j:Nat} {d:Option Tmp} {Q:Env→Heap→Prop} {e:Env} {hh:Heap} {bs:List Blk} {w s:Nat} {v:Value} (hb:b≤hh.size) (hs:hh.size≤s)
 (hk:WOpsX P T ov b ops l (j+1) (put e d v) (hh.lay bs s) Q):zku P T ov b ops l j d Q e (hh.lay [] w) v (hh.lay bs s):=by
 refine ⟨⟨⟨.inl ?_,?_,?_⟩,hk⟩⟩
 ·rw [zad];show hh.size+0≤s;omega
 ·show b≤s;omega
 ·rw [zad,zad];simp
end
theorem zsp (a:AtomD) (z0 z1 z2 z3 z4 z5 z6 z7 z8 z9 z10:Value):zcP (fun i=>some (i*11,11)) [z0,z1,z2,z3,z4,z5,z6,z7,z8,z9,z10] [(0,a.val)]=some a.cells:=rfl
section
variable {h1:Heap} {bs:List Blk} {w:Nat} {T:Tab} {K:Value→Heap→Prop} {t e s:TypeId} {v p:Value} {kd:IntKind} {i:Int}
theorem zj3 {l:List AtomD} {x:AtomD} (f:Sl Rep.atom h1 v l) (hd:T.desc t=some (.slice e)) (hs:zau T e=some 11) (h0:0≤i) (hx:l[i.toNat]? = some x) (hk:∀ p,AtP h1 p (x.cells)→K p (h1.lay bs w)):valE (zao T t v (.int kd i)) (h1.lay bs w) K :=
 ixa f hd hs h0 (by have:=(List.getElem?_eq_some_iff.1 hx).1;omega) fun x' p hx' hp=>by
  obtain rfl:x=x':=Option.some.inj (hx.symm.trans hx')
  exact hk p hp
theorem zmm {l:List TermD} {x:TermD} (f:Sl Rep.term h1 v l) (hd:T.desc t=some (.slice e)) (hs:zau T e=some 2) (h0:0≤i) (hx:l[i.toNat]? = some x) (hk:∀ p,AtP h1 p (x.cells)→K p (h1.lay bs w)):valE (zao T t v (.int kd i)) (h1.lay bs w) K :=
 ixt f hd hs h0 (by have:=(List.getElem?_eq_some_iff.1 hx).1;omega) fun x' p hx' hp=>by
  obtain rfl:x=x':=Option.some.inj (hx.symm.trans hx')
  exact hk p hp
theorem zhs {l:List ByteArray} {x:ByteArray} (f:Sl Rep.str h1 v l) (hd:T.desc t=some (.slice e)) (hs:zau T e=some 1) (h0:0≤i) (hx:l[i.toNat]? = some x) (hk:∀ p,AtP h1 p ([.string x])→K p (h1.lay bs w)):valE (zao T t v (.int kd i)) (h1.lay bs w) K :=
 ixs f hd hs h0 (by have:=(List.getElem?_eq_some_iff.1 hx).1;omega) fun x' p hx' hp=>by
  obtain rfl:x=x':=Option.some.inj (hx.symm.trans hx')
  exact hk p hp
theorem zAA {l:List ClauseD} {x:ClauseD} (f:Sl Rep.clause h1 v l) (hd:T.desc t=some (.slice e)) (hs:zau T e=some 12) (h0:0≤i) (hx:l[i.toNat]? = some x) (hk:∀ p b,Sl Rep.atom h1 b x.body→AtP h1 p (x.head.cells++[b])→K p (h1.lay bs w)):valE (zao T t v (.int kd i)) (h1.lay bs w) K :=
 ixc f hd hs h0 (by have:=(List.getElem?_eq_some_iff.1 hx).1;omega) fun x' p b hx' hb hp=>by
  obtain rfl:x=x':=Option.some.inj (hx.symm.trans hx')
  exact hk p b hb hp
theorem zbs {α:Type} {l:List α} {i:Nat} (h:(i:Int) < l.length):∃ x,l[(i:Int).toNat]? = some x∧l[i]? = some x:=⟨l[i]'(by omega),by simp,by simp⟩
end
section
variable {P:Program} {T:Tab}
theorem zkC {op:BinOp} {t:TypeId} {k:IntKind} {a b:Int} {v:Value} (hf:zb8 op (.int k a) (.int k b)=none) (hp:zaJ P (binOp op t (.int k a) (.int k b))=some v) (hv:plain v=true):binA P T op t (.int k a) (.int k b)=some v:=by
 have h1:((T.desc t).bind fun d=>zl3 d (.int k a) (.int k b))=none:=by
  cases T.desc t with
  |none=>rfl
  |some d=>cases d <;> rfl
 unfold binA
 rw [hf]
 simp only [h1]
 rw [if_pos (show (plain (Value.int k a) && plain (Value.int k b))=true from rfl)]
 rw [hp,Option.bind_some,if_pos hv]
theorem zrN {t:TypeId} {k:IntKind} {a b:Int} (hb:b≠0):binA P T .rem t (.int k a) (.int k b)=some (.int k (a.tmod b)):=by
 refine zkC rfl ?_ rfl
 simp [binOp,Op.intDiv,hb,zdT]
theorem znw {t:TypeId} {k:IntKind} {a b:Int} (hb:b≠0):binA P T .quo t (.int k a) (.int k b)=some (.int k (k.wrap (a.tdiv b))):=by
 refine zkC rfl ?_ rfl
 simp [binOp,Op.intDiv,hb,zdT]
end
end Go.Am
namespace Go.Am
def idxP {α:Type} (p:α→Bool) (l:List α):Int:=match l.findIdx? p with
 |some i=>i
 |none => -1
theorem zin {α:Type} {p:α→Bool} {l:List α} {i:Nat} {x:α} (hx:l[i]? = some x) (hall:∀ y∈l.take i,p y=false) (hp:p x=true):idxP p l=i:=by
 have:l.findIdx? p=some i:=by
  induction l generalizing i with
  |nil=>simp at hx
  |cons a l ih =>
   rw [List.findIdx?_cons]
   cases i with
   |zero =>
    simp at hx
    subst hx
    simp [hp]
   |succ i =>
    have ha:=hall a (by simp)
    rw [ha]
    have:=ih (i:=i) (by simpa using hx) (fun y hy=>hall y (by simp [hy]))
    simp [this]
 unfold idxP
 rw [this]
theorem zkX {α:Type} {p:α→Bool} {l:List α} (hall:∀ y∈l,p y=false):idxP p l = -1:=by
 have:l.findIdx? p=none:=by rw [List.findIdx?_eq_none_iff];exact hall
 unfold idxP
 rw [this]
theorem zn9 {α:Type} (p:α→Bool) (l:List α):decide (idxP p l ≥ 0)=l.any p:=by
 unfold idxP
 cases h:l.findIdx? p with
 |none =>
  rw [List.findIdx?_eq_none_iff] at h
  have:l.any p=false:=by rw [List.any_eq_false];intro x hx;rw [h x hx];decide
  rw [this]
  decide
 |some i =>
  have h2:∃ x∈l,p x=true:=by
   have:=List.findIdx?_isSome (xs:=l) (p:=p)
   rw [h] at this
   simp at this
   exact this
  have:l.any p=true:=by rw [List.any_eq_true];exact h2
  rw [this]
  simp
theorem zbt (a:AtomD):a.args.length=a.cnt:=by
 unfold AtomD.args AtomD.cnt
 rw [List.length_take]
 simp only [List.length_cons,List.length_nil]
 omega
theorem zzk {H:Heap} {A o:Nat} {a:AtomD} {u:TypeId} {ro:Bool} (q:Holds H A (.row a.cells u ro)) (ho:o=3):Sl Rep.term H (.slice (some ⟨A,o,none⟩) a.cnt 4) a.args:=by
 subst ho
 have hc:a.cnt≤4:=by unfold AtomD.cnt;omega
 refine .inr ⟨A,3,4,a.cells,u,ro,by rw [zbt],by rw [zbt];unfold maxLen;omega,.inl ⟨by decide,by rw [zbt];exact hc⟩,q.lt,q.get,fun i x hx=>?_⟩
 have hi:i < a.cnt:=by have:=(List.getElem?_eq_some_iff.1 hx).1;rw [zbt] at this;exact this
 unfold AtomD.args at hx
 rw [List.getElem?_take_of_lt hi] at hx
 have:i=0∨i=1∨i=2∨i=3:=by omega
 rcases this with rfl|rfl|rfl|rfl <;> (simp at hx;subst hx;exact ⟨_,rfl,rfl⟩)
theorem zaF (a:AtomD):cut a.cells 0 11=some a.cells:=rfl
theorem zaA (a:AtomD):Value.agg a.cells.toArray=a.val:=rfl
theorem zas (a:AtomD):a.val.cells.toList=a.cells:=rfl
theorem zal (a:AtomD) (h:Heap) (K:Value→Heap→Prop):valE (some a.val) h K=K a.val h:=rfl
theorem zni (a:TermD) (h:Heap) (K:Value→Heap→Prop):valE (some a.val) h K=K a.val h:=rfl
def AtomD.ground (a:AtomD):Bool := !a.args.any (·.v)
end Go.Am
