/- One element appended, cells stored within a row. No condition. -/
import Derived.Test.YtdplfgoifjjniaaGreatDoorG22
import Derived.Test.YtdplfgoifjjniaaGreatDoorG14
import Derived.Test.YtdplfgoifjjniaaGreatDoorG15
namespace Go.Am
set_option linter.unusedVariables false
section
variable {α:Type} {r:Rep α} {h0 h1:Heap} {v:Value} {l:List α} {t e:TypeId} {A k bytes:Nat} {z:List Value} {T:Tab} {bs:List Blk} {w:Nat} {K:Value→Heap→Prop}
theorem zxU (hd:T.desc t=some (.slice e)) (hi:T.info e=some (k,bytes,z)) (hrk:r.k=k) (hk:0 < k) {u:TypeId} {ro:Bool} {cs:List Value} {i c:Nat} {x:α} (hg:bs[i]? = some (.row cs u ro)) (hz:h0.size≤h1.size) (f:Ow r h0 h1 e A v l) (hr:r.R (kill A (h1.lay bs w)) cs x)
 (hb:(l.length+1)*bytes≤140737488355328) (hl:l.length+1≤1152921504606846976)
 (hK:∀ v' h' A',Ow r h0 h' e A' v' (l++[x])→Chg A (h1.lay bs w) h'→(A'=A∨h1.size≤A')→K v' h'):optE (zaL T t v (.slice (some ⟨h1.size+i,0,none⟩) 1 c) (h1.lay bs w)) K:=by
 have hgt:(h1.lay bs w).get (h1.size+i)=some (.row cs u ro):=by rw [zbj];exact hg
 obtain ⟨hs,hsr⟩:=zsa (r:=r) (A:=A) (c:=c) (y:=x) (by omega) hgt hr
 exact ztL hd hi hrk hk hz f (by rw [← hrk];exact hs) hsr hb hl hK
theorem zft {u:TypeId} {n o:Nat} {cs vs:List Value} {v:Value} (q:Holds h1 A (.row cs u false)) (hs:zax T t=some n) (hv:v.cells.toList=vs) (hl:vs.length=n) (hb:o+n≤cs.length) (h1':vs.all one=true)
 (hK:∀ h',Holds h' A (.row (splice cs o vs) u false)→Chg A (h1.lay bs w) h'→K undef h'):memE (za7 T t (.pointer (some ⟨A,o,none⟩)) v (h1.lay bs w)) K:=by
 have hg:(h1.lay bs w).get A=some (.row cs u false):=q.lay bs w
 have hA:A < (h1.lay bs w).size:=(q.on bs w).lt
 have hsz:v.cells.size=n:=by rw [← hl,← hv];simp
 have he:za7 T t (.pointer (some ⟨A,o,none⟩)) v (h1.lay bs w)=some ((h1.lay bs w).set A (.row (splice cs o vs) u false)):=by
  unfold za7
  simp only [hs,Option.bind_some]
  rw [if_pos hsz,hv]
  unfold zbS
  rw [hg]
  simp only
  rw [if_pos (by simp only [Bool.and_eq_true,decide_eq_true_eq];exact ⟨by omega,h1'⟩)]
 rw [he]
 refine hK _ ⟨by rw [Heap.size_set];exact hA,by rw [Heap.get_set _ _ _ _ hA,if_pos rfl]⟩ ⟨by rw [Heap.size_set];exact Nat.le_refl _,fun B hB hne=>by rw [Heap.get_set _ _ _ _ hA,if_neg hne],by rw [Heap.low_set];omega⟩
end
section
variable {P:Program} {T:Tab} {ov:Ov}
theorem zmu {b:Nat} {ops:Array Oper} {l:List Oper} {j:Nat} {d:Option Tmp} {Q:Env→Heap→Prop} {e:Env} {hh:Heap} {bs0 bs:List Blk} {w s:Nat} {v:Value} (hl:bs0.length≤bs.length) (hb:b≤s) (hs:hh.size+bs0.length≤s)
 (hk:WOpsX P T ov b ops l (j+1) (put e d v) (hh.lay bs s) Q):zkz P T ov b ops l j d Q e (hh.lay bs0 w) v (hh.lay bs s):=by
 refine ⟨⟨⟨.inl ?_,?_,?_⟩,hk⟩⟩
 ·rw [zad];exact hs
 ·exact hb
 ·rw [zad,zad];omega
end
/-! ### Heaps without one block -/
theorem zch {h:Heap} {A B:Nat} (hne:B≠A):(kill A h).get B=h.get B:=by
 unfold kill
 split
 ·rename_i hA
  rw [Heap.get_set _ _ _ _ hA,if_neg hne]
 ·rfl
theorem zdB {h:Heap} {A:Nat} (hA:A < h.size):(kill A h).get A=some .dead:=by
 unfold kill
 rw [if_pos hA,Heap.get_set _ _ _ _ hA,if_pos rfl]
structure Kin (B:Heap) (A:Nat) (h:Heap):Prop where
 lt:A < h.size
 inc:Inc B (kill A h)
section
variable {B h1 h2:Heap} {A A':Nat} {bs:List Blk} {w:Nat}
theorem Kin.all (k:Kin B A h1):Inc B h1:=k.inc.trans (zfj _ _)
theorem zhC {a b:Heap} (i:Inc a b):Inc (kill A a) (kill A b):=⟨by rw [zbm,zbm];exact i.size,fun C hC hd=>by
 by_cases hCA:C=A
 ·subst hCA
  rw [zbm] at hC
  exact absurd (zdB hC) hd
 ·rw [zbm] at hC
  rw [zch hCA] at hd ⊢
  rw [zch hCA]
  exact i.get C hC hd⟩
theorem Kin.mono (k:Kin B A h1) (i:Inc h1 h2):Kin B A h2:=⟨Nat.lt_of_lt_of_le k.lt i.size,k.inc.trans (zhC i)⟩
theorem Kin.over (k:Kin B A h1) (x:Ext (h1.lay bs w) h2):Kin B A h2:=k.mono ((Inc.lay _ _ _).trans x.inc)
theorem Kin.lay (k:Kin B A h1) (bs:List Blk) (w:Nat):Kin B A (h1.lay bs w):=k.mono (Inc.lay _ _ _)
theorem Kin.step (k:Kin B A h1) (c:Chg A (h1.lay bs w) h2) (hA:A'=A∨h1.size≤A') (hl:A' < h2.size):Kin B A' h2:=by
 have hs:h1.size≤(h1.lay bs w).size:=by rw [zad];omega
 refine ⟨hl,⟨by rw [zbm];exact Nat.le_trans k.all.size (Nat.le_trans hs c.size),fun C hC hd=>?_⟩⟩
 have h3:=k.inc.get C hC hd
 have hCA:C≠A:=by
  intro e
  subst e
  rw [zdB k.lt] at h3
  exact hd h3.symm
 have hC1:C < h1.size:=Nat.lt_of_lt_of_le hC k.all.size
 rw [zch hCA] at h3
 rw [zch (by rcases hA with e|e <;> omega),c.get C (by omega) hCA,zba _ _ _ hC1]
 exact h3
theorem Kin.trans (k:Kin B A h1) (k2:Kin (kill A (h1.lay bs w)) A' h2):Kin B A' h2:=⟨k2.lt,(k.lay bs w).inc.trans k2.inc⟩
theorem Kin.holds {C:Nat} {cs:List Value} {u:TypeId} {ro:Bool} (k:Kin B A h1) (q:Holds B C (.row cs u ro)):Holds h1 C (.row cs u ro)∧C≠A:=by
 refine ⟨q.mono k.all,fun e=>?_⟩
 have:=k.inc.get C q.lt (by rw [q.get];nofun)
 rw [e,zdB k.lt,← e,q.get] at this
 cases this
theorem Kin.keep {C:Nat} {cs:List Value} {u:TypeId} {ro:Bool} (k:Kin (kill A (h1.lay bs w)) A' h2) (q:Holds h1 C (.row cs u ro)) (hne:C≠A):Holds h2 C (.row cs u ro)∧C≠A' :=
 k.holds ⟨by rw [zbm];exact (q.on bs w).lt,(zch hne).trans (q.on bs w).get⟩
end
section
variable {T:Tab} {t e:TypeId} {v:Value} {B h1:Heap} {bs:List Blk} {w:Nat} {K:Value→Heap→Prop} {kd:IntKind} {i:Int}
end
theorem Inc.chg {a b d:Heap} {A:Nat} (i:Inc a b) (c:Chg A b d) (hA:a.size≤A):Inc a d:=⟨Nat.le_trans i.size c.size,fun B hB hd=>(c.get B (Nat.lt_of_lt_of_le hB i.size) (by omega)).trans (i.get B hB hd)⟩
theorem Ow.re {α:Type} {r:Rep α} {h0 h:Heap} {e A B:Nat} {v:Value} (f:Ow r h0 h e A v []) (hB:h0.size≤B):Ow r h0 h e B v []:=by
 rcases f with ⟨_,_,e3⟩|⟨_,_,e2,_⟩
 ·exact .inl ⟨hB,rfl,e3⟩
 ·exact absurd rfl e2
/-! ### Sizes -/
theorem zks {s:ByteArray} (h:lowX s):s.size≤300:=by have:=h.len;omega
theorem termX.size {t:TermD} (h:termX t):t.s.size≤300:=by
 unfold termX at h
 split at h
 ·have:=h.len;omega
 ·exact zks h.1
theorem zuH {a:AtomD} (h0:a.says.size≤300) (h1:a.pred.size≤300) (h:∀ i,i < 4→(a.arg i).s.size≤300):a.light=true:=by
 unfold AtomD.light
 simp only [Bool.and_eq_true,decide_eq_true_eq]
 exact ⟨h0,h1,h 0 (by omega),h 1 (by omega),h 2 (by omega),h 3 (by omega)⟩
theorem ValidX.light {a:AtomD} (h:ValidX a):a.light=true:=by
 refine zuH (zks h.says.1.1) (zks h.pred.1.1) (fun i hi=>?_)
 by_cases hn:(i:Int) < a.n
 ·exact (h.terms i hn).size
 ·rw [h.rest i (by omega) hi]
  decide
end Go.Am
