/- Sorting by halves, each text once: the first stays. No condition. -/
import Derived.Test.YtdplfgoifjjniaaGreatDoorG22
set_option linter.unusedSimpArgs false
set_option linter.unusedVariables false
namespace Go.Am
theorem cP.over {a h1 h2:Heap} {l:List bh} {w:Nat} (i:cP a h1) (x:Ext (h1.lay l w) h2):cP a h2:=(i.trans (cP.lay _ _ _)).trans x.inc
end Go.Am
namespace Go.Am
def vu (l:List dW) (a:ab):List ab:=match l.find? (fun r=>r.atom == a) with
 |some r=>r.body
 |none=>[]
structure qB (l:List dW) (goals out:List ab):Prop where
 iS:ez out
 plain:tg out
 qc:∀ g∈goals,g∈out
 closed:∀ x∈out,∀ b∈vu l x,b∈out
 least:∀ S:ab→Prop,(∀ g∈goals,S g)→(∀ x,S x→∀ b∈vu l x,S b)→∀ x∈out,S x
theorem qB.none {l:List dW} {o:List ab} (f:qB l [] o):o=[]:=by
 cases o with
 |nil=>rfl
 |cons x o=>exact (f.least (fun _=>False) (fun g hg=>by cases hg) (fun _ h=>h.elim) x (List.mem_cons_self ..)).elim
def zT (l:List dW):List ab:=l.flatMap (·.body)
theorem zqT {l:List dW} {a b:ab} (h:b∈vu l a):b∈zT l:=by
 unfold vu at h
 split at h
 ·rename_i r hr
  exact List.mem_flatMap.2 ⟨r,List.mem_of_find?_eq_some hr,h⟩
 ·cases h
structure Nc (l:List dW) (goals out todo:List ab):Prop where
 iS:ez out
 plain:tg out
 qc:∀ g∈goals,g∈out
 closed:∀ x∈out,x∈todo∨∀ b∈vu l x,b∈out
 A5:∀ x∈todo,x∈out
 least:∀ S:ab→Prop,(∀ g∈goals,S g)→(∀ x,S x→∀ b∈vu l x,S b)→∀ x∈out,S x
structure js (l:List dW) (goals out todo:List ab) (x:ab) (j:Nat):Prop where
 iS:ez out
 plain:tg out
 qc:∀ g∈goals,g∈out
 closed:∀ y∈out,y∈todo∨y=x∨∀ b∈vu l y,b∈out
 A5:∀ y∈todo,y∈out
 here:x∈out
 done:∀ b∈(vu l x).take j,b∈out
 least:∀ S:ab→Prop,(∀ g∈goals,S g)→(∀ x,S x→∀ b∈vu l x,S b)→∀ x∈out,S x
theorem js.add {l:List dW} {goals out todo:List ab} {x a:ab} {j:Nat} (f:js l goals out todo x j) (ha:(vu l x)[j]? = some a) (hp:gn a):js l goals (cB a out) (todo++[a]) x (j+1):=by
 have oN:∀ y,y∈cB a out↔y∈out∨y=a:=fun y=>by
  rw [EA f.iS]
  constructor
  ·rintro (h|⟨rfl,_⟩)
   ·exact .inl h
   ·exact .inr rfl
  ·rintro (h|rfl)
   ·exact .inl h
   ·by_cases hy:y∈out
    ·exact .inl hy
    ·refine .inr ⟨rfl,fun z hz e=>hy ?_⟩
     rw [(zux hp (f.plain z hz)).1 e]
     exact hz
 have b8:a∈vu l x:=List.mem_of_getElem? ha
 refine ⟨O7 f.iS,fun y hy=>?_,fun g hg=>(oN g).2 (.inl (f.qc g hg)),fun y hy=>?_,fun y hy=>?_,(oN x).2 (.inl f.here),fun b hb=>?_,fun S h1 h2 y hy=>?_⟩
 ·rcases (oN y).1 hy with h|rfl
  ·exact f.plain y h
  ·exact hp
 ·rcases (oN y).1 hy with h|rfl
  ·rcases f.closed y h with h|h|h
   ·exact .inl (List.mem_append_left _ h)
   ·exact .inr (.inl h)
   ·exact .inr (.inr (fun b hb=>(oN b).2 (.inl (h b hb))))
  ·exact .inl (List.mem_append_right _ (List.mem_cons_self ..))
 ·rcases List.mem_append.1 hy with h|h
  ·exact (oN y).2 (.inl (f.A5 y h))
  ·have:y=a:=by simpa using h
   exact (oN y).2 (.inr this)
 ·rw [List.take_add_one,ha] at hb
  rcases List.mem_append.1 hb with hb|hb
  ·exact (oN b).2 (.inl (f.done b hb))
  ·have:b=a:=by simpa using hb
   exact (oN b).2 (.inr this)
 ·rcases (oN y).1 hy with h|rfl
  ·exact f.least S h1 h2 y h
  ·exact h2 x (f.least S h1 h2 x f.here) y b8
theorem js.len {l:List dW} {goals out todo:List ab} {x:ab} {j:Nat} (f:js l goals out todo x j) (hp:tg (goals++zT l)):out.length≤goals.length+(zT l).length:=by
 have h1:∀ y∈out,y∈goals++zT l:=f.least (·∈goals++zT l) (fun g hg=>List.mem_append_left _ hg) (fun y _ b hb=>List.mem_append_right _ (zqT hb))
 have h2:∀ y,y∈out→y∈jT (goals++zT l):=fun y hy=>(ztU hp).2 (h1 y hy)
 have h3:=YM (goals++zT l)
 have h4:out.length≤(jT (goals++zT l)).length:=by
  have e:out=(jT (goals++zT l)).filter (fun x=>decide (x∈out)):=zsS f.iS (zqP _ (vl _).iS) (fun y=>by
   rw [List.mem_filter,decide_eq_true_iff]
   exact ⟨fun hy=>⟨h2 y hy,hy⟩,fun hy=>hy.2⟩)
  rw [e]
  exact List.length_filter_le _ _
 rw [List.length_append] at h3
 omega
end Go.Am
namespace Go.Am
section
variable {P:Program} {T:bD} {ov:Ov} {rd:Option Nat}
end
end Go.Am
namespace Go.Am
section
variable {α:Type} {r:aK α} {h0 h1:Heap} {v:Value} {l:List α} {t e:TypeId} {A k bytes:Nat} {z:List Value} {T:bD} {bs:List bh} {w:Nat} {K:Value→Heap→Prop}
theorem zA5 (hd:T.desc t=some (.slice e)) (hi:T.info e=some (k,bytes,z)) (FP:r.k=k) (hk:0 < k) {u:TypeId} {ro:Bool} {cs:List Value} {i c:Nat} {x:α} (hg:bs[i]? = some (.row cs u ro)) (hz:h0.size≤h1.size) (f:Ow r h0 h1 e A v l) (hr:r.R (kill A (h1.lay bs w)) cs x)
 (hb:(l.length+1)*bytes≤140737488355328) (hl:l.length+1≤1152921504606846976)
 (hK:∀ v' h' A',Ow r h0 h' e A' v' (l++[x])→fK A (h1.lay bs w) h'→(A'=A∨h1.size≤A')→K v' h'):bW (il T t v (.slice (some ⟨h1.size+i,0,none⟩) 1 c) (h1.lay bs w)) K:=by
 have qd:(h1.lay bs w).get (h1.size+i)=some (.row cs u ro):=by rw [kX];exact hg
 obtain ⟨hs,oP⟩:=zpw (r:=r) (A:=A) (c:=c) (y:=x) (by omega) qd hr
 exact zsM hd hi FP hk hz f (by rw [← FP];exact hs) oP hb hl hK
theorem OT {u:TypeId} {n o:Nat} {cs vs:List Value} {v:Value} (q:Holds h1 A (.row cs u false)) (hs:bO T t=some n) (hv:v.cells.toList=vs) (hl:vs.length=n) (hb:o+n≤cs.length) (bE:vs.all one=true)
 (hK:∀ h',Holds h' A (.row (ay cs o vs) u false)→fK A (h1.lay bs w) h'→K undef h'):gv (gA T t (.pointer (some ⟨A,o,none⟩)) v (h1.lay bs w)) K:=by
 have hg:(h1.lay bs w).get A=some (.row cs u false):=q.lay bs w
 have hA:A < (h1.lay bs w).size:=(q.on bs w).lt
 have dB:v.cells.size=n:=by rw [← hl,← hv];simp
 have he:gA T t (.pointer (some ⟨A,o,none⟩)) v (h1.lay bs w)=some ((h1.lay bs w).set A (.row (ay cs o vs) u false)):=by
  unfold gA
  simp only [hs,Option.bind_some]
  rw [if_pos dB,hv]
  unfold kW
  rw [hg]
  simp only
  rw [if_pos (by simp only [Bool.and_eq_true,decide_eq_true_eq];exact ⟨by omega,bE⟩)]
 rw [he]
 refine hK _ ⟨by rw [Heap.size_set];exact hA,by rw [Heap.aC _ _ _ _ hA,if_pos rfl]⟩ ⟨by rw [Heap.size_set];exact Nat.le_refl _,fun B hB aO=>by rw [Heap.aC _ _ _ _ hA,if_neg aO],by rw [Heap.bX];omega⟩
end
section
variable {P:Program} {T:bD} {ov:Ov}
theorem zl3 {b:Nat} {ops:Array Oper} {l:List Oper} {j:Nat} {d:Option Tmp} {Q:Env→Heap→Prop} {e:Env} {hh:Heap} {Td bs:List bh} {w s:Nat} {v:Value} (hl:Td.length≤bs.length) (hb:b≤s) (hs:hh.size+Td.length≤s)
 (hk:bZ P T ov b ops l (j+1) (put e d v) (hh.lay bs s) Q):zY P T ov b ops l j d Q e (hh.lay Td w) v (hh.lay bs s):=by
 refine ⟨⟨⟨.inl ?_,?_,?_⟩,hk⟩⟩
 ·rw [bB];exact hs
 ·exact hb
 ·rw [bB,bB];omega
end
/-! ### Heaps without one block -/
theorem Ez {h:Heap} {A B:Nat} (aO:B≠A):(kill A h).get B=h.get B:=by
 unfold kill
 split
 ·rename_i hA
  rw [Heap.aC _ _ _ _ hA,if_neg aO]
 ·rfl
theorem Md {h:Heap} {A:Nat} (hA:A < h.size):(kill A h).get A=some .dead:=by
 unfold kill
 rw [if_pos hA,Heap.aC _ _ _ _ hA,if_pos rfl]
structure Nb (B:Heap) (A:Nat) (h:Heap):Prop where
 lt:A < h.size
 inc:cP B (kill A h)
section
variable {B h1 h2:Heap} {A A':Nat} {bs:List bh} {w:Nat}
theorem Nb.all (k:Nb B A h1):cP B h1:=k.inc.trans (Gp _ _)
theorem Nb.holds {C:Nat} {cs:List Value} {u:TypeId} {ro:Bool} (k:Nb B A h1) (q:Holds B C (.row cs u ro)):Holds h1 C (.row cs u ro)∧C≠A:=by
 refine ⟨q.mono k.all,fun e=>?_⟩
 have:=k.inc.get C q.lt (by rw [q.get];nofun)
 rw [e,Md k.lt,← e,q.get] at this
 cases this
end
section
variable {T:bD} {t e:TypeId} {v:Value} {B h1:Heap} {bs:List bh} {w:Nat} {K:Value→Heap→Prop} {kd:IntKind} {i:Int}
end
theorem cP.ku {a b d:Heap} {A:Nat} (i:cP a b) (c:fK A b d) (hA:a.size≤A):cP a d:=⟨Nat.le_trans i.size c.size,fun B hB hd=>(c.get B (Nat.lt_of_lt_of_le hB i.size) (by omega)).trans (i.get B hB hd)⟩
/-! ### Sizes -/
theorem zzk {s:ByteArray} (h:xR s):s.size≤300:=by have:=h.len;omega
theorem dv.size {t:aQ} (h:dv t):t.s.size≤300:=by
 unfold dv at h
 split at h
 ·have:=h.len;omega
 ·exact zzk h.1
end Go.Am
