/- A list of one's own from which the first is taken, to which one is appended. No condition. -/
import Derived.Test.YtdplfgoifjjniaaGreatDoorG27
set_option linter.unusedSimpArgs false
set_option linter.unusedVariables false
namespace Go.Am
def OwnT (h0 h:Heap) (u:TypeId) (v:Value) (s:List AtomD):Prop :=
 (s=[]∧Emp h v)∨∃ A o full,v=.slice (some ⟨A,o*11,none⟩) s.length (G*11+s.length)∧Holds h A (.row (rowA full) u false)∧h0.size≤A∧full.drop o=s∧o≤full.length∧full.length≤100000
theorem OwnX.todo {h0 h:Heap} {u:TypeId} {v:Value} {s:List AtomD} (f:OwnX h0 h u v s) (hn:s.length≤100000):OwnT h0 h u v s:=by
 rcases f with f|⟨A,e1,e2,e3,e4⟩
 ·exact .inl f
 ·exact .inr ⟨A,0,s,by rw [Nat.zero_mul];exact e1,e2,e3,rfl,Nat.zero_le _,hn⟩
theorem OwnT.mono {h0 h h':Heap} {u:TypeId} {v:Value} {s:List AtomD} (f:OwnT h0 h u v s) (i:Inc h h'):OwnT h0 h' u v s:=by
 rcases f with ⟨e,f⟩|⟨A,o,full,e1,e2,e3⟩
 ·exact .inl ⟨e,f.mono i⟩
 ·exact .inr ⟨A,o,full,e1,e2.mono i,e3⟩
theorem OwnT.over {h0 h1 h2:Heap} {u:TypeId} {v:Value} {s:List AtomD} {bs:List Blk} {w:Nat} (f:OwnT h0 h1 u v s) (x:Ext (h1.lay bs w) h2):OwnT h0 h2 u v s:=f.mono ((Inc.lay _ _ _).trans x.inc)
theorem OwnT.down {h0 h1 h:Heap} {u:TypeId} {v:Value} {s:List AtomD} (f:OwnT h1 h u v s) (i:h0.size≤h1.size):OwnT h0 h u v s:=by
 rcases f with f|⟨A,o,full,e1,e2,e3,e4⟩
 ·exact .inl f
 ·exact .inr ⟨A,o,full,e1,e2,by omega,e4⟩
theorem OwnT.sl {h0 h:Heap} {u:TypeId} {v:Value} {s:List AtomD} (f:OwnT h0 h u v s):Sl Rep.atom h v s:=by
 rcases f with ⟨rfl,f⟩|⟨A,o,full,rfl,e2,e3,e4,e5,e6⟩
 ·exact f.sl
 ·have hG:=zjo
  have hs:s.length≤100000:=by rw [← e4,List.length_drop];omega
  obtain ⟨d1,d2,d3⟩:=zcA (k:=11) (q:=s.length) (by decide) (by omega)
  exact zeM (o:=o) e2 (.inr ⟨d1,d2,by rw [d3];exact Nat.le_refl _⟩) hs (fun i x hx=>by rw [← e4,List.getElem?_drop] at hx;exact hx)
theorem OwnT.tail {T:Tab} {t u:TypeId} {kd:IntKind} (hd:T.desc t=some (.slice u)) (hs:zau T u=some 11) {h0 h:Heap} {v:Value} {x:AtomD} {s:List AtomD} (f:OwnT h0 h u v (x::s)) :
 ∃ v',zbl T t v (some (.int kd 1)) none none=some v'∧OwnT h0 h u v' s:=by
 rcases f with ⟨e,_⟩|⟨A,o,full,rfl,e2,e3,e4,e5,e6⟩
 ·cases e
 ·have hG:=zjo
  have hl:(x::s).length=full.length - o:=by rw [← e4,List.length_drop]
  simp only [List.length_cons] at hl
  obtain ⟨d1,d2,d3⟩:=zcA (k:=11) (q:=s.length+1) (by decide) (by omega)
  refine ⟨.slice (some ⟨A,o*11+1*11,none⟩) (s.length+1 - 1) (G*11+(s.length+1 - 1)),?_,.inr ⟨A,o+1,full,?_,e2,e3,?_,by omega,e6⟩⟩
  ·unfold zbl
   simp only [hd,hs,Option.bind_some,List.length_cons]
   rw [if_neg (by omega),d2,if_pos rfl,d3]
   unfold zbH
   have hb:zgQ (.int kd 1) (s.length+1)=some 1:=by
    have:=zcW (kd:=kd) (n:=1) (hi:=s.length+1) (by omega)
    simpa using this
   simp only [hb,Option.bind_some,Option.map_some]
  ·rw [← Nat.add_mul]
   rfl
  ·have:=congrArg List.tail e4
   rw [List.tail_cons,List.tail_drop] at this
   exact this
theorem OwnT.app {T:Tab} {t u:TypeId} {bytes:Nat} {z:List Value} (hd:T.desc t=some (.slice u)) (hi:T.info u=some (11,bytes,z)) (hby:bytes≤1000) {h0 h1:Heap} {w:Value} {s:List AtomD} {a:AtomD} {lw:Nat}
 (hz:h0.size≤h1.size) (ho:OwnT h0 h1 u w s) (hn:s.length≤10000) :
 ∃ w' H',zaH T t w (.slice (some ⟨h1.size+0,0,none⟩) 1 1) (h1.lay [.row a.cells u false] lw)=some (w',H')∧OwnT h0 H' u w' (s++[a])∧∃ A,h0.size≤A∧(A < h1.size∨A=h1.size)∧Chg A (h1.lay [.row a.cells u false] lw) H'∧(A=h1.size∨∀ hh,OwnT h0 hh u w s→A < hh.size):=by
 obtain ⟨H,hH⟩:∃ H,H=h1.lay [.row a.cells u false] lw:=⟨_,rfl⟩
 have hgB:H.get (h1.size+0)=some (.row a.cells u false):=by rw [hH,zbd];rfl
 have hHs:H.size=h1.size+1:=by rw [hH,zad];rfl
 rw [← hH]
 have hacut:cut a.cells 0 11=some a.cells:=rfl
 have hone:a.cells.all one=true:=rfl
 have hsrc:srcA (.slice (some ⟨h1.size+0,0,none⟩) 1 1) 11 H=some (1,a.cells):=by
  unfold srcA zbG zaI
  simp only [hgB,hacut,Option.map_some,Nat.one_mul]
  rfl
 have hG:=zjo
 rcases ho with ⟨rfl,hemp⟩|⟨A,o,full,rfl,hq,hA,hdr,hol,hle⟩
 ·have key:∀ base c,c=0→zbG (.slice base 0 c) 11 H=some []→zaH T t (.slice base 0 c) (.slice (some ⟨h1.size+0,0,none⟩) 1 1) H=some (.slice (some ⟨H.size,0,none⟩) 1 (G*11+1),H.push (.row a.cells u false)):=by
   intro base c hc hcell
   subst hc
   unfold zaH
   simp only [hd,hi,Option.bind_some,hsrc,hcell,hone]
   rw [if_neg (by omega),if_neg (by simp;omega),if_neg (by simp),if_pos (by unfold G;omega)]
   rfl
  refine ⟨.slice (some ⟨H.size,0,none⟩) 1 (G*11+1),H.push (.row a.cells u false),?_,?_,h1.size,hz,.inr rfl,⟨by rw [Heap.size_push];omega,fun B h1 h2=>by rw [Heap.get_push,if_neg (by omega)],by rw [Heap.low_push];omega⟩,.inl rfl⟩
  ·rcases hemp.no with rfl|⟨B,o,rfl⟩
   ·exact key _ _ rfl rfl
   ·exact key _ _ rfl rfl
  ·refine .inr ⟨H.size,0,[a],rfl,⟨by rw [Heap.size_push];omega,?_⟩,by omega,rfl,by simp,by simp⟩
   rw [Heap.get_push,if_pos rfl]
   rfl
 ·have hqH:H.get A=some (.row (rowA full) u false):=by rw [hH];exact hq.lay _ _
  have hAlt:A < h1.size:=hq.lt
  have hsl:s.length=full.length - o:=by rw [← hdr,List.length_drop]
  obtain ⟨d1,d3,d2⟩:=zcA (k:=11) (q:=s.length) (by decide) (by omega)
  have hold:zbG (.slice (some ⟨A,o*11,none⟩) s.length (G*11+s.length)) 11 H=some (rowA s):=by
   unfold zbG
   simp only
   split
   ·rename_i h0
    have:s=[]:=List.length_eq_zero_iff.1 (by omega)
    subst this
    rfl
   ·unfold zaI
    rw [hqH]
    have e:full=full.take o++(s++[]):=by rw [List.append_nil,← hdr,List.take_append_drop]
    simp only
    rw [e]
    exact zmS (by rw [List.length_take];congr 1;omega) rfl
  have hb48:¬ ((s.length+1)*bytes > 140737488355328):=by
   have:(s.length+1)*bytes≤10001*1000:=Nat.mul_le_mul (by omega) hby
   omega
  have hap:zaH T t (.slice (some ⟨A,o*11,none⟩) s.length (G*11+s.length)) (.slice (some ⟨h1.size+0,0,none⟩) 1 1) H=some (.slice (some ⟨H.size,0,none⟩) (s.length+1) (G*11+(s.length+1)),(H.set A .dead).push (.row (rowA s++a.cells) u false)):=by
   unfold zaH
   simp only [hd,hi,Option.bind_some,hsrc,hone,hqH]
   rw [if_neg (by omega),if_neg (by simp;omega),if_neg (by rw [d2];omega),hold]
   simp only [Option.bind_some]
   rw [if_neg (by omega),if_pos (by rw [d3];simp)]
  rw [hap]
  refine ⟨_,_,rfl,?_,A,hA,.inl hAlt,⟨by rw [Heap.size_push,Heap.size_set];omega,fun B h1 h2=>by rw [Heap.get_push,Heap.size_set,if_neg (by omega),Heap.get_set _ _ _ _ (by omega),if_neg h2],by rw [Heap.low_push,Heap.low_set];omega⟩,.inr (fun hh f=>?_)⟩
  ·refine .inr ⟨H.size,0,s++[a],by simp,⟨by rw [Heap.size_push,Heap.size_set];omega,by rw [Heap.get_push,Heap.size_set,if_pos rfl,zmT]⟩,by omega,rfl,by simp,by simp only [List.length_append,List.length_cons,List.length_nil];omega⟩
  ·rcases f with ⟨_,f⟩|⟨A',o',full',e1',e2',_⟩
   ·rcases f.no with e|⟨B,o2,e⟩
    ·injection e with e4 e5 e6
     cases e4
    ·injection e with e4 e5 e6
     omega
   ·injection e1' with e4 e5 e6
    injection e4 with e4
    injection e4 with e4 e7
    subst e4
    exact e2'.lt
theorem OwnA.stay {h0 h h':Heap} {u:TypeId} {v:Value} {s:List AtomD} {A:Nat} (f:OwnA h0 h u v s) (hne:s≠[]) (c:Chg A h h') (hA:A < h0.size):OwnA h0 h' u v s:=by
 rcases f with ⟨e,_⟩|⟨B,t,e1,e2,e3,e4⟩
 ·exact absurd e hne
 ·exact .inr ⟨B,t,e1,e2.step c (by omega),e3,e4⟩
end Go.Am
namespace Go.Am
section
variable {P:Program} {T:Tab} {ov:Ov} {rd:Option Nat}
end
end Go.Am
