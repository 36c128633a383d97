/- Sorting by halves, each text once: the first stays. No condition. -/
import Derived.Test.YtdplfgoifjjniaaGreatDoorG21
import Derived.Test.YtdplfgoifjjniaaGreatDoorG18
import Derived.Test.YtdplfgoifjjniaaGreatDoorG22
import Derived.Test.YtdplfgoifjjniaaGreatDoorG14
import Derived.Test.YtdplfgoifjjniaaGreatDoorG15
namespace Go.Am
set_option linter.unusedVariables false
set_option linter.unusedSimpArgs false
theorem Inc.over {a h1 h2:Heap} {l:List Blk} {w:Nat} (i:Inc a h1) (x:Ext (h1.lay l w) h2):Inc a h2:=(i.trans (Inc.lay _ _ _)).trans x.inc
end Go.Am
namespace Go.Am
set_option linter.unusedVariables false
def zeX (l:List ReasonD) (a:AtomD):List AtomD:=match l.find? (fun r=>r.atom == a) with
 |some r=>r.body
 |none=>[]
structure NeedsOf (l:List ReasonD) (goals out:List AtomD):Prop where
 asc:AscD out
 plain:AllP out
 hgoals:∀ g∈goals,g∈out
 closed:∀ x∈out,∀ b∈zeX l x,b∈out
 least:∀ S:AtomD→Prop,(∀ g∈goals,S g)→(∀ x,S x→∀ b∈zeX l x,S b)→∀ x∈out,S x
theorem NeedsOf.eq {l:List ReasonD} {g o1 o2:List AtomD} (f:NeedsOf l g o1) (h:NeedsOf l g o2):o1=o2 :=
 znt f.asc h.asc (fun x=>⟨fun hx=>f.least (·∈o2) h.hgoals h.closed x hx,fun hx=>h.least (·∈o1) f.hgoals f.closed x hx⟩)
theorem NeedsOf.none {l:List ReasonD} {o:List AtomD} (f:NeedsOf l [] o):o=[]:=by
 cases o with
 |nil=>rfl
 |cons x o=>exact (f.least (fun _=>False) (fun g hg=>by cases hg) (fun _ h=>h.elim) x (List.mem_cons_self ..)).elim
def zgA (l:List ReasonD):List AtomD:=l.flatMap (·.body)
theorem zqc {l:List ReasonD} {a b:AtomD} (h:b∈zeX l a):b∈zgA l:=by
 unfold zeX at h
 split at h
 ·rename_i r hr
  exact List.mem_flatMap.2 ⟨r,List.mem_of_find?_eq_some hr,h⟩
 ·cases h
structure NeedsTo (l:List ReasonD) (goals out todo:List AtomD):Prop where
 asc:AscD out
 plain:AllP out
 hgoals:∀ g∈goals,g∈out
 closed:∀ x∈out,x∈todo∨∀ b∈zeX l x,b∈out
 htodo:∀ x∈todo,x∈out
 least:∀ S:AtomD→Prop,(∀ g∈goals,S g)→(∀ x,S x→∀ b∈zeX l x,S b)→∀ x∈out,S x
structure NeedsIn (l:List ReasonD) (goals out todo:List AtomD) (x:AtomD) (j:Nat):Prop where
 asc:AscD out
 plain:AllP out
 hgoals:∀ g∈goals,g∈out
 closed:∀ y∈out,y∈todo∨y=x∨∀ b∈zeX l y,b∈out
 htodo:∀ y∈todo,y∈out
 here:x∈out
 done:∀ b∈(zeX l x).take j,b∈out
 least:∀ S:AtomD→Prop,(∀ g∈goals,S g)→(∀ x,S x→∀ b∈zeX l x,S b)→∀ x∈out,S x
theorem NeedsTo.enter {l:List ReasonD} {goals out todo:List AtomD} {x:AtomD} (f:NeedsTo l goals out (x::todo)):NeedsIn l goals out todo x 0 :=
 ⟨f.asc,f.plain,f.hgoals,fun y hy=>by
  rcases f.closed y hy with h|h
  ·rcases List.mem_cons.1 h with h|h
   ·exact .inr (.inl h)
   ·exact .inl h
  ·exact .inr (.inr h),fun y hy=>f.htodo y (List.mem_cons_of_mem _ hy),f.htodo x (List.mem_cons_self ..),by simp,f.least⟩
theorem NeedsIn.add {l:List ReasonD} {goals out todo:List AtomD} {x a:AtomD} {j:Nat} (f:NeedsIn l goals out todo x j) (ha:(zeX l x)[j]? = some a) (hp:PlainD a):NeedsIn l goals (putA a out) (todo++[a]) x (j+1):=by
 have hno:∀ y,y∈putA a out↔y∈out∨y=a:=fun y=>by
  rw [zew f.asc]
  constructor
  ·rintro (h|⟨rfl,_⟩)
   ·exact .inl h
   ·exact .inr rfl
  ·rintro (h|rfl)
   ·exact .inl h
   ·by_cases hy:y∈out
    ·exact .inl hy
    ·refine .inr ⟨rfl,fun z hz e=>hy ?_⟩
     rw [(zt1 hp (f.plain z hz)).1 e]
     exact hz
 have hmem:a∈zeX l x:=List.mem_of_getElem? ha
 refine ⟨zgn f.asc,fun y hy=>?_,fun g hg=>(hno g).2 (.inl (f.hgoals g hg)),fun y hy=>?_,fun y hy=>?_,(hno x).2 (.inl f.here),fun b hb=>?_,fun S h1 h2 y hy=>?_⟩
 ·rcases (hno y).1 hy with h|rfl
  ·exact f.plain y h
  ·exact hp
 ·rcases (hno y).1 hy with h|rfl
  ·rcases f.closed y h with h|h|h
   ·exact .inl (List.mem_append_left _ h)
   ·exact .inr (.inl h)
   ·exact .inr (.inr (fun b hb=>(hno b).2 (.inl (h b hb))))
  ·exact .inl (List.mem_append_right _ (List.mem_cons_self ..))
 ·rcases List.mem_append.1 hy with h|h
  ·exact (hno y).2 (.inl (f.htodo y h))
  ·have:y=a:=by simpa using h
   exact (hno y).2 (.inr this)
 ·rw [List.take_add_one,ha] at hb
  rcases List.mem_append.1 hb with hb|hb
  ·exact (hno b).2 (.inl (f.done b hb))
  ·have:b=a:=by simpa using hb
   exact (hno b).2 (.inr this)
 ·rcases (hno y).1 hy with h|rfl
  ·exact f.least S h1 h2 y h
  ·exact h2 x (f.least S h1 h2 x f.here) y hmem
theorem NeedsIn.len {l:List ReasonD} {goals out todo:List AtomD} {x:AtomD} {j:Nat} (f:NeedsIn l goals out todo x j) (hp:AllP (goals++zgA l)):out.length≤goals.length+(zgA l).length:=by
 have h1:∀ y∈out,y∈goals++zgA l:=f.least (·∈goals++zgA l) (fun g hg=>List.mem_append_left _ hg) (fun y _ b hb=>List.mem_append_right _ (zqc hb))
 have h2:∀ y,y∈out→y∈zcD (goals++zgA l):=fun y hy=>(zsK hp).2 (h1 y hy)
 have h3:=zeU (goals++zgA l)
 have h4:out.length≤(zcD (goals++zgA l)).length:=by
  have e:out=(zcD (goals++zgA l)).filter (fun x=>decide (x∈out)):=znt f.asc (zrt _ (zci _).asc) (fun y=>by
   rw [List.mem_filter,decide_eq_true_iff]
   exact ⟨fun hy=>⟨h2 y hy,hy⟩,fun hy=>hy.2⟩)
  rw [e]
  exact List.length_filter_le _ _
 rw [List.length_append] at h3
 omega
end Go.Am
namespace Go.Am
set_option linter.unusedVariables false
set_option linter.unusedSimpArgs false
def OwnT (h0 h:Heap) (u:TypeId) (v:Value) (s:List AtomD):Prop :=
 (s=[]∧Emp h v)∨∃ A o full,v=.slice (some ⟨A,o*11,none⟩) s.length (G*11+s.length)∧Holds h A (.row (rowA full) u false)∧h0.size≤A∧full.drop o=s∧o≤full.length∧full.length≤100000
theorem OwnX.todo {h0 h:Heap} {u:TypeId} {v:Value} {s:List AtomD} (f:OwnX h0 h u v s) (hn:s.length≤100000):OwnT h0 h u v s:=by
 rcases f with f|⟨A,e1,e2,e3,e4⟩
 ·exact .inl f
 ·exact .inr ⟨A,0,s,by rw [Nat.zero_mul];exact e1,e2,e3,rfl,Nat.zero_le _,hn⟩
theorem OwnT.mono {h0 h h':Heap} {u:TypeId} {v:Value} {s:List AtomD} (f:OwnT h0 h u v s) (i:Inc h h'):OwnT h0 h' u v s:=by
 rcases f with ⟨e,f⟩|⟨A,o,full,e1,e2,e3⟩
 ·exact .inl ⟨e,f.mono i⟩
 ·exact .inr ⟨A,o,full,e1,e2.mono i,e3⟩
theorem OwnT.over {h0 h1 h2:Heap} {u:TypeId} {v:Value} {s:List AtomD} {bs:List Blk} {w:Nat} (f:OwnT h0 h1 u v s) (x:Ext (h1.lay bs w) h2):OwnT h0 h2 u v s:=f.mono ((Inc.lay _ _ _).trans x.inc)
theorem OwnT.down {h0 h1 h:Heap} {u:TypeId} {v:Value} {s:List AtomD} (f:OwnT h1 h u v s) (i:h0.size≤h1.size):OwnT h0 h u v s:=by
 rcases f with f|⟨A,o,full,e1,e2,e3,e4⟩
 ·exact .inl f
 ·exact .inr ⟨A,o,full,e1,e2,by omega,e4⟩
theorem OwnT.sl {h0 h:Heap} {u:TypeId} {v:Value} {s:List AtomD} (f:OwnT h0 h u v s):Sl Rep.atom h v s:=by
 rcases f with ⟨rfl,f⟩|⟨A,o,full,rfl,e2,e3,e4,e5,e6⟩
 ·exact f.sl
 ·have hG:=zjF
  have hs:s.length≤100000:=by rw [← e4,List.length_drop];omega
  obtain ⟨d1,d2,d3⟩:=zcA (k:=11) (q:=s.length) (by decide) (by omega)
  exact zzG (o:=o) e2 (.inr ⟨d1,d2,by rw [d3];exact Nat.le_refl _⟩) hs (fun i x hx=>by rw [← e4,List.getElem?_drop] at hx;exact hx)
theorem OwnT.tail {T:Tab} {t u:TypeId} {kd:IntKind} (hd:T.desc t=some (.slice u)) (hs:zay T u=some 11) {h0 h:Heap} {v:Value} {x:AtomD} {s:List AtomD} (f:OwnT h0 h u v (x::s)) :
 ∃ v',zbn T t v (some (.int kd 1)) none none=some v'∧OwnT h0 h u v' s:=by
 rcases f with ⟨e,_⟩|⟨A,o,full,rfl,e2,e3,e4,e5,e6⟩
 ·cases e
 ·have hG:=zjF
  have hl:(x::s).length=full.length - o:=by rw [← e4,List.length_drop]
  simp only [List.length_cons] at hl
  obtain ⟨d1,d2,d3⟩:=zcA (k:=11) (q:=s.length+1) (by decide) (by omega)
  refine ⟨.slice (some ⟨A,o*11+1*11,none⟩) (s.length+1 - 1) (G*11+(s.length+1 - 1)),?_,.inr ⟨A,o+1,full,?_,e2,e3,?_,by omega,e6⟩⟩
  ·unfold zbn
   simp only [hd,hs,Option.bind_some,List.length_cons]
   rw [if_neg (by omega),d2,if_pos rfl,d3]
   unfold zbJ
   have hb:zg1 (.int kd 1) (s.length+1)=some 1:=by
    have:=zc3 (kd:=kd) (n:=1) (hi:=s.length+1) (by omega)
    simpa using this
   simp only [hb,Option.bind_some,Option.map_some]
  ·rw [← Nat.add_mul]
   rfl
  ·have:=congrArg List.tail e4
   rw [List.tail_cons,List.tail_drop] at this
   exact this
theorem OwnT.app {T:Tab} {t u:TypeId} {bytes:Nat} {z:List Value} (hd:T.desc t=some (.slice u)) (hi:T.info u=some (11,bytes,z)) (hby:bytes≤1000) {h0 h1:Heap} {w:Value} {s:List AtomD} {a:AtomD} {lw:Nat}
 (hz:h0.size≤h1.size) (ho:OwnT h0 h1 u w s) (hn:s.length≤10000) :
 ∃ w' H',zaM T t w (.slice (some ⟨h1.size+0,0,none⟩) 1 1) (h1.lay [.row a.cells u false] lw)=some (w',H')∧OwnT h0 H' u w' (s++[a])∧∃ A,h0.size≤A∧(A < h1.size∨A=h1.size)∧Chg A (h1.lay [.row a.cells u false] lw) H'∧(A=h1.size∨∀ hh,OwnT h0 hh u w s→A < hh.size):=by
 obtain ⟨H,hH⟩:∃ H,H=h1.lay [.row a.cells u false] lw:=⟨_,rfl⟩
 have hgB:H.get (h1.size+0)=some (.row a.cells u false):=by rw [hH,zbj];rfl
 have hHs:H.size=h1.size+1:=by rw [hH,zad];rfl
 rw [← hH]
 have hacut:cut a.cells 0 11=some a.cells:=rfl
 have hone:a.cells.all one=true:=rfl
 have hsrc:srcA (.slice (some ⟨h1.size+0,0,none⟩) 1 1) 11 H=some (1,a.cells):=by
  unfold srcA zbF zaN
  simp only [hgB,hacut,Option.map_some,Nat.one_mul]
  rfl
 have hG:=zjF
 rcases ho with ⟨rfl,hemp⟩|⟨A,o,full,rfl,hq,hA,hdr,hol,hle⟩
 ·have key:∀ base c,c=0→zbF (.slice base 0 c) 11 H=some []→zaM T t (.slice base 0 c) (.slice (some ⟨h1.size+0,0,none⟩) 1 1) H=some (.slice (some ⟨H.size,0,none⟩) 1 (G*11+1),H.push (.row a.cells u false)):=by
   intro base c hc hcell
   subst hc
   unfold zaM
   simp only [hd,hi,Option.bind_some,hsrc,hcell,hone]
   rw [if_neg (by omega),if_neg (by simp;omega),if_neg (by simp),if_pos (by unfold G;omega)]
   rfl
  refine ⟨.slice (some ⟨H.size,0,none⟩) 1 (G*11+1),H.push (.row a.cells u false),?_,?_,h1.size,hz,.inr rfl,⟨by rw [Heap.size_push];omega,fun B h1 h2=>by rw [Heap.get_push,if_neg (by omega)],by rw [Heap.low_push];omega⟩,.inl rfl⟩
  ·rcases hemp.no with rfl|⟨B,o,rfl⟩
   ·exact key _ _ rfl rfl
   ·exact key _ _ rfl rfl
  ·refine .inr ⟨H.size,0,[a],rfl,⟨by rw [Heap.size_push];omega,?_⟩,by omega,rfl,by simp,by simp⟩
   rw [Heap.get_push,if_pos rfl]
   rfl
 ·have hqH:H.get A=some (.row (rowA full) u false):=by rw [hH];exact hq.lay _ _
  have hAlt:A < h1.size:=hq.lt
  have hsl:s.length=full.length - o:=by rw [← hdr,List.length_drop]
  obtain ⟨d1,d3,d2⟩:=zcA (k:=11) (q:=s.length) (by decide) (by omega)
  have hold:zbF (.slice (some ⟨A,o*11,none⟩) s.length (G*11+s.length)) 11 H=some (rowA s):=by
   unfold zbF
   simp only
   split
   ·rename_i h0
    have:s=[]:=List.length_eq_zero_iff.1 (by omega)
    subst this
    rfl
   ·unfold zaN
    rw [hqH]
    have e:full=full.take o++(s++[]):=by rw [List.append_nil,← hdr,List.take_append_drop]
    simp only
    rw [e]
    exact zng (by rw [List.length_take];congr 1;omega) rfl
  have hb48:¬ ((s.length+1)*bytes > 140737488355328):=by
   have:(s.length+1)*bytes≤10001*1000:=Nat.mul_le_mul (by omega) hby
   omega
  have hap:zaM T t (.slice (some ⟨A,o*11,none⟩) s.length (G*11+s.length)) (.slice (some ⟨h1.size+0,0,none⟩) 1 1) H=some (.slice (some ⟨H.size,0,none⟩) (s.length+1) (G*11+(s.length+1)),(H.set A .dead).push (.row (rowA s++a.cells) u false)):=by
   unfold zaM
   simp only [hd,hi,Option.bind_some,hsrc,hone,hqH]
   rw [if_neg (by omega),if_neg (by simp;omega),if_neg (by rw [d2];omega),hold]
   simp only [Option.bind_some]
   rw [if_neg (by omega),if_pos (by rw [d3];simp)]
  rw [hap]
  refine ⟨_,_,rfl,?_,A,hA,.inl hAlt,⟨by rw [Heap.size_push,Heap.size_set];omega,fun B h1 h2=>by rw [Heap.get_push,Heap.size_set,if_neg (by omega),Heap.get_set _ _ _ _ (by omega),if_neg h2],by rw [Heap.low_push,Heap.low_set];omega⟩,.inr (fun hh f=>?_)⟩
  ·refine .inr ⟨H.size,0,s++[a],by simp,⟨by rw [Heap.size_push,Heap.size_set];omega,by rw [Heap.get_push,Heap.size_set,if_pos rfl,zlE]⟩,by omega,rfl,by simp,by simp only [List.length_append,List.length_cons,List.length_nil];omega⟩
  ·rcases f with ⟨_,f⟩|⟨A',o',full',e1',e2',_⟩
   ·rcases f.no with e|⟨B,o2,e⟩
    ·injection e with e4 e5 e6
     cases e4
    ·injection e with e4 e5 e6
     omega
   ·injection e1' with e4 e5 e6
    injection e4 with e4
    injection e4 with e4 e7
    subst e4
    exact e2'.lt
theorem OwnA.stay {h0 h h':Heap} {u:TypeId} {v:Value} {s:List AtomD} {A:Nat} (f:OwnA h0 h u v s) (hne:s≠[]) (c:Chg A h h') (hA:A < h0.size):OwnA h0 h' u v s:=by
 rcases f with ⟨e,_⟩|⟨B,t,e1,e2,e3,e4⟩
 ·exact absurd e hne
 ·exact .inr ⟨B,t,e1,e2.step c (by omega),e3,e4⟩
end Go.Am
namespace Go.Am
set_option linter.unusedVariables false
section
variable {P:Program} {T:Tab} {ov:Ov} {rd:Option Nat}
end
end Go.Am
namespace Go.Am
set_option linter.unusedVariables false
section
variable {α:Type} {r:Rep α} {h0 h1:Heap} {v:Value} {l:List α} {t e:TypeId} {A k bytes:Nat} {z:List Value} {T:Tab} {bs:List Blk} {w:Nat} {K:Value→Heap→Prop}
theorem zzJ (hd:T.desc t=some (.slice e)) (hi:T.info e=some (k,bytes,z)) (hrk:r.k=k) (hk:0 < k) {u:TypeId} {ro:Bool} {cs:List Value} {i c:Nat} {x:α} (hg:bs[i]? = some (.row cs u ro)) (hz:h0.size≤h1.size) (f:Ow r h0 h1 e A v l) (hr:r.R (kill A (h1.lay bs w)) cs x)
 (hb:(l.length+1)*bytes≤140737488355328) (hl:l.length+1≤1152921504606846976)
 (hK:∀ v' h' A',Ow r h0 h' e A' v' (l++[x])→Chg A (h1.lay bs w) h'→(A'=A∨h1.size≤A')→K v' h'):optE (zaM T t v (.slice (some ⟨h1.size+i,0,none⟩) 1 c) (h1.lay bs w)) K:=by
 have hgt:(h1.lay bs w).get (h1.size+i)=some (.row cs u ro):=by rw [zbj];exact hg
 obtain ⟨hs,hsr⟩:=zuA (r:=r) (A:=A) (c:=c) (y:=x) (by omega) hgt hr
 exact zrY hd hi hrk hk hz f (by rw [← hrk];exact hs) hsr hb hl hK
theorem zfB {u:TypeId} {n o:Nat} {cs vs:List Value} {v:Value} (q:Holds h1 A (.row cs u false)) (hs:zay T t=some n) (hv:v.cells.toList=vs) (hl:vs.length=n) (hb:o+n≤cs.length) (h1':vs.all one=true)
 (hK:∀ h',Holds h' A (.row (splice cs o vs) u false)→Chg A (h1.lay bs w) h'→K undef h'):memE (za8 T t (.pointer (some ⟨A,o,none⟩)) v (h1.lay bs w)) K:=by
 have hg:(h1.lay bs w).get A=some (.row cs u false):=q.lay bs w
 have hA:A < (h1.lay bs w).size:=(q.on bs w).lt
 have hsz:v.cells.size=n:=by rw [← hl,← hv];simp
 have he:za8 T t (.pointer (some ⟨A,o,none⟩)) v (h1.lay bs w)=some ((h1.lay bs w).set A (.row (splice cs o vs) u false)):=by
  unfold za8
  simp only [hs,Option.bind_some]
  rw [if_pos hsz,hv]
  unfold zbV
  rw [hg]
  simp only
  rw [if_pos (by simp only [Bool.and_eq_true,decide_eq_true_eq];exact ⟨by omega,h1'⟩)]
 rw [he]
 refine hK _ ⟨by rw [Heap.size_set];exact hA,by rw [Heap.get_set _ _ _ _ hA,if_pos rfl]⟩ ⟨by rw [Heap.size_set];exact Nat.le_refl _,fun B hB hne=>by rw [Heap.get_set _ _ _ _ hA,if_neg hne],by rw [Heap.low_set];omega⟩
end
section
variable {P:Program} {T:Tab} {ov:Ov}
theorem znk {b:Nat} {ops:Array Oper} {l:List Oper} {j:Nat} {d:Option Tmp} {Q:Env→Heap→Prop} {e:Env} {hh:Heap} {bs0 bs:List Blk} {w s:Nat} {v:Value} (hl:bs0.length≤bs.length) (hb:b≤s) (hs:hh.size+bs0.length≤s)
 (hk:WOpsX P T ov b ops l (j+1) (put e d v) (hh.lay bs s) Q):zlk P T ov b ops l j d Q e (hh.lay bs0 w) v (hh.lay bs s):=by
 refine ⟨⟨⟨.inl ?_,?_,?_⟩,hk⟩⟩
 ·rw [zad];exact hs
 ·exact hb
 ·rw [zad,zad];omega
end
/-! ### Heaps without one block -/
theorem zch {h:Heap} {A B:Nat} (hne:B≠A):(kill A h).get B=h.get B:=by
 unfold kill
 split
 ·rename_i hA
  rw [Heap.get_set _ _ _ _ hA,if_neg hne]
 ·rfl
theorem zdD {h:Heap} {A:Nat} (hA:A < h.size):(kill A h).get A=some .dead:=by
 unfold kill
 rw [if_pos hA,Heap.get_set _ _ _ _ hA,if_pos rfl]
structure Kin (B:Heap) (A:Nat) (h:Heap):Prop where
 lt:A < h.size
 inc:Inc B (kill A h)
section
variable {B h1 h2:Heap} {A A':Nat} {bs:List Blk} {w:Nat}
theorem Kin.all (k:Kin B A h1):Inc B h1:=k.inc.trans (zfs _ _)
theorem zhS {a b:Heap} (i:Inc a b):Inc (kill A a) (kill A b):=⟨by rw [zbm,zbm];exact i.size,fun C hC hd=>by
 by_cases hCA:C=A
 ·subst hCA
  rw [zbm] at hC
  exact absurd (zdD hC) hd
 ·rw [zbm] at hC
  rw [zch hCA] at hd ⊢
  rw [zch hCA]
  exact i.get C hC hd⟩
theorem Kin.mono (k:Kin B A h1) (i:Inc h1 h2):Kin B A h2:=⟨Nat.lt_of_lt_of_le k.lt i.size,k.inc.trans (zhS i)⟩
theorem Kin.over (k:Kin B A h1) (x:Ext (h1.lay bs w) h2):Kin B A h2:=k.mono ((Inc.lay _ _ _).trans x.inc)
theorem Kin.lay (k:Kin B A h1) (bs:List Blk) (w:Nat):Kin B A (h1.lay bs w):=k.mono (Inc.lay _ _ _)
theorem Kin.step (k:Kin B A h1) (c:Chg A (h1.lay bs w) h2) (hA:A'=A∨h1.size≤A') (hl:A' < h2.size):Kin B A' h2:=by
 have hs:h1.size≤(h1.lay bs w).size:=by rw [zad];omega
 refine ⟨hl,⟨by rw [zbm];exact Nat.le_trans k.all.size (Nat.le_trans hs c.size),fun C hC hd=>?_⟩⟩
 have h3:=k.inc.get C hC hd
 have hCA:C≠A:=by
  intro e
  subst e
  rw [zdD k.lt] at h3
  exact hd h3.symm
 have hC1:C < h1.size:=Nat.lt_of_lt_of_le hC k.all.size
 rw [zch hCA] at h3
 rw [zch (by rcases hA with e|e <;> omega),c.get C (by omega) hCA,zba _ _ _ hC1]
 exact h3
theorem Kin.trans (k:Kin B A h1) (k2:Kin (kill A (h1.lay bs w)) A' h2):Kin B A' h2:=⟨k2.lt,(k.lay bs w).inc.trans k2.inc⟩
theorem Kin.holds {C:Nat} {cs:List Value} {u:TypeId} {ro:Bool} (k:Kin B A h1) (q:Holds B C (.row cs u ro)):Holds h1 C (.row cs u ro)∧C≠A:=by
 refine ⟨q.mono k.all,fun e=>?_⟩
 have:=k.inc.get C q.lt (by rw [q.get];nofun)
 rw [e,zdD k.lt,← e,q.get] at this
 cases this
theorem Kin.keep {C:Nat} {cs:List Value} {u:TypeId} {ro:Bool} (k:Kin (kill A (h1.lay bs w)) A' h2) (q:Holds h1 C (.row cs u ro)) (hne:C≠A):Holds h2 C (.row cs u ro)∧C≠A' :=
 k.holds ⟨by rw [zbm];exact (q.on bs w).lt,(zch hne).trans (q.on bs w).get⟩
end
section
variable {T:Tab} {t e:TypeId} {v:Value} {B h1:Heap} {bs:List Blk} {w:Nat} {K:Value→Heap→Prop} {kd:IntKind} {i:Int}
end
theorem Inc.chg {a b d:Heap} {A:Nat} (i:Inc a b) (c:Chg A b d) (hA:a.size≤A):Inc a d:=⟨Nat.le_trans i.size c.size,fun B hB hd=>(c.get B (Nat.lt_of_lt_of_le hB i.size) (by omega)).trans (i.get B hB hd)⟩
/-! ### Sizes -/
theorem zlo {s:ByteArray} (h:lowX s):s.size≤300:=by have:=h.len;omega
theorem termX.size {t:TermD} (h:termX t):t.s.size≤300:=by
 unfold termX at h
 split at h
 ·have:=h.len;omega
 ·exact zlo h.1
theorem zt0 {a:AtomD} (h0:a.says.size≤300) (h1:a.pred.size≤300) (h:∀ i,i < 4→(a.arg i).s.size≤300):a.light=true:=by
 unfold AtomD.light
 simp only [Bool.and_eq_true,decide_eq_true_eq]
 exact ⟨h0,h1,h 0 (by omega),h 1 (by omega),h 2 (by omega),h 3 (by omega)⟩
theorem ValidX.light {a:AtomD} (h:ValidX a):a.light=true:=by
 refine zt0 (zlo h.says.1.1) (zlo h.pred.1.1) (fun i hi=>?_)
 by_cases hn:(i:Int) < a.n
 ·exact (h.terms i hn).size
 ·rw [h.rest i (by omega) hi]
  decide
end Go.Am
