/- The document's forms of names, terms, atoms and clauses, exactly. No condition. -/
import Derived.Test.YtdplfgoifjjniaaGreatDoorG27
set_option linter.unusedVariables false
namespace Go.Am
def resP (s:ByteArray):Prop:=(⟨#[115,97,121,115]⟩:ByteArray)=s∨(⟨#[105,102]⟩:ByteArray)=s∨(⟨#[99,97,110,115,97,121]⟩:ByteArray)=s∨(⟨#[112,114,105,110,99,105,112,97,108]⟩:ByteArray)=s∨(⟨#[112,114,101,100]⟩:ByteArray)=s∨(⟨#[99,108,101,97,114]⟩:ByteArray)=s∨(⟨#[113,117,111,116,97]⟩:ByteArray)=s∨(⟨#[98,117,100,103,101,116]⟩:ByteArray)=s
structure lowX (s:ByteArray):Prop where
 pos:1≤s.size
 len:s.size≤255
 first:zbn s 0≠95
 all:∀ i,i < s.size→zgw (zbn s i)
def constX (s:ByteArray):Prop:=lowX s∧¬ resP s
def zbV (s:ByteArray):Prop:=constX s∧(97≤zbn s 0∧zbn s 0≤122)
structure varX (s:ByteArray):Prop where
 pos:1≤s.size
 len:s.size≤255
 first:65≤zbn s 0∧zbn s 0≤90
 all:∀ i,i < s.size→okCh (zbn s i)
def termX (t:TermD):Prop:=if t.v=true then varX t.s else constX t.s
structure ValidX (a:AtomD):Prop where
 says:zbV a.says
 pred:zbV a.pred
 lo:0≤a.n
 hi:a.n≤4
 terms:∀ i:Nat,(i:Int) < a.n→termX (a.arg i)
 rest:∀ i:Nat,a.n≤(i:Int)→i < 4→a.arg i=zaX
theorem constX.low {s:ByteArray} (h:constX s):zhb s:=⟨h.1.pos,h.1.all⟩
theorem termX.ok {t:TermD} (h:termX t):zk9 t:=by
 unfold termX at h
 unfold zk9
 split at h
 ·rename_i hv
  rw [hv]
  exact ⟨h.pos,h.first,h.all⟩
 ·rename_i hv
  rw [show t.v=false by simpa using hv]
  exact h.low
theorem ValidX.valid {a:AtomD} (h:ValidX a):ValidD a:=⟨h.says.1.low,h.pred.1.low,h.lo,h.hi,fun i hi=>(h.terms i hi).ok,h.rest⟩
def zlt (a:AtomD) (x:ByteArray):Prop:=∃ i:Nat,i < 4∧(i:Int) < a.n∧(a.arg i).v=true∧(a.arg i).s=x
structure OneX (c:ClauseD):Prop where
 head:ValidX c.head
 body:∀ b∈c.body,ValidX b
 ranged:∀ x,zlt c.head x→∃ b∈c.body,zlt b x
structure FactX (a:AtomD):Prop where
 valid:ValidX a
 ground:a.ground=true
structure MayX (cl:List ClauseD) (facts:List AtomD):Prop where
 clauses:∀ c∈cl,OneX c
 facts:∀ a∈facts,FactX a
theorem arg_mem {a:AtomD} {t:TermD}:t∈a.args↔∃ i:Nat,i < a.cnt∧a.arg i=t:=by
 have h4:a.cnt=0∨a.cnt=1∨a.cnt=2∨a.cnt=3∨a.cnt=4:=by unfold AtomD.cnt;omega
 unfold AtomD.args
 have one:∀ {n:Nat} {P:Nat→Prop},(∃ i,i < n+1∧P i)↔(∃ i,i < n∧P i)∨P n:=by
  intro n P
  constructor
  ·rintro ⟨i,hi,hp⟩
   by_cases e:i=n
   ·subst e;exact .inr hp
   ·exact .inl ⟨i,by omega,hp⟩
  ·rintro (⟨i,hi,hp⟩|hp)
   ·exact ⟨i,by omega,hp⟩
   ·exact ⟨n,by omega,hp⟩
 rcases h4 with e|e|e|e|e <;> rw [e] <;> simp [one,AtomD.arg,eq_comm,or_assoc]
theorem ground_iff {a:AtomD}:a.ground=true↔∀ i:Nat,i < a.cnt→(a.arg i).v=false:=by
 unfold AtomD.ground
 rw [Bool.not_eq_true',List.any_eq_false]
 constructor
 ·intro h i hi
  have:=h (a.arg i) (arg_mem.2 ⟨i,hi,rfl⟩)
  simpa using this
 ·intro h t ht
  obtain ⟨i,hi,rfl⟩:=arg_mem.1 ht
  simpa using h i hi
theorem cnt_lt {a:AtomD} {i:Nat}:i < a.cnt↔i < 4∧(i:Int) < a.n:=by
 unfold AtomD.cnt
 omega
theorem varIn_iff {a:AtomD} {x:ByteArray}:zlt a x↔∃ i:Nat,i < a.cnt∧(a.arg i).v=true∧(a.arg i).s=x:=by
 constructor
 ·rintro ⟨i,h1,h2,h3,h4⟩
  exact ⟨i,cnt_lt.2 ⟨h1,h2⟩,h3,h4⟩
 ·rintro ⟨i,h1,h3,h4⟩
  exact ⟨i,(cnt_lt.1 h1).1,(cnt_lt.1 h1).2,h3,h4⟩
theorem zgJ {T:Tab} {t u:TypeId} {w n i:Nat} {cs vs:List Value} {v:Value} {h1:Heap} {bs:List Blk} {K:Value→Heap→Prop} (hb:bs[i]? = some (.row cs u false)) (hs:zau T t=some n) (hc:cs.length=n) (hv:v.cells.toList=vs) (hl:vs.length=n) (hv1:vs.all one=true)
 (hK:K undef (h1.lay (bs.set i (.row vs u false)) (min w (h1.size+i)))):memE (zaZ T t (.pointer (some ⟨h1.size+i,0,none⟩)) v (h1.lay bs w)) K:=by
 have hi:=(List.getElem?_eq_some_iff.1 hb).1
 have hg:(h1.lay bs w).get (h1.size+i)=some (.row cs u false):=by rw [zbd];exact hb
 have hsz:v.cells.size=n:=by rw [← Array.length_toList,hv,hl]
 have hsp:splice cs 0 vs=vs:=by
  unfold splice
  rw [List.take_zero,List.nil_append,List.drop_eq_nil_of_le (by omega),List.append_nil]
 have he:zaZ T t (.pointer (some ⟨h1.size+i,0,none⟩)) v (h1.lay bs w)=some ((h1.lay bs w).set (h1.size+i) (.row vs u false)):=by
  unfold zaZ
  simp only [hs,Option.bind_some]
  rw [if_pos hsz,hv]
  unfold zbQ
  rw [hg]
  simp only
  rw [if_pos (by simp only [Bool.and_eq_true,decide_eq_true_eq];exact ⟨by omega,hv1⟩),hsp]
 rw [he,zbA _ _ _ _ _ hi]
 exact hK
end Go.Am
namespace Go.Am
def atR (l:List ReasonD) (a:AtomD):Int:=idxP (fun x=>decide (x.atom=a)) l
end Go.Am
namespace Go.Am
/-! ### Bindings of ground terms -/
structure Good (l:List BindD):Prop where
 up:zly l l.length
 ok:∀ b∈l,b.term.v=false∧b.term.s≠⟨#[]⟩
theorem zf9 (x:BindD) (l:List BindD) (s:ByteArray):zfT (x::l) s=if x.var=s then (x.term,true) else zfT l s:=by
 unfold zfT
 rw [List.find?_cons]
 by_cases h:x.var=s <;> simp [h]
theorem zq8 {l:List BindD} {s:ByteArray} {t:TermD} (h:zfT l s=(t,true)):⟨s,t⟩∈l:=by
 induction l with
 |nil=>cases h
 |cons x l ih =>
  rw [zf9] at h
  split at h
  ·rename_i hx
   cases h
   subst hx
   exact List.mem_cons_self
  ·exact List.mem_cons_of_mem _ (ih h)
theorem zq9 {l:List BindD} {s:ByteArray} (h:(zfT l s).2=false):∀ b∈l,b.var≠s:=by
 induction l with
 |nil=>intro b hb;cases hb
 |cons x l ih =>
  rw [zf9] at h
  split at h
  ·cases h
  ·rename_i hx
   intro b hb
   rcases List.mem_cons.1 hb with rfl|hb
   ·exact hx
   ·exact ih h b hb
theorem zno (b:BindD):znn [] b=[b]:=rfl
theorem zkt (x:BindD) (l:List BindD) (b:BindD):znn (x::l) b=if slt b.var x.var=true then b::x::l else x::znn l b:=by
 unfold znn
 rw [List.takeWhile_cons,List.dropWhile_cons]
 cases h:slt b.var x.var <;> simp
theorem mem_withD {l:List BindD} {b y:BindD}:y∈znn l b↔y=b∨y∈l:=by
 induction l with
 |nil=>simp [zno]
 |cons x l ih =>
  rw [zkt]
  split
  ·simp
  ·simp only [List.mem_cons,ih]
   constructor
   ·rintro (h|h|h)
    ·exact .inr (.inl h)
    ·exact .inl h
    ·exact .inr (.inr h)
   ·rintro (h|h|h)
    ·exact .inr (.inl h)
    ·exact .inl h
    ·exact .inr (.inr h)
theorem zqX {l:List BindD}:zly l l.length↔l.Pairwise fun x y=>slt x.var y.var=true:=by
 constructor
 ·intro h
  rw [List.pairwise_iff_getElem]
  intro i j hi hj hij
  exact ztr h hij (List.getElem?_eq_getElem hi) (List.getElem?_eq_getElem hj)
 ·intro h k x y hk hx hy
  rw [List.pairwise_iff_getElem] at h
  obtain ⟨h1,e1⟩:=List.getElem?_eq_some_iff.1 hx
  obtain ⟨h2,e2⟩:=List.getElem?_eq_some_iff.1 hy
  have:=h k (k+1) h1 h2 (Nat.lt_succ_self _)
  rw [e1,e2] at this
  exact this
theorem zow {l:List BindD} {b:BindD} (h:zly l l.length) (hn:(zfT l b.var).2=false):zly (znn l b) (znn l b).length:=by
 rw [zqX] at h ⊢
 induction l with
 |nil=>rw [zno];exact List.pairwise_singleton _ _
 |cons x l ih =>
  have hx:=zq9 hn x List.mem_cons_self
  rw [zf9,if_neg hx] at hn
  rw [List.pairwise_cons] at h
  rw [zkt]
  split
  ·rename_i hs
   refine List.pairwise_cons.2 ⟨fun y hy=>?_,List.pairwise_cons.2 h⟩
   rcases List.mem_cons.1 hy with rfl|hy
   ·exact hs
   ·exact zm0 hs (h.1 y hy)
  ·rename_i hs
   refine List.pairwise_cons.2 ⟨fun y hy=>?_,ih h.2 hn⟩
   rcases mem_withD.1 hy with rfl|hy
   ·cases hq:slt x.var y.var
    ·exact absurd (ztx hq (by simpa using hs)) hx
    ·rfl
   ·exact h.1 y hy
theorem Good.get {l:List BindD} (h:Good l) {s:ByteArray} {t:TermD} (e:zfT l s=(t,true)):t.v=false∧t.s≠⟨#[]⟩:=h.ok _ (zq8 e)
theorem Good.with {l:List BindD} (h:Good l) {b:BindD} (hn:(zfT l b.var).2=false) (hv:b.term.v=false) (hs:b.term.s≠⟨#[]⟩):Good (znn l b) :=
 ⟨zow h.up hn,fun y hy=>(mem_withD.1 hy).elim (fun e=>by rw [e];exact ⟨hv,hs⟩) (h.ok y)⟩
/-! ### One place of a pattern -/
def LeB (l m:List BindD):Prop:=∀ s t,zfT l s=(t,true)→zfT m s=(t,true)
theorem LeB.refl (l:List BindD):LeB l l:=fun _ _ h=>h
theorem LeB.trans {a b c:List BindD} (h:LeB a b) (g:LeB b c):LeB a c:=fun s t e=>g s t (h s t e)
def valB (σ:ByteArray→TermD) (t:TermD):TermD:=if t.v=true then σ t.s else t
/-! ### One atom -/
theorem zz9 {a:AtomD} (h0:0≤a.n) (h4:a.n≤4):a.cnt=a.n.toNat:=by unfold AtomD.cnt;omega
/-! ### A body -/
/-! ### An atom under bindings -/
theorem zkJ (a:AtomD):a.cnt≤4:=by unfold AtomD.cnt;omega
theorem ValidX.var {a:AtomD} (h:ValidX a) {i:Nat} (hi:i < a.cnt) (hv:(a.arg i).v=true):(a.arg i).s≠⟨#[]⟩:=by
 have:=h.terms i (cnt_lt.1 hi).2
 unfold termX at this
 rw [if_pos hv] at this
 intro e
 have hp:=this.pos
 rw [e] at hp
 exact absurd hp (by decide)
theorem FactX.term {a:AtomD} (h:FactX a) {i:Nat} (hi:i < a.cnt):(a.arg i).v=false∧(a.arg i).s≠⟨#[]⟩∧constX (a.arg i).s:=by
 have hv:=ground_iff.1 h.ground i hi
 have:=h.valid.terms i (cnt_lt.1 hi).2
 unfold termX at this
 rw [if_neg (by rw [hv];decide)] at this
 refine ⟨hv,fun e=>?_,this⟩
 have hp:=this.1.pos
 rw [e] at hp
 exact absurd hp (by decide)
/-! ### Heads, rounds -/
theorem FactX.plain {a:AtomD} (h:FactX a):PlainD a:=h.valid.valid.plain
section
variable {cl:List ClauseD} {facts:List AtomD}
/-! ### Founded reasons -/
end
end Go.Am
namespace Go.Am
section
variable {α:Type} {r:Rep α} {h0 h1:Heap} {v:Value} {l:List α} {t e:TypeId} {A k bytes:Nat} {z:List Value} {T:Tab} {bs:List Blk} {w:Nat} {K:Value→Heap→Prop}
theorem zxi (hd:T.desc t=some (.slice e)) (hi:T.info e=some (k,bytes,z)) (hrk:r.k=k) (hk:0 < k) {u:TypeId} {ro:Bool} {cs:List Value} {i c:Nat} {x:α} (hg:bs[i]? = some (.row cs u ro)) (hz:h0.size≤h1.size) (f:Ow r h0 h1 e A v l) (hr:r.R (kill A (h1.lay bs w)) cs x)
 (hb:(l.length+1)*bytes≤140737488355328) (hl:l.length+1≤1152921504606846976)
 (hK:∀ v' h' A',Ow r h0 h' e A' v' (l++[x])→Chg A (h1.lay bs w) h'→(A'=A∨h1.size≤A')→K v' h'):optE (zaH T t v (.slice (some ⟨h1.size+i,0,none⟩) 1 c) (h1.lay bs w)) K:=by
 have hgt:(h1.lay bs w).get (h1.size+i)=some (.row cs u ro):=by rw [zbd];exact hg
 obtain ⟨hs,hsr⟩:=zty (r:=r) (A:=A) (c:=c) (y:=x) (by omega) hgt hr
 exact zrD hd hi hrk hk hz f (by rw [← hrk];exact hs) hsr hb hl hK
theorem zdp {u:TypeId} {n o:Nat} {cs vs:List Value} {v:Value} (q:Holds h1 A (.row cs u false)) (hs:zau T t=some n) (hv:v.cells.toList=vs) (hl:vs.length=n) (hb:o+n≤cs.length) (h1':vs.all one=true)
 (hK:∀ h',Holds h' A (.row (splice cs o vs) u false)→Chg A (h1.lay bs w) h'→K undef h'):memE (zaZ T t (.pointer (some ⟨A,o,none⟩)) v (h1.lay bs w)) K:=by
 have hg:(h1.lay bs w).get A=some (.row cs u false):=q.lay bs w
 have hA:A < (h1.lay bs w).size:=(q.on bs w).lt
 have hsz:v.cells.size=n:=by rw [← hl,← hv];simp
 have he:zaZ T t (.pointer (some ⟨A,o,none⟩)) v (h1.lay bs w)=some ((h1.lay bs w).set A (.row (splice cs o vs) u false)):=by
  unfold zaZ
  simp only [hs,Option.bind_some]
  rw [if_pos hsz,hv]
  unfold zbQ
  rw [hg]
  simp only
  rw [if_pos (by simp only [Bool.and_eq_true,decide_eq_true_eq];exact ⟨by omega,h1'⟩)]
 rw [he]
 refine hK _ ⟨by rw [Heap.size_set];exact hA,by rw [Heap.get_set _ _ _ _ hA,if_pos rfl]⟩ ⟨by rw [Heap.size_set];exact Nat.le_refl _,fun B hB hne=>by rw [Heap.get_set _ _ _ _ hA,if_neg hne],by rw [Heap.low_set];omega⟩
end
section
variable {P:Program} {T:Tab} {ov:Ov}
theorem zlx {b:Nat} {ops:Array Oper} {l:List Oper} {j:Nat} {d:Option Tmp} {Q:Env→Heap→Prop} {e:Env} {hh:Heap} {bs0 bs:List Blk} {w s:Nat} {v:Value} (hl:bs0.length≤bs.length) (hb:b≤s) (hs:hh.size+bs0.length≤s)
 (hk:WOpsX P T ov b ops l (j+1) (put e d v) (hh.lay bs s) Q):zku P T ov b ops l j d Q e (hh.lay bs0 w) v (hh.lay bs s):=by
 refine ⟨⟨⟨.inl ?_,?_,?_⟩,hk⟩⟩
 ·rw [zad];exact hs
 ·exact hb
 ·rw [zad,zad];omega
end
/-! ### Heaps without one block -/
theorem zcf {h:Heap} {A B:Nat} (hne:B≠A):(kill A h).get B=h.get B:=by
 unfold kill
 split
 ·rename_i hA
  rw [Heap.get_set _ _ _ _ hA,if_neg hne]
 ·rfl
theorem zdz {h:Heap} {A:Nat} (hA:A < h.size):(kill A h).get A=some .dead:=by
 unfold kill
 rw [if_pos hA,Heap.get_set _ _ _ _ hA,if_pos rfl]
structure Kin (B:Heap) (A:Nat) (h:Heap):Prop where
 lt:A < h.size
 inc:Inc B (kill A h)
section
variable {B h1 h2:Heap} {A A':Nat} {bs:List Blk} {w:Nat}
theorem Kin.all (k:Kin B A h1):Inc B h1:=k.inc.trans (zfv _ _)
theorem zhV {a b:Heap} (i:Inc a b):Inc (kill A a) (kill A b):=⟨by rw [zbj,zbj];exact i.size,fun C hC hd=>by
 by_cases hCA:C=A
 ·subst hCA
  rw [zbj] at hC
  exact absurd (zdz hC) hd
 ·rw [zbj] at hC
  rw [zcf hCA] at hd ⊢
  rw [zcf hCA]
  exact i.get C hC hd⟩
theorem Kin.mono (k:Kin B A h1) (i:Inc h1 h2):Kin B A h2:=⟨Nat.lt_of_lt_of_le k.lt i.size,k.inc.trans (zhV i)⟩
theorem Kin.over (k:Kin B A h1) (x:Ext (h1.lay bs w) h2):Kin B A h2:=k.mono ((Inc.lay _ _ _).trans x.inc)
theorem Kin.lay (k:Kin B A h1) (bs:List Blk) (w:Nat):Kin B A (h1.lay bs w):=k.mono (Inc.lay _ _ _)
theorem Kin.step (k:Kin B A h1) (c:Chg A (h1.lay bs w) h2) (hA:A'=A∨h1.size≤A') (hl:A' < h2.size):Kin B A' h2:=by
 have hs:h1.size≤(h1.lay bs w).size:=by rw [zad];omega
 refine ⟨hl,⟨by rw [zbj];exact Nat.le_trans k.all.size (Nat.le_trans hs c.size),fun C hC hd=>?_⟩⟩
 have h3:=k.inc.get C hC hd
 have hCA:C≠A:=by
  intro e
  subst e
  rw [zdz k.lt] at h3
  exact hd h3.symm
 have hC1:C < h1.size:=Nat.lt_of_lt_of_le hC k.all.size
 rw [zcf hCA] at h3
 rw [zcf (by rcases hA with e|e <;> omega),c.get C (by omega) hCA,za9 _ _ _ hC1]
 exact h3
theorem Kin.trans (k:Kin B A h1) (k2:Kin (kill A (h1.lay bs w)) A' h2):Kin B A' h2:=⟨k2.lt,(k.lay bs w).inc.trans k2.inc⟩
theorem Kin.holds {C:Nat} {cs:List Value} {u:TypeId} {ro:Bool} (k:Kin B A h1) (q:Holds B C (.row cs u ro)):Holds h1 C (.row cs u ro)∧C≠A:=by
 refine ⟨q.mono k.all,fun e=>?_⟩
 have:=k.inc.get C q.lt (by rw [q.get];nofun)
 rw [e,zdz k.lt,← e,q.get] at this
 cases this
theorem Kin.keep {C:Nat} {cs:List Value} {u:TypeId} {ro:Bool} (k:Kin (kill A (h1.lay bs w)) A' h2) (q:Holds h1 C (.row cs u ro)) (hne:C≠A):Holds h2 C (.row cs u ro)∧C≠A' :=
 k.holds ⟨by rw [zbj];exact (q.on bs w).lt,(zcf hne).trans (q.on bs w).get⟩
end
section
variable {T:Tab} {t e:TypeId} {v:Value} {B h1:Heap} {bs:List Blk} {w:Nat} {K:Value→Heap→Prop} {kd:IntKind} {i:Int}
end
theorem Inc.chg {a b d:Heap} {A:Nat} (i:Inc a b) (c:Chg A b d) (hA:a.size≤A):Inc a d:=⟨Nat.le_trans i.size c.size,fun B hB hd=>(c.get B (Nat.lt_of_lt_of_le hB i.size) (by omega)).trans (i.get B hB hd)⟩
/-! ### Sizes -/
theorem zln {s:ByteArray} (h:lowX s):s.size≤300:=by have:=h.len;omega
theorem termX.size {t:TermD} (h:termX t):t.s.size≤300:=by
 unfold termX at h
 split at h
 ·have:=h.len;omega
 ·exact zln h.1
theorem zrG {a:AtomD} (h0:a.says.size≤300) (h1:a.pred.size≤300) (h:∀ i,i < 4→(a.arg i).s.size≤300):a.light=true:=by
 unfold AtomD.light
 simp only [Bool.and_eq_true,decide_eq_true_eq]
 exact ⟨h0,h1,h 0 (by omega),h 1 (by omega),h 2 (by omega),h 3 (by omega)⟩
theorem ValidX.light {a:AtomD} (h:ValidX a):a.light=true:=by
 refine zrG (zln h.says.1.1) (zln h.pred.1.1) (fun i hi=>?_)
 by_cases hn:(i:Int) < a.n
 ·exact (h.terms i hn).size
 ·rw [h.rest i (by omega) hi]
  decide
end Go.Am
