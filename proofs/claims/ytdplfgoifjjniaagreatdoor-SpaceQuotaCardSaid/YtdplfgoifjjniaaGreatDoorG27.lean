/- Sorting by halves, each text once: the first stays. No condition. -/
import Derived.Test.YtdplfgoifjjniaaGreatDoorG26
set_option linter.unusedSimpArgs false
set_option linter.unusedVariables false
namespace Go.Am
theorem Inc.over {a h1 h2:Heap} {l:List Blk} {w:Nat} (i:Inc a h1) (x:Ext (h1.lay l w) h2):Inc a h2:=(i.trans (Inc.lay _ _ _)).trans x.inc
end Go.Am
namespace Go.Am
def okCh (c:Int):Prop:=(97≤c∧c≤122)∨(65≤c∧c≤90)∨(48≤c∧c≤57)∨c=95
def zgw (c:Int):Prop:=(97≤c∧c≤122)∨(48≤c∧c≤57)∨c=95
def zhb (s:ByteArray):Prop:=1≤s.size∧∀ i,i < s.size→zgw (zbn s i)
def zoX (s:ByteArray):Prop:=1≤s.size∧(65≤zbn s 0∧zbn s 0≤90)∧∀ i,i < s.size→okCh (zbn s i)
def zk9 (t:TermD):Prop:=if t.v then zoX t.s else zhb t.s
structure ValidD (a:AtomD):Prop where
 says:zhb a.says
 pred:zhb a.pred
 lo:0≤a.n
 hi:a.n≤4
 terms:∀ i:Nat,(i:Int) < a.n→zk9 (a.arg i)
 rest:∀ i:Nat,a.n≤(i:Int)→i < 4→a.arg i=zaX
def zsu (s:ByteArray):Bool:=decide (65≤zbn s 0) && decide (zbn s 0≤90)
structure PlainD (a:AtomD):Prop where
 says:Word a.says.data.toList
 pred:Word a.pred.data.toList
 lo:0≤a.n
 hi:a.n≤4
 terms:∀ i:Nat,(i:Int) < a.n→Word (a.arg i).s.data.toList∧(a.arg i).v=zsu (a.arg i).s
 rest:∀ i:Nat,a.n≤(i:Int)→i < 4→a.arg i=zaX
theorem zjN {s:ByteArray} {c:UInt8} (h:c∈s.data.toList):∃ i,i < s.size∧zbn s i=c.toNat:=by
 obtain ⟨i,hi,he⟩:=List.getElem_of_mem h
 have hi':i < s.size:=by rw [← bsz2];exact hi
 refine ⟨i,hi',?_⟩
 unfold zbn
 have:s[i]? = some s[i]:=by simp [hi']
 rw [this]
 simp only [Option.getD_some]
 have h2:s[i]=c:=by rw [← he];rfl
 rw [h2]
theorem zlv {s:ByteArray} (h:zhb s):Word s.data.toList:=by
 intro c hc
 obtain ⟨i,hi,he⟩:=zjN hc
 have:=h.2 i hi
 unfold zgw at this
 unfold zek
 omega
theorem zxg {s:ByteArray} (h:zoX s):Word s.data.toList:=by
 intro c hc
 obtain ⟨i,hi,he⟩:=zjN hc
 have:=h.2.2 i hi
 unfold okCh at this
 unfold zek
 omega
theorem ValidD.plain {a:AtomD} (w:ValidD a):PlainD a:=by
 refine ⟨zlv w.says,zlv w.pred,w.lo,w.hi,fun i hi=>?_,w.rest⟩
 have h:=w.terms i hi
 unfold zk9 at h
 cases hv:(a.arg i).v
 ·rw [hv] at h
  have h:zhb (a.arg i).s:=h
  refine ⟨zlv h,?_⟩
  have:=h.2 0 h.1
  unfold zgw at this
  unfold zsu
  rw [eq_comm,Bool.and_eq_false_iff,decide_eq_false_iff_not,decide_eq_false_iff_not]
  omega
 ·rw [hv] at h
  have h:zoX (a.arg i).s:=h
  refine ⟨zxg h,?_⟩
  unfold zsu
  rw [decide_eq_true h.2.1.1,decide_eq_true h.2.1.2]
  rfl
theorem zuq (a:AtomD):zaP a=zup a.says.data.toList a.pred.data.toList (zcd a):=by
 unfold zaP zup zrg zcd ztu commaB
 cases h:a.args with
 |nil=>simp
 |cons t r=>simp
theorem args_at {a:AtomD} {i:Nat} (h:i < a.cnt):a.args[i]? = some (a.arg i):=by
 have hc:a.cnt≤4:=Nat.min_le_right _ _
 unfold AtomD.args
 rw [List.getElem?_take,if_pos h]
 have:i=0∨i=1∨i=2∨i=3:=by omega
 rcases this with rfl|rfl|rfl|rfl <;> rfl
theorem zx1 {a b:AtomD} (h0:a.says=b.says) (h1:a.pred=b.pred) (h2:a.n=b.n) (h:∀ i,i < 4→a.arg i=b.arg i):a=b:=by
 have e0:=h 0 (by omega)
 have e1:=h 1 (by omega)
 have e2:=h 2 (by omega)
 have e3:=h 3 (by omega)
 obtain ⟨s,p,n,t0,t1,t2,t3⟩:=a
 obtain ⟨s',p',n',u0,u1,u2,u3⟩:=b
 simp only [AtomD.arg] at e0 e1 e2 e3
 simp only at h0 h1 h2
 subst h0 h1 h2 e0 e1 e2 e3
 rfl
theorem ziH {a:AtomD} (w:PlainD a):∀ x∈zcd a,Word x:=by
 intro x hx
 obtain ⟨t,ht,rfl⟩:=List.mem_map.1 hx
 obtain ⟨i,hi⟩:=List.getElem?_of_mem ht
 have hlt:i < a.cnt:=by
  have h1:=(List.getElem?_eq_some_iff.1 hi).1
  unfold AtomD.args at h1
  rw [List.length_take] at h1
  omega
 rw [args_at hlt] at hi
 cases hi
 have:(i:Int) < a.n:=by
  have:a.cnt≤a.n.toNat:=Nat.min_le_left _ _
  omega
 exact (w.terms i this).1
theorem ziG {a b:AtomD} (wa:PlainD a) (wb:PlainD b) (h:zaP a=zaP b):a=b:=by
 rw [zuq,zuq] at h
 obtain ⟨h1,h2,h3⟩:=zw1 wa.says wb.says wa.pred wb.pred (ziH wa) (ziH wb) h
 have hlen:=congrArg List.length h3
 have hca:(a.cnt:Int)=a.n:=by
  have:=wa.lo;have:=wa.hi
  unfold AtomD.cnt
  omega
 have hcb:(b.cnt:Int)=b.n:=by
  have:=wb.lo;have:=wb.hi
  unfold AtomD.cnt
  omega
 have hla:(zcd a).length=a.cnt:=by
  have:a.cnt≤4:=Nat.min_le_right _ _
  unfold zcd AtomD.args
  rw [List.length_map,List.length_take]
  simp only [List.length_cons,List.length_nil]
  omega
 have hlb:(zcd b).length=b.cnt:=by
  have:b.cnt≤4:=Nat.min_le_right _ _
  unfold zcd AtomD.args
  rw [List.length_map,List.length_take]
  simp only [List.length_cons,List.length_nil]
  omega
 rw [hla,hlb] at hlen
 have hn:a.n=b.n:=by omega
 refine zx1 (zhZ h1) (zhZ h2) hn (fun i hi=>?_)
 by_cases hin:(i:Int) < a.n
 ·have e1:=args_at (a:=a) (i:=i) (by omega)
  have e2:=args_at (a:=b) (i:=i) (by omega)
  have e3:(zcd a)[i]? = (zcd b)[i]? := by rw [h3]
  unfold zcd at e3
  rw [List.getElem?_map,List.getElem?_map,e1,e2] at e3
  simp only [Option.map_some,Option.some.injEq] at e3
  have es:=zhZ e3
  have ev:=(wa.terms i hin).2
  have ew:=(wb.terms i (by omega)).2
  rw [es] at ev
  have:(a.arg i).v=(b.arg i).v:=ev.trans ew.symm
  calc a.arg i=⟨(a.arg i).v,(a.arg i).s⟩:=rfl
   _=⟨(b.arg i).v,(b.arg i).s⟩:=by rw [this,es]
   _=b.arg i:=rfl
 ·rw [wa.rest i (by omega) hi,wb.rest i (by omega) hi]
theorem ztj {a b:AtomD} (wa:PlainD a) (wb:PlainD b):cmpD a b=0↔a=b:=⟨fun h=>ziG wa wb (cmpD_zero.1 h),fun h=>by rw [h];exact zd0 _⟩
def AllP (l:List AtomD):Prop:=∀ x∈l,PlainD x
theorem AllP.app {l m:List AtomD} (h:AllP l) (g:AllP m):AllP (l++m):=fun x hx=>(List.mem_append.1 hx).elim (h x) (g x)
theorem AllP.sort {l:List AtomD} (h:AllP l):AllP (zcF l):=fun x hx=>h x ((zch l).mem hx)
theorem zsG {l:List AtomD} (h:AllP l) {x:AtomD}:x∈zcF l↔x∈l:=by
 refine ⟨fun hx=>(zch l).mem hx,fun hx=>?_⟩
 obtain ⟨y,hy,e⟩:=(zch l).cov x hx
 have:=ziG (h y ((zch l).mem hy)) (h x hx) e
 subst this
 exact hy
theorem zpP {l:List AtomD} (p:AtomD→Bool) (h:AscD l):AscD (l.filter p):=h.sublist List.filter_sublist
end Go.Am
namespace Go.Am
def zeV (l:List ReasonD) (a:AtomD):List AtomD:=match l.find? (fun r=>r.atom == a) with
 |some r=>r.body
 |none=>[]
structure NeedsOf (l:List ReasonD) (goals out:List AtomD):Prop where
 asc:AscD out
 plain:AllP out
 hgoals:∀ g∈goals,g∈out
 closed:∀ x∈out,∀ b∈zeV l x,b∈out
 least:∀ S:AtomD→Prop,(∀ g∈goals,S g)→(∀ x,S x→∀ b∈zeV l x,S b)→∀ x∈out,S x
theorem NeedsOf.eq {l:List ReasonD} {g o1 o2:List AtomD} (f:NeedsOf l g o1) (h:NeedsOf l g o2):o1=o2 :=
 zo5 f.asc h.asc (fun x=>⟨fun hx=>f.least (·∈o2) h.hgoals h.closed x hx,fun hx=>h.least (·∈o1) f.hgoals f.closed x hx⟩)
theorem NeedsOf.none {l:List ReasonD} {o:List AtomD} (f:NeedsOf l [] o):o=[]:=by
 cases o with
 |nil=>rfl
 |cons x o=>exact (f.least (fun _=>False) (fun g hg=>by cases hg) (fun _ h=>h.elim) x (List.mem_cons_self ..)).elim
def zgf (l:List ReasonD):List AtomD:=l.flatMap (·.body)
theorem zpT {l:List ReasonD} {a b:AtomD} (h:b∈zeV l a):b∈zgf l:=by
 unfold zeV at h
 split at h
 ·rename_i r hr
  exact List.mem_flatMap.2 ⟨r,List.mem_of_find?_eq_some hr,h⟩
 ·cases h
structure NeedsTo (l:List ReasonD) (goals out todo:List AtomD):Prop where
 asc:AscD out
 plain:AllP out
 hgoals:∀ g∈goals,g∈out
 closed:∀ x∈out,x∈todo∨∀ b∈zeV l x,b∈out
 htodo:∀ x∈todo,x∈out
 least:∀ S:AtomD→Prop,(∀ g∈goals,S g)→(∀ x,S x→∀ b∈zeV l x,S b)→∀ x∈out,S x
structure NeedsIn (l:List ReasonD) (goals out todo:List AtomD) (x:AtomD) (j:Nat):Prop where
 asc:AscD out
 plain:AllP out
 hgoals:∀ g∈goals,g∈out
 closed:∀ y∈out,y∈todo∨y=x∨∀ b∈zeV l y,b∈out
 htodo:∀ y∈todo,y∈out
 here:x∈out
 done:∀ b∈(zeV l x).take j,b∈out
 least:∀ S:AtomD→Prop,(∀ g∈goals,S g)→(∀ x,S x→∀ b∈zeV l x,S b)→∀ x∈out,S x
theorem NeedsTo.enter {l:List ReasonD} {goals out todo:List AtomD} {x:AtomD} (f:NeedsTo l goals out (x::todo)):NeedsIn l goals out todo x 0 :=
 ⟨f.asc,f.plain,f.hgoals,fun y hy=>by
  rcases f.closed y hy with h|h
  ·rcases List.mem_cons.1 h with h|h
   ·exact .inr (.inl h)
   ·exact .inl h
  ·exact .inr (.inr h),fun y hy=>f.htodo y (List.mem_cons_of_mem _ hy),f.htodo x (List.mem_cons_self ..),by simp,f.least⟩
theorem NeedsIn.add {l:List ReasonD} {goals out todo:List AtomD} {x a:AtomD} {j:Nat} (f:NeedsIn l goals out todo x j) (ha:(zeV l x)[j]? = some a) (hp:PlainD a):NeedsIn l goals (putA a out) (todo++[a]) x (j+1):=by
 have hno:∀ y,y∈putA a out↔y∈out∨y=a:=fun y=>by
  rw [zet f.asc]
  constructor
  ·rintro (h|⟨rfl,_⟩)
   ·exact .inl h
   ·exact .inr rfl
  ·rintro (h|rfl)
   ·exact .inl h
   ·by_cases hy:y∈out
    ·exact .inl hy
    ·refine .inr ⟨rfl,fun z hz e=>hy ?_⟩
     rw [(ztj hp (f.plain z hz)).1 e]
     exact hz
 have hmem:a∈zeV l x:=List.mem_of_getElem? ha
 refine ⟨zhQ f.asc,fun y hy=>?_,fun g hg=>(hno g).2 (.inl (f.hgoals g hg)),fun y hy=>?_,fun y hy=>?_,(hno x).2 (.inl f.here),fun b hb=>?_,fun S h1 h2 y hy=>?_⟩
 ·rcases (hno y).1 hy with h|rfl
  ·exact f.plain y h
  ·exact hp
 ·rcases (hno y).1 hy with h|rfl
  ·rcases f.closed y h with h|h|h
   ·exact .inl (List.mem_append_left _ h)
   ·exact .inr (.inl h)
   ·exact .inr (.inr (fun b hb=>(hno b).2 (.inl (h b hb))))
  ·exact .inl (List.mem_append_right _ (List.mem_cons_self ..))
 ·rcases List.mem_append.1 hy with h|h
  ·exact (hno y).2 (.inl (f.htodo y h))
  ·have:y=a:=by simpa using h
   exact (hno y).2 (.inr this)
 ·rw [List.take_add_one,ha] at hb
  rcases List.mem_append.1 hb with hb|hb
  ·exact (hno b).2 (.inl (f.done b hb))
  ·have:b=a:=by simpa using hb
   exact (hno b).2 (.inr this)
 ·rcases (hno y).1 hy with h|rfl
  ·exact f.least S h1 h2 y h
  ·exact h2 x (f.least S h1 h2 x f.here) y hmem
theorem NeedsIn.len {l:List ReasonD} {goals out todo:List AtomD} {x:AtomD} {j:Nat} (f:NeedsIn l goals out todo x j) (hp:AllP (goals++zgf l)):out.length≤goals.length+(zgf l).length:=by
 have h1:∀ y∈out,y∈goals++zgf l:=f.least (·∈goals++zgf l) (fun g hg=>List.mem_append_left _ hg) (fun y _ b hb=>List.mem_append_right _ (zpT hb))
 have h2:∀ y,y∈out→y∈zcF (goals++zgf l):=fun y hy=>(zsG hp).2 (h1 y hy)
 have h3:=zfj (goals++zgf l)
 have h4:out.length≤(zcF (goals++zgf l)).length:=by
  have e:out=(zcF (goals++zgf l)).filter (fun x=>decide (x∈out)):=zo5 f.asc (zpP _ (zch _).asc) (fun y=>by
   rw [List.mem_filter,decide_eq_true_iff]
   exact ⟨fun hy=>⟨h2 y hy,hy⟩,fun hy=>hy.2⟩)
  rw [e]
  exact List.length_filter_le _ _
 rw [List.length_append] at h3
 omega
end Go.Am
