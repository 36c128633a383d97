/- Walks: what is gone through of a policy; who is declared. Written out by fill2.py. No condition. -/
import Derived.Test.YtdplfgoifjjniaaGreatDoorG35
set_option linter.unusedSimpArgs false
set_option linter.unusedVariables false
set_option maxRecDepth 100000
set_option maxHeartbeats 0
namespace Go.Proofs.YtdplfgoifjjniaaGreatDoor
open Go.Am
noncomputable def N77:=zax Tryz.f77
noncomputable def x77:=PLift.up (by have c:=zag N77 Tryz.f77;simp only [nEqs,Tryz.f77,seval] at c;exact nd c <| nd @zEb <| nd @zEd <| nd @zEe <| @fi77)
theorem c77:type_of% x77.down:=x77.down
noncomputable def N78:=zax Tryz.f78
noncomputable def x78:=PLift.up (by have c:=zag N78 Tryz.f78;simp only [nEqs,Tryz.f78,seval] at c;exact nd c <| @fi78)
theorem c78:type_of% x78.down:=x78.down
noncomputable def N107:=zax Tryz.f107
noncomputable def x107:=PLift.up (by have c:=zag N107 Tryz.f107;simp only [nEqs,Tryz.f107,seval] at c;exact nd c <| nd @ld33 <| nd @ld4 <| @zDi)
theorem c107:type_of% x107.down:=x107.down
noncomputable def N81:=zax Tryz.f81
noncomputable def x81:=PLift.up (by have c:=zag N81 Tryz.f81;simp only [nEqs,Tryz.f81,seval] at c;exact nd c <| nd @zmd <| nd @ld23 <| @fi81)
theorem c81:type_of% x81.down:=x81.down
noncomputable def N118:=zax Tryz.f118
noncomputable def x118:=PLift.up (by have c:=zag N118 Tryz.f118;simp only [nEqs,Tryz.f118,seval] at c;exact nd c <| nd @al67 <| nd @zse <| nd @zxu <| nd @zxv <| nd @ix24 <| nd @ld24 <| nd @ld3 <| nd @ld67 <| nd @ld9 <| nd @ln24 <| @zDt)
theorem c118:type_of% x118.down:=x118.down
noncomputable def N90:=zax Tryz.f90
noncomputable def x90:=PLift.up (by have c:=zag N90 Tryz.f90;simp only [nEqs,Tryz.f90,seval] at c;exact nd c <| nd @zlL <| nd @zif <| nd @zsg <| nd @zsh <| nd @ld29 <| nd @ld3 <| nd @ld9 <| @fi90)
theorem c90:type_of% x90.down:=x90.down
noncomputable def N119:=zax Tryz.f119
noncomputable def x119:=PLift.up (by have c:=zag N119 Tryz.f119;simp only [nEqs,Tryz.f119,seval] at c;exact nd c <| nd @ld42 <| @zDu)
theorem c119:type_of% x119.down:=x119.down
noncomputable def N60:=zax Tryz.f60
noncomputable def x60:=PLift.up (by have c:=zag N60 Tryz.f60;simp only [nEqs,Tryz.f60,seval] at c;exact nd c <| nd @zlL <| nd @zif <| nd @ld29 <| nd @ld42 <| nd @ld9 <| @fi60)
theorem c60:type_of% x60.down:=x60.down
noncomputable def N89:=zax Tryz.f89
noncomputable def x89:=PLift.up (by have c:=zag N89 Tryz.f89;simp only [nEqs,Tryz.f89,seval] at c;exact nd c <| nd @ld29 <| nd @ld42 <| @fi89)
theorem c89:type_of% x89.down:=x89.down
noncomputable def N64:=zax Tryz.f64
noncomputable def x64:=PLift.up (by have c:=zag N64 Tryz.f64;simp only [nEqs,Tryz.f64,seval] at c;exact nd c <| nd @ld42 <| @fi64)
theorem c64:type_of% x64.down:=x64.down
end Go.Proofs.YtdplfgoifjjniaaGreatDoor
namespace Go.Am
open Classical in
def za6:List Int→Int
 | []=>0
 |e::l=>if e=0 then za6 l else e
theorem zqe:za6 []=0:=rfl
theorem zeq (e:Int) (l:List Int):za6 (e::l)=if e=0 then za6 l else e:=rfl
theorem firstE_zero {l:List Int}:za6 l=0↔∀ e∈l,e=0:=by
 induction l with
 |nil=>simp [za6]
 |cons e l ih =>
  rw [zeq]
  by_cases h:e=0
  ·rw [if_pos h,ih];simp [h]
  ·rw [if_neg h];simp [h]
def notE (b:Bool) (e:Int):Int:=if b then e else 0
theorem zd6 {b:Bool} {e:Int} (h:e≠0):notE b e=0↔b=false:=by cases b <;> simp [notE,h]
def za7 {α:Type} (f:List α→α→Int):List α→List α→Int
 |_,[]=>0
 |pre,x::l=>if f pre x=0 then za7 f (pre++[x]) l else f pre x
theorem zbg {α:Type} {f:List α→α→Int} {l:List α} {i:Nat} {x:α} (hx:l[i]? = some x):za7 f (l.take i) (l.drop i)=if f (l.take i) x=0 then za7 f (l.take (i+1)) (l.drop (i+1)) else f (l.take i) x:=by
 have hi:=List.getElem?_eq_some_iff.1 hx
 rw [List.drop_eq_getElem_cons hi.1,hi.2,List.take_add_one,hx]
 rfl
theorem zdu {α:Type} {f:List α→α→Int} {l:List α} {i:Nat} (hi:l.length≤i):za7 f (l.take i) (l.drop i)=0:=by
 rw [List.drop_of_length_le hi];rfl
theorem eachE_zero {α:Type} {f:List α→α→Int}:∀ {l pre:List α},za7 f pre l=0↔∀ i x,l[i]? = some x→f (pre++l.take i) x=0
 | [],pre=>by simp [za7]
 |y::l,pre=>by
  unfold za7
  by_cases h:f pre y=0
  ·rw [if_pos h,eachE_zero]
   constructor
   ·intro g i x hx
    cases i with
    |zero=>simp at hx;subst hx;simpa using h
    |succ i=>have:=g i x (by simpa using hx);simpa using this
   ·intro g i x hx
    have:=g (i+1) x (by simpa using hx)
    simpa using this
  ·rw [if_neg h]
   constructor
   ·intro g;exact absurd g h
   ·intro g;exact absurd (by simpa using g 0 y rfl) h
/-! ### Atoms -/
open Classical in
noncomputable def zd8 (s:ByteArray):Bool:=decide (zbV s)
open Classical in
noncomputable def zgP (t:TermD):Bool := !decide (termX t)
noncomputable def zdj (a:AtomD):Int :=
 if zd8 a.says && zd8 a.pred then (if a.n < 0∨4 < a.n then 4 else if a.args.any zgP then 3 else if (a.all.drop a.cnt).any (fun t => !decide (t=zaX)) then 15 else 0) else 3
theorem prinB_iff {s:ByteArray}:zd8 s=true↔zbV s:=by unfold zd8;simp
theorem zmK {s:ByteArray} (h:¬ zbV s):zd8 s=false:=by unfold zd8;simp [h]
theorem zkp {a:AtomD} (h:¬ zbV a.says∨¬ zbV a.pred):zdj a=3:=by
 unfold zdj
 rw [if_neg]
 rw [Bool.and_eq_true,prinB_iff,prinB_iff]
 exact fun x=>h.elim (fun y=>y x.1) (fun y=>y x.2)
theorem zuo {a:AtomD} (h1:zbV a.says) (h2:zbV a.pred) (h:a.n < 0∨4 < a.n):zdj a=4:=by
 unfold zdj
 rw [if_pos (by rw [Bool.and_eq_true,prinB_iff,prinB_iff];exact ⟨h1,h2⟩),if_pos h]
theorem zrh {a:AtomD} (h1:zbV a.says) (h2:zbV a.pred) (h3:¬ (a.n < 0∨4 < a.n)) (h:a.args.any zgP=true):zdj a=3:=by
 unfold zdj
 rw [if_pos (by rw [Bool.and_eq_true,prinB_iff,prinB_iff];exact ⟨h1,h2⟩),if_neg h3,if_pos h]
theorem zhj {a:AtomD} (h1:zbV a.says) (h2:zbV a.pred) (h3:¬ (a.n < 0∨4 < a.n)) (h4:a.args.any zgP=false):zdj a=if (a.all.drop a.cnt).any (fun t => !decide (t=zaX)) then 15 else 0:=by
 unfold zdj
 rw [if_pos (by rw [Bool.and_eq_true,prinB_iff,prinB_iff];exact ⟨h1,h2⟩),if_neg h3,if_neg (by rw [h4];decide)]
def hasP (l:List ByteArray) (s:ByteArray):Bool:=l.any fun x=>decide (s=x)
theorem hasP_iff {l:List ByteArray} {s:ByteArray}:hasP l s=true↔s∈l:=by
 unfold hasP
 rw [List.any_eq_true]
 exact ⟨fun ⟨x,hx,e⟩=>by rw [of_decide_eq_true e];exact hx,fun h=>⟨s,h,by simp⟩⟩
def zeG (l:List PredD) (s:ByteArray):Int × Bool:=match l.find? (fun x=>decide (x.name=s)) with
 |some x=>(x.arity,true)
 |none=>(0,false)
noncomputable def zdE (d:PolicyD) (a:AtomD):Int:=za6 [zdj a,notE (!hasP d.principals a.says) 6,notE (!(zeG d.preds a.pred).2) 7,notE (!decide ((zeG d.preds a.pred).1=a.n)) 8]
def zil (a:AtomD):Bool:=a.ground
noncomputable def zbF (d:PolicyD) (s:ByteArray) (a:AtomD):Int:=za6 [notE (!hasP d.principals s) 6,zdE d a,notE (!zil a) 10,notE (!decide (a.says=s)) 11]
/-! ### Policies -/
noncomputable def zhx (l:List ByteArray):Int:=if l.length < 1∨16 < l.length then 4 else za7 (fun pre w=>za6 [notE (!zd8 w) 3,notE (hasP pre w) 5]) [] l
noncomputable def zkb (l:List PredD):Int:=if 32 < l.length then 4 else za7 (fun pre x=>za6 [notE (!zd8 x.name) 3,notE (hasP (pre.map PredD.name) x.name) 5,notE (decide (x.arity < 0∨4 < x.arity)) 4]) [] l
def zgD (ps:List ByteArray) (c:ClearD):Int:=if c.reads.length < 1∨16 < c.reads.length then 4 else za7 (fun pre w=>za6 [notE (!hasP ps w) 6,notE (decide (w=c.who)) 11,notE (hasP pre w) 5]) [] c.reads
def zkI (ps:List ByteArray) (l:List ClearD):Int:=za7 (fun pre c=>za6 [notE (!hasP ps c.who) 6,notE (hasP (pre.map ClearD.who) c.who) 5,zgD ps c]) [] l
def zdK (d:PolicyD):Int:=notE (decide (d.quota < 0∨1000 < d.quota) || decide (d.budget < 1∨1048576 < d.budget) || decide (64 < d.rules.length+d.grants.length)) 4
noncomputable def zkF (d:PolicyD) (l:List AtomD):Int:=za7 (fun _ a=>zdE d a) [] l
noncomputable def zcr (d:PolicyD) (head:AtomD) (body:List AtomD):Int:=za6 [zdE d head,notE (decide (6 < body.length)) 4,zkF d body]
open Classical in
noncomputable def zez (c:ClauseD):Int:=notE (decide (∃ x,zlt c.head x∧∀ a∈c.body,¬ zlt a x)) 9
noncomputable def zoA (d:PolicyD) (c:ClauseD):Int:=za6 [zcr d c.head c.body,zez c]
noncomputable def zj2 (d:PolicyD) (g:GrantD):Int:=za6 [notE (!hasP d.principals g.to) 6,notE (decide (g.to=g.head.says)) 11,zcr d g.head g.body]
noncomputable def zkd (d:PolicyD):Int:=za6 [za7 (fun _ c=>zoA d c) [] d.rules,za7 (fun _ g=>zj2 d g) [] d.grants]
noncomputable def zgg (d:PolicyD):Int:=za6 [zhx d.principals,zkb d.preds,zkI d.principals d.clears,zdK d,zkd d]
abbrev Rep.fnv:Rep Value:={ k:=1,R:=fun _ cs x=>cs=[x]∧one x=true,len:=by rintro _ cs x ⟨rfl,_⟩;rfl,mono:=fun _ _ _ _ _ h=>h,ones:=by rintro _ cs x ⟨rfl,h⟩;simp [h] }
theorem zsx {T:Tab} {t e:TypeId} {kd:IntKind} {i:Int} {v:Value} {h1:Heap} {bs:List Blk} {w:Nat} {K:Value→Heap→Prop} {l:List Value} {x:Value} (f:Sl Rep.fnv h1 v l) (hd:T.desc t=some (.slice e)) (hs:zau T e=some 1) (h0:0≤i) (hx:l[i.toNat]? = some x) (hk:∀ p,AtP h1 p [x]→K p (h1.lay bs w)):valE (zao T t v (.int kd i)) (h1.lay bs w) K:=by
 have hi:=(List.getElem?_eq_some_iff.1 hx).1
 refine ze4 f hd hs h0 (by omega) (fun x' p cs hx' hr hp=>?_)
 rw [hx] at hx'
 cases hx'
 exact hk p (hr.1 ▸ hp)
end Go.Am
