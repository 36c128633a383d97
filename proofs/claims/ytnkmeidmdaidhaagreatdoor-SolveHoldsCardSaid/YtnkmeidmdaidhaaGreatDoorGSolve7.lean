/- The solver's steps: a state begins, an answer comes. No condition. -/
import Derived.Test.YtnkmeidmdaidhaaGreatDoorG34
set_option linter.unusedSimpArgs false
set_option linter.unusedVariables false
namespace Go.Am
def jB (d:aY) (s:dv):aY:={ d with steps:=d.steps+1,queue:=d.queue++[d.ab.length],ab:=d.ab++[s] }
open Classical in
noncomputable def lI (d:aY) (r:ba):aY:=if r.atom∈d.known then d else { d with known:=r.atom::d.known,aC:=d.aC++[r] }
def rD (d:aY) (i:Nat):aY:={ d with queue:=d.queue++((d.calls[i]?).map aX.waiters).getD [] }
noncomputable def gj (d:aY) (i:Nat) (r:ba):aY :=
 if (bl d i r.atom).2 then rD (lI { (bl d i r.atom).1 with steps:=d.steps+1 } r) i else (bl d i r.atom).1
section
variable {T:xn} {b h h':Heap} {x x':cG} {bZ vf:ai} {d d':aY} {D E E':List Nat}
theorem Inv.Cu (v:Inv T b E x bZ vf d h) (hb:b.size<=h.size) {s:dv} {A1 A As:Nat} {u1 u lv:ai} (f:aR D h h') (hD:∀ B∈D,B=x.pl .w\/(B=x.pl .qa/\d.queue≠[])\/(B=x.pl .sa/\d.ab≠[])\/h.size<=B)
 (nq:(A1=x.pl .qa/\d.queue≠[])\/h.size<=A1) (hA:(A=x.pl .sa/\d.ab≠[])\/h.size<=A) (pB:h.size<=As) (aL:As≠A) (ah6:As≠A1) (tj:A1≠A) (o1:Ow aG.nat b h' T.i A1 u1 (d.queue++[d.ab.length])) (o:Ow aG.ptr b h' T.ps A u (((List.range d.ab.length).map λi=>x.pl (.s i))++[As]))
 (qs:ak h' As (.row (sk lv s) T.s false)) (hl:Sl aG.bind (bp E h) lv s.l)
 (q:ak h' (x.pl .w) (.row (Ca { x with vl:=aw (aw x.vl .qa u1) .sa u } bZ vf { d with steps:=d.steps+1 }) T.w false)) :
 ∃ E' x',Inv T b E' x' bZ vf (jB d s) h'/\ec d.ab.length E E' x x' h h':=by
 obtain ⟨n,hn⟩:∃ n,n=d.ab.length:=⟨_,rfl⟩
 have ZJ:=v.lt (r:=.w) trivial
 have p1:∀ i,i≠n->aw (aw (aw x.pl .qa A1) .sa A) (.s n) As (.s i)=x.pl (.s i):=λi hi=>by rw [fA (by simpa using hi),fA (by simp),fA (by simp)]
 have p2:aw (aw (aw x.pl .qa A1) .sa A) (.s n) As (.s n)=As:=kB _ _ _
 have p3:aw (aw (aw x.pl .qa A1) .sa A) (.s n) As .sa=A:=by rw [fA (by simp),kB]
 have p4:aw (aw (aw x.pl .qa A1) .sa A) (.s n) As .qa=A1:=by rw [fA (by simp),fA (by simp),kB]
 have v4:aw (aw (aw x.vl .qa u1) .sa u) (.s n) lv .qa=u1:=by rw [fA (by simp),fA (by simp),kB]
 have v1:∀ i,i≠n->aw (aw (aw x.vl .qa u1) .sa u) (.s n) lv (.s i)=x.vl (.s i):=λi hi=>by rw [fA (by simpa using hi),fA (by simp),fA (by simp)]
 have v2:aw (aw (aw x.vl .qa u1) .sa u) (.s n) lv (.s n)=lv:=kB _ _ _
 have v3:aw (aw (aw x.vl .qa u1) .sa u) (.s n) lv .sa=u:=by rw [fA (by simp),kB]
 have gl:∀ {i t},i≠n->(d.ab++[s])[i]? = some t->d.ab[i]? = some t:=λ{i t} hi ht=>by
  have:=ao ht
  rw [cT,jk] at this
  rwa [jC (by omega)] at ht
 have gn:∀ {t},(d.ab++[s])[n]? = some t->t=s:=λ{t} ht=>by
  rw [hn,lj (by omega),tQ] at ht
  simpa using ht.symm
 have rg:(List.range (d.ab++[s]).length).map (λi=>aw (aw (aw x.pl .qa A1) .sa A) (.s n) As (.s i))=((List.range d.ab.length).map λi=>x.pl (.s i))++[As]:=by
  rw [cT,jk,List.range_succ,sG,qG,List.map_nil,<- hn,p2]
  congr 1
  exact Cd λi hi=>p1 i (by have:=uI.1 hi;omega)
 obtain ⟨i1,i2⟩:=v.xJ (x':={ x with pl:=aw (aw (aw x.pl .qa A1) .sa A) (.s n) As,vl:=aw (aw (aw x.vl .qa u1) .sa u) (.s n) lv }) (d':=jB d s) [.w,.qa,.sa,.s n] hb f
  (λB hB=>by
   rcases hD B hB with rfl|⟨rfl,e⟩|⟨rfl,e⟩|e
   .exact .inl ⟨.w,by simp,trivial,rfl⟩
   .exact .inl ⟨.qa,by simp,e,rfl⟩
   .exact .inl ⟨.sa,by simp,e,rfl⟩
   .exact .inr e)
  (λr hr=>by
   cases r <;> first|exact ⟨rfl,id,id⟩|(exfalso;apply hr;simp;done)|skip
   rename_i i
   have hi:i≠n:=by rintro rfl;simp at hr
   refine ⟨p1 i hi,λhh=>?_,λg t ht=>?_⟩
   .have hh:i < (d.ab++[s]).length:=hh
    rw [cT,jk] at hh
    show i < d.ab.length
    omega
   .show ak h' (aw (aw (aw x.pl .qa A1) .sa A) (.s n) As (.s i)) (.row (sk (aw (aw (aw x.vl .qa u1) .sa u) (.s n) lv (.s i)) t) T.s false)
    rw [p1 i hi,v1 i hi]
    exact g t (gl hi ht))
  (λr hr=>by
   simp only [db,hY,or_false] at hr
   rcases hr with rfl|rfl|rfl|rfl
   .exact q
   .show du aG.nat b h' T.i (aw (aw (aw x.pl .qa A1) .sa A) (.s n) As .qa) (aw (aw (aw x.vl .qa u1) .sa u) (.s n) lv .qa) (d.queue++[d.ab.length])
    rw [p4,v4]
    exact o1.Bx (by simp)
   .show du aG.ptr b h' T.ps (aw (aw (aw x.pl .qa A1) .sa A) (.s n) As .sa) (aw (aw (aw x.vl .qa u1) .sa u) (.s n) lv .sa) ((List.range (d.ab++[s]).length).map λi=>aw (aw (aw x.pl .qa A1) .sa A) (.s n) As (.s i))
    rw [p3,v3,rg]
    exact o.Bx (by simp)
   .intro t ht
    show ak h' (aw (aw (aw x.pl .qa A1) .sa A) (.s n) As (.s n)) (.row (sk (aw (aw (aw x.vl .qa u1) .sa u) (.s n) lv (.s n)) t) T.s false)
    rw [p2,v2,gn ht]
    exact qs)
  (λr hr=>by
   simp only [db,hY,or_false] at hr
   rcases hr with rfl|rfl|rfl|rfl
   .trivial
   .show d.queue++[_]≠[]
    simp
   .show d.ab++[s]≠[]
    simp
   .show n < (d.ab++[s]).length
    rw [cT,jk];omega)
  (λr hr=>by
   simp only [db,hY,or_false] at hr
   rcases hr with rfl|rfl|rfl|rfl
   .exact .inl ⟨trivial,rfl⟩
   .show (d.queue≠[]/\aw (aw (aw x.pl .qa A1) .sa A) (.s n) As .qa=x.pl .qa)\/h.size<=aw (aw (aw x.pl .qa A1) .sa A) (.s n) As .qa
    rw [p4]
    exact nq.imp (λe=>⟨e.2,e.1⟩) id
   .show (d.ab≠[]/\aw (aw (aw x.pl .qa A1) .sa A) (.s n) As .sa=x.pl .sa)\/h.size<=aw (aw (aw x.pl .qa A1) .sa A) (.s n) As .sa
    rw [p3]
    exact hA.imp (λe=>⟨e.2,e.1⟩) id
   .exact .inr (by show h.size<=aw (aw (aw x.pl .qa A1) .sa A) (.s n) As (.s n);rw [p2];exact pB))
  (λr hr r' cI e1 e2=>by
   simp only [db,hY,or_false] at hr cI
   have hw:aw (aw (aw x.pl .qa A1) .sa A) (.s n) As .w=x.pl .w:=rfl
   change h.size<=aw (aw (aw x.pl .qa A1) .sa A) (.s n) As r at e1
   change aw (aw (aw x.pl .qa A1) .sa A) (.s n) As r=aw (aw (aw x.pl .qa A1) .sa A) (.s n) As r' at e2
   rcases hr with rfl|rfl|rfl|rfl <;> rcases cI with rfl|rfl|rfl|rfl <;> first|rfl|(exfalso;simp only [hw,p2,p3,p4] at e1 e2;omega))
  (λi t ht=>by
   show Sl aG.bind (bp E h) (aw (aw (aw x.vl .qa u1) .sa u) (.s n) lv (.s i)) t.l
   by_cases hi:i=n
   .subst hi
    rw [v2,gn ht]
    exact hl
   .rw [v1 i hi]
    exact v.fz i t (gl hi ht))
  v.fb
 exact ⟨_,_,i1,rfl,rfl,λi hi=>p1 i (by omega),λi hi=>v1 i (by omega),i2⟩
end
theorem zoD {D:List Nat} {h:Heap} {B:Nat} {cs:List ai} {u:TypeId} {ro:Bool} (q:ak (bp D h) B (.row cs u ro)):B ∉ D/\ak h B (.row cs u ro):=by
 have hB:B < h.size:=by have:=q.lt;rwa [wU] at this
 have hn:B ∉ D:=λhh=>by
  have:=q.get
  rw [V5 hh hB] at this
  cases this
 exact ⟨hn,hB,by rw [<- EB hn];exact q.get⟩
theorem ec.box {n:Nat} {E E':List Nat} {x x':cG} {h h':Heap} {A:Nat} {cs:List ai} {u:TypeId} {ro:Bool} (s:ec n E E' x x' h h') (q:ak h A (.row cs u ro)) (hA:A ∉ E):ak h' A (.row cs u ro)/\A ∉ E':=by
 have q1:ak (bp E h) A (.row cs u ro):=⟨by rw [wU];exact q.lt,by rw [EB hA];exact q.get⟩
 have q2:ak (bp E' h') A (.row cs u ro):=⟨dt q1.lt s.inc.size,(s.inc.get A q1.lt (by rw [q1.get];nofun)).trans q1.get⟩
 exact ⟨(zoD q2).2,(zoD q2).1⟩
theorem ec.size {n:Nat} {E E':List Nat} {x x':cG} {h h':Heap} (s:ec n E E' x x' h h'):h.size<=h'.size:=by
 have:=s.inc.size
 rwa [wU,wU] at this
theorem Gj (d:aY) (i:Nat) (a:ae):(bl d i a).1.steps=d.steps/\(bl d i a).1.queue=d.queue/\(bl d i a).1.ab=d.ab/\(bl d i a).1.aC=d.aC/\(bl d i a).1.known=d.known/\(bl d i a).1.aD=d.aD/\(bl d i a).1.calls.length=d.calls.length:=by
 unfold bl
 split
 .split
  .exact ⟨rfl,rfl,rfl,rfl,rfl,rfl,rfl⟩
  .exact ⟨rfl,rfl,rfl,rfl,rfl,rfl,by rw [iS]⟩
 .exact ⟨rfl,rfl,rfl,rfl,rfl,rfl,rfl⟩
theorem znI {d:aY} {i:Nat} {c:aX} (h:d.calls[i]? = some c) (a:ae):∃ c1,(bl d i a).1.calls[i]? = some c1/\c1.waiters=c.waiters/\c1.atom=c.atom:=by
 unfold bl
 rw [h]
 dsimp only
 split
 .exact ⟨c,h,rfl,rfl⟩
 .exact ⟨_,mz (ao h),rfl,rfl⟩
end Go.Am
