/- The solver's steps: a state begins, an answer comes. No condition. -/
import Derived.Test.YtnkmeidmdaidhaaGreatDoorG34
set_option linter.unusedSimpArgs false
set_option linter.unusedVariables false
namespace Go.Am
def kT (d:bg) (s:eu):bg:={ d with steps:=d.steps+1,queue:=d.queue++[d.ab.length],ab:=d.ab++[s] }
open Classical in
noncomputable def j7 (d:bg) (r:aV):bg:=if r.atom∈d.known then d else { d with known:=r.atom::d.known,aB:=d.aB++[r] }
def pE (d:bg) (i:Nat):bg:={ d with queue:=d.queue++((d.calls[i]?).map ba.waiters).getD [] }
noncomputable def gm (d:bg) (i:Nat) (r:aV):bg :=
 if (bq d i r.atom).2 then pE (j7 { (bq d i r.atom).1 with steps:=d.steps+1 } r) i else (bq d i r.atom).1
section
variable {T:vd} {b h h':Heap} {x x':cp} {bN vf:ai} {d d':bg} {D E E':List Nat}
theorem Inv.Ap (v:Inv T b E x bN vf d h) (hb:b.size<=h.size) {s:eu} {A1 A As:Nat} {u1 u lv:ai} (f:aP D h h') (hD:∀ B∈D,B=x.pl .w\/(B=x.pl .qa/\d.queue≠[])\/(B=x.pl .sa/\d.ab≠[])\/h.size<=B)
 (lS:(A1=x.pl .qa/\d.queue≠[])\/h.size<=A1) (hA:(A=x.pl .sa/\d.ab≠[])\/h.size<=A) (oV:h.size<=As) (aO:As≠A) (afF:As≠A1) (qY:A1≠A) (o1:Ow aF.nat b h' T.i A1 u1 (d.queue++[d.ab.length])) (o:Ow aF.ptr b h' T.ps A u (((List.range d.ab.length).map λi=>x.pl (.s i))++[As]))
 (qs:ak h' As (.row (uL lv s) T.s false)) (hl:Sl aF.bind (bm E h) lv s.l)
 (q:ak h' (x.pl .w) (.row (Db { x with vl:=aw (aw x.vl .qa u1) .sa u } bN vf { d with steps:=d.steps+1 }) T.w false)) :
 ∃ E' x',Inv T b E' x' bN vf (kT d s) h'/\dK d.ab.length E E' x x' h h':=by
 obtain ⟨n,hn⟩:∃ n,n=d.ab.length:=⟨_,rfl⟩
 have hwl:=v.lt (r:=.w) trivial
 have p1:∀ i,i≠n->aw (aw (aw x.pl .qa A1) .sa A) (.s n) As (.s i)=x.pl (.s i):=λi hi=>by rw [fh (by simpa using hi),fh (by simp),fh (by simp)]
 have p2:aw (aw (aw x.pl .qa A1) .sa A) (.s n) As (.s n)=As:=kR _ _ _
 have p3:aw (aw (aw x.pl .qa A1) .sa A) (.s n) As .sa=A:=by rw [fh (by simp),kR]
 have p4:aw (aw (aw x.pl .qa A1) .sa A) (.s n) As .qa=A1:=by rw [fh (by simp),fh (by simp),kR]
 have v4:aw (aw (aw x.vl .qa u1) .sa u) (.s n) lv .qa=u1:=by rw [fh (by simp),fh (by simp),kR]
 have v1:∀ i,i≠n->aw (aw (aw x.vl .qa u1) .sa u) (.s n) lv (.s i)=x.vl (.s i):=λi hi=>by rw [fh (by simpa using hi),fh (by simp),fh (by simp)]
 have v2:aw (aw (aw x.vl .qa u1) .sa u) (.s n) lv (.s n)=lv:=kR _ _ _
 have v3:aw (aw (aw x.vl .qa u1) .sa u) (.s n) lv .sa=u:=by rw [fh (by simp),kR]
 have gl:∀ {i t},i≠n->(d.ab++[s])[i]? = some t->d.ab[i]? = some t:=λ{i t} hi ht=>by
  have:=au ht
  rw [dx,j9] at this
  rwa [kY (by omega)] at ht
 have gn:∀ {t},(d.ab++[s])[n]? = some t->t=s:=λ{t} ht=>by
  rw [hn,n9 (by omega),DB] at ht
  simpa using ht.symm
 have rg:(List.range (d.ab++[s]).length).map (λi=>aw (aw (aw x.pl .qa A1) .sa A) (.s n) As (.s i))=((List.range d.ab.length).map λi=>x.pl (.s i))++[As]:=by
  rw [dx,j9,List.range_succ,rM,pR,List.map_nil,<- hn,p2]
  congr 1
  exact Dh λi hi=>p1 i (by have:=pQ.1 hi;omega)
 obtain ⟨i1,i2⟩:=v.xO (x':={ x with pl:=aw (aw (aw x.pl .qa A1) .sa A) (.s n) As,vl:=aw (aw (aw x.vl .qa u1) .sa u) (.s n) lv }) (d':=kT d s) [.w,.qa,.sa,.s n] hb f
  (λB hB=>by
   rcases hD B hB with rfl|⟨rfl,e⟩|⟨rfl,e⟩|e
   .exact .inl ⟨.w,by simp,trivial,rfl⟩
   .exact .inl ⟨.qa,by simp,e,rfl⟩
   .exact .inl ⟨.sa,by simp,e,rfl⟩
   .exact .inr e)
  (λr hr=>by
   cases r <;> first|exact ⟨rfl,id,id⟩|(exfalso;apply hr;simp;done)|skip
   rename_i i
   have hi:i≠n:=by rintro rfl;simp at hr
   refine ⟨p1 i hi,λhh=>?_,λg t ht=>?_⟩
   .have hh:i < (d.ab++[s]).length:=hh
    rw [dx,j9] at hh
    show i < d.ab.length
    omega
   .show ak h' (aw (aw (aw x.pl .qa A1) .sa A) (.s n) As (.s i)) (.row (uL (aw (aw (aw x.vl .qa u1) .sa u) (.s n) lv (.s i)) t) T.s false)
    rw [p1 i hi,v1 i hi]
    exact g t (gl hi ht))
  (λr hr=>by
   simp only [dg,gS,or_false] at hr
   rcases hr with rfl|rfl|rfl|rfl
   .exact q
   .show cS aF.nat b h' T.i (aw (aw (aw x.pl .qa A1) .sa A) (.s n) As .qa) (aw (aw (aw x.vl .qa u1) .sa u) (.s n) lv .qa) (d.queue++[d.ab.length])
    rw [p4,v4]
    exact o1.Cv (by simp)
   .show cS aF.ptr b h' T.ps (aw (aw (aw x.pl .qa A1) .sa A) (.s n) As .sa) (aw (aw (aw x.vl .qa u1) .sa u) (.s n) lv .sa) ((List.range (d.ab++[s]).length).map λi=>aw (aw (aw x.pl .qa A1) .sa A) (.s n) As (.s i))
    rw [p3,v3,rg]
    exact o.Cv (by simp)
   .intro t ht
    show ak h' (aw (aw (aw x.pl .qa A1) .sa A) (.s n) As (.s n)) (.row (uL (aw (aw (aw x.vl .qa u1) .sa u) (.s n) lv (.s n)) t) T.s false)
    rw [p2,v2,gn ht]
    exact qs)
  (λr hr=>by
   simp only [dg,gS,or_false] at hr
   rcases hr with rfl|rfl|rfl|rfl
   .trivial
   .show d.queue++[_]≠[]
    simp
   .show d.ab++[s]≠[]
    simp
   .show n < (d.ab++[s]).length
    rw [dx,j9];omega)
  (λr hr=>by
   simp only [dg,gS,or_false] at hr
   rcases hr with rfl|rfl|rfl|rfl
   .exact .inl ⟨trivial,rfl⟩
   .show (d.queue≠[]/\aw (aw (aw x.pl .qa A1) .sa A) (.s n) As .qa=x.pl .qa)\/h.size<=aw (aw (aw x.pl .qa A1) .sa A) (.s n) As .qa
    rw [p4]
    exact lS.imp (λe=>⟨e.2,e.1⟩) id
   .show (d.ab≠[]/\aw (aw (aw x.pl .qa A1) .sa A) (.s n) As .sa=x.pl .sa)\/h.size<=aw (aw (aw x.pl .qa A1) .sa A) (.s n) As .sa
    rw [p3]
    exact hA.imp (λe=>⟨e.2,e.1⟩) id
   .exact .inr (by show h.size<=aw (aw (aw x.pl .qa A1) .sa A) (.s n) As (.s n);rw [p2];exact oV))
  (λr hr r' cv e1 e2=>by
   simp only [dg,gS,or_false] at hr cv
   have hw:aw (aw (aw x.pl .qa A1) .sa A) (.s n) As .w=x.pl .w:=rfl
   change h.size<=aw (aw (aw x.pl .qa A1) .sa A) (.s n) As r at e1
   change aw (aw (aw x.pl .qa A1) .sa A) (.s n) As r=aw (aw (aw x.pl .qa A1) .sa A) (.s n) As r' at e2
   rcases hr with rfl|rfl|rfl|rfl <;> rcases cv with rfl|rfl|rfl|rfl <;> first|rfl|(exfalso;simp only [hw,p2,p3,p4] at e1 e2;omega))
  (λi t ht=>by
   show Sl aF.bind (bm E h) (aw (aw (aw x.vl .qa u1) .sa u) (.s n) lv (.s i)) t.l
   by_cases hi:i=n
   .subst hi
    rw [v2,gn ht]
    exact hl
   .rw [v1 i hi]
    exact v.fz i t (gl hi ht))
  v.fb
 exact ⟨_,_,i1,rfl,rfl,λi hi=>p1 i (by omega),λi hi=>v1 i (by omega),i2⟩
end
theorem znE {D:List Nat} {h:Heap} {B:Nat} {cs:List ai} {u:TypeId} {ro:Bool} (q:ak (bm D h) B (.row cs u ro)):B ∉ D/\ak h B (.row cs u ro):=by
 have hB:B < h.size:=by have:=q.lt;rwa [uG] at this
 have hn:B ∉ D:=λhh=>by
  have:=q.get
  rw [TD hh hB] at this
  cases this
 exact ⟨hn,hB,by rw [<- CO hn];exact q.get⟩
theorem dK.box {n:Nat} {E E':List Nat} {x x':cp} {h h':Heap} {A:Nat} {cs:List ai} {u:TypeId} {ro:Bool} (s:dK n E E' x x' h h') (q:ak h A (.row cs u ro)) (hA:A ∉ E):ak h' A (.row cs u ro)/\A ∉ E':=by
 have q1:ak (bm E h) A (.row cs u ro):=⟨by rw [uG];exact q.lt,by rw [CO hA];exact q.get⟩
 have q2:ak (bm E' h') A (.row cs u ro):=⟨dU q1.lt s.inc.size,(s.inc.get A q1.lt (by rw [q1.get];nofun)).trans q1.get⟩
 exact ⟨(znE q2).2,(znE q2).1⟩
theorem dK.size {n:Nat} {E E':List Nat} {x x':cp} {h h':Heap} (s:dK n E E' x x' h h'):h.size<=h'.size:=by
 have:=s.inc.size
 rwa [uG,uG] at this
theorem JF (d:bg) (i:Nat) (a:ae):(bq d i a).1.steps=d.steps/\(bq d i a).1.queue=d.queue/\(bq d i a).1.ab=d.ab/\(bq d i a).1.aB=d.aB/\(bq d i a).1.known=d.known/\(bq d i a).1.aE=d.aE/\(bq d i a).1.calls.length=d.calls.length:=by
 unfold bq
 split
 .split
  .exact ⟨rfl,rfl,rfl,rfl,rfl,rfl,rfl⟩
  .exact ⟨rfl,rfl,rfl,rfl,rfl,rfl,by rw [ij]⟩
 .exact ⟨rfl,rfl,rfl,rfl,rfl,rfl,rfl⟩
theorem zmM {d:bg} {i:Nat} {c:ba} (h:d.calls[i]? = some c) (a:ae):∃ c1,(bq d i a).1.calls[i]? = some c1/\c1.waiters=c.waiters/\c1.atom=c.atom:=by
 unfold bq
 rw [h]
 dsimp only
 split
 .exact ⟨c,h,rfl,rfl⟩
 .exact ⟨_,qF (au h),rfl,rfl⟩
end Go.Am
