/- The solver's steps: a state begins, an answer comes. No condition. -/
import Derived.Test.YtnkmeidmdaidhaaGreatDoorG33
set_option linter.unusedSimpArgs false
set_option linter.unusedVariables false
namespace Go.Am
def jV (d:ba) (s:dy):ba:={ d with steps:=d.steps+1,queue:=d.queue++[d.ab.length],ab:=d.ab++[s] }
open Classical in
noncomputable def mc (d:ba) (r:bc):ba:=if r.atom∈d.known then d else { d with known:=r.atom::d.known,aF:=d.aF++[r] }
def r6 (d:ba) (i:Nat):ba:={ d with queue:=d.queue++((d.calls[i]?).map aY.waiters).getD [] }
noncomputable def gA (d:ba) (i:Nat) (r:bc):ba :=
 if (bn d i r.atom).2 then r6 (mc { (bn d i r.atom).1 with steps:=d.steps+1 } r) i else (bn d i r.atom).1
section
variable {T:yf} {b h h':Heap} {x x':cO} {cd vf:ai} {d d':ba} {D E E':List Nat}
theorem Inv.Dw (v:Inv T b E x cd vf d h) (hb:b.size<=h.size) {s:dy} {A1 A As:Nat} {u1 u lv:ai} (f:aS D h h') (hD:∀ B∈D,B=x.pl .w\/(B=x.pl .qa/\d.queue≠[])\/(B=x.pl .sa/\d.ab≠[])\/h.size<=B)
 (nR:(A1=x.pl .qa/\d.queue≠[])\/h.size<=A1) (hA:(A=x.pl .sa/\d.ab≠[])\/h.size<=A) (qf:h.size<=As) (aM:As≠A) (akV:As≠A1) (tW:A1≠A) (o1:Ow aC.nat b h' T.i A1 u1 (d.queue++[d.ab.length])) (o:Ow aC.ptr b h' T.ps A u (((List.range d.ab.length).map λi=>x.pl (.s i))++[As]))
 (qs:Holds h' As (.row (tc lv s) T.s false)) (hl:Sl aC.bind (bq E h) lv s.l)
 (q:Holds h' (x.pl .w) (.row (Dd { x with vl:=av (av x.vl .qa u1) .sa u } cd vf { d with steps:=d.steps+1 }) T.w false)) :
 ∃ E' x',Inv T b E' x' cd vf (jV d s) h'/\eB d.ab.length E E' x x' h h':=by
 obtain ⟨n,hn⟩:∃ n,n=d.ab.length:=⟨_,rfl⟩
 have hwl:=v.lt (r:=.w) trivial
 have p1:∀ i,i≠n->av (av (av x.pl .qa A1) .sa A) (.s n) As (.s i)=x.pl (.s i):=λi hi=>by rw [fF (by simpa using hi),fF (by simp),fF (by simp)]
 have p2:av (av (av x.pl .qa A1) .sa A) (.s n) As (.s n)=As:=kZ _ _ _
 have p3:av (av (av x.pl .qa A1) .sa A) (.s n) As .sa=A:=by rw [fF (by simp),kZ]
 have p4:av (av (av x.pl .qa A1) .sa A) (.s n) As .qa=A1:=by rw [fF (by simp),fF (by simp),kZ]
 have v4:av (av (av x.vl .qa u1) .sa u) (.s n) lv .qa=u1:=by rw [fF (by simp),fF (by simp),kZ]
 have v1:∀ i,i≠n->av (av (av x.vl .qa u1) .sa u) (.s n) lv (.s i)=x.vl (.s i):=λi hi=>by rw [fF (by simpa using hi),fF (by simp),fF (by simp)]
 have v2:av (av (av x.vl .qa u1) .sa u) (.s n) lv (.s n)=lv:=kZ _ _ _
 have v3:av (av (av x.vl .qa u1) .sa u) (.s n) lv .sa=u:=by rw [fF (by simp),kZ]
 have gl:∀ {i t},i≠n->(d.ab++[s])[i]? = some t->d.ab[i]? = some t:=λ{i t} hi ht=>by
  have:=aq ht
  rw [cE,gF] at this
  rwa [jz (by omega)] at ht
 have gn:∀ {t},(d.ab++[s])[n]? = some t->t=s:=λ{t} ht=>by
  rw [hn,lp (by omega),tp] at ht
  simpa using ht.symm
 have rg:(List.range (d.ab++[s]).length).map (λi=>av (av (av x.pl .qa A1) .sa A) (.s n) As (.s i))=((List.range d.ab.length).map λi=>x.pl (.s i))++[As]:=by
  rw [cE,gF,List.range_succ,sf,qO,List.map_nil,<- hn,p2]
  congr 1
  exact Dg λi hi=>p1 i (by have:=rj.1 hi;omega)
 obtain ⟨i1,i2⟩:=v.yF (x':={ x with pl:=av (av (av x.pl .qa A1) .sa A) (.s n) As,vl:=av (av (av x.vl .qa u1) .sa u) (.s n) lv }) (d':=jV d s) [.w,.qa,.sa,.s n] hb f
  (λB hB=>by
   rcases hD B hB with rfl|⟨rfl,e⟩|⟨rfl,e⟩|e
   .exact .inl ⟨.w,by simp,trivial,rfl⟩
   .exact .inl ⟨.qa,by simp,e,rfl⟩
   .exact .inl ⟨.sa,by simp,e,rfl⟩
   .exact .inr e)
  (λr hr=>by
   cases r <;> first|exact ⟨rfl,id,id⟩|(exfalso;apply hr;simp;done)|skip
   rename_i i
   have hi:i≠n:=by rintro rfl;simp at hr
   refine ⟨p1 i hi,λhh=>?_,λg t ht=>?_⟩
   .have hh:i < (d.ab++[s]).length:=hh
    rw [cE,gF] at hh
    show i < d.ab.length
    omega
   .show Holds h' (av (av (av x.pl .qa A1) .sa A) (.s n) As (.s i)) (.row (tc (av (av (av x.vl .qa u1) .sa u) (.s n) lv (.s i)) t) T.s false)
    rw [p1 i hi,v1 i hi]
    exact g t (gl hi ht))
  (λr hr=>by
   simp only [df,il,or_false] at hr
   rcases hr with rfl|rfl|rfl|rfl
   .exact q
   .show dx aC.nat b h' T.i (av (av (av x.pl .qa A1) .sa A) (.s n) As .qa) (av (av (av x.vl .qa u1) .sa u) (.s n) lv .qa) (d.queue++[d.ab.length])
    rw [p4,v4]
    exact o1.CC (by simp)
   .show dx aC.ptr b h' T.ps (av (av (av x.pl .qa A1) .sa A) (.s n) As .sa) (av (av (av x.vl .qa u1) .sa u) (.s n) lv .sa) ((List.range (d.ab++[s]).length).map λi=>av (av (av x.pl .qa A1) .sa A) (.s n) As (.s i))
    rw [p3,v3,rg]
    exact o.CC (by simp)
   .intro t ht
    show Holds h' (av (av (av x.pl .qa A1) .sa A) (.s n) As (.s n)) (.row (tc (av (av (av x.vl .qa u1) .sa u) (.s n) lv (.s n)) t) T.s false)
    rw [p2,v2,gn ht]
    exact qs)
  (λr hr=>by
   simp only [df,il,or_false] at hr
   rcases hr with rfl|rfl|rfl|rfl
   .trivial
   .show d.queue++[_]≠[]
    simp
   .show d.ab++[s]≠[]
    simp
   .show n < (d.ab++[s]).length
    rw [cE,gF];omega)
  (λr hr=>by
   simp only [df,il,or_false] at hr
   rcases hr with rfl|rfl|rfl|rfl
   .exact .inl ⟨trivial,rfl⟩
   .show (d.queue≠[]/\av (av (av x.pl .qa A1) .sa A) (.s n) As .qa=x.pl .qa)\/h.size<=av (av (av x.pl .qa A1) .sa A) (.s n) As .qa
    rw [p4]
    exact nR.imp (λe=>⟨e.2,e.1⟩) id
   .show (d.ab≠[]/\av (av (av x.pl .qa A1) .sa A) (.s n) As .sa=x.pl .sa)\/h.size<=av (av (av x.pl .qa A1) .sa A) (.s n) As .sa
    rw [p3]
    exact hA.imp (λe=>⟨e.2,e.1⟩) id
   .exact .inr (by show h.size<=av (av (av x.pl .qa A1) .sa A) (.s n) As (.s n);rw [p2];exact qf))
  (λr hr r' cw e1 e2=>by
   simp only [df,il,or_false] at hr cw
   have hw:av (av (av x.pl .qa A1) .sa A) (.s n) As .w=x.pl .w:=rfl
   change h.size<=av (av (av x.pl .qa A1) .sa A) (.s n) As r at e1
   change av (av (av x.pl .qa A1) .sa A) (.s n) As r=av (av (av x.pl .qa A1) .sa A) (.s n) As r' at e2
   rcases hr with rfl|rfl|rfl|rfl <;> rcases cw with rfl|rfl|rfl|rfl <;> first|rfl|(exfalso;simp only [hw,p2,p3,p4] at e1 e2;omega))
  (λi t ht=>by
   show Sl aC.bind (bq E h) (av (av (av x.vl .qa u1) .sa u) (.s n) lv (.s i)) t.l
   by_cases hi:i=n
   .subst hi
    rw [v2,gn ht]
    exact hl
   .rw [v1 i hi]
    exact v.fz i t (gl hi ht))
  v.fb
 exact ⟨_,_,i1,rfl,rfl,λi hi=>p1 i (by omega),λi hi=>v1 i (by omega),i2⟩
end
theorem zoT {D:List Nat} {h:Heap} {B:Nat} {cs:List ai} {u:TypeId} {ro:Bool} (q:Holds (bq D h) B (.row cs u ro)):B ∉ D/\Holds h B (.row cs u ro):=by
 have hB:B < h.size:=by have:=q.lt;rwa [xJ] at this
 have hn:B ∉ D:=λhh=>by
  have:=q.get
  rw [XS hh hB] at this
  cases this
 exact ⟨hn,hB,by rw [<- FL hn];exact q.get⟩
theorem eB.box {n:Nat} {E E':List Nat} {x x':cO} {h h':Heap} {A:Nat} {cs:List ai} {u:TypeId} {ro:Bool} (s:eB n E E' x x' h h') (q:Holds h A (.row cs u ro)) (hA:A ∉ E):Holds h' A (.row cs u ro)/\A ∉ E':=by
 have q1:Holds (bq E h) A (.row cs u ro):=⟨by rw [xJ];exact q.lt,by rw [FL hA];exact q.get⟩
 have q2:Holds (bq E' h') A (.row cs u ro):=⟨dr q1.lt s.inc.size,(s.inc.get A q1.lt (by rw [q1.get];nofun)).trans q1.get⟩
 exact ⟨(zoT q2).2,(zoT q2).1⟩
theorem eB.size {n:Nat} {E E':List Nat} {x x':cO} {h h':Heap} (s:eB n E E' x x' h h'):h.size<=h'.size:=by
 have:=s.inc.size
 rwa [xJ,xJ] at this
theorem Hw (d:ba) (i:Nat) (a:ae):(bn d i a).1.steps=d.steps/\(bn d i a).1.queue=d.queue/\(bn d i a).1.ab=d.ab/\(bn d i a).1.aF=d.aF/\(bn d i a).1.known=d.known/\(bn d i a).1.aE=d.aE/\(bn d i a).1.calls.length=d.calls.length:=by
 unfold bn
 split
 .split
  .exact ⟨rfl,rfl,rfl,rfl,rfl,rfl,rfl⟩
  .exact ⟨rfl,rfl,rfl,rfl,rfl,rfl,by rw [ja]⟩
 .exact ⟨rfl,rfl,rfl,rfl,rfl,rfl,rfl⟩
theorem znY {d:ba} {i:Nat} {c:aY} (h:d.calls[i]? = some c) (a:ae):∃ c1,(bn d i a).1.calls[i]? = some c1/\c1.waiters=c.waiters/\c1.atom=c.atom:=by
 unfold bn
 rw [h]
 dsimp only
 split
 .exact ⟨c,h,rfl,rfl⟩
 .exact ⟨_,mV (aq h),rfl,rfl⟩
end Go.Am
