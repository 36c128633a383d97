/- Facts that may be, as plain data. No condition. -/
import Derived.Test.YtmamldleclamjaaGreatDoorGJoin
set_option linter.unusedSimpArgs false
set_option linter.unusedVariables false
noncomputable section
namespace Go.Am
variable {t:au}
theorem zl7 {a:aj} (h:j9 a=0):∀ i,i < a.bQ->dt (a.arg i):=by
 intro i hi
 unfold j9 at h
 split at h
 .split at h
  .cases h
  .split at h
   .cases h
   .rename_i hb
    have nF:a.args.any HI=false:=by simpa using hb
    have hm:=Aq.1 nF (a.arg i) (fW (args_at hi))
    unfold HI at hm
    simpa using hm
 .cases h
theorem Dy {d:aq} {s:au} {a:aj} (h:fG d s a=0):bh d.ab s=true/\iC d a=0/\Jg a=true/\a.says=s:=by
 unfold fG at h
 have h:=dr.1 h
 have h1:=(PS (by decide)).1 (h (bj (!bh d.ab s) 6) (by simp))
 have h2:=h (iC d a) (by simp)
 have h3:=(PS (by decide)).1 (h (bj (!Jg a) 10) (by simp))
 have h4:=(PS (by decide)).1 (h (bj (!decide (a.says=s)) 11) (by simp))
 refine ⟨by simpa using h1,h2,by simpa using h3,by simpa using h4⟩
theorem Tb {d:aq} {a:aj} (h:iC d a=0):j9 a=0:=by
 unfold iC at h
 exact dr.1 h (j9 a) (by simp)
theorem zjC {d:aq} {s:au} {a:aj} (h:fG d s a=0):∀ x,(∃ i:Nat,i < a.bQ/\(a.arg i).v=false/\(a.arg i).s=x)->x.size≠0/\x.size<=255:=by
 rintro x ⟨i,hi,hv,rfl⟩
 have ht:=zl7 (Tb (Dy h).2.1) i hi
 unfold dt at ht
 rw [hv] at ht
 have hl:=ht.1
 exact ⟨by have:=hl.pos;omega,hl.len⟩
theorem zv3 {a b:aj} (h:aU a b=0):cM a=cM b:=I0 h
theorem zoP (x:aj) (r:aN) (a:aj):bL (x::r) a=((cM x == cM a) || bL r a):=rfl
theorem I8 {a:aj}:∀ {l:aN},bL l a=false->(cz a l).Perm (a::l)
 | [],_=>List.Perm.refl _
 |x::r,h=>by
  rw [zoP,Bool.or_eq_false_iff] at h
  unfold cz
  split
  .exact List.Perm.refl _
  .split
   .rename_i h0
    have:=zv3 h0
    rw [this] at h
    simp at h
   .exact ((I8 h.2).cons x).trans (List.Perm.swap a x r)
theorem zsb {a:aj}:∀ {s:aN},dG s->bL s a=true->∃ x,x∈s/\cM x=cM a/\s.Perm (x::eR a s)
 | [],_,h=>by cases h
 |x::r,hs,h=>by
  have g:=nQ.1 hs
  by_cases hx:cM x=cM a
  .have hr:bL r a=false:=by
    cases hr:bL r a
    .rfl
    .obtain ⟨y,hy,e⟩:=dh.1 hr
     have aW:=g.1 y hy
     have jw:aU x y=aU x x:=by unfold aU;rw [e,hx]
     rw [jw,Dr] at aW
     omega
   have hd:eR a (x::r)=r:=by
    have h1:=zAk hr
    unfold eR at h1 ⊢
    rw [Tk (by simp [hx]),h1]
   exact ⟨x,fZ,hx,by rw [hd]⟩
  .rw [zoP] at h
   have hr:bL r a=true:=by
    rcases Bool.or_eq_true_iff.1 h with h|h
    .exact absurd (by simpa using h) hx
    .exact h
   obtain ⟨y,hy,e,hp⟩:=zsb g.2 hr
   have hd:eR a (x::r)=x::eR a r:=by
    unfold eR
    rw [Tl (by simpa using hx)]
   exact ⟨y,eQ _ hy,e,by rw [hd];exact (hp.cons x).trans (List.Perm.swap y x _)⟩
open Classical in
def mu (a:aj) (t:au):Bool:=decide (∃ i:Nat,i < a.bQ/\(a.arg i).v=false/\(a.arg i).s=t)
theorem jH {a:aj}:mu a t=true↔∃ i:Nat,i < a.bQ/\(a.arg i).v=false/\(a.arg i).s=t:=by unfold mu;simp
def jA (l:aN) (t:au):Nat:=l.countP (λa=>mu a t)
theorem zCy {a:aj} {l:aN} (h:bL l a=false) (t:au):jA (cz a l) t=jA l t+(if mu a t then 1 else 0):=by
 unfold jA
 rw [(I8 h).countP_eq,List.countP_cons]
theorem zCw {a:aj} {s:aN} (hs:dG s) (h:bL s a=true) (hi:∀ x∈s,cM x=cM a->x=a) (t:au):jA s t=jA (eR a s) t+(if mu a t then 1 else 0):=by
 obtain ⟨x,hx,e,p⟩:=zsb hs h
 rw [hi x hx e] at p
 unfold jA
 rw [p.countP_eq,List.countP_cons]
theorem zCx {l:aN} {a:aj} (h:a∈l) (ht:mu a t=true):0 < jA l t:=List.countP_pos_iff.2 ⟨a,h,ht⟩
def kD (names:List au) (facts:au->aN) (t:au):Nat:=(names.map λw=>jA (facts w) t).sum
theorem zrI {facts:au->aN} {s:au} {l:aN} (t:au):∀ {names:List au},names.Nodup->s∈names->kD names (λx=>if x=s then l else facts x) t+jA (facts s) t=kD names facts t+jA l t
 | [],_,h=>by cases h
 |w::r,hn,h=>by
  rw [wg] at hn
  unfold kD
  rw [lA,lA,Au,Au]
  dsimp only
  by_cases hw:w=s
  .subst hw
   have hr:(r.map λx=>jA (if x=w then l else facts x) t)=r.map λx=>jA (facts x) t:=JB λx hx=>by rw [aA (λe=>by rw [e] at hx;exact hn.1 hx)]
   rw [aB rfl,hr]
   omega
  .have ih:=zrI (facts:=facts) (l:=l) t hn.2 ((cJ.1 h).resolve_left (λe=>hw e.symm))
   unfold kD at ih
   dsimp only at ih
   rw [aA hw]
   omega
theorem zyc {facts:au->aN} {s t:au}:∀ {names:List au},s∈names->0 < jA (facts s) t->0 < kD names facts t
 |w::r,h,hp=>by
  unfold kD
  rw [lA,Au]
  rcases cJ.1 h with e|h
  .subst e;omega
  .have:=zyc h hp
   unfold kD at this
   omega
theorem zkQ {a:aj} (h:j9 a=0):gR a:=by
 have ht:=zl7 h
 unfold j9 at h
 split at h
 .rename_i hp
  rw [eo,bZ,bZ] at hp
  split at h
  .cases h
  .rename_i hn
   split at h
   .cases h
   .split at h
    .cases h
    .rename_i hr
     have j8:=Aq.1 (by simpa using hr:((a.all.drop a.bQ).any λt => !decide (t=cf))=false)
     refine ⟨hp.1,hp.2,by omega,by omega,λi hi=>ht i (fJ.2 ⟨by omega,hi⟩),λi hi h4=>?_⟩
     have hc:a.bQ<=i:=by
      refine Nat.le_of_not_lt λhh=>?_
      have:=(fJ.1 hh).2
      omega
     have hm:a.arg i∈a.all.drop a.bQ:=by
      refine fW (i:=i - a.bQ) ?_
      rw [kL,show a.bQ+(i - a.bQ)=i by omega]
      match i,h4 with
      |0,_=>rfl
      |1,_=>rfl
      |2,_=>rfl
      |3,_=>rfl
     simpa using j8 _ hm
 .cases h
theorem TV {d:aq} {s:au} {a:aj} (h:fG d s a=0):eE a:=⟨zkQ (Tb (Dy h).2.1),(Dy h).2.2.1⟩
theorem zsl {a b:aj} (ha:eE a) (hb:eE b) (h:cM a=cM b):a=b:=zkd ha.plain hb.plain h
structure de (d:aq) (k:Nat) (facts:au->aN) (az us:au->Nat):Prop where
 gK:∀ w,dG (facts w)
 ok:∀ w,∀ a∈facts w,fG d w a=0
 len:∀ w,(facts w).length<=k
 BN:∀ w,az w<=k
 use:∀ t,us t=kD d.ab facts t
theorem de.empty (d:aq):de d 0 (λ_=>[]) (λ_=>0) (λ_=>0):=by
 refine ⟨λ_=>List.Pairwise.nil,(λ_ _ h=>nomatch h),λ_=>bo 0,λ_=>bo 0,λt=>?_⟩
 unfold kD
 induction d.ab with
 |nil=>rfl
 |cons w r ih=>rw [lA,Au,<- ih];rfl
section
variable {d:aq} {k:Nat} {facts:au->aN} {az us gq:au->Nat} {s:au} {a:aj}
theorem de.more (i:de d k facts az us) {m:Nat} (h:k<=m):de d m facts az us:=⟨i.gK,i.ok,λw=>hY (i.len w) h,λw=>hY (i.BN w) h,i.use⟩
theorem de.fact (i:de d k facts az us) {x:aj} (h:x∈facts s):eE x:=TV (i.ok s x h)
theorem de.has (i:de d k facts az us) (h:fG d s a=0):bL (facts s) a=true↔a∈facts s:=by
 rw [dh]
 exact ⟨λ⟨x,hx,e⟩=>by rw [<- zsl (i.fact hx) (TV h) e];exact hx,λhm=>⟨a,hm,rfl⟩⟩
theorem de.pos (i:de d k facts az us) (h:fG d s a=0) (hh:bL (facts s) a=true) (ht:mu a t=true):0 < us t:=by
 rw [i.use]
 exact zyc (cC.1 (Dy h).1) (zCx ((i.has h).1 hh) ht)
theorem de.del (i:de d k facts az us) (hn:d.ab.Nodup) (h:fG d s a=0) (hh:bL (facts s) a=true) (hu:∀ t,gq t=us t - (if mu a t then 1 else 0)):de d (k+1) (λx=>if x=s then eR a (facts s) else facts x) (λx=>if x=s then az s+1 else az x) gq:=by
 refine ⟨λw=>?_,λw x hx=>?_,λw=>?_,λw=>?_,λt=>?_⟩
 .split
  .exact (i.gK s).sublist Qs
  .exact i.gK w
 .split at hx
  .rename_i e
   rw [e]
   exact i.ok s x (Qs.subset hx)
  .exact i.ok w x hx
 .split
  .exact hY (Hv _ _) (hY (i.len s) (D3 k))
  .exact hY (i.len w) (D3 k)
 .split
  .have:=i.BN s;omega
  .have:=i.BN w;omega
 .rw [hu,i.use]
  have h1:=zrI (facts:=facts) (s:=s) (l:=eR a (facts s)) t hn (cC.1 (Dy h).1)
  have h2:=zCw (i.gK s) hh (λx hx e=>zsl (i.fact hx) (TV h) e) t
  omega
theorem de.put (i:de d k facts az us) (hn:d.ab.Nodup) (h:fG d s a=0) (hh:bL (facts s) a=false) (hu:∀ t,gq t=us t+(if mu a t then 1 else 0)):de d (k+1) (λx=>if x=s then cz a (facts s) else facts x) (λx=>if x=s then az s+1 else az x) gq:=by
 refine ⟨λw=>?_,λw x hx=>?_,λw=>?_,λw=>?_,λt=>?_⟩
 .split
  .exact P8 (i.gK s)
  .exact i.gK w
 .split at hx
  .rename_i e
   rw [e]
   rcases cJ.1 ((I8 hh).subset hx) with e2|hx
   .rw [e2];exact h
   .exact i.ok s x hx
  .exact i.ok w x hx
 .split
  .rw [(I8 hh).length_eq,dY]
   have:=i.len s
   omega
  .exact hY (i.len w) (D3 k)
 .split
  .have:=i.BN s;omega
  .have:=i.BN w;omega
 .rw [hu,i.use]
  have h1:=zrI (facts:=facts) (s:=s) (l:=cz a (facts s)) t hn (cC.1 (Dy h).1)
  have h2:=zCy hh t
  omega
theorem de.back (i:de d k facts az us) (h:fG d s a=0) (hh:bL (facts s) a=false):eR a (cz a (facts s))=facts s:=by
 refine JD ((P8 (i.gK s)).sublist Qs) (i.gK s) λx=>?_
 unfold eR
 rw [List.mem_filter,(I8 hh).mem_iff,cJ]
 constructor
 .rintro ⟨rfl|hx,e⟩
  .simp at e
  .exact hx
 .intro hx
  refine ⟨.inr hx,?_⟩
  rw [bne_iff_ne]
  intro e
  have:bL (facts s) a=true:=dh.2 ⟨x,hx,e⟩
  rw [hh] at this
  cases this
end
theorem zjm {d:aq} (h:oF d=0):d.ab.Nodup/\d.ab.length<=16:=by
 unfold oF at h
 have h:=dr.1 h (rB d.ab) (by simp)
 unfold rB at h
 split at h
 .cases h
 .rename_i hl
  refine ⟨Qa.2 λi j hi hj dp e=>?_,by omega⟩
  have h2:=kl.1 h j d.ab[j] (ie hj)
  have h3:=(PS (by decide)).1 (dr.1 h2 (bj (bh ([]++d.ab.take j) d.ab[j]) 5) (by simp))
  have h4:bh ([]++d.ab.take j) d.ab[j]=true:=cC.2 (by
   rw [pk,<- e]
   refine fW (i:=i) ?_
   rw [mc,aB dp,ie hi])
  rw [h3] at h4
  cases h4
end Go.Am
namespace Go.Am
def eN (d:aq) (q:Int) (s:au) (a:aj) (l:aN):Option (aN) :=
 if fG d s a=0 then (if bL l a=true then none else if ((cz a l).length:Int)<=q then some (cz a l) else none) else none
def fM (d:aq) (s:au) (a:aj) (l:aN):Option (aN) :=
 if fG d s a=0 then (if bL l a=true then some (eR a l) else none) else none
def jn (d:aq) (q:Int) (s:au) (a:aj) (l:aN):Int :=
 if fG d s a=0 then (if bL l a=true then 0 else if ((cz a l).length:Int)<=q then 0 else 12) else fG d s a
def qi (facts:au->aN) (s:au) (o:Option (aN)):au->aN:=λx=>if x=s then o.getD (facts s) else facts x
def oK (az:au->Nat) (s:au) (o:Option (aN)):au->Nat:=λx=>if x=s then az s+(if o.isSome=true then 1 else 0) else az x
theorem BU (facts:au->aN) (s:au):qi facts s none=facts:=by
 funext x;unfold qi;split
 .rename_i e;rw [e];rfl
 .rfl
theorem zY (az:au->Nat) (s:au):oK az s none=az:=by
 funext x;unfold oK;split
 .rename_i e;rw [e];rfl
 .rfl
theorem zs4 {facts:au->aN} {s w:au} {o:Option (aN)} (h:¬ s=w):qi facts s o w=facts w:=aA (λe=>h e.symm)
theorem znn {az:au->Nat} {s w:au} {o:Option (aN)} (h:¬ s=w):oK az s o w=az w:=aA (λe=>h e.symm)
theorem zmb (facts:au->aN) (s:au) (o:Option (aN)):qi facts s o s=o.getD (facts s):=aB rfl
theorem zmd (az:au->Nat) (s:au) (o:Option (aN)):oK az s o s=az s+(if o.isSome=true then 1 else 0):=aB rfl
theorem zqP {a:aj} (h:eE a):a.aY=true:=by
 have hv:=h.valid
 have ha:∀ i,i < 4->(a.arg i).s.size<=300:=λi hi=>by
  by_cases hn:(i:Int) < a.n
  .have ht:=hv.iW i hn
   unfold dt at ht
   split at ht
   .have:=ht.len;omega
   .have:=ht.1.len;omega
  .rw [hv.rest i (by omega) hi];decide
 have h1:=hv.says.1.1.len
 have h2:=hv.pred.1.1.len
 simp only [aj.aY,eo,jl]
 exact ⟨by omega,by omega,ha 0 (by omega),ha 1 (by omega),ha 2 (by omega),ha 3 (by omega)⟩
theorem ztQ {d:aq} {s:au} {a:aj} (h:fG d s a=0):a.aY=true:=zqP (TV h)
theorem zDD (l:aN) (t:au):jA l t<=l.length:=List.countP_le_length
theorem zAB {facts:au->aN} {k:Nat} (h:∀ w,(facts w).length<=k) (t:au):∀ names:List au,kD names facts t<=names.length*k
 | []=>by unfold kD;simp
 |w::r=>by
  have ih:=zAB h t r
  unfold kD at ih ⊢
  rw [lA,Au,dY,rF]
  have h1:=zDD (facts w) t
  have h2:=h w
  omega
section
variable {d:aq} {k m:Nat} {facts:au->aN} {az us gq:au->Nat} {s:au} {a:aj} {q:Int}
theorem de.aY (i:de d k facts az us) {x:aj} (h:x∈facts s):x.aY=true:=ztQ (i.ok s x h)
theorem de.De (i:de d k facts az us) (t:au):us t<=d.ab.length*k:=by rw [i.use];exact zAB i.len t _
theorem de.sort (i:de d k facts az us) (w:au):eW (facts w)=facts w:=SV (i.gK w)
theorem de.Zi (i:de d k facts az us) (hn:d.ab.Nodup) (h:fG d s a=0) (hh:bL (facts s) a=false) (hu:∀ t,gq t=us t+(if mu a t then 1 else 0)):de d (k+1) (qi facts s (some (cz a (facts s)))) (oK az s (some (cz a (facts s)))) gq:=i.put hn h hh hu
theorem de.UM (i:de d k facts az us) (hn:d.ab.Nodup) (h:fG d s a=0) (hh:bL (facts s) a=true) (hu:∀ t,gq t=us t - (if mu a t then 1 else 0)):de d (k+1) (qi facts s (some (eR a (facts s)))) (oK az s (some (eR a (facts s)))) gq:=i.del hn h hh hu
end
theorem zyb {facts:au->aN} {t:au}:∀ {names:List au},0 < kD names facts t↔∃ w∈names,∃ a∈facts w,mu a t=true
 | []=>by unfold kD;simp
 |w::r=>by
  have ih:=zyb (facts:=facts) (t:=t) (names:=r)
  unfold kD at ih ⊢
  rw [lA,Au]
  have h1:0 < jA (facts w) t↔∃ a∈facts w,mu a t=true:=by unfold jA;rw [List.countP_pos_iff]
  constructor
  .intro h
   by_cases hw:0 < jA (facts w) t
   .exact ⟨w,fZ,h1.1 hw⟩
   .obtain ⟨x,hx,e⟩:=ih.1 (by omega)
    exact ⟨x,eQ _ hx,e⟩
  .rintro ⟨x,hx,e⟩
   rcases cJ.1 hx with rfl|hx
   .have:=h1.2 e;omega
   .have:=ih.2 ⟨x,hx,e⟩;omega
structure dM where
 k:Int
 s:au
 a:aj
def dM.cells (x:dM):List ah:=.int .i64 x.k::.string x.s::x.a.cells
abbrev aK.act:aK dM:={ k:=13,R:=λ_ cs x=>cs=x.cells,len:=by rintro _ _ _ rfl;rfl,mono:=λ_ _ _ _ _ h=>h,iu:=by rintro _ _ _ rfl;rfl }
section
variable {T:bO} {t e s:TypeId} {kd:IntKind} {i:Int} {v p:ah} {h1:Heap} {bs:List ba} {w:Nat} {K:aI}
theorem DW {l:List dM} {x:dM} (f:Sl aK.act h1 v l) (hd:T.desc t=some (.slice e)) (hs:di T e=some 13) (h0:0<=i) (hx:l[i.toNat]? = some x) (hk:∀ p,eI h1 p x.cells->K p (h1.lay bs w)):aH (kF T t v (.int kd i)) (h1.lay bs w) K:=by
 have hi:=(dH.1 hx).1
 refine BZ f hd hs h0 (by omega) (λx' p cs nJ hr hp=>?_)
 rw [hx] at nJ
 cases nJ
 exact hk p (hr ▸ hp)
theorem QF {x:dM} (f:eI h1 p x.cells) (lH:∀ A o,jg T s (.pointer (some ⟨A,o,none⟩)) 1=some (.pointer (some ⟨A,o+1,none⟩))) (hk:∀ q,eI h1 q [.string x.s]->K q (h1.lay bs w)):aH (jg T s p 1) (h1.lay bs w) K:=xv (ds:=[.string x.s]) f lH rfl (zm _) hk
theorem zwo {x:dM} (f:eI h1 p x.cells) (lH:∀ A o,jg T s (.pointer (some ⟨A,o,none⟩)) 2=some (.pointer (some ⟨A,o+2,none⟩))) (hk:∀ q,eI h1 q x.a.cells->K q (h1.lay bs w)):aH (jg T s p 2) (h1.lay bs w) K:=xv (ds:=x.a.cells) f lH rfl (zm _) hk
theorem zFg {x:dM} (f:eI h1 p x.cells) (hg:cO T t=some true) (hs:di T t=some 13) (hk:K (.agg ⟨x.cells⟩) (h1.lay bs w)):aH (ic T t p (h1.lay bs w)) (h1.lay bs w) K:=Jx f hg hs rfl hk
end
def gX (d:aq) (q:Int) (c:dM) (l:aN):Option (aN):=if c.k.tmod 2=0 then eN d q c.s c.a l else fM d c.s c.a l
def rh (d:aq) (q:Int) (p:aN × Nat) (c:dM):aN × Nat:=((gX d q c p.1).getD p.1,p.2+(if (gX d q c p.1).isSome=true then 1 else 0))
def tu (d:aq) (q:Int) (l:List dM):aN × Nat:=l.foldl (rh d q) ([],0)
def ou (l:List dM) (w:au):List dM:=l.filter λc=>decide (c.s=w)
theorem zzf (l:List dM) (c:dM) (w:au):ou (l++[c]) w=if c.s=w then ou l w++[c] else ou l w:=by
 unfold ou
 rw [Ao]
 by_cases h:c.s=w
 .rw [aB h,Tl (by simpa using h),List.filter_nil]
 .rw [aA h,Tk (by simpa using h),List.filter_nil,bG]
def nT (d:aq) (q:Int) (l:List dM) (facts:au->aN) (az:au->Nat):Prop:=∀ w,facts w=(tu d q (ou l w)).1/\az w=(tu d q (ou l w)).2
theorem nT.nil (d:aq) (q:Int):nT d q [] (λ_=>[]) (λ_=>0):=λ_=>⟨rfl,rfl⟩
theorem nT.snoc {d:aq} {q:Int} {l:List dM} {facts:au->aN} {az:au->Nat} (r:nT d q l facts az) (c:dM):nT d q (l++[c]) (qi facts c.s (gX d q c (facts c.s))) (oK az c.s (gX d q c (facts c.s))):=by
 intro w
 rw [zzf]
 by_cases h:c.s=w
 .subst h
  rw [aB rfl,zmb,zmd]
  have h1:=r c.s
  have e:tu d q (ou l c.s++[c])=rh d q (tu d q (ou l c.s)) c:=by
   unfold tu
   rw [List.foldl_append]
   rfl
  rw [e]
  have e2:tu d q (ou l c.s)=(facts c.s,az c.s):=Prod.ext h1.1.symm h1.2.symm
  rw [e2]
  exact ⟨rfl,rfl⟩
 .rw [aA h,zs4 h,znn h]
  exact r w
theorem zrl (a:aj):∀ l:aN,(cz a l).length<=l.length+1
 | []=>bo _
 |x::r=>by
  unfold cz
  split
  .simp
  .split
   .simp
   .have:=zrl a r
    simp only [dY]
    omega
theorem zy8 (d:aq) (q:Int) (c:dM) (l:aN):((gX d q c l).getD l).length<=l.length+1:=by
 unfold gX eN fM
 have h1:=zrl c.a l
 have h2:(eR c.a l).length<=l.length:=Hv _ _
 repeat' split
 all_goals simp only [JL,Option.getD_none]
 all_goals omega
theorem zCa (d:aq) (q:Int) (l:List dM) (p:aN × Nat):(l.foldl (rh d q) p).1.length<=p.1.length+l.length/\(l.foldl (rh d q) p).2<=p.2+l.length:=by
 induction l generalizing p with
 |nil=>exact ⟨bo _,bo _⟩
 |cons c r ih =>
  rw [uG]
  have h:=ih (rh d q p c)
  have h1:=zy8 d q c p.1
  have h2:(rh d q p c).2<=p.2+1:=by unfold rh;dsimp only;split <;> omega
  have h3:(rh d q p c).1.length<=p.1.length+1:=h1
  rw [dY]
  omega
theorem nT.le {d:aq} {q:Int} {l:List dM} {facts:au->aN} {az:au->Nat} {m:Nat} (r:nT d q l facts az) (h:∀ w,(ou l w).length<=m) (w:au):(facts w).length<=m/\az w<=m:=by
 have h1:=zCa d q (ou l w) ([],0)
 have h2:=r w
 have h3:=h w
 unfold tu at h2
 rw [h2.1,h2.2]
 simp only [dK,j3] at h1
 omega
def Q3 (l:List dM) (P:List au):List dM:=P.flatMap λw=>ou l w
theorem zBT (l:List dM) (v w:au):ou (ou l v) w=if v=w then ou l v else []:=by
 unfold ou
 rw [List.filter_filter]
 by_cases h:v=w
 .rw [aB h,h]
  exact List.filter_congr λc _=>by simp
 .rw [aA h]
  refine Jj.2 λc _=>?_
  simp only [eo,jl,not_and]
  intro e1 e2
  exact h (e2.symm.trans e1)
theorem zBR (l m:List dM) (w:au):ou (l++m) w=ou l w++ou m w:=Ao _ _
open Classical in
theorem zAv (l:List dM) (w:au):∀ {P:List au},P.Nodup->ou (Q3 l P) w=if w∈P then ou l w else []
 | [],_=>by rw [aA (by simp)];rfl
 |v::r,h=>by
  rw [wg] at h
  unfold Q3
  rw [HD,zBR,zBT]
  have ih:=zAv l w h.2
  unfold Q3 at ih
  rw [ih]
  by_cases e:v=w
  .subst e
   rw [aB rfl,aA h.1,aB fZ,bG]
  .rw [aA e,pk]
   by_cases hm:w∈r
   .rw [aB hm,aB (eQ _ hm)]
   .rw [aA hm,aA (λhh=>hm ((cJ.1 hh).resolve_left (λe2=>e e2.symm)))]
open Classical in
theorem nT.same {d:aq} {q:Int} {l:List dM} {P:List au} {f g:au->aN} {u v:au->Nat} (r:nT d q l f u) (r2:nT d q (Q3 l P) g v) (hn:P.Nodup) {w:au} (hw:w∈P):f w=g w/\u w=v w:=by
 have h1:=r w
 have h2:=r2 w
 rw [zAv l w hn,aB hw] at h2
 exact ⟨h1.1.trans h2.1.symm,h1.2.trans h2.2.symm⟩
end Go.Am
namespace Go.Proofs.YtmamldleclamjaaGreatDoor
open Go.Am Tryz
set_option maxRecDepth 100000
theorem zog:prog.cellsOf 49=13:=by kernel_rfl
theorem zCg {h:Heap} {n:Nat} {cs:List ah} (hs:eK prog h (n+6) 49 cs):∃ x,aK.act.R h cs x:=by
 unfold eK at hs
 rw [underlying49] at hs
 obtain ⟨hl,hf⟩:=hs
 rw [zog] at hl
 have h0:eK prog h (n+5) 3 ((cs.drop 0).take 1):=hf 0 _ rfl
 have h1:eK prog h (n+5) 9 ((cs.drop 1).take 1):=hf 1 _ rfl
 have h2:eK prog h (n+5) 47 ((cs.drop 2).take 11):=hf 2 _ rfl
 obtain ⟨k,hk,_⟩:=Qq h0
 obtain ⟨s,hs⟩:=BS h1
 obtain ⟨a,ha⟩:=Ti (n:=n+1) h2
 refine ⟨⟨k,s,a⟩,?_⟩
 rw [gA (by simp;omega)] at ha
 match cs,hl with
 |x::y::r,_ =>
  simp only [List.drop_succ_cons,As,List.take_succ_cons,Cg,List.cons.injEq,and_true] at hk hs ha
  rw [hk,hs,ha]
  rfl
theorem zyz {h:Heap} {n:Nat} {v:ah} (hs:Af prog h (n+8) 29 v):∃ l,Sl aK.act h v l:=by
 unfold Af at hs
 rw [underlying29] at hs
 exact Hy (n:=n+7) underlying29 zog (λcs hc=>zCg (n:=n+1) hc) hs
end Go.Proofs.YtmamldleclamjaaGreatDoor
namespace Go.Am
variable {T:bO} {fn:Func} {K:aI} {e:Env} {h:Heap}
theorem wT (hr:fn.results=#[]):jo T fn K .ret e h=K undef h:=by
 simp [jo,qf,hr,undef]
theorem wR (hr:fn.results=#[]):jo T fn K .normal e h=K undef h:=by
 simp [jo,qf,hr,undef]
end Go.Am
