/- Facts that may be, as plain data. No condition. -/
import Derived.Test.YtiapegieocgmfaaGreatDoorG18
set_option linter.unusedSimpArgs false
set_option linter.unusedVariables false
noncomputable section
namespace Go.Am
variable {t:au}
theorem zlZ {a:ak} (h:pB a=0):∀ i,i < a.cO->fx (a.arg i):=by
 intro i hi
 unfold pB at h
 split at h
 .split at h
  .cases h
  .split at h
   .cases h
   .rename_i hb
    have qA:a.args.any Rt=false:=by simpa using hb
    have hm:=H2.1 qA (a.arg i) (ic (args_at hi))
    unfold Rt at hm
    simpa using hm
 .cases h
theorem Cr {d:aq} {s:au} {a:ak} (h:jk d s a=0):cp d.ah s=true/\rP d a=0/\zqQ a=true/\a.says=s:=by
 unfold jk at h
 have h:=bY.1 h
 have h1:=(Cn (by decide)).1 (h (bm (!cp d.ah s) 6) (by simp))
 have h2:=h (rP d a) (by simp)
 have h3:=(Cn (by decide)).1 (h (bm (!zqQ a) 10) (by simp))
 have h4:=(Cn (by decide)).1 (h (bm (!decide (a.says=s)) 11) (by simp))
 refine ⟨by simpa using h1,h2,by simpa using h3,by simpa using h4⟩
theorem zn2 {d:aq} {a:ak} (h:rP d a=0):pB a=0:=by
 unfold rP at h
 exact bY.1 h (pB a) (by simp)
theorem zi9 {d:aq} {s:au} {a:ak} (h:jk d s a=0):∀ x,(∃ i:Nat,i < a.cO/\(a.arg i).v=false/\(a.arg i).s=x)->x.size≠0/\x.size<=255:=by
 rintro x ⟨i,hi,hv,rfl⟩
 have ht:=zlZ (zn2 (Cr h).2.1) i hi
 unfold fx at ht
 rw [hv] at ht
 have hl:=ht.1
 exact ⟨by have:=hl.pos;omega,hl.len⟩
theorem zvQ {a b:ak} (h:aX a b=0):cL a=cL b:=Jo h
theorem zoG (x:ak) (r:aS) (a:ak):bE (x::r) a=((cL x == cL a) || bE r a):=rfl
theorem Js {a:ak}:∀ {l:aS},bE l a=false->(cD a l).Perm (a::l)
 | [],_=>List.Perm.refl _
 |x::r,h=>by
  rw [zoG,Bool.or_eq_false_iff] at h
  unfold cD
  split
  .exact List.Perm.refl _
  .split
   .rename_i h0
    have:=zvQ h0
    rw [this] at h
    simp at h
   .exact ((Js h.2).cons x).trans (List.Perm.swap a x r)
theorem zsb {a:ak}:∀ {s:aS},ef s->bE s a=true->∃ x,x∈s/\cL x=cL a/\s.Perm (x::eQ a s)
 | [],_,h=>by cases h
 |x::r,hs,h=>by
  have g:=tK.1 hs
  by_cases hx:cL x=cL a
  .have hr:bE r a=false:=by
    cases hr:bE r a
    .rfl
    .obtain ⟨y,hy,e⟩:=cP.1 hr
     have aT:=g.1 y hy
     have iu:aX x y=aX x x:=by unfold aX;rw [e,hx]
     rw [iu,Jg] at aT
     omega
   have hd:eQ a (x::r)=r:=by
    have h1:=zzX hr
    unfold eQ at h1 ⊢
    rw [TB (by simp [hx]),h1]
   exact ⟨x,jm,hx,by rw [hd]⟩
  .rw [zoG] at h
   have hr:bE r a=true:=by
    rcases Bool.or_eq_true_iff.1 h with h|h
    .exact absurd (by simpa using h) hx
    .exact h
   obtain ⟨y,hy,e,hp⟩:=zsb g.2 hr
   have hd:eQ a (x::r)=x::eQ a r:=by
    unfold eQ
    rw [TC (by simpa using hx)]
   exact ⟨y,fB _ hy,e,by rw [hd];exact (hp.cons x).trans (List.Perm.swap y x _)⟩
open Classical in
def tg (a:ak) (t:au):Bool:=decide (∃ i:Nat,i < a.cO/\(a.arg i).v=false/\(a.arg i).s=t)
theorem lp {a:ak}:tg a t=true↔∃ i:Nat,i < a.cO/\(a.arg i).v=false/\(a.arg i).s=t:=by unfold tg;simp
def lz (l:aS) (t:au):Nat:=l.countP (λa=>tg a t)
theorem zBP {a:ak} {l:aS} (h:bE l a=false) (t:au):lz (cD a l) t=lz l t+(if tg a t then 1 else 0):=by
 unfold lz
 rw [(Js h).countP_eq,List.countP_cons]
theorem zBN {a:ak} {s:aS} (hs:ef s) (h:bE s a=true) (hi:∀ x∈s,cL x=cL a->x=a) (t:au):lz s t=lz (eQ a s) t+(if tg a t then 1 else 0):=by
 obtain ⟨x,hx,e,p⟩:=zsb hs h
 rw [hi x hx e] at p
 unfold lz
 rw [p.countP_eq,List.countP_cons]
theorem zBO {l:aS} {a:ak} (h:a∈l) (ht:tg a t=true):0 < lz l t:=List.countP_pos_iff.2 ⟨a,h,ht⟩
def mM (names:List au) (facts:au->aS) (t:au):Nat:=(names.map λw=>lz (facts w) t).sum
theorem zrI {facts:au->aS} {s:au} {l:aS} (t:au):∀ {names:List au},names.Nodup->s∈names->mM names (λx=>if x=s then l else facts x) t+lz (facts s) t=mM names facts t+lz l t
 | [],_,h=>by cases h
 |w::r,hn,h=>by
  rw [tN] at hn
  unfold mM
  rw [lD,lD,CQ,CQ]
  dsimp only
  by_cases hw:w=s
  .subst hw
   have hr:(r.map λx=>lz (if x=w then l else facts x) t)=r.map λx=>lz (facts x) t:=QQ λx hx=>by rw [az (λe=>by rw [e] at hx;exact hn.1 hx)]
   rw [aE rfl,hr]
   omega
  .have ih:=zrI (facts:=facts) (l:=l) t hn.2 ((dh.1 h).resolve_left (λe=>hw e.symm))
   unfold mM at ih
   dsimp only at ih
   rw [az hw]
   omega
theorem zxP {facts:au->aS} {s t:au}:∀ {names:List au},s∈names->0 < lz (facts s) t->0 < mM names facts t
 |w::r,h,hp=>by
  unfold mM
  rw [lD,CQ]
  rcases dh.1 h with e|h
  .subst e;omega
  .have:=zxP h hp
   unfold mM at this
   omega
theorem zrH {a:ak} (h:pB a=0):gP a:=by
 have ht:=zlZ h
 unfold pB at h
 split at h
 .rename_i hp
  rw [ep,cY,cY] at hp
  split at h
  .cases h
  .rename_i hn
   split at h
   .cases h
   .split at h
    .cases h
    .rename_i hr
     have ke:=H2.1 (by simpa using hr:((a.all.drop a.cO).any λt => !decide (t=cT))=false)
     refine ⟨hp.1,hp.2,by omega,by omega,λi hi=>ht i (kq.2 ⟨by omega,hi⟩),λi hi h4=>?_⟩
     have hc:a.cO<=i:=by
      refine Nat.le_of_not_lt λhh=>?_
      have:=(kq.1 hh).2
      omega
     have hm:a.arg i∈a.all.drop a.cO:=by
      refine ic (i:=i - a.cO) ?_
      rw [lL,show a.cO+(i - a.cO)=i by omega]
      match i,h4 with
      |0,_=>rfl
      |1,_=>rfl
      |2,_=>rfl
      |3,_=>rfl
     simpa using ke _ hm
 .cases h
theorem JR {d:aq} {s:au} {a:ak} (h:jk d s a=0):j8 a:=⟨zrH (zn2 (Cr h).2.1),(Cr h).2.2.1⟩
theorem zmH {a b:ak} (ha:j8 a) (hb:j8 b) (h:cL a=cL b):a=b:=zjD ha.plain hb.plain h
structure cZ (d:aq) (k:Nat) (facts:au->aS) (aI us:au->Nat):Prop where
 hY:∀ w,ef (facts w)
 ok:∀ w,∀ a∈facts w,jk d w a=0
 len:∀ w,(facts w).length<=k
 Ap:∀ w,aI w<=k
 use:∀ t,us t=mM d.ah facts t
theorem cZ.empty (d:aq):cZ d 0 (λ_=>[]) (λ_=>0) (λ_=>0):=by
 refine ⟨λ_=>List.Pairwise.nil,(λ_ _ h=>nomatch h),λ_=>bj 0,λ_=>bj 0,λt=>?_⟩
 unfold mM
 induction d.ah with
 |nil=>rfl
 |cons w r ih=>rw [lD,CQ,<- ih];rfl
section
variable {d:aq} {k:Nat} {facts:au->aS} {aI us gd:au->Nat} {s:au} {a:ak}
theorem cZ.more (i:cZ d k facts aI us) {m:Nat} (h:k<=m):cZ d m facts aI us:=⟨i.hY,i.ok,λw=>gn (i.len w) h,λw=>gn (i.Ap w) h,i.use⟩
theorem cZ.fact (i:cZ d k facts aI us) {x:ak} (h:x∈facts s):j8 x:=JR (i.ok s x h)
theorem cZ.has (i:cZ d k facts aI us) (h:jk d s a=0):bE (facts s) a=true↔a∈facts s:=by
 rw [cP]
 exact ⟨λ⟨x,hx,e⟩=>by rw [<- zmH (i.fact hx) (JR h) e];exact hx,λhm=>⟨a,hm,rfl⟩⟩
theorem cZ.pos (i:cZ d k facts aI us) (h:jk d s a=0) (hh:bE (facts s) a=true) (ht:tg a t=true):0 < us t:=by
 rw [i.use]
 exact zxP (dw.1 (Cr h).1) (zBO ((i.has h).1 hh) ht)
theorem cZ.del (i:cZ d k facts aI us) (hn:d.ah.Nodup) (h:jk d s a=0) (hh:bE (facts s) a=true) (hu:∀ t,gd t=us t - (if tg a t then 1 else 0)):cZ d (k+1) (λx=>if x=s then eQ a (facts s) else facts x) (λx=>if x=s then aI s+1 else aI x) gd:=by
 refine ⟨λw=>?_,λw x hx=>?_,λw=>?_,λw=>?_,λt=>?_⟩
 .split
  .exact (i.hY s).sublist JE
  .exact i.hY w
 .split at hx
  .rename_i e
   rw [e]
   exact i.ok s x (JE.subset hx)
  .exact i.ok w x hx
 .split
  .exact gn (CI _ _) (gn (i.len s) (EG k))
  .exact gn (i.len w) (EG k)
 .split
  .have:=i.Ap s;omega
  .have:=i.Ap w;omega
 .rw [hu,i.use]
  have h1:=zrI (facts:=facts) (s:=s) (l:=eQ a (facts s)) t hn (dw.1 (Cr h).1)
  have h2:=zBN (i.hY s) hh (λx hx e=>zmH (i.fact hx) (JR h) e) t
  omega
theorem cZ.put (i:cZ d k facts aI us) (hn:d.ah.Nodup) (h:jk d s a=0) (hh:bE (facts s) a=false) (hu:∀ t,gd t=us t+(if tg a t then 1 else 0)):cZ d (k+1) (λx=>if x=s then cD a (facts s) else facts x) (λx=>if x=s then aI s+1 else aI x) gd:=by
 refine ⟨λw=>?_,λw x hx=>?_,λw=>?_,λw=>?_,λt=>?_⟩
 .split
  .exact Qx (i.hY s)
  .exact i.hY w
 .split at hx
  .rename_i e
   rw [e]
   rcases dh.1 ((Js hh).subset hx) with e2|hx
   .rw [e2];exact h
   .exact i.ok s x hx
  .exact i.ok w x hx
 .split
  .rw [(Js hh).length_eq,dn]
   have:=i.len s
   omega
  .exact gn (i.len w) (EG k)
 .split
  .have:=i.Ap s;omega
  .have:=i.Ap w;omega
 .rw [hu,i.use]
  have h1:=zrI (facts:=facts) (s:=s) (l:=cD a (facts s)) t hn (dw.1 (Cr h).1)
  have h2:=zBP hh t
  omega
theorem cZ.back (i:cZ d k facts aI us) (h:jk d s a=0) (hh:bE (facts s) a=false):eQ a (cD a (facts s))=facts s:=by
 refine QZ ((Qx (i.hY s)).sublist JE) (i.hY s) λx=>?_
 unfold eQ
 rw [H3,(Js hh).mem_iff,dh]
 constructor
 .rintro ⟨rfl|hx,e⟩
  .simp at e
  .exact hx
 .intro hx
  refine ⟨.inr hx,?_⟩
  rw [bne_iff_ne]
  intro e
  have:bE (facts s) a=true:=cP.2 ⟨x,hx,e⟩
  rw [hh] at this
  cases this
end
theorem zga {d:aq} (h:zy d=0):d.ah.Nodup/\d.ah.length<=16:=by
 unfold zy at h
 have h:=bY.1 h (HU d.ah) (by simp)
 unfold HU at h
 split at h
 .cases h
 .rename_i hl
  refine ⟨Tv.2 λi j hi hj dK e=>?_,by omega⟩
  have h2:=ku.1 h j d.ah[j] (gF hj)
  have h3:=(Cn (by decide)).1 (bY.1 h2 (bm (cp ([]++d.ah.take j) d.ah[j]) 5) (by simp))
  have h4:cp ([]++d.ah.take j) d.ah[j]=true:=dw.2 (by
   rw [pE,<- e]
   refine ic (i:=i) ?_
   rw [mi,aE dK,gF hi])
  rw [h3] at h4
  cases h4
end Go.Am
namespace Go.Am
def jC (d:aq) (q:Int) (s:au) (a:ak) (l:aS):Option (aS) :=
 if jk d s a=0 then (if bE l a=true then none else if ((cD a l).length:Int)<=q then some (cD a l) else none) else none
def kH (d:aq) (s:au) (a:ak) (l:aS):Option (aS) :=
 if jk d s a=0 then (if bE l a=true then some (eQ a l) else none) else none
def pQ (d:aq) (q:Int) (s:au) (a:ak) (l:aS):Int :=
 if jk d s a=0 then (if bE l a=true then 0 else if ((cD a l).length:Int)<=q then 0 else 12) else jk d s a
def xq (facts:au->aS) (s:au) (o:Option (aS)):au->aS:=λx=>if x=s then o.getD (facts s) else facts x
def xr (aI:au->Nat) (s:au) (o:Option (aS)):au->Nat:=λx=>if x=s then aI s+(if o.isSome=true then 1 else 0) else aI x
theorem Tj (facts:au->aS) (s:au):xq facts s none=facts:=by
 funext x;unfold xq;split
 .rename_i e;rw [e];rfl
 .rfl
theorem Tk (aI:au->Nat) (s:au):xr aI s none=aI:=by
 funext x;unfold xr;split
 .rename_i e;rw [e];rfl
 .rfl
theorem zzE {facts:au->aS} {s w:au} {o:Option (aS)} (h:¬ s=w):xq facts s o w=facts w:=az (λe=>h e.symm)
theorem zzH {aI:au->Nat} {s w:au} {o:Option (aS)} (h:¬ s=w):xr aI s o w=aI w:=az (λe=>h e.symm)
theorem zu3 (facts:au->aS) (s:au) (o:Option (aS)):xq facts s o s=o.getD (facts s):=aE rfl
theorem zu4 (aI:au->Nat) (s:au) (o:Option (aS)):xr aI s o s=aI s+(if o.isSome=true then 1 else 0):=aE rfl
theorem zqP {a:ak} (h:j8 a):a.aW=true:=by
 have hv:=h.valid
 have ha:∀ i,i < 4->(a.arg i).s.size<=300:=λi hi=>by
  by_cases hn:(i:Int) < a.n
  .have ht:=hv.jE i hn
   unfold fx at ht
   split at ht
   .have:=ht.len;omega
   .have:=ht.1.len;omega
  .rw [hv.rest i (by omega) hi];decide
 have h1:=hv.says.1.1.len
 have h2:=hv.pred.1.1.len
 simp only [ak.aW,ep,jH]
 exact ⟨by omega,by omega,ha 0 (by omega),ha 1 (by omega),ha 2 (by omega),ha 3 (by omega)⟩
theorem ztJ {d:aq} {s:au} {a:ak} (h:jk d s a=0):a.aW=true:=zqP (JR h)
theorem zC3 (l:aS) (t:au):lz l t<=l.length:=List.countP_le_length
theorem zAf {facts:au->aS} {k:Nat} (h:∀ w,(facts w).length<=k) (t:au):∀ names:List au,mM names facts t<=names.length*k
 | []=>by unfold mM;simp
 |w::r=>by
  have ih:=zAf h t r
  unfold mM at ih ⊢
  rw [lD,CQ,dn,qx]
  have h1:=zC3 (facts w) t
  have h2:=h w
  omega
section
variable {d:aq} {k m:Nat} {facts:au->aS} {aI us gd:au->Nat} {s:au} {a:ak} {q:Int}
theorem cZ.aW (i:cZ d k facts aI us) {x:ak} (h:x∈facts s):x.aW=true:=ztJ (i.ok s x h)
theorem cZ.DQ (i:cZ d k facts aI us) (t:au):us t<=d.ah.length*k:=by rw [i.use];exact zAf i.len t _
theorem cZ.sort (i:cZ d k facts aI us) (w:au):eo (facts w)=facts w:=Tm (i.hY w)
theorem cZ.Zr (i:cZ d k facts aI us) (hn:d.ah.Nodup) (h:jk d s a=0) (hh:bE (facts s) a=false) (hu:∀ t,gd t=us t+(if tg a t then 1 else 0)):cZ d (k+1) (xq facts s (some (cD a (facts s)))) (xr aI s (some (cD a (facts s)))) gd:=i.put hn h hh hu
theorem cZ.U9 (i:cZ d k facts aI us) (hn:d.ah.Nodup) (h:jk d s a=0) (hh:bE (facts s) a=true) (hu:∀ t,gd t=us t - (if tg a t then 1 else 0)):cZ d (k+1) (xq facts s (some (eQ a (facts s)))) (xr aI s (some (eQ a (facts s)))) gd:=i.del hn h hh hu
end
structure eu where
 k:Int
 s:au
 a:ak
def eu.cells (x:eu):List ab:=.int .i64 x.k::.string x.s::x.a.cells
abbrev aM.act:aM eu:={ k:=13,R:=λ_ cs x=>cs=x.cells,len:=by rintro _ _ _ rfl;rfl,mono:=λ_ _ _ _ _ h=>h,jf:=by rintro _ _ _ rfl;rfl }
section
variable {T:bI} {t e s:TypeId} {kd:IntKind} {i:Int} {v p:ab} {h1:Heap} {bs:List ba} {w:Nat} {K:aF}
theorem CK {l:List eu} {x:eu} (f:Sl aM.act h1 v l) (hd:T.desc t=some (.slice e)) (hs:dg T e=some 13) (h0:0<=i) (hx:l[i.toNat]? = some x) (hk:∀ p,eF h1 p x.cells->K p (h1.lay bs w)):aC (kh T t v (.int kd i)) (h1.lay bs w) K:=by
 have hi:=(dP.1 hx).1
 refine AB f hd hs h0 (by omega) (λx' p cs mF hr hp=>?_)
 rw [hx] at mF
 cases mF
 exact hk p (hr ▸ hp)
theorem Uc {x:eu} (f:eF h1 p x.cells) (lg:∀ A o,iS T s (.pointer (some ⟨A,o,none⟩)) 0=some (.pointer (some ⟨A,o+0,none⟩))) (hk:∀ q,eF h1 q [.int .i64 x.k]->K q (h1.lay bs w)):aC (iS T s p 0) (h1.lay bs w) K:=wE (ds:=[.int .i64 x.k]) f lg rfl (xC _) hk
theorem Eo {x:eu} (f:eF h1 p x.cells) (lg:∀ A o,iS T s (.pointer (some ⟨A,o,none⟩)) 1=some (.pointer (some ⟨A,o+1,none⟩))) (hk:∀ q,eF h1 q [.string x.s]->K q (h1.lay bs w)):aC (iS T s p 1) (h1.lay bs w) K:=wE (ds:=[.string x.s]) f lg rfl (xC _) hk
theorem Ep {x:eu} (f:eF h1 p x.cells) (lg:∀ A o,iS T s (.pointer (some ⟨A,o,none⟩)) 2=some (.pointer (some ⟨A,o+2,none⟩))) (hk:∀ q,eF h1 q x.a.cells->K q (h1.lay bs w)):aC (iS T s p 2) (h1.lay bs w) K:=wE (ds:=x.a.cells) f lg rfl (xC _) hk
end
def rq (d:aq) (q:Int) (c:eu) (l:aS):Option (aS):=if c.k.tmod 2=0 then jC d q c.s c.a l else kH d c.s c.a l
def ru (d:aq) (q:Int) (p:aS × Nat) (c:eu):aS × Nat:=((rq d q c p.1).getD p.1,p.2+(if (rq d q c p.1).isSome=true then 1 else 0))
def tj (d:aq) (q:Int) (l:List eu):aS × Nat:=l.foldl (ru d q) ([],0)
def oO (l:List eu) (w:au):List eu:=l.filter λc=>decide (c.s=w)
theorem zyM (l:List eu) (c:eu) (w:au):oO (l++[c]) w=if c.s=w then oO l w++[c] else oO l w:=by
 unfold oO
 rw [AO]
 by_cases h:c.s=w
 .rw [aE h,TC (by simpa using h),List.filter_nil]
 .rw [az h,TB (by simpa using h),List.filter_nil,bu]
def oq (d:aq) (q:Int) (l:List eu) (facts:au->aS) (aI:au->Nat):Prop:=∀ w,facts w=(tj d q (oO l w)).1/\aI w=(tj d q (oO l w)).2
theorem oq.nil (d:aq) (q:Int):oq d q [] (λ_=>[]) (λ_=>0):=λ_=>⟨rfl,rfl⟩
theorem oq.snoc {d:aq} {q:Int} {l:List eu} {facts:au->aS} {aI:au->Nat} (r:oq d q l facts aI) (c:eu):oq d q (l++[c]) (xq facts c.s (rq d q c (facts c.s))) (xr aI c.s (rq d q c (facts c.s))):=by
 intro w
 rw [zyM]
 by_cases h:c.s=w
 .subst h
  rw [aE rfl,zu3,zu4]
  have h1:=r c.s
  have e:tj d q (oO l c.s++[c])=ru d q (tj d q (oO l c.s)) c:=by
   unfold tj
   rw [List.foldl_append]
   rfl
  rw [e]
  have e2:tj d q (oO l c.s)=(facts c.s,aI c.s):=Prod.ext h1.1.symm h1.2.symm
  rw [e2]
  exact ⟨rfl,rfl⟩
 .rw [az h,zzE h,zzH h]
  exact r w
theorem TO (a:ak):∀ l:aS,(cD a l).length<=l.length+1
 | []=>bj _
 |x::r=>by
  unfold cD
  split
  .simp
  .split
   .simp
   .have:=TO a r
    simp only [dn]
    omega
theorem zyF (d:aq) (q:Int) (c:eu) (l:aS):((rq d q c l).getD l).length<=l.length+1:=by
 unfold rq jC kH
 have h1:=TO c.a l
 have h2:(eQ c.a l).length<=l.length:=CI _ _
 repeat' split
 all_goals simp only [JX,Option.getD_none]
 all_goals omega
theorem zBw (d:aq) (q:Int) (l:List eu) (p:aS × Nat):(l.foldl (ru d q) p).1.length<=p.1.length+l.length/\(l.foldl (ru d q) p).2<=p.2+l.length:=by
 induction l generalizing p with
 |nil=>exact ⟨bj _,bj _⟩
 |cons c r ih =>
  rw [uM]
  have h:=ih (ru d q p c)
  have h1:=zyF d q c p.1
  have h2:(ru d q p c).2<=p.2+1:=by unfold ru;dsimp only;split <;> omega
  have h3:(ru d q p c).1.length<=p.1.length+1:=h1
  rw [dn]
  omega
theorem oq.le {d:aq} {q:Int} {l:List eu} {facts:au->aS} {aI:au->Nat} {m:Nat} (r:oq d q l facts aI) (h:∀ w,(oO l w).length<=m) (w:au):(facts w).length<=m/\aI w<=m:=by
 have h1:=zBw d q (oO l w) ([],0)
 have h2:=r w
 have h3:=h w
 unfold tj at h2
 rw [h2.1,h2.2]
 simp only [dN,jo] at h1
 omega
def RA (l:List eu) (P:List au):List eu:=P.flatMap λw=>oO l w
theorem zBk (l:List eu) (v w:au):oO (oO l v) w=if v=w then oO l v else []:=by
 unfold oO
 rw [List.filter_filter]
 by_cases h:v=w
 .rw [aE h,h]
  exact List.filter_congr λc _=>by simp
 .rw [az h]
  refine JB.2 λc _=>?_
  simp only [ep,jH,not_and]
  intro e1 e2
  exact h (e2.symm.trans e1)
theorem zBj (l m:List eu) (w:au):oO (l++m) w=oO l w++oO m w:=AO _ _
open Classical in
theorem zz9 (l:List eu) (w:au):∀ {P:List au},P.Nodup->oO (RA l P) w=if w∈P then oO l w else []
 | [],_=>by rw [az (by simp)];rfl
 |v::r,h=>by
  rw [tN] at h
  unfold RA
  rw [Ew,zBj,zBk]
  have ih:=zz9 l w h.2
  unfold RA at ih
  rw [ih]
  by_cases e:v=w
  .subst e
   rw [aE rfl,az h.1,aE jm,bu]
  .rw [az e,pE]
   by_cases hm:w∈r
   .rw [aE hm,aE (fB _ hm)]
   .rw [az hm,az (λhh=>hm ((dh.1 hh).resolve_left (λe2=>e e2.symm)))]
open Classical in
theorem oq.same {d:aq} {q:Int} {l:List eu} {P:List au} {f g:au->aS} {u v:au->Nat} (r:oq d q l f u) (r2:oq d q (RA l P) g v) (hn:P.Nodup) {w:au} (hw:w∈P):f w=g w/\u w=v w:=by
 have h1:=r w
 have h2:=r2 w
 rw [zz9 l w hn,aE hw] at h2
 exact ⟨h1.1.trans h2.1.symm,h1.2.trans h2.2.symm⟩
end Go.Am
namespace Go.Proofs.YtiapegieocgmfaaGreatDoor
open Go.Am Tryz
set_option maxRecDepth 100000
theorem zn9:prog.cellsOf 52=13:=by kernel_rfl
theorem zBy {h:Heap} {n:Nat} {cs:List ab} (hs:eK prog h (n+6) 52 cs):∃ x,aM.act.R h cs x:=by
 unfold eK at hs
 rw [underlying52] at hs
 obtain ⟨hl,hf⟩:=hs
 rw [zn9] at hl
 have h0:eK prog h (n+5) 3 ((cs.drop 0).take 1):=hf 0 _ rfl
 have h1:eK prog h (n+5) 9 ((cs.drop 1).take 1):=hf 1 _ rfl
 have h2:eK prog h (n+5) 47 ((cs.drop 2).take 11):=hf 2 _ rfl
 obtain ⟨k,hk,_⟩:=QI h0
 obtain ⟨s,hs⟩:=Co h1
 obtain ⟨a,ha⟩:=Tz (n:=n+1) h2
 refine ⟨⟨k,s,a⟩,?_⟩
 rw [gE (by simp;omega)] at ha
 match cs,hl with
 |x::y::r,_ =>
  simp only [List.drop_succ_cons,zM,QT,xB,List.cons.injEq,and_true] at hk hs ha
  rw [hk,hs,ha]
  rfl
theorem zr2 {h:Heap} {n:Nat} {v:ab} (hs:AJ prog h (n+8) 29 v):∃ l,Sl aM.act h v l:=by
 unfold AJ at hs
 rw [underlying29] at hs
 exact HV (n:=n+7) underlying29 zn9 (λcs hc=>zBy (n:=n+1) hc) hs
end Go.Proofs.YtiapegieocgmfaaGreatDoor
namespace Go.Am
variable {T:bI} {fn:Func} {K:aF} {e:Env} {h:Heap}
theorem uG (hr:fn.results=#[]):ie T fn K .ret e h=K undef h:=by
 simp [ie,pz,hr,undef]
theorem uD (hr:fn.results=#[]):ie T fn K .normal e h=K undef h:=by
 simp [ie,pz,hr,undef]
theorem zv8 {a b c:Tmp} (hr:fn.results=#[.tmp a,.tmp b,.tmp c]):ie T fn K .ret e h=K (.tuple #[e.get a,e.get b,e.get c]) h:=by
 simp [ie,pz,hr,zw]
end Go.Am
