/- Founded reasons and their ranks: prefixes, and more facts and clauses. No condition. -/
import Derived.Test.YtkgojconmeeegaaGreatDoorG15
import Derived.Test.YtkgojconmeeegaaGreatDoorG17
set_option linter.unusedSimpArgs false
set_option linter.unusedVariables false
noncomputable section
namespace Go.Am
def atR (l:List gD) (a:ak):Int:=jz (λx=>decide (x.atom=a)) l
end Go.Am
namespace Go.Am
structure Good (l:List aN):Prop where
 up:sO l l.length
 ok:∀ b∈l,b.term.v=false/\b.term.s≠⟨#[]⟩
theorem zDN {a:ak} (h0:0<=a.n) (h4:a.n<=4):a.cU=a.n.toNat:=by unfold ak.cU;omega
theorem zmA (a:ak):a.cU<=4:=by unfold ak.cU;omega
theorem jk.var {a:ak} (h:jk a) {i:Nat} (hi:i < a.cU) (hv:(a.arg i).v=true):(a.arg i).s≠⟨#[]⟩:=by
 have:=h.k9 i (lJ.1 hi).2
 unfold fM at this
 rw [aE hv] at this
 intro e
 have hp:=this.pos
 rw [e] at hp
 exact absurd hp (by decide)
theorem lY.plain {a:ak} (h:lY a):iv a:=h.valid.valid.plain
section
variable {cl:List cz} {facts:aW}
end
end Go.Am
namespace Go.Am
variable {t:aB}
theorem zl0 {a:ak} (h:po a=0):∀ i,i < a.cU->fM (a.arg i):=by
 intro i hi
 unfold po at h
 split at h
 .split at h
  .cases h
  .split at h
   .cases h
   .rename_i hb
    have qw:a.args.any SI=false:=by simpa using hb
    have hm:=EP.1 qw (a.arg i) (ig (args_at hi))
    unfold SI at hm
    simpa using hm
 .cases h
theorem CQ {d:aw} {s:aB} {a:ak} (h:jg d s a=0):cq d.ah s=true/\r6 d a=0/\zry a=true/\a.says=s:=by
 unfold jg at h
 have h:=cd.1 h
 have h1:=(CE (by decide)).1 (h (br (!cq d.ah s) 6) (by simp))
 have h2:=h (r6 d a) (by simp)
 have h3:=(CE (by decide)).1 (h (br (!zry a) 10) (by simp))
 have h4:=(CE (by decide)).1 (h (br (!decide (a.says=s)) 11) (by simp))
 refine ⟨by simpa using h1,h2,by simpa using h3,by simpa using h4⟩
theorem zon {d:aw} {a:ak} (h:r6 d a=0):po a=0:=by
 unfold r6 at h
 exact cd.1 h (po a) (by simp)
theorem zru {d:aw} {s:aB} {a:ak} (h:jg d s a=0):∀ x,(∃ i:Nat,i < a.cU/\(a.arg i).v=false/\(a.arg i).s=x)->x.size≠0/\x.size<=255:=by
 rintro x ⟨i,hi,hv,rfl⟩
 have ht:=zl0 (zon (CQ h).2.1) i hi
 unfold fM at ht
 rw [hv] at ht
 have hl:=ht.1
 exact ⟨by have:=hl.pos;omega,hl.len⟩
theorem zwV {a b:ak} (h:aT a b=0):cF a=cF b:=Jt h
theorem zo8 (x:ak) (r:aW) (a:ak):bH (x::r) a=((cF x == cF a) || bH r a):=rfl
theorem RF {a:ak}:∀ {l:aW},bH l a=false->(cD a l).Perm (a::l)
 | [],_=>List.Perm.refl _
 |x::r,h=>by
  rw [zo8,Bool.or_eq_false_iff] at h
  unfold cD
  split
  .exact List.Perm.refl _
  .split
   .rename_i h0
    have:=zwV h0
    rw [this] at h
    simp at h
   .exact ((RF h.2).cons x).trans (List.Perm.swap a x r)
theorem zs2 {a:ak}:∀ {s:aW},eh s->bH s a=true->∃ x,x∈s/\cF x=cF a/\s.Perm (x::fG a s)
 | [],_,h=>by cases h
 |x::r,hs,h=>by
  have g:=ub.1 hs
  by_cases hx:cF x=cF a
  .have hr:bH r a=false:=by
    cases hr:bH r a
    .rfl
    .obtain ⟨y,hy,e⟩:=cY.1 hr
     have aP:=g.1 y hy
     have hZ:aT x y=aT x x:=by unfold aT;rw [e,hx]
     rw [hZ,Jr] at aP
     omega
   have hd:fG a (x::r)=r:=by
    have h1:=zBo hr
    unfold fG at h1 ⊢
    rw [List.filter_cons_of_neg (by simp [hx]),h1]
   exact ⟨x,lj,hx,by rw [hd]⟩
  .rw [zo8] at h
   have hr:bH r a=true:=by
    rcases Bool.or_eq_true_iff.1 h with h|h
    .exact absurd (by simpa using h) hx
    .exact h
   obtain ⟨y,hy,e,hp⟩:=zs2 g.2 hr
   have hd:fG a (x::r)=x::fG a r:=by
    unfold fG
    rw [List.filter_cons_of_pos (by simpa using hx)]
   exact ⟨y,gJ _ hy,e,by rw [hd];exact (hp.cons x).trans (List.Perm.swap y x _)⟩
open Classical in
def tM (a:ak) (t:aB):Bool:=decide (∃ i:Nat,i < a.cU/\(a.arg i).v=false/\(a.arg i).s=t)
theorem kX {a:ak}:tM a t=true↔∃ i:Nat,i < a.cU/\(a.arg i).v=false/\(a.arg i).s=t:=by unfold tM;simp
def ld (l:aW) (t:aB):Nat:=l.countP (λa=>tM a t)
theorem zDn {a:ak} {l:aW} (h:bH l a=false) (t:aB):ld (cD a l) t=ld l t+(if tM a t then 1 else 0):=by
 unfold ld
 rw [(RF h).countP_eq,List.countP_cons]
theorem zDl {a:ak} {s:aW} (hs:eh s) (h:bH s a=true) (hi:∀ x∈s,cF x=cF a->x=a) (t:aB):ld s t=ld (fG a s) t+(if tM a t then 1 else 0):=by
 obtain ⟨x,hx,e,p⟩:=zs2 hs h
 rw [hi x hx e] at p
 unfold ld
 rw [p.countP_eq,List.countP_cons]
theorem zDm {l:aW} {a:ak} (h:a∈l) (ht:tM a t=true):0 < ld l t:=List.countP_pos_iff.2 ⟨a,h,ht⟩
def mI (names:List aB) (facts:aB->aW) (t:aB):Nat:=(names.map λw=>ld (facts w) t).sum
theorem zsA {facts:aB->aW} {s:aB} {l:aW} (t:aB):∀ {names:List aB},names.Nodup->s∈names->mI names (λx=>if x=s then l else facts x) t+ld (facts s) t=mI names facts t+ld l t
 | [],_,h=>by cases h
 |w::r,hn,h=>by
  rw [AV] at hn
  unfold mI
  rw [mZ,mZ,J9,J9]
  dsimp only
  by_cases hw:w=s
  .subst hw
   have hr:(r.map λx=>ld (if x=w then l else facts x) t)=r.map λx=>ld (facts x) t:=RZ λx hx=>by rw [az (λe=>by rw [e] at hx;exact hn.1 hx)]
   rw [aE rfl,hr]
   omega
  .have ih:=zsA (facts:=facts) (l:=l) t hn.2 ((dG.1 h).resolve_left (λe=>hw e.symm))
   unfold mI at ih
   dsimp only at ih
   rw [az hw]
   omega
theorem zy4 {facts:aB->aW} {s t:aB}:∀ {names:List aB},s∈names->0 < ld (facts s) t->0 < mI names facts t
 |w::r,h,hp=>by
  unfold mI
  rw [mZ,J9]
  rcases dG.1 h with e|h
  .subst e;omega
  .have:=zy4 h hp
   unfold mI at this
   omega
theorem zsz {a:ak} (h:po a=0):jk a:=by
 have ht:=zl0 h
 unfold po at h
 split at h
 .rename_i hp
  rw [dP,cV,cV] at hp
  split at h
  .cases h
  .rename_i hn
   split at h
   .cases h
   .split at h
    .cases h
    .rename_i hr
     have j9:=EP.1 (by simpa using hr:((a.all.drop a.cU).any λt => !decide (t=cu))=false)
     refine ⟨hp.1,hp.2,by omega,by omega,λi hi=>ht i (lJ.2 ⟨by omega,hi⟩),λi hi h4=>?_⟩
     have hc:a.cU<=i:=by
      refine Nat.le_of_not_lt λhh=>?_
      have:=(lJ.1 hh).2
      omega
     have hm:a.arg i∈a.all.drop a.cU:=by
      refine ig (i:=i - a.cU) ?_
      rw [lA,show a.cU+(i - a.cU)=i by omega]
      match i,h4 with
      |0,_=>rfl
      |1,_=>rfl
      |2,_=>rfl
      |3,_=>rfl
     simpa using j9 _ hm
 .cases h
theorem JZ {d:aw} {s:aB} {a:ak} (h:jg d s a=0):lY a:=⟨zsz (zon (CQ h).2.1),(CQ h).2.2.1⟩
theorem zmM {a b:ak} (ha:lY a) (hb:lY b) (h:cF a=cF b):a=b:=zjU ha.plain hb.plain h
structure dH (d:aw) (k:Nat) (facts:aB->aW) (aX us:aB->Nat):Prop where
 iU:∀ w,eh (facts w)
 ok:∀ w,∀ a∈facts w,jg d w a=0
 len:∀ w,(facts w).length<=k
 Eh:∀ w,aX w<=k
 use:∀ t,us t=mI d.ah facts t
theorem dH.empty (d:aw):dH d 0 (λ_=>[]) (λ_=>0) (λ_=>0):=by
 refine ⟨λ_=>List.Pairwise.nil,(λ_ _ h=>nomatch h),λ_=>bo 0,λ_=>bo 0,λt=>?_⟩
 unfold mI
 induction d.ah with
 |nil=>rfl
 |cons w r ih=>rw [mZ,J9,<- ih];rfl
section
variable {d:aw} {k:Nat} {facts:aB->aW} {aX us oa:aB->Nat} {s:aB} {a:ak}
theorem dH.more (i:dH d k facts aX us) {m:Nat} (h:k<=m):dH d m facts aX us:=⟨i.iU,i.ok,λw=>il (i.len w) h,λw=>il (i.Eh w) h,i.use⟩
theorem dH.fact (i:dH d k facts aX us) {x:ak} (h:x∈facts s):lY x:=JZ (i.ok s x h)
theorem dH.has (i:dH d k facts aX us) (h:jg d s a=0):bH (facts s) a=true↔a∈facts s:=by
 rw [cY]
 exact ⟨λ⟨x,hx,e⟩=>by rw [<- zmM (i.fact hx) (JZ h) e];exact hx,λhm=>⟨a,hm,rfl⟩⟩
theorem dH.pos (i:dH d k facts aX us) (h:jg d s a=0) (hh:bH (facts s) a=true) (ht:tM a t=true):0 < us t:=by
 rw [i.use]
 exact zy4 (dL.1 (CQ h).1) (zDm ((i.has h).1 hh) ht)
theorem dH.del (i:dH d k facts aX us) (hn:d.ah.Nodup) (h:jg d s a=0) (hh:bH (facts s) a=true) (hu:∀ t,oa t=us t - (if tM a t then 1 else 0)):dH d (k+1) (λx=>if x=s then fG a (facts s) else facts x) (λx=>if x=s then aX s+1 else aX x) oa:=by
 refine ⟨λw=>?_,λw x hx=>?_,λw=>?_,λw=>?_,λt=>?_⟩
 .split
  .exact (i.iU s).sublist RY
  .exact i.iU w
 .split at hx
  .rename_i e
   rw [e]
   exact i.ok s x (RY.subset hx)
  .exact i.ok w x hx
 .split
  .exact il (AO _ _) (il (i.len s) (EZ k))
  .exact il (i.len w) (EZ k)
 .split
  .have:=i.Eh s;omega
  .have:=i.Eh w;omega
 .rw [hu,i.use]
  have h1:=zsA (facts:=facts) (s:=s) (l:=fG a (facts s)) t hn (dL.1 (CQ h).1)
  have h2:=zDl (i.iU s) hh (λx hx e=>zmM (i.fact hx) (JZ h) e) t
  omega
theorem dH.put (i:dH d k facts aX us) (hn:d.ah.Nodup) (h:jg d s a=0) (hh:bH (facts s) a=false) (hu:∀ t,oa t=us t+(if tM a t then 1 else 0)):dH d (k+1) (λx=>if x=s then cD a (facts s) else facts x) (λx=>if x=s then aX s+1 else aX x) oa:=by
 refine ⟨λw=>?_,λw x hx=>?_,λw=>?_,λw=>?_,λt=>?_⟩
 .split
  .exact UE (i.iU s)
  .exact i.iU w
 .split at hx
  .rename_i e
   rw [e]
   rcases dG.1 ((RF hh).subset hx) with e2|hx
   .rw [e2];exact h
   .exact i.ok s x hx
  .exact i.ok w x hx
 .split
  .rw [(RF hh).length_eq,de]
   have:=i.len s
   omega
  .exact il (i.len w) (EZ k)
 .split
  .have:=i.Eh s;omega
  .have:=i.Eh w;omega
 .rw [hu,i.use]
  have h1:=zsA (facts:=facts) (s:=s) (l:=cD a (facts s)) t hn (dL.1 (CQ h).1)
  have h2:=zDn hh t
  omega
end
theorem zgx {d:aw} (h:zB d=0):d.ah.Nodup/\d.ah.length<=16:=by
 unfold zB at h
 have h:=cd.1 h (HT d.ah) (by simp)
 unfold HT at h
 split at h
 .cases h
 .rename_i hl
  refine ⟨Jz.2 λi j hi hj dF e=>?_,by omega⟩
  have h2:=km.1 h j d.ah[j] (gI hj)
  have h3:=(CE (by decide)).1 (cd.1 h2 (br (cq ([]++d.ah.take j) d.ah[j]) 5) (by simp))
  have h4:cq ([]++d.ah.take j) d.ah[j]=true:=dL.2 (by
   rw [qu,<- e]
   refine ig (i:=i) ?_
   rw [lX,aE dF,gI hi])
  rw [h3] at h4
  cases h4
end Go.Am
namespace Go.Am
def jW (d:aw) (q:Int) (s:aB) (a:ak) (l:aW):Option (aW) :=
 if jg d s a=0 then (if bH l a=true then none else if ((cD a l).length:Int)<=q then some (cD a l) else none) else none
def kZ (d:aw) (s:aB) (a:ak) (l:aW):Option (aW) :=
 if jg d s a=0 then (if bH l a=true then some (fG a l) else none) else none
def pJ (d:aw) (q:Int) (s:aB) (a:ak) (l:aW):Int :=
 if jg d s a=0 then (if bH l a=true then 0 else if ((cD a l).length:Int)<=q then 0 else 12) else jg d s a
def Da (facts:aB->aW) (s:aB) (o:Option (aW)):aB->aW:=λx=>if x=s then o.getD (facts s) else facts x
def Db (aX:aB->Nat) (s:aB) (o:Option (aW)):aB->Nat:=λx=>if x=s then aX s+(if o.isSome=true then 1 else 0) else aX x
theorem Ut (facts:aB->aW) (s:aB):Da facts s none=facts:=by
 funext x;unfold Da;split
 .rename_i e;rw [e];rfl
 .rfl
theorem Uu (aX:aB->Nat) (s:aB):Db aX s none=aX:=by
 funext x;unfold Db;split
 .rename_i e;rw [e];rfl
 .rfl
theorem zrv {a:ak} (h:lY a):a.aV=true:=by
 have hv:=h.valid
 have ha:∀ i,i < 4->(a.arg i).s.size<=300:=λi hi=>by
  by_cases hn:(i:Int) < a.n
  .have ht:=hv.k9 i hn
   unfold fM at ht
   split at ht
   .have:=ht.len;omega
   .have:=ht.1.len;omega
  .rw [hv.rest i (by omega) hi];decide
 have h1:=hv.says.1.1.len
 have h2:=hv.pred.1.1.len
 simp only [ak.aV,dP,gY]
 exact ⟨by omega,by omega,ha 0 (by omega),ha 1 (by omega),ha 2 (by omega),ha 3 (by omega)⟩
theorem zuw {d:aw} {s:aB} {a:ak} (h:jg d s a=0):a.aV=true:=zrv (JZ h)
theorem zEu (l:aW) (t:aB):ld l t<=l.length:=List.countP_le_length
theorem zBE {facts:aB->aW} {k:Nat} (h:∀ w,(facts w).length<=k) (t:aB):∀ names:List aB,mI names facts t<=names.length*k
 | []=>by unfold mI;simp
 |w::r=>by
  have ih:=zBE h t r
  unfold mI at ih ⊢
  rw [mZ,J9,de,r9]
  have h1:=zEu (facts w) t
  have h2:=h w
  omega
section
variable {d:aw} {k m:Nat} {facts:aB->aW} {aX us oa:aB->Nat} {s:aB} {a:ak} {q:Int}
theorem dH.aV (i:dH d k facts aX us) {x:ak} (h:x∈facts s):x.aV=true:=zuw (i.ok s x h)
theorem dH.Eg (i:dH d k facts aX us) (t:aB):us t<=d.ah.length*k:=by rw [i.use];exact zBE i.len t _
theorem dH.sort (i:dH d k facts aX us) (w:aB):eG (facts w)=facts w:=UA (i.iU w)
theorem dH.aah (i:dH d k facts aX us) (hn:d.ah.Nodup) (h:jg d s a=0) (hh:bH (facts s) a=false) (hu:∀ t,oa t=us t+(if tM a t then 1 else 0)):dH d (k+1) (Da facts s (some (cD a (facts s)))) (Db aX s (some (cD a (facts s)))) oa:=i.put hn h hh hu
theorem dH.V7 (i:dH d k facts aX us) (hn:d.ah.Nodup) (h:jg d s a=0) (hh:bH (facts s) a=true) (hu:∀ t,oa t=us t - (if tM a t then 1 else 0)):dH d (k+1) (Da facts s (some (fG a (facts s)))) (Db aX s (some (fG a (facts s)))) oa:=i.del hn h hh hu
end
structure lC where
 k:Int
 s:aB
 a:ak
def lC.cells (x:lC):List ae:=.int .i64 x.k::.string x.s::x.a.cells
abbrev aJ.act:aJ lC:={ k:=13,R:=λ_ cs x=>cs=x.cells,len:=by rintro _ _ _ rfl;rfl,mono:=λ_ _ _ _ _ h=>h,i9:=by rintro _ _ _ rfl;rfl }
section
variable {T:bL} {t e s:TypeId} {kd:IntKind} {i:Int} {v p:ae} {h1:Heap} {bs:List bh} {w:Nat} {K:aG}
theorem Kb {l:List lC} {x:lC} (f:Sl aJ.act h1 v l) (hd:T.desc t=some (.slice e)) (hs:cN T e=some 13) (h0:0<=i) (hx:l[i.toNat]? = some x) (hk:∀ p,ei h1 p x.cells->K p (h1.lay bs w)):aD (jF T t v (.int kd i)) (h1.lay bs w) K:=by
 have hi:=(dz.1 hx).1
 refine zt f hd hs h0 (by omega) (λx' p cs kW hr hp=>?_)
 rw [hx] at kW
 cases kW
 exact hk p (hr ▸ hp)
theorem zDU {x:lC} (f:ei h1 p x.cells) (iX:∀ A o,fU T s (.pointer (some ⟨A,o,none⟩)) 0=some (.pointer (some ⟨A,o+0,none⟩))) (hk:∀ q,ei h1 q [.int .i64 x.k]->K q (h1.lay bs w)):aD (fU T s p 0) (h1.lay bs w) K:=qZ (ds:=[.int .i64 x.k]) f iX rfl (se _) hk
theorem Sj {x:lC} (f:ei h1 p x.cells) (iX:∀ A o,fU T s (.pointer (some ⟨A,o,none⟩)) 1=some (.pointer (some ⟨A,o+1,none⟩))) (hk:∀ q,ei h1 q [.string x.s]->K q (h1.lay bs w)):aD (fU T s p 1) (h1.lay bs w) K:=qZ (ds:=[.string x.s]) f iX rfl (se _) hk
theorem Sa {x:lC} (f:ei h1 p x.cells) (iX:∀ A o,fU T s (.pointer (some ⟨A,o,none⟩)) 2=some (.pointer (some ⟨A,o+2,none⟩))) (hk:∀ q,ei h1 q x.a.cells->K q (h1.lay bs w)):aD (fU T s p 2) (h1.lay bs w) K:=qZ (ds:=x.a.cells) f iX rfl (se _) hk
end
def OG (d:aw) (q:Int) (c:lC) (l:aW):Option (aW):=if c.k.tmod 2=0 then jW d q c.s c.a l else kZ d c.s c.a l
theorem zr9 (a:ak):∀ l:aW,(cD a l).length<=l.length+1
 | []=>bo _
 |x::r=>by
  unfold cD
  split
  .simp
  .split
   .simp
   .have:=zr9 a r
    simp only [de]
    omega
end Go.Am
namespace Go.Proofs.YtkgojconmeeegaaGreatDoor
open Go.Am Tryz
set_option maxRecDepth 100000
theorem zov:prog.cellsOf 36=13:=by kernel_rfl
theorem zC7 {h:Heap} {n:Nat} {cs:List ae} (hs:eJ prog h (n+6) 36 cs):∃ x,aJ.act.R h cs x:=by
 unfold eJ at hs
 rw [underlying36] at hs
 obtain ⟨hl,hf⟩:=hs
 rw [zov] at hl
 have h0:eJ prog h (n+5) 3 ((cs.drop 0).take 1):=hf 0 _ rfl
 have h1:eJ prog h (n+5) 9 ((cs.drop 1).take 1):=hf 1 _ rfl
 have h2:eJ prog h (n+5) 34 ((cs.drop 2).take 11):=hf 2 _ rfl
 obtain ⟨k,hk,_⟩:=RM h0
 obtain ⟨s,hs⟩:=CF h1
 obtain ⟨a,ha⟩:=RG (n:=n+1) h2
 refine ⟨⟨k,s,a⟩,?_⟩
 rw [fX (by simp;omega)] at ha
 match cs,hl with
 |x::y::r,_ =>
  simp only [List.drop_succ_cons,zO,R1,zP,List.cons.injEq,and_true] at hk hs ha
  rw [hk,hs,ha]
  rfl
theorem zzr {h:Heap} {n:Nat} {v:ae} (hs:wY prog h (n+8) 29 v):∃ l,Sl aJ.act h v l:=by
 unfold wY at hs
 rw [underlying29] at hs
 exact HR (n:=n+7) underlying29 zov (λcs hc=>zC7 (n:=n+1) hc) hs
end Go.Proofs.YtkgojconmeeegaaGreatDoor
namespace Go.Am
variable {T:bL} {fn:Func} {K:aG} {e:Env} {h:Heap}
theorem tW (hr:fn.results=#[]):eL T fn K .ret e h=K undef h:=by
 simp [eL,mV,hr,undef]
theorem tV (hr:fn.results=#[]):eL T fn K .normal e h=K undef h:=by
 simp [eL,mV,hr,undef]
theorem zxg {a b c:Tmp} (hr:fn.results=#[.tmp a,.tmp b,.tmp c]):eL T fn K .ret e h=K (.tuple #[e.get a,e.get b,e.get c]) h:=by
 simp [eL,mV,hr,sM]
theorem zjt {a b:Tmp} {y:TypeId} (hr:fn.results=#[.cell a y,.tmp b]):eL T fn K .ret e h=aD (fW T y (e.get a) h) h (λx h'=>K (.tuple #[x,e.get b]) h'):=by
 cases hl:fW T y (e.get a) h with
 |none=>simp [eL,mV,hr,sM,aD,hl]
 |some x=>simp [eL,mV,hr,sM,aD,hl]
end Go.Am
