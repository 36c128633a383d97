/- Founded reasons and their ranks: prefixes, and more facts and clauses. No condition. -/
import Derived.Test.YtdplfgoifjjniaaGreatDoorG19
import Derived.Test.YtdplfgoifjjniaaGreatDoorG21
set_option linter.unusedSimpArgs false
set_option linter.unusedVariables false
namespace Go.Am
def atR (l:List dW) (a:ab):Int:=kK (fun x=>decide (x.atom=a)) l
end Go.Am
namespace Go.Am
/-! ### Bindings of ground terms -/
structure Good (l:List gR):Prop where
 up:zDt l l.length
 ok:∀ b∈l,b.term.v=false∧b.term.s≠⟨#[]⟩
/-! ### One place of a pattern -/
def dU (σ:ByteArray→aQ) (t:aQ):aQ:=if t.v=true then σ t.s else t
/-! ### One atom -/
theorem zDM {a:ab} (h0:0≤a.n) (h4:a.n≤4):a.cx=a.n.toNat:=by unfold ab.cx;omega
/-! ### A body -/
/-! ### An atom under bindings -/
theorem ZI (a:ab):a.cx≤4:=by unfold ab.cx;omega
theorem gT.var {a:ab} (h:gT a) {i:Nat} (hi:i < a.cx) (hv:(a.arg i).v=true):(a.arg i).s≠⟨#[]⟩:=by
 have:=h.jJ i (gV.1 hi).2
 unfold dv at this
 rw [if_pos hv] at this
 intro e
 have hp:=this.pos
 rw [e] at hp
 exact absurd hp (by decide)
/-! ### Heads, rounds -/
theorem kh.plain {a:ab} (h:kh a):gn a:=h.valid.valid.plain
section
variable {cl:List bP} {facts:List ab}
/-! ### Founded reasons -/
end
end Go.Am
namespace Go.Am
theorem zkS {a:ab} (h:iQ a=0):∀ i,i < a.cx→dv (a.arg i):=by
 intro i hi
 unfold iQ at h
 split at h
 ·split at h
  ·cases h
  ·split at h
   ·cases h
   ·rename_i hb
    have nW:a.args.any E9=false:=by simpa using hb
    have hm:=List.any_eq_false.1 nW (a.arg i) (List.mem_of_getElem? (args_at hi))
    unfold E9 at hm
    simpa using hm
 ·cases h
theorem EE {d:au} {s:ByteArray} {a:ab} (h:gl d s a=0):bg d.aj s=true∧iu d a=0∧Z8 a=true∧a.says=s:=by
 unfold gl at h
 have h:=cH.1 h
 have h1:=(Gi (by decide)).1 (h (aX (!bg d.aj s) 6) (by simp))
 have h2:=h (iu d a) (by simp)
 have h3:=(Gi (by decide)).1 (h (aX (!Z8 a) 10) (by simp))
 have h4:=(Gi (by decide)).1 (h (aX (!decide (a.says=s)) 11) (by simp))
 refine ⟨by simpa using h1,h2,by simpa using h3,by simpa using h4⟩
theorem O5 {d:au} {a:ab} (h:iu d a=0):iQ a=0:=by
 unfold iu at h
 exact cH.1 h (iQ a) (by simp)
theorem zoQ {d:au} {s:ByteArray} {a:ab} (h:gl d s a=0):∀ x,(∃ i:Nat,i < a.cx∧(a.arg i).v=false∧(a.arg i).s=x)→x.size≠0∧x.size≤255:=by
 rintro x ⟨i,hi,hv,rfl⟩
 have ht:=zkS (O5 (EE h).2.1) i hi
 unfold dv at ht
 rw [hv] at ht
 have hl:=ht.1
 exact ⟨by have:=hl.pos;omega,hl.len⟩
theorem zs6 {a b:ab} (h:aM a b=0):cO a=cO b:=Gs h
theorem zmW (x:ab) (r:List ab) (a:ab):bV (x::r) a=((cO x == cO a) || bV r a):=rfl
theorem Mo {a:ab}:∀ {l:List ab},bV l a=false→(cB a l).Perm (a::l)
 | [],_=>List.Perm.refl _
 |x::r,h=>by
  rw [zmW,Bool.or_eq_false_iff] at h
  unfold cB
  split
  ·exact List.Perm.refl _
  ·split
   ·rename_i h0
    have:=zs6 h0
    rw [this] at h
    simp at h
   ·exact ((Mo h.2).cons x).trans (List.Perm.swap a x r)
theorem ZL {a:ab}:∀ {s:List ab},ez s→bV s a=true→∃ x,x∈s∧cO x=cO a∧s.Perm (x::fB a s)
 | [],_,h=>by cases h
 |x::r,hs,h=>by
  have g:=List.pairwise_cons.1 hs
  by_cases hx:cO x=cO a
  ·have hr:bV r a=false:=by
    cases hr:bV r a
    ·rfl
    ·obtain ⟨y,hy,e⟩:=dm.1 hr
     have aS:=g.1 y hy
     have hY:aM x y=aM x x:=by unfold aM;rw [e,hx]
     rw [hY,Gf] at aS
     omega
   have hd:fB a (x::r)=r:=by
    have h1:=zA8 hr
    unfold fB at h1 ⊢
    rw [List.filter_cons_of_neg (by simp [hx]),h1]
   exact ⟨x,List.mem_cons_self,hx,by rw [hd]⟩
  ·rw [zmW] at h
   have hr:bV r a=true:=by
    rcases Bool.or_eq_true_iff.1 h with h|h
    ·exact absurd (by simpa using h) hx
    ·exact h
   obtain ⟨y,hy,e,hp⟩:=ZL g.2 hr
   have hd:fB a (x::r)=x::fB a r:=by
    unfold fB
    rw [List.filter_cons_of_pos (by simpa using hx)]
   exact ⟨y,List.mem_cons_of_mem _ hy,e,by rw [hd];exact (hp.cons x).trans (List.Perm.swap y x _)⟩
open Classical in
noncomputable def jQ (a:ab) (t:ByteArray):Bool:=decide (∃ i:Nat,i < a.cx∧(a.arg i).v=false∧(a.arg i).s=t)
theorem iy {a:ab} {t:ByteArray}:jQ a t=true↔∃ i:Nat,i < a.cx∧(a.arg i).v=false∧(a.arg i).s=t:=by unfold jQ;simp
noncomputable def ig (l:List ab) (t:ByteArray):Nat:=l.countP (fun a=>jQ a t)
theorem zDj {a:ab} {l:List ab} (h:bV l a=false) (t:ByteArray):ig (cB a l) t=ig l t+(if jQ a t then 1 else 0):=by
 unfold ig
 rw [(Mo h).countP_eq,List.countP_cons]
theorem zDh {a:ab} {s:List ab} (hs:ez s) (h:bV s a=true) (hi:∀ x∈s,cO x=cO a→x=a) (t:ByteArray):ig s t=ig (fB a s) t+(if jQ a t then 1 else 0):=by
 obtain ⟨x,hx,e,p⟩:=ZL hs h
 rw [hi x hx e] at p
 unfold ig
 rw [p.countP_eq,List.countP_cons]
theorem zDi {l:List ab} {a:ab} {t:ByteArray} (h:a∈l) (ht:jQ a t=true):0 < ig l t:=List.countP_pos_iff.2 ⟨a,h,ht⟩
noncomputable def ji (names:List ByteArray) (facts:ByteArray→List ab) (t:ByteArray):Nat:=(names.map fun w=>ig (facts w) t).sum
theorem zpH {facts:ByteArray→List ab} {s:ByteArray} {l:List ab} (t:ByteArray):∀ {names:List ByteArray},names.Nodup→s∈names→ji names (fun x=>if x=s then l else facts x) t+ig (facts s) t=ji names facts t+ig l t
 | [],_,h=>by cases h
 |w::r,hn,h=>by
  rw [List.nodup_cons] at hn
  unfold ji
  rw [List.map_cons,List.map_cons,List.sum_cons,List.sum_cons]
  dsimp only
  by_cases hw:w=s
  ·subst hw
   have hr:(r.map fun x=>ig (if x=w then l else facts x) t)=r.map fun x=>ig (facts x) t:=List.map_congr_left fun x hx=>by rw [if_neg (fun e=>by rw [e] at hx;exact hn.1 hx)]
   rw [if_pos rfl,hr]
   omega
  ·have ih:=zpH (facts:=facts) (l:=l) t hn.2 ((List.mem_cons.1 h).resolve_left (fun e=>hw e.symm))
   unfold ji at ih
   dsimp only at ih
   rw [if_neg hw]
   omega
theorem zvU {facts:ByteArray→List ab} {s t:ByteArray}:∀ {names:List ByteArray},s∈names→0 < ig (facts s) t→0 < ji names facts t
 |w::r,h,hp=>by
  unfold ji
  rw [List.map_cons,List.sum_cons]
  rcases List.mem_cons.1 h with e|h
  ·subst e;omega
  ·have:=zvU h hp
   unfold ji at this
   omega
theorem zjN {a:ab} (h:iQ a=0):gT a:=by
 have ht:=zkS h
 unfold iQ at h
 split at h
 ·rename_i hp
  rw [Bool.and_eq_true,bM,bM] at hp
  split at h
  ·cases h
  ·rename_i hn
   split at h
   ·cases h
   ·split at h
    ·cases h
    ·rename_i hr
     have hU:=List.any_eq_false.1 (by simpa using hr:((a.all.drop a.cx).any fun t => !decide (t=bT))=false)
     refine ⟨hp.1,hp.2,by omega,by omega,fun i hi=>ht i (gV.2 ⟨by omega,hi⟩),fun i hi h4=>?_⟩
     have hc:a.cx≤i:=by
      refine Nat.le_of_not_lt fun hh=>?_
      have:=(gV.1 hh).2
      omega
     have hm:a.arg i∈a.all.drop a.cx:=by
      refine List.mem_of_getElem? (i:=i - a.cx) ?_
      rw [List.getElem?_drop,show a.cx+(i - a.cx)=i by omega]
      match i,h4 with
      |0,_=>rfl
      |1,_=>rfl
      |2,_=>rfl
      |3,_=>rfl
     simpa using hU _ hm
 ·cases h
theorem PB {d:au} {s:ByteArray} {a:ab} (h:gl d s a=0):kh a:=⟨zjN (O5 (EE h).2.1),(EE h).2.2.1⟩
theorem zqb {a b:ab} (ha:kh a) (hb:kh b) (h:cO a=cO b):a=b:=Za ha.plain hb.plain h
structure da (d:au) (k:Nat) (facts:ByteArray→List ab) (aI us:ByteArray→Nat):Prop where
 iS:∀ w,ez (facts w)
 ok:∀ w,∀ a∈facts w,gl d w a=0
 len:∀ w,(facts w).length≤k
 Be:∀ w,aI w≤k
 use:∀ t,us t=ji d.aj facts t
theorem da.empty (d:au):da d 0 (fun _=>[]) (fun _=>0) (fun _=>0):=by
 refine ⟨fun _=>List.Pairwise.nil,(fun _ _ h=>nomatch h),fun _=>Nat.le_refl 0,fun _=>Nat.le_refl 0,fun t=>?_⟩
 unfold ji
 induction d.aj with
 |nil=>rfl
 |cons w r ih=>rw [List.map_cons,List.sum_cons,← ih];rfl
section
variable {d:au} {k:Nat} {facts:ByteArray→List ab} {aI us ko:ByteArray→Nat} {s:ByteArray} {a:ab}
theorem da.more (i:da d k facts aI us) {m:Nat} (h:k≤m):da d m facts aI us:=⟨i.iS,i.ok,fun w=>Nat.le_trans (i.len w) h,fun w=>Nat.le_trans (i.Be w) h,i.use⟩
theorem da.fact (i:da d k facts aI us) {x:ab} (h:x∈facts s):kh x:=PB (i.ok s x h)
theorem da.has (i:da d k facts aI us) (h:gl d s a=0):bV (facts s) a=true↔a∈facts s:=by
 rw [dm]
 exact ⟨fun ⟨x,hx,e⟩=>by rw [← zqb (i.fact hx) (PB h) e];exact hx,fun hm=>⟨a,hm,rfl⟩⟩
theorem da.pos (i:da d k facts aI us) (h:gl d s a=0) (hh:bV (facts s) a=true) {t:ByteArray} (ht:jQ a t=true):0 < us t:=by
 rw [i.use]
 exact zvU (cI.1 (EE h).1) (zDi ((i.has h).1 hh) ht)
theorem da.del (i:da d k facts aI us) (hn:d.aj.Nodup) (h:gl d s a=0) (hh:bV (facts s) a=true) (hu:∀ t,ko t=us t - (if jQ a t then 1 else 0)):da d (k+1) (fun x=>if x=s then fB a (facts s) else facts x) (fun x=>if x=s then aI s+1 else aI x) ko:=by
 refine ⟨fun w=>?_,fun w x hx=>?_,fun w=>?_,fun w=>?_,fun t=>?_⟩
 ·split
  ·exact (i.iS s).sublist List.filter_sublist
  ·exact i.iS w
 ·split at hx
  ·rename_i e
   rw [e]
   exact i.ok s x (List.filter_sublist.subset hx)
  ·exact i.ok w x hx
 ·split
  ·exact Nat.le_trans (List.length_filter_le _ _) (Nat.le_trans (i.len s) (Nat.le_succ k))
  ·exact Nat.le_trans (i.len w) (Nat.le_succ k)
 ·split
  ·have:=i.Be s;omega
  ·have:=i.Be w;omega
 ·rw [hu,i.use]
  have h1:=zpH (facts:=facts) (s:=s) (l:=fB a (facts s)) t hn (cI.1 (EE h).1)
  have h2:=zDh (i.iS s) hh (fun x hx e=>zqb (i.fact hx) (PB h) e) t
  omega
theorem da.put (i:da d k facts aI us) (hn:d.aj.Nodup) (h:gl d s a=0) (hh:bV (facts s) a=false) (hu:∀ t,ko t=us t+(if jQ a t then 1 else 0)):da d (k+1) (fun x=>if x=s then cB a (facts s) else facts x) (fun x=>if x=s then aI s+1 else aI x) ko:=by
 refine ⟨fun w=>?_,fun w x hx=>?_,fun w=>?_,fun w=>?_,fun t=>?_⟩
 ·split
  ·exact O7 (i.iS s)
  ·exact i.iS w
 ·split at hx
  ·rename_i e
   rw [e]
   rcases List.mem_cons.1 ((Mo hh).subset hx) with e2|hx
   ·rw [e2];exact h
   ·exact i.ok s x hx
  ·exact i.ok w x hx
 ·split
  ·rw [(Mo hh).length_eq,List.length_cons]
   have:=i.len s
   omega
  ·exact Nat.le_trans (i.len w) (Nat.le_succ k)
 ·split
  ·have:=i.Be s;omega
  ·have:=i.Be w;omega
 ·rw [hu,i.use]
  have h1:=zpH (facts:=facts) (s:=s) (l:=cB a (facts s)) t hn (cI.1 (EE h).1)
  have h2:=zDj hh t
  omega
end
theorem zos {d:au} (h:mT d=0):d.aj.Nodup∧d.aj.length≤16:=by
 unfold mT at h
 have h:=cH.1 h (pj d.aj) (by simp)
 unfold pj at h
 split at h
 ·cases h
 ·rename_i hl
  refine ⟨List.pairwise_iff_getElem.2 fun i j hi hj dh e=>?_,by omega⟩
  have h2:=iZ.1 h j d.aj[j] (List.getElem?_eq_getElem hj)
  have h3:=(Gi (by decide)).1 (cH.1 h2 (aX (bg ([]++d.aj.take j) d.aj[j]) 5) (by simp))
  have h4:bg ([]++d.aj.take j) d.aj[j]=true:=cI.2 (by
   rw [List.nil_append,← e]
   refine List.mem_of_getElem? (i:=i) ?_
   rw [List.getElem?_take,if_pos dh,List.getElem?_eq_getElem hi])
  rw [h3] at h4
  cases h4
end Go.Am
namespace Go.Am
noncomputable def fG (d:au) (q:Int) (s:ByteArray) (a:ab) (l:List ab):Option (List ab) :=
 if gl d s a=0 then (if bV l a=true then none else if ((cB a l).length:Int)≤q then some (cB a l) else none) else none
noncomputable def gu (d:au) (s:ByteArray) (a:ab) (l:List ab):Option (List ab) :=
 if gl d s a=0 then (if bV l a=true then some (fB a l) else none) else none
noncomputable def jZ (d:au) (q:Int) (s:ByteArray) (a:ab) (l:List ab):Int :=
 if gl d s a=0 then (if bV l a=true then 0 else if ((cB a l).length:Int)≤q then 0 else 12) else gl d s a
def sx (facts:ByteArray→List ab) (s:ByteArray) (o:Option (List ab)):ByteArray→List ab:=fun x=>if x=s then o.getD (facts s) else facts x
def vD (aI:ByteArray→Nat) (s:ByteArray) (o:Option (List ab)):ByteArray→Nat:=fun x=>if x=s then aI s+(if o.isSome=true then 1 else 0) else aI x
theorem El (facts:ByteArray→List ab) (s:ByteArray):sx facts s none=facts:=by
 funext x;unfold sx;split
 ·rename_i e;rw [e];rfl
 ·rfl
theorem Mb (aI:ByteArray→Nat) (s:ByteArray):vD aI s none=aI:=by
 funext x;unfold vD;split
 ·rename_i e;rw [e];rfl
 ·rfl
theorem zAS {facts:ByteArray→List ab} {s w:ByteArray} {o:Option (List ab)} (h:¬ s=w):sx facts s o w=facts w:=if_neg (fun e=>h e.symm)
theorem zkV (facts:ByteArray→List ab) (s:ByteArray) (o:Option (List ab)):sx facts s o s=o.getD (facts s):=if_pos rfl
theorem zst (aI:ByteArray→Nat) (s:ByteArray) (o:Option (List ab)):vD aI s o s=aI s+(if o.isSome=true then 1 else 0):=if_pos rfl
theorem zoR {a:ab} (h:kh a):a.ba=true:=by
 have hv:=h.valid
 have ha:∀ i,i < 4→(a.arg i).s.size≤300:=fun i hi=>by
  by_cases hn:(i:Int) < a.n
  ·have ht:=hv.jJ i hn
   unfold dv at ht
   split at ht
   ·have:=ht.len;omega
   ·have:=ht.1.len;omega
  ·rw [hv.rest i (by omega) hi];decide
 have h1:=hv.says.1.1.len
 have h2:=hv.pred.1.1.len
 simp only [ab.ba,Bool.and_eq_true,decide_eq_true_eq]
 exact ⟨by omega,by omega,ha 0 (by omega),ha 1 (by omega),ha 2 (by omega),ha 3 (by omega)⟩
theorem zrh {d:au} {s:ByteArray} {a:ab} (h:gl d s a=0):a.ba=true:=zoR (PB h)
theorem zEC (l:List ab) (t:ByteArray):ig l t≤l.length:=List.countP_le_length
theorem zBo {facts:ByteArray→List ab} {k:Nat} (h:∀ w,(facts w).length≤k) (t:ByteArray):∀ names:List ByteArray,ji names facts t≤names.length*k
 | []=>by unfold ji;simp
 |w::r=>by
  have ih:=zBo h t r
  unfold ji at ih ⊢
  rw [List.map_cons,List.sum_cons,List.length_cons,Nat.succ_mul]
  have h1:=zEC (facts w) t
  have h2:=h w
  omega
section
variable {d:au} {k m:Nat} {facts:ByteArray→List ab} {aI us ko:ByteArray→Nat} {s:ByteArray} {a:ab} {q:Int}
theorem da.ba (i:da d k facts aI us) {x:ab} (h:x∈facts s):x.ba=true:=zrh (i.ok s x h)
theorem da.Bd (i:da d k facts aI us) (t:ByteArray):us t≤d.aj.length*k:=by rw [i.use];exact zBo i.len t _
theorem da.sort (i:da d k facts aI us) (w:ByteArray):jT (facts w)=facts w:=znP (i.iS w)
theorem da.Xv (i:da d k facts aI us) (hn:d.aj.Nodup) (h:gl d s a=0) (hh:bV (facts s) a=false) (hu:∀ t,ko t=us t+(if jQ a t then 1 else 0)):da d (k+1) (sx facts s (some (cB a (facts s)))) (vD aI s (some (cB a (facts s)))) ko:=i.put hn h hh hu
theorem da.Tn (i:da d k facts aI us) (hn:d.aj.Nodup) (h:gl d s a=0) (hh:bV (facts s) a=true) (hu:∀ t,ko t=us t - (if jQ a t then 1 else 0)):da d (k+1) (sx facts s (some (fB a (facts s)))) (vD aI s (some (fB a (facts s)))) ko:=i.del hn h hh hu
end
theorem zvT {facts:ByteArray→List ab} {t:ByteArray}:∀ {names:List ByteArray},0 < ji names facts t↔∃ w∈names,∃ a∈facts w,jQ a t=true
 | []=>by unfold ji;simp
 |w::r=>by
  have ih:=zvT (facts:=facts) (t:=t) (names:=r)
  unfold ji at ih ⊢
  rw [List.map_cons,List.sum_cons]
  have h1:0 < ig (facts w) t↔∃ a∈facts w,jQ a t=true:=by unfold ig;rw [List.countP_pos_iff]
  constructor
  ·intro h
   by_cases hw:0 < ig (facts w) t
   ·exact ⟨w,List.mem_cons_self,h1.1 hw⟩
   ·obtain ⟨x,hx,e⟩:=ih.1 (by omega)
    exact ⟨x,List.mem_cons_of_mem _ hx,e⟩
  ·rintro ⟨x,hx,e⟩
   rcases List.mem_cons.1 hx with rfl|hx
   ·have:=h1.2 e;omega
   ·have:=ih.2 ⟨x,hx,e⟩;omega
theorem zot {d:au} (h:mT d=0):0≤d.du:=by
 unfold mT at h
 have h:=cH.1 h (vk d) (by simp)
 unfold vk at h
 have h:=(Gi (by decide)).1 h
 simp only [Bool.or_eq_false_iff,decide_eq_false_iff_not] at h
 omega
/-! ### Calls -/
structure jq where
 k:Int
 s:ByteArray
 a:ab
def jq.cells (x:jq):List Value:=.int .i64 x.k::.string x.s::x.a.cells
abbrev aK.act:aK jq:={ k:=13,R:=fun _ cs x=>cs=x.cells,len:=by rintro _ _ _ rfl;rfl,mono:=fun _ _ _ _ _ h=>h,gK:=by rintro _ _ _ rfl;rfl }
section
variable {T:bD} {t e s:TypeId} {kd:IntKind} {i:Int} {v p:Value} {h1:Heap} {bs:List bh} {w:Nat} {K:Value→Heap→Prop}
theorem wA {l:List jq} {x:jq} (f:Sl aK.act h1 v l) (hd:T.desc t=some (.slice e)) (hs:bO T e=some 13) (h0:0≤i) (hx:l[i.toNat]? = some x) (hk:∀ p,eC h1 p x.cells→K p (h1.lay bs w)):aU (fM T t v (.int kd i)) (h1.lay bs w) K:=by
 have hi:=(List.getElem?_eq_some_iff.1 hx).1
 refine zO f hd hs h0 (by omega) (fun x' p cs lO hr hp=>?_)
 rw [hx] at lO
 cases lO
 exact hk p (hr ▸ hp)
theorem zD2 {x:jq} (f:eC h1 p x.cells) (jy:∀ A o,cV T s (.pointer (some ⟨A,o,none⟩)) 0=some (.pointer (some ⟨A,o+0,none⟩))) (hk:∀ q,eC h1 q [.int .i64 x.k]→K q (h1.lay bs w)):aU (cV T s p 0) (h1.lay bs w) K:=rD (ds:=[.int .i64 x.k]) f jy rfl (Nat.succ_pos _) hk
theorem zW {x:jq} (f:eC h1 p x.cells) (jy:∀ A o,cV T s (.pointer (some ⟨A,o,none⟩)) 1=some (.pointer (some ⟨A,o+1,none⟩))) (hk:∀ q,eC h1 q [.string x.s]→K q (h1.lay bs w)):aU (cV T s p 1) (h1.lay bs w) K:=rD (ds:=[.string x.s]) f jy rfl (Nat.succ_pos _) hk
theorem ztu {x:jq} (f:eC h1 p x.cells) (jy:∀ A o,cV T s (.pointer (some ⟨A,o,none⟩)) 2=some (.pointer (some ⟨A,o+2,none⟩))) (hk:∀ q,eC h1 q x.a.cells→K q (h1.lay bs w)):aU (cV T s p 2) (h1.lay bs w) K:=rD (ds:=x.a.cells) f jy rfl (Nat.succ_pos _) hk
end
noncomputable def nF (d:au) (q:Int) (c:jq) (l:List ab):Option (List ab):=if c.k.tmod 2=0 then fG d q c.s c.a l else gu d c.s c.a l
theorem zuB (a:ab):∀ l:List ab,(cB a l).length≤l.length+1
 | []=>Nat.le_refl _
 |x::r=>by
  unfold cB
  split
  ·simp
  ·split
   ·simp
   ·have:=zuB a r
    simp only [List.length_cons]
    omega
theorem ztM {d:au} {q:Int} {s:ByteArray} {a:ab} {l m:List ab} (h:fG d q s a l=some m):gl d s a=0∧bV l a=false∧m=cB a l∧((cB a l).length:Int)≤q:=by
 unfold fG at h
 split at h
 ·rename_i h1
  split at h
  ·cases h
  ·rename_i h2
   split at h
   ·rename_i h3
    cases h
    exact ⟨h1,by simpa using h2,rfl,h3⟩
   ·cases h
 ·cases h
theorem ztO {d:au} {q:Int} {c:jq} {l:List ab} (h:(l.length:Int)≤q):(((nF d q c l).getD l).length:Int)≤q:=by
 unfold nF fG gu
 have h2:(fB c.a l).length≤l.length:=List.length_filter_le _ _
 repeat' split
 all_goals simp only [Option.getD_some,Option.getD_none]
 all_goals omega
theorem zwN {d:au} {q:Int} {s:ByteArray} {a:ab} {l:List ab} (h:(fG d q s a l).isSome=true):jZ d q s a l=0:=by
 cases h2:fG d q s a l with
 |none=>rw [h2] at h;cases h
 |some m =>
  obtain ⟨g1,g2,g3,g4⟩:=ztM h2
  unfold jZ
  rw [if_pos g1,if_neg (by rw [g2];decide),if_pos g4]
theorem ztN {d:au} {s:ByteArray} {a:ab} {l m:List ab} (h:gu d s a l=some m):gl d s a=0∧bV l a=true∧m=fB a l:=by
 unfold gu at h
 split at h
 ·rename_i h1
  split at h
  ·rename_i h2
   cases h
   exact ⟨h1,h2,rfl⟩
  ·cases h
 ·cases h
theorem zwO {d:au} {q:Int} {c:jq} {l m:List ab} (hs:ez l) (h:nF d q c l=some m):m.length=l.length+1∨m.length+1=l.length:=by
 unfold nF at h
 split at h
 ·obtain ⟨g1,g2,rfl,g4⟩:=ztM h
  exact .inl (by rw [(Mo g2).length_eq,List.length_cons])
 ·obtain ⟨g1,g2,rfl⟩:=ztN h
  obtain ⟨x,hx,e,p⟩:=ZL hs g2
  have:=p.length_eq
  rw [List.length_cons] at this
  omega
end Go.Am
namespace Go.Proofs.YtdplfgoifjjniaaGreatDoor
open Go.Am
set_option maxRecDepth 100000
theorem zmj:Tryz.prog.cellsOf 57=13:=by kernel_rfl
theorem zC3 {h:Heap} {n:Nat} {cs:List Value} (hs:dX Tryz.prog h (n+6) 57 cs):∃ x,aK.act.R h cs x:=by
 unfold dX at hs
 rw [Tryz.underlying57] at hs
 obtain ⟨hl,hf⟩:=hs
 rw [zmj] at hl
 have h0:dX Tryz.prog h (n+5) 3 ((cs.drop 0).take 1):=hf 0 _ rfl
 have h1:dX Tryz.prog h (n+5) 9 ((cs.drop 1).take 1):=hf 1 _ rfl
 have h2:dX Tryz.prog h (n+5) 42 ((cs.drop 2).take 11):=hf 2 _ rfl
 obtain ⟨k,hk,_⟩:=MJ h0
 obtain ⟨s,hs⟩:=Bn h1
 obtain ⟨a,ha⟩:=Pf (n:=n+1) h2
 refine ⟨⟨k,s,a⟩,?_⟩
 rw [List.take_of_length_le (by simp;omega)] at ha
 match cs,hl with
 |x::y::r,_ =>
  simp only [List.drop_succ_cons,List.drop_zero,List.take_succ_cons,List.take_zero,List.cons.injEq,and_true] at hk hs ha
  rw [hk,hs,ha]
  rfl
theorem zwh {h:Heap} {n:Nat} {v:Value} (hs:BH Tryz.prog h (n+8) 48 v):∃ l,Sl aK.act h v l:=by
 unfold BH at hs
 rw [Tryz.underlying48] at hs
 exact EY (n:=n+7) Tryz.underlying48 zmj (fun cs hc=>zC3 (n:=n+1) hc) hs
end Go.Proofs.YtdplfgoifjjniaaGreatDoor
namespace Go.Am
variable {T:bD} {fn:Func} {K:Value→Heap→Prop} {e:Env} {h:Heap}
theorem s9 (hr:fn.results=#[]):aA T fn K .ret e h=K undef h:=by
 simp [aA,lF,hr,undef]
theorem sZ (hr:fn.results=#[]):aA T fn K .normal e h=K undef h:=by
 simp [aA,lF,hr,undef]
end Go.Am
