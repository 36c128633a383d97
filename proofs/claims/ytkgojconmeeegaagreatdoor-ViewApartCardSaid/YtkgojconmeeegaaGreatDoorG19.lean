/- Founded reasons and their ranks: prefixes, and more facts and clauses. No condition. -/
import Derived.Test.YtkgojconmeeegaaGreatDoorG16
import Derived.Test.YtkgojconmeeegaaGreatDoorG18
set_option linter.unusedSimpArgs false
set_option linter.unusedVariables false
namespace Go.Am
def atR (l:List eo) (a:ab):Int:=j4 (fun x=>decide (x.atom=a)) l
end Go.Am
namespace Go.Am
/-! ### Bindings of ground terms -/
structure Good (l:List iT):Prop where
 up:zHe l l.length
 ok:∀ b∈l,b.term.v=false∧b.term.s≠⟨#[]⟩
/-! ### One place of a pattern -/
def gO (σ:ByteArray→aX) (t:aX):aX:=if t.v=true then σ t.s else t
/-! ### One atom -/
theorem zHy {a:ab} (h0:0≤a.n) (h4:a.n≤4):a.cL=a.n.toNat:=by unfold ab.cL;omega
/-! ### A body -/
/-! ### An atom under bindings -/
theorem Ud (a:ab):a.cL≤4:=by unfold ab.cL;omega
theorem iV.var {a:ab} (h:iV a) {i:Nat} (hi:i < a.cL) (hv:(a.arg i).v=true):(a.arg i).s≠⟨#[]⟩:=by
 have:=h.kL i (iW.1 hi).2
 unfold dO at this
 rw [if_pos hv] at this
 intro e
 have hp:=this.pos
 rw [e] at hp
 exact absurd hp (by decide)
/-! ### Heads, rounds -/
theorem lz.plain {a:ab} (h:lz a):ie a:=h.valid.valid.plain
section
variable {cl:List bZ} {facts:List ab}
/-! ### Founded reasons -/
end
end Go.Am
namespace Go.Am
theorem zlF {a:ab} (h:jJ a=0):∀ i,i < a.cL→dO (a.arg i):=by
 intro i hi
 unfold jJ at h
 split at h
 ·split at h
  ·cases h
  ·split at h
   ·cases h
   ·rename_i hb
    have pI:a.args.any Ic=false:=by simpa using hb
    have hm:=List.any_eq_false.1 pI (a.arg i) (List.mem_of_getElem? (args_at hi))
    unfold Ic at hm
    simpa using hm
 ·cases h
theorem Es {d:au} {s:ByteArray} {a:ab} (h:fo d s a=0):ba d.ah s=true∧ia d a=0∧J5 a=true∧a.says=s:=by
 unfold fo at h
 have h:=bU.1 h
 have h1:=(yZ (by decide)).1 (h (bd (!ba d.ah s) 6) (by simp))
 have h2:=h (ia d a) (by simp)
 have h3:=(yZ (by decide)).1 (h (bd (!J5 a) 10) (by simp))
 have h4:=(yZ (by decide)).1 (h (bd (!decide (a.says=s)) 11) (by simp))
 refine ⟨by simpa using h1,h2,by simpa using h3,by simpa using h4⟩
theorem W5 {d:au} {a:ab} (h:ia d a=0):jJ a=0:=by
 unfold ia at h
 exact bU.1 h (jJ a) (by simp)
theorem zp4 {d:au} {s:ByteArray} {a:ab} (h:fo d s a=0):∀ x,(∃ i:Nat,i < a.cL∧(a.arg i).v=false∧(a.arg i).s=x)→x.size≠0∧x.size≤255:=by
 rintro x ⟨i,hi,hv,rfl⟩
 have ht:=zlF (W5 (Es h).2.1) i hi
 unfold dO at ht
 rw [hv] at ht
 have hl:=ht.1
 exact ⟨by have:=hl.pos;omega,hl.len⟩
theorem zuJ {a b:ab} (h:aQ a b=0):cI a=cI b:=JW h
theorem zn1 (x:ab) (r:List ab) (a:ab):bC (x::r) a=((cI x == cI a) || bC r a):=rfl
theorem JZ {a:ab}:∀ {l:List ab},bC l a=false→(cA a l).Perm (a::l)
 | [],_=>List.Perm.refl _
 |x::r,h=>by
  rw [zn1,Bool.or_eq_false_iff] at h
  unfold cA
  split
  ·exact List.Perm.refl _
  ·split
   ·rename_i h0
    have:=zuJ h0
    rw [this] at h
    simp at h
   ·exact ((JZ h.2).cons x).trans (List.Perm.swap a x r)
theorem Uh {a:ab}:∀ {s:List ab},dR s→bC s a=true→∃ x,x∈s∧cI x=cI a∧s.Perm (x::eW a s)
 | [],_,h=>by cases h
 |x::r,hs,h=>by
  have g:=List.pairwise_cons.1 hs
  by_cases hx:cI x=cI a
  ·have hr:bC r a=false:=by
    cases hr:bC r a
    ·rfl
    ·obtain ⟨y,hy,e⟩:=cR.1 hr
     have aR:=g.1 y hy
     have gU:aQ x y=aQ x x:=by unfold aQ;rw [e,hx]
     rw [gU,JN] at aR
     omega
   have hd:eW a (x::r)=r:=by
    have h1:=Jg hr
    unfold eW at h1 ⊢
    rw [List.filter_cons_of_neg (by simp [hx]),h1]
   exact ⟨x,List.mem_cons_self,hx,by rw [hd]⟩
  ·rw [zn1] at h
   have hr:bC r a=true:=by
    rcases Bool.or_eq_true_iff.1 h with h|h
    ·exact absurd (by simpa using h) hx
    ·exact h
   obtain ⟨y,hy,e,hp⟩:=Uh g.2 hr
   have hd:eW a (x::r)=x::eW a r:=by
    unfold eW
    rw [List.filter_cons_of_pos (by simpa using hx)]
   exact ⟨y,List.mem_cons_of_mem _ hy,e,by rw [hd];exact (hp.cons x).trans (List.Perm.swap y x _)⟩
open Classical in
noncomputable def rX (a:ab) (t:ByteArray):Bool:=decide (∃ i:Nat,i < a.cL∧(a.arg i).v=false∧(a.arg i).s=t)
theorem kH {a:ab} {t:ByteArray}:rX a t=true↔∃ i:Nat,i < a.cL∧(a.arg i).v=false∧(a.arg i).s=t:=by unfold rX;simp
noncomputable def kM (l:List ab) (t:ByteArray):Nat:=l.countP (fun a=>rX a t)
theorem zG3 {a:ab} {l:List ab} (h:bC l a=false) (t:ByteArray):kM (cA a l) t=kM l t+(if rX a t then 1 else 0):=by
 unfold kM
 rw [(JZ h).countP_eq,List.countP_cons]
theorem zG1 {a:ab} {s:List ab} (hs:dR s) (h:bC s a=true) (hi:∀ x∈s,cI x=cI a→x=a) (t:ByteArray):kM s t=kM (eW a s) t+(if rX a t then 1 else 0):=by
 obtain ⟨x,hx,e,p⟩:=Uh hs h
 rw [hi x hx e] at p
 unfold kM
 rw [p.countP_eq,List.countP_cons]
theorem zG2 {l:List ab} {a:ab} {t:ByteArray} (h:a∈l) (ht:rX a t=true):0 < kM l t:=List.countP_pos_iff.2 ⟨a,h,ht⟩
noncomputable def lX (names:List ByteArray) (facts:ByteArray→List ab) (t:ByteArray):Nat:=(names.map fun w=>kM (facts w) t).sum
theorem UO {facts:ByteArray→List ab} {s:ByteArray} {l:List ab} (t:ByteArray):∀ {names:List ByteArray},names.Nodup→s∈names→lX names (fun x=>if x=s then l else facts x) t+kM (facts s) t=lX names facts t+kM l t
 | [],_,h=>by cases h
 |w::r,hn,h=>by
  rw [List.nodup_cons] at hn
  unfold lX
  rw [List.map_cons,List.map_cons,List.sum_cons,List.sum_cons]
  dsimp only
  by_cases hw:w=s
  ·subst hw
   have hr:(r.map fun x=>kM (if x=w then l else facts x) t)=r.map fun x=>kM (facts x) t:=List.map_congr_left fun x hx=>by rw [if_neg (fun e=>by rw [e] at hx;exact hn.1 hx)]
   rw [if_pos rfl,hr]
   omega
  ·have ih:=UO (facts:=facts) (l:=l) t hn.2 ((List.mem_cons.1 h).resolve_left (fun e=>hw e.symm))
   unfold lX at ih
   dsimp only at ih
   rw [if_neg hw]
   omega
theorem zyd {facts:ByteArray→List ab} {s t:ByteArray}:∀ {names:List ByteArray},s∈names→0 < kM (facts s) t→0 < lX names facts t
 |w::r,h,hp=>by
  unfold lX
  rw [List.map_cons,List.sum_cons]
  rcases List.mem_cons.1 h with e|h
  ·subst e;omega
  ·have:=zyd h hp
   unfold lX at this
   omega
theorem zki {a:ab} (h:jJ a=0):iV a:=by
 have ht:=zlF h
 unfold jJ at h
 split at h
 ·rename_i hp
  rw [Bool.and_eq_true,bV,bV] at hp
  split at h
  ·cases h
  ·rename_i hn
   split at h
   ·cases h
   ·split at h
    ·cases h
    ·rename_i hr
     have jb:=List.any_eq_false.1 (by simpa using hr:((a.all.drop a.cL).any fun t => !decide (t=cm))=false)
     refine ⟨hp.1,hp.2,by omega,by omega,fun i hi=>ht i (iW.2 ⟨by omega,hi⟩),fun i hi h4=>?_⟩
     have hc:a.cL≤i:=by
      refine Nat.le_of_not_lt fun hh=>?_
      have:=(iW.1 hh).2
      omega
     have hm:a.arg i∈a.all.drop a.cL:=by
      refine List.mem_of_getElem? (i:=i - a.cL) ?_
      rw [List.getElem?_drop,show a.cL+(i - a.cL)=i by omega]
      match i,h4 with
      |0,_=>rfl
      |1,_=>rfl
      |2,_=>rfl
      |3,_=>rfl
     simpa using jb _ hm
 ·cases h
theorem Ki {d:au} {s:ByteArray} {a:ab} (h:fo d s a=0):lz a:=⟨zki (W5 (Es h).2.1),(Es h).2.2.1⟩
theorem Uv {a b:ab} (ha:lz a) (hb:lz b) (h:cI a=cI b):a=b:=T3 ha.plain hb.plain h
structure cQ (d:au) (k:Nat) (facts:ByteArray→List ab) (aA us:ByteArray→Nat):Prop where
 iI:∀ w,dR (facts w)
 ok:∀ w,∀ a∈facts w,fo d w a=0
 len:∀ w,(facts w).length≤k
 Ef:∀ w,aA w≤k
 use:∀ t,us t=lX d.ah facts t
theorem cQ.empty (d:au):cQ d 0 (fun _=>[]) (fun _=>0) (fun _=>0):=by
 refine ⟨fun _=>List.Pairwise.nil,(fun _ _ h=>nomatch h),fun _=>Nat.le_refl 0,fun _=>Nat.le_refl 0,fun t=>?_⟩
 unfold lX
 induction d.ah with
 |nil=>rfl
 |cons w r ih=>rw [List.map_cons,List.sum_cons,← ih];rfl
section
variable {d:au} {k:Nat} {facts:ByteArray→List ab} {aA us lF:ByteArray→Nat} {s:ByteArray} {a:ab}
theorem cQ.more (i:cQ d k facts aA us) {m:Nat} (h:k≤m):cQ d m facts aA us:=⟨i.iI,i.ok,fun w=>Nat.le_trans (i.len w) h,fun w=>Nat.le_trans (i.Ef w) h,i.use⟩
theorem cQ.fact (i:cQ d k facts aA us) {x:ab} (h:x∈facts s):lz x:=Ki (i.ok s x h)
theorem cQ.has (i:cQ d k facts aA us) (h:fo d s a=0):bC (facts s) a=true↔a∈facts s:=by
 rw [cR]
 exact ⟨fun ⟨x,hx,e⟩=>by rw [← Uv (i.fact hx) (Ki h) e];exact hx,fun hm=>⟨a,hm,rfl⟩⟩
theorem cQ.pos (i:cQ d k facts aA us) (h:fo d s a=0) (hh:bC (facts s) a=true) {t:ByteArray} (ht:rX a t=true):0 < us t:=by
 rw [i.use]
 exact zyd (cp.1 (Es h).1) (zG2 ((i.has h).1 hh) ht)
theorem cQ.del (i:cQ d k facts aA us) (hn:d.ah.Nodup) (h:fo d s a=0) (hh:bC (facts s) a=true) (hu:∀ t,lF t=us t - (if rX a t then 1 else 0)):cQ d (k+1) (fun x=>if x=s then eW a (facts s) else facts x) (fun x=>if x=s then aA s+1 else aA x) lF:=by
 refine ⟨fun w=>?_,fun w x hx=>?_,fun w=>?_,fun w=>?_,fun t=>?_⟩
 ·split
  ·exact (i.iI s).sublist List.filter_sublist
  ·exact i.iI w
 ·split at hx
  ·rename_i e
   rw [e]
   exact i.ok s x (List.filter_sublist.subset hx)
  ·exact i.ok w x hx
 ·split
  ·exact Nat.le_trans (List.length_filter_le _ _) (Nat.le_trans (i.len s) (Nat.le_succ k))
  ·exact Nat.le_trans (i.len w) (Nat.le_succ k)
 ·split
  ·have:=i.Ef s;omega
  ·have:=i.Ef w;omega
 ·rw [hu,i.use]
  have h1:=UO (facts:=facts) (s:=s) (l:=eW a (facts s)) t hn (cp.1 (Es h).1)
  have h2:=zG1 (i.iI s) hh (fun x hx e=>Uv (i.fact hx) (Ki h) e) t
  omega
theorem cQ.put (i:cQ d k facts aA us) (hn:d.ah.Nodup) (h:fo d s a=0) (hh:bC (facts s) a=false) (hu:∀ t,lF t=us t+(if rX a t then 1 else 0)):cQ d (k+1) (fun x=>if x=s then cA a (facts s) else facts x) (fun x=>if x=s then aA s+1 else aA x) lF:=by
 refine ⟨fun w=>?_,fun w x hx=>?_,fun w=>?_,fun w=>?_,fun t=>?_⟩
 ·split
  ·exact Xj (i.iI s)
  ·exact i.iI w
 ·split at hx
  ·rename_i e
   rw [e]
   rcases List.mem_cons.1 ((JZ hh).subset hx) with e2|hx
   ·rw [e2];exact h
   ·exact i.ok s x hx
  ·exact i.ok w x hx
 ·split
  ·rw [(JZ hh).length_eq,List.length_cons]
   have:=i.len s
   omega
  ·exact Nat.le_trans (i.len w) (Nat.le_succ k)
 ·split
  ·have:=i.Ef s;omega
  ·have:=i.Ef w;omega
 ·rw [hu,i.use]
  have h1:=UO (facts:=facts) (s:=s) (l:=cA a (facts s)) t hn (cp.1 (Es h).1)
  have h2:=zG3 hh t
  omega
end
theorem WN {d:au} (h:lY d=0):d.ah.Nodup∧d.ah.length≤16:=by
 unfold lY at h
 have h:=bU.1 h (qW d.ah) (by simp)
 unfold qW at h
 split at h
 ·cases h
 ·rename_i hl
  refine ⟨List.pairwise_iff_getElem.2 fun i j hi hj di e=>?_,by omega⟩
  have h2:=im.1 h j d.ah[j] (List.getElem?_eq_getElem hj)
  have h3:=(yZ (by decide)).1 (bU.1 h2 (bd (ba ([]++d.ah.take j) d.ah[j]) 5) (by simp))
  have h4:ba ([]++d.ah.take j) d.ah[j]=true:=cp.2 (by
   rw [List.nil_append,← e]
   refine List.mem_of_getElem? (i:=i) ?_
   rw [List.getElem?_take,if_pos di,List.getElem?_eq_getElem hi])
  rw [h3] at h4
  cases h4
end Go.Am
namespace Go.Am
noncomputable def eD (d:au) (q:Int) (s:ByteArray) (a:ab) (l:List ab):Option (List ab) :=
 if fo d s a=0 then (if bC l a=true then none else if ((cA a l).length:Int)≤q then some (cA a l) else none) else none
noncomputable def fF (d:au) (s:ByteArray) (a:ab) (l:List ab):Option (List ab) :=
 if fo d s a=0 then (if bC l a=true then some (eW a l) else none) else none
noncomputable def iX (d:au) (q:Int) (s:ByteArray) (a:ab) (l:List ab):Int :=
 if fo d s a=0 then (if bC l a=true then 0 else if ((cA a l).length:Int)≤q then 0 else 12) else fo d s a
def oD (facts:ByteArray→List ab) (s:ByteArray) (o:Option (List ab)):ByteArray→List ab:=fun x=>if x=s then o.getD (facts s) else facts x
def pG (aA:ByteArray→Nat) (s:ByteArray) (o:Option (List ab)):ByteArray→Nat:=fun x=>if x=s then aA s+(if o.isSome=true then 1 else 0) else aA x
theorem y6 (facts:ByteArray→List ab) (s:ByteArray):oD facts s none=facts:=by
 funext x;unfold oD;split
 ·rename_i e;rw [e];rfl
 ·rfl
theorem y7 (aA:ByteArray→Nat) (s:ByteArray):pG aA s none=aA:=by
 funext x;unfold pG;split
 ·rename_i e;rw [e];rfl
 ·rfl
theorem zp5 {a:ab} (h:lz a):a.aT=true:=by
 have hv:=h.valid
 have ha:∀ i,i < 4→(a.arg i).s.size≤300:=fun i hi=>by
  by_cases hn:(i:Int) < a.n
  ·have ht:=hv.kL i hn
   unfold dO at ht
   split at ht
   ·have:=ht.len;omega
   ·have:=ht.1.len;omega
  ·rw [hv.rest i (by omega) hi];decide
 have h1:=hv.says.1.1.len
 have h2:=hv.pred.1.1.len
 simp only [ab.aT,Bool.and_eq_true,decide_eq_true_eq]
 exact ⟨by omega,by omega,ha 0 (by omega),ha 1 (by omega),ha 2 (by omega),ha 3 (by omega)⟩
theorem zsI {d:au} {s:ByteArray} {a:ab} (h:fo d s a=0):a.aT=true:=zp5 (Ki h)
theorem zIr (l:List ab) (t:ByteArray):kM l t≤l.length:=List.countP_le_length
theorem C0 {facts:ByteArray→List ab} {k:Nat} (h:∀ w,(facts w).length≤k) (t:ByteArray):∀ names:List ByteArray,lX names facts t≤names.length*k
 | []=>by unfold lX;simp
 |w::r=>by
  have ih:=C0 h t r
  unfold lX at ih ⊢
  rw [List.map_cons,List.sum_cons,List.length_cons,Nat.succ_mul]
  have h1:=zIr (facts w) t
  have h2:=h w
  omega
section
variable {d:au} {k m:Nat} {facts:ByteArray→List ab} {aA us lF:ByteArray→Nat} {s:ByteArray} {a:ab} {q:Int}
theorem cQ.aT (i:cQ d k facts aA us) {x:ab} (h:x∈facts s):x.aT=true:=zsI (i.ok s x h)
theorem cQ.Ee (i:cQ d k facts aA us) (t:ByteArray):us t≤d.ah.length*k:=by rw [i.use];exact C0 i.len t _
theorem cQ.sort (i:cQ d k facts aA us) (w:ByteArray):eg (facts w)=facts w:=Xh (i.iI w)
theorem cQ.adP (i:cQ d k facts aA us) (hn:d.ah.Nodup) (h:fo d s a=0) (hh:bC (facts s) a=false) (hu:∀ t,lF t=us t+(if rX a t then 1 else 0)):cQ d (k+1) (oD facts s (some (cA a (facts s)))) (pG aA s (some (cA a (facts s)))) lF:=i.put hn h hh hu
theorem cQ.ZP (i:cQ d k facts aA us) (hn:d.ah.Nodup) (h:fo d s a=0) (hh:bC (facts s) a=true) (hu:∀ t,lF t=us t - (if rX a t then 1 else 0)):cQ d (k+1) (oD facts s (some (eW a (facts s)))) (pG aA s (some (eW a (facts s)))) lF:=i.del hn h hh hu
end
/-! ### Calls -/
structure fH where
 k:Int
 s:ByteArray
 a:ab
def fH.cells (x:fH):List Value:=.int .i64 x.k::.string x.s::x.a.cells
abbrev aJ.act:aJ fH:={ k:=13,R:=fun _ cs x=>cs=x.cells,len:=by rintro _ _ _ rfl;rfl,mono:=fun _ _ _ _ _ h=>h,iP:=by rintro _ _ _ rfl;rfl }
section
variable {T:bK} {t e s:TypeId} {kd:IntKind} {i:Int} {v p:Value} {h1:Heap} {bs:List bh} {w:Nat} {K:Value→Heap→Prop}
theorem Kt {l:List fH} {x:fH} (f:Sl aJ.act h1 v l) (hd:T.desc t=some (.slice e)) (hs:bJ T e=some 13) (h0:0≤i) (hx:l[i.toNat]? = some x) (hk:∀ p,eZ h1 p x.cells→K p (h1.lay bs w)):aW (fW T t v (.int kd i)) (h1.lay bs w) K:=by
 have hi:=(List.getElem?_eq_some_iff.1 hx).1
 refine y9 f hd hs h0 (by omega) (fun x' p cs lU hr hp=>?_)
 rw [hx] at lU
 cases lU
 exact hk p (hr ▸ hp)
theorem zHL {x:fH} (f:eZ h1 p x.cells) (k9:∀ A o,dg T s (.pointer (some ⟨A,o,none⟩)) 0=some (.pointer (some ⟨A,o+0,none⟩))) (hk:∀ q,eZ h1 q [.int .i64 x.k]→K q (h1.lay bs w)):aW (dg T s p 0) (h1.lay bs w) K:=uX (ds:=[.int .i64 x.k]) f k9 rfl (Nat.succ_pos _) hk
theorem St {x:fH} (f:eZ h1 p x.cells) (k9:∀ A o,dg T s (.pointer (some ⟨A,o,none⟩)) 1=some (.pointer (some ⟨A,o+1,none⟩))) (hk:∀ q,eZ h1 q [.string x.s]→K q (h1.lay bs w)):aW (dg T s p 1) (h1.lay bs w) K:=uX (ds:=[.string x.s]) f k9 rfl (Nat.succ_pos _) hk
theorem Su {x:fH} (f:eZ h1 p x.cells) (k9:∀ A o,dg T s (.pointer (some ⟨A,o,none⟩)) 2=some (.pointer (some ⟨A,o+2,none⟩))) (hk:∀ q,eZ h1 q x.a.cells→K q (h1.lay bs w)):aW (dg T s p 2) (h1.lay bs w) K:=uX (ds:=x.a.cells) f k9 rfl (Nat.succ_pos _) hk
end
noncomputable def rZ (d:au) (q:Int) (c:fH) (l:List ab):Option (List ab):=if c.k.tmod 2=0 then eD d q c.s c.a l else fF d c.s c.a l
theorem Vb (a:ab):∀ l:List ab,(cA a l).length≤l.length+1
 | []=>Nat.le_refl _
 |x::r=>by
  unfold cA
  split
  ·simp
  ·split
   ·simp
   ·have:=Vb a r
    simp only [List.length_cons]
    omega
theorem zGs {d:au} {q:Int} {s:ByteArray} {a:ab} {l m:List ab} (h:eD d q s a l=some m):fo d s a=0∧bC l a=false∧m=cA a l∧((cA a l).length:Int)≤q:=by
 unfold eD at h
 split at h
 ·rename_i h1
  split at h
  ·cases h
  ·rename_i h2
   split at h
   ·rename_i h3
    cases h
    exact ⟨h1,by simpa using h2,rfl,h3⟩
   ·cases h
 ·cases h
theorem zGt {d:au} {s:ByteArray} {a:ab} {l m:List ab} (h:fF d s a l=some m):fo d s a=0∧bC l a=true∧m=eW a l:=by
 unfold fF at h
 split at h
 ·rename_i h1
  split at h
  ·rename_i h2
   cases h
   exact ⟨h1,h2,rfl⟩
  ·cases h
 ·cases h
end Go.Am
namespace Go.Proofs.YtkgojconmeeegaaGreatDoor
open Go.Am
set_option maxRecDepth 100000
theorem znh:Tryz.prog.cellsOf 36=13:=by kernel_rfl
theorem zwu {h:Heap} {n:Nat} {cs:List Value} (hs:ep Tryz.prog h (n+6) 36 cs):∃ x,aJ.act.R h cs x:=by
 unfold ep at hs
 rw [Tryz.underlying36] at hs
 obtain ⟨hl,hf⟩:=hs
 rw [znh] at hl
 have h0:ep Tryz.prog h (n+5) 3 ((cs.drop 0).take 1):=hf 0 _ rfl
 have h1:ep Tryz.prog h (n+5) 9 ((cs.drop 1).take 1):=hf 1 _ rfl
 have h2:ep Tryz.prog h (n+5) 34 ((cs.drop 2).take 11):=hf 2 _ rfl
 obtain ⟨k,hk,_⟩:=R1 h0
 obtain ⟨s,hs⟩:=CD h1
 obtain ⟨a,ha⟩:=Xt (n:=n+1) h2
 refine ⟨⟨k,s,a⟩,?_⟩
 rw [List.take_of_length_le (by simp;omega)] at ha
 match cs,hl with
 |x::y::r,_ =>
  simp only [List.drop_succ_cons,List.drop_zero,List.take_succ_cons,List.take_zero,List.cons.injEq,and_true] at hk hs ha
  rw [hk,hs,ha]
  rfl
theorem zyD {h:Heap} {n:Nat} {v:Value} (hs:vG Tryz.prog h (n+8) 29 v):∃ l,Sl aJ.act h v l:=by
 unfold vG at hs
 rw [Tryz.underlying29] at hs
 exact HS (n:=n+7) Tryz.underlying29 znh (fun cs hc=>zwu (n:=n+1) hc) hs
theorem zE3 {h:Heap} {n:Nat} {v:Value} (hs:vG Tryz.prog h (n+6) 36 v):∃ x:fH,v=.agg ⟨x.cells⟩:=by
 unfold vG at hs
 rw [Tryz.underlying36] at hs
 obtain ⟨cs,rfl,hc⟩:=hs
 obtain ⟨x,hx⟩:=zwu (n:=n) hc
 have hx:cs=x.cells:=hx
 exact ⟨x,by rw [hx]⟩
end Go.Proofs.YtkgojconmeeegaaGreatDoor
namespace Go.Am
variable {T:bK} {fn:Func} {K:Value→Heap→Prop} {e:Env} {h:Heap}
theorem tg (hr:fn.results=#[]):aC T fn K .ret e h=K undef h:=by
 simp [aC,mj,hr,undef]
theorem ta (hr:fn.results=#[]):aC T fn K .normal e h=K undef h:=by
 simp [aC,mj,hr,undef]
theorem zvc {a b c:Tmp} (hr:fn.results=#[.tmp a,.tmp b,.tmp c]):aC T fn K .ret e h=K (.tuple #[e.get a,e.get b,e.get c]) h:=by
 simp [aC,mj,hr,si]
end Go.Am
