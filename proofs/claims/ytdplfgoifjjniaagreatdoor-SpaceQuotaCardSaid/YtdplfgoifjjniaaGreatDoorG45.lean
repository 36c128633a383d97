/- Facts that may be, as plain data. No condition. -/
import Derived.Test.YtdplfgoifjjniaaGreatDoorG36
set_option linter.unusedVariables false
namespace Go.Am
theorem zkq {a:AtomD} (h:zdj a=0):∀ i,i < a.cnt→termX (a.arg i):=by
 intro i hi
 unfold zdj at h
 split at h
 ·split at h
  ·cases h
  ·split at h
   ·cases h
   ·rename_i hb
    have hb2:a.args.any zgP=false:=by simpa using hb
    have hm:=List.any_eq_false.1 hb2 (a.arg i) (List.mem_of_getElem? (args_at hi))
    unfold zgP at hm
    simpa using hm
 ·cases h
theorem zg4 {d:PolicyD} {s:ByteArray} {a:AtomD} (h:zbF d s a=0):hasP d.principals s=true∧zdE d a=0∧zil a=true∧a.says=s:=by
 unfold zbF at h
 have h:=firstE_zero.1 h
 have h1:=(zd6 (by decide)).1 (h (notE (!hasP d.principals s) 6) (by simp))
 have h2:=h (zdE d a) (by simp)
 have h3:=(zd6 (by decide)).1 (h (notE (!zil a) 10) (by simp))
 have h4:=(zd6 (by decide)).1 (h (notE (!decide (a.says=s)) 11) (by simp))
 refine ⟨by simpa using h1,h2,by simpa using h3,by simpa using h4⟩
theorem zlI {d:PolicyD} {a:AtomD} (h:zdE d a=0):zdj a=0:=by
 unfold zdE at h
 exact firstE_zero.1 h (zdj a) (by simp)
theorem zn3 {d:PolicyD} {s:ByteArray} {a:AtomD} (h:zbF d s a=0):∀ x,(∃ i:Nat,i < a.cnt∧(a.arg i).v=false∧(a.arg i).s=x)→x.size≠0∧x.size≤255:=by
 rintro x ⟨i,hi,hv,rfl⟩
 have ht:=zkq (zlI (zg4 h).2.1) i hi
 unfold termX at ht
 rw [hv] at ht
 have hl:=ht.1
 exact ⟨by have:=hl.pos;omega,hl.len⟩
theorem zrW {a b:AtomD} (h:cmpD a b=0):zaP a=zaP b:=zgh h
theorem zmj (x:AtomD) (r:List AtomD) (a:AtomD):hasA (x::r) a=((zaP x == zaP a) || hasA r a):=rfl
theorem zey {a:AtomD}:∀ {l:List AtomD},hasA l a=false→(putA a l).Perm (a::l)
 | [],_=>List.Perm.refl _
 |x::r,h=>by
  rw [zmj,Bool.or_eq_false_iff] at h
  unfold putA
  split
  ·exact List.Perm.refl _
  ·split
   ·rename_i h0
    have:=zrW h0
    rw [this] at h
    simp at h
   ·exact ((zey h.2).cons x).trans (List.Perm.swap a x r)
theorem zkN {a:AtomD}:∀ {s:List AtomD},AscD s→hasA s a=true→∃ x,x∈s∧zaP x=zaP a∧s.Perm (x::delA a s)
 | [],_,h=>by cases h
 |x::r,hs,h=>by
  have g:=List.pairwise_cons.1 hs
  by_cases hx:zaP x=zaP a
  ·have hr:hasA r a=false:=by
    cases hr:hasA r a
    ·rfl
    ·obtain ⟨y,hy,e⟩:=hasA_iff.1 hr
     have hlt:=g.1 y hy
     have hself:cmpD x y=cmpD x x:=by unfold cmpD;rw [e,hx]
     rw [hself,zd0] at hlt
     omega
   have hd:delA a (x::r)=r:=by
    have h1:=zxm hr
    unfold delA at h1 ⊢
    rw [List.filter_cons_of_neg (by simp [hx]),h1]
   exact ⟨x,List.mem_cons_self,hx,by rw [hd]⟩
  ·rw [zmj] at h
   have hr:hasA r a=true:=by
    rcases Bool.or_eq_true_iff.1 h with h|h
    ·exact absurd (by simpa using h) hx
    ·exact h
   obtain ⟨y,hy,e,hp⟩:=zkN g.2 hr
   have hd:delA a (x::r)=x::delA a r:=by
    unfold delA
    rw [List.filter_cons_of_pos (by simpa using hx)]
   exact ⟨y,List.mem_cons_of_mem _ hy,e,by rw [hd];exact (hp.cons x).trans (List.Perm.swap y x _)⟩
open Classical in
noncomputable def inB (a:AtomD) (t:ByteArray):Bool:=decide (∃ i:Nat,i < a.cnt∧(a.arg i).v=false∧(a.arg i).s=t)
theorem inB_iff {a:AtomD} {t:ByteArray}:inB a t=true↔∃ i:Nat,i < a.cnt∧(a.arg i).v=false∧(a.arg i).s=t:=by unfold inB;simp
noncomputable def useA (l:List AtomD) (t:ByteArray):Nat:=l.countP (fun a=>inB a t)
theorem zzD {a:AtomD} {l:List AtomD} (h:hasA l a=false) (t:ByteArray):useA (putA a l) t=useA l t+(if inB a t then 1 else 0):=by
 unfold useA
 rw [(zey h).countP_eq,List.countP_cons]
theorem zzB {a:AtomD} {s:List AtomD} (hs:AscD s) (h:hasA s a=true) (hi:∀ x∈s,zaP x=zaP a→x=a) (t:ByteArray):useA s t=useA (delA a s) t+(if inB a t then 1 else 0):=by
 obtain ⟨x,hx,e,p⟩:=zkN hs h
 rw [hi x hx e] at p
 unfold useA
 rw [p.countP_eq,List.countP_cons]
theorem zzC {l:List AtomD} {a:AtomD} {t:ByteArray} (h:a∈l) (ht:inB a t=true):0 < useA l t:=List.countP_pos_iff.2 ⟨a,h,ht⟩
noncomputable def totU (names:List ByteArray) (facts:ByteArray→List AtomD) (t:ByteArray):Nat:=(names.map fun w=>useA (facts w) t).sum
theorem zoT {facts:ByteArray→List AtomD} {s:ByteArray} {l:List AtomD} (t:ByteArray):∀ {names:List ByteArray},names.Nodup→s∈names→totU names (fun x=>if x=s then l else facts x) t+useA (facts s) t=totU names facts t+useA l t
 | [],_,h=>by cases h
 |w::r,hn,h=>by
  rw [List.nodup_cons] at hn
  unfold totU
  rw [List.map_cons,List.map_cons,List.sum_cons,List.sum_cons]
  dsimp only
  by_cases hw:w=s
  ·subst hw
   have hr:(r.map fun x=>useA (if x=w then l else facts x) t)=r.map fun x=>useA (facts x) t:=List.map_congr_left fun x hx=>by rw [if_neg (fun e=>by rw [e] at hx;exact hn.1 hx)]
   rw [if_pos rfl,hr]
   omega
  ·have ih:=zoT (facts:=facts) (l:=l) t hn.2 ((List.mem_cons.1 h).resolve_left (fun e=>hw e.symm))
   unfold totU at ih
   dsimp only at ih
   rw [if_neg hw]
   omega
theorem zuu {facts:ByteArray→List AtomD} {s t:ByteArray}:∀ {names:List ByteArray},s∈names→0 < useA (facts s) t→0 < totU names facts t
 |w::r,h,hp=>by
  unfold totU
  rw [List.map_cons,List.sum_cons]
  rcases List.mem_cons.1 h with e|h
  ·subst e;omega
  ·have:=zuu h hp
   unfold totU at this
   omega
theorem zoS {a:AtomD} (h:zdj a=0):ValidX a:=by
 have ht:=zkq h
 unfold zdj at h
 split at h
 ·rename_i hp
  rw [Bool.and_eq_true,prinB_iff,prinB_iff] at hp
  split at h
  ·cases h
  ·rename_i hn
   split at h
   ·cases h
   ·split at h
    ·cases h
    ·rename_i hr
     have hr2:=List.any_eq_false.1 (by simpa using hr:((a.all.drop a.cnt).any fun t => !decide (t=zaX))=false)
     refine ⟨hp.1,hp.2,by omega,by omega,fun i hi=>ht i (cnt_lt.2 ⟨by omega,hi⟩),fun i hi h4=>?_⟩
     have hc:a.cnt≤i:=by
      refine Nat.le_of_not_lt fun hh=>?_
      have:=(cnt_lt.1 hh).2
      omega
     have hm:a.arg i∈a.all.drop a.cnt:=by
      refine List.mem_of_getElem? (i:=i - a.cnt) ?_
      rw [List.getElem?_drop,show a.cnt+(i - a.cnt)=i by omega]
      match i,h4 with
      |0,_=>rfl
      |1,_=>rfl
      |2,_=>rfl
      |3,_=>rfl
     simpa using hr2 _ hm
 ·cases h
theorem zpi {d:PolicyD} {s:ByteArray} {a:AtomD} (h:zbF d s a=0):FactX a:=⟨zoS (zlI (zg4 h).2.1),(zg4 h).2.2.1⟩
theorem zph {a b:AtomD} (ha:FactX a) (hb:FactX b) (h:zaP a=zaP b):a=b:=ziG ha.plain hb.plain h
structure InvS (d:PolicyD) (k:Nat) (facts:ByteArray→List AtomD) (vers us:ByteArray→Nat):Prop where
 asc:∀ w,AscD (facts w)
 ok:∀ w,∀ a∈facts w,zbF d w a=0
 len:∀ w,(facts w).length≤k
 ver:∀ w,vers w≤k
 use:∀ t,us t=totU d.principals facts t
theorem InvS.empty (d:PolicyD):InvS d 0 (fun _=>[]) (fun _=>0) (fun _=>0):=by
 refine ⟨fun _=>List.Pairwise.nil,(fun _ _ h=>nomatch h),fun _=>Nat.le_refl 0,fun _=>Nat.le_refl 0,fun t=>?_⟩
 unfold totU
 induction d.principals with
 |nil=>rfl
 |cons w r ih=>rw [List.map_cons,List.sum_cons,← ih];rfl
section
variable {d:PolicyD} {k:Nat} {facts:ByteArray→List AtomD} {vers us us2:ByteArray→Nat} {s:ByteArray} {a:AtomD}
theorem InvS.more (i:InvS d k facts vers us) {m:Nat} (h:k≤m):InvS d m facts vers us:=⟨i.asc,i.ok,fun w=>Nat.le_trans (i.len w) h,fun w=>Nat.le_trans (i.ver w) h,i.use⟩
theorem InvS.fact (i:InvS d k facts vers us) {x:AtomD} (h:x∈facts s):FactX x:=zpi (i.ok s x h)
theorem InvS.has (i:InvS d k facts vers us) (h:zbF d s a=0):hasA (facts s) a=true↔a∈facts s:=by
 rw [hasA_iff]
 exact ⟨fun ⟨x,hx,e⟩=>by rw [← zph (i.fact hx) (zpi h) e];exact hx,fun hm=>⟨a,hm,rfl⟩⟩
theorem InvS.pos (i:InvS d k facts vers us) (h:zbF d s a=0) (hh:hasA (facts s) a=true) {t:ByteArray} (ht:inB a t=true):0 < us t:=by
 rw [i.use]
 exact zuu (hasP_iff.1 (zg4 h).1) (zzC ((i.has h).1 hh) ht)
theorem InvS.del (i:InvS d k facts vers us) (hn:d.principals.Nodup) (h:zbF d s a=0) (hh:hasA (facts s) a=true) (hu:∀ t,us2 t=us t - (if inB a t then 1 else 0)):InvS d (k+1) (fun x=>if x=s then delA a (facts s) else facts x) (fun x=>if x=s then vers s+1 else vers x) us2:=by
 refine ⟨fun w=>?_,fun w x hx=>?_,fun w=>?_,fun w=>?_,fun t=>?_⟩
 ·split
  ·exact (i.asc s).sublist List.filter_sublist
  ·exact i.asc w
 ·split at hx
  ·rename_i e
   rw [e]
   exact i.ok s x (List.filter_sublist.subset hx)
  ·exact i.ok w x hx
 ·split
  ·exact Nat.le_trans (List.length_filter_le _ _) (Nat.le_trans (i.len s) (Nat.le_succ k))
  ·exact Nat.le_trans (i.len w) (Nat.le_succ k)
 ·split
  ·have:=i.ver s;omega
  ·have:=i.ver w;omega
 ·rw [hu,i.use]
  have h1:=zoT (facts:=facts) (s:=s) (l:=delA a (facts s)) t hn (hasP_iff.1 (zg4 h).1)
  have h2:=zzB (i.asc s) hh (fun x hx e=>zph (i.fact hx) (zpi h) e) t
  omega
theorem InvS.put (i:InvS d k facts vers us) (hn:d.principals.Nodup) (h:zbF d s a=0) (hh:hasA (facts s) a=false) (hu:∀ t,us2 t=us t+(if inB a t then 1 else 0)):InvS d (k+1) (fun x=>if x=s then putA a (facts s) else facts x) (fun x=>if x=s then vers s+1 else vers x) us2:=by
 refine ⟨fun w=>?_,fun w x hx=>?_,fun w=>?_,fun w=>?_,fun t=>?_⟩
 ·split
  ·exact zhQ (i.asc s)
  ·exact i.asc w
 ·split at hx
  ·rename_i e
   rw [e]
   rcases List.mem_cons.1 ((zey hh).subset hx) with e2|hx
   ·rw [e2];exact h
   ·exact i.ok s x hx
  ·exact i.ok w x hx
 ·split
  ·rw [(zey hh).length_eq,List.length_cons]
   have:=i.len s
   omega
  ·exact Nat.le_trans (i.len w) (Nat.le_succ k)
 ·split
  ·have:=i.ver s;omega
  ·have:=i.ver w;omega
 ·rw [hu,i.use]
  have h1:=zoT (facts:=facts) (s:=s) (l:=putA a (facts s)) t hn (hasP_iff.1 (zg4 h).1)
  have h2:=zzD hh t
  omega
end
theorem znF {d:PolicyD} (h:zgg d=0):d.principals.Nodup∧d.principals.length≤16:=by
 unfold zgg at h
 have h:=firstE_zero.1 h (zhx d.principals) (by simp)
 unfold zhx at h
 split at h
 ·cases h
 ·rename_i hl
  refine ⟨List.pairwise_iff_getElem.2 fun i j hi hj hij e=>?_,by omega⟩
  have h2:=eachE_zero.1 h j d.principals[j] (List.getElem?_eq_getElem hj)
  have h3:=(zd6 (by decide)).1 (firstE_zero.1 h2 (notE (hasP ([]++d.principals.take j) d.principals[j]) 5) (by simp))
  have h4:hasP ([]++d.principals.take j) d.principals[j]=true:=hasP_iff.2 (by
   rw [List.nil_append,← e]
   refine List.mem_of_getElem? (i:=i) ?_
   rw [List.getElem?_take,if_pos hij,List.getElem?_eq_getElem hi])
  rw [h3] at h4
  cases h4
end Go.Am
namespace Go.Am
noncomputable def locA (d:PolicyD) (q:Int) (s:ByteArray) (a:AtomD) (l:List AtomD):Option (List AtomD) :=
 if zbF d s a=0 then (if hasA l a=true then none else if ((putA a l).length:Int)≤q then some (putA a l) else none) else none
noncomputable def locR (d:PolicyD) (s:ByteArray) (a:AtomD) (l:List AtomD):Option (List AtomD) :=
 if zbF d s a=0 then (if hasA l a=true then some (delA a l) else none) else none
noncomputable def errA (d:PolicyD) (q:Int) (s:ByteArray) (a:AtomD) (l:List AtomD):Int :=
 if zbF d s a=0 then (if hasA l a=true then 0 else if ((putA a l).length:Int)≤q then 0 else 12) else zbF d s a
def zeS (facts:ByteArray→List AtomD) (s:ByteArray) (o:Option (List AtomD)):ByteArray→List AtomD:=fun x=>if x=s then o.getD (facts s) else facts x
def zgM (vers:ByteArray→Nat) (s:ByteArray) (o:Option (List AtomD)):ByteArray→Nat:=fun x=>if x=s then vers s+(if o.isSome=true then 1 else 0) else vers x
theorem zeh (facts:ByteArray→List AtomD) (s:ByteArray):zeS facts s none=facts:=by
 funext x;unfold zeS;split
 ·rename_i e;rw [e];rfl
 ·rfl
theorem zei (vers:ByteArray→Nat) (s:ByteArray):zgM vers s none=vers:=by
 funext x;unfold zgM;split
 ·rename_i e;rw [e];rfl
 ·rfl
theorem zpG {facts:ByteArray→List AtomD} {s w:ByteArray} {o:Option (List AtomD)} (h:¬ s=w):zeS facts s o w=facts w:=if_neg (fun e=>h e.symm)
theorem zw5 {vers:ByteArray→Nat} {s w:ByteArray} {o:Option (List AtomD)} (h:¬ s=w):zgM vers s o w=vers w:=if_neg (fun e=>h e.symm)
theorem zfE (facts:ByteArray→List AtomD) (s:ByteArray) (o:Option (List AtomD)):zeS facts s o s=o.getD (facts s):=if_pos rfl
theorem zrm (vers:ByteArray→Nat) (s:ByteArray) (o:Option (List AtomD)):zgM vers s o s=vers s+(if o.isSome=true then 1 else 0):=if_pos rfl
theorem zn4 {a:AtomD} (h:FactX a):a.light=true:=by
 have hv:=h.valid
 have ha:∀ i,i < 4→(a.arg i).s.size≤300:=fun i hi=>by
  by_cases hn:(i:Int) < a.n
  ·have ht:=hv.terms i hn
   unfold termX at ht
   split at ht
   ·have:=ht.len;omega
   ·have:=ht.1.len;omega
  ·rw [hv.rest i (by omega) hi];decide
 have h1:=hv.says.1.1.len
 have h2:=hv.pred.1.1.len
 simp only [AtomD.light,Bool.and_eq_true,decide_eq_true_eq]
 exact ⟨by omega,by omega,ha 0 (by omega),ha 1 (by omega),ha 2 (by omega),ha 3 (by omega)⟩
theorem zfq {d:PolicyD} {s:ByteArray} {a:AtomD} (h:zbF d s a=0):a.light=true:=zn4 (zpi h)
theorem zA5 (l:List AtomD) (t:ByteArray):useA l t≤l.length:=List.countP_le_length
theorem zxN {facts:ByteArray→List AtomD} {k:Nat} (h:∀ w,(facts w).length≤k) (t:ByteArray):∀ names:List ByteArray,totU names facts t≤names.length*k
 | []=>by unfold totU;simp
 |w::r=>by
  have ih:=zxN h t r
  unfold totU at ih ⊢
  rw [List.map_cons,List.sum_cons,List.length_cons,Nat.succ_mul]
  have h1:=zA5 (facts w) t
  have h2:=h w
  omega
section
variable {d:PolicyD} {k m:Nat} {facts:ByteArray→List AtomD} {vers us us2:ByteArray→Nat} {s:ByteArray} {a:AtomD} {q:Int}
theorem InvS.light (i:InvS d k facts vers us) {x:AtomD} (h:x∈facts s):x.light=true:=zfq (i.ok s x h)
theorem InvS.us_le (i:InvS d k facts vers us) (t:ByteArray):us t≤d.principals.length*k:=by rw [i.use];exact zxN i.len t _
theorem InvS.sort (i:InvS d k facts vers us) (w:ByteArray):zcF (facts w)=facts w:=zm2 (i.asc w)
theorem InvS.putT (i:InvS d k facts vers us) (hn:d.principals.Nodup) (h:zbF d s a=0) (hh:hasA (facts s) a=false) (hu:∀ t,us2 t=us t+(if inB a t then 1 else 0)):InvS d (k+1) (zeS facts s (some (putA a (facts s)))) (zgM vers s (some (putA a (facts s)))) us2:=i.put hn h hh hu
theorem InvS.delT (i:InvS d k facts vers us) (hn:d.principals.Nodup) (h:zbF d s a=0) (hh:hasA (facts s) a=true) (hu:∀ t,us2 t=us t - (if inB a t then 1 else 0)):InvS d (k+1) (zeS facts s (some (delA a (facts s)))) (zgM vers s (some (delA a (facts s)))) us2:=i.del hn h hh hu
end
/-! ### Calls -/
structure ActD where
 k:Int
 s:ByteArray
 a:AtomD
def ActD.cells (x:ActD):List Value:=.int .i64 x.k::.string x.s::x.a.cells
section
variable {T:Tab} {t e s:TypeId} {kd:IntKind} {i:Int} {v p:Value} {h1:Heap} {bs:List Blk} {w:Nat} {K:Value→Heap→Prop}
end
noncomputable def locX (d:PolicyD) (q:Int) (c:ActD) (l:List AtomD):Option (List AtomD):=if c.k.tmod 2=0 then locA d q c.s c.a l else locR d c.s c.a l
noncomputable def ownX (d:PolicyD) (q:Int) (p:List AtomD × Nat) (c:ActD):List AtomD × Nat:=((locX d q c p.1).getD p.1,p.2+(if (locX d q c p.1).isSome=true then 1 else 0))
noncomputable def ownS (d:PolicyD) (q:Int) (l:List ActD):List AtomD × Nat:=l.foldl (ownX d q) ([],0)
def ofS (l:List ActD) (w:ByteArray):List ActD:=l.filter fun c=>decide (c.s=w)
theorem zvu (l:List ActD) (c:ActD) (w:ByteArray):ofS (l++[c]) w=if c.s=w then ofS l w++[c] else ofS l w:=by
 unfold ofS
 rw [List.filter_append]
 by_cases h:c.s=w
 ·rw [if_pos h,List.filter_cons_of_pos (by simpa using h),List.filter_nil]
 ·rw [if_neg h,List.filter_cons_of_neg (by simpa using h),List.filter_nil,List.append_nil]
def RunS (d:PolicyD) (q:Int) (l:List ActD) (facts:ByteArray→List AtomD) (vers:ByteArray→Nat):Prop:=∀ w,facts w=(ownS d q (ofS l w)).1∧vers w=(ownS d q (ofS l w)).2
theorem RunS.nil (d:PolicyD) (q:Int):RunS d q [] (fun _=>[]) (fun _=>0):=fun _=>⟨rfl,rfl⟩
theorem RunS.snoc {d:PolicyD} {q:Int} {l:List ActD} {facts:ByteArray→List AtomD} {vers:ByteArray→Nat} (r:RunS d q l facts vers) (c:ActD):RunS d q (l++[c]) (zeS facts c.s (locX d q c (facts c.s))) (zgM vers c.s (locX d q c (facts c.s))):=by
 intro w
 rw [zvu]
 by_cases h:c.s=w
 ·subst h
  rw [if_pos rfl,zfE,zrm]
  have h1:=r c.s
  have e:ownS d q (ofS l c.s++[c])=ownX d q (ownS d q (ofS l c.s)) c:=by
   unfold ownS
   rw [List.foldl_append]
   rfl
  rw [e]
  have e2:ownS d q (ofS l c.s)=(facts c.s,vers c.s):=Prod.ext h1.1.symm h1.2.symm
  rw [e2]
  exact ⟨rfl,rfl⟩
 ·rw [if_neg h,zpG h,zw5 h]
  exact r w
theorem zot (a:AtomD):∀ l:List AtomD,(putA a l).length≤l.length+1
 | []=>Nat.le_refl _
 |x::r=>by
  unfold putA
  split
  ·simp
  ·split
   ·simp
   ·have:=zot a r
    simp only [List.length_cons]
    omega
theorem zvo (d:PolicyD) (q:Int) (c:ActD) (l:List AtomD):((locX d q c l).getD l).length≤l.length+1:=by
 unfold locX locA locR
 have h1:=zot c.a l
 have h2:(delA c.a l).length≤l.length:=List.length_filter_le _ _
 repeat' split
 all_goals simp only [Option.getD_some,Option.getD_none]
 all_goals omega
theorem zze (d:PolicyD) (q:Int) (l:List ActD) (p:List AtomD × Nat):(l.foldl (ownX d q) p).1.length≤p.1.length+l.length∧(l.foldl (ownX d q) p).2≤p.2+l.length:=by
 induction l generalizing p with
 |nil=>exact ⟨Nat.le_refl _,Nat.le_refl _⟩
 |cons c r ih =>
  rw [List.foldl_cons]
  have h:=ih (ownX d q p c)
  have h1:=zvo d q c p.1
  have h2:(ownX d q p c).2≤p.2+1:=by unfold ownX;dsimp only;split <;> omega
  have h3:(ownX d q p c).1.length≤p.1.length+1:=h1
  rw [List.length_cons]
  omega
theorem RunS.le {d:PolicyD} {q:Int} {l:List ActD} {facts:ByteArray→List AtomD} {vers:ByteArray→Nat} {m:Nat} (r:RunS d q l facts vers) (h:∀ w,(ofS l w).length≤m) (w:ByteArray):(facts w).length≤m∧vers w≤m:=by
 have h1:=zze d q (ofS l w) ([],0)
 have h2:=r w
 have h3:=h w
 unfold ownS at h2
 rw [h2.1,h2.2]
 simp only [List.length_nil,Nat.zero_add] at h1
 omega
def byS (l:List ActD) (P:List ByteArray):List ActD:=P.flatMap fun w=>ofS l w
theorem zy7 (l:List ActD) (v w:ByteArray):ofS (ofS l v) w=if v=w then ofS l v else []:=by
 unfold ofS
 rw [List.filter_filter]
 by_cases h:v=w
 ·rw [if_pos h,h]
  exact List.filter_congr fun c _=>by simp
 ·rw [if_neg h]
  refine List.filter_eq_nil_iff.2 fun c _=>?_
  simp only [Bool.and_eq_true,decide_eq_true_eq,not_and]
  intro e1 e2
  exact h (e2.symm.trans e1)
theorem zy6 (l m:List ActD) (w:ByteArray):ofS (l++m) w=ofS l w++ofS m w:=List.filter_append _ _
open Classical in
theorem zxK (l:List ActD) (w:ByteArray):∀ {P:List ByteArray},P.Nodup→ofS (byS l P) w=if w∈P then ofS l w else []
 | [],_=>by rw [if_neg (by simp)];rfl
 |v::r,h=>by
  rw [List.nodup_cons] at h
  unfold byS
  rw [List.flatMap_cons,zy6,zy7]
  have ih:=zxK l w h.2
  unfold byS at ih
  rw [ih]
  by_cases e:v=w
  ·subst e
   rw [if_pos rfl,if_neg h.1,if_pos List.mem_cons_self,List.append_nil]
  ·rw [if_neg e,List.nil_append]
   by_cases hm:w∈r
   ·rw [if_pos hm,if_pos (List.mem_cons_of_mem _ hm)]
   ·rw [if_neg hm,if_neg (fun hh=>hm ((List.mem_cons.1 hh).resolve_left (fun e2=>e e2.symm)))]
open Classical in
theorem RunS.same {d:PolicyD} {q:Int} {l:List ActD} {P:List ByteArray} {f g:ByteArray→List AtomD} {u v:ByteArray→Nat} (r:RunS d q l f u) (r2:RunS d q (byS l P) g v) (hn:P.Nodup) {w:ByteArray} (hw:w∈P):f w=g w∧u w=v w:=by
 have h1:=r w
 have h2:=r2 w
 rw [zxK l w hn,if_pos hw] at h2
 exact ⟨h1.1.trans h2.1.symm,h1.2.trans h2.2.symm⟩
end Go.Am
