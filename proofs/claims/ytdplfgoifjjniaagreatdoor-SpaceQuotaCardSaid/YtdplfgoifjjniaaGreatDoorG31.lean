/- Texts by numbers, as plain data. No condition. -/
import Derived.Test.YtdplfgoifjjniaaGreatDoorG30
set_option linter.unusedSimpArgs false
set_option linter.unusedVariables false
set_option maxRecDepth 100000
set_option maxHeartbeats 0
namespace Go.Am
def updU (us:ByteArray→Nat) (t:ByteArray) (n:Nat):ByteArray→Nat:=fun x=>if x=t then n else us x
theorem zb3 (us:ByteArray→Nat) (t:ByteArray) (n:Nat):updU us t n t=n:=if_pos rfl
theorem zcS {us:ByteArray→Nat} {t x:ByteArray} {n:Nat} (h:x≠t):updU us t n x=us x:=if_neg h
abbrev EntD:=ByteArray × Int
def zgm (x:EntD):List Value:=[.string x.1,.int .i64 x.2]
theorem zcX (x:EntD):(zgm x).length=2:=rfl
def zdh (x:Int):List Value:=[.int .i64 x]
theorem ze3 (x:Int):(zdh x).length=1:=rfl
structure TabP (free:List Int) (ents:List EntD) (kv:List (ByteArray × Value)) (us:ByteArray→Nat):Prop where
 fr:∀ n∈free,∃ i:Nat,n=(i:Int)∧i < ents.length
 nd:free.Nodup
 kn:(kv.map Prod.fst).Nodup
 val:∀ t v,zaK kv t=some v→∃ i:Nat,v=.int .i64 (i:Int)∧ents[i]? = some (t,(us t:Int))∧(i:Int) ∉ free
 has:∀ t,(zaK kv t).isSome=true↔0 < us t
section
variable {free rest:List Int} {ents:List EntD} {kv:List (ByteArray × Value)} {us:ByteArray→Nat} {t:ByteArray} {v:Value} {n:Int} {i:Nat}
theorem TabP.empty:TabP [] [] [] (fun _=>0):=⟨fun _ h=>by simp at h,List.nodup_nil,by simp,fun t v h=>by simp [zaK] at h,fun t=>by simp [zaK]⟩
theorem TabP.perm (p:TabP free ents kv us) (h:free.Perm rest):TabP rest ents kv us :=
 ⟨fun n hn=>p.fr n (h.mem_iff.2 hn),h.nodup_iff.1 p.nd,p.kn,fun t v hv=>(p.val t v hv).imp fun i hi=>⟨hi.1,hi.2.1,fun hh=>hi.2.2 (h.mem_iff.2 hh)⟩,p.has⟩
theorem TabP.num (p:TabP free ents kv us) (h:zaK kv t=some v):∃ i:Nat,v=.int .i64 (i:Int)∧ents[i]? = some (t,(us t:Int)):=(p.val t v h).imp fun i hi=>⟨hi.1,hi.2.1⟩
theorem TabP.zero (p:TabP free ents kv us) (h:zaK kv t=none):us t=0:=by
 have:=p.has t
 rw [h] at this
 simp at this
 exact this
theorem TabP.pos (p:TabP free ents kv us) (h:zaK kv t=some v):0 < us t:=(p.has t).1 (by rw [h];rfl)
theorem TabP.turn (p:TabP free ents kv us) (h:zaK kv t=some (.int .i64 (i:Int))) {m:Nat} (hm:0 < m):TabP free (ents.set i (t,(m:Int))) kv (updU us t m):=by
 obtain ⟨j,hj,hji,hjf⟩:=p.val t _ h
 have hij:i=j:=by cases hj;rfl
 subst hij
 have hil:=(List.getElem?_eq_some_iff.1 hji).1
 refine ⟨fun n hn=>?_,p.nd,p.kn,fun t2 v2 h2=>?_,fun t2=>?_⟩
 ·obtain ⟨q,hq,hql⟩:=p.fr n hn
  exact ⟨q,hq,by rw [List.length_set];exact hql⟩
 ·obtain ⟨q,hq,hqe,hqf⟩:=p.val t2 v2 h2
  refine ⟨q,hq,?_,hqf⟩
  rw [List.getElem?_set]
  by_cases he:t2=t
  ·subst he
   rw [h] at h2
   cases h2
   have:q=i:=by cases hq;rfl
   subst this
   rw [if_pos rfl,if_pos hil,zb3]
  ·rw [if_neg (by rintro rfl;rw [hji] at hqe;cases hqe;exact he rfl),zcS he]
   exact hqe
 ·by_cases he:t2=t
  ·subst he
   rw [h,zb3]
   simp [hm]
  ·rw [zcS he]
   exact p.has t2
theorem TabP.fresh {m:Nat} (hfr:∀ n∈rest,∃ i:Nat,n=(i:Int)∧i < ents.length) (hnd:rest.Nodup) (hkn:(kv.map Prod.fst).Nodup) (hval:∀ t v,zaK kv t=some v→∃ i:Nat,v=.int .i64 (i:Int)∧ents[i]? = some (t,(us t:Int))∧(i:Int) ∉ rest∧i≠m) (hhas:∀ t,(zaK kv t).isSome=true↔0 < us t)
 (hm:m < ents.length) (hmf:(m:Int) ∉ rest) (h:zaK kv t=none):TabP rest (ents.set m (t,1)) (setV kv t (.int .i64 (m:Int))) (updU us t 1):=by
 refine ⟨fun n hn=>?_,hnd,zfB hkn t _,fun t2 v2 h2=>?_,fun t2=>?_⟩
 ·obtain ⟨q,hq,hql⟩:=hfr n hn
  exact ⟨q,hq,by rw [List.length_set];exact hql⟩
 ·rw [ze6] at h2
  by_cases he:t2=t
  ·subst he
   rw [if_pos rfl] at h2
   cases h2
   refine ⟨m,rfl,?_,hmf⟩
   rw [List.getElem?_set,if_pos rfl,if_pos hm,zb3]
   rfl
  ·rw [if_neg he] at h2
   obtain ⟨q,hq,hqe,hqf,hqm⟩:=hval t2 v2 h2
   refine ⟨q,hq,?_,hqf⟩
   rw [List.getElem?_set,if_neg (Ne.symm hqm),zcS he]
   exact hqe
 ·rw [ze6]
  by_cases he:t2=t
  ·subst he
   rw [if_pos rfl,zb3]
   simp
  ·rw [if_neg he,zcS he]
   exact hhas t2
theorem TabP.pop (p:TabP free ents kv us) (h:zaK kv t=none) (hp:free.Perm (n::rest)):∃ i:Nat,n=(i:Int)∧i < ents.length∧TabP rest (ents.set i (t,1)) (setV kv t (.int .i64 (i:Int))) (updU us t 1):=by
 have hnd:=hp.nodup_iff.1 p.nd
 rw [List.nodup_cons] at hnd
 obtain ⟨i,rfl,hi⟩:=p.fr n (hp.mem_iff.2 List.mem_cons_self)
 refine ⟨i,rfl,hi,TabP.fresh (fun m hm=>p.fr m (hp.mem_iff.2 (List.mem_cons_of_mem _ hm))) hnd.2 p.kn (fun t2 v2 h2=>?_) p.has hi hnd.1 h⟩
 obtain ⟨q,hq,hqe,hqf⟩:=p.val t2 v2 h2
 exact ⟨q,hq,hqe,fun hh=>hqf (hp.mem_iff.2 (List.mem_cons_of_mem _ hh)),fun e=>hqf (by rw [e];exact hp.mem_iff.2 List.mem_cons_self)⟩
theorem TabP.more (p:TabP free ents kv us) (h:zaK kv t=none) (x:EntD):TabP free ((ents++[x]).set ents.length (t,1)) (setV kv t (.int .i64 (ents.length:Int))) (updU us t 1):=by
 refine TabP.fresh (fun m hm=>?_) p.nd p.kn (fun t2 v2 h2=>?_) p.has (by rw [List.length_append];simp) (fun hh=>?_) h
 ·obtain ⟨q,hq,hql⟩:=p.fr m hm
  exact ⟨q,hq,by rw [List.length_append];omega⟩
 ·obtain ⟨q,hq,hqe,hqf⟩:=p.val t2 v2 h2
  have hql:=(List.getElem?_eq_some_iff.1 hqe).1
  exact ⟨q,hq,by rw [List.getElem?_append_left hql];exact hqe,hqf,by omega⟩
 ·obtain ⟨q,hq,hql⟩:=p.fr _ hh
  omega
theorem TabP.gone (p:TabP free ents kv us) (h:zaK kv t=some (.int .i64 (i:Int))) (x:EntD):TabP ((i:Int)::free) (ents.set i x) (delV kv t) (updU us t 0):=by
 obtain ⟨j,hj,hji,hjf⟩:=p.val t _ h
 have hij:i=j:=by cases hj;rfl
 subst hij
 have hil:=(List.getElem?_eq_some_iff.1 hji).1
 refine ⟨fun n hn=>?_,List.nodup_cons.2 ⟨hjf,p.nd⟩,zgY p.kn t,fun t2 v2 h2=>?_,fun t2=>?_⟩
 ·rw [List.length_set]
  rcases List.mem_cons.1 hn with rfl|hn
  ·exact ⟨i,rfl,hil⟩
  ·exact p.fr n hn
 ·rw [ziu] at h2
  by_cases he:t2=t
  ·rw [if_pos he] at h2;cases h2
  ·rw [if_neg he] at h2
   obtain ⟨q,hq,hqe,hqf⟩:=p.val t2 v2 h2
   have hqi:i≠q:=by rintro rfl;rw [hji] at hqe;cases hqe;exact he rfl
   refine ⟨q,hq,by rw [List.getElem?_set,if_neg hqi,zcS he];exact hqe,fun hh=>?_⟩
   rcases List.mem_cons.1 hh with e|hh
   ·exact hqi (by omega)
   ·exact hqf hh
 ·rw [ziu]
  by_cases he:t2=t
  ·rw [if_pos he,he,zb3];simp
  ·rw [if_neg he,zcS he];exact p.has t2
end
theorem zsA {kv kw:List (ByteArray × Value)} (h1:(kv.map Prod.fst).Nodup) (h2:(kw.map Prod.fst).Nodup) (h:∀ t,(zaK kv t).isSome=true↔(zaK kw t).isSome=true):kv.length=kw.length:=by
 have hm:∀ (l:List (ByteArray × Value)) (t:ByteArray),(zaK l t).isSome=true↔t∈l.map Prod.fst:=fun l t=>by
  cases hl:zaK l t with
  |none=>simp [lookV_none.1 hl]
  |some v =>
   simp only [Option.isSome_some,true_iff]
   refine Classical.byContradiction fun hn=>?_
   rw [lookV_none.2 hn] at hl
   cases hl
 have hp:(kv.map Prod.fst).Perm (kw.map Prod.fst):=(List.perm_ext_iff_of_nodup h1 h2).2 fun t=>by rw [← hm,← hm];exact h t
 simpa using hp.length_eq
structure TabS (tt ti te N:Nat) (h:Heap) (T0 I E M:Nat) (free:List Int) (ents:List EntD) (kv:List (ByteArray × Value)):Prop where
 row:∃ vi ve,Holds h T0 (.row [vi,ve,.map (some M)] tt false)∧OwF 1 zdh h ti I vi free∧OwF 2 zgm h te E ve ents
 map:MapV h M kv
 ne:T0≠I∧T0≠E∧T0≠M∧I≠E∧I≠M∧E≠M
 lo:N≤T0∧N≤I∧N≤E∧N≤M
 hi:T0 < h.size∧I < h.size∧E < h.size∧M < h.size
section
variable {tt ti te N:Nat} {h h1 h2:Heap} {T0 I E M w:Nat} {bs:List Blk} {free:List Int} {ents:List EntD} {kv:List (ByteArray × Value)}
theorem TabS.hold (s:TabS tt ti te N h T0 I E M free ents kv) (hs:h.size≤h1.size) (hO:∀ A b,A=T0∨A=I∨A=E∨A=M→Holds h A b→Holds h1 A b):TabS tt ti te N h1 T0 I E M free ents kv:=by
 obtain ⟨⟨vi,ve,q,oi,oe⟩,m,n,l,u⟩:=s
 exact ⟨⟨vi,ve,hO _ _ (.inl rfl) q,oi.hold (fun b=>hO _ b (.inr (.inl rfl))),oe.hold (fun b=>hO _ b (.inr (.inr (.inl rfl))))⟩,m.hold (fun b=>hO _ b (.inr (.inr (.inr rfl)))),n,l,⟨by omega,by omega,by omega,by omega⟩⟩
theorem TabS.over (s:TabS tt ti te N h1 T0 I E M free ents kv) (x:Ext (h1.lay bs w) h2):TabS tt ti te N h2 T0 I E M free ents kv:=s.hold (by have:=x.size;rw [zad] at this;omega) (fun A b _ q=>q.over x)
theorem TabS.lay (s:TabS tt ti te N h1 T0 I E M free ents kv) (bs:List Blk) (w:Nat):TabS tt ti te N (h1.lay bs w) T0 I E M free ents kv:=s.hold (by rw [zad];omega) (fun A b _ q=>q.on bs w)
theorem TabS.frs {D:List Nat} (s:TabS tt ti te N h1 T0 I E M free ents kv) (f:Frs D h1 h2) (h0:T0 ∉ D∧I ∉ D∧E ∉ D∧M ∉ D):TabS tt ti te N h2 T0 I E M free ents kv:=s.hold f.size (fun A b hA q=>q.frs f (by rcases hA with rfl|rfl|rfl|rfl;exact h0.1;exact h0.2.1;exact h0.2.2.1;exact h0.2.2.2))
theorem TabS.turnI {vi ve:Value} {f2:List Int} (s:TabS tt ti te N h1 T0 I E M free ents kv) (q:Holds h1 T0 (.row [vi,ve,.map (some M)] tt false)) (oe:OwF 2 zgm h1 te E ve ents) (c:Frs [I] h1 h2) (o2:OwF 1 zdh h2 ti I vi f2):TabS tt ti te N h2 T0 I E M f2 ents kv:=by
 obtain ⟨_,m,n,l,u⟩:=s
 have hs:=c.size
 have hn:∀ {A},A≠I→A ∉ [I]:=fun h hm=>h (List.mem_singleton.1 hm)
 exact ⟨⟨vi,ve,q.frs c (hn n.1),o2,oe.frs c (hn (Ne.symm n.2.2.2.1))⟩,m.hold (fun b q=>q.frs c (hn (Ne.symm n.2.2.2.2.1))),n,l,⟨by omega,by omega,by omega,by omega⟩⟩
theorem TabS.turnT {v2 ve:Value} {f2:List Int} {ents2:List EntD} (s:TabS tt ti te N h1 T0 I E M free ents kv) (c:Frs [T0] h1 h2) (q:Holds h2 T0 (.row [v2,ve,.map (some M)] tt false)) (o1:OwF 1 zdh h1 ti I v2 f2) (oe:OwF 2 zgm h1 te E ve ents2):TabS tt ti te N h2 T0 I E M f2 ents2 kv:=by
 obtain ⟨_,m,n,l,u⟩:=s
 have hs:=c.size
 have hn:∀ {A},A≠T0→A ∉ [T0]:=fun h hm=>h (List.mem_singleton.1 hm)
 exact ⟨⟨v2,ve,q,o1.frs c (hn (Ne.symm n.1)),oe.frs c (hn (Ne.symm n.2.1))⟩,m.hold (fun b q=>q.frs c (hn (Ne.symm n.2.2.1))),n,l,⟨by omega,by omega,by omega,by omega⟩⟩
theorem TabS.turnTI {v2 ve:Value} {I2:Nat} {f2:List Int} (s:TabS tt ti te N h1 T0 I E M free ents kv) (c:Frs [T0,I] h1 h2) (hI:I2=I∨h1.size≤I2) (hI2:I2 < h2.size) (q:Holds h2 T0 (.row [v2,ve,.map (some M)] tt false)) (o1:OwF 1 zdh h2 ti I2 v2 f2) (oe:OwF 2 zgm h1 te E ve ents):TabS tt ti te N h2 T0 I2 E M f2 ents kv:=by
 obtain ⟨_,m,n,l,u⟩:=s
 have hs:=c.size
 have hn:∀ {A},A≠T0→A≠I→A ∉ [T0,I]:=fun h h2 hm=>by
  rcases List.mem_cons.1 hm with e|hm
  ·exact h e
  ·exact h2 (List.mem_singleton.1 hm)
 refine ⟨⟨v2,ve,q,o1,oe.frs c (hn (Ne.symm n.2.1) (Ne.symm n.2.2.2.1))⟩,m.hold (fun b q=>q.frs c (hn (Ne.symm n.2.2.1) (Ne.symm n.2.2.2.2.1))),?_,?_,⟨by omega,hI2,by omega,by omega⟩⟩
 ·rcases hI with rfl|hI
  ·exact n
  ·exact ⟨by omega,n.2.1,n.2.2.1,by omega,by omega,n.2.2.2.2.2⟩
 ·rcases hI with rfl|hI
  ·exact l
  ·exact ⟨l.1,by omega,l.2.2⟩
end
theorem zfg {l:List Int} {i j:Nat} {a b:Int} (hi:l[i]? = some a) (hj:l[j]? = some b):l.Perm ((l.set i b).set j a):=by
 by_cases h:i=j
 ·subst h
  rw [hi] at hj
  cases hj
  have e:(l.set i a).set i a=l:=by
   apply List.ext_getElem?
   intro k
   rw [List.set_set,List.getElem?_set]
   by_cases hk:i=k
   ·subst hk
    rw [if_pos rfl,hi]
    simp [(List.getElem?_eq_some_iff.1 hi).1]
   ·rw [if_neg hk]
  rw [e]
 ·have hc:∀ x,l.count x=((l.set i b).set j a).count x:=by
   intro x
   have hil:=(List.getElem?_eq_some_iff.1 hi)
   have hjl:=(List.getElem?_eq_some_iff.1 hj)
   have e1:((l.set i b).set j a).count x=(l.set i b).count x - (if (b == x) then 1 else 0)+(if (a == x) then 1 else 0):=by
    rw [List.count_set (by rw [List.length_set];exact hjl.1)]
    rw [List.getElem_set_ne h,hjl.2]
   have e2:(l.set i b).count x=l.count x - (if (a == x) then 1 else 0)+(if (b == x) then 1 else 0):=by
    rw [List.count_set hil.1,hil.2]
   rw [e1,e2]
   have ha:(a == x)=true→1≤l.count x:=fun e=>List.one_le_count_iff.2 (by rw [← eq_of_beq e];exact List.mem_of_getElem? hi)
   have hb:(b == x)=true→1≤l.count x:=fun e=>List.one_le_count_iff.2 (by rw [← eq_of_beq e];exact List.mem_of_getElem? hj)
   cases hax:(a == x)
   ·simp
   ·have:=ha hax
    simp
    omega
  exact List.perm_iff_count.2 hc
end Go.Am
namespace Go.Proofs.YtdplfgoifjjniaaGreatDoor
open Go.Am
theorem zdy (b:Bool) (h:Heap) (K:Value→Heap→Prop):zfG b h K=K (.bool b) h:=by
 unfold zfG
 cases b
 ·simp
 ·simp
theorem zgl:tab.desc 110=some (.slice 3):=by kernel_rfl
theorem zpn (A:Nat) (h:Heap):zcy tab 138 (.pointer (some ⟨A,0,none⟩)) "Len" h=(zaL tab 110 (.pointer (some ⟨A,0,none⟩)) h).map fun r=>(99,r):=by kernel_rfl
theorem ze9 (A:Nat) (h:Heap):zcy tab 138 (.pointer (some ⟨A,0,none⟩)) "Less" h=(zaL tab 110 (.pointer (some ⟨A,0,none⟩)) h).map fun r=>(189,r):=by kernel_rfl
theorem zfa (A:Nat) (h:Heap):zcy tab 138 (.pointer (some ⟨A,0,none⟩)) "Swap" h=(zaL tab 110 (.pointer (some ⟨A,0,none⟩)) h).map fun r=>(192,r):=by kernel_rfl
theorem zvq (A:Nat) (h:Heap):zcy tab 138 (.pointer (some ⟨A,0,none⟩)) "Pop" h=some (190,.pointer (some ⟨A,0,none⟩)):=by kernel_rfl
theorem zsH (A:Nat) (h:Heap):zcy tab 138 (.pointer (some ⟨A,0,none⟩)) "Push" h=some (191,.pointer (some ⟨A,0,none⟩)):=by kernel_rfl
theorem zbL {h1:Heap} {T0 w:Nat} {bs:List Blk} {vi ve vm:Value} (q:Holds h1 T0 (.row [vi,ve,vm] 115 false)):zaL tab 110 (.pointer (some ⟨T0,0,none⟩)) (h1.lay bs w)=some vi:=by
 have hg:=q.lay bs w
 have ha:aggA tab 110=some false:=by kernel_rfl
 unfold zaL zaI
 simp only [ha,Option.bind_some,Bool.false_eq_true,if_false,hg]
 rfl
abbrev TabU (N:Nat) (h:Heap) (T0 I E M:Nat) (free:List Int) (ents:List EntD) (kv:List (ByteArray × Value)):Prop:=TabS 115 3 136 N h T0 I E M free ents kv
theorem zom (free:List Int) (I:Nat) (v:Value) (h:Heap) (o:OwF 1 zdh h 3 I v free) (K:Value→Heap→Prop) (hk:∀ h',Ext h h'→K (.int .i64 free.length) h'):Ok Tryz.prog tab ov 99 [v] h K:=by
 rw [zaa h]
 have z:=Ext.refl h
 have hlv:=fun (hh:Heap)=>o.lenA zgl hh
 refine Ok.into rfl zwZ (zaw N99) rfl (m:=4) rfl ?_
 simp -implicitDefEqProofs only [syms,symx,seval,c99,hlv]
 exact hk _ (z.upW _ _ (by omega))
theorem zgy (free:List Int) (I:Nat) (v:Value) (i j:Nat) (a b:Int) (h:Heap) (o:OwF 1 zdh h 3 I v free) (hi:free[i]? = some a) (hj:free[j]? = some b) (K:Value→Heap→Prop) (hk:∀ h',Ext h h'→K (.bool (decide (a < b))) h'):Ok Tryz.prog tab ov 189 [v,.int .i64 i,.int .i64 j] h K:=by
 rw [zaa h]
 have z:=Ext.refl h
 have hi1:=o.ix (kd:=.i64) (i:=i) zgl sz3 (List.getElem?_eq_some_iff.1 hi).1
 have hj1:=o.ix (kd:=.i64) (i:=j) zgl sz3 (List.getElem?_eq_some_iff.1 hj).1
 have ci:=o.cell1 hi rfl
 have cj:=o.cell1 hj rfl
 have hvi:=vInt
 refine Ok.into rfl zuf (zaw N189) rfl (m:=13) rfl ?_
 simp -implicitDefEqProofs only [syms,symx,seval,c189]
 with_reducible first|refine zb9 (by simp only [c189]) (z.upW _ _ (by omega)) ?_
 simp -implicitDefEqProofs only [syms,symx,seval,c189,hi1,hj1,ci,cj,hvi]
 rw [zdy]
 simp -implicitDefEqProofs only [syms,symx,seval,c189]
 ((with_reducible refine ⟨z.grw.lay _ _,?_⟩);(intro _ h' zz x _);(simp only [zan,List.append_nil] at x);(replace z:=zz);(clear zz);rw [zaa h'])
 simp -implicitDefEqProofs only [syms,symx,seval,c189]
 exact hk _ (z.upW _ _ (by omega))
theorem zgz (free:List Int) (I:Nat) (v:Value) (i j:Nat) (a b:Int) (h hc:Heap) (z:Ext h hc) (hI:h.size≤I) (o:OwF 1 zdh hc 3 I v free) (hi:free[i]? = some a) (hj:free[j]? = some b) (K:Value→Heap→Prop) (hk:∀ h',Ext h h'→Frs [I] hc h'→OwF 1 zdh h' 3 I v ((free.set i b).set j a)→K undef h'):Ok Tryz.prog tab ov 192 [v,.int .i64 i,.int .i64 j] hc K:=by
 rw [zaa hc]
 have hi1:=o.ix (kd:=.i64) (i:=i) zgl sz3 (List.getElem?_eq_some_iff.1 hi).1
 have hj1:=o.ix (kd:=.i64) (i:=j) zgl sz3 (List.getElem?_eq_some_iff.1 hj).1
 have ci:=o.cell1 hi rfl
 have cj:=o.cell1 hj rfl
 have hvi:=vInt
 refine Ok.into rfl zui (zaw N192) rfl (m:=17) rfl ?_
 with_reducible first|refine zb9 (by simp only [c192]) (z.upW _ _ (by omega)) ?_
 simp -implicitDefEqProofs only [syms,symx,seval,c192,hi1,hj1,ci,cj,hvi]
 refine OwF.store0 (y:=b) ze3 o hi sz3 (by omega) rfl rfl rfl rfl (fun h3 o3 c3=>?_)
 have hz:=z.size
 refine zaU (A:=I) (by kernel_rfl) (by rw [zad];omega) (by omega) (by simpa only [zan,zad,List.append_nil,List.length_cons,List.length_nil,Nat.add_zero] using c3) ?_
 have z3:=(z.upW [] (hc.size+0) (by omega)).step c3 hI
 rw [zaa h3]
 simp -implicitDefEqProofs only [syms,symx,seval,c192,hi1,hj1]
 have hj3:(free.set i b)[j]? = some b:=by
  rw [List.getElem?_set]
  split
  ·rw [if_pos (List.getElem?_eq_some_iff.1 hi).1]
  ·exact hj
 refine OwF.store0 (y:=a) ze3 o3 hj3 sz3 (by omega) rfl rfl rfl rfl (fun h4 o4 c4=>?_)
 have hz3:=z3.size
 refine zaU (A:=I) (by kernel_rfl) (by rw [zad];omega) (by omega) (by simpa only [zan,zad,List.append_nil,List.length_cons,List.length_nil,Nat.add_zero] using c4) ?_
 have z4:=(z3.upW [] (h3.size+0) (by omega)).step c4 hI
 have cc:Frs [I] hc h4:=((Frs.refl [I] hc).chg c3 (.inl (by simp))).chg c4 (.inl (by simp))
 clear z
 have z:=z4
 rw [zaa h4]
 simp -implicitDefEqProofs only [syms,symx,seval,c192]
 ((with_reducible refine ⟨z.grw.lay _ _,?_⟩);(intro _ h' zz x _);(simp only [zan,List.append_nil] at x))
 replace o4:=o4.over x
 replace cc:=cc.over x
 replace z:=zz
 rw [zaa h']
 simp -implicitDefEqProofs only [syms,symx,seval,c192]
 exact hk _ (z.upW _ _ (by omega)) (cc.trans (Frs.lay _ _ _ []) (fun _ h=>nomatch h)) (o4.lay _ _)
theorem zyK (j:Nat) (h:j≤1000000000):IntKind.i64.wrap ((IntKind.i64.wrap ((j:Int) - 1)).tdiv 2)=(((j - 1) / 2:Nat):Int):=by
 rw [wrap_i64 (i:=(j:Int) - 1) (by omega) (by omega)]
 have e:((j:Int) - 1).tdiv 2=(((j - 1) / 2:Nat):Int):=by
  cases j with
  |zero=>decide
  |succ j =>
   rw [show ((j+1:Nat):Int) - 1=(j:Int) by omega,show j+1 - 1=j by omega]
   exact (Int.ofNat_tdiv j 2).symm
 rw [e]
 exact wrap_i64 (by omega) (by omega)
theorem zuT {T:Tab} {t:TypeId} {k:IntKind} {a b:Int}:binA Tryz.prog T .mul t (.int k a) (.int k b)=some (.int k (k.wrap (a*b))):=by
 refine zkC rfl ?_ rfl
 simp [binOp,Op.intArith,zdT]
theorem blkU {k i:Nat} (h:¬ i=k) (Q:Ex→Env→Heap→Prop) (e:Env) (hh:Heap):zhm k Q (.exit i) e hh=Q (.exit i) e hh:=by
 show (if i=k then Q .normal e hh else Q (.exit i) e hh)=_
 rw [if_neg h]
abbrev ifI (T0:Nat):Value:=.iface 138 (.pointer (some ⟨T0,0,none⟩))
theorem zAM (h hc:Heap) (z:Ext h hc) (T0 FI FE FM:Nat) (free:List Int) (ents:List EntD) (kv:List (ByteArray × Value)) (j:Nat) (st:TabU h.size hc T0 FI FE FM free ents kv) (hj:j < free.length) (K:Value→Heap→Prop) (hk:∀ h' f2,Ext h h'→Frs [FI] hc h'→TabU h.size h' T0 FI FE FM f2 ents kv→free.Perm f2→K undef h'):Ok Tryz.prog tab ov 131 [ifI T0,.int .i64 j] hc K:=by
 have hle:free.length≤1000000000:=by obtain ⟨⟨vi,ve,q,oi,oe⟩,_⟩:=st;exact oi.len_le
 have hvf:∀ (h:Heap) (K:Value→Heap→Prop),valE (some (ifI T0)) h K=K (ifI T0) h:=fun _ _=>rfl
 rw [zaa hc]
 refine Ok.into rfl zt0 (zaw N131) rfl (m:=21) rfl ?_
 simp -implicitDefEqProofs only [syms,symx,seval,c131]
 obtain ⟨I1,hI1⟩:∃ I:Nat→Env→Heap→Prop,I=(fun n e h'=>∃ (j1:Nat) (f1:List Int) (h1:Heap),h'=h1.lay [] h1.low∧Ext h h1∧(n=j1+1∧j1 < f1.length∧TabU h.size h1 T0 FI FE FM f1 ents kv∧free.Perm f1∧Frs [FI] hc h1)∧∃ J:Nat→Value,e=(ifI T0::.int .i64 j1::jr J 2 21 ([]))):=⟨_,rfl⟩
 refine zaE I1 _ (by rw [hI1];exact ⟨j,free,_,rfl,z,⟨rfl,hj,st,List.Perm.refl _,Frs.refl _ _⟩,junk (by kernel_rfl)⟩) ?_
 intro n e h' hin
 rw [hI1] at hin
 obtain ⟨j1,f1,h1',rfl,z,hinv,J,rfl⟩:=hin
 clear st
 obtain ⟨rfl,hj1,st,hperm,fr⟩:=hinv
 have hlen:=hperm.length_eq
 obtain ⟨⟨vi,ve,q,oi,oe⟩,_⟩:=id st
 have hq:=zyK j1 (by omega)
 have hik:(j1 - 1) / 2 < f1.length:=by omega
 obtain ⟨a,ha,ha'⟩:=zbs (l:=f1) (i:=j1) (by omega)
 obtain ⟨b,hb,hb'⟩:=zbs (l:=f1) (i:=(j1 - 1) / 2) (by omega)
 simp -implicitDefEqProofs only [syms,symx,seval,c131]
 rw [znw (by decide),hq]
 simp -implicitDefEqProofs only [syms,symx,seval,c131]
 refine zeR (fun heq=>?_) (fun hne=>?_)
 ·simp -implicitDefEqProofs only [syms,symx,seval,c131]
  rw [blkU (by decide)]
  simp -implicitDefEqProofs only [syms,symx,seval,c131]
  exact hk _ f1 (z.upW _ _ (by omega)) (fr.trans (Frs.lay _ _ _ []) (fun _ h=>nomatch h)) (st.lay _ _) hperm
 simp -implicitDefEqProofs only [syms,symx,seval,c131,zbX,hvf]
 refine zdI (f:=189) (y:=vi) (by rw [ze9,zbL q];rfl) ?_
 refine zgy f1 FI vi j1 ((j1 - 1) / 2) a b _ (oi.lay _ _) ha' hb' _ (fun h' x=>?_)
 (replace z:=z.overW x (by omega);(replace st:=st.over x);(replace fr:=fr.over x);rw [zaa h'])
 simp -implicitDefEqProofs only [syms,symx,seval,c131]
 (with_reducible_and_instances apply zar);(· rfl)
 simp -implicitDefEqProofs only [syms,symx,seval,c131]
 clear q oi oe
 obtain ⟨⟨vi,ve,q,oi,oe⟩,_,_,hlo,_⟩:=id st
 refine zhq (fun hge=>?_) (fun hlt=>?_)
 ·simp -implicitDefEqProofs only [syms,symx,seval,c131]
  rw [blkU (by decide)]
  simp -implicitDefEqProofs only [syms,symx,seval,c131]
  exact hk _ f1 (z.upW _ _ (by omega)) (fr.trans (Frs.lay _ _ _ []) (fun _ h=>nomatch h)) (st.lay _ _) hperm
 simp -implicitDefEqProofs only [syms,symx,seval,c131,zbX,hvf]
 refine zdI (f:=192) (y:=vi) (by rw [zfa,zbL q];rfl) ?_
 refine zgz f1 FI vi ((j1 - 1) / 2) j1 b a h _ (z.upW _ _ (by omega)) hlo.2.1 (oi.lay _ _) hb' ha' _ (fun h3 z3 fr3 o3=>?_)
 have st3:=(st.lay [] h'.low).turnI (q.on _ _) (oe.lay _ _) fr3 o3
 replace fr:=(fr.trans (Frs.lay h' [] h'.low []) (fun _ h=>nomatch h)).trans fr3 (fun B hB=>.inl hB)
 have hp3:=hperm.trans (zfg hb' ha')
 clear q oi oe o3 fr3 st z
 have z:=z3
 rw [zaa h3]
 simp -implicitDefEqProofs only [syms,symx,seval,c131]
 (rw [hI1];with_reducible refine zae (m:=_) ?_ ⟨(j1 - 1) / 2,(f1.set ((j1 - 1) / 2) a).set j1 b,_,rfl,z,⟨rfl,by rw [List.length_set,List.length_set];omega,st3,hp3,fr⟩,junk (by kernel_rfl)⟩;omega)
theorem zvw (h hc:Heap) (z:Ext h hc) (T0 FI FE FM:Nat) (free:List Int) (ents:List EntD) (kv:List (ByteArray × Value)) (m:Nat) (st:TabU h.size hc T0 FI FE FM free ents kv) (hm:m≤free.length) (K:Value→Heap→Prop) (hk:∀ h' f2 b,Ext h h'→Frs [FI] hc h'→TabU h.size h' T0 FI FE FM f2 ents kv→free.Perm f2→K (.bool b) h'):Ok Tryz.prog tab ov 130 [ifI T0,.int .i64 0,.int .i64 m] hc K:=by
 have hle:free.length≤1000000000:=by obtain ⟨⟨vi,ve,q,oi,oe⟩,_⟩:=st;exact oi.len_le
 have hvf:∀ (h:Heap) (K:Value→Heap→Prop),valE (some (ifI T0)) h K=K (ifI T0) h:=fun _ _=>rfl
 rw [zaa hc]
 refine Ok.into rfl ztZ (zaw N130) rfl (m:=45) rfl ?_
 simp -implicitDefEqProofs only [syms,symx,seval,c130]
 obtain ⟨I1,hI1⟩:∃ I:Nat→Env→Heap→Prop,I=(fun n e h'=>∃ (i:Nat) (f1:List Int) (h1:Heap),h'=h1.lay [] h1.low∧Ext h h1∧(n=free.length - i∧i≤free.length∧TabU h.size h1 T0 FI FE FM f1 ents kv∧free.Perm f1∧Frs [FI] hc h1)∧∃ J:Nat→Value,e=(ifI T0::.int .i64 0::.int .i64 m::jr J 3 4 (.int .i64 i::jr J 8 40 ([])))):=⟨_,rfl⟩
 refine zaE I1 _ (by rw [hI1];exact ⟨0,free,_,rfl,z,⟨rfl,by omega,st,List.Perm.refl _,Frs.refl _ _⟩,junk (by kernel_rfl)⟩) ?_
 intro n e h' hin
 rw [hI1] at hin
 obtain ⟨i,f1,h1',rfl,z,hinv,J,rfl⟩:=hin
 clear st
 obtain ⟨rfl,hi,st,hperm,fr⟩:=hinv
 have hlen:=hperm.length_eq
 obtain ⟨⟨vi,ve,q,oi,oe⟩,_,_,hlo,_⟩:=id st
 have hw1:IntKind.i64.wrap (IntKind.i64.wrap (2*(i:Int))+1)=((2*i+1:Nat):Int):=by
  rw [wrap_i64 (i:=2*(i:Int)) (by omega) (by omega),wrap_i64 (by omega) (by omega)];omega
 have hw2:IntKind.i64.wrap (((2*i+1:Nat):Int)+1)=((2*i+2:Nat):Int):=by rw [wrap_i64 (by omega) (by omega)];omega
 simp -implicitDefEqProofs only [syms,symx,seval,c130,zuT,hw1,hw2]
 refine zaD (fun hge=>?_) (fun hlt=>?_)
 ·simp -implicitDefEqProofs only [syms,symx,seval,c130]
  rw [blkU (by decide)]
  simp -implicitDefEqProofs only [syms,symx,seval,c130]
  rw [zdy]
  simp -implicitDefEqProofs only [syms,symx,seval,c130]
  exact hk _ f1 _ (z.upW _ _ (by omega)) (fr.trans (Frs.lay _ _ _ []) (fun _ h=>nomatch h)) (st.lay _ _) hperm
 simp -implicitDefEqProofs only [syms,symx,seval,c130]
 refine zaD (fun c0=>absurd c0 (by omega)) (fun _=>?_)
 obtain ⟨a1,ha1,ha1'⟩:=zbs (l:=f1) (i:=2*i+1) (by omega)
 obtain ⟨ai,hai,hai'⟩:=zbs (l:=f1) (i:=i) (by omega)
 simp -implicitDefEqProofs only [syms,symx,seval,c130,hw2]
 refine zaD (fun hlt2=>?_) (fun hlt2=>?_)
 ·obtain ⟨a2,ha2,ha2'⟩:=zbs (l:=f1) (i:=2*i+2) (by omega)
  simp -implicitDefEqProofs only [syms,symx,seval,c130,zbX,hvf]
  refine zdI (f:=189) (y:=vi) (by rw [ze9,zbL q];rfl) ?_
  refine zgy f1 FI vi (2*i+2) (2*i+1) a2 a1 _ (oi.lay _ _) ha2' ha1' _ (fun h' x=>?_)
  (replace z:=z.overW x (by omega);(replace st:=st.over x);(replace fr:=fr.over x);rw [zaa h'])
  clear q oi oe
  simp -implicitDefEqProofs only [syms,symx,seval,c130]
  refine zaD (fun hl=>?_) (fun hl=>?_)
  ·simp -implicitDefEqProofs only [syms,symx,seval,c130]
   obtain ⟨jj,hjj⟩:∃ jj,jj=2*i+2:=⟨_,rfl⟩
   rw [← hjj] at ha2' ⊢
   have hjm:jj < m:=by omega
   have hij:i < jj:=by omega
   simp -implicitDefEqProofs only [syms,symx,seval,c130,zbX,hvf]
   obtain ⟨⟨vi,ve,q,oi,oe⟩,_,_,hlo,_⟩:=id st
   refine zdI (f:=189) (y:=vi) (by rw [ze9,zbL q];rfl) ?_
   refine zgy f1 FI vi jj i a2 ai _ (oi.lay _ _) ha2' hai' _ (fun h' x=>?_)
   (replace z:=z.overW x (by omega);(replace st:=st.over x);(replace fr:=fr.over x);rw [zaa h'])
   clear q oi oe
   obtain ⟨⟨vi,ve,q,oi,oe⟩,_,_,hlo,_⟩:=id st
   rcases Decidable.em (a2 < ai) with hd|hd
   rotate_left
   ·rw [decide_eq_false hd]
    simp -implicitDefEqProofs only [syms,symx,seval,c130]
    (with_reducible_and_instances apply zar);(· rfl)
    simp -implicitDefEqProofs only [syms,symx,seval,c130,Bool.not_false]
    rw [blkU (by decide)]
    simp -implicitDefEqProofs only [syms,symx,seval,c130]
    rw [zdy]
    simp -implicitDefEqProofs only [syms,symx,seval,c130]
    exact hk _ f1 _ (z.upW _ _ (by omega)) (fr.trans (Frs.lay _ _ _ []) (fun _ h=>nomatch h)) (st.lay _ _) hperm
   rw [decide_eq_true hd]
   simp -implicitDefEqProofs only [syms,symx,seval,c130]
   (with_reducible_and_instances apply zar);(· rfl)
   simp -implicitDefEqProofs only [syms,symx,seval,c130,Bool.not_true,zbX,hvf]
   refine zdI (f:=192) (y:=vi) (by rw [zfa,zbL q];rfl) ?_
   refine zgz f1 FI vi i jj ai a2 h _ (z.upW _ _ (by omega)) hlo.2.1 (oi.lay _ _) hai' ha2' _ (fun h3 z3 fr3 o3=>?_)
   have st3:=(st.lay [] h'.low).turnI (q.on _ _) (oe.lay _ _) fr3 o3
   replace fr:=(fr.trans (Frs.lay h' [] h'.low []) (fun _ h=>nomatch h)).trans fr3 (fun B hB=>.inl hB)
   have hp3:=hperm.trans (zfg hai' ha2')
   clear q oi oe o3 fr3 st z
   have z:=z3
   rw [zaa h3]
   simp -implicitDefEqProofs only [syms,symx,seval,c130]
   (rw [hI1];with_reducible refine zae (m:=_) ?_ ⟨jj,(f1.set i a2).set jj ai,_,rfl,z,⟨rfl,by omega,st3,hp3,fr⟩,junk (by kernel_rfl)⟩;omega)
  ·simp -implicitDefEqProofs only [syms,symx,seval,c130]
   obtain ⟨jj,hjj⟩:∃ jj,jj=2*i+1:=⟨_,rfl⟩
   rw [← hjj] at ha1' ⊢
   have hjm:jj < m:=by omega
   have hij:i < jj:=by omega
   simp -implicitDefEqProofs only [syms,symx,seval,c130,zbX,hvf]
   obtain ⟨⟨vi,ve,q,oi,oe⟩,_,_,hlo,_⟩:=id st
   refine zdI (f:=189) (y:=vi) (by rw [ze9,zbL q];rfl) ?_
   refine zgy f1 FI vi jj i a1 ai _ (oi.lay _ _) ha1' hai' _ (fun h' x=>?_)
   (replace z:=z.overW x (by omega);(replace st:=st.over x);(replace fr:=fr.over x);rw [zaa h'])
   clear q oi oe
   obtain ⟨⟨vi,ve,q,oi,oe⟩,_,_,hlo,_⟩:=id st
   rcases Decidable.em (a1 < ai) with hd|hd
   rotate_left
   ·rw [decide_eq_false hd]
    simp -implicitDefEqProofs only [syms,symx,seval,c130]
    (with_reducible_and_instances apply zar);(· rfl)
    simp -implicitDefEqProofs only [syms,symx,seval,c130,Bool.not_false]
    rw [blkU (by decide)]
    simp -implicitDefEqProofs only [syms,symx,seval,c130]
    rw [zdy]
    simp -implicitDefEqProofs only [syms,symx,seval,c130]
    exact hk _ f1 _ (z.upW _ _ (by omega)) (fr.trans (Frs.lay _ _ _ []) (fun _ h=>nomatch h)) (st.lay _ _) hperm
   rw [decide_eq_true hd]
   simp -implicitDefEqProofs only [syms,symx,seval,c130]
   (with_reducible_and_instances apply zar);(· rfl)
   simp -implicitDefEqProofs only [syms,symx,seval,c130,Bool.not_true,zbX,hvf]
   refine zdI (f:=192) (y:=vi) (by rw [zfa,zbL q];rfl) ?_
   refine zgz f1 FI vi i jj ai a1 h _ (z.upW _ _ (by omega)) hlo.2.1 (oi.lay _ _) hai' ha1' _ (fun h3 z3 fr3 o3=>?_)
   have st3:=(st.lay [] h'.low).turnI (q.on _ _) (oe.lay _ _) fr3 o3
   replace fr:=(fr.trans (Frs.lay h' [] h'.low []) (fun _ h=>nomatch h)).trans fr3 (fun B hB=>.inl hB)
   have hp3:=hperm.trans (zfg hai' ha1')
   clear q oi oe o3 fr3 st z
   have z:=z3
   rw [zaa h3]
   simp -implicitDefEqProofs only [syms,symx,seval,c130]
   (rw [hI1];with_reducible refine zae (m:=_) ?_ ⟨jj,(f1.set i a1).set jj ai,_,rfl,z,⟨rfl,by omega,st3,hp3,fr⟩,junk (by kernel_rfl)⟩;omega)
 ·clear q oi oe
  simp -implicitDefEqProofs only [syms,symx,seval,c130]
  obtain ⟨jj,hjj⟩:∃ jj,jj=2*i+1:=⟨_,rfl⟩
  rw [← hjj] at ha1' ⊢
  have hjm:jj < m:=by omega
  have hij:i < jj:=by omega
  simp -implicitDefEqProofs only [syms,symx,seval,c130,zbX,hvf]
  obtain ⟨⟨vi,ve,q,oi,oe⟩,_,_,hlo,_⟩:=id st
  refine zdI (f:=189) (y:=vi) (by rw [ze9,zbL q];rfl) ?_
  refine zgy f1 FI vi jj i a1 ai _ (oi.lay _ _) ha1' hai' _ (fun h' x=>?_)
  (replace z:=z.overW x (by omega);(replace st:=st.over x);(replace fr:=fr.over x);rw [zaa h'])
  clear q oi oe
  obtain ⟨⟨vi,ve,q,oi,oe⟩,_,_,hlo,_⟩:=id st
  rcases Decidable.em (a1 < ai) with hd|hd
  rotate_left
  ·rw [decide_eq_false hd]
   simp -implicitDefEqProofs only [syms,symx,seval,c130]
   (with_reducible_and_instances apply zar);(· rfl)
   simp -implicitDefEqProofs only [syms,symx,seval,c130,Bool.not_false]
   rw [blkU (by decide)]
   simp -implicitDefEqProofs only [syms,symx,seval,c130]
   rw [zdy]
   simp -implicitDefEqProofs only [syms,symx,seval,c130]
   exact hk _ f1 _ (z.upW _ _ (by omega)) (fr.trans (Frs.lay _ _ _ []) (fun _ h=>nomatch h)) (st.lay _ _) hperm
  rw [decide_eq_true hd]
  simp -implicitDefEqProofs only [syms,symx,seval,c130]
  (with_reducible_and_instances apply zar);(· rfl)
  simp -implicitDefEqProofs only [syms,symx,seval,c130,Bool.not_true,zbX,hvf]
  refine zdI (f:=192) (y:=vi) (by rw [zfa,zbL q];rfl) ?_
  refine zgz f1 FI vi i jj ai a1 h _ (z.upW _ _ (by omega)) hlo.2.1 (oi.lay _ _) hai' ha1' _ (fun h3 z3 fr3 o3=>?_)
  have st3:=(st.lay [] h'.low).turnI (q.on _ _) (oe.lay _ _) fr3 o3
  replace fr:=(fr.trans (Frs.lay h' [] h'.low []) (fun _ h=>nomatch h)).trans fr3 (fun B hB=>.inl hB)
  have hp3:=hperm.trans (zfg hai' ha1')
  clear q oi oe o3 fr3 st z
  have z:=z3
  rw [zaa h3]
  simp -implicitDefEqProofs only [syms,symx,seval,c130]
  (rw [hI1];with_reducible refine zae (m:=_) ?_ ⟨jj,(f1.set i a1).set jj ai,_,rfl,z,⟨rfl,by omega,st3,hp3,fr⟩,junk (by kernel_rfl)⟩;omega)
theorem zhU (x:Value):zhr tab 3 x=some (.iface 3 x):=by kernel_rfl
theorem zsv (x:Value):zhr tab 138 x=some (.iface 138 x):=by kernel_rfl
theorem zlH (n:Int):zfW tab (.iface 3 (.int .i64 n)) 3 true=some (.tuple #[.int .i64 n,.bool true]):=by kernel_rfl
theorem zxM:zau tab 110=some 1:=by kernel_rfl
theorem zun (a b c:Value):([a,b,c]:List Value)[0]? = some a:=rfl
theorem zfm (a b c:Value):([a,b,c]:List Value)[1]? = some b:=rfl
theorem zjm (a b c:Value):([a,b,c]:List Value)[2]? = some c:=rfl
theorem zqH (h hc:Heap) (z:Ext h hc) (T0 FI FE FM:Nat) (free:List Int) (ents:List EntD) (kv:List (ByteArray × Value)) (n:Nat) (last:Int) (st:TabU h.size hc T0 FI FE FM free ents kv) (hn:free.length=n+1) (hl:free[n]? = some last) (K:Value→Heap→Prop) (hk:∀ h',Ext h h'→Frs [T0] hc h'→TabU h.size h' T0 FI FE FM (free.take n) ents kv→K (.iface 3 (.int .i64 last)) h'):Ok Tryz.prog tab ov 190 [.pointer (some ⟨T0,0,none⟩)] hc K:=by
 obtain ⟨⟨vi,ve,q,oi,oe⟩,mm,hne,hlo,hhi⟩:=id st
 have hle:=oi.len_le
 have hlv:=fun (hh:Heap)=>oi.lenA zgl hh
 have hw:IntKind.i64.wrap (((free.length:Nat):Int) - 1)=(n:Int):=by rw [wrap_i64 (by omega) (by omega)];omega
 have hi1:=oi.ix (kd:=.i64) (i:=n) zgl sz3 (by omega)
 have ci:=oi.cell1 hl rfl
 obtain ⟨v2,hs2,o2⟩:=oi.pop (kd:=.i64) (n:=n) (by decide) zgl sz3 (by omega) (by intro e;rw [e] at hn;simp at hn)
 have hvv:=za3 vi
 have hv2:=za3 v2
 have hvn:=vInt
 have hvi:∀ (x:Value) (h:Heap) (K:Value→Heap→Prop),valE (some (.iface 3 x)) h K=K (.iface 3 x) h:=fun _ _ _=>rfl
 rw [zaa hc]
 refine Ok.into rfl zug (zaw N190) rfl (m:=28) rfl ?_
 simp -implicitDefEqProofs only [syms,symx,seval,c190,q.lay,zun,hvv,hlv,hw,hi1,ci,hvn,hs2,hv2,zhU,hvi,zcI]
 obtain ⟨xa,xn,xc,rfl⟩:=o2.shape
 refine zdp q zxM rfl rfl (by simp) rfl (fun h3 q3 c3=>?_)
 replace q3:Holds h3 T0 (.row [.slice xa xn xc,ve,.map (some FM)] 115 false):=q3
 have z3:=z.stepW c3 hlo.1 (by omega)
 have fr3:Frs [T0] hc h3:=(Frs.refl [T0] hc).chg c3 (.inl (by simp))
 have st3:=st.turnT fr3 q3 o2 oe
 clear z
 have z:=z3
 rw [zaa h3]
 simp -implicitDefEqProofs only [syms,symx,seval,c190,zhU,hvi,zcI]
 exact hk _ (z.upW _ _ (by omega)) (fr3.trans (Frs.lay _ _ _ []) (fun _ h=>nomatch h)) (st3.lay _ _)
theorem zti {l:List Int} {n:Nat} {x:Int} (hn:l.length=n+1) (hl:l[n]? = some x):l.Perm (x::l.take n):=by
 have e:l=l.take n++[x]:=by
  have h1:=(List.take_append_drop n l).symm
  rw [List.drop_eq_getElem_cons (by omega),(List.getElem?_eq_some_iff.1 hl).2,List.drop_of_length_le (by omega)] at h1
  exact h1
 conv=>lhs;rw [e]
 exact List.perm_append_singleton x (l.take n)
theorem zqF (h hc:Heap) (z:Ext h hc) (T0 FI FE FM:Nat) (free:List Int) (ents:List EntD) (kv:List (ByteArray × Value)) (n:Nat) (st:TabU h.size hc T0 FI FE FM free ents kv) (hn:free.length=n+1) (K:Value→Heap→Prop) (hk:∀ h' x rest,Ext h h'→Frs [T0,FI] hc h'→TabU h.size h' T0 FI FE FM rest ents kv→free.Perm (x::rest)→K (.iface 3 (.int .i64 x)) h'):Ok Tryz.prog tab ov 100 [ifI T0] hc K:=by
 obtain ⟨⟨vi,ve,q,oi,oe⟩,mm,hne,hlo,hhi⟩:=id st
 have hle:=oi.len_le
 have hw:IntKind.i64.wrap (((free.length:Nat):Int) - 1)=(n:Int):=by rw [wrap_i64 (by omega) (by omega)];omega
 have hvf:∀ (h:Heap) (K:Value→Heap→Prop),valE (some (ifI T0)) h K=K (ifI T0) h:=fun _ _=>rfl
 have hvi:∀ (x:Value) (h:Heap) (K:Value→Heap→Prop),valE (some (.iface 3 x)) h K=K (.iface 3 x) h:=fun _ _ _=>rfl
 obtain ⟨a,ha,ha'⟩:=zbs (l:=free) (i:=0) (by omega)
 obtain ⟨b,hb,hb'⟩:=zbs (l:=free) (i:=n) (by omega)
 rw [zaa hc]
 refine Ok.into rfl ztD (zaw N100) rfl (m:=14) rfl ?_
 simp -implicitDefEqProofs only [syms,symx,seval,c100,zbX,hvf]
 refine zdI (f:=99) (y:=vi) (by rw [zpn,zbL q];rfl) ?_
 refine zom free FI vi _ (oi.lay _ _) _ (fun h' x=>?_)
 have fr:Frs [T0,FI] hc h':=(Frs.refl [T0,FI] hc).over x
 (replace z:=z.overW x (by omega);(replace st:=st.over x);rw [zaa h'])
 clear q oi oe mm
 obtain ⟨⟨vi,ve,q,oi,oe⟩,mm,_,_,_⟩:=id st
 simp -implicitDefEqProofs only [syms,symx,seval,c100,zbX,hvf,hw]
 refine zdI (f:=192) (y:=vi) (by rw [zfa,zbL q];rfl) ?_
 refine zgz free FI vi 0 n a b h _ (z.upW _ _ (by omega)) hlo.2.1 (oi.lay _ _) ha' hb' _ (fun h3 z3 fr3 o3=>?_)
 have st3:=(st.lay [] h'.low).turnI (q.on _ _) (oe.lay _ _) fr3 o3
 replace fr:=(fr.trans (Frs.lay h' [] h'.low []) (fun _ h=>nomatch h)).trans fr3 (fun B hB=>.inl (by rw [List.mem_singleton.1 hB];simp))
 have hp3:=zfg ha' hb'
 have hl3:((free.set 0 b).set n a).length=n+1:=by rw [List.length_set,List.length_set];exact hn
 clear q oi oe o3 fr3 st z mm
 have z:=z3
 rw [zaa h3]
 simp -implicitDefEqProofs only [syms,symx,seval,c100,hvf]
 refine zvw h _ (z.upW _ _ (by omega)) T0 FI FE FM _ ents kv n (st3.lay _ _) (by omega) _ (fun h4 f4 bb z4 fr4 st4 hp4=>?_)
 replace fr:=(fr.trans (Frs.lay h3 [] h3.low []) (fun _ h=>nomatch h)).trans fr4 (fun B hB=>.inl (by rw [List.mem_singleton.1 hB];simp))
 have hl4:=hp4.length_eq
 obtain ⟨c,hc',hc''⟩:=zbs (l:=f4) (i:=n) (by omega)
 clear z z3 st3
 have z:=z4
 rw [zaa h4]
 simp -implicitDefEqProofs only [syms,symx,seval,c100,zbX,hvf]
 refine zdI (f:=190) (y:=.pointer (some ⟨T0,0,none⟩)) (by rw [zvq]) ?_
 refine zqH h _ (z.upW _ _ (by omega)) T0 FI FE FM f4 ents kv n c (st4.lay _ _) (by omega) hc'' _ (fun h5 z5 fr5 st5=>?_)
 replace fr:=(fr.trans (Frs.lay h4 [] h4.low []) (fun _ h=>nomatch h)).trans fr5 (fun B hB=>.inl (by rw [List.mem_singleton.1 hB];simp))
 clear z z4
 have z:=z5
 rw [zaa h5]
 simp -implicitDefEqProofs only [syms,symx,seval,c100,hvi]
 exact hk _ c _ (z.upW _ _ (by omega)) (fr.trans (Frs.lay _ _ _ []) (fun _ h=>nomatch h)) (st5.lay _ _) ((hp3.trans hp4).trans (zti (by omega) hc''))
theorem zzq:zed tab 110 110=true:=by kernel_rfl
theorem zol (h hc:Heap) (z:Ext h hc) (T0 FI FE FM:Nat) (free:List Int) (ents:List EntD) (kv:List (ByteArray × Value)) (n:Int) (st:TabU h.size hc T0 FI FE FM free ents kv) (hn:free.length < 800000000) (K:Value→Heap→Prop) (hk:∀ h' I2,Ext h h'→Frs [T0,FI] hc h'→TabU h.size h' T0 I2 FE FM (free++[n]) ents kv→(I2=FI∨hc.size≤I2)→K undef h'):Ok Tryz.prog tab ov 191 [.pointer (some ⟨T0,0,none⟩),.iface 3 (.int .i64 n)] hc K:=by
 obtain ⟨⟨vi,ve,q,oi,oe⟩,mm,hne,hlo,hhi⟩:=id st
 have hvv:=za3 vi
 have hvn:=vInt
 have hvf:∀ (h:Heap) (K:Value→Heap→Prop),valE (some (.iface 3 (.int .i64 n))) h K=K (.iface 3 (.int .i64 n)) h:=fun _ _=>rfl
 rw [zaa hc]
 refine Ok.into rfl zuh (zaw N191) rfl (m:=20) rfl ?_
 have hvt:∀ (a:Array Value) (h:Heap) (K:Value→Heap→Prop),valE (some (.tuple a)) h K=K (.tuple a) h:=fun _ _ _=>rfl
 simp -implicitDefEqProofs only [syms,symx,seval,c191,zhG,zlH,hvf,hvt,hvn,q.lay,zun,hvv,zcU,zzq]
 refine OwF.app (x:=n) (j:=0) ze3 rfl (by decide) zgl zng oi rfl (by omega) (by omega) (fun v3 h3 I3 o3 hI3 _ hc3=>?_)
 have c3:=hc3 hhi.2.1
 have z3:=z.stepW c3 hlo.2.1 (by omega)
 have fr3:Frs [FI] hc h3:=(Frs.refl [FI] hc).chg c3 (.inl (by simp))
 have q3:=q.stepL c3 hne.1
 have hs3:=c3.size
 rw [zad] at hs3
 obtain ⟨xa,xn,xc,rfl⟩:=o3.shape
 have hI3l:I3 < h3.size:=o3.lt (by simp)
 clear z
 have z:=z3
 rw [zaa h3]
 simp -implicitDefEqProofs only [syms,symx,seval,c191]
 refine zdp q3 zxM rfl rfl (by simp) rfl (fun h4 q4 c4=>?_)
 replace q4:Holds h4 T0 (.row [.slice xa xn xc,ve,.map (some FM)] 115 false):=q4
 have z4:=z.stepW c4 hlo.1 (by omega)
 have hI3n:I3≠T0:=by
  rcases hI3 with e|e
  ·rw [e.1];exact Ne.symm hne.1
  ·rw [e,zad];omega
 have fr4:Frs [T0,FI] hc h4:=(fr3.mono (fun B hB=>by rw [List.mem_singleton.1 hB];simp)).chg c4 (.inl (by simp))
 have hs4:=c4.size
 rw [zad] at hs4
 have hI3o:I3=FI∨hc.size≤I3:=by
  rcases hI3 with e|e
  ·exact .inl e.1
  ·right;rw [e,zad];omega
 have st4:=st.turnTI fr4 hI3o (by simp only [List.length_nil] at hs4;omega) q4 (o3.stepL c4 hI3n) oe
 clear z z3
 have z:=z4
 rw [zaa h4]
 simp -implicitDefEqProofs only [syms,symx,seval,c191]
 exact hk _ I3 (z.upW _ _ (by omega)) (fr4.trans (Frs.lay _ _ _ []) (fun _ h=>nomatch h)) (st4.lay _ _) hI3o
theorem zok (h hc:Heap) (z:Ext h hc) (T0 FI FE FM:Nat) (free:List Int) (ents:List EntD) (kv:List (ByteArray × Value)) (n:Int) (st:TabU h.size hc T0 FI FE FM free ents kv) (hn:free.length < 800000000) (K:Value→Heap→Prop) (hk:∀ h' I2 f2,Ext h h'→Frs [T0,FI] hc h'→TabU h.size h' T0 I2 FE FM f2 ents kv→(I2=FI∨hc.size≤I2)→f2.Perm (n::free)→K undef h'):Ok Tryz.prog tab ov 102 [ifI T0,.iface 3 (.int .i64 n)] hc K:=by
 have hvf:∀ (h:Heap) (K:Value→Heap→Prop),valE (some (ifI T0)) h K=K (ifI T0) h:=fun _ _=>rfl
 have hw:IntKind.i64.wrap ((((free++[n]).length:Nat):Int) - 1)=(free.length:Int):=by rw [List.length_append,List.length_singleton,wrap_i64 (by omega) (by omega)];omega
 rw [zaa hc]
 refine Ok.into rfl ztF (zaw N102) rfl (m:=10) rfl ?_
 simp -implicitDefEqProofs only [syms,symx,seval,c102,zbX,hvf]
 refine zdI (f:=191) (y:=.pointer (some ⟨T0,0,none⟩)) (by rw [zsH]) ?_
 refine zol h _ (z.upW _ _ (by omega)) T0 FI FE FM free ents kv n (st.lay _ _) hn _ (fun h3 I3 z3 fr3 st3 hI3=>?_)
 have fr:Frs [T0,FI] hc h3:=(Frs.lay hc [] hc.low [T0,FI]).trans fr3 (fun B hB=>.inl hB)
 have hI:I3=FI∨hc.size≤I3:=hI3.imp id (fun e=>by rw [zad] at e;omega)
 clear z st fr3
 have z:=z3
 have st:=st3
 clear z3 st3
 rw [zaa h3]
 obtain ⟨⟨vi,ve,q,oi,oe⟩,mm,_,_,_⟩:=id st
 simp -implicitDefEqProofs only [syms,symx,seval,c102,zbX,hvf]
 refine zdI (f:=99) (y:=vi) (by rw [zpn,zbL q];rfl) ?_
 refine zom _ I3 vi _ (oi.lay _ _) _ (fun h' x=>?_)
 (replace z:=z.overW x (by omega);(replace st:=st.over x);(replace fr:=fr.over x);rw [zaa h'])
 clear q oi oe mm
 simp -implicitDefEqProofs only [syms,symx,seval,c102,hvf,hw]
 refine zAM h _ (z.upW _ _ (by omega)) T0 I3 FE FM _ ents kv free.length (st.lay _ _) (by rw [List.length_append,List.length_singleton];omega) _ (fun h4 f4 z4 fr4 st4 hp4=>?_)
 have frf:Frs [T0,FI] hc h4:=(fr.trans (Frs.lay h' [] h'.low []) (fun _ h=>nomatch h)).trans fr4 (fun B hB=>by
  rw [List.mem_singleton.1 hB]
  exact hI.imp (fun e=>by rw [e];simp) id)
 clear z
 have z:=z4
 rw [zaa h4]
 simp -implicitDefEqProofs only [syms,symx,seval,c102]
 exact hk _ I3 f4 (z.upW _ _ (by omega)) (frf.trans (Frs.lay _ _ _ []) (fun _ h=>nomatch h)) (st4.lay _ _) hI ((hp4.symm).trans (List.perm_append_singleton n free))
theorem valM (A:Nat) (h:Heap) (K:Value→Heap→Prop):valE (some (.map (some A))) h K=K (.map (some A)) h:=rfl
theorem valN (k:IntKind) (n:Int) (h:Heap) (K:Value→Heap→Prop):valE (some (.int k n)) h K=K (.int k n) h:=rfl
theorem eqT (x):binA Tryz.prog tab .eql 76 (.pointer (some x)) (.pointer none)=some (.bool false):=by kernel_rfl
theorem neT (x):binA Tryz.prog tab .neq 76 (.pointer (some x)) (.pointer none)=some (.bool true):=by kernel_rfl
theorem zp7:tab.desc 63=some (.map 9 3):=by kernel_rfl
theorem znO:tab.desc 9=some .string:=by kernel_rfl
theorem zr3u:tab.zero 3=some (.int .i64 0):=by kernel_rfl
theorem zh7:tab.desc 113=some (.slice 136):=by kernel_rfl
theorem zkk:zau tab 136=some 2:=by kernel_rfl
theorem zy9 (h:Heap) (T0 FI FE FM N:Nat) (free:List Int) (ents:List EntD) (kv:List (ByteArray × Value)) (st:TabU N h T0 FI FE FM free ents kv) (K:Value→Heap→Prop) (hk:∀ h',Ext h h'→K (.int .i64 kv.length) h'):Ok Tryz.prog tab ov 36 [.pointer (some ⟨T0,0,none⟩)] h K:=by
 obtain ⟨⟨vi,ve,q,oi,oe⟩,mm,hne,hlo,hhi⟩:=st
 have z:=Ext.refl h
 have hvn:=vInt
 have hlv:=fun (b:List Blk) (w:Nat)=>lenV (bs:=b) (w:=w) mm zp7
 rw [zaa h]
 refine Ok.into rfl zwl (zaw N36) rfl (m:=9) rfl ?_
 simp -implicitDefEqProofs only [syms,symx,seval,c36,valM,valN,eqT,neT,q.lay,zjm,hlv,hvn]
 exact hk _ (z.upW _ _ (by omega))
theorem zvB (t:ByteArray) (r:Option Nat) (h:Heap) (T0 FI FE FM N:Nat) (free:List Int) (ents:List EntD) (kv:List (ByteArray × Value)) (st:TabU N h T0 FI FE FM free ents kv) (hr:zaK kv t=r.map fun i=>.int .i64 (i:Int)) (K:Value→Heap→Prop) (hk:∀ h',Ext h h'→K (.tuple #[.int .i64 ((r.getD 0:Nat):Int),.bool r.isSome]) h'):Ok Tryz.prog tab ov 67 [.pointer (some ⟨T0,0,none⟩),.string t] h K:=by
 obtain ⟨⟨vi,ve,q,oi,oe⟩,mm,hne,hlo,hhi⟩:=st
 have z:=Ext.refl h
 rw [zaa h]
 refine Ok.into rfl zwE (zaw N67) rfl (m:=19) rfl ?_
 simp -implicitDefEqProofs only [syms,symx,seval,c67,valM,valN,eqT,neT,q.lay,zjm,zeE]
 refine zfx mm zp7 znO zr3u ?_
 rw [hr]
 cases r with
 |none =>
  simp only [Option.map_none,Option.getD_none,Option.isSome_none,if_true] at hk ⊢
  simp -implicitDefEqProofs only [syms,symx,seval,c67,valN]
  exact hk _ (z.upW _ _ (by omega))
 |some i =>
  simp only [Option.map_some,Option.getD_some,Option.isSome_some,if_true] at hk ⊢
  simp -implicitDefEqProofs only [syms,symx,seval,c67,valN]
  exact hk _ (z.upW _ _ (by omega))
theorem _root_.Go.Am.OwF.cellJ {α:Type} {k:Nat} {cell:α→List Value} {h1:Heap} {u:TypeId} {A i j:Nat} {v:Value} {l:List α} {x:Value} {y:α} (f:OwF k cell h1 u A v l) (hx:l[i]? = some y) (hj:j < k) (hc:(cell y)[j]? = some x) (bs:List Blk) (w:Nat):zdq ((h1.lay bs w).get A) (i*k+j)=some x:=by
 obtain ⟨row,q,c⟩:=f.row hx
 have hg:=q.lay bs w
 rw [hg]
 unfold cut at c
 split at c
 ·simp only [Option.some.injEq] at c
  show row[i*k+j]? = some x
  have:=congrArg (fun l=>l[j]?) c
  simp only [List.getElem?_take,List.getElem?_drop,if_pos hj,hc] at this
  exact this
 ·cases c
theorem zy8 (n:Nat) (x:EntD) (h:Heap) (T0 FI FE FM N:Nat) (free:List Int) (ents:List EntD) (kv:List (ByteArray × Value)) (st:TabU N h T0 FI FE FM free ents kv) (hx:ents[n]? = some x) (K:Value→Heap→Prop) (hk:∀ h',Ext h h'→K (.bool (decide (0 < x.2))) h'):Ok Tryz.prog tab ov 101 [.pointer (some ⟨T0,0,none⟩),.int .i64 n] h K:=by
 obtain ⟨⟨vi,ve,q,oi,oe⟩,mm,hne,hlo,hhi⟩:=st
 have z:=Ext.refl h
 have hlv:=fun (hh:Heap)=>oe.lenA zh7 hh
 have hil:=(List.getElem?_eq_some_iff.1 hx).1
 have hi1:=oe.ix (kd:=.i64) (i:=n) zh7 zkk hil
 have c1:=oe.cellJ (j:=1) hx (by omega) rfl
 have hvv:=za3 ve
 rw [zaa h]
 refine Ok.into rfl ztE (zaw N101) rfl (m:=29) rfl ?_
 simp -implicitDefEqProofs only [syms,symx,seval,c101,valM,valN,eqT,neT,q.lay,zfm,hvv,hlv]
 refine zaD (fun _=>?_) (fun hn=>absurd hn (by omega))
 simp -implicitDefEqProofs only [syms,symx,seval,c101,valM,valN,eqT,neT,q.lay,zfm,hvv,hlv]
 refine zaD (fun _=>?_) (fun hn=>absurd hn (by omega))
 simp -implicitDefEqProofs only [syms,symx,seval,c101,valM,valN,eqT,neT,q.lay,zfm,hvv,hlv,hi1,c1]
 rw [zdy]
 simp -implicitDefEqProofs only [syms,symx,seval,c101]
 rw [zdy]
 simp -implicitDefEqProofs only [syms,symx,seval,c101]
 exact hk _ (z.upW _ _ (by omega))
theorem zk8:∀ (n:Nat) (l:List Int),l.Nodup→(∀ x∈l,0≤x∧x < n)→l.length≤n
 |0,l,_,h=>by
  cases l with
  |nil=>exact Nat.le_refl _
  |cons a l=>have:=h a List.mem_cons_self;omega
 |n+1,l,hn,h=>by
  by_cases hm:(n:Int)∈l
  ·have h1:=zk8 n (l.erase n) (hn.erase _) (fun x hx=>by
    have h2:=h x (List.mem_of_mem_erase hx)
    have h3:x≠n:=fun e=>by rw [e] at hx;exact (List.Nodup.not_mem_erase hn) hx
    omega)
   rw [List.length_erase_of_mem hm] at h1
   omega
  ·have h1:=zk8 n l hn (fun x hx=>by
    have h2:=h x hx
    have h3:x≠n:=fun e=>hm (e ▸ hx)
    omega)
   omega
theorem _root_.Go.Am.TabP.free_le {free:List Int} {ents:List EntD} {kv:List (ByteArray × Value)} {us:ByteArray→Nat} (p:TabP free ents kv us):free.length≤ents.length :=
 zk8 _ _ p.nd (fun x hx=>by obtain ⟨i,rfl,hi⟩:=p.fr x hx;omega)
theorem tsnd (a b:Value):([a,b]:List Value)[1]? = some b:=rfl
theorem valS (s:ByteArray) (h:Heap) (K:Value→Heap→Prop):valE (some (.string s)) h K=K (.string s) h:=rfl
theorem valI (t:TypeId) (x:Value) (h:Heap) (K:Value→Heap→Prop):valE (some (.iface t x)) h K=K (.iface t x) h:=rfl
theorem bld0:zbZ tab 136 []=some (.agg #[.string ByteArray.empty,.int .i64 0]):=by kernel_rfl
theorem valA (a:Array Value) (h:Heap) (K:Value→Heap→Prop):valE (some (.agg a)) h K=K (.agg a) h:=rfl
theorem zvy (h hc:Heap) (z:Ext h hc) (T0 FI FE FM:Nat) (free:List Int) (ents:List EntD) (kv:List (ByteArray × Value)) (us:ByteArray→Nat) (t:ByteArray) (i:Nat) (st:TabU h.size hc T0 FI FE FM free ents kv) (p:TabP free ents kv us) (hl:zaK kv t=some (.int .i64 (i:Int))) (hel:ents.length < 800000000) (hus:us t < 1000000000000) (K:Value→Heap→Prop)
 (hk:∀ h' I2 f2 e2 kv2,Ext h h'→Frs [T0,FI,FE,FM] hc h'→TabU h.size h' T0 I2 FE FM f2 e2 kv2→TabP f2 e2 kv2 (updU us t (us t - 1))→(I2=FI∨hc.size≤I2)→e2.length=ents.length→K (.int .i64 0) h'):Ok Tryz.prog tab ov 68 [.pointer (some ⟨T0,0,none⟩),.int .i64 i] hc K:=by
 obtain ⟨j,hj,hxi⟩:=p.num hl
 have hij:i=j:=by cases hj;rfl
 subst hij
 clear hj
 have hpos:=p.pos hl
 have hfl:=p.free_le
 have hil:=(List.getElem?_eq_some_iff.1 hxi).1
 have hw:IntKind.i64.wrap (((us t:Nat):Int) - 1)=((us t - 1:Nat):Int):=by rw [wrap_i64 (by omega) (by omega)];omega
 obtain ⟨⟨vi,ve,q,oi,oe⟩,mm,hne,hlo,hhi⟩:=id st
 have hi1:=oe.ix (kd:=.i64) (i:=i) zh7 zkk hil
 have c1:=oe.cellJ (j:=1) hxi (by omega) rfl
 have hvv:=za3 ve
 rw [zaa hc]
 refine Ok.into rfl zwF (zaw N68) rfl (m:=57) rfl ?_
 simp -implicitDefEqProofs only [syms,symx,seval,c68,valM,valN,eqT,neT]
 refine zy8 i _ _ T0 FI FE FM h.size free ents kv (st.lay _ _) hxi _ (fun h' x=>?_)
 rw [decide_eq_true (by show (0:Int) < (us t:Nat);omega)]
 have fr:Frs [T0,FI,FE,FM] hc h':=(Frs.refl [T0,FI,FE,FM] hc).over x
 replace st:=st.over x
 replace q:=q.over x
 replace oe:=oe.over x
 clear c1
 have c1:=oe.cellJ (j:=1) hxi (by omega) rfl
 replace oi:=oi.over x
 replace mm:=mm.over x
 (replace z:=z.overW x (by omega);rw [zaa h'])
 simp -implicitDefEqProofs only [syms,symx,seval,c68,valM,valN,eqT,neT]
 (with_reducible_and_instances apply zar);(· rfl)
 simp -implicitDefEqProofs only [syms,symx,seval,c68,valM,valN,eqT,neT,q.lay,zfm,hvv,hi1,c1,hw]
 refine OwF.store (off:=1) (y:=(t,((us t - 1:Nat):Int))) zcX oe hxi sz3 (by omega) rfl rfl rfl rfl (fun h3 oe3 c3=>?_)
 have z3:=z.stepW c3 hlo.2.2.1 (by omega)
 have hs0:=fr.size
 have fr3:Frs [T0,FI,FE,FM] hc h3:=fr.chg c3 (.inl (by simp))
 have q3:=q.stepL c3 hne.2.1
 have oi3:=oi.stepL c3 hne.2.2.2.1
 have mm3:=mm.stepL c3 (Ne.symm hne.2.2.2.2.2)
 have hs3:=fr3.size
 clear z q oi oe mm c1 fr
 have z:=z3
 have hxi3:(ents.set i (t,((us t - 1:Nat):Int)))[i]? = some (t,((us t - 1:Nat):Int)):=by rw [List.getElem?_set,if_pos rfl,if_pos hil]
 have c1:=oe3.cellJ (j:=1) hxi3 (by omega) rfl
 have c0:=oe3.cellJ (j:=0) hxi3 (by omega) rfl
 rw [zaa h3]
 simp -implicitDefEqProofs only [syms,symx,seval,c68,valM,valN,q3.lay,zfm,hvv,hi1,c1]
 refine zeR (fun heq=>?_) (fun hne0=>?_)
 ·simp -implicitDefEqProofs only [syms,symx,seval,c68]
  with_reducible first|refine zb9 (by simp only [c68]) (z.upW _ _ (by omega)) ?_
  simp -implicitDefEqProofs only [syms,symx,seval,c68,valM,valN,valS,q3.lay,zfm,zjm,hvv,hi1,c0,zxf]
  refine zr0 mm3 zp7 znO (fun h4 m4 c4=>?_)
  have hz:=z.size
  refine zaU (A:=FM) (by kernel_rfl) (by rw [zad];omega) (by omega) (by simpa only [zan,zad,List.append_nil,List.length_cons,List.length_nil,Nat.add_zero] using c4) ?_
  have z4:=(z.upW [] (h3.size+0) (by omega)).step c4 hlo.2.2.2
  have fr4:Frs [T0,FI,FE,FM] hc h4:=fr3.chg c4 (.inl (by simp))
  have q4:=q3.stepL c4 hne.2.2.1
  have oi4:=oi3.stepL c4 hne.2.2.2.2.1
  have oe4:=oe3.stepL c4 hne.2.2.2.2.2
  clear z q3 oi3 oe3 mm3 c1 c0
  have z:=z4
  rw [zaa h4]
  simp -implicitDefEqProofs only [syms,symx,seval,c68]
  ((with_reducible refine ⟨z.grw.lay _ _,?_⟩);(intro _ h' zz x _);(simp only [zan,List.append_nil] at x))
  replace q4:=q4.over x
  replace oi4:=oi4.over x
  replace oe4:=oe4.over x
  replace m4:=m4.over x
  replace fr4:=fr4.over x
  replace z:=zz
  rw [zaa h']
  simp -implicitDefEqProofs only [syms,symx,seval,c68,valM,valN,valS,q4.lay,zfm,zjm,hvv,hi1,bld0,valA]
  have hxi4:(ents.set i (t,((us t - 1:Nat):Int)))[i]? = some (t,((us t - 1:Nat):Int)):=hxi3
  refine OwF.store0 (y:=(ByteArray.empty,0)) zcX oe4 hxi4 zkk (by omega) rfl rfl rfl rfl (fun h5 oe5 c5=>?_)
  have hs4:=fr4.size
  have z5:=z.stepW c5 hlo.2.2.1 (by omega)
  have fr5:Frs [T0,FI,FE,FM] hc h5:=fr4.chg c5 (.inl (by simp))
  have q5:=q4.stepL c5 hne.2.1
  have oi5:=oi4.stepL c5 hne.2.2.2.1
  have m5:=m4.stepL c5 (Ne.symm hne.2.2.2.2.2)
  have hs5:=fr5.size
  clear z q4 oi4 oe4 m4 fr4 z3 z4 fr3
  have z:=z5
  rw [List.set_set] at oe5
  have st5:TabU h.size h5 T0 FI FE FM free (ents.set i (ByteArray.empty,0)) (delV kv t):=⟨⟨vi,ve,q5,oi5,oe5⟩,m5,hne,hlo,⟨by omega,by omega,by omega,by omega⟩⟩
  have p5:=p.gone hl (ByteArray.empty,0)
  rw [zaa h5]
  simp -implicitDefEqProofs only [syms,symx,seval,c68,zhU,zsv,valI,zcI]
  refine zok h _ (z.upW _ _ (by omega)) T0 FI FE FM free _ _ (i:Int) (st5.lay _ _) (by omega) _ (fun h6 I2 f2 z6 fr6 st6 hI hp6=>?_)
  replace fr5:=(fr5.trans (Frs.lay h5 [] h5.low []) (fun _ h=>nomatch h)).trans fr6 (fun B hB=>.inl (by rcases List.mem_cons.1 hB with rfl|hB;simp;rw [List.mem_singleton.1 hB];simp))
  have p6:=p5.perm hp6.symm
  rw [show (0:Nat)=us t - 1 by omega] at p6
  have hI6:I2=FI∨hc.size≤I2:=hI.imp id (fun e=>by rw [zad] at e;omega)
  clear z z5
  have z:=z6
  rw [zaa h6]
  simp -implicitDefEqProofs only [syms,symx,seval,c68]
  exact hk _ I2 f2 _ _ (z.upW _ _ (by omega)) (fr5.trans (Frs.lay _ _ _ []) (fun _ h=>nomatch h)) (st6.lay _ _) p6 hI6 (by rw [List.length_set])
 ·simp -implicitDefEqProofs only [syms,symx,seval,c68]
  have st3:TabU h.size h3 T0 FI FE FM free (ents.set i (t,((us t - 1:Nat):Int))) kv:=⟨⟨vi,ve,q3,oi3,oe3⟩,mm3,hne,hlo,⟨by omega,by omega,by omega,by omega⟩⟩
  exact hk _ FI free _ _ (z.upW _ _ (by omega)) (fr3.trans (Frs.lay _ _ _ []) (fun _ h=>nomatch h)) (st3.lay _ _) (p.turn hl (m:=us t - 1) (by omega)) (.inl rfl) (by rw [List.length_set])
theorem zzr:zed tab 113 113=true:=by kernel_rfl
theorem zA2:zau tab 113=some 1:=by kernel_rfl
theorem bld1 (t:ByteArray):zbZ tab 136 [(0,.string t),(1,.int .i64 1)]=some (.agg #[.string t,.int .i64 1]):=by kernel_rfl
theorem valT (a:Array Value) (h:Heap) (K:Value→Heap→Prop):valE (some (.tuple a)) h K=K (.tuple a) h:=rfl
theorem zvI (h hc:Heap) (z:Ext h hc) (T0 FI FE FM:Nat) (free:List Int) (ents:List EntD) (kv:List (ByteArray × Value)) (us:ByteArray→Nat) (t:ByteArray) (st:TabU h.size hc T0 FI FE FM free ents kv) (p:TabP free ents kv us) (ht:t.size≠0) (ht2:t.size≤255) (hkl:kv.length < 65536) (hel:ents.length < 700000000) (hus:us t < 1000000000000) (K:Value→Heap→Prop)
 (hk:∀ h' n I2 E2 f2 e2 kv2,Ext h h'→Frs [T0,FI,FE,FM] hc h'→TabU h.size h' T0 I2 E2 FM f2 e2 kv2→TabP f2 e2 kv2 (updU us t (us t+1))→(I2=FI∨hc.size≤I2)→(E2=FE∨hc.size≤E2)→e2.length≤ents.length+1→K (.tuple #[.int .i64 n,.int .i64 0]) h'):Ok Tryz.prog tab ov 65 [.pointer (some ⟨T0,0,none⟩),.string t] hc K:=by
 have hfl:=p.free_le
 obtain ⟨⟨vi,ve,q,oi,oe⟩,mm,hne,hlo,hhi⟩:=id st
 have hvv:=za3 ve
 have hvi:=za3 vi
 have hlm:=fun (b:List Blk) (w:Nat)=>lenV (bs:=b) (w:=w) mm zp7
 have hle:=fun (hh:Heap)=>oe.lenA zh7 hh
 rw [zaa hc]
 refine Ok.into rfl zwC (zaw N65) rfl (m:=94) rfl ?_
 simp -implicitDefEqProofs only [syms,symx,seval,c65,valM,valN,eqT,neT]
 refine zaD (fun he=>absurd (by rw [he];rfl) ht) (fun _=>?_)
 simp -implicitDefEqProofs only [syms,symx,seval,c65,valM,valN,eqT,neT]
 refine zaD (fun he=>absurd he (by omega)) (fun _=>?_)
 simp -implicitDefEqProofs only [syms,symx,seval,c65,valM,valN,eqT,neT,q.lay,zjm,zeE]
 refine zfx mm zp7 znO zr3u ?_
 cases hl:zaK kv t with
 |some v =>
  obtain ⟨i,rfl,hxi⟩:=p.num hl
  have hil:=(List.getElem?_eq_some_iff.1 hxi).1
  have hi1:=oe.ix (kd:=.i64) (i:=i) zh7 zkk hil
  have c1:=oe.cellJ (j:=1) hxi (by omega) rfl
  have hw:IntKind.i64.wrap (((us t:Nat):Int)+1)=((us t+1:Nat):Int):=by rw [wrap_i64 (by omega) (by omega)];omega
  simp only [Option.getD_some,Option.isSome_some,if_true]
  simp -implicitDefEqProofs only [syms,symx,seval,c65,valM,valN,eqT,neT,q.lay,zfm,hvv,hi1,c1,hw]
  refine OwF.store (off:=1) (y:=(t,((us t+1:Nat):Int))) zcX oe hxi sz3 (by omega) rfl rfl rfl rfl (fun h3 oe3 c3=>?_)
  have z3:=z.stepW c3 hlo.2.2.1 (by omega)
  have fr3:Frs [T0,FI,FE,FM] hc h3:=(Frs.refl _ hc).chg c3 (.inl (by simp))
  have q3:=q.stepL c3 hne.2.1
  have oi3:=oi.stepL c3 hne.2.2.2.1
  have mm3:=mm.stepL c3 (Ne.symm hne.2.2.2.2.2)
  have hs3:=fr3.size
  clear z q oi oe mm c1
  have z:=z3
  rw [zaa h3]
  simp -implicitDefEqProofs only [syms,symx,seval,c65,valN]
  have st3:TabU h.size h3 T0 FI FE FM free (ents.set i (t,((us t+1:Nat):Int))) kv:=⟨⟨vi,ve,q3,oi3,oe3⟩,mm3,hne,hlo,⟨by omega,by omega,by omega,by omega⟩⟩
  exact hk _ _ FI FE free _ _ (z.upW _ _ (by omega)) (fr3.trans (Frs.lay _ _ _ []) (fun _ h=>nomatch h)) (st3.lay _ _) (p.turn hl (m:=us t+1) (by omega)) (.inl rfl) (.inl rfl) (by rw [List.length_set];omega)
 |none =>
  have hzu:=p.zero hl
  simp only [Option.getD_none,Option.isSome_none,if_true]
  simp -implicitDefEqProofs only [syms,symx,seval,c65,valM,valN,eqT,neT,q.lay,zjm,hlm]
  refine zaD (fun he=>absurd he (by omega)) (fun _=>?_)
  simp -implicitDefEqProofs only [syms,symx,seval,c65,valM,valN,eqT,neT,q.lay,zfm,zun,hvv,hvi,hle]
  refine zom free FI vi _ (oi.lay _ _) _ (fun h' x=>?_)
  replace st:=st.over x
  have fr:Frs [T0,FI,FE,FM] hc h':=(Frs.refl [T0,FI,FE,FM] hc).over x
  replace q:=q.over x
  replace oi:=oi.over x
  replace oe:=oe.over x
  replace mm:=mm.over x
  (replace z:=z.overW x (by omega);rw [zaa h'])
  simp -implicitDefEqProofs only [syms,symx,seval,c65,valN]
  refine zaD (fun hpos=>?_) (fun hzero=>?_)
  focus
   obtain ⟨nf,hnf⟩:∃ nf,free.length=nf+1:=⟨free.length - 1,by omega⟩
   simp -implicitDefEqProofs only [syms,symx,seval,c65,zhU,zsv,valI,zcI,eqT,neT]
   refine zqF h _ (z.upW _ _ (by omega)) T0 FI FE FM free ents kv nf (st.lay _ _) hnf _ (fun hb xx F2 z2 fr2 st2 hp2=>?_)
   have fr3:Frs [T0,FI,FE,FM] hc hb:=(fr.trans (Frs.lay h' [] h'.low []) (fun _ h=>nomatch h)).trans fr2 (fun B hB=>.inl (by rcases List.mem_cons.1 hB with rfl|hB;simp;rw [List.mem_singleton.1 hB];simp))
   obtain ⟨m,rfl,hm,pp⟩:=p.pop hl hp2
   obtain ⟨E2,hE2⟩:∃ E2,E2=FE:=⟨_,rfl⟩
   obtain ⟨e2,he2⟩:∃ e2,e2=ents:=⟨_,rfl⟩
   rw [← hE2,← he2] at st2
   rw [← he2] at pp hm
   have hE:E2=FE∨hc.size≤E2:=.inl hE2
   have hel2:e2.length≤ents.length+1:=by rw [he2];omega
   clear z fr fr2 st hE2 he2 hp2 q oi oe mm hvv hvi hne hlo hhi
   rw [zaa hb]
   simp -implicitDefEqProofs only [syms,symx,seval,c65,zhG,zlH,valI,valN,valT]
  rotate_left
  focus
   simp -implicitDefEqProofs only [syms,symx,seval,c65,valN,q.lay,zfm,hvv,bld0,valA,zcU,zzr]
   refine OwF.app (x:=(ByteArray.empty,0)) (j:=0) zcX rfl (by decide) zh7 zjk oe rfl (by omega) (by omega) (fun v3 h3 E2 oe3 hE3 _ hc3=>?_)
   have hsf:=fr.size
   have c3:=hc3 (by omega)
   have z3:=z.stepW c3 hlo.2.2.1 (by omega)
   have fr3:Frs [T0,FI,FE,FM] hc h3:=fr.chg c3 (.inl (by simp))
   have q3:=q.stepL c3 hne.2.1
   have oi3:=oi.stepL c3 hne.2.2.2.1
   have mm3:=mm.stepL c3 (Ne.symm hne.2.2.2.2.2)
   have hs3:=c3.size
   rw [zad] at hs3
   obtain ⟨xa,xn,xc,rfl⟩:=oe3.shape
   have hE3l:E2 < h3.size:=oe3.lt (by simp)
   have hE:E2=FE∨hc.size≤E2:=by
    rcases hE3 with e|e
    ·exact .inl e.1
    ·right;rw [e,zad];omega
   clear z
   have z:=z3
   rw [zaa h3]
   simp -implicitDefEqProofs only [syms,symx,seval,c65]
   have hneE:T0≠E2∧FI≠E2∧E2≠FM:=by
    rcases hE with e|e
    ·rw [e];exact ⟨hne.2.1,hne.2.2.2.1,hne.2.2.2.2.2⟩
    ·exact ⟨by omega,by omega,by omega⟩
   refine zdp q3 zA2 rfl rfl (by simp) rfl (fun hb q4 c4=>?_)
   replace q4:Holds hb T0 (.row [vi,.slice xa xn xc,.map (some FM)] 115 false):=q4
   have z2:=z.stepW c4 hlo.1 (by omega)
   have hs3':=fr3.size
   replace fr3:Frs [T0,FI,FE,FM] hc hb:=fr3.chg c4 (.inl (by simp))
   have hs4:=c4.size
   rw [zad] at hs4
   obtain ⟨F2,hF2⟩:∃ F2,F2=free:=⟨_,rfl⟩
   obtain ⟨e2,he2⟩:∃ e2,e2=ents++[((ByteArray.empty,0):EntD)]:=⟨_,rfl⟩
   obtain ⟨m,hm0⟩:∃ m,m=ents.length:=⟨_,rfl⟩
   have st2:TabU h.size hb T0 FI E2 FM F2 e2 kv:=⟨⟨vi,.slice xa xn xc,q4,by rw [hF2];exact oi3.stepL c4 (Ne.symm hne.1),by rw [he2];exact oe3.stepL c4 (Ne.symm hneE.1)⟩,mm3.stepL c4 (Ne.symm hne.2.2.1),⟨hne.1,hneE.1,hne.2.2.1,hneE.2.1,hne.2.2.2.2.1,hneE.2.2⟩,⟨hlo.1,hlo.2.1,by rcases hE with e|e;(rw [e];exact hlo.2.2.1);(have:=z.size;have:=hhi.1;omega),hlo.2.2.2⟩,⟨by omega,by omega,by omega,by omega⟩⟩
   have hel2:e2.length≤ents.length+1:=by rw [he2,List.length_append];exact Nat.le_refl _
   have hm:m < e2.length:=by rw [he2,hm0,List.length_append];simp
   have pp:TabP F2 (e2.set m (t,1)) (setV kv t (.int .i64 (m:Int))) (updU us t 1):=by rw [he2,hm0,hF2];exact p.more hl _
   rw [← hm0]
   clear q oi oe mm q3 oi3 oe3 mm3 hne hlo hhi hvv hvi z st fr z3 hF2 he2
   rw [zaa hb]
   simp -implicitDefEqProofs only [syms,symx,seval,c65]
  rotate_left
  all_goals
   obtain ⟨⟨vi2,ve2,q,oi,oe⟩,mm,hne,hlo,hhi⟩:=id st2
   have z:=z2
   clear z2
   obtain ⟨x0,hx0⟩:∃ x0,e2[m]? = some x0:=⟨_,List.getElem?_eq_getElem hm⟩
   have hi1:=oe.ix (kd:=.i64) (i:=m) zh7 zkk hm
   have hvv:=za3 ve2
   with_reducible first|refine zb9 (by simp only [c65]) (z.upW _ _ (by omega)) ?_
   simp -implicitDefEqProofs only [syms,symx,seval,c65,valM,valN,valS,valA,bld1,q.lay,zfm,zjm,hvv,hi1]
   refine OwF.store0 (y:=(t,1)) zcX oe hx0 zkk (by omega) rfl rfl rfl rfl (fun h5 oe5 c5=>?_)
   have hz:=z.size
   refine zaU (A:=E2) (by kernel_rfl) (by rw [zad];omega) (by omega) (by simpa only [zan,zad,List.append_nil,List.length_cons,List.length_nil,Nat.add_zero] using c5) ?_
   have z5:=(z.upW [] (hb.size+0) (by omega)).step c5 hlo.2.2.1
   have fr5:Frs [E2] hb h5:=(Frs.refl [E2] hb).chg c5 (.inl (by simp))
   have q5:=q.stepL c5 hne.2.1
   have oi5:=oi.stepL c5 hne.2.2.2.1
   have mm5:=mm.stepL c5 (Ne.symm hne.2.2.2.2.2)
   clear z q oi oe mm
   have z:=z5
   rw [zaa h5]
   simp -implicitDefEqProofs only [syms,symx,seval,c65,zrt]
   refine znP mm5 zp7 znO zr3u (fun h6 xx s bb hb6 c6 he6=>?_)
   have hz:=z.size
   refine zaU (A:=FM) (by kernel_rfl) (by rw [zad];omega) (by omega) (by simpa only [zan,zad,List.append_nil,List.length_cons,List.length_nil,Nat.add_zero] using c6) ?_
   have z6:=(z.upW [] (h5.size+0) (by omega)).step c6 hlo.2.2.2
   have fr6:Frs [E2,FM] hb h6:=(fr5.mono (fun B hB=>by rw [List.mem_singleton.1 hB];simp)).chg c6 (.inl (by simp))
   have q6:=q5.stepL c6 hne.2.2.1
   have oi6:=oi5.stepL c6 hne.2.2.2.2.1
   have oe6:=oe5.stepL c6 hne.2.2.2.2.2
   clear z q5 oi5 oe5 mm5
   have z:=z6
   rw [zaa h6]
   simp -implicitDefEqProofs only [syms,symx,seval,c65,valM,valN,znl]
   refine he6 _ (hb6.on _ _) _ _ (fun h7 m7 c7=>?_)
   have hz:=z.size
   refine zaU (A:=FM) (by kernel_rfl) (by rw [zad];omega) (by omega) (by simpa only [zan,zad,List.append_nil,List.length_cons,List.length_nil,Nat.add_zero] using c7) ?_
   have z7:=(z.upW [] (h6.size+0) (by omega)).step c7 hlo.2.2.2
   have fr7:Frs [E2,FM] hb h7:=fr6.chg c7 (.inl (by simp))
   have q7:=q6.stepL c7 hne.2.2.1
   have oi7:=oi6.stepL c7 hne.2.2.2.2.1
   have oe7:=oe6.stepL c7 hne.2.2.2.2.2
   clear z q6 oi6 oe6
   have z:=z7
   rw [zaa h7]
   simp -implicitDefEqProofs only [syms,symx,seval,c65]
   ((with_reducible refine ⟨z.grw.lay _ _,?_⟩);(intro _ h8 zz x8 _);(simp only [zan,List.append_nil] at x8))
   replace q7:=q7.over x8
   replace oi7:=oi7.over x8
   replace oe7:=oe7.over x8
   replace m7:=m7.over x8
   replace fr7:=fr7.over x8
   have fr8:Frs [T0,FI,FE,FM] hc h8:=fr3.trans fr7 (fun B hB=>by
    rcases List.mem_cons.1 hB with rfl|hB
    ·exact hE.imp (fun e=>by rw [e];simp) id
    ·rw [List.mem_singleton.1 hB];exact .inl (by simp))
   have hs7:=fr7.size
   clear z
   have z:=zz
   have st7:TabU h.size h8 T0 FI E2 FM F2 (e2.set m (t,1)) (setV kv t (.int .i64 (m:Int))):=⟨⟨vi2,ve2,q7,oi7,oe7⟩,m7,hne,hlo,⟨by omega,by omega,by omega,by omega⟩⟩
   rw [zaa h8]
   simp -implicitDefEqProofs only [syms,symx,seval,c65,valN]
   exact hk _ _ FI E2 F2 _ _ (z.upW _ _ (by omega)) (fr8.trans (Frs.lay _ _ _ []) (fun _ h=>nomatch h)) (st7.lay _ _) (by rw [hzu];exact pp) (.inl rfl) hE (by rw [List.length_set];exact hel2)
end Go.Proofs.YtdplfgoifjjniaaGreatDoor
