/- Texts by numbers, as plain data. No condition. -/
import Derived.Test.YtmamldleclamjaaGreatDoorGFr
import Derived.Test.YtmamldleclamjaaGreatDoorZK21
set_option linter.unusedSimpArgs false
set_option linter.unusedVariables false
set_option maxRecDepth 100000
set_option maxHeartbeats 0
namespace Go.Am
variable {f2:List Int} {ve:ah}
def fU (us:au->Nat) (t:au) (n:Nat):au->Nat:=λx=>if x=t then n else us x
theorem wM (us:au->Nat) (t:au) (n:Nat):fU us t n t=n:=aB rfl
theorem tC {us:au->Nat} {t x:au} {n:Nat} (h:x≠t):fU us t n x=us x:=aA h
abbrev fe:=au × Int
def PW (x:fe):List ah:=[.string x.1,.int .i64 x.2]
theorem PA (x:fe):(PW x).length=2:=rfl
def BV (x:Int):List ah:=[.int .i64 x]
theorem zfk (x:Int):(BV x).length=1:=rfl
structure df (free:List Int) (aV:List fe) (kv:List (au × ah)) (us:au->Nat):Prop where
 fr:∀ n∈free,∃ i:Nat,n=(i:Int)/\i < aV.length
 nd:free.Nodup
 kn:(kv.map Prod.fst).Nodup
 val:∀ t v,dq kv t=some v->∃ i:Nat,v=.int .i64 (i:Int)/\aV[i]? = some (t,(us t:Int))/\(i:Int) ∉ free
 has:∀ t,(dq kv t).isSome=true↔0 < us t
section
variable {free rest:List Int} {aV:List fe} {kv:List (au × ah)} {us:au->Nat} {t:au} {v:ah} {n:Int} {i:Nat}
theorem df.empty:df [] [] [] (λ_=>0):=⟨λ_ h=>by simp at h,List.nodup_nil,by simp,λt v h=>by simp [dq] at h,λt=>by simp [dq]⟩
theorem df.perm (p:df free aV kv us) (h:free.Perm rest):df rest aV kv us :=
 ⟨λn hn=>p.fr n (h.mem_iff.2 hn),h.nodup_iff.1 p.nd,p.kn,λt v hv=>(p.val t v hv).imp λi hi=>⟨hi.1,hi.2.1,λhh=>hi.2.2 (h.mem_iff.2 hh)⟩,p.has⟩
theorem df.num (p:df free aV kv us) (h:dq kv t=some v):∃ i:Nat,v=.int .i64 (i:Int)/\aV[i]? = some (t,(us t:Int)):=(p.val t v h).imp λi hi=>⟨hi.1,hi.2.1⟩
theorem df.zero (p:df free aV kv us) (h:dq kv t=none):us t=0:=by
 have:=p.has t
 rw [h] at this
 simp at this
 exact this
theorem df.pos (p:df free aV kv us) (h:dq kv t=some v):0 < us t:=(p.has t).1 (by rw [h];rfl)
theorem df.turn (p:df free aV kv us) (h:dq kv t=some (.int .i64 (i:Int))) {m:Nat} (hm:0 < m):df free (aV.set i (t,(m:Int))) kv (fU us t m):=by
 obtain ⟨j,hj,lx,hjf⟩:=p.val t _ h
 have dp:i=j:=by cases hj;rfl
 subst dp
 have iK:=(dH.1 lx).1
 refine ⟨λn hn=>?_,p.nd,p.kn,λt2 v2 h2=>?_,λt2=>?_⟩
 .obtain ⟨q,hq,vp⟩:=p.fr n hn
  exact ⟨q,hq,by rw [nB];exact vp⟩
 .obtain ⟨q,hq,ub,zJ⟩:=p.val t2 v2 h2
  refine ⟨q,hq,?_,zJ⟩
  rw [rE]
  by_cases he:t2=t
  .subst he
   rw [h] at h2
   cases h2
   have:q=i:=by cases hq;rfl
   subst this
   rw [aB rfl,aB iK,wM]
  .rw [aA (by rintro rfl;rw [lx] at ub;cases ub;exact he rfl),tC he]
   exact ub
 .by_cases he:t2=t
  .subst he
   rw [h,wM]
   simp [hm]
  .rw [tC he]
   exact p.has t2
theorem df.fresh {m:Nat} (cQ:∀ n∈rest,∃ i:Nat,n=(i:Int)/\i < aV.length) (gw:rest.Nodup) (RM:(kv.map Prod.fst).Nodup) (dS:∀ t v,dq kv t=some v->∃ i:Nat,v=.int .i64 (i:Int)/\aV[i]? = some (t,(us t:Int))/\(i:Int) ∉ rest/\i≠m) (xS:∀ t,(dq kv t).isSome=true↔0 < us t)
 (hm:m < aV.length) (hmf:(m:Int) ∉ rest) (h:dq kv t=none):df rest (aV.set m (t,1)) (gp kv t (.int .i64 (m:Int))) (fU us t 1):=by
 refine ⟨λn hn=>?_,gw,SQ RM t _,λt2 v2 h2=>?_,λt2=>?_⟩
 .obtain ⟨q,hq,vp⟩:=cQ n hn
  exact ⟨q,hq,by rw [nB];exact vp⟩
 .rw [G3] at h2
  by_cases he:t2=t
  .subst he
   rw [aB rfl] at h2
   cases h2
   refine ⟨m,rfl,?_,hmf⟩
   rw [rE,aB rfl,aB hm,wM]
   rfl
  .rw [aA he] at h2
   obtain ⟨q,hq,ub,zJ,hqm⟩:=dS t2 v2 h2
   refine ⟨q,hq,?_,zJ⟩
   rw [rE,aA (Ne.symm hqm),tC he]
   exact ub
 .rw [G3]
  by_cases he:t2=t
  .subst he
   rw [aB rfl,wM]
   simp
  .rw [aA he,tC he]
   exact xS t2
theorem df.pop (p:df free aV kv us) (h:dq kv t=none) (hp:free.Perm (n::rest)):∃ i:Nat,n=(i:Int)/\i < aV.length/\df rest (aV.set i (t,1)) (gp kv t (.int .i64 (i:Int))) (fU us t 1):=by
 have gw:=hp.nodup_iff.1 p.nd
 rw [wg] at gw
 obtain ⟨i,rfl,hi⟩:=p.fr n (hp.mem_iff.2 fZ)
 refine ⟨i,rfl,hi,df.fresh (λm hm=>p.fr m (hp.mem_iff.2 (eQ _ hm))) gw.2 p.kn (λt2 v2 h2=>?_) p.has hi gw.1 h⟩
 obtain ⟨q,hq,ub,zJ⟩:=p.val t2 v2 h2
 exact ⟨q,hq,ub,λhh=>zJ (hp.mem_iff.2 (eQ _ hh)),λe=>zJ (by rw [e];exact hp.mem_iff.2 fZ)⟩
theorem df.more (p:df free aV kv us) (h:dq kv t=none) (x:fe):df free ((aV++[x]).set aV.length (t,1)) (gp kv t (.int .i64 (aV.length:Int))) (fU us t 1):=by
 refine df.fresh (λm hm=>?_) p.nd p.kn (λt2 v2 h2=>?_) p.has (by rw [dI];simp) (λhh=>?_) h
 .obtain ⟨q,hq,vp⟩:=p.fr m hm
  exact ⟨q,hq,by rw [dI];omega⟩
 .obtain ⟨q,hq,ub,zJ⟩:=p.val t2 v2 h2
  have vp:=(dH.1 ub).1
  exact ⟨q,hq,by rw [nz vp];exact ub,zJ,by omega⟩
 .obtain ⟨q,hq,vp⟩:=p.fr _ hh
  omega
theorem df.gone (p:df free aV kv us) (h:dq kv t=some (.int .i64 (i:Int))) (x:fe):df ((i:Int)::free) (aV.set i x) (mX kv t) (fU us t 0):=by
 obtain ⟨j,hj,lx,hjf⟩:=p.val t _ h
 have dp:i=j:=by cases hj;rfl
 subst dp
 have iK:=(dH.1 lx).1
 refine ⟨λn hn=>?_,wg.2 ⟨hjf,p.nd⟩,zhm p.kn t,λt2 v2 h2=>?_,λt2=>?_⟩
 .rw [nB]
  rcases cJ.1 hn with rfl|hn
  .exact ⟨i,rfl,iK⟩
  .exact p.fr n hn
 .rw [zjP] at h2
  by_cases he:t2=t
  .rw [aB he] at h2;cases h2
  .rw [aA he] at h2
   obtain ⟨q,hq,ub,zJ⟩:=p.val t2 v2 h2
   have hqi:i≠q:=by rintro rfl;rw [lx] at ub;cases ub;exact he rfl
   refine ⟨q,hq,by rw [rE,aA hqi,tC he];exact ub,λhh=>?_⟩
   rcases cJ.1 hh with e|hh
   .exact hqi (by omega)
   .exact zJ hh
 .rw [zjP]
  by_cases he:t2=t
  .rw [aB he,he,wM];simp
  .rw [aA he,tC he];exact p.has t2
end
theorem zwI {kv kw:List (au × ah)} (h1:(kv.map Prod.fst).Nodup) (h2:(kw.map Prod.fst).Nodup) (h:∀ t,(dq kv t).isSome=true↔(dq kw t).isSome=true):kv.length=kw.length:=by
 have hm:∀ (l:List (au × ah)) (t:au),(dq l t).isSome=true↔t∈l.map Prod.fst:=λl t=>by
  cases hl:dq l t with
  |none=>simp [fm.1 hl]
  |some v =>
   simp only [Hz,true_iff]
   refine Classical.byContradiction λhn=>?_
   rw [fm.2 hn] at hl
   cases hl
 have hp:(kv.map Prod.fst).Perm (kw.map Prod.fst):=(List.perm_ext_iff_of_nodup h1 h2).2 λt=>by rw [<- hm,<- hm];exact h t
 simpa using hp.length_eq
structure gD (tt ti te N:Nat) (h:Heap) (T0 I E M:Nat) (free:List Int) (aV:List fe) (kv:List (au × ah)):Prop where
 row:∃ vi ve,Holds h T0 (.row [vi,ve,.map (some M)] tt false)/\cN 1 BV h ti I vi free/\cN 2 PW h te E ve aV
 map:dn h M kv
 ne:T0≠I/\T0≠E/\T0≠M/\I≠E/\I≠M/\E≠M
 lo:N<=T0/\N<=I/\N<=E/\N<=M
 hi:T0 < h.size/\I < h.size/\E < h.size/\M < h.size
section
variable {tt ti te N:Nat} {h h1 h2:Heap} {T0 I E M w:Nat} {bs:List ba} {free:List Int} {aV:List fe} {kv:List (au × ah)}
theorem gD.hold (s:gD tt ti te N h T0 I E M free aV kv) (hs:h.size<=h1.size) (hO:∀ A b,A=T0\/A=I\/A=E\/A=M->Holds h A b->Holds h1 A b):gD tt ti te N h1 T0 I E M free aV kv:=by
 obtain ⟨⟨vi,ve,q,oi,oe⟩,m,n,l,u⟩:=s
 exact ⟨⟨vi,ve,hO _ _ (.inl rfl) q,oi.hold (λb=>hO _ b (.inr (.inl rfl))),oe.hold (λb=>hO _ b (.inr (.inr (.inl rfl))))⟩,m.hold (λb=>hO _ b (.inr (.inr (.inr rfl)))),n,l,⟨by omega,by omega,by omega,by omega⟩⟩
theorem gD.over (s:gD tt ti te N h1 T0 I E M free aV kv) (x:Ext (h1.lay bs w) h2):gD tt ti te N h2 T0 I E M free aV kv:=s.hold (by have:=x.size;rw [bd] at this;omega) (λA b _ q=>q.over x)
theorem gD.lay (s:gD tt ti te N h1 T0 I E M free aV kv) (bs:List ba) (w:Nat):gD tt ti te N (h1.lay bs w) T0 I E M free aV kv:=s.hold (by rw [bd];omega) (λA b _ q=>q.on bs w)
theorem gD.cT {D:List Nat} (s:gD tt ti te N h1 T0 I E M free aV kv) (f:aM D h1 h2) (h0:T0 ∉ D/\I ∉ D/\E ∉ D/\M ∉ D):gD tt ti te N h2 T0 I E M free aV kv:=s.hold f.size (λA b hA q=>q.cT f (by rcases hA with rfl|rfl|rfl|rfl;exact h0.1;exact h0.2.1;exact h0.2.2.1;exact h0.2.2.2))
theorem gD.rm {vi:ah} (s:gD tt ti te N h1 T0 I E M free aV kv) (q:Holds h1 T0 (.row [vi,ve,.map (some M)] tt false)) (oe:cN 2 PW h1 te E ve aV) (c:aM [I] h1 h2) (o2:cN 1 BV h2 ti I vi f2):gD tt ti te N h2 T0 I E M f2 aV kv:=by
 obtain ⟨_,m,n,l,u⟩:=s
 have hs:=c.size
 have hn:∀ {A},A≠I->A ∉ [I]:=λh hm=>h (fH.1 hm)
 exact ⟨⟨vi,ve,q.cT c (hn n.1),o2,oe.cT c (hn (Ne.symm n.2.2.2.1))⟩,m.hold (λb q=>q.cT c (hn (Ne.symm n.2.2.2.2.1))),n,l,⟨by omega,by omega,by omega,by omega⟩⟩
theorem gD.NR {v2:ah} {Cw:List fe} (s:gD tt ti te N h1 T0 I E M free aV kv) (c:aM [T0] h1 h2) (q:Holds h2 T0 (.row [v2,ve,.map (some M)] tt false)) (o1:cN 1 BV h1 ti I v2 f2) (oe:cN 2 PW h1 te E ve Cw):gD tt ti te N h2 T0 I E M f2 Cw kv:=by
 obtain ⟨_,m,n,l,u⟩:=s
 have hs:=c.size
 have hn:∀ {A},A≠T0->A ∉ [T0]:=λh hm=>h (fH.1 hm)
 exact ⟨⟨v2,ve,q,o1.cT c (hn (Ne.symm n.1)),oe.cT c (hn (Ne.symm n.2.1))⟩,m.hold (λb q=>q.cT c (hn (Ne.symm n.2.2.1))),n,l,⟨by omega,by omega,by omega,by omega⟩⟩
theorem gD.GH {v2:ah} {I2:Nat} (s:gD tt ti te N h1 T0 I E M free aV kv) (c:aM [T0,I] h1 h2) (hI:I2=I\/h1.size<=I2) (fF:I2 < h2.size) (q:Holds h2 T0 (.row [v2,ve,.map (some M)] tt false)) (o1:cN 1 BV h2 ti I2 v2 f2) (oe:cN 2 PW h1 te E ve aV):gD tt ti te N h2 T0 I2 E M f2 aV kv:=by
 obtain ⟨_,m,n,l,u⟩:=s
 have hs:=c.size
 have hn:∀ {A},A≠T0->A≠I->A ∉ [T0,I]:=λh h2 hm=>by
  rcases cJ.1 hm with e|hm
  .exact h e
  .exact h2 (fH.1 hm)
 refine ⟨⟨v2,ve,q,o1,oe.cT c (hn (Ne.symm n.2.1) (Ne.symm n.2.2.2.1))⟩,m.hold (λb q=>q.cT c (hn (Ne.symm n.2.2.1) (Ne.symm n.2.2.2.2.1))),?_,?_,⟨by omega,fF,by omega,by omega⟩⟩
 .rcases hI with rfl|hI
  .exact n
  .exact ⟨by omega,n.2.1,n.2.2.1,by omega,by omega,n.2.2.2.2.2⟩
 .rcases hI with rfl|hI
  .exact l
  .exact ⟨l.1,by omega,l.2.2⟩
end
theorem PU {l:List Int} {i j:Nat} {a b:Int} (hi:l[i]? = some a) (hj:l[j]? = some b):l.Perm ((l.set i b).set j a):=by
 by_cases h:i=j
 .subst h
  rw [hi] at hj
  cases hj
  have e:(l.set i a).set i a=l:=by
   apply sq
   intro k
   rw [List.set_set,rE]
   by_cases hk:i=k
   .subst hk
    rw [aB rfl,hi]
    simp [(dH.1 hi).1]
   .rw [aA hk]
  rw [e]
 .have hc:∀ x,l.count x=((l.set i b).set j a).count x:=by
   intro x
   have iK:=(dH.1 hi)
   have Be:=(dH.1 hj)
   have e1:((l.set i b).set j a).count x=(l.set i b).count x - (if (b == x) then 1 else 0)+(if (a == x) then 1 else 0):=by
    rw [List.count_set (by rw [nB];exact Be.1)]
    rw [List.getElem_set_ne h,Be.2]
   have e2:(l.set i b).count x=l.count x - (if (a == x) then 1 else 0)+(if (b == x) then 1 else 0):=by
    rw [List.count_set iK.1,iK.2]
   rw [e1,e2]
   have ha:(a == x)=true->1<=l.count x:=λe=>List.one_le_count_iff.2 (by rw [<- eq_of_beq e];exact fW hi)
   have hb:(b == x)=true->1<=l.count x:=λe=>List.one_le_count_iff.2 (by rw [<- eq_of_beq e];exact fW hj)
   cases uW:(a == x)
   .simp
   .have:=ha uW
    simp
    omega
  exact List.perm_iff_count.2 hc
end Go.Am
namespace Go.Proofs.YtmamldleclamjaaGreatDoor
open Go.Am Tryz
theorem GY (b:Bool) (h:Heap) (K:aI):sj b h K=K (.bool b) h:=by
 unfold sj
 cases b
 .simp
 .simp
theorem B5:aG.desc 112=some (.slice 3):=by kernel_rfl
theorem zsy (A:Nat) (h:Heap):wS aG 141 (.pointer (some ⟨A,0,none⟩)) "Len" h=(ic aG 112 (.pointer (some ⟨A,0,none⟩)) h).map λr=>(97,r):=by kernel_rfl
theorem PQ (A:Nat) (h:Heap):wS aG 141 (.pointer (some ⟨A,0,none⟩)) "Less" h=(ic aG 112 (.pointer (some ⟨A,0,none⟩)) h).map λr=>(202,r):=by kernel_rfl
theorem PR (A:Nat) (h:Heap):wS aG 141 (.pointer (some ⟨A,0,none⟩)) "Swap" h=(ic aG 112 (.pointer (some ⟨A,0,none⟩)) h).map λr=>(205,r):=by kernel_rfl
theorem zza (A:Nat) (h:Heap):wS aG 141 (.pointer (some ⟨A,0,none⟩)) "Pop" h=some (203,.pointer (some ⟨A,0,none⟩)):=by kernel_rfl
theorem zwQ (A:Nat) (h:Heap):wS aG 141 (.pointer (some ⟨A,0,none⟩)) "Push" h=some (204,.pointer (some ⟨A,0,none⟩)):=by kernel_rfl
theorem wK {h1:Heap} {T0 w:Nat} {bs:List ba} {vi ve vm:ah} (q:Holds h1 T0 (.row [vi,ve,vm] 118 false)):ic aG 112 (.pointer (some ⟨T0,0,none⟩)) (h1.lay bs w)=some vi:=by
 have hg:=q.lay bs w
 have ha:cO aG 112=some false:=by kernel_rfl
 unfold ic iQ
 simp only [ha,dX,gB,if_false,hg]
 rfl
abbrev eu (N:Nat) (h:Heap) (T0 I E M:Nat) (free:List Int) (aV:List fe) (kv:List (au × ah)):Prop:=gD 118 3 139 N h T0 I E M free aV kv
theorem zra (free:List Int) (I:Nat) (v:ah) (h:Heap) (o:cN 1 BV h 3 I v free) (K:aI) (hk:∀ h',Ext h h'->K (.int .i64 free.length) h'):Ok prog aG ov 97 [v] h K:=by
 rw [ao h]
 have z:=Ext.refl h
 have cU:=λ(hh:Heap)=>o.bn B5 hh
 refine Ok.aw 4 (bu N97) ?_
 simp only [aa,seval,c97,cU]
 exact hk _ z.aC
theorem PZ (free:List Int) (I:Nat) (v:ah) (i j:Nat) (a b:Int) (h:Heap) (o:cN 1 BV h 3 I v free) (hi:free[i]? = some a) (hj:free[j]? = some b) (K:aI) (hk:∀ h',Ext h h'->K (.bool (decide (a < b))) h'):Ok prog aG ov 202 [v,.int .i64 i,.int .i64 j] h K:=by
 rw [ao h]
 have z:=Ext.refl h
 have gr:=o.ix (kd:=.i64) (i:=i) B5 yP (dH.1 hi).1
 have rR:=o.ix (kd:=.i64) (i:=j) B5 yP (dH.1 hj).1
 have ci:=o.qL hi rfl
 have cj:=o.qL hj rfl
 have Bu:∀ (n:Int) (h:Heap) (K:aI),aH (some (.int .i64 n)) h K=K (.int .i64 n) h:=λ_ _ _=>rfl
 refine Ok.aw 13 (bu KQ) ?_
 simp only [aa,seval,xp]
 with_reducible first|refine dL (by simp only [xp]) z.aC ?_
 simp only [aa,seval,xp,gr,rR,ci,cj,Bu]
 rw [GY]
 simp only [aa,seval,xp]
 ((with_reducible refine ⟨z.cK.lay _ _,?_⟩);(intro _ h' zz x _);(simp only [b9,bG] at x);(replace z:=zz);(clear zz);rw [ao h'])
 simp only [aa,seval,xp]
 exact hk _ z.aC
theorem P3 (free:List Int) (I:Nat) (v:ah) (i j:Nat) (a b:Int) (h hc:Heap) (z:Ext h hc) (hI:h.size<=I) (o:cN 1 BV hc 3 I v free) (hi:free[i]? = some a) (hj:free[j]? = some b) (K:aI) (hk:∀ h',Ext h h'->aM [I] hc h'->cN 1 BV h' 3 I v ((free.set i b).set j a)->K undef h'):Ok prog aG ov 205 [v,.int .i64 i,.int .i64 j] hc K:=by
 rw [ao hc]
 have gr:=o.ix (kd:=.i64) (i:=i) B5 yP (dH.1 hi).1
 have rR:=o.ix (kd:=.i64) (i:=j) B5 yP (dH.1 hj).1
 have ci:=o.qL hi rfl
 have cj:=o.qL hj rfl
 have Bu:∀ (n:Int) (h:Heap) (K:aI),aH (some (.int .i64 n)) h K=K (.int .i64 n) h:=λ_ _ _=>rfl
 refine Ok.aw 17 (bu KT) ?_
 with_reducible first|refine dL (by simp only [xq]) z.aC ?_
 simp only [aa,seval,xq,gr,rR,ci,cj,Bu]
 refine cN.pZ (y:=b) zfk o hi yP (by omega) rfl rfl rfl rfl (λh3 o3 c3=>?_)
 have hz:=z.size
 refine nM (A:=I) (by kernel_rfl) (by rw [bd];omega) (by omega) (by simpa only [b9,bd,bG,dY,dK,i0] using c3) ?_
 have z3:=(z.lk [] (hc.size+0) (by omega)).step c3 hI
 rw [ao h3]
 simp only [aa,seval,xq,rR]
 have hj3:(free.set i b)[j]? = some b:=by
  rw [rE]
  split
  .rw [aB (dH.1 hi).1]
  .exact hj
 refine cN.pZ (y:=a) zfk o3 hj3 yP (by omega) rfl rfl rfl rfl (λh4 o4 c4=>?_)
 have zO:=z3.size
 refine nM (A:=I) (by kernel_rfl) (by rw [bd];omega) (by omega) (by simpa only [b9,bd,bG,dY,dK,i0] using c4) ?_
 have z4:=(z3.lk [] (h3.size+0) (by omega)).step c4 hI
 have cc:aM [I] hc h4:=((aM.refl [I] hc).ji c3 (.inl (by simp))).ji c4 (.inl (by simp))
 clear z
 have z:=z4
 rw [ao h4]
 simp only [dx,seval,xq]
 ((with_reducible refine ⟨z.cK.lay _ _,?_⟩);(intro _ h' zz x _);(simp only [b9,bG] at x))
 replace o4:=o4.over x
 replace cc:=cc.over x
 replace z:=zz
 rw [ao h']
 simp only [seval,xq]
 exact hk _ z.aC (cc.trans (aM.lay _ _ _ []) (λ_ h=>nomatch h)) (o4.lay _ _)
theorem zBC (j:Nat) (h:j<=1000000000):IntKind.i64.wrap ((IntKind.i64.wrap ((j:Int) - 1)).tdiv 2)=(((j - 1) / 2:Nat):Int):=by
 rw [wrap_i64 (i:=(j:Int) - 1) (by omega) (by omega)]
 have e:((j:Int) - 1).tdiv 2=(((j - 1) / 2:Nat):Int):=by
  cases j with
  |zero=>decide
  |succ j =>
   rw [show ((j+1:Nat):Int) - 1=(j:Int) by omega,show j+1 - 1=j by omega]
   exact (Int.ofNat_tdiv j 2).symm
 rw [e]
 exact wrap_i64 (by omega) (by omega)
theorem zyA {T:bO} {t:TypeId} {k:IntKind} {a b:Int}:cm prog T .mul t (.int k a) (.int k b)=some (.int k (k.wrap (a*b))):=by
 refine zmC rfl ?_ rfl
 simp [binOp,Op.intArith,Ad]
theorem uJ {k i:Nat} (h:¬ i=k) (Q:Ex->Env->Heap->Prop) (e:Env) (hh:Heap):DG k Q (.exit i) e hh=Q (.exit i) e hh:=by
 show (if i=k then Q .normal e hh else Q (.exit i) e hh)=_
 rw [aA h]
abbrev Iu (T0:Nat):ah:=.iface 141 (.pointer (some ⟨T0,0,none⟩))
theorem zDl (h hc:Heap) (z:Ext h hc) (T0 FI FE FM:Nat) (free:List Int) (aV:List fe) (kv:List (au × ah)) (j:Nat) (st:eu h.size hc T0 FI FE FM free aV kv) (hj:j < free.length) (K:aI) (hk:∀ h' f2,Ext h h'->aM [FI] hc h'->eu h.size h' T0 FI FE FM f2 aV kv->free.Perm f2->K undef h'):Ok prog aG ov 143 [Iu T0,.int .i64 j] hc K:=by
 have hle:free.length<=1000000000:=by obtain ⟨⟨vi,ve,q,oi,oe⟩,_⟩:=st;exact oi.nk
 rw [ao hc]
 refine Ok.aw 21 (bu Kv) ?_
 simp only [dx,seval,mg]
 obtain ⟨I1,aX⟩:∃ I:Nat->Env->Heap->Prop,I=(λn e h'=>∃ (j1:Nat) (f1:List Int) (h1:Heap),h'=h1.lay [] h1.low/\Ext h h1/\(n=j1+1/\j1 < f1.length/\eu h.size h1 T0 FI FE FM f1 aV kv/\free.Perm f1/\aM [FI] hc h1)/\∃ J:Nat->ah,e=(Iu T0::.int .i64 j1::jr J 2 21 ([]))):=⟨_,rfl⟩
 refine du I1 _ (by rw [aX];exact ⟨j,free,_,rfl,z,⟨rfl,hj,st,List.Perm.refl _,aM.refl _ _⟩,bm⟩) ?_
 intro n e h' aP
 rw [aX] at aP
 obtain ⟨j1,f1,bx,rfl,z,hinv,J,rfl⟩:=aP
 clear st
 obtain ⟨rfl,rR,st,im,fr⟩:=hinv
 have hlen:=im.length_eq
 obtain ⟨⟨vi,ve,q,oi,oe⟩,_⟩:=id st
 have hq:=zBC j1 (by omega)
 have vd:(j1 - 1) / 2 < f1.length:=by omega
 obtain ⟨a,ha,xB⟩:=fo (l:=f1) (i:=j1) (by omega)
 obtain ⟨b,hb,oP⟩:=fo (l:=f1) (i:=(j1 - 1) / 2) (by omega)
 simp only [aa,seval,mg]
 rw [zvL (by decide),hq]
 simp only [aa,seval,mg]
 refine qh (λheq=>?_) (λaS=>?_)
 .simp only [aa,seval,mg]
  rw [uJ (by decide)]
  simp only [aa,seval,mg]
  exact hk _ f1 z.aC (fr.trans (aM.lay _ _ _ []) (λ_ h=>nomatch h)) (st.lay _ _) im
 simp only [aa,seval,mg,uw]
 refine uz (f:=202) (y:=vi) (by rw [PQ,wK q];rfl) ?_
 refine PZ f1 FI vi j1 ((j1 - 1) / 2) a b _ (oi.lay _ _) xB oP _ (λh' x=>?_)
 (replace z:=z.an x;replace st:=st.over x;replace fr:=fr.over x;rw [ao h'])
 simp only [aa,seval,mg]
 (with_reducible apply ct);(· rfl)
 simp only [aa,seval,mg]
 clear q oi oe
 obtain ⟨⟨vi,ve,q,oi,oe⟩,_,_,dj,_⟩:=id st
 refine Hk (λkW=>?_) (λaW=>?_)
 .simp only [aa,seval,mg]
  rw [uJ (by decide)]
  simp only [aa,seval,mg]
  exact hk _ f1 z.aC (fr.trans (aM.lay _ _ _ []) (λ_ h=>nomatch h)) (st.lay _ _) im
 simp only [aa,seval,mg,uw]
 refine uz (f:=205) (y:=vi) (by rw [PR,wK q];rfl) ?_
 refine P3 f1 FI vi ((j1 - 1) / 2) j1 b a h _ z.aC dj.2.1 (oi.lay _ _) oP xB _ (λh3 z3 fO o3=>?_)
 have lj:=(st.lay [] h'.low).rm (q.on _ _) (oe.lay _ _) fO o3
 replace fr:=(fr.trans (aM.lay h' [] h'.low []) (λ_ h=>nomatch h)).trans fO (λB hB=>.inl hB)
 have Bn:=im.trans (PU oP xB)
 clear q oi oe o3 fO st z
 have z:=z3
 rw [ao h3]
 simp only [aa,seval,mg]
 (rw [aX];with_reducible refine cy (m:=_) ?_ ⟨(j1 - 1) / 2,(f1.set ((j1 - 1) / 2) a).set j1 b,_,rfl,z,⟨rfl,by rw [nB,nB];omega,lj,Bn,fr⟩,bm⟩;omega)
theorem zzh (h hc:Heap) (z:Ext h hc) (T0 FI FE FM:Nat) (free:List Int) (aV:List fe) (kv:List (au × ah)) (m:Nat) (st:eu h.size hc T0 FI FE FM free aV kv) (hm:m<=free.length) (K:aI) (hk:∀ h' f2 b,Ext h h'->aM [FI] hc h'->eu h.size h' T0 FI FE FM f2 aV kv->free.Perm f2->K (.bool b) h'):Ok prog aG ov 130 [Iu T0,.int .i64 0,.int .i64 m] hc K:=by
 have hle:free.length<=1000000000:=by obtain ⟨⟨vi,ve,q,oi,oe⟩,_⟩:=st;exact oi.nk
 rw [ao hc]
 refine Ok.aw 45 (bu Kl) ?_
 simp only [aa,seval,ec]
 obtain ⟨I1,aX⟩:∃ I:Nat->Env->Heap->Prop,I=(λn e h'=>∃ (i:Nat) (f1:List Int) (h1:Heap),h'=h1.lay [] h1.low/\Ext h h1/\(n=free.length - i/\i<=free.length/\eu h.size h1 T0 FI FE FM f1 aV kv/\free.Perm f1/\aM [FI] hc h1)/\∃ J:Nat->ah,e=(Iu T0::.int .i64 0::.int .i64 m::jr J 3 4 (.int .i64 i::jr J 8 40 ([])))):=⟨_,rfl⟩
 refine du I1 _ (by rw [aX];exact ⟨0,free,_,rfl,z,⟨rfl,by omega,st,List.Perm.refl _,aM.refl _ _⟩,bm⟩) ?_
 intro n e h' aP
 rw [aX] at aP
 obtain ⟨i,f1,bx,rfl,z,hinv,J,rfl⟩:=aP
 clear st
 obtain ⟨rfl,hi,st,im,fr⟩:=hinv
 have hlen:=im.length_eq
 obtain ⟨⟨vi,ve,q,oi,oe⟩,_,_,dj,_⟩:=id st
 have yx:IntKind.i64.wrap (IntKind.i64.wrap (2*(i:Int))+1)=((2*i+1:Nat):Int):=by
  rw [wrap_i64 (i:=2*(i:Int)) (by omega) (by omega),wrap_i64 (by omega) (by omega)];omega
 have zM:IntKind.i64.wrap (((2*i+1:Nat):Int)+1)=((2*i+2:Nat):Int):=by rw [wrap_i64 (by omega) (by omega)];omega
 simp only [aa,seval,ec,zyA,yx]
 refine bq (λkW=>?_) (λaW=>?_)
 .simp only [aa,seval,ec]
  rw [uJ (by decide)]
  simp only [aa,seval,ec]
  rw [GY]
  simp only [aa,seval,ec]
  exact hk _ f1 _ z.aC (fr.trans (aM.lay _ _ _ []) (λ_ h=>nomatch h)) (st.lay _ _) im
 simp only [aa,seval,ec]
 refine bq (λc0=>absurd c0 (by omega)) (λ_=>?_)
 obtain ⟨a1,ha1,pG⟩:=fo (l:=f1) (i:=2*i+1) (by omega)
 obtain ⟨ai,Rx,pI⟩:=fo (l:=f1) (i:=i) (by omega)
 simp only [aa,seval,ec,zM]
 refine bq (λjc=>?_) (λjc=>?_)
 .obtain ⟨a2,ha2,xC⟩:=fo (l:=f1) (i:=2*i+2) (by omega)
  simp only [aa,seval,ec,uw]
  refine uz (f:=202) (y:=vi) (by rw [PQ,wK q];rfl) ?_
  refine PZ f1 FI vi (2*i+2) (2*i+1) a2 a1 _ (oi.lay _ _) xC pG _ (λh' x=>?_)
  (replace z:=z.an x;replace st:=st.over x;replace fr:=fr.over x;rw [ao h'])
  clear q oi oe
  simp only [aa,seval,ec]
  refine bq (λhl=>?_) (λhl=>?_)
  .simp only [aa,seval,ec]
   obtain ⟨jj,MD⟩:∃ jj,jj=2*i+2:=⟨_,rfl⟩
   rw [<- MD] at xC ⊢
   have ME:jj < m:=by omega
   have dp:i < jj:=by omega
   simp only [aa,seval,uw]
   obtain ⟨⟨vi,ve,q,oi,oe⟩,_,_,dj,_⟩:=id st
   refine uz (f:=202) (y:=vi) (by rw [PQ,wK q];rfl) ?_
   refine PZ f1 FI vi jj i a2 ai _ (oi.lay _ _) xC pI _ (λh' x=>?_)
   (replace z:=z.an x;replace st:=st.over x;replace fr:=fr.over x;rw [ao h'])
   clear q oi oe
   obtain ⟨⟨vi,ve,q,oi,oe⟩,_,_,dj,_⟩:=id st
   rcases Decidable.em (a2 < ai) with hd|hd
   rotate_left
   .rw [oL hd]
    simp only [aa,seval,ec]
    (with_reducible apply ct);(· rfl)
    simp only [aa,seval,ec]
    rw [uJ (by decide)]
    simp only [aa,seval,ec]
    rw [GY]
    simp only [aa,seval,ec]
    exact hk _ f1 _ z.aC (fr.trans (aM.lay _ _ _ []) (λ_ h=>nomatch h)) (st.lay _ _) im
   rw [pn hd]
   simp only [aa,seval,ec]
   (with_reducible apply ct);(· rfl)
   simp only [aa,seval,ec,uw]
   refine uz (f:=205) (y:=vi) (by rw [PR,wK q];rfl) ?_
   refine P3 f1 FI vi i jj ai a2 h _ z.aC dj.2.1 (oi.lay _ _) pI xC _ (λh3 z3 fO o3=>?_)
   have lj:=(st.lay [] h'.low).rm (q.on _ _) (oe.lay _ _) fO o3
   replace fr:=(fr.trans (aM.lay h' [] h'.low []) (λ_ h=>nomatch h)).trans fO (λB hB=>.inl hB)
   have Bn:=im.trans (PU pI xC)
   clear q oi oe o3 fO st z
   have z:=z3
   rw [ao h3]
   simp only [aa,seval,ec]
   (rw [aX];with_reducible refine cy (m:=_) ?_ ⟨jj,(f1.set i a2).set jj ai,_,rfl,z,⟨rfl,by omega,lj,Bn,fr⟩,bm⟩;omega)
  .simp only [aa,seval,ec]
   obtain ⟨jj,MD⟩:∃ jj,jj=2*i+1:=⟨_,rfl⟩
   rw [<- MD] at pG ⊢
   have ME:jj < m:=by omega
   have dp:i < jj:=by omega
   simp only [aa,seval,uw]
   obtain ⟨⟨vi,ve,q,oi,oe⟩,_,_,dj,_⟩:=id st
   refine uz (f:=202) (y:=vi) (by rw [PQ,wK q];rfl) ?_
   refine PZ f1 FI vi jj i a1 ai _ (oi.lay _ _) pG pI _ (λh' x=>?_)
   (replace z:=z.an x;replace st:=st.over x;replace fr:=fr.over x;rw [ao h'])
   clear q oi oe
   obtain ⟨⟨vi,ve,q,oi,oe⟩,_,_,dj,_⟩:=id st
   rcases Decidable.em (a1 < ai) with hd|hd
   rotate_left
   .rw [oL hd]
    simp only [aa,seval,ec]
    (with_reducible apply ct);(· rfl)
    simp only [aa,seval,ec]
    rw [uJ (by decide)]
    simp only [aa,seval,ec]
    rw [GY]
    simp only [aa,seval,ec]
    exact hk _ f1 _ z.aC (fr.trans (aM.lay _ _ _ []) (λ_ h=>nomatch h)) (st.lay _ _) im
   rw [pn hd]
   simp only [aa,seval,ec]
   (with_reducible apply ct);(· rfl)
   simp only [aa,seval,ec,uw]
   refine uz (f:=205) (y:=vi) (by rw [PR,wK q];rfl) ?_
   refine P3 f1 FI vi i jj ai a1 h _ z.aC dj.2.1 (oi.lay _ _) pI pG _ (λh3 z3 fO o3=>?_)
   have lj:=(st.lay [] h'.low).rm (q.on _ _) (oe.lay _ _) fO o3
   replace fr:=(fr.trans (aM.lay h' [] h'.low []) (λ_ h=>nomatch h)).trans fO (λB hB=>.inl hB)
   have Bn:=im.trans (PU pI pG)
   clear q oi oe o3 fO st z
   have z:=z3
   rw [ao h3]
   simp only [aa,seval,ec]
   (rw [aX];with_reducible refine cy (m:=_) ?_ ⟨jj,(f1.set i a1).set jj ai,_,rfl,z,⟨rfl,by omega,lj,Bn,fr⟩,bm⟩;omega)
 .clear q oi oe
  simp only [aa,seval,ec]
  obtain ⟨jj,MD⟩:∃ jj,jj=2*i+1:=⟨_,rfl⟩
  rw [<- MD] at pG ⊢
  have ME:jj < m:=by omega
  have dp:i < jj:=by omega
  simp only [aa,seval,uw]
  obtain ⟨⟨vi,ve,q,oi,oe⟩,_,_,dj,_⟩:=id st
  refine uz (f:=202) (y:=vi) (by rw [PQ,wK q];rfl) ?_
  refine PZ f1 FI vi jj i a1 ai _ (oi.lay _ _) pG pI _ (λh' x=>?_)
  (replace z:=z.an x;replace st:=st.over x;replace fr:=fr.over x;rw [ao h'])
  clear q oi oe
  obtain ⟨⟨vi,ve,q,oi,oe⟩,_,_,dj,_⟩:=id st
  rcases Decidable.em (a1 < ai) with hd|hd
  rotate_left
  .rw [oL hd]
   simp only [aa,seval,ec]
   (with_reducible apply ct);(· rfl)
   simp only [aa,seval,ec]
   rw [uJ (by decide)]
   simp only [aa,seval,ec]
   rw [GY]
   simp only [aa,seval,ec]
   exact hk _ f1 _ z.aC (fr.trans (aM.lay _ _ _ []) (λ_ h=>nomatch h)) (st.lay _ _) im
  rw [pn hd]
  simp only [aa,seval,ec]
  (with_reducible apply ct);(· rfl)
  simp only [aa,seval,ec,uw]
  refine uz (f:=205) (y:=vi) (by rw [PR,wK q];rfl) ?_
  refine P3 f1 FI vi i jj ai a1 h _ z.aC dj.2.1 (oi.lay _ _) pI pG _ (λh3 z3 fO o3=>?_)
  have lj:=(st.lay [] h'.low).rm (q.on _ _) (oe.lay _ _) fO o3
  replace fr:=(fr.trans (aM.lay h' [] h'.low []) (λ_ h=>nomatch h)).trans fO (λB hB=>.inl hB)
  have Bn:=im.trans (PU pI pG)
  clear q oi oe o3 fO st z
  have z:=z3
  rw [ao h3]
  simp only [aa,seval,ec]
  (rw [aX];with_reducible refine cy (m:=_) ?_ ⟨jj,(f1.set i a1).set jj ai,_,rfl,z,⟨rfl,by omega,lj,Bn,fr⟩,bm⟩;omega)
theorem zso (x:ah):Jv aG 3 x=some (.iface 3 x):=by kernel_rfl
theorem zwA (x:ah):Jv aG 141 x=some (.iface 141 x):=by kernel_rfl
theorem zn7 (n:Int):Qh aG (.iface 3 (.int .i64 n)) 3 true=some (.tuple #[.int .i64 n,.bool true]):=by kernel_rfl
theorem zAz:di aG 112=some 1:=by kernel_rfl
theorem zus (h hc:Heap) (z:Ext h hc) (T0 FI FE FM:Nat) (free:List Int) (aV:List fe) (kv:List (au × ah)) (n:Nat) (last:Int) (st:eu h.size hc T0 FI FE FM free aV kv) (hn:free.length=n+1) (hl:free[n]? = some last) (K:aI) (hk:∀ h',Ext h h'->aM [T0] hc h'->eu h.size h' T0 FI FE FM (free.take n) aV kv->K (.iface 3 (.int .i64 last)) h'):Ok prog aG ov 203 [.pointer (some ⟨T0,0,none⟩)] hc K:=by
 obtain ⟨⟨vi,ve,q,oi,oe⟩,mm,aS,dj,kp⟩:=id st
 have hle:=oi.nk
 have cU:=λ(hh:Heap)=>oi.bn B5 hh
 have hw:IntKind.i64.wrap (((free.length:Nat):Int) - 1)=(n:Int):=by rw [wrap_i64 (by omega) (by omega)];omega
 have gr:=oi.ix (kd:=.i64) (i:=n) B5 yP (by omega)
 have ci:=oi.qL hl rfl
 obtain ⟨v2,gG,o2⟩:=oi.pop (kd:=.i64) (n:=n) (by decide) B5 yP (by omega) (by intro e;rw [e] at hn;simp at hn)
 have je:∀ (h:Heap) (K:aI),aH (some vi) h K=K vi h:=λ_ _=>rfl
 have mK:∀ (h:Heap) (K:aI),aH (some v2) h K=K v2 h:=λ_ _=>rfl
 have lM:∀ (n:Int) (h:Heap) (K:aI),aH (some (.int .i64 n)) h K=K (.int .i64 n) h:=λ_ _ _=>rfl
 have Bu:∀ (x:ah) (h:Heap) (K:aI),aH (some (.iface 3 x)) h K=K (.iface 3 x) h:=λ_ _ _=>rfl
 rw [ao hc]
 refine Ok.aw 28 (bu KR) ?_
 simp only [aa,seval,Ln,q.lay,je,cU,hw,gr,ci,lM,gG,mK]
 obtain ⟨xa,xn,xc,rfl⟩:=o2.shape
 refine GQ q zAz rfl rfl (by simp) rfl (λh3 q3 c3=>?_)
 replace q3:Holds h3 T0 (.row [.slice xa xn xc,ve,.map (some FM)] 118 false):=q3
 have z3:=z.cw c3 dj.1 (by omega)
 have fO:aM [T0] hc h3:=(aM.refl [T0] hc).ji c3 (.inl (by simp))
 have lj:=st.NR fO q3 o2 oe
 clear z
 have z:=z3
 rw [ao h3]
 simp only [aa,seval,Ln,zso,Bu,ZZ]
 exact hk _ z.aC (fO.trans (aM.lay _ _ _ []) (λ_ h=>nomatch h)) (lj.lay _ _)
theorem zxA {l:List Int} {n:Nat} {x:Int} (hn:l.length=n+1) (hl:l[n]? = some x):l.Perm (x::l.take n):=by
 have e:l=l.take n++[x]:=by
  have h1:=(pj n l).symm
  rw [DE (by omega),(dH.1 hl).2,wW (by omega)] at h1
  exact h1
 conv=>lhs;rw [e]
 exact List.perm_append_singleton x (l.take n)
theorem zuq (h hc:Heap) (z:Ext h hc) (T0 FI FE FM:Nat) (free:List Int) (aV:List fe) (kv:List (au × ah)) (n:Nat) (st:eu h.size hc T0 FI FE FM free aV kv) (hn:free.length=n+1) (K:aI) (hk:∀ h' x rest,Ext h h'->aM [T0,FI] hc h'->eu h.size h' T0 FI FE FM rest aV kv->free.Perm (x::rest)->K (.iface 3 (.int .i64 x)) h'):Ok prog aG ov 98 [Iu T0] hc K:=by
 obtain ⟨⟨vi,ve,q,oi,oe⟩,mm,aS,dj,kp⟩:=id st
 have hle:=oi.nk
 have hw:IntKind.i64.wrap (((free.length:Nat):Int) - 1)=(n:Int):=by rw [wrap_i64 (by omega) (by omega)];omega
 obtain ⟨a,ha,xB⟩:=fo (l:=free) (i:=0) (by omega)
 obtain ⟨b,hb,oP⟩:=fo (l:=free) (i:=n) (by omega)
 rw [ao hc]
 refine Ok.aw 14 (bu N98) ?_
 simp only [aa,seval,Lr,uw]
 refine uz (f:=97) (y:=vi) (by rw [zsy,wK q];rfl) ?_
 refine zra free FI vi _ (oi.lay _ _) _ (λh' x=>?_)
 have fr:aM [T0,FI] hc h':=(aM.refl [T0,FI] hc).over x
 (replace z:=z.an x;replace st:=st.over x;rw [ao h'])
 clear q oi oe mm
 obtain ⟨⟨vi,ve,q,oi,oe⟩,mm,_,_,_⟩:=id st
 simp only [aa,seval,Lr,uw,hw]
 refine uz (f:=205) (y:=vi) (by rw [PR,wK q];rfl) ?_
 refine P3 free FI vi 0 n a b h _ z.aC dj.2.1 (oi.lay _ _) xB oP _ (λh3 z3 fO o3=>?_)
 have lj:=(st.lay [] h'.low).rm (q.on _ _) (oe.lay _ _) fO o3
 replace fr:=(fr.trans (aM.lay h' [] h'.low []) (λ_ h=>nomatch h)).trans fO (λB hB=>.inl (by rw [fH.1 hB];simp))
 have Bn:=PU xB oP
 have MH:((free.set 0 b).set n a).length=n+1:=by rw [nB,nB];exact hn
 clear q oi oe o3 fO st z mm
 have z:=z3
 rw [ao h3]
 simp only [aa,seval,Lr]
 refine zzh h _ z.aC T0 FI FE FM _ aV kv n (lj.lay _ _) (by omega) _ (λh4 f4 bb z4 jk IB RT=>?_)
 replace fr:=(fr.trans (aM.lay h3 [] h3.low []) (λ_ h=>nomatch h)).trans jk (λB hB=>.inl (by rw [fH.1 hB];simp))
 have wy:=RT.length_eq
 obtain ⟨c,xH,Ml⟩:=fo (l:=f4) (i:=n) (by omega)
 clear z z3 lj
 have z:=z4
 rw [ao h4]
 simp only [aa,seval,Lr,uw]
 refine uz (f:=203) (y:=.pointer (some ⟨T0,0,none⟩)) (by rw [zza]) ?_
 refine zus h _ z.aC T0 FI FE FM f4 aV kv n c (IB.lay _ _) (by omega) Ml _ (λh5 z5 kR tx=>?_)
 replace fr:=(fr.trans (aM.lay h4 [] h4.low []) (λ_ h=>nomatch h)).trans kR (λB hB=>.inl (by rw [fH.1 hB];simp))
 clear z z4
 have z:=z5
 rw [ao h5]
 simp only [aa,seval,Lr]
 exact hk _ c _ z.aC (fr.trans (aM.lay _ _ _ []) (λ_ h=>nomatch h)) (tx.lay _ _) ((Bn.trans RT).trans (zxA (by omega) Ml))
theorem zCk:uB aG 112 112=true:=by kernel_rfl
theorem zq9 (h hc:Heap) (z:Ext h hc) (T0 FI FE FM:Nat) (free:List Int) (aV:List fe) (kv:List (au × ah)) (n:Int) (st:eu h.size hc T0 FI FE FM free aV kv) (hn:free.length < 800000000) (K:aI) (hk:∀ h' I2,Ext h h'->aM [T0,FI] hc h'->eu h.size h' T0 I2 FE FM (free++[n]) aV kv->(I2=FI\/hc.size<=I2)->K undef h'):Ok prog aG ov 204 [.pointer (some ⟨T0,0,none⟩),.iface 3 (.int .i64 n)] hc K:=by
 obtain ⟨⟨vi,ve,q,oi,oe⟩,mm,aS,dj,kp⟩:=id st
 have je:∀ (h:Heap) (K:aI),aH (some vi) h K=K vi h:=λ_ _=>rfl
 have lM:∀ (n:Int) (h:Heap) (K:aI),aH (some (.int .i64 n)) h K=K (.int .i64 n) h:=λ_ _ _=>rfl
 rw [ao hc]
 refine Ok.aw 20 (bu KS) ?_
 have hvt:∀ (a:Array ah) (h:Heap) (K:aI),aH (some (.tuple a)) h K=K (.tuple a) h:=λ_ _ _=>rfl
 simp only [aa,seval,Ez,zif,zn7,hvt,lM,q.lay,je,ly,zCk]
 refine cN.app (x:=n) (j:=0) zfk rfl (by decide) B5 zpW oi rfl (by omega) (by omega) (λv3 h3 I3 o3 lE _ zC=>?_)
 have c3:=zC kp.2.1
 have z3:=z.cw c3 dj.2.1 (by omega)
 have fO:aM [FI] hc h3:=(aM.refl [FI] hc).ji c3 (.inl (by simp))
 have q3:=q.bK c3 aS.1
 have pO:=c3.size
 rw [bd] at pO
 obtain ⟨xa,xn,xc,rfl⟩:=o3.shape
 have amo:I3 < h3.size:=o3.lt (by simp)
 clear z
 have z:=z3
 rw [ao h3]
 simp only [aa,seval,Ez]
 refine GQ q3 zAz rfl rfl (by simp) rfl (λh4 q4 c4=>?_)
 replace q4:Holds h4 T0 (.row [.slice xa xn xc,ve,.map (some FM)] 118 false):=q4
 have z4:=z.cw c4 dj.1 (by omega)
 have WL:I3≠T0:=by
  rcases lE with e|e
  .rw [e.1];exact Ne.symm aS.1
  .rw [e,bd];omega
 have jk:aM [T0,FI] hc h4:=(fO.mono (λB hB=>by rw [fH.1 hB];simp)).ji c4 (.inl (by simp))
 have td:=c4.size
 rw [bd] at td
 have LX:I3=FI\/hc.size<=I3:=by
  rcases lE with e|e
  .exact .inl e.1
  .right;rw [e,bd];omega
 have IB:=st.GH jk LX (by simp only [dK] at td;omega) q4 (o3.bK c4 WL) oe
 clear z z3
 have z:=z4
 rw [ao h4]
 simp only [aa,seval,Ez]
 exact hk _ I3 z.aC (jk.trans (aM.lay _ _ _ []) (λ_ h=>nomatch h)) (IB.lay _ _) LX
theorem zq8 (h hc:Heap) (z:Ext h hc) (T0 FI FE FM:Nat) (free:List Int) (aV:List fe) (kv:List (au × ah)) (n:Int) (st:eu h.size hc T0 FI FE FM free aV kv) (hn:free.length < 800000000) (K:aI) (hk:∀ h' I2 f2,Ext h h'->aM [T0,FI] hc h'->eu h.size h' T0 I2 FE FM f2 aV kv->(I2=FI\/hc.size<=I2)->f2.Perm (n::free)->K undef h'):Ok prog aG ov 114 [Iu T0,.iface 3 (.int .i64 n)] hc K:=by
 have hw:IntKind.i64.wrap ((((free++[n]).length:Nat):Int) - 1)=(free.length:Int):=by rw [dI,v8,wrap_i64 (by omega) (by omega)];omega
 rw [ao hc]
 refine Ok.aw 10 (bu J5) ?_
 simp only [aa,seval,AE,uw]
 refine uz (f:=204) (y:=.pointer (some ⟨T0,0,none⟩)) (by rw [zwQ]) ?_
 refine zq9 h _ z.aC T0 FI FE FM free aV kv n (st.lay _ _) hn _ (λh3 I3 z3 fO lj lE=>?_)
 have fr:aM [T0,FI] hc h3:=(aM.lay hc [] hc.low [T0,FI]).trans fO (λB hB=>.inl hB)
 have hI:I3=FI\/hc.size<=I3:=lE.imp id (λe=>by rw [bd] at e;omega)
 clear z st fO
 have z:=z3
 have st:=lj
 clear z3 lj
 rw [ao h3]
 obtain ⟨⟨vi,ve,q,oi,oe⟩,mm,_,_,_⟩:=id st
 simp only [aa,seval,AE,uw]
 refine uz (f:=97) (y:=vi) (by rw [zsy,wK q];rfl) ?_
 refine zra _ I3 vi _ (oi.lay _ _) _ (λh' x=>?_)
 (replace z:=z.an x;replace st:=st.over x;replace fr:=fr.over x;rw [ao h'])
 clear q oi oe mm
 simp only [aa,seval,AE,hw]
 refine zDl h _ z.aC T0 I3 FE FM _ aV kv free.length (st.lay _ _) (by rw [dI,v8];omega) _ (λh4 f4 z4 jk IB RT=>?_)
 have frf:aM [T0,FI] hc h4:=(fr.trans (aM.lay h' [] h'.low []) (λ_ h=>nomatch h)).trans jk (λB hB=>by
  rw [fH.1 hB]
  exact hI.imp (λe=>by rw [e];simp) id)
 clear z
 have z:=z4
 rw [ao h4]
 simp only [aa,seval,AE]
 exact hk _ I3 f4 z.aC (frf.trans (aM.lay _ _ _ []) (λ_ h=>nomatch h)) (IB.lay _ _) hI ((RT.symm).trans (List.perm_append_singleton n free))
theorem kE (A:Nat) (h:Heap) (K:aI):aH (some (.map (some A))) h K=K (.map (some A)) h:=rfl
theorem GI (k:IntKind) (n:Int) (h:Heap) (K:aI):aH (some (.int k n)) h K=K (.int k n) h:=rfl
theorem uR (x):cm prog aG .eql 81 (.pointer (some x)) (.pointer none)=some (.bool false):=by kernel_rfl
theorem neT (x):cm prog aG .neq 81 (.pointer (some x)) (.pointer none)=some (.bool true):=by kernel_rfl
theorem JF:aG.desc 116=some (.map 9 3):=by kernel_rfl
theorem zg:aG.desc 9=some .string:=by kernel_rfl
theorem HK:aG.zero 3=some (.int .i64 0):=by kernel_rfl
theorem Hp:aG.desc 115=some (.slice 139):=by kernel_rfl
theorem Jo:di aG 139=some 2:=by kernel_rfl
theorem zBZ (h:Heap) (T0 FI FE FM N:Nat) (free:List Int) (aV:List fe) (kv:List (au × ah)) (st:eu N h T0 FI FE FM free aV kv) (K:aI) (hk:∀ h',Ext h h'->K (.int .i64 kv.length) h'):Ok prog aG ov 41 [.pointer (some ⟨T0,0,none⟩)] h K:=by
 obtain ⟨⟨vi,ve,q,oi,oe⟩,mm,aS,dj,kp⟩:=st
 have z:=Ext.refl h
 have lM:∀ (n:Int) (h:Heap) (K:aI),aH (some (.int .i64 n)) h K=K (.int .i64 n) h:=λ_ _ _=>rfl
 have cU:=λ(b:List ba) (w:Nat)=>Nu (bs:=b) (w:=w) mm JF
 rw [ao h]
 refine Ok.aw 9 (bu N41) ?_
 simp only [aa,seval,c41,kE,uR,q.lay,cU,lM]
 exact hk _ z.aC
theorem zzm (t:au) (r:Option Nat) (h:Heap) (T0 FI FE FM N:Nat) (free:List Int) (aV:List fe) (kv:List (au × ah)) (st:eu N h T0 FI FE FM free aV kv) (hr:dq kv t=r.map λi=>.int .i64 (i:Int)) (K:aI) (hk:∀ h',Ext h h'->K (.tuple #[.int .i64 ((r.getD 0:Nat):Int),.bool r.isSome]) h'):Ok prog aG ov 76 [.pointer (some ⟨T0,0,none⟩),.string t] h K:=by
 obtain ⟨⟨vi,ve,q,oi,oe⟩,mm,aS,dj,kp⟩:=st
 have z:=Ext.refl h
 rw [ao h]
 refine Ok.aw 19 (bu N76) ?_
 simp only [aa,seval,UJ,kE,uR,q.lay,Aa]
 refine GP mm JF zg HK ?_
 rw [hr]
 cases r with
 |none =>
  simp only [Option.map_none,Option.getD_none,Qu,if_true] at hk ⊢
  simp only [aa,seval,UJ]
  exact hk _ z.aC
 |some i =>
  simp only [j2,JL,Hz,if_true] at hk ⊢
  simp only [aa,seval,UJ]
  exact hk _ z.aC
theorem _root_.Go.Am.cN.fE {Z:Type} {k:Nat} {cell:Z->List ah} {h1:Heap} {u:TypeId} {A i j:Nat} {v:ah} {l:List Z} {x:ah} {y:Z} (f:cN k cell h1 u A v l) (hx:l[i]? = some y) (hj:j < k) (hc:(cell y)[j]? = some x) (bs:List ba) (w:Nat):JN ((h1.lay bs w).get A) (i*k+j)=some x:=by
 obtain ⟨row,q,c⟩:=f.row hx
 have hg:=q.lay bs w
 rw [hg]
 unfold cut at c
 split at c
 .simp only [eh] at c
  show row[i*k+j]? = some x
  have:=congrArg (λl=>l[j]?) c
  simp only [mc,kL,aB hj,hc] at this
  exact this
 .cases c
theorem zBX (n:Nat) (x:fe) (h:Heap) (T0 FI FE FM N:Nat) (free:List Int) (aV:List fe) (kv:List (au × ah)) (st:eu N h T0 FI FE FM free aV kv) (hx:aV[n]? = some x) (K:aI) (hk:∀ h',Ext h h'->K (.bool (decide (0 < x.2))) h'):Ok prog aG ov 113 [.pointer (some ⟨T0,0,none⟩),.int .i64 n] h K:=by
 obtain ⟨⟨vi,ve,q,oi,oe⟩,mm,aS,dj,kp⟩:=st
 have z:=Ext.refl h
 have cU:=λ(hh:Heap)=>oe.bn Hp hh
 have iK:=(dH.1 hx).1
 have gr:=oe.ix (kd:=.i64) (i:=n) Hp Jo iK
 have c1:=oe.fE (j:=1) hx (by omega) rfl
 have je:∀ (h:Heap) (K:aI),aH (some ve) h K=K ve h:=λ_ _=>rfl
 rw [ao h]
 refine Ok.aw 29 (bu J4) ?_
 simp only [aa,seval,xi,neT]
 refine bq (λ_=>?_) (λhn=>absurd hn (by omega))
 simp only [aa,seval,xi,q.lay,je,cU]
 refine bq (λ_=>?_) (λhn=>absurd hn (by omega))
 simp only [aa,seval,xi,q.lay,je,gr,c1]
 rw [GY]
 simp only [aa,seval,xi]
 rw [GY]
 simp only [aa,seval,xi]
 exact hk _ z.aC
theorem zm5:∀ (n:Nat) (l:List Int),l.Nodup->(∀ x∈l,0<=x/\x < n)->l.length<=n
 |0,l,_,h=>by
  cases l with
  |nil=>exact bo _
  |cons a l=>have:=h a fZ;omega
 |n+1,l,hn,h=>by
  by_cases hm:(n:Int)∈l
  .have h1:=zm5 n (l.erase n) (hn.erase _) (λx hx=>by
    have h2:=h x (List.mem_of_mem_erase hx)
    have h3:x≠n:=λe=>by rw [e] at hx;exact (List.Nodup.not_mem_erase hn) hx
    omega)
   rw [List.length_erase_of_mem hm] at h1
   omega
  .have h1:=zm5 n l hn (λx hx=>by
    have h2:=h x hx
    have h3:x≠n:=λe=>hm (e ▸ hx)
    omega)
   omega
theorem _root_.Go.Am.df.tQ {free:List Int} {aV:List fe} {kv:List (au × ah)} {us:au->Nat} (p:df free aV kv us):free.length<=aV.length :=
 zm5 _ _ p.nd (λx hx=>by obtain ⟨i,rfl,hi⟩:=p.fr x hx;omega)
theorem Zw (a b:ah):([a,b]:List ah)[1]? = some b:=rfl
theorem GJ (s:au) (h:Heap) (K:aI):aH (some (.string s)) h K=K (.string s) h:=rfl
theorem NS (t:TypeId) (x:ah) (h:Heap) (K:aI):aH (some (.iface t x)) h K=K (.iface t x) h:=rfl
theorem K6:qg aG 139 []=some (.agg #[.string ByteArray.empty,.int .i64 0]):=by kernel_rfl
theorem vE (a:Array ah) (h:Heap) (K:aI):aH (some (.agg a)) h K=K (.agg a) h:=rfl
theorem zzj (h hc:Heap) (z:Ext h hc) (T0 FI FE FM:Nat) (free:List Int) (aV:List fe) (kv:List (au × ah)) (us:au->Nat) (t:au) (i:Nat) (st:eu h.size hc T0 FI FE FM free aV kv) (p:df free aV kv us) (hl:dq kv t=some (.int .i64 (i:Int))) (wu:aV.length < 800000000) (ku:us t < 1000000000000) (K:aI)
 (hk:∀ h' I2 f2 e2 BB,Ext h h'->aM [T0,FI,FE,FM] hc h'->eu h.size h' T0 I2 FE FM f2 e2 BB->df f2 e2 BB (fU us t (us t - 1))->(I2=FI\/hc.size<=I2)->e2.length=aV.length->K (.int .i64 0) h'):Ok prog aG ov 77 [.pointer (some ⟨T0,0,none⟩),.int .i64 i] hc K:=by
 obtain ⟨j,hj,Bx⟩:=p.num hl
 have dp:i=j:=by cases hj;rfl
 subst dp
 clear hj
 have k6:=p.pos hl
 have zF:=p.tQ
 have iK:=(dH.1 Bx).1
 have hw:IntKind.i64.wrap (((us t:Nat):Int) - 1)=((us t - 1:Nat):Int):=by rw [wrap_i64 (by omega) (by omega)];omega
 obtain ⟨⟨vi,ve,q,oi,oe⟩,mm,aS,dj,kp⟩:=id st
 have gr:=oe.ix (kd:=.i64) (i:=i) Hp Jo iK
 have c1:=oe.fE (j:=1) Bx (by omega) rfl
 have je:∀ (h:Heap) (K:aI),aH (some ve) h K=K ve h:=λ_ _=>rfl
 rw [ao hc]
 refine Ok.aw 57 (bu N77) ?_
 simp only [aa,seval,wj,uR]
 refine zBX i _ _ T0 FI FE FM h.size free aV kv (st.lay _ _) Bx _ (λh' x=>?_)
 rw [pn (by show (0:Int) < (us t:Nat);omega)]
 have fr:aM [T0,FI,FE,FM] hc h':=(aM.refl [T0,FI,FE,FM] hc).over x
 replace st:=st.over x
 replace q:=q.over x
 replace oe:=oe.over x
 clear c1
 have c1:=oe.fE (j:=1) Bx (by omega) rfl
 replace oi:=oi.over x
 replace mm:=mm.over x
 (replace z:=z.an x;rw [ao h'])
 simp only [aa,seval,wj]
 (with_reducible apply ct);(· rfl)
 simp only [aa,seval,wj,q.lay,je,gr,c1,hw]
 refine cN.store (off:=1) (y:=(t,((us t - 1:Nat):Int))) PA oe Bx yP (by omega) rfl rfl rfl rfl (λh3 wE c3=>?_)
 have z3:=z.cw c3 dj.2.2.1 (by omega)
 have rT:=fr.size
 have fO:aM [T0,FI,FE,FM] hc h3:=fr.ji c3 (.inl (by simp))
 have q3:=q.bK c3 aS.2.1
 have Db:=oi.bK c3 aS.2.2.2.1
 have C8:=mm.bK c3 (Ne.symm aS.2.2.2.2.2)
 have pO:=fO.size
 clear z q oi oe mm c1 fr
 have z:=z3
 have Gf:(aV.set i (t,((us t - 1:Nat):Int)))[i]? = some (t,((us t - 1:Nat):Int)):=by rw [rE,aB rfl,aB iK]
 have c1:=wE.fE (j:=1) Gf (by omega) rfl
 have c0:=wE.fE (j:=0) Gf (by omega) rfl
 rw [ao h3]
 simp only [aa,seval,wj,q3.lay,je,gr,c1]
 refine qh (λheq=>?_) (λanB=>?_)
 .simp only [aa,seval,wj]
  with_reducible first|refine dL (by simp only [wj]) z.aC ?_
  simp only [aa,seval,wj,kE,q3.lay,je,gr,c0,zAc]
  refine zv9 C8 JF zg (λh4 m4 c4=>?_)
  have hz:=z.size
  refine nM (A:=FM) (by kernel_rfl) (by rw [bd];omega) (by omega) (by simpa only [b9,bd,bG,dY,dK,i0] using c4) ?_
  have z4:=(z.lk [] (h3.size+0) (by omega)).step c4 dj.2.2.2
  have jk:aM [T0,FI,FE,FM] hc h4:=fO.ji c4 (.inl (by simp))
  have q4:=q3.bK c4 aS.2.2.1
  have R9:=Db.bK c4 aS.2.2.2.2.1
  have R5:=wE.bK c4 aS.2.2.2.2.2
  clear z q3 Db wE C8 c1 c0
  have z:=z4
  rw [ao h4]
  simp only [dx,seval,wj]
  ((with_reducible refine ⟨z.cK.lay _ _,?_⟩);(intro _ h' zz x _);(simp only [b9,bG] at x))
  replace q4:=q4.over x
  replace R9:=R9.over x
  replace R5:=R5.over x
  replace m4:=m4.over x
  replace jk:=jk.over x
  replace z:=zz
  rw [ao h']
  simp only [aa,seval,wj,q4.lay,je,gr,K6]
  have YL:(aV.set i (t,((us t - 1:Nat):Int)))[i]? = some (t,((us t - 1:Nat):Int)):=Gf
  refine cN.pZ (y:=(ByteArray.empty,0)) PA R5 YL Jo (by omega) rfl rfl rfl rfl (λh5 NA c5=>?_)
  have td:=jk.size
  have z5:=z.cw c5 dj.2.2.1 (by omega)
  have kR:aM [T0,FI,FE,FM] hc h5:=jk.ji c5 (.inl (by simp))
  have q5:=q4.bK c5 aS.2.1
  have Sa:=R9.bK c5 aS.2.2.2.1
  have m5:=m4.bK c5 (Ne.symm aS.2.2.2.2.2)
  have ud:=kR.size
  clear z q4 R9 R5 m4 jk z3 z4 fO
  have z:=z5
  rw [List.set_set] at NA
  have tx:eu h.size h5 T0 FI FE FM free (aV.set i (ByteArray.empty,0)) (mX kv t):=⟨⟨vi,ve,q5,Sa,NA⟩,m5,aS,dj,⟨by omega,by omega,by omega,by omega⟩⟩
  have p5:=p.gone hl (ByteArray.empty,0)
  rw [ao h5]
  simp only [aa,seval,wj,zso,zwA,NS,ZZ]
  refine zq8 h _ z.aC T0 FI FE FM free _ _ (i:Int) (tx.lay _ _) (by omega) _ (λh6 I2 f2 z6 nE st6 hI hp6=>?_)
  replace kR:=(kR.trans (aM.lay h5 [] h5.low []) (λ_ h=>nomatch h)).trans nE (λB hB=>.inl (by rcases cJ.1 hB with rfl|hB;simp;rw [fH.1 hB];simp))
  have p6:=p5.perm hp6.symm
  rw [show (0:Nat)=us t - 1 by omega] at p6
  have hI6:I2=FI\/hc.size<=I2:=hI.imp id (λe=>by rw [bd] at e;omega)
  clear z z5
  have z:=z6
  rw [ao h6]
  simp only [aa,seval,wj]
  exact hk _ I2 f2 _ _ z.aC (kR.trans (aM.lay _ _ _ []) (λ_ h=>nomatch h)) (st6.lay _ _) p6 hI6 (by rw [nB])
 .simp only [aa,seval,wj]
  have lj:eu h.size h3 T0 FI FE FM free (aV.set i (t,((us t - 1:Nat):Int))) kv:=⟨⟨vi,ve,q3,Db,wE⟩,C8,aS,dj,⟨by omega,by omega,by omega,by omega⟩⟩
  exact hk _ FI free _ _ z.aC (fO.trans (aM.lay _ _ _ []) (λ_ h=>nomatch h)) (lj.lay _ _) (p.turn hl (m:=us t - 1) (by omega)) (.inl rfl) (by rw [nB])
theorem zCl:uB aG 115 115=true:=by kernel_rfl
theorem zDz:di aG 115=some 1:=by kernel_rfl
theorem UA (t:au):qg aG 139 [(0,.string t),(1,.int .i64 1)]=some (.agg #[.string t,.int .i64 1]):=by kernel_rfl
theorem Zz (a:Array ah) (h:Heap) (K:aI):aH (some (.tuple a)) h K=K (.tuple a) h:=rfl
theorem zzs (h hc:Heap) (z:Ext h hc) (T0 FI FE FM:Nat) (free:List Int) (aV:List fe) (kv:List (au × ah)) (us:au->Nat) (t:au) (st:eu h.size hc T0 FI FE FM free aV kv) (p:df free aV kv us) (ht:t.size≠0) (ht2:t.size<=255) (kX:kv.length < 65536) (wu:aV.length < 700000000) (ku:us t < 1000000000000) (K:aI)
 (hk:∀ h' n I2 E2 f2 e2 BB,Ext h h'->aM [T0,FI,FE,FM] hc h'->eu h.size h' T0 I2 E2 FM f2 e2 BB->df f2 e2 BB (fU us t (us t+1))->(I2=FI\/hc.size<=I2)->(E2=FE\/hc.size<=E2)->e2.length<=aV.length+1->K (.tuple #[.int .i64 n,.int .i64 0]) h'):Ok prog aG ov 64 [.pointer (some ⟨T0,0,none⟩),.string t] hc K:=by
 have zF:=p.tQ
 obtain ⟨⟨vi,ve,q,oi,oe⟩,mm,aS,dj,kp⟩:=id st
 have je:∀ (h:Heap) (K:aI),aH (some ve) h K=K ve h:=λ_ _=>rfl
 have Bu:∀ (h:Heap) (K:aI),aH (some vi) h K=K vi h:=λ_ _=>rfl
 have Ii:=λ(b:List ba) (w:Nat)=>Nu (bs:=b) (w:=w) mm JF
 have hle:=λ(hh:Heap)=>oe.bn Hp hh
 rw [ao hc]
 refine Ok.aw 94 (bu N64) ?_
 simp only [aa,seval,pC,uR]
 refine bq (λhe=>absurd (by rw [he];rfl) ht) (λ_=>?_)
 simp only [aa,seval,pC]
 refine bq (λhe=>absurd he (by omega)) (λ_=>?_)
 simp only [aa,seval,pC,kE,q.lay,Aa]
 refine GP mm JF zg HK ?_
 cases hl:dq kv t with
 |some v =>
  obtain ⟨i,rfl,Bx⟩:=p.num hl
  have iK:=(dH.1 Bx).1
  have gr:=oe.ix (kd:=.i64) (i:=i) Hp Jo iK
  have c1:=oe.fE (j:=1) Bx (by omega) rfl
  have hw:IntKind.i64.wrap (((us t:Nat):Int)+1)=((us t+1:Nat):Int):=by rw [wrap_i64 (by omega) (by omega)];omega
  simp only [JL,Hz,if_true]
  simp only [aa,seval,pC,q.lay,je,gr,c1,hw]
  refine cN.store (off:=1) (y:=(t,((us t+1:Nat):Int))) PA oe Bx yP (by omega) rfl rfl rfl rfl (λh3 wE c3=>?_)
  have z3:=z.cw c3 dj.2.2.1 (by omega)
  have fO:aM [T0,FI,FE,FM] hc h3:=(aM.refl _ hc).ji c3 (.inl (by simp))
  have q3:=q.bK c3 aS.2.1
  have Db:=oi.bK c3 aS.2.2.2.1
  have C8:=mm.bK c3 (Ne.symm aS.2.2.2.2.2)
  have pO:=fO.size
  clear z q oi oe mm c1
  have z:=z3
  rw [ao h3]
  simp only [aa,seval,pC]
  have lj:eu h.size h3 T0 FI FE FM free (aV.set i (t,((us t+1:Nat):Int))) kv:=⟨⟨vi,ve,q3,Db,wE⟩,C8,aS,dj,⟨by omega,by omega,by omega,by omega⟩⟩
  exact hk _ _ FI FE free _ _ z.aC (fO.trans (aM.lay _ _ _ []) (λ_ h=>nomatch h)) (lj.lay _ _) (p.turn hl (m:=us t+1) (by omega)) (.inl rfl) (.inl rfl) (by rw [nB];omega)
 |none =>
  have hzu:=p.zero hl
  simp only [Option.getD_none,Qu,if_true]
  simp only [aa,seval,pC,kE,q.lay,Ii]
  refine bq (λhe=>absurd he (by omega)) (λ_=>?_)
  simp only [aa,seval,pC,q.lay,je,Bu,hle]
  refine zra free FI vi _ (oi.lay _ _) _ (λh' x=>?_)
  replace st:=st.over x
  have fr:aM [T0,FI,FE,FM] hc h':=(aM.refl [T0,FI,FE,FM] hc).over x
  replace q:=q.over x
  replace oi:=oi.over x
  replace oe:=oe.over x
  replace mm:=mm.over x
  (replace z:=z.an x;rw [ao h'])
  simp only [aa,seval,pC]
  refine bq (λk6=>?_) (λhzero=>?_)
  focus
   obtain ⟨nf,hnf⟩:∃ nf,free.length=nf+1:=⟨free.length - 1,by omega⟩
   simp only [aa,seval,pC,zwA,NS,ZZ]
   refine zuq h _ z.aC T0 FI FE FM free aV kv nf (st.lay _ _) hnf _ (λhb xx F2 z2 Ro Zq CV=>?_)
   have fO:aM [T0,FI,FE,FM] hc hb:=(fr.trans (aM.lay h' [] h'.low []) (λ_ h=>nomatch h)).trans Ro (λB hB=>.inl (by rcases cJ.1 hB with rfl|hB;simp;rw [fH.1 hB];simp))
   obtain ⟨m,rfl,hm,pp⟩:=p.pop hl CV
   obtain ⟨E2,EX⟩:∃ E2,E2=FE:=⟨_,rfl⟩
   obtain ⟨e2,rO⟩:∃ e2,e2=aV:=⟨_,rfl⟩
   rw [<- EX,<- rO] at Zq
   rw [<- rO] at pp hm
   have hE:E2=FE\/hc.size<=E2:=.inl EX
   have Mq:e2.length<=aV.length+1:=by rw [rO];omega
   clear z fr Ro st EX rO CV q oi oe mm je Bu aS dj kp
   rw [ao hb]
   simp only [aa,seval,pC,zif,zn7,Zz]
  rotate_left
  focus
   simp only [aa,seval,pC,q.lay,je,K6,ly,zCl]
   refine cN.app (x:=(ByteArray.empty,0)) (j:=0) PA rfl (by decide) Hp zkO oe rfl (by omega) (by omega) (λv3 h3 E2 wE EZ _ zC=>?_)
   have RV:=fr.size
   have c3:=zC (by omega)
   have z3:=z.cw c3 dj.2.2.1 (by omega)
   have fO:aM [T0,FI,FE,FM] hc h3:=fr.ji c3 (.inl (by simp))
   have q3:=q.bK c3 aS.2.1
   have Db:=oi.bK c3 aS.2.2.2.1
   have C8:=mm.bK c3 (Ne.symm aS.2.2.2.2.2)
   have pO:=c3.size
   rw [bd] at pO
   obtain ⟨xa,xn,xc,rfl⟩:=wE.shape
   have ami:E2 < h3.size:=wE.lt (by simp)
   have hE:E2=FE\/hc.size<=E2:=by
    rcases EZ with e|e
    .exact .inl e.1
    .right;rw [e,bd];omega
   clear z
   have z:=z3
   rw [ao h3]
   simp only [aa,seval,pC]
   have Bj:T0≠E2/\FI≠E2/\E2≠FM:=by
    rcases hE with e|e
    .rw [e];exact ⟨aS.2.1,aS.2.2.2.1,aS.2.2.2.2.2⟩
    .exact ⟨by omega,by omega,by omega⟩
   refine GQ q3 zDz rfl rfl (by simp) rfl (λhb q4 c4=>?_)
   replace q4:Holds hb T0 (.row [vi,.slice xa xn xc,.map (some FM)] 118 false):=q4
   have z2:=z.cw c4 dj.1 (by omega)
   have anO:=fO.size
   replace fO:aM [T0,FI,FE,FM] hc hb:=fO.ji c4 (.inl (by simp))
   have td:=c4.size
   rw [bd] at td
   obtain ⟨F2,Rr⟩:∃ F2,F2=free:=⟨_,rfl⟩
   obtain ⟨e2,rO⟩:∃ e2,e2=aV++[((ByteArray.empty,0):fe)]:=⟨_,rfl⟩
   obtain ⟨m,vj⟩:∃ m,m=aV.length:=⟨_,rfl⟩
   have Zq:eu h.size hb T0 FI E2 FM F2 e2 kv:=⟨⟨vi,.slice xa xn xc,q4,by rw [Rr];exact Db.bK c4 (Ne.symm aS.1),by rw [rO];exact wE.bK c4 (Ne.symm Bj.1)⟩,C8.bK c4 (Ne.symm aS.2.2.1),⟨aS.1,Bj.1,aS.2.2.1,Bj.2.1,aS.2.2.2.2.1,Bj.2.2⟩,⟨dj.1,dj.2.1,by rcases hE with e|e;(rw [e];exact dj.2.2.1);(have:=z.size;have:=kp.1;omega),dj.2.2.2⟩,⟨by omega,by omega,by omega,by omega⟩⟩
   have Mq:e2.length<=aV.length+1:=by rw [rO,dI];exact bo _
   have hm:m < e2.length:=by rw [rO,vj,dI];simp
   have pp:df F2 (e2.set m (t,1)) (gp kv t (.int .i64 (m:Int))) (fU us t 1):=by rw [rO,vj,Rr];exact p.more hl _
   rw [<- vj]
   clear q oi oe mm q3 Db wE C8 aS dj kp je Bu z st fr z3 Rr rO
   rw [ao hb]
   simp only [aa,seval,pC]
  rotate_left
  all_goals
   obtain ⟨⟨vi2,ZA,q,oi,oe⟩,mm,aS,dj,kp⟩:=id Zq
   have z:=z2
   clear z2
   obtain ⟨x0,YK⟩:∃ x0,e2[m]? = some x0:=⟨_,ie hm⟩
   have gr:=oe.ix (kd:=.i64) (i:=m) Hp Jo hm
   have je:∀ (h:Heap) (K:aI),aH (some ZA) h K=K ZA h:=λ_ _=>rfl
   with_reducible first|refine dL (by simp only [pC]) z.aC ?_
   simp only [aa,seval,pC,kE,UA,q.lay,je,gr]
   refine cN.pZ (y:=(t,1)) PA oe YK Jo (by omega) rfl rfl rfl rfl (λh5 NA c5=>?_)
   have hz:=z.size
   refine nM (A:=E2) (by kernel_rfl) (by rw [bd];omega) (by omega) (by simpa only [b9,bd,bG,dY,dK,i0] using c5) ?_
   have z5:=(z.lk [] (hb.size+0) (by omega)).step c5 dj.2.2.1
   have kR:aM [E2] hb h5:=(aM.refl [E2] hb).ji c5 (.inl (by simp))
   have q5:=q.bK c5 aS.2.1
   have Sa:=oi.bK c5 aS.2.2.2.1
   have mm5:=mm.bK c5 (Ne.symm aS.2.2.2.2.2)
   clear z q oi oe mm
   have z:=z5
   rw [ao h5]
   simp only [dx,seval,pC,zvl]
   refine zqK mm5 JF zg HK (λh6 xx s bb W7 c6 Xh=>?_)
   have hz:=z.size
   refine nM (A:=FM) (by kernel_rfl) (by rw [bd];omega) (by omega) (by simpa only [b9,bd,bG,dY,dK,i0] using c6) ?_
   have z6:=(z.lk [] (h5.size+0) (by omega)).step c6 dj.2.2.2
   have nE:aM [E2,FM] hb h6:=(kR.mono (λB hB=>by rw [fH.1 hB];simp)).ji c6 (.inl (by simp))
   have q6:=q5.bK c6 aS.2.2.1
   have oi6:=Sa.bK c6 aS.2.2.2.2.1
   have oe6:=NA.bK c6 aS.2.2.2.2.2
   clear z q5 Sa NA mm5
   have z:=z6
   rw [ao h6]
   simp only [aa,seval,pC,zp1]
   refine Xh _ (W7.on _ _) _ _ (λh7 m7 c7=>?_)
   have hz:=z.size
   refine nM (A:=FM) (by kernel_rfl) (by rw [bd];omega) (by omega) (by simpa only [b9,bd,bG,dY,dK,i0] using c7) ?_
   have z7:=(z.lk [] (h6.size+0) (by omega)).step c7 dj.2.2.2
   have wm:aM [E2,FM] hb h7:=nE.ji c7 (.inl (by simp))
   have q7:=q6.bK c7 aS.2.2.1
   have Y9:=oi6.bK c7 aS.2.2.2.2.1
   have Y8:=oe6.bK c7 aS.2.2.2.2.2
   clear z q6 oi6 oe6
   have z:=z7
   rw [ao h7]
   simp only [dx,seval,pC]
   ((with_reducible refine ⟨z.cK.lay _ _,?_⟩);(intro _ h8 zz x8 _);(simp only [b9,bG] at x8))
   replace q7:=q7.over x8
   replace Y9:=Y9.over x8
   replace Y8:=Y8.over x8
   replace m7:=m7.over x8
   replace wm:=wm.over x8
   have fr8:aM [T0,FI,FE,FM] hc h8:=fO.trans wm (λB hB=>by
    rcases cJ.1 hB with rfl|hB
    .exact hE.imp (λe=>by rw [e];simp) id
    .rw [fH.1 hB];exact .inl (by simp))
   have hs7:=wm.size
   clear z
   have z:=zz
   have st7:eu h.size h8 T0 FI E2 FM F2 (e2.set m (t,1)) (gp kv t (.int .i64 (m:Int))):=⟨⟨vi2,ZA,q7,Y9,Y8⟩,m7,aS,dj,⟨by omega,by omega,by omega,by omega⟩⟩
   rw [ao h8]
   simp only [aa,seval,pC]
   exact hk _ _ FI E2 F2 _ _ z.aC (fr8.trans (aM.lay _ _ _ []) (λ_ h=>nomatch h)) (st7.lay _ _) (by rw [hzu];exact pp) (.inl rfl) hE (by rw [nB];exact Mq)
end Go.Proofs.YtmamldleclamjaaGreatDoor
