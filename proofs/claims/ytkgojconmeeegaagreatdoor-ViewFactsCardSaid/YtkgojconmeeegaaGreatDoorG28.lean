/- Texts by numbers, as plain data. No condition. -/
import Derived.Test.YtkgojconmeeegaaGreatDoorG27
set_option linter.unusedSimpArgs false
set_option linter.unusedVariables false
set_option maxRecDepth 100000
set_option maxHeartbeats 0
namespace Go.Am
variable {f2:List Int} {ve:ae}
def ia (us:aB->Nat) (t:aB) (n:Nat):aB->Nat:=λx=>if x=t then n else us x
theorem zp (us:aB->Nat) (t:aB) (n:Nat):ia us t n t=n:=aE rfl
theorem vX {us:aB->Nat} {t x:aB} {n:Nat} (h:x≠t):ia us t n x=us x:=az h
abbrev fp:=aB × Int
def RC (x:fp):List ae:=[.string x.1,.int .i64 x.2]
theorem Q4 (x:fp):(RC x).length=2:=rfl
def CJ (x:Int):List ae:=[.int .i64 x]
theorem zfC (x:Int):(CJ x).length=1:=rfl
structure dg (free:List Int) (aY:List fp) (kv:List (aB × ae)) (us:aB->Nat):Prop where
 fr:∀ n∈free,∃ i:Nat,n=(i:Int)/\i < aY.length
 nd:free.Nodup
 kn:(kv.map Prod.fst).Nodup
 val:∀ t v,dV kv t=some v->∃ i:Nat,v=.int .i64 (i:Int)/\aY[i]? = some (t,(us t:Int))/\(i:Int) ∉ free
 has:∀ t,(dV kv t).isSome=true↔0 < us t
section
variable {free rest:List Int} {aY:List fp} {kv:List (aB × ae)} {us:aB->Nat} {t:aB} {v:ae} {n:Int} {i:Nat}
theorem dg.empty:dg [] [] [] (λ_=>0):=⟨λ_ h=>by simp at h,List.nodup_nil,by simp,λt v h=>by simp [dV] at h,λt=>by simp [dV]⟩
theorem dg.perm (p:dg free aY kv us) (h:free.Perm rest):dg rest aY kv us :=
 ⟨λn hn=>p.fr n (h.mem_iff.2 hn),h.nodup_iff.1 p.nd,p.kn,λt v hv=>(p.val t v hv).imp λi hi=>⟨hi.1,hi.2.1,λhh=>hi.2.2 (h.mem_iff.2 hh)⟩,p.has⟩
theorem dg.num (p:dg free aY kv us) (h:dV kv t=some v):∃ i:Nat,v=.int .i64 (i:Int)/\aY[i]? = some (t,(us t:Int)):=(p.val t v h).imp λi hi=>⟨hi.1,hi.2.1⟩
theorem dg.zero (p:dg free aY kv us) (h:dV kv t=none):us t=0:=by
 have:=p.has t
 rw [h] at this
 simp at this
 exact this
theorem dg.pos (p:dg free aY kv us) (h:dV kv t=some v):0 < us t:=(p.has t).1 (by rw [h];rfl)
theorem dg.turn (p:dg free aY kv us) (h:dV kv t=some (.int .i64 (i:Int))) {m:Nat} (hm:0 < m):dg free (aY.set i (t,(m:Int))) kv (ia us t m):=by
 obtain ⟨j,hj,j6,hjf⟩:=p.val t _ h
 have dF:i=j:=by cases hj;rfl
 subst dF
 have jt:=(dz.1 j6).1
 refine ⟨λn hn=>?_,p.nd,p.kn,λt2 v2 h2=>?_,λt2=>?_⟩
 .obtain ⟨q,hq,vF⟩:=p.fr n hn
  exact ⟨q,hq,by rw [nU];exact vF⟩
 .obtain ⟨q,hq,uE,Af⟩:=p.val t2 v2 h2
  refine ⟨q,hq,?_,Af⟩
  rw [sX]
  by_cases he:t2=t
  .subst he
   rw [h] at h2
   cases h2
   have:q=i:=by cases hq;rfl
   subst this
   rw [aE rfl,aE jt,zp]
  .rw [az (by rintro rfl;rw [j6] at uE;cases uE;exact he rfl),vX he]
   exact uE
 .by_cases he:t2=t
  .subst he
   rw [h,zp]
   simp [hm]
  .rw [vX he]
   exact p.has t2
theorem dg.fresh {m:Nat} (dC:∀ n∈rest,∃ i:Nat,n=(i:Int)/\i < aY.length) (i6:rest.Nodup) (II:(kv.map Prod.fst).Nodup) (eE:∀ t v,dV kv t=some v->∃ i:Nat,v=.int .i64 (i:Int)/\aY[i]? = some (t,(us t:Int))/\(i:Int) ∉ rest/\i≠m) (ym:∀ t,(dV kv t).isSome=true↔0 < us t)
 (hm:m < aY.length) (hmf:(m:Int) ∉ rest) (h:dV kv t=none):dg rest (aY.set m (t,1)) (gz kv t (.int .i64 (m:Int))) (ia us t 1):=by
 refine ⟨λn hn=>?_,i6,Us II t _,λt2 v2 h2=>?_,λt2=>?_⟩
 .obtain ⟨q,hq,vF⟩:=dC n hn
  exact ⟨q,hq,by rw [nU];exact vF⟩
 .rw [Rm] at h2
  by_cases he:t2=t
  .subst he
   rw [aE rfl] at h2
   cases h2
   refine ⟨m,rfl,?_,hmf⟩
   rw [sX,aE rfl,aE hm,zp]
   rfl
  .rw [az he] at h2
   obtain ⟨q,hq,uE,Af,hqm⟩:=eE t2 v2 h2
   refine ⟨q,hq,?_,Af⟩
   rw [sX,az (Ne.symm hqm),vX he]
   exact uE
 .rw [Rm]
  by_cases he:t2=t
  .subst he
   rw [aE rfl,zp]
   simp
  .rw [az he,vX he]
   exact ym t2
theorem dg.pop (p:dg free aY kv us) (h:dV kv t=none) (hp:free.Perm (n::rest)):∃ i:Nat,n=(i:Int)/\i < aY.length/\dg rest (aY.set i (t,1)) (gz kv t (.int .i64 (i:Int))) (ia us t 1):=by
 have i6:=hp.nodup_iff.1 p.nd
 rw [AV] at i6
 obtain ⟨i,rfl,hi⟩:=p.fr n (hp.mem_iff.2 lj)
 refine ⟨i,rfl,hi,dg.fresh (λm hm=>p.fr m (hp.mem_iff.2 (gJ _ hm))) i6.2 p.kn (λt2 v2 h2=>?_) p.has hi i6.1 h⟩
 obtain ⟨q,hq,uE,Af⟩:=p.val t2 v2 h2
 exact ⟨q,hq,uE,λhh=>Af (hp.mem_iff.2 (gJ _ hh)),λe=>Af (by rw [e];exact hp.mem_iff.2 lj)⟩
theorem dg.more (p:dg free aY kv us) (h:dV kv t=none) (x:fp):dg free ((aY++[x]).set aY.length (t,1)) (gz kv t (.int .i64 (aY.length:Int))) (ia us t 1):=by
 refine dg.fresh (λm hm=>?_) p.nd p.kn (λt2 v2 h2=>?_) p.has (by rw [cW];simp) (λhh=>?_) h
 .obtain ⟨q,hq,vF⟩:=p.fr m hm
  exact ⟨q,hq,by rw [cW];omega⟩
 .obtain ⟨q,hq,uE,Af⟩:=p.val t2 v2 h2
  have vF:=(dz.1 uE).1
  exact ⟨q,hq,by rw [mX vF];exact uE,Af,by omega⟩
 .obtain ⟨q,hq,vF⟩:=p.fr _ hh
  omega
theorem dg.gone (p:dg free aY kv us) (h:dV kv t=some (.int .i64 (i:Int))) (x:fp):dg ((i:Int)::free) (aY.set i x) (nh kv t) (ia us t 0):=by
 obtain ⟨j,hj,j6,hjf⟩:=p.val t _ h
 have dF:i=j:=by cases hj;rfl
 subst dF
 have jt:=(dz.1 j6).1
 refine ⟨λn hn=>?_,AV.2 ⟨hjf,p.nd⟩,zhG p.kn t,λt2 v2 h2=>?_,λt2=>?_⟩
 .rw [nU]
  rcases dG.1 hn with rfl|hn
  .exact ⟨i,rfl,jt⟩
  .exact p.fr n hn
 .rw [zjB] at h2
  by_cases he:t2=t
  .rw [aE he] at h2;cases h2
  .rw [az he] at h2
   obtain ⟨q,hq,uE,Af⟩:=p.val t2 v2 h2
   have hqi:i≠q:=by rintro rfl;rw [j6] at uE;cases uE;exact he rfl
   refine ⟨q,hq,by rw [sX,az hqi,vX he];exact uE,λhh=>?_⟩
   rcases dG.1 hh with e|hh
   .exact hqi (by omega)
   .exact Af hh
 .rw [zjB]
  by_cases he:t2=t
  .rw [aE he,he,zp];simp
  .rw [az he,vX he];exact p.has t2
end
theorem zxA {kv kw:List (aB × ae)} (h1:(kv.map Prod.fst).Nodup) (h2:(kw.map Prod.fst).Nodup) (h:∀ t,(dV kv t).isSome=true↔(dV kw t).isSome=true):kv.length=kw.length:=by
 have hm:∀ (l:List (aB × ae)) (t:aB),(dV l t).isSome=true↔t∈l.map Prod.fst:=λl t=>by
  cases hl:dV l t with
  |none=>simp [iG.1 hl]
  |some v =>
   simp only [J0,true_iff]
   refine Classical.byContradiction λhn=>?_
   rw [iG.2 hn] at hl
   cases hl
 have hp:(kv.map Prod.fst).Perm (kw.map Prod.fst):=(List.perm_ext_iff_of_nodup h1 h2).2 λt=>by rw [<- hm,<- hm];exact h t
 simpa using hp.length_eq
structure gj (tt ti te N:Nat) (h:Heap) (T0 I E M:Nat) (free:List Int) (aY:List fp) (kv:List (aB × ae)):Prop where
 row:∃ vi ve,Holds h T0 (.row [vi,ve,.map (some M)] tt false)/\cJ 1 CJ h ti I vi free/\cJ 2 RC h te E ve aY
 map:dI h M kv
 ne:T0≠I/\T0≠E/\T0≠M/\I≠E/\I≠M/\E≠M
 lo:N<=T0/\N<=I/\N<=E/\N<=M
 hi:T0 < h.size/\I < h.size/\E < h.size/\M < h.size
section
variable {tt ti te N:Nat} {h h1 h2:Heap} {T0 I E M w:Nat} {bs:List bh} {free:List Int} {aY:List fp} {kv:List (aB × ae)}
theorem gj.hold (s:gj tt ti te N h T0 I E M free aY kv) (hs:h.size<=h1.size) (hO:∀ A b,A=T0\/A=I\/A=E\/A=M->Holds h A b->Holds h1 A b):gj tt ti te N h1 T0 I E M free aY kv:=by
 obtain ⟨⟨vi,ve,q,oi,oe⟩,m,n,l,u⟩:=s
 exact ⟨⟨vi,ve,hO _ _ (.inl rfl) q,oi.hold (λb=>hO _ b (.inr (.inl rfl))),oe.hold (λb=>hO _ b (.inr (.inr (.inl rfl))))⟩,m.hold (λb=>hO _ b (.inr (.inr (.inr rfl)))),n,l,⟨by omega,by omega,by omega,by omega⟩⟩
theorem gj.over (s:gj tt ti te N h1 T0 I E M free aY kv) (x:Ext (h1.lay bs w) h2):gj tt ti te N h2 T0 I E M free aY kv:=s.hold (by have:=x.size;rw [bf] at this;omega) (λA b _ q=>q.over x)
theorem gj.lay (s:gj tt ti te N h1 T0 I E M free aY kv) (bs:List bh) (w:Nat):gj tt ti te N (h1.lay bs w) T0 I E M free aY kv:=s.hold (by rw [bf];omega) (λA b _ q=>q.on bs w)
theorem gj.ck {D:List Nat} (s:gj tt ti te N h1 T0 I E M free aY kv) (f:aQ D h1 h2) (h0:T0 ∉ D/\I ∉ D/\E ∉ D/\M ∉ D):gj tt ti te N h2 T0 I E M free aY kv:=s.hold f.size (λA b hA q=>q.ck f (by rcases hA with rfl|rfl|rfl|rfl;exact h0.1;exact h0.2.1;exact h0.2.2.1;exact h0.2.2.2))
theorem gj.rM {vi:ae} (s:gj tt ti te N h1 T0 I E M free aY kv) (q:Holds h1 T0 (.row [vi,ve,.map (some M)] tt false)) (oe:cJ 2 RC h1 te E ve aY) (c:aQ [I] h1 h2) (o2:cJ 1 CJ h2 ti I vi f2):gj tt ti te N h2 T0 I E M f2 aY kv:=by
 obtain ⟨_,m,n,l,u⟩:=s
 have hs:=c.size
 have hn:∀ {A},A≠I->A ∉ [I]:=λh hm=>h (iq.1 hm)
 exact ⟨⟨vi,ve,q.ck c (hn n.1),o2,oe.ck c (hn (Ne.symm n.2.2.2.1))⟩,m.hold (λb q=>q.ck c (hn (Ne.symm n.2.2.2.2.1))),n,l,⟨by omega,by omega,by omega,by omega⟩⟩
theorem gj.O1 {v2:ae} {Dt:List fp} (s:gj tt ti te N h1 T0 I E M free aY kv) (c:aQ [T0] h1 h2) (q:Holds h2 T0 (.row [v2,ve,.map (some M)] tt false)) (o1:cJ 1 CJ h1 ti I v2 f2) (oe:cJ 2 RC h1 te E ve Dt):gj tt ti te N h2 T0 I E M f2 Dt kv:=by
 obtain ⟨_,m,n,l,u⟩:=s
 have hs:=c.size
 have hn:∀ {A},A≠T0->A ∉ [T0]:=λh hm=>h (iq.1 hm)
 exact ⟨⟨v2,ve,q,o1.ck c (hn (Ne.symm n.1)),oe.ck c (hn (Ne.symm n.2.1))⟩,m.hold (λb q=>q.ck c (hn (Ne.symm n.2.2.1))),n,l,⟨by omega,by omega,by omega,by omega⟩⟩
theorem gj.Hj {v2:ae} {I2:Nat} (s:gj tt ti te N h1 T0 I E M free aY kv) (c:aQ [T0,I] h1 h2) (hI:I2=I\/h1.size<=I2) (ey:I2 < h2.size) (q:Holds h2 T0 (.row [v2,ve,.map (some M)] tt false)) (o1:cJ 1 CJ h2 ti I2 v2 f2) (oe:cJ 2 RC h1 te E ve aY):gj tt ti te N h2 T0 I2 E M f2 aY kv:=by
 obtain ⟨_,m,n,l,u⟩:=s
 have hs:=c.size
 have hn:∀ {A},A≠T0->A≠I->A ∉ [T0,I]:=λh h2 hm=>by
  rcases dG.1 hm with e|hm
  .exact h e
  .exact h2 (iq.1 hm)
 refine ⟨⟨v2,ve,q,o1,oe.ck c (hn (Ne.symm n.2.1) (Ne.symm n.2.2.2.1))⟩,m.hold (λb q=>q.ck c (hn (Ne.symm n.2.2.1) (Ne.symm n.2.2.2.2.1))),?_,?_,⟨by omega,ey,by omega,by omega⟩⟩
 .rcases hI with rfl|hI
  .exact n
  .exact ⟨by omega,n.2.1,n.2.2.1,by omega,by omega,n.2.2.2.2.2⟩
 .rcases hI with rfl|hI
  .exact l
  .exact ⟨l.1,by omega,l.2.2⟩
end
theorem Rq {l:List Int} {i j:Nat} {a b:Int} (hi:l[i]? = some a) (hj:l[j]? = some b):l.Perm ((l.set i b).set j a):=by
 by_cases h:i=j
 .subst h
  rw [hi] at hj
  cases hj
  have e:(l.set i a).set i a=l:=by
   apply r8
   intro k
   rw [List.set_set,sX]
   by_cases hk:i=k
   .subst hk
    rw [aE rfl,hi]
    simp [(dz.1 hi).1]
   .rw [az hk]
  rw [e]
 .have hc:∀ x,l.count x=((l.set i b).set j a).count x:=by
   intro x
   have jt:=(dz.1 hi)
   have BO:=(dz.1 hj)
   have e1:((l.set i b).set j a).count x=(l.set i b).count x - (if (b == x) then 1 else 0)+(if (a == x) then 1 else 0):=by
    rw [List.count_set (by rw [nU];exact BO.1)]
    rw [List.getElem_set_ne h,BO.2]
   have e2:(l.set i b).count x=l.count x - (if (a == x) then 1 else 0)+(if (b == x) then 1 else 0):=by
    rw [List.count_set jt.1,jt.2]
   rw [e1,e2]
   have ha:(a == x)=true->1<=l.count x:=λe=>List.one_le_count_iff.2 (by rw [<- eq_of_beq e];exact ig hi)
   have hb:(b == x)=true->1<=l.count x:=λe=>List.one_le_count_iff.2 (by rw [<- eq_of_beq e];exact ig hj)
   cases vp:(a == x)
   .simp
   .have:=ha vp
    simp
    omega
  exact List.perm_iff_count.2 hc
end Go.Am
namespace Go.Proofs.YtkgojconmeeegaaGreatDoor
open Go.Am Tryz
theorem Hv (b:Bool) (h:Heap) (K:aG):rY b h K=K (.bool b) h:=by
 unfold rY
 cases b
 .simp
 .simp
theorem CX:aA.desc 170=some (.slice 3):=by kernel_rfl
theorem zth (A:Nat) (h:Heap):wX aA 181 (.pointer (some ⟨A,0,none⟩)) "Len" h=(fW aA 170 (.pointer (some ⟨A,0,none⟩)) h).map λr=>(121,r):=by kernel_rfl
theorem Rn (A:Nat) (h:Heap):wX aA 181 (.pointer (some ⟨A,0,none⟩)) "Less" h=(fW aA 170 (.pointer (some ⟨A,0,none⟩)) h).map λr=>(257,r):=by kernel_rfl
theorem Ro (A:Nat) (h:Heap):wX aA 181 (.pointer (some ⟨A,0,none⟩)) "Swap" h=(fW aA 170 (.pointer (some ⟨A,0,none⟩)) h).map λr=>(260,r):=by kernel_rfl
theorem zzZ (A:Nat) (h:Heap):wX aA 181 (.pointer (some ⟨A,0,none⟩)) "Pop" h=some (258,.pointer (some ⟨A,0,none⟩)):=by kernel_rfl
theorem zxI (A:Nat) (h:Heap):wX aA 181 (.pointer (some ⟨A,0,none⟩)) "Push" h=some (259,.pointer (some ⟨A,0,none⟩)):=by kernel_rfl
theorem wT {h1:Heap} {T0 w:Nat} {bs:List bh} {vi ve vm:ae} (q:Holds h1 T0 (.row [vi,ve,vm] 176 false)):fW aA 170 (.pointer (some ⟨T0,0,none⟩)) (h1.lay bs w)=some vi:=by
 have hg:=q.lay bs w
 have ha:ct aA 170=some false:=by kernel_rfl
 unfold fW gS
 simp only [ha,dX,gW,if_false,hg]
 rfl
abbrev eQ (N:Nat) (h:Heap) (T0 I E M:Nat) (free:List Int) (aY:List fp) (kv:List (aB × ae)):Prop:=gj 176 3 178 N h T0 I E M free aY kv
theorem zrV (free:List Int) (I:Nat) (v:ae) (h:Heap) (o:cJ 1 CJ h 3 I v free) (K:aG) (hk:∀ h',Ext h h'->K (.int .i64 free.length) h'):Ok prog aA ov 121 [v] h K:=by
 rw [ao h]
 have z:=Ext.refl h
 have cO:=λ(hh:Heap)=>o.bt CX hh
 refine Ok.aq 4 (bm KD) ?_
 simp only [aa,seval,V2,cO]
 exact hk _ z.au
theorem Rw (free:List Int) (I:Nat) (v:ae) (i j:Nat) (a b:Int) (h:Heap) (o:cJ 1 CJ h 3 I v free) (hi:free[i]? = some a) (hj:free[j]? = some b) (K:aG) (hk:∀ h',Ext h h'->K (.bool (decide (a < b))) h'):Ok prog aA ov 257 [v,.int .i64 i,.int .i64 j] h K:=by
 rw [ao h]
 have z:=Ext.refl h
 have iD:=o.ix (kd:=.i64) (i:=i) CX ze (dz.1 hi).1
 have su:=o.ix (kd:=.i64) (i:=j) CX ze (dz.1 hj).1
 have ci:=o.qW hi rfl
 have cj:=o.qW hj rfl
 have Cc:∀ (n:Int) (h:Heap) (K:aG),aD (some (.int .i64 n)) h K=K (.int .i64 n) h:=λ_ _ _=>rfl
 refine Ok.aq 13 (bm LW) ?_
 simp only [aa,seval,xJ]
 with_reducible first|refine cZ (by simp only [xJ]) z.au ?_
 simp only [aa,seval,xJ,iD,su,ci,cj,Cc]
 rw [Hv]
 simp only [aa,seval,xJ]
 ((with_reducible refine ⟨z.bZ.lay _ _,?_⟩);(intro _ h' zz x _);(simp only [bG,bu] at x);(replace z:=zz);(clear zz);rw [ao h'])
 simp only [aa,seval,xJ]
 exact hk _ z.au
theorem RD (free:List Int) (I:Nat) (v:ae) (i j:Nat) (a b:Int) (h hc:Heap) (z:Ext h hc) (hI:h.size<=I) (o:cJ 1 CJ hc 3 I v free) (hi:free[i]? = some a) (hj:free[j]? = some b) (K:aG) (hk:∀ h',Ext h h'->aQ [I] hc h'->cJ 1 CJ h' 3 I v ((free.set i b).set j a)->K undef h'):Ok prog aA ov 260 [v,.int .i64 i,.int .i64 j] hc K:=by
 rw [ao hc]
 have iD:=o.ix (kd:=.i64) (i:=i) CX ze (dz.1 hi).1
 have su:=o.ix (kd:=.i64) (i:=j) CX ze (dz.1 hj).1
 have ci:=o.qW hi rfl
 have cj:=o.qW hj rfl
 have Cc:∀ (n:Int) (h:Heap) (K:aG),aD (some (.int .i64 n)) h K=K (.int .i64 n) h:=λ_ _ _=>rfl
 refine Ok.aq 17 (bm LZ) ?_
 with_reducible first|refine cZ (by simp only [xK]) z.au ?_
 simp only [aa,seval,xK,iD,su,ci,cj,Cc]
 refine cJ.qi (y:=b) zfC o hi ze (by omega) rfl rfl rfl rfl (λh3 o3 c3=>?_)
 have hz:=z.size
 refine mW (A:=I) (by kernel_rfl) (by rw [bf];omega) (by omega) (by simpa only [bG,bf,bu,de,dr,jh] using c3) ?_
 have z3:=(z.je [] (hc.size+0) (by omega)).step c3 hI
 rw [ao h3]
 simp only [aa,seval,xK,su]
 have hj3:(free.set i b)[j]? = some b:=by
  rw [sX]
  split
  .rw [aE (dz.1 hi).1]
  .exact hj
 refine cJ.qi (y:=a) zfC o3 hj3 ze (by omega) rfl rfl rfl rfl (λh4 o4 c4=>?_)
 have Cf:=z3.size
 refine mW (A:=I) (by kernel_rfl) (by rw [bf];omega) (by omega) (by simpa only [bG,bf,bu,de,dr,jh] using c4) ?_
 have z4:=(z3.je [] (h3.size+0) (by omega)).step c4 hI
 have cc:aQ [I] hc h4:=((aQ.refl [I] hc).iW c3 (.inl (by simp))).iW c4 (.inl (by simp))
 clear z
 have z:=z4
 rw [ao h4]
 simp only [cR,seval,xK]
 ((with_reducible refine ⟨z.bZ.lay _ _,?_⟩);(intro _ h' zz x _);(simp only [bG,bu] at x))
 replace o4:=o4.over x
 replace cc:=cc.over x
 replace z:=zz
 rw [ao h']
 simp only [seval,xK]
 exact hk _ z.au (cc.trans (aQ.lay _ _ _ []) (λ_ h=>nomatch h)) (o4.lay _ _)
theorem zCy (j:Nat) (h:j<=1000000000):IntKind.i64.wrap ((IntKind.i64.wrap ((j:Int) - 1)).tdiv 2)=(((j - 1) / 2:Nat):Int):=by
 rw [wrap_i64 (i:=(j:Int) - 1) (by omega) (by omega)]
 have e:((j:Int) - 1).tdiv 2=(((j - 1) / 2:Nat):Int):=by
  cases j with
  |zero=>decide
  |succ j =>
   rw [show ((j+1:Nat):Int) - 1=(j:Int) by omega,show j+1 - 1=j by omega]
   exact (Int.ofNat_tdiv j 2).symm
 rw [e]
 exact wrap_i64 (by omega) (by omega)
theorem zzt {T:bL} {t:TypeId} {k:IntKind} {a b:Int}:bY prog T .mul t (.int k a) (.int k b)=some (.int k (k.wrap (a*b))):=by
 refine zmr rfl ?_ rfl
 simp [binOp,Op.intArith,AE]
theorem uZ {k i:Nat} (h:¬ i=k) (Q:Ex->Env->Heap->Prop) (e:Env) (hh:Heap):w8 k Q (.exit i) e hh=Q (.exit i) e hh:=by
 show (if i=k then Q .normal e hh else Q (.exit i) e hh)=_
 rw [az h]
abbrev IW (T0:Nat):ae:=.iface 181 (.pointer (some ⟨T0,0,none⟩))
theorem zEa (h hc:Heap) (z:Ext h hc) (T0 FI FE FM:Nat) (free:List Int) (aY:List fp) (kv:List (aB × ae)) (j:Nat) (st:eQ h.size hc T0 FI FE FM free aY kv) (hj:j < free.length) (K:aG) (hk:∀ h' f2,Ext h h'->aQ [FI] hc h'->eQ h.size h' T0 FI FE FM f2 aY kv->free.Perm f2->K undef h'):Ok prog aA ov 168 [IW T0,.int .i64 j] hc K:=by
 have hle:free.length<=1000000000:=by obtain ⟨⟨vi,ve,q,oi,oe⟩,_⟩:=st;exact oi.nF
 rw [ao hc]
 refine Ok.aq 21 (bm Lb) ?_
 simp only [cR,seval,mv]
 obtain ⟨I1,aO⟩:∃ I:Nat->Env->Heap->Prop,I=(λn e h'=>∃ (j1:Nat) (f1:List Int) (h1:Heap),h'=h1.lay [] h1.low/\Ext h h1/\(n=j1+1/\j1 < f1.length/\eQ h.size h1 T0 FI FE FM f1 aY kv/\free.Perm f1/\aQ [FI] hc h1)/\∃ J:Nat->ae,e=(IW T0::.int .i64 j1::jr J 2 21 ([]))):=⟨_,rfl⟩
 refine cK I1 _ (by rw [aO];exact ⟨j,free,_,rfl,z,⟨rfl,hj,st,List.Perm.refl _,aQ.refl _ _⟩,bc⟩) ?_
 intro n e h' aK
 rw [aO] at aK
 obtain ⟨j1,f1,bD,rfl,z,hinv,J,rfl⟩:=aK
 clear st
 obtain ⟨rfl,su,st,hY,fr⟩:=hinv
 have hlen:=hY.length_eq
 obtain ⟨⟨vi,ve,q,oi,oe⟩,_⟩:=id st
 have hq:=zCy j1 (by omega)
 have ry:(j1 - 1) / 2 < f1.length:=by omega
 obtain ⟨a,ha,ID⟩:=eb (l:=f1) (i:=j1) (by omega)
 obtain ⟨b,hb,nW⟩:=eb (l:=f1) (i:=(j1 - 1) / 2) (by omega)
 simp only [aa,seval,mv]
 rw [zwC (by decide),hq]
 simp only [aa,seval,mv]
 refine lz (λheq=>?_) (λba=>?_)
 .simp only [aa,seval,mv]
  rw [uZ (by decide)]
  simp only [aa,seval,mv]
  exact hk _ f1 z.au (fr.trans (aQ.lay _ _ _ []) (λ_ h=>nomatch h)) (st.lay _ _) hY
 simp only [aa,seval,mv,uL]
 refine uS (f:=257) (y:=vi) (by rw [Rn,wT q];rfl) ?_
 refine Rw f1 FI vi j1 ((j1 - 1) / 2) a b _ (oi.lay _ _) ID nW _ (λh' x=>?_)
 (replace z:=z.aj x;replace st:=st.over x;replace fr:=fr.over x;rw [ao h'])
 simp only [aa,seval,mv]
 (with_reducible apply bI);(· rfl)
 simp only [aa,seval,mv]
 clear q oi oe
 obtain ⟨⟨vi,ve,q,oi,oe⟩,_,_,cM,_⟩:=id st
 refine uR (λlq=>?_) (λaP=>?_)
 .simp only [aa,seval,mv]
  rw [uZ (by decide)]
  simp only [aa,seval,mv]
  exact hk _ f1 z.au (fr.trans (aQ.lay _ _ _ []) (λ_ h=>nomatch h)) (st.lay _ _) hY
 simp only [aa,seval,mv,uL]
 refine uS (f:=260) (y:=vi) (by rw [Ro,wT q];rfl) ?_
 refine RD f1 FI vi ((j1 - 1) / 2) j1 b a h _ z.au cM.2.1 (oi.lay _ _) nW ID _ (λh3 z3 fI o3=>?_)
 have kA:=(st.lay [] h'.low).rM (q.on _ _) (oe.lay _ _) fI o3
 replace fr:=(fr.trans (aQ.lay h' [] h'.low []) (λ_ h=>nomatch h)).trans fI (λB hB=>.inl hB)
 have B1:=hY.trans (Rq nW ID)
 clear q oi oe o3 fI st z
 have z:=z3
 rw [ao h3]
 simp only [aa,seval,mv]
 (rw [aO];with_reducible refine bS (m:=_) ?_ ⟨(j1 - 1) / 2,(f1.set ((j1 - 1) / 2) a).set j1 b,_,rfl,z,⟨rfl,by rw [nU,nU];omega,kA,B1,fr⟩,bc⟩;omega)
theorem zz8 (h hc:Heap) (z:Ext h hc) (T0 FI FE FM:Nat) (free:List Int) (aY:List fp) (kv:List (aB × ae)) (m:Nat) (st:eQ h.size hc T0 FI FE FM free aY kv) (hm:m<=free.length) (K:aG) (hk:∀ h' f2 b,Ext h h'->aQ [FI] hc h'->eQ h.size h' T0 FI FE FM f2 aY kv->free.Perm f2->K (.bool b) h'):Ok prog aA ov 167 [IW T0,.int .i64 0,.int .i64 m] hc K:=by
 have hle:free.length<=1000000000:=by obtain ⟨⟨vi,ve,q,oi,oe⟩,_⟩:=st;exact oi.nF
 rw [ao hc]
 refine Ok.aq 45 (bm La) ?_
 simp only [aa,seval,ek]
 obtain ⟨I1,aO⟩:∃ I:Nat->Env->Heap->Prop,I=(λn e h'=>∃ (i:Nat) (f1:List Int) (h1:Heap),h'=h1.lay [] h1.low/\Ext h h1/\(n=free.length - i/\i<=free.length/\eQ h.size h1 T0 FI FE FM f1 aY kv/\free.Perm f1/\aQ [FI] hc h1)/\∃ J:Nat->ae,e=(IW T0::.int .i64 0::.int .i64 m::jr J 3 4 (.int .i64 i::jr J 8 40 ([])))):=⟨_,rfl⟩
 refine cK I1 _ (by rw [aO];exact ⟨0,free,_,rfl,z,⟨rfl,by omega,st,List.Perm.refl _,aQ.refl _ _⟩,bc⟩) ?_
 intro n e h' aK
 rw [aO] at aK
 obtain ⟨i,f1,bD,rfl,z,hinv,J,rfl⟩:=aK
 clear st
 obtain ⟨rfl,hi,st,hY,fr⟩:=hinv
 have hlen:=hY.length_eq
 obtain ⟨⟨vi,ve,q,oi,oe⟩,_,_,cM,_⟩:=id st
 have yT:IntKind.i64.wrap (IntKind.i64.wrap (2*(i:Int))+1)=((2*i+1:Nat):Int):=by
  rw [wrap_i64 (i:=2*(i:Int)) (by omega) (by omega),wrap_i64 (by omega) (by omega)];omega
 have ph:IntKind.i64.wrap (((2*i+1:Nat):Int)+1)=((2*i+2:Nat):Int):=by rw [wrap_i64 (by omega) (by omega)];omega
 simp only [aa,seval,ek,zzt,yT]
 refine bg (λlq=>?_) (λaP=>?_)
 .simp only [aa,seval,ek]
  rw [uZ (by decide)]
  simp only [aa,seval,ek]
  rw [Hv]
  simp only [aa,seval,ek]
  exact hk _ f1 _ z.au (fr.trans (aQ.lay _ _ _ []) (λ_ h=>nomatch h)) (st.lay _ _) hY
 simp only [aa,seval,ek]
 refine bg (λc0=>absurd c0 (by omega)) (λ_=>?_)
 obtain ⟨a1,IE,pM⟩:=eb (l:=f1) (i:=2*i+1) (by omega)
 obtain ⟨ai,Tl,pO⟩:=eb (l:=f1) (i:=i) (by omega)
 simp only [aa,seval,ek,ph]
 refine bg (λiZ=>?_) (λiZ=>?_)
 .obtain ⟨a2,F3,xX⟩:=eb (l:=f1) (i:=2*i+2) (by omega)
  simp only [aa,seval,ek,uL]
  refine uS (f:=257) (y:=vi) (by rw [Rn,wT q];rfl) ?_
  refine Rw f1 FI vi (2*i+2) (2*i+1) a2 a1 _ (oi.lay _ _) xX pM _ (λh' x=>?_)
  (replace z:=z.aj x;replace st:=st.over x;replace fr:=fr.over x;rw [ao h'])
  clear q oi oe
  simp only [aa,seval,ek]
  refine bg (λhl=>?_) (λhl=>?_)
  .simp only [aa,seval,ek]
   obtain ⟨jj,Nx⟩:∃ jj,jj=2*i+2:=⟨_,rfl⟩
   rw [<- Nx] at xX ⊢
   have Nz:jj < m:=by omega
   have dF:i < jj:=by omega
   simp only [aa,seval,uL]
   obtain ⟨⟨vi,ve,q,oi,oe⟩,_,_,cM,_⟩:=id st
   refine uS (f:=257) (y:=vi) (by rw [Rn,wT q];rfl) ?_
   refine Rw f1 FI vi jj i a2 ai _ (oi.lay _ _) xX pO _ (λh' x=>?_)
   (replace z:=z.aj x;replace st:=st.over x;replace fr:=fr.over x;rw [ao h'])
   clear q oi oe
   obtain ⟨⟨vi,ve,q,oi,oe⟩,_,_,cM,_⟩:=id st
   rcases Decidable.em (a2 < ai) with hd|hd
   rotate_left
   .rw [uW hd]
    simp only [aa,seval,ek]
    (with_reducible apply bI);(· rfl)
    simp only [aa,seval,ek]
    rw [uZ (by decide)]
    simp only [aa,seval,ek]
    rw [Hv]
    simp only [aa,seval,ek]
    exact hk _ f1 _ z.au (fr.trans (aQ.lay _ _ _ []) (λ_ h=>nomatch h)) (st.lay _ _) hY
   rw [sY hd]
   simp only [aa,seval,ek]
   (with_reducible apply bI);(· rfl)
   simp only [aa,seval,ek,uL]
   refine uS (f:=260) (y:=vi) (by rw [Ro,wT q];rfl) ?_
   refine RD f1 FI vi i jj ai a2 h _ z.au cM.2.1 (oi.lay _ _) pO xX _ (λh3 z3 fI o3=>?_)
   have kA:=(st.lay [] h'.low).rM (q.on _ _) (oe.lay _ _) fI o3
   replace fr:=(fr.trans (aQ.lay h' [] h'.low []) (λ_ h=>nomatch h)).trans fI (λB hB=>.inl hB)
   have B1:=hY.trans (Rq pO xX)
   clear q oi oe o3 fI st z
   have z:=z3
   rw [ao h3]
   simp only [aa,seval,ek]
   (rw [aO];with_reducible refine bS (m:=_) ?_ ⟨jj,(f1.set i a2).set jj ai,_,rfl,z,⟨rfl,by omega,kA,B1,fr⟩,bc⟩;omega)
  .simp only [aa,seval,ek]
   obtain ⟨jj,Nx⟩:∃ jj,jj=2*i+1:=⟨_,rfl⟩
   rw [<- Nx] at pM ⊢
   have Nz:jj < m:=by omega
   have dF:i < jj:=by omega
   simp only [aa,seval,uL]
   obtain ⟨⟨vi,ve,q,oi,oe⟩,_,_,cM,_⟩:=id st
   refine uS (f:=257) (y:=vi) (by rw [Rn,wT q];rfl) ?_
   refine Rw f1 FI vi jj i a1 ai _ (oi.lay _ _) pM pO _ (λh' x=>?_)
   (replace z:=z.aj x;replace st:=st.over x;replace fr:=fr.over x;rw [ao h'])
   clear q oi oe
   obtain ⟨⟨vi,ve,q,oi,oe⟩,_,_,cM,_⟩:=id st
   rcases Decidable.em (a1 < ai) with hd|hd
   rotate_left
   .rw [uW hd]
    simp only [aa,seval,ek]
    (with_reducible apply bI);(· rfl)
    simp only [aa,seval,ek]
    rw [uZ (by decide)]
    simp only [aa,seval,ek]
    rw [Hv]
    simp only [aa,seval,ek]
    exact hk _ f1 _ z.au (fr.trans (aQ.lay _ _ _ []) (λ_ h=>nomatch h)) (st.lay _ _) hY
   rw [sY hd]
   simp only [aa,seval,ek]
   (with_reducible apply bI);(· rfl)
   simp only [aa,seval,ek,uL]
   refine uS (f:=260) (y:=vi) (by rw [Ro,wT q];rfl) ?_
   refine RD f1 FI vi i jj ai a1 h _ z.au cM.2.1 (oi.lay _ _) pO pM _ (λh3 z3 fI o3=>?_)
   have kA:=(st.lay [] h'.low).rM (q.on _ _) (oe.lay _ _) fI o3
   replace fr:=(fr.trans (aQ.lay h' [] h'.low []) (λ_ h=>nomatch h)).trans fI (λB hB=>.inl hB)
   have B1:=hY.trans (Rq pO pM)
   clear q oi oe o3 fI st z
   have z:=z3
   rw [ao h3]
   simp only [aa,seval,ek]
   (rw [aO];with_reducible refine bS (m:=_) ?_ ⟨jj,(f1.set i a1).set jj ai,_,rfl,z,⟨rfl,by omega,kA,B1,fr⟩,bc⟩;omega)
 .clear q oi oe
  simp only [aa,seval,ek]
  obtain ⟨jj,Nx⟩:∃ jj,jj=2*i+1:=⟨_,rfl⟩
  rw [<- Nx] at pM ⊢
  have Nz:jj < m:=by omega
  have dF:i < jj:=by omega
  simp only [aa,seval,uL]
  obtain ⟨⟨vi,ve,q,oi,oe⟩,_,_,cM,_⟩:=id st
  refine uS (f:=257) (y:=vi) (by rw [Rn,wT q];rfl) ?_
  refine Rw f1 FI vi jj i a1 ai _ (oi.lay _ _) pM pO _ (λh' x=>?_)
  (replace z:=z.aj x;replace st:=st.over x;replace fr:=fr.over x;rw [ao h'])
  clear q oi oe
  obtain ⟨⟨vi,ve,q,oi,oe⟩,_,_,cM,_⟩:=id st
  rcases Decidable.em (a1 < ai) with hd|hd
  rotate_left
  .rw [uW hd]
   simp only [aa,seval,ek]
   (with_reducible apply bI);(· rfl)
   simp only [aa,seval,ek]
   rw [uZ (by decide)]
   simp only [aa,seval,ek]
   rw [Hv]
   simp only [aa,seval,ek]
   exact hk _ f1 _ z.au (fr.trans (aQ.lay _ _ _ []) (λ_ h=>nomatch h)) (st.lay _ _) hY
  rw [sY hd]
  simp only [aa,seval,ek]
  (with_reducible apply bI);(· rfl)
  simp only [aa,seval,ek,uL]
  refine uS (f:=260) (y:=vi) (by rw [Ro,wT q];rfl) ?_
  refine RD f1 FI vi i jj ai a1 h _ z.au cM.2.1 (oi.lay _ _) pO pM _ (λh3 z3 fI o3=>?_)
  have kA:=(st.lay [] h'.low).rM (q.on _ _) (oe.lay _ _) fI o3
  replace fr:=(fr.trans (aQ.lay h' [] h'.low []) (λ_ h=>nomatch h)).trans fI (λB hB=>.inl hB)
  have B1:=hY.trans (Rq pO pM)
  clear q oi oe o3 fI st z
  have z:=z3
  rw [ao h3]
  simp only [aa,seval,ek]
  (rw [aO];with_reducible refine bS (m:=_) ?_ ⟨jj,(f1.set i a1).set jj ai,_,rfl,z,⟨rfl,by omega,kA,B1,fr⟩,bc⟩;omega)
theorem ztb (x:ae):JL aA 3 x=some (.iface 3 x):=by kernel_rfl
theorem zxq (x:ae):JL aA 181 x=some (.iface 181 x):=by kernel_rfl
theorem zom (n:Int):RL aA (.iface 3 (.int .i64 n)) 3 true=some (.tuple #[.int .i64 n,.bool true]):=by kernel_rfl
theorem zBB:cN aA 170=some 1:=by kernel_rfl
theorem zvh (h hc:Heap) (z:Ext h hc) (T0 FI FE FM:Nat) (free:List Int) (aY:List fp) (kv:List (aB × ae)) (n:Nat) (last:Int) (st:eQ h.size hc T0 FI FE FM free aY kv) (hn:free.length=n+1) (hl:free[n]? = some last) (K:aG) (hk:∀ h',Ext h h'->aQ [T0] hc h'->eQ h.size h' T0 FI FE FM (free.take n) aY kv->K (.iface 3 (.int .i64 last)) h'):Ok prog aA ov 258 [.pointer (some ⟨T0,0,none⟩)] hc K:=by
 obtain ⟨⟨vi,ve,q,oi,oe⟩,mm,ba,cM,j5⟩:=id st
 have hle:=oi.nF
 have cO:=λ(hh:Heap)=>oi.bt CX hh
 have hw:IntKind.i64.wrap (((free.length:Nat):Int) - 1)=(n:Int):=by rw [wrap_i64 (by omega) (by omega)];omega
 have iD:=oi.ix (kd:=.i64) (i:=n) CX ze (by omega)
 have ci:=oi.qW hl rfl
 obtain ⟨v2,gr,o2⟩:=oi.pop (kd:=.i64) (n:=n) (by decide) CX ze (by omega) (by intro e;rw [e] at hn;simp at hn)
 have jy:∀ (h:Heap) (K:aG),aD (some vi) h K=K vi h:=λ_ _=>rfl
 have rF:∀ (h:Heap) (K:aG),aD (some v2) h K=K v2 h:=λ_ _=>rfl
 have Ak:∀ (n:Int) (h:Heap) (K:aG),aD (some (.int .i64 n)) h K=K (.int .i64 n) h:=λ_ _ _=>rfl
 have Cc:∀ (x:ae) (h:Heap) (K:aG),aD (some (.iface 3 x)) h K=K (.iface 3 x) h:=λ_ _ _=>rfl
 rw [ao hc]
 refine Ok.aq 28 (bm LX) ?_
 simp only [aa,seval,Mt,q.lay,jy,cO,hw,iD,ci,Ak,gr,rF]
 obtain ⟨xa,xn,xc,rfl⟩:=o2.shape
 refine CH q zBB rfl rfl (by simp) rfl (λh3 q3 c3=>?_)
 replace q3:Holds h3 T0 (.row [.slice xa xn xc,ve,.map (some FM)] 176 false):=q3
 have z3:=z.cx c3 cM.1 (by omega)
 have fI:aQ [T0] hc h3:=(aQ.refl [T0] hc).iW c3 (.inl (by simp))
 have kA:=st.O1 fI q3 o2 oe
 clear z
 have z:=z3
 rw [ao h3]
 simp only [aa,seval,Mt,ztb,Cc,zec]
 exact hk _ z.au (fI.trans (aQ.lay _ _ _ []) (λ_ h=>nomatch h)) (kA.lay _ _)
theorem zyv {l:List Int} {n:Nat} {x:Int} (hn:l.length=n+1) (hl:l[n]? = some x):l.Perm (x::l.take n):=by
 have e:l=l.take n++[x]:=by
  have h1:=(qo n l).symm
  rw [C0 (by omega),(dz.1 hl).2,zE (by omega)] at h1
  exact h1
 conv=>lhs;rw [e]
 exact List.perm_append_singleton x (l.take n)
theorem zvf (h hc:Heap) (z:Ext h hc) (T0 FI FE FM:Nat) (free:List Int) (aY:List fp) (kv:List (aB × ae)) (n:Nat) (st:eQ h.size hc T0 FI FE FM free aY kv) (hn:free.length=n+1) (K:aG) (hk:∀ h' x rest,Ext h h'->aQ [T0,FI] hc h'->eQ h.size h' T0 FI FE FM rest aY kv->free.Perm (x::rest)->K (.iface 3 (.int .i64 x)) h'):Ok prog aA ov 122 [IW T0] hc K:=by
 obtain ⟨⟨vi,ve,q,oi,oe⟩,mm,ba,cM,j5⟩:=id st
 have hle:=oi.nF
 have hw:IntKind.i64.wrap (((free.length:Nat):Int) - 1)=(n:Int):=by rw [wrap_i64 (by omega) (by omega)];omega
 obtain ⟨a,ha,ID⟩:=eb (l:=free) (i:=0) (by omega)
 obtain ⟨b,hb,nW⟩:=eb (l:=free) (i:=n) (by omega)
 rw [ao hc]
 refine Ok.aq 14 (bm KE) ?_
 simp only [aa,seval,xz,uL]
 refine uS (f:=121) (y:=vi) (by rw [zth,wT q];rfl) ?_
 refine zrV free FI vi _ (oi.lay _ _) _ (λh' x=>?_)
 have fr:aQ [T0,FI] hc h':=(aQ.refl [T0,FI] hc).over x
 (replace z:=z.aj x;replace st:=st.over x;rw [ao h'])
 clear q oi oe mm
 obtain ⟨⟨vi,ve,q,oi,oe⟩,mm,_,_,_⟩:=id st
 simp only [aa,seval,xz,uL,hw]
 refine uS (f:=260) (y:=vi) (by rw [Ro,wT q];rfl) ?_
 refine RD free FI vi 0 n a b h _ z.au cM.2.1 (oi.lay _ _) ID nW _ (λh3 z3 fI o3=>?_)
 have kA:=(st.lay [] h'.low).rM (q.on _ _) (oe.lay _ _) fI o3
 replace fr:=(fr.trans (aQ.lay h' [] h'.low []) (λ_ h=>nomatch h)).trans fI (λB hB=>.inl (by rw [iq.1 hB];simp))
 have B1:=Rq ID nW
 have BQ:((free.set 0 b).set n a).length=n+1:=by rw [nU,nU];exact hn
 clear q oi oe o3 fI st z mm
 have z:=z3
 rw [ao h3]
 simp only [aa,seval,xz]
 refine zz8 h _ z.au T0 FI FE FM _ aY kv n (kA.lay _ _) (by omega) _ (λh4 f4 bb z4 jm Ee IM=>?_)
 replace fr:=(fr.trans (aQ.lay h3 [] h3.low []) (λ_ h=>nomatch h)).trans jm (λB hB=>.inl (by rw [iq.1 hB];simp))
 have yv:=IM.length_eq
 obtain ⟨c,tz,Nb⟩:=eb (l:=f4) (i:=n) (by omega)
 clear z z3 kA
 have z:=z4
 rw [ao h4]
 simp only [aa,seval,xz,uL]
 refine uS (f:=258) (y:=.pointer (some ⟨T0,0,none⟩)) (by rw [zzZ]) ?_
 refine zvh h _ z.au T0 FI FE FM f4 aY kv n c (Ee.lay _ _) (by omega) Nb _ (λh5 z5 nV zc=>?_)
 replace fr:=(fr.trans (aQ.lay h4 [] h4.low []) (λ_ h=>nomatch h)).trans nV (λB hB=>.inl (by rw [iq.1 hB];simp))
 clear z z4
 have z:=z5
 rw [ao h5]
 simp only [aa,seval,xz]
 exact hk _ c _ z.au (fr.trans (aQ.lay _ _ _ []) (λ_ h=>nomatch h)) (zc.lay _ _) ((B1.trans IM).trans (zyv (by omega) Nb))
theorem zDd:rW aA 170 170=true:=by kernel_rfl
theorem zrU (h hc:Heap) (z:Ext h hc) (T0 FI FE FM:Nat) (free:List Int) (aY:List fp) (kv:List (aB × ae)) (n:Int) (st:eQ h.size hc T0 FI FE FM free aY kv) (hn:free.length < 800000000) (K:aG) (hk:∀ h' I2,Ext h h'->aQ [T0,FI] hc h'->eQ h.size h' T0 I2 FE FM (free++[n]) aY kv->(I2=FI\/hc.size<=I2)->K undef h'):Ok prog aA ov 259 [.pointer (some ⟨T0,0,none⟩),.iface 3 (.int .i64 n)] hc K:=by
 obtain ⟨⟨vi,ve,q,oi,oe⟩,mm,ba,cM,j5⟩:=id st
 have jy:∀ (h:Heap) (K:aG),aD (some vi) h K=K vi h:=λ_ _=>rfl
 have Ak:∀ (n:Int) (h:Heap) (K:aG),aD (some (.int .i64 n)) h K=K (.int .i64 n) h:=λ_ _ _=>rfl
 rw [ao hc]
 refine Ok.aq 20 (bm LY) ?_
 have hvt:∀ (a:Array ae) (h:Heap) (K:aG),aD (some (.tuple a)) h K=K (.tuple a) h:=λ_ _ _=>rfl
 simp only [aa,seval,Fu,ziz,zom,hvt,Ak,q.lay,jy,ja,zDd]
 refine cJ.app (x:=n) (j:=0) zfC rfl (by decide) CX zqr oi rfl (by omega) (by omega) (λv3 h3 I3 o3 lp _ tA=>?_)
 have c3:=tA j5.2.1
 have z3:=z.cx c3 cM.2.1 (by omega)
 have fI:aQ [FI] hc h3:=(aQ.refl [FI] hc).iW c3 (.inl (by simp))
 have q3:=q.bj c3 ba.1
 have mi:=c3.size
 rw [bf] at mi
 obtain ⟨xa,xn,xc,rfl⟩:=o3.shape
 have anl:I3 < h3.size:=o3.lt (by simp)
 clear z
 have z:=z3
 rw [ao h3]
 simp only [aa,seval,Fu]
 refine CH q3 zBB rfl rfl (by simp) rfl (λh4 q4 c4=>?_)
 replace q4:Holds h4 T0 (.row [.slice xa xn xc,ve,.map (some FM)] 176 false):=q4
 have z4:=z.cx c4 cM.1 (by omega)
 have XK:I3≠T0:=by
  rcases lp with e|e
  .rw [e.1];exact Ne.symm ba.1
  .rw [e,bf];omega
 have jm:aQ [T0,FI] hc h4:=(fI.mono (λB hB=>by rw [iq.1 hB];simp)).iW c4 (.inl (by simp))
 have uG:=c4.size
 rw [bf] at uG
 have MV:I3=FI\/hc.size<=I3:=by
  rcases lp with e|e
  .exact .inl e.1
  .right;rw [e,bf];omega
 have Ee:=st.Hj jm MV (by simp only [dr] at uG;omega) q4 (o3.bj c4 XK) oe
 clear z z3
 have z:=z4
 rw [ao h4]
 simp only [aa,seval,Fu]
 exact hk _ I3 z.au (jm.trans (aQ.lay _ _ _ []) (λ_ h=>nomatch h)) (Ee.lay _ _) MV
theorem zrT (h hc:Heap) (z:Ext h hc) (T0 FI FE FM:Nat) (free:List Int) (aY:List fp) (kv:List (aB × ae)) (n:Int) (st:eQ h.size hc T0 FI FE FM free aY kv) (hn:free.length < 800000000) (K:aG) (hk:∀ h' I2 f2,Ext h h'->aQ [T0,FI] hc h'->eQ h.size h' T0 I2 FE FM f2 aY kv->(I2=FI\/hc.size<=I2)->f2.Perm (n::free)->K undef h'):Ok prog aA ov 124 [IW T0,.iface 3 (.int .i64 n)] hc K:=by
 have hw:IntKind.i64.wrap ((((free++[n]).length:Nat):Int) - 1)=(free.length:Int):=by rw [cW,sW,wrap_i64 (by omega) (by omega)];omega
 rw [ao hc]
 refine Ok.aq 10 (bm KG) ?_
 simp only [aa,seval,Bd,uL]
 refine uS (f:=259) (y:=.pointer (some ⟨T0,0,none⟩)) (by rw [zxI]) ?_
 refine zrU h _ z.au T0 FI FE FM free aY kv n (st.lay _ _) hn _ (λh3 I3 z3 fI kA lp=>?_)
 have fr:aQ [T0,FI] hc h3:=(aQ.lay hc [] hc.low [T0,FI]).trans fI (λB hB=>.inl hB)
 have hI:I3=FI\/hc.size<=I3:=lp.imp id (λe=>by rw [bf] at e;omega)
 clear z st fI
 have z:=z3
 have st:=kA
 clear z3 kA
 rw [ao h3]
 obtain ⟨⟨vi,ve,q,oi,oe⟩,mm,_,_,_⟩:=id st
 simp only [aa,seval,Bd,uL]
 refine uS (f:=121) (y:=vi) (by rw [zth,wT q];rfl) ?_
 refine zrV _ I3 vi _ (oi.lay _ _) _ (λh' x=>?_)
 (replace z:=z.aj x;replace st:=st.over x;replace fr:=fr.over x;rw [ao h'])
 clear q oi oe mm
 simp only [aa,seval,Bd,hw]
 refine zEa h _ z.au T0 I3 FE FM _ aY kv free.length (st.lay _ _) (by rw [cW,sW];omega) _ (λh4 f4 z4 jm Ee IM=>?_)
 have frf:aQ [T0,FI] hc h4:=(fr.trans (aQ.lay h' [] h'.low []) (λ_ h=>nomatch h)).trans jm (λB hB=>by
  rw [iq.1 hB]
  exact hI.imp (λe=>by rw [e];simp) id)
 clear z
 have z:=z4
 rw [ao h4]
 simp only [aa,seval,Bd]
 exact hk _ I3 f4 z.au (frf.trans (aQ.lay _ _ _ []) (λ_ h=>nomatch h)) (Ee.lay _ _) hI ((IM.symm).trans (List.perm_append_singleton n free))
theorem oQ (A:Nat) (h:Heap) (K:aG):aD (some (.map (some A))) h K=K (.map (some A)) h:=rfl
theorem wD (x):bY prog aA .eql 95 (.pointer (some x)) (.pointer none)=some (.bool false):=by kernel_rfl
theorem neT (x):bY prog aA .neq 95 (.pointer (some x)) (.pointer none)=some (.bool true):=by kernel_rfl
theorem Sd:aA.desc 174=some (.map 9 3):=by kernel_rfl
theorem C6:aA.desc 9=some .string:=by kernel_rfl
theorem Ia:aA.zero 3=some (.int .i64 0):=by kernel_rfl
theorem HW:aA.desc 173=some (.slice 178):=by kernel_rfl
theorem JP:cN aA 178=some 2:=by kernel_rfl
theorem zAe (t:aB) (r:Option Nat) (h:Heap) (T0 FI FE FM N:Nat) (free:List Int) (aY:List fp) (kv:List (aB × ae)) (st:eQ N h T0 FI FE FM free aY kv) (hr:dV kv t=r.map λi=>.int .i64 (i:Int)) (K:aG) (hk:∀ h',Ext h h'->K (.tuple #[.int .i64 ((r.getD 0:Nat):Int),.bool r.isSome]) h'):Ok prog aA ov 75 [.pointer (some ⟨T0,0,none⟩),.string t] h K:=by
 obtain ⟨⟨vi,ve,q,oi,oe⟩,mm,ba,cM,j5⟩:=st
 have z:=Ext.refl h
 rw [ao h]
 refine Ok.aq 19 (bm N75) ?_
 simp only [aa,seval,V6,oQ,wD,q.lay,CL]
 refine Jh mm Sd C6 Ia ?_
 rw [hr]
 cases r with
 |none =>
  simp only [Option.map_none,Option.getD_none,R2,if_true] at hk ⊢
  simp only [aa,seval,V6]
  exact hk _ z.au
 |some i =>
  simp only [jZ,J3,J0,if_true] at hk ⊢
  simp only [aa,seval,V6]
  exact hk _ z.au
theorem _root_.Go.Am.cJ.gE {Z:Type} {k:Nat} {cell:Z->List ae} {h1:Heap} {u:TypeId} {A i j:Nat} {v:ae} {l:List Z} {x:ae} {y:Z} (f:cJ k cell h1 u A v l) (hx:l[i]? = some y) (hj:j < k) (hc:(cell y)[j]? = some x) (bs:List bh) (w:Nat):Kf ((h1.lay bs w).get A) (i*k+j)=some x:=by
 obtain ⟨row,q,c⟩:=f.row hx
 have hg:=q.lay bs w
 rw [hg]
 unfold cut at c
 split at c
 .simp only [dY] at c
  show row[i*k+j]? = some x
  have:=congrArg (λl=>l[j]?) c
  simp only [lX,lA,aE hj,hc] at this
  exact this
 .cases c
theorem zCV (n:Nat) (x:fp) (h:Heap) (T0 FI FE FM N:Nat) (free:List Int) (aY:List fp) (kv:List (aB × ae)) (st:eQ N h T0 FI FE FM free aY kv) (hx:aY[n]? = some x) (K:aG) (hk:∀ h',Ext h h'->K (.bool (decide (0 < x.2))) h'):Ok prog aA ov 123 [.pointer (some ⟨T0,0,none⟩),.int .i64 n] h K:=by
 obtain ⟨⟨vi,ve,q,oi,oe⟩,mm,ba,cM,j5⟩:=st
 have z:=Ext.refl h
 have cO:=λ(hh:Heap)=>oe.bt HW hh
 have jt:=(dz.1 hx).1
 have iD:=oe.ix (kd:=.i64) (i:=n) HW JP jt
 have c1:=oe.gE (j:=1) hx (by omega) rfl
 have jy:∀ (h:Heap) (K:aG),aD (some ve) h K=K ve h:=λ_ _=>rfl
 rw [ao h]
 refine Ok.aq 29 (bm KF) ?_
 simp only [aa,seval,xA,neT]
 refine bg (λ_=>?_) (λhn=>absurd hn (by omega))
 simp only [aa,seval,xA,q.lay,jy,cO]
 refine bg (λ_=>?_) (λhn=>absurd hn (by omega))
 simp only [aa,seval,xA,q.lay,jy,iD,c1]
 rw [Hv]
 simp only [aa,seval,xA]
 rw [Hv]
 simp only [aa,seval,xA]
 exact hk _ z.au
theorem zm2:∀ (n:Nat) (l:List Int),l.Nodup->(∀ x∈l,0<=x/\x < n)->l.length<=n
 |0,l,_,h=>by
  cases l with
  |nil=>exact bo _
  |cons a l=>have:=h a lj;omega
 |n+1,l,hn,h=>by
  by_cases hm:(n:Int)∈l
  .have h1:=zm2 n (l.erase n) (hn.erase _) (λx hx=>by
    have h2:=h x (List.mem_of_mem_erase hx)
    have h3:x≠n:=λe=>by rw [e] at hx;exact (List.Nodup.not_mem_erase hn) hx
    omega)
   rw [List.length_erase_of_mem hm] at h1
   omega
  .have h1:=zm2 n l hn (λx hx=>by
    have h2:=h x hx
    have h3:x≠n:=λe=>hm (e ▸ hx)
    omega)
   omega
theorem _root_.Go.Am.dg.uv {free:List Int} {aY:List fp} {kv:List (aB × ae)} {us:aB->Nat} (p:dg free aY kv us):free.length<=aY.length :=
 zm2 _ _ p.nd (λx hx=>by obtain ⟨i,rfl,hi⟩:=p.fr x hx;omega)
theorem aaM (s:aB) (h:Heap) (K:aG):aD (some (.string s)) h K=K (.string s) h:=rfl
theorem O2 (t:TypeId) (x:ae) (h:Heap) (K:aG):aD (some (.iface t x)) h K=K (.iface t x) h:=rfl
theorem L7:od aA 178 []=some (.agg #[.string ByteArray.empty,.int .i64 0]):=by kernel_rfl
theorem zAa (h hc:Heap) (z:Ext h hc) (T0 FI FE FM:Nat) (free:List Int) (aY:List fp) (kv:List (aB × ae)) (us:aB->Nat) (t:aB) (i:Nat) (st:eQ h.size hc T0 FI FE FM free aY kv) (p:dg free aY kv us) (hl:dV kv t=some (.int .i64 (i:Int))) (uA:aY.length < 800000000) (kV:us t < 1000000000000) (K:aG)
 (hk:∀ h' I2 f2 e2 Ci,Ext h h'->aQ [T0,FI,FE,FM] hc h'->eQ h.size h' T0 I2 FE FM f2 e2 Ci->dg f2 e2 Ci (ia us t (us t - 1))->(I2=FI\/hc.size<=I2)->e2.length=aY.length->K (.int .i64 0) h'):Ok prog aA ov 76 [.pointer (some ⟨T0,0,none⟩),.int .i64 i] hc K:=by
 obtain ⟨j,hj,Ce⟩:=p.num hl
 have dF:i=j:=by cases hj;rfl
 subst dF
 clear hj
 have jS:=p.pos hl
 have so:=p.uv
 have jt:=(dz.1 Ce).1
 have hw:IntKind.i64.wrap (((us t:Nat):Int) - 1)=((us t - 1:Nat):Int):=by rw [wrap_i64 (by omega) (by omega)];omega
 obtain ⟨⟨vi,ve,q,oi,oe⟩,mm,ba,cM,j5⟩:=id st
 have iD:=oe.ix (kd:=.i64) (i:=i) HW JP jt
 have c1:=oe.gE (j:=1) Ce (by omega) rfl
 have jy:∀ (h:Heap) (K:aG),aD (some ve) h K=K ve h:=λ_ _=>rfl
 rw [ao hc]
 refine Ok.aq 57 (bm N76) ?_
 simp only [aa,seval,wA,wD]
 refine zCV i _ _ T0 FI FE FM h.size free aY kv (st.lay _ _) Ce _ (λh' x=>?_)
 rw [sY (by show (0:Int) < (us t:Nat);omega)]
 have fr:aQ [T0,FI,FE,FM] hc h':=(aQ.refl [T0,FI,FE,FM] hc).over x
 replace st:=st.over x
 replace q:=q.over x
 replace oe:=oe.over x
 clear c1
 have c1:=oe.gE (j:=1) Ce (by omega) rfl
 replace oi:=oi.over x
 replace mm:=mm.over x
 (replace z:=z.aj x;rw [ao h'])
 simp only [aa,seval,wA]
 (with_reducible apply bI);(· rfl)
 simp only [aa,seval,wA,q.lay,jy,iD,c1,hw]
 refine cJ.store (off:=1) (y:=(t,((us t - 1:Nat):Int))) Q4 oe Ce ze (by omega) rfl rfl rfl rfl (λh3 wM c3=>?_)
 have z3:=z.cx c3 cM.2.2.1 (by omega)
 have B7:=fr.size
 have fI:aQ [T0,FI,FE,FM] hc h3:=fr.iW c3 (.inl (by simp))
 have q3:=q.bj c3 ba.2.1
 have Ec:=oi.bj c3 ba.2.2.2.1
 have Eb:=mm.bj c3 (Ne.symm ba.2.2.2.2.2)
 have mi:=fI.size
 clear z q oi oe mm c1 fr
 have z:=z3
 have G1:(aY.set i (t,((us t - 1:Nat):Int)))[i]? = some (t,((us t - 1:Nat):Int)):=by rw [sX,aE rfl,aE jt]
 have c1:=wM.gE (j:=1) G1 (by omega) rfl
 have c0:=wM.gE (j:=0) G1 (by omega) rfl
 rw [ao h3]
 simp only [aa,seval,wA,q3.lay,jy,iD,c1]
 refine lz (λheq=>?_) (λaov=>?_)
 .simp only [aa,seval,wA]
  with_reducible first|refine cZ (by simp only [wA]) z.au ?_
  simp only [aa,seval,wA,oQ,q3.lay,jy,iD,c0,zBg]
  refine zw1 Eb Sd C6 (λh4 m4 c4=>?_)
  have hz:=z.size
  refine mW (A:=FM) (by kernel_rfl) (by rw [bf];omega) (by omega) (by simpa only [bG,bf,bu,de,dr,jh] using c4) ?_
  have z4:=(z.je [] (h3.size+0) (by omega)).step c4 cM.2.2.2
  have jm:aQ [T0,FI,FE,FM] hc h4:=fI.iW c4 (.inl (by simp))
  have q4:=q3.bj c4 ba.2.2.1
  have TN:=Ec.bj c4 ba.2.2.2.2.1
  have TM:=wM.bj c4 ba.2.2.2.2.2
  clear z q3 Ec wM Eb c1 c0
  have z:=z4
  rw [ao h4]
  simp only [cR,seval,wA]
  ((with_reducible refine ⟨z.bZ.lay _ _,?_⟩);(intro _ h' zz x _);(simp only [bG,bu] at x))
  replace q4:=q4.over x
  replace TN:=TN.over x
  replace TM:=TM.over x
  replace m4:=m4.over x
  replace jm:=jm.over x
  replace z:=zz
  rw [ao h']
  simp only [aa,seval,wA,q4.lay,jy,iD,L7]
  have ZL:(aY.set i (t,((us t - 1:Nat):Int)))[i]? = some (t,((us t - 1:Nat):Int)):=G1
  refine cJ.qi (y:=(ByteArray.empty,0)) Q4 TM ZL JP (by omega) rfl rfl rfl rfl (λh5 ON c5=>?_)
  have uG:=jm.size
  have z5:=z.cx c5 cM.2.2.1 (by omega)
  have nV:aQ [T0,FI,FE,FM] hc h5:=jm.iW c5 (.inl (by simp))
  have q5:=q4.bj c5 ba.2.1
  have TO:=TN.bj c5 ba.2.2.2.1
  have m5:=m4.bj c5 (Ne.symm ba.2.2.2.2.2)
  have Ag:=nV.size
  clear z q4 TN TM m4 jm z3 z4 fI
  have z:=z5
  rw [List.set_set] at ON
  have zc:eQ h.size h5 T0 FI FE FM free (aY.set i (ByteArray.empty,0)) (nh kv t):=⟨⟨vi,ve,q5,TO,ON⟩,m5,ba,cM,⟨by omega,by omega,by omega,by omega⟩⟩
  have p5:=p.gone hl (ByteArray.empty,0)
  rw [ao h5]
  simp only [aa,seval,wA,ztb,zxq,O2,zec]
  refine zrT h _ z.au T0 FI FE FM free _ _ (i:Int) (zc.lay _ _) (by omega) _ (λh6 I2 f2 z6 q8 st6 hI hp6=>?_)
  replace nV:=(nV.trans (aQ.lay h5 [] h5.low []) (λ_ h=>nomatch h)).trans q8 (λB hB=>.inl (by rcases dG.1 hB with rfl|hB;simp;rw [iq.1 hB];simp))
  have p6:=p5.perm hp6.symm
  rw [show (0:Nat)=us t - 1 by omega] at p6
  have hI6:I2=FI\/hc.size<=I2:=hI.imp id (λe=>by rw [bf] at e;omega)
  clear z z5
  have z:=z6
  rw [ao h6]
  simp only [aa,seval,wA]
  exact hk _ I2 f2 _ _ z.au (nV.trans (aQ.lay _ _ _ []) (λ_ h=>nomatch h)) (st6.lay _ _) p6 hI6 (by rw [nU])
 .simp only [aa,seval,wA]
  have kA:eQ h.size h3 T0 FI FE FM free (aY.set i (t,((us t - 1:Nat):Int))) kv:=⟨⟨vi,ve,q3,Ec,wM⟩,Eb,ba,cM,⟨by omega,by omega,by omega,by omega⟩⟩
  exact hk _ FI free _ _ z.au (fI.trans (aQ.lay _ _ _ []) (λ_ h=>nomatch h)) (kA.lay _ _) (p.turn hl (m:=us t - 1) (by omega)) (.inl rfl) (by rw [nU])
theorem zDe:rW aA 173 173=true:=by kernel_rfl
theorem zEp:cN aA 173=some 1:=by kernel_rfl
theorem VT (t:aB):od aA 178 [(0,.string t),(1,.int .i64 1)]=some (.agg #[.string t,.int .i64 1]):=by kernel_rfl
theorem aaN (a:Array ae) (h:Heap) (K:aG):aD (some (.tuple a)) h K=K (.tuple a) h:=rfl
theorem zAm (h hc:Heap) (z:Ext h hc) (T0 FI FE FM:Nat) (free:List Int) (aY:List fp) (kv:List (aB × ae)) (us:aB->Nat) (t:aB) (st:eQ h.size hc T0 FI FE FM free aY kv) (p:dg free aY kv us) (ht:t.size≠0) (ht2:t.size<=255) (kF:kv.length < 65536) (uA:aY.length < 700000000) (kV:us t < 1000000000000) (K:aG)
 (hk:∀ h' n I2 E2 f2 e2 Ci,Ext h h'->aQ [T0,FI,FE,FM] hc h'->eQ h.size h' T0 I2 E2 FM f2 e2 Ci->dg f2 e2 Ci (ia us t (us t+1))->(I2=FI\/hc.size<=I2)->(E2=FE\/hc.size<=E2)->e2.length<=aY.length+1->K (.tuple #[.int .i64 n,.int .i64 0]) h'):Ok prog aA ov 73 [.pointer (some ⟨T0,0,none⟩),.string t] hc K:=by
 have so:=p.uv
 obtain ⟨⟨vi,ve,q,oi,oe⟩,mm,ba,cM,j5⟩:=id st
 have jy:∀ (h:Heap) (K:aG),aD (some ve) h K=K ve h:=λ_ _=>rfl
 have Cc:∀ (h:Heap) (K:aG),aD (some vi) h K=K vi h:=λ_ _=>rfl
 have Gy:=λ(b:List bh) (w:Nat)=>Z3 (bs:=b) (w:=w) mm Sd
 have hle:=λ(hh:Heap)=>oe.bt HW hh
 rw [ao hc]
 refine Ok.aq 94 (bm N73) ?_
 simp only [aa,seval,pG,wD]
 refine bg (λhe=>absurd (by rw [he];rfl) ht) (λ_=>?_)
 simp only [aa,seval,pG]
 refine bg (λhe=>absurd he (by omega)) (λ_=>?_)
 simp only [aa,seval,pG,oQ,q.lay,CL]
 refine Jh mm Sd C6 Ia ?_
 cases hl:dV kv t with
 |some v =>
  obtain ⟨i,rfl,Ce⟩:=p.num hl
  have jt:=(dz.1 Ce).1
  have iD:=oe.ix (kd:=.i64) (i:=i) HW JP jt
  have c1:=oe.gE (j:=1) Ce (by omega) rfl
  have hw:IntKind.i64.wrap (((us t:Nat):Int)+1)=((us t+1:Nat):Int):=by rw [wrap_i64 (by omega) (by omega)];omega
  simp only [J3,J0,if_true]
  simp only [aa,seval,pG,q.lay,jy,iD,c1,hw]
  refine cJ.store (off:=1) (y:=(t,((us t+1:Nat):Int))) Q4 oe Ce ze (by omega) rfl rfl rfl rfl (λh3 wM c3=>?_)
  have z3:=z.cx c3 cM.2.2.1 (by omega)
  have fI:aQ [T0,FI,FE,FM] hc h3:=(aQ.refl _ hc).iW c3 (.inl (by simp))
  have q3:=q.bj c3 ba.2.1
  have Ec:=oi.bj c3 ba.2.2.2.1
  have Eb:=mm.bj c3 (Ne.symm ba.2.2.2.2.2)
  have mi:=fI.size
  clear z q oi oe mm c1
  have z:=z3
  rw [ao h3]
  simp only [aa,seval,pG]
  have kA:eQ h.size h3 T0 FI FE FM free (aY.set i (t,((us t+1:Nat):Int))) kv:=⟨⟨vi,ve,q3,Ec,wM⟩,Eb,ba,cM,⟨by omega,by omega,by omega,by omega⟩⟩
  exact hk _ _ FI FE free _ _ z.au (fI.trans (aQ.lay _ _ _ []) (λ_ h=>nomatch h)) (kA.lay _ _) (p.turn hl (m:=us t+1) (by omega)) (.inl rfl) (.inl rfl) (by rw [nU];omega)
 |none =>
  have hzu:=p.zero hl
  simp only [Option.getD_none,R2,if_true]
  simp only [aa,seval,pG,oQ,q.lay,Gy]
  refine bg (λhe=>absurd he (by omega)) (λ_=>?_)
  simp only [aa,seval,pG,q.lay,jy,Cc,hle]
  refine zrV free FI vi _ (oi.lay _ _) _ (λh' x=>?_)
  replace st:=st.over x
  have fr:aQ [T0,FI,FE,FM] hc h':=(aQ.refl [T0,FI,FE,FM] hc).over x
  replace q:=q.over x
  replace oi:=oi.over x
  replace oe:=oe.over x
  replace mm:=mm.over x
  (replace z:=z.aj x;rw [ao h'])
  simp only [aa,seval,pG]
  refine bg (λjS=>?_) (λhzero=>?_)
  focus
   obtain ⟨nf,hnf⟩:∃ nf,free.length=nf+1:=⟨free.length - 1,by omega⟩
   simp only [aa,seval,pG,zxq,O2,zec]
   refine zvf h _ z.au T0 FI FE FM free aY kv nf (st.lay _ _) hnf _ (λhb xx F2 z2 MK st2 Ae=>?_)
   have fI:aQ [T0,FI,FE,FM] hc hb:=(fr.trans (aQ.lay h' [] h'.low []) (λ_ h=>nomatch h)).trans MK (λB hB=>.inl (by rcases dG.1 hB with rfl|hB;simp;rw [iq.1 hB];simp))
   obtain ⟨m,rfl,hm,pp⟩:=p.pop hl Ae
   obtain ⟨E2,FV⟩:∃ E2,E2=FE:=⟨_,rfl⟩
   obtain ⟨e2,ny⟩:∃ e2,e2=aY:=⟨_,rfl⟩
   rw [<- FV,<- ny] at st2
   rw [<- ny] at pp hm
   have hE:E2=FE\/hc.size<=E2:=.inl FV
   have Nk:e2.length<=aY.length+1:=by rw [ny];omega
   clear z fr MK st FV ny Ae q oi oe mm jy Cc ba cM j5
   rw [ao hb]
   simp only [aa,seval,pG,ziz,zom,aaN]
  rotate_left
  focus
   simp only [aa,seval,pG,q.lay,jy,L7,ja,zDe]
   refine cJ.app (x:=(ByteArray.empty,0)) (j:=0) Q4 rfl (by decide) HW zkh oe rfl (by omega) (by omega) (λv3 h3 E2 wM hE3 _ tA=>?_)
   have TC:=fr.size
   have c3:=tA (by omega)
   have z3:=z.cx c3 cM.2.2.1 (by omega)
   have fI:aQ [T0,FI,FE,FM] hc h3:=fr.iW c3 (.inl (by simp))
   have q3:=q.bj c3 ba.2.1
   have Ec:=oi.bj c3 ba.2.2.2.1
   have Eb:=mm.bj c3 (Ne.symm ba.2.2.2.2.2)
   have mi:=c3.size
   rw [bf] at mi
   obtain ⟨xa,xn,xc,rfl⟩:=wM.shape
   have anh:E2 < h3.size:=wM.lt (by simp)
   have hE:E2=FE\/hc.size<=E2:=by
    rcases hE3 with e|e
    .exact .inl e.1
    .right;rw [e,bf];omega
   clear z
   have z:=z3
   rw [ao h3]
   simp only [aa,seval,pG]
   have BV:T0≠E2/\FI≠E2/\E2≠FM:=by
    rcases hE with e|e
    .rw [e];exact ⟨ba.2.1,ba.2.2.2.1,ba.2.2.2.2.2⟩
    .exact ⟨by omega,by omega,by omega⟩
   refine CH q3 zEp rfl rfl (by simp) rfl (λhb q4 c4=>?_)
   replace q4:Holds hb T0 (.row [vi,.slice xa xn xc,.map (some FM)] 176 false):=q4
   have z2:=z.cx c4 cM.1 (by omega)
   have aoK:=fI.size
   replace fI:aQ [T0,FI,FE,FM] hc hb:=fI.iW c4 (.inl (by simp))
   have uG:=c4.size
   rw [bf] at uG
   obtain ⟨F2,XJ⟩:∃ F2,F2=free:=⟨_,rfl⟩
   obtain ⟨e2,ny⟩:∃ e2,e2=aY++[((ByteArray.empty,0):fp)]:=⟨_,rfl⟩
   obtain ⟨m,Ad⟩:∃ m,m=aY.length:=⟨_,rfl⟩
   have st2:eQ h.size hb T0 FI E2 FM F2 e2 kv:=⟨⟨vi,.slice xa xn xc,q4,by rw [XJ];exact Ec.bj c4 (Ne.symm ba.1),by rw [ny];exact wM.bj c4 (Ne.symm BV.1)⟩,Eb.bj c4 (Ne.symm ba.2.2.1),⟨ba.1,BV.1,ba.2.2.1,BV.2.1,ba.2.2.2.2.1,BV.2.2⟩,⟨cM.1,cM.2.1,by rcases hE with e|e;(rw [e];exact cM.2.2.1);(have:=z.size;have:=j5.1;omega),cM.2.2.2⟩,⟨by omega,by omega,by omega,by omega⟩⟩
   have Nk:e2.length<=aY.length+1:=by rw [ny,cW];exact bo _
   have hm:m < e2.length:=by rw [ny,Ad,cW];simp
   have pp:dg F2 (e2.set m (t,1)) (gz kv t (.int .i64 (m:Int))) (ia us t 1):=by rw [ny,Ad,XJ];exact p.more hl _
   rw [<- Ad]
   clear q oi oe mm q3 Ec wM Eb ba cM j5 jy Cc z st fr z3 XJ ny
   rw [ao hb]
   simp only [aa,seval,pG]
  rotate_left
  all_goals
   obtain ⟨⟨vi2,ve2,q,oi,oe⟩,mm,ba,cM,j5⟩:=id st2
   have z:=z2
   clear z2
   obtain ⟨x0,ZK⟩:∃ x0,e2[m]? = some x0:=⟨_,gI hm⟩
   have iD:=oe.ix (kd:=.i64) (i:=m) HW JP hm
   have jy:∀ (h:Heap) (K:aG),aD (some ve2) h K=K ve2 h:=λ_ _=>rfl
   with_reducible first|refine cZ (by simp only [pG]) z.au ?_
   simp only [aa,seval,pG,oQ,VT,q.lay,jy,iD]
   refine cJ.qi (y:=(t,1)) Q4 oe ZK JP (by omega) rfl rfl rfl rfl (λh5 ON c5=>?_)
   have hz:=z.size
   refine mW (A:=E2) (by kernel_rfl) (by rw [bf];omega) (by omega) (by simpa only [bG,bf,bu,de,dr,jh] using c5) ?_
   have z5:=(z.je [] (hb.size+0) (by omega)).step c5 cM.2.2.1
   have nV:aQ [E2] hb h5:=(aQ.refl [E2] hb).iW c5 (.inl (by simp))
   have q5:=q.bj c5 ba.2.1
   have TO:=oi.bj c5 ba.2.2.2.1
   have mm5:=mm.bj c5 (Ne.symm ba.2.2.2.2.2)
   clear z q oi oe mm
   have z:=z5
   rw [ao h5]
   simp only [cR,seval,pG,zwb]
   refine zro mm5 Sd C6 Ia (λh6 xx s bb Yf c6 Yn=>?_)
   have hz:=z.size
   refine mW (A:=FM) (by kernel_rfl) (by rw [bf];omega) (by omega) (by simpa only [bG,bf,bu,de,dr,jh] using c6) ?_
   have z6:=(z.je [] (h5.size+0) (by omega)).step c6 cM.2.2.2
   have q8:aQ [E2,FM] hb h6:=(nV.mono (λB hB=>by rw [iq.1 hB];simp)).iW c6 (.inl (by simp))
   have q6:=q5.bj c6 ba.2.2.1
   have oi6:=TO.bj c6 ba.2.2.2.2.1
   have oe6:=ON.bj c6 ba.2.2.2.2.2
   clear z q5 TO ON mm5
   have z:=z6
   rw [ao h6]
   simp only [aa,seval,pG,zqx]
   refine Yn _ (Yf.on _ _) _ _ (λh7 m7 c7=>?_)
   have hz:=z.size
   refine mW (A:=FM) (by kernel_rfl) (by rw [bf];omega) (by omega) (by simpa only [bG,bf,bu,de,dr,jh] using c7) ?_
   have z7:=(z.je [] (h6.size+0) (by omega)).step c7 cM.2.2.2
   have wE:aQ [E2,FM] hb h7:=q8.iW c7 (.inl (by simp))
   have q7:=q6.bj c7 ba.2.2.1
   have oi7:=oi6.bj c7 ba.2.2.2.2.1
   have oe7:=oe6.bj c7 ba.2.2.2.2.2
   clear z q6 oi6 oe6
   have z:=z7
   rw [ao h7]
   simp only [cR,seval,pG]
   ((with_reducible refine ⟨z.bZ.lay _ _,?_⟩);(intro _ h8 zz x8 _);(simp only [bG,bu] at x8))
   replace q7:=q7.over x8
   replace oi7:=oi7.over x8
   replace oe7:=oe7.over x8
   replace m7:=m7.over x8
   replace wE:=wE.over x8
   have fr8:aQ [T0,FI,FE,FM] hc h8:=fI.trans wE (λB hB=>by
    rcases dG.1 hB with rfl|hB
    .exact hE.imp (λe=>by rw [e];simp) id
    .rw [iq.1 hB];exact .inl (by simp))
   have IP:=wE.size
   clear z
   have z:=zz
   have st7:eQ h.size h8 T0 FI E2 FM F2 (e2.set m (t,1)) (gz kv t (.int .i64 (m:Int))):=⟨⟨vi2,ve2,q7,oi7,oe7⟩,m7,ba,cM,⟨by omega,by omega,by omega,by omega⟩⟩
   rw [ao h8]
   simp only [aa,seval,pG]
   exact hk _ _ FI E2 F2 _ _ z.au (fr8.trans (aQ.lay _ _ _ []) (λ_ h=>nomatch h)) (st7.lay _ _) (by rw [hzu];exact pp) (.inl rfl) hE (by rw [nU];exact Nk)
end Go.Proofs.YtkgojconmeeegaaGreatDoor
