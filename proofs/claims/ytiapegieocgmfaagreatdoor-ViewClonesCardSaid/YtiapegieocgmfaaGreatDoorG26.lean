/- Texts by numbers, as plain data. No condition. -/
import Derived.Test.YtiapegieocgmfaaGreatDoorG25
import Derived.Test.YtiapegieocgmfaaGreatDoorG21
set_option linter.unusedSimpArgs false
set_option linter.unusedVariables false
set_option maxRecDepth 100000
set_option maxHeartbeats 0
namespace Go.Am
variable {f2:List Int} {ve:ab}
def fP (us:au->Nat) (t:au) (n:Nat):au->Nat:=λx=>if x=t then n else us x
theorem wW (us:au->Nat) (t:au) (n:Nat):fP us t n t=n:=aE rfl
theorem tF {us:au->Nat} {t x:au} {n:Nat} (h:x≠t):fP us t n x=us x:=az h
abbrev fo:=au × Int
def Qo (x:fo):List ab:=[.string x.1,.int .i64 x.2]
theorem PN (x:fo):(Qo x).length=2:=rfl
def Cq (x:Int):List ab:=[.int .i64 x]
theorem zff (x:Int):(Cq x).length=1:=rfl
structure db (free:List Int) (aY:List fo) (kv:List (au × ab)) (us:au->Nat):Prop where
 fr:∀ n∈free,∃ i:Nat,n=(i:Int)/\i < aY.length
 nd:free.Nodup
 kn:(kv.map Prod.fst).Nodup
 val:∀ t v,dE kv t=some v->∃ i:Nat,v=.int .i64 (i:Int)/\aY[i]? = some (t,(us t:Int))/\(i:Int) ∉ free
 has:∀ t,(dE kv t).isSome=true↔0 < us t
section
variable {free rest:List Int} {aY:List fo} {kv:List (au × ab)} {us:au->Nat} {t:au} {v:ab} {n:Int} {i:Nat}
theorem db.empty:db [] [] [] (λ_=>0):=⟨λ_ h=>by simp at h,List.nodup_nil,by simp,λt v h=>by simp [dE] at h,λt=>by simp [dE]⟩
theorem db.perm (p:db free aY kv us) (h:free.Perm rest):db rest aY kv us :=
 ⟨λn hn=>p.fr n (h.mem_iff.2 hn),h.nodup_iff.1 p.nd,p.kn,λt v hv=>(p.val t v hv).imp λi hi=>⟨hi.1,hi.2.1,λhh=>hi.2.2 (h.mem_iff.2 hh)⟩,p.has⟩
theorem db.num (p:db free aY kv us) (h:dE kv t=some v):∃ i:Nat,v=.int .i64 (i:Int)/\aY[i]? = some (t,(us t:Int)):=(p.val t v h).imp λi hi=>⟨hi.1,hi.2.1⟩
theorem db.zero (p:db free aY kv us) (h:dE kv t=none):us t=0:=by
 have:=p.has t
 rw [h] at this
 simp at this
 exact this
theorem db.pos (p:db free aY kv us) (h:dE kv t=some v):0 < us t:=(p.has t).1 (by rw [h];rfl)
theorem db.turn (p:db free aY kv us) (h:dE kv t=some (.int .i64 (i:Int))) {m:Nat} (hm:0 < m):db free (aY.set i (t,(m:Int))) kv (fP us t m):=by
 obtain ⟨j,hj,kQ,hjf⟩:=p.val t _ h
 have dK:i=j:=by cases hj;rfl
 subst dK
 have iX:=(dP.1 kQ).1
 refine ⟨λn hn=>?_,p.nd,p.kn,λt2 v2 h2=>?_,λt2=>?_⟩
 .obtain ⟨q,hq,vz⟩:=p.fr n hn
  exact ⟨q,hq,by rw [nT];exact vz⟩
 .obtain ⟨q,hq,uk,Ah⟩:=p.val t2 v2 h2
  refine ⟨q,hq,?_,Ah⟩
  rw [sA]
  by_cases he:t2=t
  .subst he
   rw [h] at h2
   cases h2
   have:q=i:=by cases hq;rfl
   subst this
   rw [aE rfl,aE iX,wW]
  .rw [az (by rintro rfl;rw [kQ] at uk;cases uk;exact he rfl),tF he]
   exact uk
 .by_cases he:t2=t
  .subst he
   rw [h,wW]
   simp [hm]
  .rw [tF he]
   exact p.has t2
theorem db.fresh {m:Nat} (cW:∀ n∈rest,∃ i:Nat,n=(i:Int)/\i < aY.length) (iG:rest.Nodup) (Sg:(kv.map Prod.fst).Nodup) (ez:∀ t v,dE kv t=some v->∃ i:Nat,v=.int .i64 (i:Int)/\aY[i]? = some (t,(us t:Int))/\(i:Int) ∉ rest/\i≠m) (yq:∀ t,(dE kv t).isSome=true↔0 < us t)
 (hm:m < aY.length) (hmf:(m:Int) ∉ rest) (h:dE kv t=none):db rest (aY.set m (t,1)) (fZ kv t (.int .i64 (m:Int))) (fP us t 1):=by
 refine ⟨λn hn=>?_,iG,Ti Sg t _,λt2 v2 h2=>?_,λt2=>?_⟩
 .obtain ⟨q,hq,vz⟩:=cW n hn
  exact ⟨q,hq,by rw [nT];exact vz⟩
 .rw [Hu] at h2
  by_cases he:t2=t
  .subst he
   rw [aE rfl] at h2
   cases h2
   refine ⟨m,rfl,?_,hmf⟩
   rw [sA,aE rfl,aE hm,wW]
   rfl
  .rw [az he] at h2
   obtain ⟨q,hq,uk,Ah,hqm⟩:=ez t2 v2 h2
   refine ⟨q,hq,?_,Ah⟩
   rw [sA,az (Ne.symm hqm),tF he]
   exact uk
 .rw [Hu]
  by_cases he:t2=t
  .subst he
   rw [aE rfl,wW]
   simp
  .rw [az he,tF he]
   exact yq t2
theorem db.pop (p:db free aY kv us) (h:dE kv t=none) (hp:free.Perm (n::rest)):∃ i:Nat,n=(i:Int)/\i < aY.length/\db rest (aY.set i (t,1)) (fZ kv t (.int .i64 (i:Int))) (fP us t 1):=by
 have iG:=hp.nodup_iff.1 p.nd
 rw [tN] at iG
 obtain ⟨i,rfl,hi⟩:=p.fr n (hp.mem_iff.2 jm)
 refine ⟨i,rfl,hi,db.fresh (λm hm=>p.fr m (hp.mem_iff.2 (fB _ hm))) iG.2 p.kn (λt2 v2 h2=>?_) p.has hi iG.1 h⟩
 obtain ⟨q,hq,uk,Ah⟩:=p.val t2 v2 h2
 exact ⟨q,hq,uk,λhh=>Ah (hp.mem_iff.2 (fB _ hh)),λe=>Ah (by rw [e];exact hp.mem_iff.2 jm)⟩
theorem db.more (p:db free aY kv us) (h:dE kv t=none) (x:fo):db free ((aY++[x]).set aY.length (t,1)) (fZ kv t (.int .i64 (aY.length:Int))) (fP us t 1):=by
 refine db.fresh (λm hm=>?_) p.nd p.kn (λt2 v2 h2=>?_) p.has (by rw [dy];simp) (λhh=>?_) h
 .obtain ⟨q,hq,vz⟩:=p.fr m hm
  exact ⟨q,hq,by rw [dy];omega⟩
 .obtain ⟨q,hq,uk,Ah⟩:=p.val t2 v2 h2
  have vz:=(dP.1 uk).1
  exact ⟨q,hq,by rw [nc vz];exact uk,Ah,by omega⟩
 .obtain ⟨q,hq,vz⟩:=p.fr _ hh
  omega
theorem db.gone (p:db free aY kv us) (h:dE kv t=some (.int .i64 (i:Int))) (x:fo):db ((i:Int)::free) (aY.set i x) (nt kv t) (fP us t 0):=by
 obtain ⟨j,hj,kQ,hjf⟩:=p.val t _ h
 have dK:i=j:=by cases hj;rfl
 subst dK
 have iX:=(dP.1 kQ).1
 refine ⟨λn hn=>?_,tN.2 ⟨hjf,p.nd⟩,zho p.kn t,λt2 v2 h2=>?_,λt2=>?_⟩
 .rw [nT]
  rcases dh.1 hn with rfl|hn
  .exact ⟨i,rfl,iX⟩
  .exact p.fr n hn
 .rw [zjk] at h2
  by_cases he:t2=t
  .rw [aE he] at h2;cases h2
  .rw [az he] at h2
   obtain ⟨q,hq,uk,Ah⟩:=p.val t2 v2 h2
   have hqi:i≠q:=by rintro rfl;rw [kQ] at uk;cases uk;exact he rfl
   refine ⟨q,hq,by rw [sA,az hqi,tF he];exact uk,λhh=>?_⟩
   rcases dh.1 hh with e|hh
   .exact hqi (by omega)
   .exact Ah hh
 .rw [zjk]
  by_cases he:t2=t
  .rw [aE he,he,wW];simp
  .rw [az he,tF he];exact p.has t2
end
theorem zwo {kv kw:List (au × ab)} (h1:(kv.map Prod.fst).Nodup) (h2:(kw.map Prod.fst).Nodup) (h:∀ t,(dE kv t).isSome=true↔(dE kw t).isSome=true):kv.length=kw.length:=by
 have hm:∀ (l:List (au × ab)) (t:au),(dE l t).isSome=true↔t∈l.map Prod.fst:=λl t=>by
  cases hl:dE l t with
  |none=>simp [iO.1 hl]
  |some v =>
   simp only [JV,true_iff]
   refine Classical.byContradiction λhn=>?_
   rw [iO.2 hn] at hl
   cases hl
 have hp:(kv.map Prod.fst).Perm (kw.map Prod.fst):=(List.perm_ext_iff_of_nodup h1 h2).2 λt=>by rw [<- hm,<- hm];exact h t
 simpa using hp.length_eq
structure gp (tt ti te N:Nat) (h:Heap) (T0 I E M:Nat) (free:List Int) (aY:List fo) (kv:List (au × ab)):Prop where
 row:∃ vi ve,Holds h T0 (.row [vi,ve,.map (some M)] tt false)/\cC 1 Cq h ti I vi free/\cC 2 Qo h te E ve aY
 map:dq h M kv
 ne:T0≠I/\T0≠E/\T0≠M/\I≠E/\I≠M/\E≠M
 lo:N<=T0/\N<=I/\N<=E/\N<=M
 hi:T0 < h.size/\I < h.size/\E < h.size/\M < h.size
section
variable {tt ti te N:Nat} {h h1 h2:Heap} {T0 I E M w:Nat} {bs:List ba} {free:List Int} {aY:List fo} {kv:List (au × ab)}
theorem gp.hold (s:gp tt ti te N h T0 I E M free aY kv) (hs:h.size<=h1.size) (hO:∀ A b,A=T0\/A=I\/A=E\/A=M->Holds h A b->Holds h1 A b):gp tt ti te N h1 T0 I E M free aY kv:=by
 obtain ⟨⟨vi,ve,q,oi,oe⟩,m,n,l,u⟩:=s
 exact ⟨⟨vi,ve,hO _ _ (.inl rfl) q,oi.hold (λb=>hO _ b (.inr (.inl rfl))),oe.hold (λb=>hO _ b (.inr (.inr (.inl rfl))))⟩,m.hold (λb=>hO _ b (.inr (.inr (.inr rfl)))),n,l,⟨by omega,by omega,by omega,by omega⟩⟩
theorem gp.over (s:gp tt ti te N h1 T0 I E M free aY kv) (x:Ext (h1.lay bs w) h2):gp tt ti te N h2 T0 I E M free aY kv:=s.hold (by have:=x.size;rw [bc] at this;omega) (λA b _ q=>q.over x)
theorem gp.lay (s:gp tt ti te N h1 T0 I E M free aY kv) (bs:List ba) (w:Nat):gp tt ti te N (h1.lay bs w) T0 I E M free aY kv:=s.hold (by rw [bc];omega) (λA b _ q=>q.on bs w)
theorem gp.bN {D:List Nat} (s:gp tt ti te N h1 T0 I E M free aY kv) (f:aL D h1 h2) (h0:T0 ∉ D/\I ∉ D/\E ∉ D/\M ∉ D):gp tt ti te N h2 T0 I E M free aY kv:=s.hold f.size (λA b hA q=>q.bN f (by rcases hA with rfl|rfl|rfl|rfl;exact h0.1;exact h0.2.1;exact h0.2.2.1;exact h0.2.2.2))
theorem gp.rA {vi:ab} (s:gp tt ti te N h1 T0 I E M free aY kv) (q:Holds h1 T0 (.row [vi,ve,.map (some M)] tt false)) (oe:cC 2 Qo h1 te E ve aY) (c:aL [I] h1 h2) (o2:cC 1 Cq h2 ti I vi f2):gp tt ti te N h2 T0 I E M f2 aY kv:=by
 obtain ⟨_,m,n,l,u⟩:=s
 have hs:=c.size
 have hn:∀ {A},A≠I->A ∉ [I]:=λh hm=>h (hU.1 hm)
 exact ⟨⟨vi,ve,q.bN c (hn n.1),o2,oe.bN c (hn (Ne.symm n.2.2.2.1))⟩,m.hold (λb q=>q.bN c (hn (Ne.symm n.2.2.2.2.1))),n,l,⟨by omega,by omega,by omega,by omega⟩⟩
theorem gp.Oi {v2:ab} {C9:List fo} (s:gp tt ti te N h1 T0 I E M free aY kv) (c:aL [T0] h1 h2) (q:Holds h2 T0 (.row [v2,ve,.map (some M)] tt false)) (o1:cC 1 Cq h1 ti I v2 f2) (oe:cC 2 Qo h1 te E ve C9):gp tt ti te N h2 T0 I E M f2 C9 kv:=by
 obtain ⟨_,m,n,l,u⟩:=s
 have hs:=c.size
 have hn:∀ {A},A≠T0->A ∉ [T0]:=λh hm=>h (hU.1 hm)
 exact ⟨⟨v2,ve,q,o1.bN c (hn (Ne.symm n.1)),oe.bN c (hn (Ne.symm n.2.1))⟩,m.hold (λb q=>q.bN c (hn (Ne.symm n.2.2.1))),n,l,⟨by omega,by omega,by omega,by omega⟩⟩
theorem gp.He {v2:ab} {I2:Nat} (s:gp tt ti te N h1 T0 I E M free aY kv) (c:aL [T0,I] h1 h2) (hI:I2=I\/h1.size<=I2) (fM:I2 < h2.size) (q:Holds h2 T0 (.row [v2,ve,.map (some M)] tt false)) (o1:cC 1 Cq h2 ti I2 v2 f2) (oe:cC 2 Qo h1 te E ve aY):gp tt ti te N h2 T0 I2 E M f2 aY kv:=by
 obtain ⟨_,m,n,l,u⟩:=s
 have hs:=c.size
 have hn:∀ {A},A≠T0->A≠I->A ∉ [T0,I]:=λh h2 hm=>by
  rcases dh.1 hm with e|hm
  .exact h e
  .exact h2 (hU.1 hm)
 refine ⟨⟨v2,ve,q,o1,oe.bN c (hn (Ne.symm n.2.1) (Ne.symm n.2.2.2.1))⟩,m.hold (λb q=>q.bN c (hn (Ne.symm n.2.2.1) (Ne.symm n.2.2.2.2.1))),?_,?_,⟨by omega,fM,by omega,by omega⟩⟩
 .rcases hI with rfl|hI
  .exact n
  .exact ⟨by omega,n.2.1,n.2.2.1,by omega,by omega,n.2.2.2.2.2⟩
 .rcases hI with rfl|hI
  .exact l
  .exact ⟨l.1,by omega,l.2.2⟩
end
theorem Qj {l:List Int} {i j:Nat} {a b:Int} (hi:l[i]? = some a) (hj:l[j]? = some b):l.Perm ((l.set i b).set j a):=by
 by_cases h:i=j
 .subst h
  rw [hi] at hj
  cases hj
  have e:(l.set i a).set i a=l:=by
   apply qN
   intro k
   rw [List.set_set,sA]
   by_cases hk:i=k
   .subst hk
    rw [aE rfl,hi]
    simp [(dP.1 hi).1]
   .rw [az hk]
  rw [e]
 .have hc:∀ x,l.count x=((l.set i b).set j a).count x:=by
   intro x
   have iX:=(dP.1 hi)
   have BB:=(dP.1 hj)
   have e1:((l.set i b).set j a).count x=(l.set i b).count x - (if (b == x) then 1 else 0)+(if (a == x) then 1 else 0):=by
    rw [List.count_set (by rw [nT];exact BB.1)]
    rw [List.getElem_set_ne h,BB.2]
   have e2:(l.set i b).count x=l.count x - (if (a == x) then 1 else 0)+(if (b == x) then 1 else 0):=by
    rw [List.count_set iX.1,iX.2]
   rw [e1,e2]
   have ha:(a == x)=true->1<=l.count x:=λe=>List.one_le_count_iff.2 (by rw [<- eq_of_beq e];exact ic hi)
   have hb:(b == x)=true->1<=l.count x:=λe=>List.one_le_count_iff.2 (by rw [<- eq_of_beq e];exact ic hj)
   cases vf:(a == x)
   .simp
   .have:=ha vf
    simp
    omega
  exact List.perm_iff_count.2 hc
end Go.Am
namespace Go.Proofs.YtiapegieocgmfaaGreatDoor
open Go.Am Tryz
theorem Hr (b:Bool) (h:Heap) (K:aF):sy b h K=K (.bool b) h:=by
 unfold sy
 cases b
 .simp
 .simp
theorem Cz:aD.desc 142=some (.slice 3):=by kernel_rfl
theorem zsv (A:Nat) (h:Heap):xh aD 153 (.pointer (some ⟨A,0,none⟩)) "Len" h=(iD aD 142 (.pointer (some ⟨A,0,none⟩)) h).map λr=>(88,r):=by kernel_rfl
theorem Qg (A:Nat) (h:Heap):xh aD 153 (.pointer (some ⟨A,0,none⟩)) "Less" h=(iD aD 142 (.pointer (some ⟨A,0,none⟩)) h).map λr=>(223,r):=by kernel_rfl
theorem Qh (A:Nat) (h:Heap):xh aD 153 (.pointer (some ⟨A,0,none⟩)) "Swap" h=(iD aD 142 (.pointer (some ⟨A,0,none⟩)) h).map λr=>(226,r):=by kernel_rfl
theorem zyH (A:Nat) (h:Heap):xh aD 153 (.pointer (some ⟨A,0,none⟩)) "Pop" h=some (224,.pointer (some ⟨A,0,none⟩)):=by kernel_rfl
theorem zwv (A:Nat) (h:Heap):xh aD 153 (.pointer (some ⟨A,0,none⟩)) "Push" h=some (225,.pointer (some ⟨A,0,none⟩)):=by kernel_rfl
theorem w7 {h1:Heap} {T0 w:Nat} {bs:List ba} {vi ve vm:ab} (q:Holds h1 T0 (.row [vi,ve,vm] 147 false)):iD aD 142 (.pointer (some ⟨T0,0,none⟩)) (h1.lay bs w)=some vi:=by
 have hg:=q.lay bs w
 have ha:cN aD 142=some false:=by kernel_rfl
 unfold iD gD
 simp only [ha,dM,gM,if_false,hg]
 rfl
abbrev eH (N:Nat) (h:Heap) (T0 I E M:Nat) (free:List Int) (aY:List fo) (kv:List (au × ab)):Prop:=gp 147 3 150 N h T0 I E M free aY kv
theorem zq6 (free:List Int) (I:Nat) (v:ab) (h:Heap) (o:cC 1 Cq h 3 I v free) (K:aF) (hk:∀ h',Ext h h'->K (.int .i64 free.length) h'):Ok prog aD ov 88 [v] h K:=by
 rw [ao h]
 have z:=Ext.refl h
 have df:=λ(hh:Heap)=>o.bo Cz hh
 refine Ok.aw 4 (bq N88) ?_
 simp only [aa,seval,c88,df]
 exact hk _ z.aA
theorem Qs (free:List Int) (I:Nat) (v:ab) (i j:Nat) (a b:Int) (h:Heap) (o:cC 1 Cq h 3 I v free) (hi:free[i]? = some a) (hj:free[j]? = some b) (K:aF) (hk:∀ h',Ext h h'->K (.bool (decide (a < b))) h'):Ok prog aD ov 223 [v,.int .i64 i,.int .i64 j] h K:=by
 rw [ao h]
 have z:=Ext.refl h
 have ij:=o.ix (kd:=.i64) (i:=i) Cz zl (dP.1 hi).1
 have r5:=o.ix (kd:=.i64) (i:=j) Cz zl (dP.1 hj).1
 have ci:=o.nq hi rfl
 have cj:=o.nq hj rfl
 have BT:∀ (n:Int) (h:Heap) (K:aF),aC (some (.int .i64 n)) h K=K (.int .i64 n) h:=λ_ _ _=>rfl
 refine Ok.aw 13 (bq K9) ?_
 simp only [aa,seval,xN]
 with_reducible first|refine dL (by simp only [xN]) z.aA ?_
 simp only [aa,seval,xN,ij,r5,ci,cj,BT]
 rw [Hr]
 simp only [aa,seval,xN]
 ((with_reducible refine ⟨z.cn.lay _ _,?_⟩);(intro _ h' zz x _);(simp only [bM,bu] at x);(replace z:=zz);(clear zz);rw [ao h'])
 simp only [aa,seval,xN]
 exact hk _ z.aA
theorem Qt (free:List Int) (I:Nat) (v:ab) (i j:Nat) (a b:Int) (h hc:Heap) (z:Ext h hc) (hI:h.size<=I) (o:cC 1 Cq hc 3 I v free) (hi:free[i]? = some a) (hj:free[j]? = some b) (K:aF) (hk:∀ h',Ext h h'->aL [I] hc h'->cC 1 Cq h' 3 I v ((free.set i b).set j a)->K undef h'):Ok prog aD ov 226 [v,.int .i64 i,.int .i64 j] hc K:=by
 rw [ao hc]
 have ij:=o.ix (kd:=.i64) (i:=i) Cz zl (dP.1 hi).1
 have r5:=o.ix (kd:=.i64) (i:=j) Cz zl (dP.1 hj).1
 have ci:=o.nq hi rfl
 have cj:=o.nq hj rfl
 have BT:∀ (n:Int) (h:Heap) (K:aF),aC (some (.int .i64 n)) h K=K (.int .i64 n) h:=λ_ _ _=>rfl
 refine Ok.aw 17 (bq Lc) ?_
 with_reducible first|refine dL (by simp only [xO]) z.aA ?_
 simp only [aa,seval,xO,ij,r5,ci,cj,BT]
 refine cC.qi (y:=b) zff o hi zl (by omega) rfl rfl rfl rfl (λh3 o3 c3=>?_)
 have hz:=z.size
 refine og (A:=I) (by kernel_rfl) (by rw [bc];omega) (by omega) (by simpa only [bM,bc,bu,dn,dN,iU] using c3) ?_
 have z3:=(z.kN [] (hc.size+0) (by omega)).step c3 hI
 rw [ao h3]
 simp only [aa,seval,xO,r5]
 have hj3:(free.set i b)[j]? = some b:=by
  rw [sA]
  split
  .rw [aE (dP.1 hi).1]
  .exact hj
 refine cC.qi (y:=a) zff o3 hj3 zl (by omega) rfl rfl rfl rfl (λh4 o4 c4=>?_)
 have Al:=z3.size
 refine og (A:=I) (by kernel_rfl) (by rw [bc];omega) (by omega) (by simpa only [bM,bc,bu,dn,dN,iU] using c4) ?_
 have z4:=(z3.kN [] (h3.size+0) (by omega)).step c4 hI
 have cc:aL [I] hc h4:=((aL.refl [I] hc).iL c3 (.inl (by simp))).iL c4 (.inl (by simp))
 clear z
 have z:=z4
 rw [ao h4]
 simp only [lx,seval,xO]
 ((with_reducible refine ⟨z.cn.lay _ _,?_⟩);(intro _ h' zz x _);(simp only [bM,bu] at x))
 replace o4:=o4.over x
 replace cc:=cc.over x
 replace z:=zz
 rw [ao h']
 simp only [seval,xO]
 exact hk _ z.aA (cc.trans (aL.lay _ _ _ []) (λ_ h=>nomatch h)) (o4.lay _ _)
theorem zA3 (j:Nat) (h:j<=1000000000):IntKind.i64.wrap ((IntKind.i64.wrap ((j:Int) - 1)).tdiv 2)=(((j - 1) / 2:Nat):Int):=by
 rw [wrap_i64 (i:=(j:Int) - 1) (by omega) (by omega)]
 have e:((j:Int) - 1).tdiv 2=(((j - 1) / 2:Nat):Int):=by
  cases j with
  |zero=>decide
  |succ j =>
   rw [show ((j+1:Nat):Int) - 1=(j:Int) by omega,show j+1 - 1=j by omega]
   exact (Int.ofNat_tdiv j 2).symm
 rw [e]
 exact wrap_i64 (by omega) (by omega)
theorem zyb {T:bI} {t:TypeId} {k:IntKind} {a b:Int}:cz prog T .mul t (.int k a) (.int k b)=some (.int k (k.wrap (a*b))):=by
 refine zmp rfl ?_ rfl
 simp [binOp,Op.intArith,AE]
theorem uP {k i:Nat} (h:¬ i=k) (Q:Ex->Env->Heap->Prop) (e:Env) (hh:Heap):Ej k Q (.exit i) e hh=Q (.exit i) e hh:=by
 show (if i=k then Q .normal e hh else Q (.exit i) e hh)=_
 rw [az h]
abbrev IQ (T0:Nat):ab:=.iface 153 (.pointer (some ⟨T0,0,none⟩))
theorem zCG (h hc:Heap) (z:Ext h hc) (T0 FI FE FM:Nat) (free:List Int) (aY:List fo) (kv:List (au × ab)) (j:Nat) (st:eH h.size hc T0 FI FE FM free aY kv) (hj:j < free.length) (K:aF) (hk:∀ h' f2,Ext h h'->aL [FI] hc h'->eH h.size h' T0 FI FE FM f2 aY kv->free.Perm f2->K undef h'):Ok prog aD ov 146 [IQ T0,.int .i64 j] hc K:=by
 have hle:free.length<=1000000000:=by obtain ⟨⟨vi,ve,q,oi,oe⟩,_⟩:=st;exact oi.nM
 rw [ao hc]
 refine Ok.aw 21 (bq KC) ?_
 simp only [lx,seval,mw]
 obtain ⟨I1,aU⟩:∃ I:Nat->Env->Heap->Prop,I=(λn e h'=>∃ (j1:Nat) (f1:List Int) (h1:Heap),h'=h1.lay [] h1.low/\Ext h h1/\(n=j1+1/\j1 < f1.length/\eH h.size h1 T0 FI FE FM f1 aY kv/\free.Perm f1/\aL [FI] hc h1)/\∃ J:Nat->ab,e=(IQ T0::.int .i64 j1::jr J 2 21 ([]))):=⟨_,rfl⟩
 refine dA I1 _ (by rw [aU];exact ⟨j,free,_,rfl,z,⟨rfl,hj,st,List.Perm.refl _,aL.refl _ _⟩,bl⟩) ?_
 intro n e h' aO
 rw [aU] at aO
 obtain ⟨j1,f1,bC,rfl,z,hinv,J,rfl⟩:=aO
 clear st
 obtain ⟨rfl,r5,st,im,fr⟩:=hinv
 have hlen:=im.length_eq
 obtain ⟨⟨vi,ve,q,oi,oe⟩,_⟩:=id st
 have hq:=zA3 j1 (by omega)
 have vq:(j1 - 1) / 2 < f1.length:=by omega
 obtain ⟨a,ha,Bu⟩:=eW (l:=f1) (i:=j1) (by omega)
 obtain ⟨b,hb,pe⟩:=eW (l:=f1) (i:=(j1 - 1) / 2) (by omega)
 simp only [aa,seval,mw]
 rw [zvB (by decide),hq]
 simp only [aa,seval,mw]
 refine lK (λheq=>?_) (λaQ=>?_)
 .simp only [aa,seval,mw]
  rw [uP (by decide)]
  simp only [aa,seval,mw]
  exact hk _ f1 z.aA (fr.trans (aL.lay _ _ _ []) (λ_ h=>nomatch h)) (st.lay _ _) im
 simp only [aa,seval,mw,uA]
 refine uH (f:=223) (y:=vi) (by rw [Qg,w7 q];rfl) ?_
 refine Qs f1 FI vi j1 ((j1 - 1) / 2) a b _ (oi.lay _ _) Bu pe _ (λh' x=>?_)
 (replace z:=z.an x;replace st:=st.over x;replace fr:=fr.over x;rw [ao h'])
 simp only [aa,seval,mw]
 (with_reducible apply bX);(· rfl)
 simp only [aa,seval,mw]
 clear q oi oe
 obtain ⟨⟨vi,ve,q,oi,oe⟩,_,_,dt,_⟩:=id st
 refine rJ (λka=>?_) (λaT=>?_)
 .simp only [aa,seval,mw]
  rw [uP (by decide)]
  simp only [aa,seval,mw]
  exact hk _ f1 z.aA (fr.trans (aL.lay _ _ _ []) (λ_ h=>nomatch h)) (st.lay _ _) im
 simp only [aa,seval,mw,uA]
 refine uH (f:=226) (y:=vi) (by rw [Qh,w7 q];rfl) ?_
 refine Qt f1 FI vi ((j1 - 1) / 2) j1 b a h _ z.aA dt.2.1 (oi.lay _ _) pe Bu _ (λh3 z3 fL o3=>?_)
 have kK:=(st.lay [] h'.low).rA (q.on _ _) (oe.lay _ _) fL o3
 replace fr:=(fr.trans (aL.lay h' [] h'.low []) (λ_ h=>nomatch h)).trans fL (λB hB=>.inl hB)
 have BI:=im.trans (Qj pe Bu)
 clear q oi oe o3 fL st z
 have z:=z3
 rw [ao h3]
 simp only [aa,seval,mw]
 (rw [aU];with_reducible refine cy (m:=_) ?_ ⟨(j1 - 1) / 2,(f1.set ((j1 - 1) / 2) a).set j1 b,_,rfl,z,⟨rfl,by rw [nT,nT];omega,kK,BI,fr⟩,bl⟩;omega)
theorem zyO (h hc:Heap) (z:Ext h hc) (T0 FI FE FM:Nat) (free:List Int) (aY:List fo) (kv:List (au × ab)) (m:Nat) (st:eH h.size hc T0 FI FE FM free aY kv) (hm:m<=free.length) (K:aF) (hk:∀ h' f2 b,Ext h h'->aL [FI] hc h'->eH h.size h' T0 FI FE FM f2 aY kv->free.Perm f2->K (.bool b) h'):Ok prog aD ov 135 [IQ T0,.int .i64 0,.int .i64 m] hc K:=by
 have hle:free.length<=1000000000:=by obtain ⟨⟨vi,ve,q,oi,oe⟩,_⟩:=st;exact oi.nM
 rw [ao hc]
 refine Ok.aw 45 (bq Ku) ?_
 simp only [aa,seval,eg]
 obtain ⟨I1,aU⟩:∃ I:Nat->Env->Heap->Prop,I=(λn e h'=>∃ (i:Nat) (f1:List Int) (h1:Heap),h'=h1.lay [] h1.low/\Ext h h1/\(n=free.length - i/\i<=free.length/\eH h.size h1 T0 FI FE FM f1 aY kv/\free.Perm f1/\aL [FI] hc h1)/\∃ J:Nat->ab,e=(IQ T0::.int .i64 0::.int .i64 m::jr J 3 4 (.int .i64 i::jr J 8 40 ([])))):=⟨_,rfl⟩
 refine dA I1 _ (by rw [aU];exact ⟨0,free,_,rfl,z,⟨rfl,by omega,st,List.Perm.refl _,aL.refl _ _⟩,bl⟩) ?_
 intro n e h' aO
 rw [aU] at aO
 obtain ⟨i,f1,bC,rfl,z,hinv,J,rfl⟩:=aO
 clear st
 obtain ⟨rfl,hi,st,im,fr⟩:=hinv
 have hlen:=im.length_eq
 obtain ⟨⟨vi,ve,q,oi,oe⟩,_,_,dt,_⟩:=id st
 have yZ:IntKind.i64.wrap (IntKind.i64.wrap (2*(i:Int))+1)=((2*i+1:Nat):Int):=by
  rw [wrap_i64 (i:=2*(i:Int)) (by omega) (by omega),wrap_i64 (by omega) (by omega)];omega
 have vG:IntKind.i64.wrap (((2*i+1:Nat):Int)+1)=((2*i+2:Nat):Int):=by rw [wrap_i64 (by omega) (by omega)];omega
 simp only [aa,seval,eg,zyb,yZ]
 refine bn (λka=>?_) (λaT=>?_)
 .simp only [aa,seval,eg]
  rw [uP (by decide)]
  simp only [aa,seval,eg]
  rw [Hr]
  simp only [aa,seval,eg]
  exact hk _ f1 _ z.aA (fr.trans (aL.lay _ _ _ []) (λ_ h=>nomatch h)) (st.lay _ _) im
 simp only [aa,seval,eg]
 refine bn (λc0=>absurd c0 (by omega)) (λ_=>?_)
 obtain ⟨a1,IA,pS⟩:=eW (l:=f1) (i:=2*i+1) (by omega)
 obtain ⟨ai,R1,pU⟩:=eW (l:=f1) (i:=i) (by omega)
 simp only [aa,seval,eg,vG]
 refine bn (λjx=>?_) (λjx=>?_)
 .obtain ⟨a2,IB,xX⟩:=eW (l:=f1) (i:=2*i+2) (by omega)
  simp only [aa,seval,eg,uA]
  refine uH (f:=223) (y:=vi) (by rw [Qg,w7 q];rfl) ?_
  refine Qs f1 FI vi (2*i+2) (2*i+1) a2 a1 _ (oi.lay _ _) xX pS _ (λh' x=>?_)
  (replace z:=z.an x;replace st:=st.over x;replace fr:=fr.over x;rw [ao h'])
  clear q oi oe
  simp only [aa,seval,eg]
  refine bn (λhl=>?_) (λhl=>?_)
  .simp only [aa,seval,eg]
   obtain ⟨jj,MV⟩:∃ jj,jj=2*i+2:=⟨_,rfl⟩
   rw [<- MV] at xX ⊢
   have MX:jj < m:=by omega
   have dK:i < jj:=by omega
   simp only [aa,seval,uA]
   obtain ⟨⟨vi,ve,q,oi,oe⟩,_,_,dt,_⟩:=id st
   refine uH (f:=223) (y:=vi) (by rw [Qg,w7 q];rfl) ?_
   refine Qs f1 FI vi jj i a2 ai _ (oi.lay _ _) xX pU _ (λh' x=>?_)
   (replace z:=z.an x;replace st:=st.over x;replace fr:=fr.over x;rw [ao h'])
   clear q oi oe
   obtain ⟨⟨vi,ve,q,oi,oe⟩,_,_,dt,_⟩:=id st
   rcases Decidable.em (a2 < ai) with hd|hd
   rotate_left
   .rw [tM hd]
    simp only [aa,seval,eg]
    (with_reducible apply bX);(· rfl)
    simp only [aa,seval,eg]
    rw [uP (by decide)]
    simp only [aa,seval,eg]
    rw [Hr]
    simp only [aa,seval,eg]
    exact hk _ f1 _ z.aA (fr.trans (aL.lay _ _ _ []) (λ_ h=>nomatch h)) (st.lay _ _) im
   rw [uN hd]
   simp only [aa,seval,eg]
   (with_reducible apply bX);(· rfl)
   simp only [aa,seval,eg,uA]
   refine uH (f:=226) (y:=vi) (by rw [Qh,w7 q];rfl) ?_
   refine Qt f1 FI vi i jj ai a2 h _ z.aA dt.2.1 (oi.lay _ _) pU xX _ (λh3 z3 fL o3=>?_)
   have kK:=(st.lay [] h'.low).rA (q.on _ _) (oe.lay _ _) fL o3
   replace fr:=(fr.trans (aL.lay h' [] h'.low []) (λ_ h=>nomatch h)).trans fL (λB hB=>.inl hB)
   have BI:=im.trans (Qj pU xX)
   clear q oi oe o3 fL st z
   have z:=z3
   rw [ao h3]
   simp only [aa,seval,eg]
   (rw [aU];with_reducible refine cy (m:=_) ?_ ⟨jj,(f1.set i a2).set jj ai,_,rfl,z,⟨rfl,by omega,kK,BI,fr⟩,bl⟩;omega)
  .simp only [aa,seval,eg]
   obtain ⟨jj,MV⟩:∃ jj,jj=2*i+1:=⟨_,rfl⟩
   rw [<- MV] at pS ⊢
   have MX:jj < m:=by omega
   have dK:i < jj:=by omega
   simp only [aa,seval,uA]
   obtain ⟨⟨vi,ve,q,oi,oe⟩,_,_,dt,_⟩:=id st
   refine uH (f:=223) (y:=vi) (by rw [Qg,w7 q];rfl) ?_
   refine Qs f1 FI vi jj i a1 ai _ (oi.lay _ _) pS pU _ (λh' x=>?_)
   (replace z:=z.an x;replace st:=st.over x;replace fr:=fr.over x;rw [ao h'])
   clear q oi oe
   obtain ⟨⟨vi,ve,q,oi,oe⟩,_,_,dt,_⟩:=id st
   rcases Decidable.em (a1 < ai) with hd|hd
   rotate_left
   .rw [tM hd]
    simp only [aa,seval,eg]
    (with_reducible apply bX);(· rfl)
    simp only [aa,seval,eg]
    rw [uP (by decide)]
    simp only [aa,seval,eg]
    rw [Hr]
    simp only [aa,seval,eg]
    exact hk _ f1 _ z.aA (fr.trans (aL.lay _ _ _ []) (λ_ h=>nomatch h)) (st.lay _ _) im
   rw [uN hd]
   simp only [aa,seval,eg]
   (with_reducible apply bX);(· rfl)
   simp only [aa,seval,eg,uA]
   refine uH (f:=226) (y:=vi) (by rw [Qh,w7 q];rfl) ?_
   refine Qt f1 FI vi i jj ai a1 h _ z.aA dt.2.1 (oi.lay _ _) pU pS _ (λh3 z3 fL o3=>?_)
   have kK:=(st.lay [] h'.low).rA (q.on _ _) (oe.lay _ _) fL o3
   replace fr:=(fr.trans (aL.lay h' [] h'.low []) (λ_ h=>nomatch h)).trans fL (λB hB=>.inl hB)
   have BI:=im.trans (Qj pU pS)
   clear q oi oe o3 fL st z
   have z:=z3
   rw [ao h3]
   simp only [aa,seval,eg]
   (rw [aU];with_reducible refine cy (m:=_) ?_ ⟨jj,(f1.set i a1).set jj ai,_,rfl,z,⟨rfl,by omega,kK,BI,fr⟩,bl⟩;omega)
 .clear q oi oe
  simp only [aa,seval,eg]
  obtain ⟨jj,MV⟩:∃ jj,jj=2*i+1:=⟨_,rfl⟩
  rw [<- MV] at pS ⊢
  have MX:jj < m:=by omega
  have dK:i < jj:=by omega
  simp only [aa,seval,uA]
  obtain ⟨⟨vi,ve,q,oi,oe⟩,_,_,dt,_⟩:=id st
  refine uH (f:=223) (y:=vi) (by rw [Qg,w7 q];rfl) ?_
  refine Qs f1 FI vi jj i a1 ai _ (oi.lay _ _) pS pU _ (λh' x=>?_)
  (replace z:=z.an x;replace st:=st.over x;replace fr:=fr.over x;rw [ao h'])
  clear q oi oe
  obtain ⟨⟨vi,ve,q,oi,oe⟩,_,_,dt,_⟩:=id st
  rcases Decidable.em (a1 < ai) with hd|hd
  rotate_left
  .rw [tM hd]
   simp only [aa,seval,eg]
   (with_reducible apply bX);(· rfl)
   simp only [aa,seval,eg]
   rw [uP (by decide)]
   simp only [aa,seval,eg]
   rw [Hr]
   simp only [aa,seval,eg]
   exact hk _ f1 _ z.aA (fr.trans (aL.lay _ _ _ []) (λ_ h=>nomatch h)) (st.lay _ _) im
  rw [uN hd]
  simp only [aa,seval,eg]
  (with_reducible apply bX);(· rfl)
  simp only [aa,seval,eg,uA]
  refine uH (f:=226) (y:=vi) (by rw [Qh,w7 q];rfl) ?_
  refine Qt f1 FI vi i jj ai a1 h _ z.aA dt.2.1 (oi.lay _ _) pU pS _ (λh3 z3 fL o3=>?_)
  have kK:=(st.lay [] h'.low).rA (q.on _ _) (oe.lay _ _) fL o3
  replace fr:=(fr.trans (aL.lay h' [] h'.low []) (λ_ h=>nomatch h)).trans fL (λB hB=>.inl hB)
  have BI:=im.trans (Qj pU pS)
  clear q oi oe o3 fL st z
  have z:=z3
  rw [ao h3]
  simp only [aa,seval,eg]
  (rw [aU];with_reducible refine cy (m:=_) ?_ ⟨jj,(f1.set i a1).set jj ai,_,rfl,z,⟨rfl,by omega,kK,BI,fr⟩,bl⟩;omega)
theorem zsn (x:ab):JS aD 3 x=some (.iface 3 x):=by kernel_rfl
theorem zwh (x:ab):JS aD 153 x=some (.iface 153 x):=by kernel_rfl
theorem zn1 (n:Int):Qz aD (.iface 3 (.int .i64 n)) 3 true=some (.tuple #[.int .i64 n,.bool true]):=by kernel_rfl
theorem zAd:dg aD 142=some 1:=by kernel_rfl
theorem zui (h hc:Heap) (z:Ext h hc) (T0 FI FE FM:Nat) (free:List Int) (aY:List fo) (kv:List (au × ab)) (n:Nat) (last:Int) (st:eH h.size hc T0 FI FE FM free aY kv) (hn:free.length=n+1) (hl:free[n]? = some last) (K:aF) (hk:∀ h',Ext h h'->aL [T0] hc h'->eH h.size h' T0 FI FE FM (free.take n) aY kv->K (.iface 3 (.int .i64 last)) h'):Ok prog aD ov 224 [.pointer (some ⟨T0,0,none⟩)] hc K:=by
 obtain ⟨⟨vi,ve,q,oi,oe⟩,mm,aQ,dt,mD⟩:=id st
 have hle:=oi.nM
 have df:=λ(hh:Heap)=>oi.bo Cz hh
 have hw:IntKind.i64.wrap (((free.length:Nat):Int) - 1)=(n:Int):=by rw [wrap_i64 (by omega) (by omega)];omega
 have ij:=oi.ix (kd:=.i64) (i:=n) Cz zl (by omega)
 have ci:=oi.nq hl rfl
 obtain ⟨v2,gV,o2⟩:=oi.pop (kd:=.i64) (n:=n) (by decide) Cz zl (by omega) (by intro e;rw [e] at hn;simp at hn)
 have hZ:∀ (h:Heap) (K:aF),aC (some vi) h K=K vi h:=λ_ _=>rfl
 have jB:∀ (h:Heap) (K:aF),aC (some v2) h K=K v2 h:=λ_ _=>rfl
 have GI:∀ (n:Int) (h:Heap) (K:aF),aC (some (.int .i64 n)) h K=K (.int .i64 n) h:=λ_ _ _=>rfl
 have BT:∀ (x:ab) (h:Heap) (K:aF),aC (some (.iface 3 x)) h K=K (.iface 3 x) h:=λ_ _ _=>rfl
 rw [ao hc]
 refine Ok.aw 28 (bq La) ?_
 simp only [aa,seval,LI,q.lay,hZ,df,hw,ij,ci,GI,gV,jB]
 obtain ⟨xa,xn,xc,rfl⟩:=o2.shape
 refine Hl q zAd rfl rfl (by simp) rfl (λh3 q3 c3=>?_)
 replace q3:Holds h3 T0 (.row [.slice xa xn xc,ve,.map (some FM)] 147 false):=q3
 have z3:=z.cM c3 dt.1 (by omega)
 have fL:aL [T0] hc h3:=(aL.refl [T0] hc).iL c3 (.inl (by simp))
 have kK:=st.Oi fL q3 o2 oe
 clear z
 have z:=z3
 rw [ao h3]
 simp only [aa,seval,LI,zsn,BT,zdN]
 exact hk _ z.aA (fL.trans (aL.lay _ _ _ []) (λ_ h=>nomatch h)) (kK.lay _ _)
theorem zxi {l:List Int} {n:Nat} {x:Int} (hn:l.length=n+1) (hl:l[n]? = some x):l.Perm (x::l.take n):=by
 have e:l=l.take n++[x]:=by
  have h1:=(qv n l).symm
  rw [Eg (by omega),(dP.1 hl).2,zG (by omega)] at h1
  exact h1
 conv=>lhs;rw [e]
 exact List.perm_append_singleton x (l.take n)
theorem zug (h hc:Heap) (z:Ext h hc) (T0 FI FE FM:Nat) (free:List Int) (aY:List fo) (kv:List (au × ab)) (n:Nat) (st:eH h.size hc T0 FI FE FM free aY kv) (hn:free.length=n+1) (K:aF) (hk:∀ h' x rest,Ext h h'->aL [T0,FI] hc h'->eH h.size h' T0 FI FE FM rest aY kv->free.Perm (x::rest)->K (.iface 3 (.int .i64 x)) h'):Ok prog aD ov 89 [IQ T0] hc K:=by
 obtain ⟨⟨vi,ve,q,oi,oe⟩,mm,aQ,dt,mD⟩:=id st
 have hle:=oi.nM
 have hw:IntKind.i64.wrap (((free.length:Nat):Int) - 1)=(n:Int):=by rw [wrap_i64 (by omega) (by omega)];omega
 obtain ⟨a,ha,Bu⟩:=eW (l:=free) (i:=0) (by omega)
 obtain ⟨b,hb,pe⟩:=eW (l:=free) (i:=n) (by omega)
 rw [ao hc]
 refine Ok.aw 14 (bq N89) ?_
 simp only [aa,seval,LM,uA]
 refine uH (f:=88) (y:=vi) (by rw [zsv,w7 q];rfl) ?_
 refine zq6 free FI vi _ (oi.lay _ _) _ (λh' x=>?_)
 have fr:aL [T0,FI] hc h':=(aL.refl [T0,FI] hc).over x
 (replace z:=z.an x;replace st:=st.over x;rw [ao h'])
 clear q oi oe mm
 obtain ⟨⟨vi,ve,q,oi,oe⟩,mm,_,_,_⟩:=id st
 simp only [aa,seval,LM,uA,hw]
 refine uH (f:=226) (y:=vi) (by rw [Qh,w7 q];rfl) ?_
 refine Qt free FI vi 0 n a b h _ z.aA dt.2.1 (oi.lay _ _) Bu pe _ (λh3 z3 fL o3=>?_)
 have kK:=(st.lay [] h'.low).rA (q.on _ _) (oe.lay _ _) fL o3
 replace fr:=(fr.trans (aL.lay h' [] h'.low []) (λ_ h=>nomatch h)).trans fL (λB hB=>.inl (by rw [hU.1 hB];simp))
 have BI:=Qj Bu pe
 have M1:((free.set 0 b).set n a).length=n+1:=by rw [nT,nT];exact hn
 clear q oi oe o3 fL st z mm
 have z:=z3
 rw [ao h3]
 simp only [aa,seval,LM]
 refine zyO h _ z.aA T0 FI FE FM _ aY kv n (kK.lay _ _) (by omega) _ (λh4 f4 bb z4 jU DO Sp=>?_)
 replace fr:=(fr.trans (aL.lay h3 [] h3.low []) (λ_ h=>nomatch h)).trans jU (λB hB=>.inl (by rw [hU.1 hB];simp))
 have yA:=Sp.length_eq
 obtain ⟨c,yd,ME⟩:=eW (l:=f4) (i:=n) (by omega)
 clear z z3 kK
 have z:=z4
 rw [ao h4]
 simp only [aa,seval,LM,uA]
 refine uH (f:=224) (y:=.pointer (some ⟨T0,0,none⟩)) (by rw [zyH]) ?_
 refine zui h _ z.aA T0 FI FE FM f4 aY kv n c (DO.lay _ _) (by omega) ME _ (λh5 z5 mz tm=>?_)
 replace fr:=(fr.trans (aL.lay h4 [] h4.low []) (λ_ h=>nomatch h)).trans mz (λB hB=>.inl (by rw [hU.1 hB];simp))
 clear z z4
 have z:=z5
 rw [ao h5]
 simp only [aa,seval,LM]
 exact hk _ c _ z.aA (fr.trans (aL.lay _ _ _ []) (λ_ h=>nomatch h)) (tm.lay _ _) ((BI.trans Sp).trans (zxi (by omega) ME))
theorem zBD:su aD 142 142=true:=by kernel_rfl
theorem zq5 (h hc:Heap) (z:Ext h hc) (T0 FI FE FM:Nat) (free:List Int) (aY:List fo) (kv:List (au × ab)) (n:Int) (st:eH h.size hc T0 FI FE FM free aY kv) (hn:free.length < 800000000) (K:aF) (hk:∀ h' I2,Ext h h'->aL [T0,FI] hc h'->eH h.size h' T0 I2 FE FM (free++[n]) aY kv->(I2=FI\/hc.size<=I2)->K undef h'):Ok prog aD ov 225 [.pointer (some ⟨T0,0,none⟩),.iface 3 (.int .i64 n)] hc K:=by
 obtain ⟨⟨vi,ve,q,oi,oe⟩,mm,aQ,dt,mD⟩:=id st
 have hZ:∀ (h:Heap) (K:aF),aC (some vi) h K=K vi h:=λ_ _=>rfl
 have GI:∀ (n:Int) (h:Heap) (K:aF),aC (some (.int .i64 n)) h K=K (.int .i64 n) h:=λ_ _ _=>rfl
 rw [ao hc]
 refine Ok.aw 20 (bq Lb) ?_
 have hvt:∀ (a:Array ab) (h:Heap) (K:aF),aC (some (.tuple a)) h K=K (.tuple a) h:=λ_ _ _=>rfl
 simp only [aa,seval,Ff,zh9,zn1,hvt,GI,q.lay,hZ,mr,zBD]
 refine cC.app (x:=n) (j:=0) zff rfl (by decide) Cz zpQ oi rfl (by omega) (by omega) (λv3 h3 I3 o3 ny _ rX=>?_)
 have c3:=rX mD.2.1
 have z3:=z.cM c3 dt.2.1 (by omega)
 have fL:aL [FI] hc h3:=(aL.refl [FI] hc).iL c3 (.inl (by simp))
 have q3:=q.br c3 aQ.1
 have kf:=c3.size
 rw [bc] at kf
 obtain ⟨xa,xn,xc,rfl⟩:=o3.shape
 have alX:I3 < h3.size:=o3.lt (by simp)
 clear z
 have z:=z3
 rw [ao h3]
 simp only [aa,seval,Ff]
 refine Hl q3 zAd rfl rfl (by simp) rfl (λh4 q4 c4=>?_)
 replace q4:Holds h4 T0 (.row [.slice xa xn xc,ve,.map (some FM)] 147 false):=q4
 have z4:=z.cM c4 dt.1 (by omega)
 have WW:I3≠T0:=by
  rcases ny with e|e
  .rw [e.1];exact Ne.symm aQ.1
  .rw [e,bc];omega
 have jU:aL [T0,FI] hc h4:=(fL.mono (λB hB=>by rw [hU.1 hB];simp)).iL c4 (.inl (by simp))
 have td:=c4.size
 rw [bc] at td
 have Mi:I3=FI\/hc.size<=I3:=by
  rcases ny with e|e
  .exact .inl e.1
  .right;rw [e,bc];omega
 have DO:=st.He jU Mi (by simp only [dN] at td;omega) q4 (o3.br c4 WW) oe
 clear z z3
 have z:=z4
 rw [ao h4]
 simp only [aa,seval,Ff]
 exact hk _ I3 z.aA (jU.trans (aL.lay _ _ _ []) (λ_ h=>nomatch h)) (DO.lay _ _) Mi
theorem zq4 (h hc:Heap) (z:Ext h hc) (T0 FI FE FM:Nat) (free:List Int) (aY:List fo) (kv:List (au × ab)) (n:Int) (st:eH h.size hc T0 FI FE FM free aY kv) (hn:free.length < 800000000) (K:aF) (hk:∀ h' I2 f2,Ext h h'->aL [T0,FI] hc h'->eH h.size h' T0 I2 FE FM f2 aY kv->(I2=FI\/hc.size<=I2)->f2.Perm (n::free)->K undef h'):Ok prog aD ov 104 [IQ T0,.iface 3 (.int .i64 n)] hc K:=by
 have hw:IntKind.i64.wrap ((((free++[n]).length:Nat):Int) - 1)=(free.length:Int):=by rw [dy,zK,wrap_i64 (by omega) (by omega)];omega
 rw [ao hc]
 refine Ok.aw 10 (bq Ka) ?_
 simp only [aa,seval,A4,uA]
 refine uH (f:=225) (y:=.pointer (some ⟨T0,0,none⟩)) (by rw [zwv]) ?_
 refine zq5 h _ z.aA T0 FI FE FM free aY kv n (st.lay _ _) hn _ (λh3 I3 z3 fL kK ny=>?_)
 have fr:aL [T0,FI] hc h3:=(aL.lay hc [] hc.low [T0,FI]).trans fL (λB hB=>.inl hB)
 have hI:I3=FI\/hc.size<=I3:=ny.imp id (λe=>by rw [bc] at e;omega)
 clear z st fL
 have z:=z3
 have st:=kK
 clear z3 kK
 rw [ao h3]
 obtain ⟨⟨vi,ve,q,oi,oe⟩,mm,_,_,_⟩:=id st
 simp only [aa,seval,A4,uA]
 refine uH (f:=88) (y:=vi) (by rw [zsv,w7 q];rfl) ?_
 refine zq6 _ I3 vi _ (oi.lay _ _) _ (λh' x=>?_)
 (replace z:=z.an x;replace st:=st.over x;replace fr:=fr.over x;rw [ao h'])
 clear q oi oe mm
 simp only [aa,seval,A4,hw]
 refine zCG h _ z.aA T0 I3 FE FM _ aY kv free.length (st.lay _ _) (by rw [dy,zK];omega) _ (λh4 f4 z4 jU DO Sp=>?_)
 have frf:aL [T0,FI] hc h4:=(fr.trans (aL.lay h' [] h'.low []) (λ_ h=>nomatch h)).trans jU (λB hB=>by
  rw [hU.1 hB]
  exact hI.imp (λe=>by rw [e];simp) id)
 clear z
 have z:=z4
 rw [ao h4]
 simp only [aa,seval,A4]
 exact hk _ I3 f4 z.aA (frf.trans (aL.lay _ _ _ []) (λ_ h=>nomatch h)) (DO.lay _ _) hI ((Sp.symm).trans (List.perm_append_singleton n free))
theorem mN (A:Nat) (h:Heap) (K:aF):aC (some (.map (some A))) h K=K (.map (some A)) h:=rfl
theorem bO (k:IntKind) (n:Int) (h:Heap) (K:aF):aC (some (.int k n)) h K=K (.int k n) h:=rfl
theorem wD (x):cz prog aD .eql 76 (.pointer (some x)) (.pointer none)=some (.bool false):=by kernel_rfl
theorem neT (x):cz prog aD .neq 76 (.pointer (some x)) (.pointer none)=some (.bool true):=by kernel_rfl
theorem Q8:aD.desc 140=some (.map 9 3):=by kernel_rfl
theorem CJ:aD.desc 9=some .string:=by kernel_rfl
theorem H8:aD.zero 3=some (.int .i64 0):=by kernel_rfl
theorem HR:aD.desc 145=some (.slice 150):=by kernel_rfl
theorem JG:dg aD 150=some 2:=by kernel_rfl
theorem zyV (t:au) (r:Option Nat) (h:Heap) (T0 FI FE FM N:Nat) (free:List Int) (aY:List fo) (kv:List (au × ab)) (st:eH N h T0 FI FE FM free aY kv) (hr:dE kv t=r.map λi=>.int .i64 (i:Int)) (K:aF) (hk:∀ h',Ext h h'->K (.tuple #[.int .i64 ((r.getD 0:Nat):Int),.bool r.isSome]) h'):Ok prog aD ov 63 [.pointer (some ⟨T0,0,none⟩),.string t] h K:=by
 obtain ⟨⟨vi,ve,q,oi,oe⟩,mm,aQ,dt,mD⟩:=st
 have z:=Ext.refl h
 rw [ao h]
 refine Ok.aw 19 (bq N63) ?_
 simp only [aa,seval,U8,mN,wD,q.lay,D6]
 refine Qa mm Q8 CJ H8 ?_
 rw [hr]
 cases r with
 |none =>
  simp only [Option.map_none,Option.getD_none,QU,if_true] at hk ⊢
  simp only [aa,seval,U8]
  exact hk _ z.aA
 |some i =>
  simp only [jn,JX,JV,if_true] at hk ⊢
  simp only [aa,seval,U8]
  exact hk _ z.aA
theorem _root_.Go.Am.cC.gH {Z:Type} {k:Nat} {cell:Z->List ab} {h1:Heap} {u:TypeId} {A i j:Nat} {v:ab} {l:List Z} {x:ab} {y:Z} (f:cC k cell h1 u A v l) (hx:l[i]? = some y) (hj:j < k) (hc:(cell y)[j]? = some x) (bs:List ba) (w:Nat):J1 ((h1.lay bs w).get A) (i*k+j)=some x:=by
 obtain ⟨row,q,c⟩:=f.row hx
 have hg:=q.lay bs w
 rw [hg]
 unfold cut at c
 split at c
 .simp only [dO] at c
  show row[i*k+j]? = some x
  have:=congrArg (λl=>l[j]?) c
  simp only [mi,lL,aE hj,hc] at this
  exact this
 .cases c
theorem zBn (n:Nat) (x:fo) (h:Heap) (T0 FI FE FM N:Nat) (free:List Int) (aY:List fo) (kv:List (au × ab)) (st:eH N h T0 FI FE FM free aY kv) (hx:aY[n]? = some x) (K:aF) (hk:∀ h',Ext h h'->K (.bool (decide (0 < x.2))) h'):Ok prog aD ov 103 [.pointer (some ⟨T0,0,none⟩),.int .i64 n] h K:=by
 obtain ⟨⟨vi,ve,q,oi,oe⟩,mm,aQ,dt,mD⟩:=st
 have z:=Ext.refl h
 have df:=λ(hh:Heap)=>oe.bo HR hh
 have iX:=(dP.1 hx).1
 have ij:=oe.ix (kd:=.i64) (i:=n) HR JG iX
 have c1:=oe.gH (j:=1) hx (by omega) rfl
 have hZ:∀ (h:Heap) (K:aF),aC (some ve) h K=K ve h:=λ_ _=>rfl
 rw [ao h]
 refine Ok.aw 29 (bq J9) ?_
 simp only [aa,seval,xH,neT]
 refine bn (λ_=>?_) (λhn=>absurd hn (by omega))
 simp only [aa,seval,xH,q.lay,hZ,df]
 refine bn (λ_=>?_) (λhn=>absurd hn (by omega))
 simp only [aa,seval,xH,q.lay,hZ,ij,c1]
 rw [Hr]
 simp only [aa,seval,xH]
 rw [Hr]
 simp only [aa,seval,xH]
 exact hk _ z.aA
theorem zmX:∀ (n:Nat) (l:List Int),l.Nodup->(∀ x∈l,0<=x/\x < n)->l.length<=n
 |0,l,_,h=>by
  cases l with
  |nil=>exact bj _
  |cons a l=>have:=h a jm;omega
 |n+1,l,hn,h=>by
  by_cases hm:(n:Int)∈l
  .have h1:=zmX n (l.erase n) (hn.erase _) (λx hx=>by
    have h2:=h x (List.mem_of_mem_erase hx)
    have h3:x≠n:=λe=>by rw [e] at hx;exact (List.Nodup.not_mem_erase hn) hx
    omega)
   rw [List.length_erase_of_mem hm] at h1
   omega
  .have h1:=zmX n l hn (λx hx=>by
    have h2:=h x hx
    have h3:x≠n:=λe=>hm (e ▸ hx)
    omega)
   omega
theorem _root_.Go.Am.db.tV {free:List Int} {aY:List fo} {kv:List (au × ab)} {us:au->Nat} (p:db free aY kv us):free.length<=aY.length :=
 zmX _ _ p.nd (λx hx=>by obtain ⟨i,rfl,hi⟩:=p.fr x hx;omega)
theorem Oh (a b:ab):([a,b]:List ab)[1]? = some b:=rfl
theorem dm (s:au) (h:Heap) (K:aF):aC (some (.string s)) h K=K (.string s) h:=rfl
theorem Ol (t:TypeId) (x:ab) (h:Heap) (K:aF):aC (some (.iface t x)) h K=K (.iface t x) h:=rfl
theorem Ll:qp aD 150 []=some (.agg #[.string ByteArray.empty,.int .i64 0]):=by kernel_rfl
theorem j6 (a:Array ab) (h:Heap) (K:aF):aC (some (.agg a)) h K=K (.agg a) h:=rfl
theorem zyQ (h hc:Heap) (z:Ext h hc) (T0 FI FE FM:Nat) (free:List Int) (aY:List fo) (kv:List (au × ab)) (us:au->Nat) (t:au) (i:Nat) (st:eH h.size hc T0 FI FE FM free aY kv) (p:db free aY kv us) (hl:dE kv t=some (.int .i64 (i:Int))) (wK:aY.length < 800000000) (kD:us t < 1000000000000) (K:aF)
 (hk:∀ h' I2 f2 e2 B2,Ext h h'->aL [T0,FI,FE,FM] hc h'->eH h.size h' T0 I2 FE FM f2 e2 B2->db f2 e2 B2 (fP us t (us t - 1))->(I2=FI\/hc.size<=I2)->e2.length=aY.length->K (.int .i64 0) h'):Ok prog aD ov 64 [.pointer (some ⟨T0,0,none⟩),.int .i64 i] hc K:=by
 obtain ⟨j,hj,BZ⟩:=p.num hl
 have dK:i=j:=by cases hj;rfl
 subst dK
 clear hj
 have lj:=p.pos hl
 have ud:=p.tV
 have iX:=(dP.1 BZ).1
 have hw:IntKind.i64.wrap (((us t:Nat):Int) - 1)=((us t - 1:Nat):Int):=by rw [wrap_i64 (by omega) (by omega)];omega
 obtain ⟨⟨vi,ve,q,oi,oe⟩,mm,aQ,dt,mD⟩:=id st
 have ij:=oe.ix (kd:=.i64) (i:=i) HR JG iX
 have c1:=oe.gH (j:=1) BZ (by omega) rfl
 have hZ:∀ (h:Heap) (K:aF),aC (some ve) h K=K ve h:=λ_ _=>rfl
 rw [ao hc]
 refine Ok.aw 57 (bq N64) ?_
 simp only [aa,seval,wz,wD]
 refine zBn i _ _ T0 FI FE FM h.size free aY kv (st.lay _ _) BZ _ (λh' x=>?_)
 rw [uN (by show (0:Int) < (us t:Nat);omega)]
 have fr:aL [T0,FI,FE,FM] hc h':=(aL.refl [T0,FI,FE,FM] hc).over x
 replace st:=st.over x
 replace q:=q.over x
 replace oe:=oe.over x
 clear c1
 have c1:=oe.gH (j:=1) BZ (by omega) rfl
 replace oi:=oi.over x
 replace mm:=mm.over x
 (replace z:=z.an x;rw [ao h'])
 simp only [aa,seval,wz]
 (with_reducible apply bX);(· rfl)
 simp only [aa,seval,wz,q.lay,hZ,ij,c1,hw]
 refine cC.store (off:=1) (y:=(t,((us t - 1:Nat):Int))) PN oe BZ zl (by omega) rfl rfl rfl rfl (λh3 wS c3=>?_)
 have z3:=z.cM c3 dt.2.2.1 (by omega)
 have BN:=fr.size
 have fL:aL [T0,FI,FE,FM] hc h3:=fr.iL c3 (.inl (by simp))
 have q3:=q.br c3 aQ.2.1
 have DN:=oi.br c3 aQ.2.2.2.1
 have DM:=mm.br c3 (Ne.symm aQ.2.2.2.2.2)
 have kf:=fL.size
 clear z q oi oe mm c1 fr
 have z:=z3
 have GM:(aY.set i (t,((us t - 1:Nat):Int)))[i]? = some (t,((us t - 1:Nat):Int)):=by rw [sA,aE rfl,aE iX]
 have c1:=wS.gH (j:=1) GM (by omega) rfl
 have c0:=wS.gH (j:=0) GM (by omega) rfl
 rw [ao h3]
 simp only [aa,seval,wz,q3.lay,hZ,ij,c1]
 refine lK (λheq=>?_) (λam4=>?_)
 .simp only [aa,seval,wz]
  with_reducible first|refine dL (by simp only [wz]) z.aA ?_
  simp only [aa,seval,wz,mN,q3.lay,hZ,ij,c0,zzP]
  refine zvU DM Q8 CJ (λh4 m4 c4=>?_)
  have hz:=z.size
  refine og (A:=FM) (by kernel_rfl) (by rw [bc];omega) (by omega) (by simpa only [bM,bc,bu,dn,dN,iU] using c4) ?_
  have z4:=(z.kN [] (h3.size+0) (by omega)).step c4 dt.2.2.2
  have jU:aL [T0,FI,FE,FM] hc h4:=fL.iL c4 (.inl (by simp))
  have q4:=q3.br c4 aQ.2.2.1
  have Sz:=DN.br c4 aQ.2.2.2.2.1
  have Sy:=wS.br c4 aQ.2.2.2.2.2
  clear z q3 DN wS DM c1 c0
  have z:=z4
  rw [ao h4]
  simp only [lx,seval,wz]
  ((with_reducible refine ⟨z.cn.lay _ _,?_⟩);(intro _ h' zz x _);(simp only [bM,bu] at x))
  replace q4:=q4.over x
  replace Sz:=Sz.over x
  replace Sy:=Sy.over x
  replace m4:=m4.over x
  replace jU:=jU.over x
  replace z:=zz
  rw [ao h']
  simp only [aa,seval,wz,q4.lay,hZ,ij,Ll]
  have YS:(aY.set i (t,((us t - 1:Nat):Int)))[i]? = some (t,((us t - 1:Nat):Int)):=GM
  refine cC.qi (y:=(ByteArray.empty,0)) PN Sy YS JG (by omega) rfl rfl rfl rfl (λh5 NY c5=>?_)
  have td:=jU.size
  have z5:=z.cM c5 dt.2.2.1 (by omega)
  have mz:aL [T0,FI,FE,FM] hc h5:=jU.iL c5 (.inl (by simp))
  have q5:=q4.br c5 aQ.2.1
  have SA:=Sz.br c5 aQ.2.2.2.1
  have m5:=m4.br c5 (Ne.symm aQ.2.2.2.2.2)
  have yR:=mz.size
  clear z q4 Sz Sy m4 jU z3 z4 fL
  have z:=z5
  rw [List.set_set] at NY
  have tm:eH h.size h5 T0 FI FE FM free (aY.set i (ByteArray.empty,0)) (nt kv t):=⟨⟨vi,ve,q5,SA,NY⟩,m5,aQ,dt,⟨by omega,by omega,by omega,by omega⟩⟩
  have p5:=p.gone hl (ByteArray.empty,0)
  rw [ao h5]
  simp only [aa,seval,wz,zsn,zwh,Ol,zdN]
  refine zq4 h _ z.aA T0 FI FE FM free _ _ (i:Int) (tm.lay _ _) (by omega) _ (λh6 I2 f2 z6 nW st6 hI hp6=>?_)
  replace mz:=(mz.trans (aL.lay h5 [] h5.low []) (λ_ h=>nomatch h)).trans nW (λB hB=>.inl (by rcases dh.1 hB with rfl|hB;simp;rw [hU.1 hB];simp))
  have p6:=p5.perm hp6.symm
  rw [show (0:Nat)=us t - 1 by omega] at p6
  have hI6:I2=FI\/hc.size<=I2:=hI.imp id (λe=>by rw [bc] at e;omega)
  clear z z5
  have z:=z6
  rw [ao h6]
  simp only [aa,seval,wz]
  exact hk _ I2 f2 _ _ z.aA (mz.trans (aL.lay _ _ _ []) (λ_ h=>nomatch h)) (st6.lay _ _) p6 hI6 (by rw [nT])
 .simp only [aa,seval,wz]
  have kK:eH h.size h3 T0 FI FE FM free (aY.set i (t,((us t - 1:Nat):Int))) kv:=⟨⟨vi,ve,q3,DN,wS⟩,DM,aQ,dt,⟨by omega,by omega,by omega,by omega⟩⟩
  exact hk _ FI free _ _ z.aA (fL.trans (aL.lay _ _ _ []) (λ_ h=>nomatch h)) (kK.lay _ _) (p.turn hl (m:=us t - 1) (by omega)) (.inl rfl) (by rw [nT])
theorem zBE:su aD 145 145=true:=by kernel_rfl
theorem zCW:dg aD 145=some 1:=by kernel_rfl
theorem UX (t:au):qp aD 150 [(0,.string t),(1,.int .i64 1)]=some (.agg #[.string t,.int .i64 1]):=by kernel_rfl
theorem jg (a:Array ab) (h:Heap) (K:aF):aC (some (.tuple a)) h K=K (.tuple a) h:=rfl
theorem zy3 (h hc:Heap) (z:Ext h hc) (T0 FI FE FM:Nat) (free:List Int) (aY:List fo) (kv:List (au × ab)) (us:au->Nat) (t:au) (st:eH h.size hc T0 FI FE FM free aY kv) (p:db free aY kv us) (ht:t.size≠0) (ht2:t.size<=255) (lh:kv.length < 65536) (wK:aY.length < 700000000) (kD:us t < 1000000000000) (K:aF)
 (hk:∀ h' n I2 E2 f2 e2 B2,Ext h h'->aL [T0,FI,FE,FM] hc h'->eH h.size h' T0 I2 E2 FM f2 e2 B2->db f2 e2 B2 (fP us t (us t+1))->(I2=FI\/hc.size<=I2)->(E2=FE\/hc.size<=E2)->e2.length<=aY.length+1->K (.tuple #[.int .i64 n,.int .i64 0]) h'):Ok prog aD ov 54 [.pointer (some ⟨T0,0,none⟩),.string t] hc K:=by
 have ud:=p.tV
 obtain ⟨⟨vi,ve,q,oi,oe⟩,mm,aQ,dt,mD⟩:=id st
 have hZ:∀ (h:Heap) (K:aF),aC (some ve) h K=K ve h:=λ_ _=>rfl
 have BT:∀ (h:Heap) (K:aF),aC (some vi) h K=K vi h:=λ_ _=>rfl
 have Dr:=λ(b:List ba) (w:Nat)=>Zb (bs:=b) (w:=w) mm Q8
 have hle:=λ(hh:Heap)=>oe.bo HR hh
 rw [ao hc]
 refine Ok.aw 94 (bq N54) ?_
 simp only [aa,seval,pN,wD]
 refine bn (λhe=>absurd (by rw [he];rfl) ht) (λ_=>?_)
 simp only [aa,seval,pN]
 refine bn (λhe=>absurd he (by omega)) (λ_=>?_)
 simp only [aa,seval,pN,mN,q.lay,D6]
 refine Qa mm Q8 CJ H8 ?_
 cases hl:dE kv t with
 |some v =>
  obtain ⟨i,rfl,BZ⟩:=p.num hl
  have iX:=(dP.1 BZ).1
  have ij:=oe.ix (kd:=.i64) (i:=i) HR JG iX
  have c1:=oe.gH (j:=1) BZ (by omega) rfl
  have hw:IntKind.i64.wrap (((us t:Nat):Int)+1)=((us t+1:Nat):Int):=by rw [wrap_i64 (by omega) (by omega)];omega
  simp only [JX,JV,if_true]
  simp only [aa,seval,pN,q.lay,hZ,ij,c1,hw]
  refine cC.store (off:=1) (y:=(t,((us t+1:Nat):Int))) PN oe BZ zl (by omega) rfl rfl rfl rfl (λh3 wS c3=>?_)
  have z3:=z.cM c3 dt.2.2.1 (by omega)
  have fL:aL [T0,FI,FE,FM] hc h3:=(aL.refl _ hc).iL c3 (.inl (by simp))
  have q3:=q.br c3 aQ.2.1
  have DN:=oi.br c3 aQ.2.2.2.1
  have DM:=mm.br c3 (Ne.symm aQ.2.2.2.2.2)
  have kf:=fL.size
  clear z q oi oe mm c1
  have z:=z3
  rw [ao h3]
  simp only [aa,seval,pN]
  have kK:eH h.size h3 T0 FI FE FM free (aY.set i (t,((us t+1:Nat):Int))) kv:=⟨⟨vi,ve,q3,DN,wS⟩,DM,aQ,dt,⟨by omega,by omega,by omega,by omega⟩⟩
  exact hk _ _ FI FE free _ _ z.aA (fL.trans (aL.lay _ _ _ []) (λ_ h=>nomatch h)) (kK.lay _ _) (p.turn hl (m:=us t+1) (by omega)) (.inl rfl) (.inl rfl) (by rw [nT];omega)
 |none =>
  have hzu:=p.zero hl
  simp only [Option.getD_none,QU,if_true]
  simp only [aa,seval,pN,mN,q.lay,Dr]
  refine bn (λhe=>absurd he (by omega)) (λ_=>?_)
  simp only [aa,seval,pN,q.lay,hZ,BT,hle]
  refine zq6 free FI vi _ (oi.lay _ _) _ (λh' x=>?_)
  replace st:=st.over x
  have fr:aL [T0,FI,FE,FM] hc h':=(aL.refl [T0,FI,FE,FM] hc).over x
  replace q:=q.over x
  replace oi:=oi.over x
  replace oe:=oe.over x
  replace mm:=mm.over x
  (replace z:=z.an x;rw [ao h'])
  simp only [aa,seval,pN]
  refine bn (λlj=>?_) (λhzero=>?_)
  focus
   obtain ⟨nf,hnf⟩:∃ nf,free.length=nf+1:=⟨free.length - 1,by omega⟩
   simp only [aa,seval,pN,zwh,Ol,zdN]
   refine zug h _ z.aA T0 FI FE FM free aY kv nf (st.lay _ _) hnf _ (λhb xx F2 z2 Iu ZD DA=>?_)
   have fL:aL [T0,FI,FE,FM] hc hb:=(fr.trans (aL.lay h' [] h'.low []) (λ_ h=>nomatch h)).trans Iu (λB hB=>.inl (by rcases dh.1 hB with rfl|hB;simp;rw [hU.1 hB];simp))
   obtain ⟨m,rfl,hm,pp⟩:=p.pop hl DA
   obtain ⟨E2,FF⟩:∃ E2,E2=FE:=⟨_,rfl⟩
   obtain ⟨e2,rY⟩:∃ e2,e2=aY:=⟨_,rfl⟩
   rw [<- FF,<- rY] at ZD
   rw [<- rY] at pp hm
   have hE:E2=FE\/hc.size<=E2:=.inl FF
   have MN:e2.length<=aY.length+1:=by rw [rY];omega
   clear z fr Iu st FF rY DA q oi oe mm hZ BT aQ dt mD
   rw [ao hb]
   simp only [aa,seval,pN,zh9,zn1,jg]
  rotate_left
  focus
   simp only [aa,seval,pN,q.lay,hZ,Ll,mr,zBE]
   refine cC.app (x:=(ByteArray.empty,0)) (j:=0) PN rfl (by decide) HR zj3 oe rfl (by omega) (by omega) (λv3 h3 E2 wS Me _ rX=>?_)
   have Sr:=fr.size
   have c3:=rX (by omega)
   have z3:=z.cM c3 dt.2.2.1 (by omega)
   have fL:aL [T0,FI,FE,FM] hc h3:=fr.iL c3 (.inl (by simp))
   have q3:=q.br c3 aQ.2.1
   have DN:=oi.br c3 aQ.2.2.2.1
   have DM:=mm.br c3 (Ne.symm aQ.2.2.2.2.2)
   have kf:=c3.size
   rw [bc] at kf
   obtain ⟨xa,xn,xc,rfl⟩:=wS.shape
   have alQ:E2 < h3.size:=wS.lt (by simp)
   have hE:E2=FE\/hc.size<=E2:=by
    rcases Me with e|e
    .exact .inl e.1
    .right;rw [e,bc];omega
   clear z
   have z:=z3
   rw [ao h3]
   simp only [aa,seval,pN]
   have BF:T0≠E2/\FI≠E2/\E2≠FM:=by
    rcases hE with e|e
    .rw [e];exact ⟨aQ.2.1,aQ.2.2.2.1,aQ.2.2.2.2.2⟩
    .exact ⟨by omega,by omega,by omega⟩
   refine Hl q3 zCW rfl rfl (by simp) rfl (λhb q4 c4=>?_)
   replace q4:Holds hb T0 (.row [vi,.slice xa xn xc,.map (some FM)] 147 false):=q4
   have z2:=z.cM c4 dt.1 (by omega)
   have anh:=fL.size
   replace fL:aL [T0,FI,FE,FM] hc hb:=fL.iL c4 (.inl (by simp))
   have td:=c4.size
   rw [bc] at td
   obtain ⟨F2,RW⟩:∃ F2,F2=free:=⟨_,rfl⟩
   obtain ⟨e2,rY⟩:∃ e2,e2=aY++[((ByteArray.empty,0):fo)]:=⟨_,rfl⟩
   obtain ⟨m,uj⟩:∃ m,m=aY.length:=⟨_,rfl⟩
   have ZD:eH h.size hb T0 FI E2 FM F2 e2 kv:=⟨⟨vi,.slice xa xn xc,q4,by rw [RW];exact DN.br c4 (Ne.symm aQ.1),by rw [rY];exact wS.br c4 (Ne.symm BF.1)⟩,DM.br c4 (Ne.symm aQ.2.2.1),⟨aQ.1,BF.1,aQ.2.2.1,BF.2.1,aQ.2.2.2.2.1,BF.2.2⟩,⟨dt.1,dt.2.1,by rcases hE with e|e;(rw [e];exact dt.2.2.1);(have:=z.size;have:=mD.1;omega),dt.2.2.2⟩,⟨by omega,by omega,by omega,by omega⟩⟩
   have MN:e2.length<=aY.length+1:=by rw [rY,dy];exact bj _
   have hm:m < e2.length:=by rw [rY,uj,dy];simp
   have pp:db F2 (e2.set m (t,1)) (fZ kv t (.int .i64 (m:Int))) (fP us t 1):=by rw [rY,uj,RW];exact p.more hl _
   rw [<- uj]
   clear q oi oe mm q3 DN wS DM aQ dt mD hZ BT z st fr z3 RW rY
   rw [ao hb]
   simp only [aa,seval,pN]
  rotate_left
  all_goals
   obtain ⟨⟨vi2,ZM,q,oi,oe⟩,mm,aQ,dt,mD⟩:=id ZD
   have z:=z2
   clear z2
   obtain ⟨x0,YR⟩:∃ x0,e2[m]? = some x0:=⟨_,gF hm⟩
   have ij:=oe.ix (kd:=.i64) (i:=m) HR JG hm
   have hZ:∀ (h:Heap) (K:aF),aC (some ZM) h K=K ZM h:=λ_ _=>rfl
   with_reducible first|refine dL (by simp only [pN]) z.aA ?_
   simp only [aa,seval,pN,mN,UX,q.lay,hZ,ij]
   refine cC.qi (y:=(t,1)) PN oe YR JG (by omega) rfl rfl rfl rfl (λh5 NY c5=>?_)
   have hz:=z.size
   refine og (A:=E2) (by kernel_rfl) (by rw [bc];omega) (by omega) (by simpa only [bM,bc,bu,dn,dN,iU] using c5) ?_
   have z5:=(z.kN [] (hb.size+0) (by omega)).step c5 dt.2.2.1
   have mz:aL [E2] hb h5:=(aL.refl [E2] hb).iL c5 (.inl (by simp))
   have q5:=q.br c5 aQ.2.1
   have SA:=oi.br c5 aQ.2.2.2.1
   have mm5:=mm.br c5 (Ne.symm aQ.2.2.2.2.2)
   clear z q oi oe mm
   have z:=z5
   rw [ao h5]
   simp only [lx,seval,pN,zvb]
   refine zqJ mm5 Q8 CJ H8 (λh6 xx s bb Xj c6 Xu=>?_)
   have hz:=z.size
   refine og (A:=FM) (by kernel_rfl) (by rw [bc];omega) (by omega) (by simpa only [bM,bc,bu,dn,dN,iU] using c6) ?_
   have z6:=(z.kN [] (h5.size+0) (by omega)).step c6 dt.2.2.2
   have nW:aL [E2,FM] hb h6:=(mz.mono (λB hB=>by rw [hU.1 hB];simp)).iL c6 (.inl (by simp))
   have q6:=q5.br c6 aQ.2.2.1
   have oi6:=SA.br c6 aQ.2.2.2.2.1
   have oe6:=NY.br c6 aQ.2.2.2.2.2
   clear z q5 SA NY mm5
   have z:=z6
   rw [ao h6]
   simp only [aa,seval,pN,zpV]
   refine Xu _ (Xj.on _ _) _ _ (λh7 m7 c7=>?_)
   have hz:=z.size
   refine og (A:=FM) (by kernel_rfl) (by rw [bc];omega) (by omega) (by simpa only [bM,bc,bu,dn,dN,iU] using c7) ?_
   have z7:=(z.kN [] (h6.size+0) (by omega)).step c7 dt.2.2.2
   have wF:aL [E2,FM] hb h7:=nW.iL c7 (.inl (by simp))
   have q7:=q6.br c7 aQ.2.2.1
   have Zh:=oi6.br c7 aQ.2.2.2.2.1
   have Zg:=oe6.br c7 aQ.2.2.2.2.2
   clear z q6 oi6 oe6
   have z:=z7
   rw [ao h7]
   simp only [lx,seval,pN]
   ((with_reducible refine ⟨z.cn.lay _ _,?_⟩);(intro _ h8 zz x8 _);(simp only [bM,bu] at x8))
   replace q7:=q7.over x8
   replace Zh:=Zh.over x8
   replace Zg:=Zg.over x8
   replace m7:=m7.over x8
   replace wF:=wF.over x8
   have tU:aL [T0,FI,FE,FM] hc h8:=fL.trans wF (λB hB=>by
    rcases dh.1 hB with rfl|hB
    .exact hE.imp (λe=>by rw [e];simp) id
    .rw [hU.1 hB];exact .inl (by simp))
   have IK:=wF.size
   clear z
   have z:=zz
   have st7:eH h.size h8 T0 FI E2 FM F2 (e2.set m (t,1)) (fZ kv t (.int .i64 (m:Int))):=⟨⟨vi2,ZM,q7,Zh,Zg⟩,m7,aQ,dt,⟨by omega,by omega,by omega,by omega⟩⟩
   rw [ao h8]
   simp only [aa,seval,pN]
   exact hk _ _ FI E2 F2 _ _ z.aA (tU.trans (aL.lay _ _ _ []) (λ_ h=>nomatch h)) (st7.lay _ _) (by rw [hzu];exact pp) (.inl rfl) hE (by rw [nT];exact MN)
end Go.Proofs.YtiapegieocgmfaaGreatDoor
