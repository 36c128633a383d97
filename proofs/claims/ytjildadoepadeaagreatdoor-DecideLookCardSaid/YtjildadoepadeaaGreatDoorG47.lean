/- Facts that may be, as plain data. No condition. -/
import Derived.Test.YtjildadoepadeaaGreatDoorG45
import Derived.Test.YtjildadoepadeaaGreatDoorG46
set_option linter.unusedSimpArgs false
set_option linter.unusedVariables false
set_option maxRecDepth 100000
set_option maxHeartbeats 0
noncomputable section
namespace Go.Am
theorem zq2 {a:ae} (h:gn a=0):∀ i,i < a.bR->cC (a.arg i):=by
 intro i hi
 unfold gn at h
 split at h
 .split at h
  .cases h
  .split at h
   .cases h
   .rename_i hb
    have qN:a.args.any zq=false:=by simpa using hb
    have hm:=uN.1 qN (a.arg i) (ig (args_at hi))
    unfold zq at hm
    simpa using hm
 .cases h
theorem Oc {d:aD} {s:aA} {a:ae} (h:kq d s a=0):aM d.ah s=true/\ek d a=0/\AU a=true/\a.says=s:=by
 unfold kq at h
 have h:=c8.1 h
 have h1:=(HZ (by decide)).1 (h (aO (!aM d.ah s) 6) (by simp))
 have h2:=h (ek d a) (by simp)
 have h3:=(HZ (by decide)).1 (h (aO (!AU a) 10) (by simp))
 have h4:=(HZ (by decide)).1 (h (aO (!decide (a.says=s)) 11) (by simp))
 refine ⟨by simpa using h1,h2,by simpa using h3,by simpa using h4⟩
theorem Na {d:aD} {a:ae} (h:ek d a=0):gn a=0:=by
 unfold ek at h
 exact c8.1 h (gn a) (by simp)
theorem zzy {a b:ae} (h:bZ a b=0):lR a=lR b:=Ny h
theorem zzz (x:ae) (r:cR) (a:ae):qK (x::r) a=((lR x == lR a) || qK r a):=rfl
theorem zzc {a:ae}:∀ {l:cR},qK l a=false->(gd a l).Perm (a::l)
 | [],_=>List.Perm.refl _
 |x::r,h=>by
  rw [zzz,Bool.or_eq_false_iff] at h
  unfold gd
  split
  .exact List.Perm.refl _
  .split
   .rename_i h0
    have:=zzy h0
    rw [this] at h
    simp at h
   .exact ((zzc h.2).cons x).trans (List.Perm.swap a x r)
open Classical in
def Mg (a:ae) (t:aA):Bool:=decide (∃ i:Nat,i < a.bR/\(a.arg i).v=false/\(a.arg i).s=t)
def yM (l:cR) (t:aA):Nat:=l.countP (λa=>Mg a t)
theorem zzJ {a:ae} {l:cR} (h:qK l a=false) (t:aA):yM (gd a l) t=yM l t+(if Mg a t then 1 else 0):=by
 unfold yM
 rw [(zzc h).countP_eq,List.countP_cons]
theorem zwB {l:cR} {a:ae} {t:aA} (h:a∈l) (ht:Mg a t=true):0 < yM l t:=List.countP_pos_iff.2 ⟨a,h,ht⟩
def uw (names:List aA) (facts:aA->cR) (t:aA):Nat:=(names.map λw=>yM (facts w) t).sum
theorem zzD {facts:aA->cR} {s:aA} {l:cR} (t:aA):∀ {names:List aA},names.Nodup->s∈names->uw names (λx=>if x=s then l else facts x) t+yM (facts s) t=uw names facts t+yM l t
 | [],_,h=>by cases h
 |w::r,hn,h=>by
  rw [List.nodup_cons] at hn
  unfold uw
  rw [zzs,zzs,List.sum_cons,List.sum_cons]
  dsimp only
  by_cases hw:w=s
  .subst hw
   have hr:(r.map λx=>yM (if x=w then l else facts x) t)=r.map λx=>yM (facts x) t:=zzi λx hx=>by rw [ay (λe=>by rw [e] at hx;exact hn.1 hx)]
   rw [aC rfl,hr]
   omega
  .have ih:=zzD (facts:=facts) (l:=l) t hn.2 ((i0.1 h).resolve_left (λe=>hw e.symm))
   unfold uw at ih
   dsimp only at ih
   rw [ay hw]
   omega
theorem Un {facts:aA->cR} {s t:aA}:∀ {names:List aA},s∈names->0 < yM (facts s) t->0 < uw names facts t
 |w::r,h,hp=>by
  unfold uw
  rw [zzs,List.sum_cons]
  rcases i0.1 h with e|h
  .subst e;omega
  .have:=Un h hp
   unfold uw at this
   omega
theorem SN {a:ae} (h:gn a=0):bu a:=by
 have ht:=zq2 h
 unfold gn at h
 split at h
 .rename_i hp
  rw [cY,bl,bl] at hp
  split at h
  .cases h
  .rename_i hn
   split at h
   .cases h
   .split at h
    .cases h
    .rename_i hr
     have fj:=uN.1 (by simpa using hr:((a.all.drop a.bR).any λt => !decide (t=aZ))=false)
     refine ⟨hp.1,hp.2,by omega,by omega,λi hi=>ht i (eT.2 ⟨by omega,hi⟩),λi hi h4=>?_⟩
     have hc:a.bR<=i:=by
      refine Nat.le_of_not_lt λhh=>?_
      have:=(eT.1 hh).2
      omega
     have hm:a.arg i∈a.all.drop a.bR:=by
      refine ig (i:=i - a.bR) ?_
      rw [ja,show a.bR+(i - a.bR)=i by omega]
      match i,h4 with
      |0,_=>rfl
      |1,_=>rfl
      |2,_=>rfl
      |3,_=>rfl
     simpa using fj _ hm
 .cases h
theorem Uv {d:aD} {s:aA} {a:ae} (h:kq d s a=0):lU a:=⟨SN (Na (Oc h).2.1),(Oc h).2.2.1⟩
theorem ztG {a b:ae} (ha:lU a) (hb:lU b) (h:lR a=lR b):a=b:=Nd ha.plain hb.plain h
structure kU (d:aD) (k:Nat) (facts:aA->cR) (nJ us:aA->Nat):Prop where
 ti:∀ w,gK (facts w)
 ok:∀ w,∀ a∈facts w,kq d w a=0
 len:∀ w,(facts w).length<=k
 Xn:∀ w,nJ w<=k
 use:∀ t,us t=uw d.ah facts t
section
variable {d:aD} {k:Nat} {facts:aA->cR} {nJ us us2:aA->Nat} {s:aA} {a:ae}
theorem kU.more (i:kU d k facts nJ us) {m:Nat} (h:k<=m):kU d m facts nJ us:=⟨i.ti,i.ok,λw=>iG (i.len w) h,λw=>iG (i.Xn w) h,i.use⟩
theorem kU.fact (i:kU d k facts nJ us) {x:ae} (h:x∈facts s):lU x:=Uv (i.ok s x h)
theorem kU.has (i:kU d k facts nJ us) (h:kq d s a=0):qK (facts s) a=true↔a∈facts s:=by
 rw [T4]
 exact ⟨λ⟨x,hx,e⟩=>by rw [<- ztG (i.fact hx) (Uv h) e];exact hx,λhm=>⟨a,hm,rfl⟩⟩
theorem kU.pos (i:kU d k facts nJ us) (h:kq d s a=0) (hh:qK (facts s) a=true) {t:aA} (ht:Mg a t=true):0 < us t:=by
 rw [i.use]
 exact Un (cG.1 (Oc h).1) (zwB ((i.has h).1 hh) ht)
theorem kU.put (i:kU d k facts nJ us) (hn:d.ah.Nodup) (h:kq d s a=0) (hh:qK (facts s) a=false) (hu:∀ t,us2 t=us t+(if Mg a t then 1 else 0)):kU d (k+1) (λx=>if x=s then gd a (facts s) else facts x) (λx=>if x=s then nJ s+1 else nJ x) us2:=by
 refine ⟨λw=>?_,λw x hx=>?_,λw=>?_,λw=>?_,λt=>?_⟩
 .split
  .exact TV (i.ti s)
  .exact i.ti w
 .split at hx
  .rename_i e
   rw [e]
   rcases i0.1 ((zzc hh).subset hx) with e2|hx
   .rw [e2];exact h
   .exact i.ok s x hx
  .exact i.ok w x hx
 .split
  .rw [(zzc hh).length_eq,nW]
   have:=i.len s
   omega
  .exact iG (i.len w) (Nat.le_succ k)
 .split
  .have:=i.Xn s;omega
  .have:=i.Xn w;omega
 .rw [hu,i.use]
  have h1:=zzD (facts:=facts) (s:=s) (l:=gd a (facts s)) t hn (cG.1 (Oc h).1)
  have h2:=zzJ hh t
  omega
end
end Go.Am
namespace Go.Proofs.YtjildadoepadeaaGreatDoor
open Go.Am Tryz
variable {c:bA} {g:dg}
section
variable {d:aD} {a:ae} {l:cR}
theorem zrP (h:¬ ek d a=0):ic d a l=ek d a:=by unfold ic;rw [dN,ay h]
theorem zrO (h:ek d a=0) (h2:6 < l.length):ic d a l=4:=by unfold ic;rw [dN,aC h,dN,wE h2];rfl
theorem zrQ (h:ek d a=0) (h2:¬ 6 < l.length):ic d a l=dw (λ_ x=>ek d x) (l.take 0) (l.drop 0):=by
 unfold ic
 rw [dN,aC h,dN,pK h2,dN]
 show (if uM d l=0 then (0:Int) else uM d l)=uM d l
 split
 .rename_i e;exact e.symm
 .rfl
theorem Y4 (h:ic d a l=0):gn a=0/\l.length<=6/\∀ x∈l,gn x=0:=by
 unfold ic at h
 have h:=c8.1 h
 refine ⟨Na (h (ek d a) (by simp)),?_,λx hx=>?_⟩
 .have:=(HZ (by decide)).1 (h (aO (decide (6 < l.length)) 4) (by simp))
  simpa using this
 .have h2:=ji.1 (h (uM d l) (by simp))
  obtain ⟨i,hi⟩:=zn hx
  exact Na (h2 i x hi)
theorem zwA (h:gn a=0):a.n<=4:=(SN h).hi
end
theorem Ss (d:aD) (a:ae) (l:cR) (v:ai) (p0 p1 p2 p5 p6:ai) (q b:Int) (h:Heap) (aY:(cN p0 p1 p2 p5 p6 q b).all Am.one=true) (hd:dP h p0 p1 p2 p5 p6 d) (hl:Sl aQ.atom h v l) (K:aF) (hk:∀ h',Ext h h'->K (.int .i64 (ic d a l)) h'):Ok prog az ov 58 [fS p0 p1 p2 p5 p6 q b,a.val,v] h K:=by
 rw [ak h]
 have z:=Ext.refl h
 have ua:∀ (n:Int) (h:Heap) (K:aF),aE (some (.int .i64 n)) h K=K (.int .i64 n) h:=λ_ _ _=>rfl
 have cO:=λ(hh:Heap)=>hl.bE gw hh
 refine Ok.au 30 (br Pk) ?_
 simp only [aa,seval,n9,iE,e9,↓eI,eH,ef,↓eZ,dO,dx]
 refine H0 d a _ _ _ _ _ _ _ _ aY (hd.lay _ _) _ (λh' x=>?_)
 have q0:=Holds.top (i:=0) x rfl
 (replace z:=z.aj x;rw [ak h'])
 obtain ⟨A0,dA⟩:∃ A0,A0=h.size+0:=⟨_,rfl⟩
 rw [<- dA] at q0
 rw [<- dA]
 simp only [aa,seval,n9]
 refine gD (λhc=>?_) (λh0=>?_)
 .rw [zrP hc] at hk
  simp only [aa,seval,n9]
  exact hk _ z.ao
 simp only [aa,seval,n9,cO]
 refine bp (λh6=>?_) (λh6=>?_)
 .rw [zrO h0 (by omega)] at hk
  simp only [aa,seval,n9]
  exact hk _ z.ao
 have la:=zrQ (l:=l) h0 (by omega)
 simp only [aa,seval,n9]
 obtain ⟨I1,aU⟩:∃ I:Nat->Env->Heap->Prop,I=(λn e h'=>∃ (i:Nat) (h1:Heap),h'=h1.lay [] h1.low/\Ext h h1/\(n=l.length - i/\i<=l.length/\ic d a l=dw (λ_ x=>ek d x) (l.take i) (l.drop i)/\Holds h1 A0 (.row (cN p0 p1 p2 p5 p6 q b) 29 false))/\∃ J:Nat->ai,e=(jr J 0 2 (v::.pointer (some ⟨A0,0,none⟩)::jr J 4 4 (.int .i64 i::jr J 9 24 ([]))))):=⟨_,rfl⟩
 refine dK I1 _ (by rw [aU];exact ⟨0,_,rfl,z,⟨rfl,by omega,la,q0⟩,bx⟩) ?_
 intro n e h' aR
 rw [aU] at aR
 obtain ⟨i,b8,rfl,z,hinv,J,rfl⟩:=aR
 clear q0
 obtain ⟨rfl,hi,cH,q0⟩:=hinv
 have hw:=ec i (by omega)
 simp only [aa,seval,n9,cO]
 refine bp (λaS=>?_) (λaS=>?_)
 rotate_left
 .rw [yX cH (by omega)] at hk
  repeat' (simp only [aa,seval,n9])
  exact hk _ z.ao
 obtain ⟨r,hr,bz⟩:=fx (l:=l) (i:=i) (by omega)
 repeat' (first|simp only [aa,seval,n9,q0.lay,↓eI,eH,ef]|with_reducible refine hH (by simp only [n9]) z.ao ?_|with_reducible_and_instances refine Gw (hl.mono z.inc) gw dv (by omega) hr (λp hp=>?_)|with_reducible_and_instances refine vJ hp kV dv ?_)
 refine H0 d r _ _ _ _ _ _ _ _ aY ((hd.mono z.inc).lay _ _) _ (λh' x=>?_)
 (((with_reducible refine eu ?_ ?_ ?_);(· exact (by (simp only [ep]);have:=z.size;omega));(· exact x));replace z:=z.aj x;replace q0:=q0.over x;rw [ak h'])
 simp only [aa,seval,n9]
 ((with_reducible refine ⟨z.eD.lay _ _,?_⟩);(intro _ h' zz x _);(simp only [dy,cU] at x);replace q0:=q0.over x;(replace z:=zz);(clear zz);rw [ak h'])
 simp only [aa,seval,n9]
 refine gD (λhc=>?_) (λh0=>?_)
 .rw [lN bz cH rfl hc] at hk
  simp only [aa,seval,n9]
  exact hk _ z.ao
 .simp only [aa,seval,n9,ua]
  rw [hw]
  (rw [aU];with_reducible refine db (m:=_) ?_ ⟨i+1,_,rfl,z,⟨rfl,by omega,y6 bz cH h0,q0⟩,bx⟩;omega)
theorem zrG (s:aA):mJ az 38 [(0,.bool true),(1,.string s)]=some (.agg ⟨[.bool true,.string s]⟩):=by kernel_rfl
theorem zrD (a:aH) (s:aA):bD prog az .eql 38 a.val (.agg ⟨[.bool true,.string s]⟩)=some (.bool (decide (a=⟨true,s⟩))):=Tj a ⟨true,s⟩
def zA (a:ae) (m:Nat) (s:aA):Prop:=∃ j,j < m/\(j:Int) < a.n/\a.arg j=⟨true,s⟩
theorem zq9 {a:ae} {m:Nat} {s:aA} (hm:(m:Int) < a.n):zA a (m+1) s↔zA a m s\/a.arg m=⟨true,s⟩:=by
 constructor
 .rintro ⟨j,h1,h2,e⟩
  by_cases hj:j=m
  .subst hj;exact .inr e
  .exact .inl ⟨j,by omega,h2,e⟩
 .rintro (⟨j,h1,h2,e⟩|e)
  .exact ⟨j,by omega,h2,e⟩
  .exact ⟨m,by omega,hm,e⟩
theorem ztc {a:ae} {m:Nat} {s:aA} (hn:a.n<=4) (hm:a.n<=(m:Int)):zA a m s↔gi a s:=by
 constructor
 .rintro ⟨j,h1,h2,e⟩
  exact ⟨j,by omega,h2,by rw [e],by rw [e]⟩
 .rintro ⟨j,h1,h2,h3,h4⟩
  refine ⟨j,by omega,h2,?_⟩
  cases ha:a.arg j with
  |mk vv ss =>
   rw [ha] at h3 h4
   cases h3
   cases h4
   rfl
theorem ZR (a:ae) (l:cR) (v:ai) (h:Heap) (hl:Sl aQ.atom h v l) (hn:l.length<=6) (WK:∀ x∈l,x.n<=4) (K:aF) (ea:(∀ x,gi a x->∃ y∈l,gi y x)->∀ h',Ext h h'->K (.bool true) h') (gR:¬ (∀ x,gi a x->∃ y∈l,gi y x)->∀ h',Ext h h'->K (.bool false) h'):Ok prog az ov 59 [a.val,v] h K:=by
 rw [ak h]
 have z:=Ext.refl h
 have cO:=λ(hh:Heap)=>hl.bE gw hh
 refine Ok.au 49 (br Pl) ?_
 repeat' (simp only [aa,seval,nf,e9,↓eZ,dO,dx])
 refine zul a _ _ (λw ns h' x sn DI hm=>?_)
 (replace z:=z.aj x;rw [ak h'])
 repeat' (simp only [aa,seval,nf])
 have Lx:=λ(hh:Heap)=>sn.bE dp hh
 obtain ⟨I1,aU⟩:∃ I:Nat->Env->Heap->Prop,I=(λn e h'=>∃ (i:Nat) (h1:Heap),h'=h1.lay [] h1.low/\Ext h h1/\(n=ns.length - i/\i<=ns.length/\(∀ x∈ns.take i,∃ y∈l,gi y x)/\Sl aQ.str h1 w ns)/\∃ J:Nat->ai,e=(J 0::v::jr J 2 3 (w::.int .i64 i::jr J 7 44 ([])))):=⟨_,rfl⟩
 refine dK I1 _ (by rw [aU];exact ⟨0,_,rfl,z,⟨rfl,by omega,by simp,sn⟩,bx⟩) ?_
 intro n e h' aR
 rw [aU] at aR
 obtain ⟨i,b8,rfl,z,hinv,J,rfl⟩:=aR
 clear sn
 obtain ⟨rfl,hi,aq,sn⟩:=hinv
 have j9:=ec i (by omega)
 simp only [aa,seval,nf,Lx]
 refine bp (λaS=>?_) (λaS=>?_)
 rotate_left
 .rw [i9 (by omega)] at aq
  repeat' (simp only [aa,seval,nf])
  exact ea (λx hx=>aq x ((hm x).2 hx)) _ z.ao
 obtain ⟨s,hs,Ac⟩:=fx (l:=ns) (i:=i) (by omega)
 have Ww:gi a s:=(hm s).1 (ig Ac)
 repeat' (simp only [aa,seval,nf])
 obtain ⟨I2,fV⟩:∃ I:Nat->Env->Heap->Prop,I=(λn e h'=>∃ (k:Nat) (b:Bool) (h1:Heap),h'=h1.lay [] h1.low/\Ext h h1/\(n=l.length - k/\k<=l.length/\(b=true↔∃ y∈l.take k,gi y s)/\Sl aQ.str h1 w ns)/\∃ J:Nat->ai,e=(J 0::v::jr J 2 3 (w::.int .i64 i::.bool b::.int .i64 k::jr J 9 42 ([])))):=⟨_,rfl⟩
 refine dK I2 _ (by rw [fV];exact ⟨0,false,_,rfl,z,⟨rfl,by omega,by simp,sn⟩,bx⟩) ?_
 intro n e h' aR
 rw [fV] at aR
 obtain ⟨k,b,b8,rfl,z,hinv,J,rfl⟩:=aR
 clear sn
 obtain ⟨rfl,Qf,i6,sn⟩:=hinv
 have pd:=ec k (by omega)
 simp only [aa,seval,nf,cO]
 refine bp (λrq=>?_) (λrq=>?_)
 .obtain ⟨r,hr,bz⟩:=fx (l:=l) (i:=k) (by omega)
  have ub:=WK _ (ig bz)
  have htk:l.take (k+1)=l.take k++[r]:=by rw [wz,bz];rfl
  repeat' (simp only [aa,seval,nf])
  obtain ⟨I3,tD⟩:∃ I:Nat->Env->Heap->Prop,I=(λn e h'=>∃ (m:Nat) (b:Bool) (h1:Heap),h'=h1.lay [] h1.low/\Ext h h1/\(n=4 - m/\m<=4/\(b=true↔(∃ y∈l.take k,gi y s)\/zA r m s)/\Sl aQ.str h1 w ns)/\∃ J:Nat->ai,e=(J 0::v::jr J 2 3 (w::.int .i64 i::.bool b::.int .i64 k::.int .i64 m::jr J 10 41 ([])))):=⟨_,rfl⟩
  refine dK I3 _ (by rw [tD];exact ⟨0,b,_,rfl,z,⟨rfl,by omega,by rw [i6];exact ⟨.inl,λh=>h.elim id (λ⟨j,hj,_⟩=>by omega)⟩,sn⟩,bx⟩) ?_
  intro n e h' aR
  rw [tD] at aR
  obtain ⟨m,b,b8,rfl,z,hinv,J,rfl⟩:=aR
  clear sn
  obtain ⟨rfl,Wc,xw,sn⟩:=hinv
  have Hi:=ec m (by omega)
  simp only [aa,seval,nf]
  repeat' ((first|((with_reducible apply bp) <;> intro _)|with_reducible_and_instances refine Gw (hl.mono z.inc) gw dv (by omega) hr (λp hp=>?_)|with_reducible_and_instances refine JV hp s9 (λq hq=>?_)|with_reducible_and_instances refine iF hq Jn ?_) <;> simp only [aa,seval,nf])
  rotate_left
  .have nk:(b=true↔∃ y∈l.take (k+1),gi y s):=by
    rw [xw,ztc ub (by omega),htk]
    simp only [pM,td]
    constructor
    .rintro (⟨y,h1,h2⟩|h2)
     .exact ⟨y,.inl h1,h2⟩
     .exact ⟨r,.inr rfl,h2⟩
    .rintro ⟨y,h1|rfl,h2⟩
     .exact .inl ⟨y,h1,h2⟩
     .exact .inr h2
   rw [pd]
   (rw [fV];with_reducible refine db (m:=_) ?_ ⟨k+1,b,_,rfl,z,⟨rfl,by omega,nk,sn⟩,bx⟩;omega)
  have zY:(m:Int) < r.n:=by omega
  have xY:m < 4:=by omega
  have oq:=zq9 (s:=s) zY
  cases b
  rotate_left
  .have nk:(true=true↔(∃ y∈l.take k,gi y s)\/zA r (m+1) s):=⟨λ_=>(xw.1 rfl).imp id (λh=>oq.2 (.inl h)),λ_=>rfl⟩
   repeat' ((first|with_reducible refine hH (by simp only [nf]) z.ao ?_|((with_reducible refine ⟨z.eD.lay _ _,?_⟩);(intro _ h' zz x _);(simp only [dy,cU] at x);replace sn:=sn.over x;(replace z:=zz);(clear zz);rw [ak h'])) <;> simp only [aa,seval,nf])
   rw [Hi]
   (rw [tD];with_reducible refine db (m:=_) ?_ ⟨m+1,true,_,rfl,z,⟨rfl,by omega,nk,sn⟩,bx⟩;omega)
  repeat' ((first|with_reducible refine hH (by simp only [nf]) z.ao ?_|((with_reducible apply bp) <;> intro _)|with_reducible_and_instances refine Gw (hl.mono z.inc) gw dv (by omega) hr (λp hp=>?_)|with_reducible_and_instances refine JW hp ta (λp hp=>?_)|with_reducible_and_instances refine WZ hp mw (by omega) (by omega) (λp hp=>?_)|with_reducible_and_instances refine Ef hp oJ iD ?_|with_reducible_and_instances refine sd sn dp mD (by omega) hs (λp hp=>?_)|with_reducible_and_instances refine iF hp lG ?_|((with_reducible refine ⟨z.eD.lay _ _,?_⟩);(intro _ h' zz x _);(simp only [dy,cU] at x);replace sn:=sn.over x;(replace z:=zz);(clear zz);rw [ak h'])) <;> simp only [aa,seval,nf,zrG,zrD])
  all_goals rw [Hi]
  .have he:r.arg m=⟨true,s⟩:=by assumption
   have nk:(true=true↔(∃ y∈l.take k,gi y s)\/zA r (m+1) s):=⟨λ_=>.inr (oq.2 (.inr he)),λ_=>rfl⟩
   (rw [tD];with_reducible refine db (m:=_) ?_ ⟨m+1,true,_,rfl,z,⟨rfl,by omega,nk,sn⟩,bx⟩;omega)
  .have he:¬ r.arg m=⟨true,s⟩:=by assumption
   have nk:(false=true↔(∃ y∈l.take k,gi y s)\/zA r (m+1) s):=by
    rw [oq,xw]
    exact ⟨λh=>h.imp id .inl,λh=>h.imp id (λg=>g.resolve_right he)⟩
   (rw [tD];with_reducible refine db (m:=_) ?_ ⟨m+1,false,_,rfl,z,⟨rfl,by omega,nk,sn⟩,bx⟩;omega)
 rw [i9 (by omega)] at i6
 cases b
 .repeat' (first|simp only [aa,seval,nf]|((with_reducible_and_instances apply bK);(· rfl)))
  exact gR (λhh=>by have:=i6.2 (hh s Ww);cases this) _ z.ao
 .have Da:∀ x∈ns.take (i+1),∃ y∈l,gi y x:=mS (i:=i) (P:=λx=>∃ y∈l,gi y x) Ac aq (i6.1 rfl)
  repeat' (first|simp only [aa,seval,nf]|((with_reducible_and_instances apply bK);(· rfl)))
  rw [j9]
  (rw [aU];with_reducible refine db (m:=_) ?_ ⟨i+1,_,rfl,z,⟨rfl,by omega,Da,sn⟩,bx⟩;omega)
section
variable {d:aD}
theorem zvS (h:¬ nN d.ah=0):kp d=nN d.ah:=by unfold kp;rw [dN,ay h]
theorem zvT (h:nN d.ah=0) (h2:¬ oE d.bo=0):kp d=oE d.bo:=by unfold kp;rw [dN,aC h,dN,ay h2]
theorem zvQ (h:nN d.ah=0) (h2:oE d.bo=0) (h3:¬ r6 d.ah d.aN=0):kp d=r6 d.ah d.aN:=by unfold kp;rw [dN,aC h,dN,aC h2,dN,ay h3]
theorem zvR (h:nN d.ah=0) (h2:oE d.bo=0) (h3:r6 d.ah d.aN=0) (h4:d.cB < 0\/1000 < d.cB\/d.bO < 1\/1048576 < d.bO\/64 < d.rules.length+d.aP.length):kp d=4:=by
 have hb:(decide (d.cB < 0\/1000 < d.cB) || decide (d.bO < 1\/1048576 < d.bO) || decide (64 < d.rules.length+d.aP.length))=true:=by
  simp only [nY,jW]
  omega
 unfold kp
 rw [dN,aC h,dN,aC h2,dN,aC h3,dN]
 unfold uB
 rw [hb]
 rfl
theorem zvU (h:nN d.ah=0) (h2:oE d.bo=0) (h3:r6 d.ah d.aN=0) (h4:¬ (d.cB < 0\/1000 < d.cB\/d.bO < 1\/1048576 < d.bO\/64 < d.rules.length+d.aP.length)):kp d=eN [dw (λ_ c=>nS d c) [] d.rules,dw (λ_ g=>mU d g) [] d.aP]:=by
 have hb:(decide (d.cB < 0\/1000 < d.cB) || decide (d.bO < 1\/1048576 < d.bO) || decide (64 < d.rules.length+d.aP.length))=false:=by
  simp only [Bool.or_eq_false_iff,decide_eq_false_iff_not]
  omega
 unfold kp
 rw [dN,aC h,dN,aC h2,dN,aC h3,dN]
 unfold uB
 rw [hb]
 show (if wu d=0 then (0:Int) else wu d)=wu d
 split
 .rename_i e;exact e.symm
 .rfl
theorem Od {a b:Int} (h:¬ a=0):eN [a,b]=a:=by rw [dN,ay h]
theorem Oe {a b:Int} (h:a=0):eN [a,b]=b:=by
 rw [dN,aC h]
 show (if b=0 then (0:Int) else b)=b
 split
 .rename_i e;exact e.symm
 .rfl
theorem zww (h:¬ ic d c.head c.body=0):nS d c=ic d c.head c.body:=Od h
theorem zwv (h:ic d c.head c.body=0) (h2:¬ ∀ x,gi c.head x->∃ y∈c.body,gi y x):nS d c=9:=by
 have h3:∃ x,gi c.head x/\∀ a∈c.body,¬ gi a x:=Classical.byContradiction λhn=>h2 λx hx=>Classical.byContradiction λhy=>hn ⟨x,hx,λa ha hv=>hy ⟨a,ha,hv⟩⟩
 unfold nS
 rw [Oe h]
 unfold uG
 simp only [h3,decide_true]
 rfl
theorem zwu (h:ic d c.head c.body=0) (h2:∀ x,gi c.head x->∃ y∈c.body,gi y x):nS d c=0:=by
 have h3:¬ ∃ x,gi c.head x/\∀ a∈c.body,¬ gi a x:=by
  rintro ⟨x,hx,hn⟩
  obtain ⟨y,hy,hv⟩:=h2 x hx
  exact hn y hy hv
 unfold nS
 rw [Oe h]
 unfold uG
 simp only [h3,decide_false]
 rfl
theorem ztL (h:aM d.ah g.to=false):mU d g=6:=by unfold mU;rw [h];rfl
theorem zr9 (h:aM d.ah g.to=true) (h2:g.to=g.head.says):mU d g=11:=by unfold mU;rw [h,wE h2];rfl
theorem ztM (h:aM d.ah g.to=true) (h2:¬ g.to=g.head.says):mU d g=ic d g.head g.body:=by
 unfold mU
 rw [h,pK h2]
 show (if ic d g.head g.body=0 then (0:Int) else ic d g.head g.body)=_
 split
 .rename_i e;exact e.symm
 .rfl
end
theorem zxs (h:Heap) (l:List bd) (w i o:Nat) (v:ai) (hi:i < l.length):gm az 73 (.pointer (some ⟨h.size+i,o,none⟩)) v (h.lay l w)=if v.cells.size=13 then oF l[i]? i o v.cells.toList h l w else none:=si lz h l w i o v hi
theorem SP (d:aD) (p0 p1 p2 p5 p6:ai) (q b:Int) (h:Heap) (aY:(cN p0 p1 p2 p5 p6 q b).all Am.one=true) (hd:dP h p0 p1 p2 p5 p6 d) (hq:d.cB=q) (hb:d.bO=b) (hn:d.aN.length<=70) (K:aF) (hk:∀ h',Ext h h'->K (.int .i64 (kp d)) h'):Ok prog az ov 23 [fS p0 p1 p2 p5 p6 q b] h K:=by
 rw [ak h]
 have z:=Ext.refl h
 have pc:∀ (h:Heap) (K:aF),aE (some p5) h K=K p5 h:=λ_ _=>rfl
 have pZ:∀ (h:Heap) (K:aF),aE (some p6) h K=K p6 h:=λ_ _=>rfl
 have ua:∀ (n:Int) (h:Heap) (K:aF),aE (some (.int .i64 n)) h K=K (.int .i64 n) h:=λ_ _ _=>rfl
 have sI:=λ(hh:Heap)=>hd.s5.bE jh hh
 have rm:=λ(hh:Heap)=>hd.s6.bE j3 hh
 have V8:=hd.s5.le
 have V9:=hd.s6.le
 have D8:d.rules.length<=64->d.aP.length<=64->IntKind.i64.wrap ((d.rules.length:Int)+(d.aP.length:Int))=(d.rules.length:Int)+(d.aP.length:Int):=λ_ _=>wrap_i64 (by omega) (by omega)
 refine Ok.au 133 (br OY) ?_
 simp only [aa,seval,gr,iE,↓eI,eH,ef]
 refine XG d.ah _ _ _ _ _ _ _ _ (hd.s0.lay _ _) _ (λh' x=>?_)
 have q0:=Holds.top (i:=0) x rfl
 (replace z:=z.aj x;rw [ak h'])
 obtain ⟨A0,dA⟩:∃ A0,A0=h.size+0:=⟨_,rfl⟩
 rw [<- dA] at q0
 rw [<- dA]
 simp only [aa,seval,gr]
 refine sj (λh0=>?_) (λhc=>?_)
 rotate_left
 .rw [zvS hc] at hk
  repeat' (first|simp only [aa,seval,gr]|((with_reducible first|apply sj|apply gD) <;> intro _))
  all_goals first
   |exact hk _ z.ao
   |(exfalso;omega)
 simp only [aa,seval,gr,q0.lay,↓eI,eH,ef]
 refine zqx d.bo _ _ _ _ _ _ _ _ ((hd.s1.mono z.inc).lay _ _) _ (λh' x=>?_)
 (replace z:=z.aj x;replace q0:=q0.over x;rw [ak h'])
 simp only [aa,seval,gr]
 refine sj (λh1=>?_) (λhc=>?_)
 rotate_left
 .rw [zvT h0 hc] at hk
  repeat' (first|simp only [aa,seval,gr]|((with_reducible apply gD) <;> intro _))
  all_goals first
   |exact hk _ z.ao
   |(exfalso;omega)
 simp only [aa,seval,gr,q0.lay,↓eI,eH,ef]
 refine ZP d _ _ _ _ _ _ _ _ aY ((hd.mono z.inc).lay _ _) hn _ (λh' x=>?_)
 (replace z:=z.aj x;replace q0:=q0.over x;rw [ak h'])
 simp only [aa,seval,gr]
 refine gD (λhc=>?_) (λh2=>?_)
 .rw [zvQ h0 h1 hc] at hk
  simp only [aa,seval,gr]
  exact hk _ z.ao
 repeat' (first|simp only [aa,seval,gr,q0.lay,yE,En,ki,lu,pc,pZ,sI,rm,ua]|((with_reducible apply bp) <;> intro _))
 iterate 7
  .rw [zvR h0 h1 h2 (by first|omega|(have:=D8 (by omega) (by omega);omega))] at hk
   exact hk _ z.ao
 have Qr:=D8 (by omega) (by omega)
 have pV:¬ (d.cB < 0\/1000 < d.cB\/d.bO < 1\/1048576 < d.bO\/64 < d.rules.length+d.aP.length):=by omega
 rw [zvU h0 h1 h2 pV] at hk
 have e5:d.rules.length<=64:=by omega
 have e6:d.aP.length<=64:=by omega
 obtain ⟨E5,PS⟩:∃ e,e=dw (λ_ c=>nS d c) [] d.rules:=⟨_,rfl⟩
 obtain ⟨E6,PT⟩:∃ e,e=dw (λ_ g=>mU d g) [] d.aP:=⟨_,rfl⟩
 rw [<- PS,<- PT] at hk
 obtain ⟨I1,aU⟩:∃ I:Nat->Env->Heap->Prop,I=(λn e h'=>∃ (i:Nat) (h1:Heap),h'=h1.lay [] h1.low/\Ext h h1/\(n=d.rules.length - i/\i<=d.rules.length/\E5=dw (λ_ c=>nS d c) (d.rules.take i) (d.rules.drop i)/\Holds h1 A0 (.row (cN p0 p1 p2 p5 p6 q b) 29 false))/\∃ J:Nat->ai,e=(J 0::.pointer (some ⟨A0,0,none⟩)::jr J 2 2 (.int .i64 i::jr J 5 129 ([])))):=⟨_,rfl⟩
 refine dK I1 _ (by rw [aU];exact ⟨0,_,rfl,z,⟨rfl,by omega,PS,q0⟩,bx⟩) ?_
 intro n e h' aR
 rw [aU] at aR
 obtain ⟨i,b8,rfl,z,hinv,J,rfl⟩:=aR
 clear q0
 obtain ⟨rfl,hi,cH,q0⟩:=hinv
 have hw:=ec i (by omega)
 simp only [aa,seval,gr,q0.lay,ki,pc,sI]
 refine bp (λaS=>?_) (λaS=>?_)
 .obtain ⟨r,hr,bz⟩:=fx (l:=d.rules) (i:=i) (by omega)
  repeat' (first|simp only [aa,seval,gr,q0.lay,↓eI,eH,ef,ki,pc]|with_reducible refine hH (by simp only [gr]) z.ao ?_|with_reducible_and_instances refine Gx (hd.s5.mono z.inc) jh mC (by omega) hr (λp bv hb hp=>?_)|with_reducible_and_instances refine xh hp zf (λqq hq=>?_)|with_reducible_and_instances refine vJ hq kV dv ?_|with_reducible_and_instances refine xi hp zg (λqq hq=>?_)|with_reducible_and_instances refine iF hq qn ?_)
  refine Ss d r.head r.body bv _ _ _ _ _ _ _ _ aY ((hd.mono z.inc).lay _ _) (hb.lay _ _) _ (λh' x=>?_)
  (((with_reducible refine eu ?_ ?_ ?_);(· exact (by (simp only [ep]);have:=z.size;omega));(· exact x));replace z:=z.aj x;replace q0:=q0.over x;rw [ak h'])
  clear hb
  by_cases kE:ic d r.head r.body=0
  rotate_left
  .have dI:=lN (f:=λ_ c=>nS d c) bz cH (zww kE) kE
   rw [dI,Od kE] at hk
   repeat' (first|simp only [aa,seval,gr,ua]|with_reducible refine hH (by simp only [gr]) z.ao ?_|((with_reducible first|apply sj|apply gD) <;> intro _)|((with_reducible refine ⟨z.eD.lay _ _,?_⟩);(intro _ h' zz x _);(simp only [dy,cU] at x);replace q0:=q0.over x;(replace z:=zz);(clear zz);rw [ak h']))
   all_goals first
    |exact hk _ z.ao
    |(exfalso;omega)
  rw [kE]
  simp only [aa,seval,gr]
  ((with_reducible refine ⟨z.eD.lay _ _,?_⟩);(intro _ h' zz x _);(simp only [dy,cU] at x);replace q0:=q0.over x;(replace z:=zz);(clear zz);rw [ak h'])
  simp only [syms,seval,gr]
  with_reducible first|refine hH (by simp only [gr]) z.ao ?_
  obtain ⟨hz1,Lt,pe⟩:=Y4 kE
  repeat' (first|simp only [aa,seval,gr,q0.lay,ki,pc]|with_reducible_and_instances refine Gx (hd.s5.mono z.inc) jh mC (by omega) hr (λp bv hb hp=>?_)|with_reducible_and_instances refine xh hp zf (λqq hq=>?_)|with_reducible_and_instances refine vJ hq kV dv ?_|with_reducible_and_instances refine xi hp zg (λqq hq=>?_)|with_reducible_and_instances refine iF hq qn ?_)
  refine ZR r.head r.body bv _ (hb.lay _ _) Lt (λx hx=>zwA (pe x hx)) _ (λLR h' x=>?_) (λLR h' x=>?_)
  ·(( ((with_reducible refine eu ?_ ?_ ?_);(· exact (by ( simp only [ep] );have:=z.size;omega));(·  exact x )) );replace z:=z.aj x;( replace q0:=q0.over x );rw [ak h'])
   repeat' (first|simp only [aa,seval,gr]|((with_reducible_and_instances apply bK);(· rfl))|((with_reducible refine ⟨z.eD.lay _ _,?_⟩);(intro _ h' zz x _);(simp only [dy,cU] at x);replace q0:=q0.over x;(replace z:=zz);(clear zz);rw [ak h']))
   rw [hw]
   (rw [aU];with_reducible refine db (m:=_) ?_ ⟨i+1,_,rfl,z,⟨rfl,by omega,y6 (f:=λ_ c=>nS d c) bz cH (zwu kE LR),q0⟩,bx⟩;omega)
  .have dI:=lN (f:=λ_ c=>nS d c) bz cH (zwv kE LR) (by decide)
   rw [dI,Od (by decide)] at hk
   (((with_reducible refine eu ?_ ?_ ?_);(· exact (by (simp only [ep]);have:=z.size;omega));(· exact x));replace z:=z.aj x;replace q0:=q0.over x;rw [ak h'])
   repeat' (first|simp only [aa,seval,gr]|((with_reducible_and_instances apply bK);(· rfl))|((with_reducible refine ⟨z.eD.lay _ _,?_⟩);(intro _ h' zz x _);(simp only [dy,cU] at x);replace q0:=q0.over x;(replace z:=zz);(clear zz);rw [ak h']))
   exact hk _ z.ao
 have KP:=yX cH (by omega)
 rw [Oe KP] at hk
 clear hi aS hw cH
 simp only [aa,seval,gr]
 obtain ⟨I2,fV⟩:∃ I:Nat->Env->Heap->Prop,I=(λn e h'=>∃ (i:Nat) (h1:Heap),h'=h1.lay [] h1.low/\Ext h h1/\(n=d.aP.length - i/\i<=d.aP.length/\E6=dw (λ_ g=>mU d g) (d.aP.take i) (d.aP.drop i)/\Holds h1 A0 (.row (cN p0 p1 p2 p5 p6 q b) 29 false))/\∃ J:Nat->ai,e=(J 0::.pointer (some ⟨A0,0,none⟩)::jr J 2 3 (.int .i64 i::jr J 6 128 ([])))):=⟨_,rfl⟩
 refine dK I2 _ (by rw [fV];exact ⟨0,_,rfl,z,⟨rfl,by omega,PT,q0⟩,bx⟩) ?_
 intro n e h' aR
 rw [fV] at aR
 obtain ⟨i,b8,rfl,z,hinv,J,rfl⟩:=aR
 clear q0
 obtain ⟨rfl,hi,cH,q0⟩:=hinv
 have hw:=ec i (by omega)
 simp only [aa,seval,gr,q0.lay,lu,pZ,rm]
 refine bp (λaS=>?_) (λaS=>?_)
 rotate_left
 .rw [yX cH (by omega)] at hk
  repeat' (simp only [aa,seval,gr])
  exact hk _ z.ao
 obtain ⟨r,hr,bz⟩:=fx (l:=d.aP) (i:=i) (by omega)
 repeat' (first|simp only [aa,seval,gr,q0.lay,lu,pZ,i7,kS,Am.one,Bool.true_and,iZ,zxs]|with_reducible_and_instances refine IU (hd.s6.mono z.inc) j3 lz (by omega) hr (λp bv hb hp=>?_)|with_reducible_and_instances refine Qz hp wQ lz ?_)
 have Wn:(r.head.cells++[bv]).all Am.one=true:=by have:=hb.one;simp only [ae.cells,List.all_append,kS,mL,this];rfl
 have Qh:(r.head.cells++[bv]).length=12:=rfl
 have xy:∀ (h:Heap) (K:aF),aE (some bv) h K=K bv h:=λ_ _=>rfl
 have Lg:(Value.string r.to::(r.head.cells++[bv]))[0]? = some (.string r.to):=rfl
 have Dt:(Value.string r.to::(r.head.cells++[bv]))[1]? = some (.string r.head.says):=rfl
 have Lh:(Value.string r.to::(r.head.cells++[bv]))[12]? = some bv:=rfl
 have VT:cut (Value.string r.to::(r.head.cells++[bv])) 1 11=some r.head.cells:=rfl
 rw [aC Qh,aC (by rw [Qh,Wn];rfl),show (Value.string r.to::(r.head.cells++bv::List.drop (r.head.cells++[bv]).length [Value.string ⟨#[]⟩,Value.string ⟨#[]⟩,Value.int IntKind.i64 0,Value.bool false,Value.string ⟨#[]⟩,Value.bool false,Value.string ⟨#[]⟩,Value.bool false,Value.string ⟨#[]⟩,Value.bool false,Value.string ⟨#[]⟩,Value.slice none 0 0]))=Value.string r.to::(r.head.cells++[bv]) from rfl]
 repeat' (simp only [aa,seval,gr,q0.lay,↓eI,eH,ef])
 refine uF d.ah r.to _ _ _ _ _ _ _ _ ((hd.s0.mono z.inc).lay _ _) _ (λh' x=>?_)
 have g0:=Holds.top (i:=0) x rfl
 (replace z:=z.aj x;replace q0:=q0.over x;replace hb:=hb.over x;rw [ak h'])
 obtain ⟨A1,j5⟩:∃ A1,A1=b8.size+0:=⟨_,rfl⟩
 rw [<- j5] at g0
 rw [<- j5]
 rw [uJ]
 cases hh:aM d.ah r.to
 .rw [lN (f:=λ_ g=>mU d g) bz cH (ztL hh) (by decide)] at hk
  repeat' (first|simp only [aa,seval,gr]|((with_reducible_and_instances apply bK);(· rfl)))
  exact hk _ z.ao
 repeat' (first|simp only [aa,seval,gr,g0.lay,Lg,Dt,q0.lay,↓eI,eH,ef,↓VT,dO,dx,Lh,xy]|((with_reducible apply bp) <;> intro _)|((with_reducible_and_instances apply bK);(· rfl)))
 .rw [lN (f:=λ_ g=>mU d g) bz cH (zr9 hh (by assumption)) (by decide)] at hk
  exact hk _ z.ao
 have aV:¬ r.to=r.head.says:=by assumption
 refine Ss d r.head r.body bv _ _ _ _ _ _ _ _ aY ((hd.mono z.inc).lay _ _) (hb.lay _ _) _ (λh' x=>?_)
 (replace z:=z.aj x;replace q0:=q0.over x;replace g0:=g0.over x;replace hb:=hb.over x;rw [ak h'])
 have Du:=ztM hh aV
 simp only [aa,seval,gr]
 refine gD (λhc=>?_) (λh0=>?_)
 .rw [lN (f:=λ_ g=>mU d g) bz cH Du hc] at hk
  simp only [aa,seval,gr]
  exact hk _ z.ao
 .simp only [aa,seval,gr,ua]
  rw [hw]
  (rw [fV];with_reducible refine db (m:=_) ?_ ⟨i+1,_,rfl,z,⟨rfl,by omega,y6 (f:=λ_ g=>mU d g) bz cH (Du.trans h0),q0⟩,bx⟩;omega)
end Go.Proofs.YtjildadoepadeaaGreatDoor
