/- Walks: a state goes through the answers that are there. Written out by fill2.py. No condition. -/
import Derived.Test.YtnkmeidmdaidhaaGreatDoorG39
import Derived.Test.YtnkmeidmdaidhaaGreatDoorG40
set_option linter.unusedSimpArgs false
set_option linter.unusedVariables false
namespace Go.Proofs.YtnkmeidmdaidhaaGreatDoor
open Go.Am Tryz
set_option maxRecDepth 100000
set_option maxHeartbeats 0
theorem zrC (v w:ai) (n:ae):(n.cells++[v,w])[11]? = some v:=rfl
theorem OG (v w:ai) (n:ae):(n.cells++[v,w])[12]? = some w:=rfl
theorem zza (a b c u v w:ai) (n:ae):cut (a::b::c::u::(n.cells++[v,w])) 4 11=some n.cells:=rfl
theorem zzU (a b n:Int) (wa:Option Addr) (wn wc:Nat):nP aJ 101 [(0,.int .i64 a),(1,.int .i64 b),(2,.int .i64 n),(3,.slice wa wn wc)]=some (.agg ⟨[.int .i64 a,.int .i64 b,.int .i64 n,.slice wa wn wc]++ah.cells++[.int .i64 0,.int .i64 0]⟩):=by kernel_rfl
theorem zvq {h hc:Heap} {E:List Nat} {y:cG} {bZ vf:ai} {d:aY} (z:Ext h hc) (v:Am.Inv il h E y bZ vf d hc) {k:Nat} {s:dv} (hs:d.ab[k]? = some s) {j:Nat} (hj:s.clause=(j:Int)) {c9:aX} (xu:d.calls[s.src]? = some c9) (gO:s.l.length<=400) (cV:s.taken<=1000) (hB:∀ i,qb (fH k ((c9.answers.drop s.seen).take i) d)) (K:aO) {e:Env}
 (he:∃ J:Nat->ai,e=(.pointer (some ⟨y.pl .w,0,none⟩)::jr J 1 3 (.pointer (some ⟨y.pl (.s k),0,none⟩)::jr J 5 143 ([]))))
 (hk:∀ h' E' y' u,Ext h h'->Am.Inv il h E' y' bZ vf (fH k (c9.answers.drop s.seen) d) h'->ec d.ab.length E E' y y' hc h'->K u h'):W prog aJ ov none (MF 23) e (hc.lay [] hc.low) (Co prog aJ ov none (MF 24) (eu aJ f32 K)):=by
 obtain ⟨J,rfl⟩:=he
 have g:=aR.refl [] hc
 have qw:=im v
 have qs:=na v hs
 rw [hj] at qs
 have hz:=z.size
 have oX:qb d:=hB 0
 have qi:=ek xu
 simp only [cv,seval]
 with_reducible first|refine eF (by simp only [eJ]) z.aw ?_
 simp only [aa,seval,eJ,qw.lay,qs.lay,zrC]
 refine zlp ((v.bf g).bf (aR.lay _ _ _ _)) xu (by have:=oX.calls;omega) (by have:=oX.lq _ qi;omega) _ (λh' w A x om=>?_)
 (((with_reducible refine fP ?_ ?_ ?_);(· exact (by (simp only [gh]);have:=z.size;omega));(· exact x));replace z:=z.au x;replace g:=g.over x;replace qw:=qw.over x;replace qs:=qs.over x;rw [az h'])
 have hw:Sl aG.atom (bp E h') w c9.answers:=om.bp (λ_ _ _ _ h=>h) (by decide) (λX hX=>by rw [br];have:=v.eA X hX;have:=g.size;omega)
 have Ja:=λ(hh:Heap)=>(hw.mono (ui _ _)).bW cM hh
 have g2:aR [] h' h':=aR.refl [] h'
 simp only [aa,seval,eJ]
 ((with_reducible refine ⟨z.cS.lay _ _,?_⟩);(intro _ h' zz x _);(simp only [bS,bD] at x);replace g:=g.over x;replace qw:=qw.over x;replace qs:=qs.over x;replace g2:=g2.over x;(replace z:=zz);(clear zz);rw [az h'])
 have pe:Sl aG.atom (bp E h') w c9.answers:=hw.mono ((g2.wide (D':=E) (by simp)).inc (λB hB=>.inl hB))
 have sX:=(ec.refl d.ab.length E y hc).bf g
 have vX:=v.bf g
 obtain ⟨hX,te⟩:∃ hX,hX=h':=⟨_,rfl⟩
 have TZ:Sl aG.atom (bp E hX) w c9.answers:=by rw [te];exact pe
 have sY:ec d.ab.length E E y y hX h':=by rw [te];exact ec.refl _ _ _ _
 rw [<- te] at sX
 clear te
 simp only [syms,seval,eJ]
 obtain ⟨I1,bo⟩:∃ I:Nat->Env->Heap->Prop,I=(λn e h'=>∃ (i:Nat) (E2:List Nat) (y2:cG) (d2:aY) (h1:Heap),h'=h1.lay [] h1.low/\Ext h h1/\(n=c9.answers.length - (s.seen+i)/\d2=fH k ((c9.answers.drop s.seen).take i) d/\d2.ab[k]? = some { s with seen:=s.seen+i }/\Am.Inv il h E2 y2 bZ vf d2 h1/\ec d.ab.length E E2 y y2 hX h1)/\∃ J:Nat->ai,e=(.pointer (some ⟨y.pl .w,0,none⟩)::jr J 1 3 (.pointer (some ⟨y.pl (.s k),0,none⟩)::J 5::w::jr J 7 141 ([])))):=⟨_,rfl⟩
 refine fh I1 _ (by rw [bo];exact ⟨0,E,y,d,_,rfl,z,⟨rfl,rfl,hs,vX,sY⟩,bO⟩) ?_
 intro n e h' aU
 rw [bo] at aU
 obtain ⟨i,E2,y2,d2,cF,rfl,z,hinv,J,rfl⟩:=aU
 clear vX sY g g2 qw qs
 obtain ⟨rfl,kC,eE,v2,s2⟩:=hinv
 have sQ:=hB i
 rw [<- kC] at sQ
 have qw:=im v2
 have qs:=na v2 eE
 rw [s2.w,s2.t] at qw
 rw [s2.s k (ao hs),s2.v k (ao hs)] at qs
 dsimp only at qs
 rw [hj] at qs
 have mi:=z.size
 have mF:Sl aG.atom cF w c9.answers:=(TZ.mono s2.inc).mono (ui _ _)
 have g:=aR.refl [] cF
 simp only [aa,seval,eJ,qs.lay,OG,Ja]
 refine cm (λbc=>?_) (λbc=>?_)
 rotate_left
 .have aE:fH k (c9.answers.drop s.seen) d=d2:=by rw [kC,iR (by rw [mB];omega)]
  rw [aE] at hk
  repeat' (simp only [aa,seval,eJ])
  exact hk _ E2 y2 _ z.aw (v2.bf (g.trans (aR.lay _ _ _ []) (by simp))) ((sX.trans s2 (aQ _)).bf (g.trans (aR.lay _ _ _ []) (by simp)))
 simp only [aa,seval,eJ]
 rw [<- s2.w]
 refine W6 (v2.bf (g.trans (aR.lay _ _ _ []) (by simp))) _ (λh' x=>?_)
 (replace z:=z.au x;replace g:=g.over x;replace qw:=qw.over x;replace qs:=qs.over x;rw [az h'])
 rw [s2.w]
 have Na:(c9.answers.drop s.seen)[i]? = c9.answers[s.seen+i]? := by rw [lJ]
 by_cases jg:d2.aD < (d2.steps:Int)
 .have aE:fH k (c9.answers.drop s.seen) d=d2:=by rw [<- GS i (c9.answers.drop s.seen),Vm,<- kC,wX jg]
  rw [aE] at hk
  rw [sH jg]
  repeat' (first|simp only [aa,seval,eJ]|((with_reducible apply cK);(· rfl)))
  exact hk _ E2 y2 _ z.aw (v2.bf (g.trans (aR.lay _ _ _ []) (by simp))) ((sX.trans s2 (aQ _)).bf (g.trans (aR.lay _ _ _ []) (by simp)))
 rw [tO jg]
 repeat' (first|simp only [aa,seval,eJ]|((with_reducible apply cK);(· rfl)))
 obtain ⟨a,ha,Ip⟩:=i4 (l:=c9.answers) (i:=s.seen+i) bc
 with_reducible first|refine eF (by simp only [eJ]) z.aw ?_
 simp only [aa,seval,eJ,qs.lay,↓zza,OG,eG,dS]
 refine tH (mF.mono g.all) cM cw (by omega) ha (λp hp=>?_)
 simp only [aa,seval,eJ]
 refine rj hp jb cw ?_
 clear hp
 simp only [aa,seval,eJ]
 refine WA s.next a _ _ (λh' w2 b x jU wB=>?_)
 (((with_reducible refine fP ?_ ?_ ?_);(· exact (by (simp only [gh]);have:=z.size;omega));(· exact x));replace z:=z.au x;replace g:=g.over x;replace qw:=qw.over x;replace qs:=qs.over x;rw [az h'])
 have TY:∀ (h:Heap) (K:aO),aM (some w2) h K=K w2 h:=λ_ _=>rfl
 have tZ:∀ (s:Bool) (h:Heap) (K:aO),aM (some (.bool s)) h K=K (.bool s) h:=λ_ _ _=>rfl
 have ff:∀ m,bz [] s.next a=some m->Sl aG.bind (h'.lay [] h'.low) w2 m:=λm hm=>(wB m hm).2.lay _ _
 have g3:aR [] h' h':=aR.refl [] h'
 simp only [aa,seval,eJ,TY,tZ]
 ((with_reducible refine ⟨z.cS.lay _ _,?_⟩);(intro _ h' zz x _);(simp only [bS,bD] at x);replace g:=g.over x;replace qw:=qw.over x;replace qs:=qs.over x;replace g3:=g3.over x;(replace z:=zz);(clear zz);rw [az h'])
 simp only [aa,seval,eJ]
 have ZI:IntKind.i64.wrap (((s.seen+i:Nat):Int)+1)=((s.seen+(i+1):Nat):Int):=by have:=oX.lq _ qi;rw [fQ (by omega) (by omega)];omega
 have kq:(c9.answers.drop s.seen).take (i+1)=(c9.answers.drop s.seen).take i++[a]:=by rw [oT,Na,Ip];rfl
 have M8:fH k ((c9.answers.drop s.seen).take (i+1)) d=bI k { s with seen:=s.seen+i } a d2:=by rw [kq,Vm,<- kC,tz jg eE];rfl
 have ta:(bI k { s with seen:=s.seen+i } a d2).ab[k]? = some { s with seen:=s.seen+(i+1) }:=Ox (a:=a) eE
 have xG:=z.size
 have zi:=s2.s k (ao hs)
 have ZF:=s2.v k (ao hs)
 have TE:=v2.own (.s k) (ao eE)
 have Jy:=v2.new _ TE
 rw [zi] at Jy
 cases hex:bz [] s.next a with
 |none =>
  have hb:=jU hex
  subst hb
  repeat' (simp only [aa,seval,eJ,qs.lay,OG,ZI])
  have v3:=v2.bf g
  have s3:=s2.bf g
  have yI:bI k { s with seen:=s.seen+i } a d2={ d2 with ab:=d2.ab.set k { s with seen:=s.seen+(i+1) } }:=by unfold bI;dsimp only;rw [hex];rfl
  refine jL (n:=1) (o:=16) (vs:=[.int .i64 ((s.seen+(i+1):Nat):Int)]) qs zD rfl rfl (by show 16+1<=17;omega) rfl (λh8 q8 j7=>?_)
  have z8:=(z.jK [] h'.low (by omega)).step j7 Jy
  obtain ⟨E8,v8,s8⟩:=v3.state xG eE (s':={ s with seen:=s.seen+(i+1) }) rfl (by rw [zi];exact (aR.refl [y.pl (.s k)] h').eN j7 (.inl (by simp))) (by rw [zi,ZF];unfold sk;rw [hj];exact q8)
  have s9:=s3.trans s8 (by rw [kC];exact Oz k _ d)
  rw [<- yI,<- M8] at v8
  rw [az h8]
  clear z g qs qw
  have z:=z8
  simp only [aa,seval,eJ]
  (rw [bo];with_reducible refine dA (m:=_) ?_ ⟨i+1,E8,y2,fH k ((c9.answers.drop s.seen).take (i+1)) d,_,rfl,z,⟨rfl,rfl,by rw [M8];exact ta,v8,s9⟩,bO⟩;omega)
 |some m =>
  obtain ⟨hb,_⟩:=wB m hex
  subst hb
  have tY:=(wB m hex).2.mono g3.all
  have DU:∀ (h:Heap) (K:aO),aM (some (y.vl (.s k))) h K=K (y.vl (.s k)) h:=λ_ _=>rfl
  have yW:Sl aG.bind h' (y.vl (.s k)) s.l:=by have:=v2.fz k _ eE;rw [ZF] at this;exact (this.mono (ui _ _)).mono g.all
  have Je:=zrK hex
  have Dk:=(xU di hex).1
  simp only [aa,seval,eJ,qs.lay,DU]
  refine ztQ s.l m _ _ _ (yW.lay _ _) (tY.lay _ _) gO (by simp only [dK] at Je;omega) Dk _ (λh' w3 e3 x ow=>?_)
  obtain ⟨Aw,J9⟩:=ow
  obtain ⟨wa,wn,wc,rfl⟩:=J9.slice
  have o0:Sl aG.bind (bp E2 h') (.slice wa wn wc) (jq s.l m):=J9.bp (λ_ _ _ _ h=>h) (by decide) (λX hX=>by rw [br];have:=v2.eA X hX;have:=g.size;omega)
  (replace z:=z.au x;replace g:=g.over x;replace qw:=qw.over x;replace qs:=qs.over x;rw [az h'])
  have g4:aR [] h' h':=aR.refl [] h'
  repeat' (simp only [aa,seval,eJ])
  have gA:IntKind.i64.wrap ((s.taken:Int)+1)=((s.taken+1:Nat):Int):=by rw [fQ (by omega) (by omega)];omega
  have Tg:Sl aG.bind (bp E2 h') (.slice wa wn wc) (jq s.l m):=o0.mono ((g4.wide (D':=E2) (by simp)).inc (λB hB=>.inl hB))
  have rh:=z.size
  with_reducible first|refine eF (by simp only [eJ]) z.aw ?_
  simp only [aa,seval,eJ,qs.lay,gA,zzU]
  refine nL (by have:=z.size;omega) (by omega) ?_
  simp only [aa,seval,eJ]
  have v4:=v2.bf g
  have s4:=s2.bf g
  rw [<- s4.w]
  refine zr1 rh z.aw v4 (aR.lay _ _ _ _) (As:=h'.size+0) (s:=⟨s.call,s.clause,s.taken+1,jq s.l m,ah,0,0⟩) (lv:=.slice wa wn wc) (by omega) ⟨by rw [br];simp,by rw [kE];unfold sk;rw [hj];rfl⟩ Tg sQ.steps sQ.queue sQ.ab _ (λh5 E5 y5 u5 MT z5 v5 s5=>?_)
  rw [s4.w]
  refine F6 (by kernel_rfl) z5.low (by rw [br];simp only [eB,dK];omega) ?_
  have s6:=s4.trans s5 (by rw [kC];exact Oz k _ d)
  have DF:=s6.s k (ao hs)
  have JN:=s6.v k (ao hs)
  have DJ:(jB d2 ⟨s.call,s.clause,s.taken+1,jq s.l m,ah,0,0⟩).ab[k]? = some { s with seen:=s.seen+i }:=by
   show (d2.ab++[_])[k]? = _
   rw [jC (ao eE)]
   exact eE
  have qs:=na v5 DJ
  rw [DF,JN] at qs
  dsimp only at qs
  rw [hj] at qs
  have z:=z5
  have g5:=aR.refl [] h5
  rw [az h5]
  clear qw g g4
  simp only [cv,seval,eJ]
  ((with_reducible refine ⟨z.cS.lay _ _,?_⟩);(intro _ h' zz x _);(simp only [bS,bD] at x);replace qs:=qs.over x;replace g5:=g5.over x;(replace z:=zz);(clear zz);rw [az h'])
  have wC:=z.size
  repeat' (simp only [aa,seval,eJ,qs.lay,OG,ZI])
  have v7:=v5.bf g5
  have s7:=s6.bf g5
  have yI:bI k { s with seen:=s.seen+i } a d2={ jB d2 ⟨s.call,s.clause,s.taken+1,jq s.l m,ah,0,0⟩ with ab:=(jB d2 ⟨s.call,s.clause,s.taken+1,jq s.l m,ah,0,0⟩).ab.set k { s with seen:=s.seen+(i+1) } }:=by unfold bI;dsimp only;rw [hex];rfl
  refine jL (n:=1) (o:=16) (vs:=[.int .i64 ((s.seen+(i+1):Nat):Int)]) qs zD rfl rfl (by show 16+1<=17;omega) rfl (λh8 q8 j7=>?_)
  have z8:=(z.jK [] h'.low (by omega)).step j7 Jy
  obtain ⟨E8,v8,s8⟩:=v7.state wC DJ (s':={ s with seen:=s.seen+(i+1) }) rfl (by rw [DF];exact (aR.refl [y.pl (.s k)] h').eN j7 (.inl (by simp))) (by rw [DF,JN];unfold sk;rw [hj];exact q8)
  have s9:=s7.trans s8 (by rw [<- (show (bI k { s with seen:=s.seen+i } a d2).ab.length=(jB d2 ⟨s.call,s.clause,s.taken+1,jq s.l m,ah,0,0⟩).ab.length by rw [yI];exact iS)];exact dZ (by rw [kC];exact Oz k _ d) (zpq k _ a d2))
  rw [<- yI,<- M8] at v8
  rw [az h8]
  clear z qs
  have z:=z8
  simp only [aa,seval,eJ]
  (rw [bo];with_reducible refine dA (m:=_) ?_ ⟨i+1,E8,y5,fH k ((c9.answers.drop s.seen).take (i+1)) d,_,rfl,z,⟨rfl,rfl,by rw [M8];exact ta,v8,s9⟩,bO⟩;omega)
end Go.Proofs.YtnkmeidmdaidhaaGreatDoor
namespace Go.Am
variable {k:Nat}
structure mO (cl:List aq) (n:Nat) (s:dv):Prop where
 call:s.call < n
 CJ:∃ (j:Nat) (c:aq),s.clause=(j:Int)/\cl[j]? = some c/\s.taken<=c.body.length
 len:s.l.length<=4+4*s.taken
 src:s.src < n
def yc (s:dv):Bool:=decide (s.next.pred≠⟨#[]⟩)
def ux (l:List dv):Nat:=l.countP yc
structure dU (cl:List aq) (e:Nat) (d:aY):Prop where
 st:∀ (k:Nat) s,d.ab[k]? = some s->mO cl d.calls.length s
 q:∀ k∈d.queue,k < d.ab.length
 wb:∀ c∈d.calls,∀ k∈c.waiters,k < d.ab.length
 wn:∀ c∈d.calls,c.waiters.Nodup
 cb:d.calls.length<=ux d.ab+e
theorem znS (l:List dv):ux l<=l.length:=List.countP_le_length
theorem zp0 (l:List dv) (s:dv):ux l<=ux (l++[s]):=by
 unfold ux
 rw [List.countP_append]
 exact G5 _ _
theorem zs1 {l:List dv} {s s':dv} (h:l[k]? = some s):ux (l.set k s')+(if yc s=true then 1 else 0)=ux l+(if yc s'=true then 1 else 0):=by
 induction l generalizing k with
 |nil=>simp at h
 |cons x l ih =>
  cases k with
  |zero =>
   simp only [Cb,dR] at h
   subst h
   rw [fW]
   unfold ux
   rw [G3,G3]
   omega
  |succ k =>
   have:=ih (k:=k) (by simpa using h)
   rw [Ce]
   unfold ux at this ⊢
   rw [G3,G3]
   omega
section
variable {cl:List aq} {e:Nat} {d:aY}
theorem mO.mono {n m:Nat} {s:dv} (h:mO cl n s) (hn:n<=m):mO cl m s:=⟨dt h.call hn,h.CJ,h.len,dt h.src hn⟩
theorem dU.mono {e':Nat} (h:dU cl e d) (he:e<=e'):dU cl e' d:=⟨h.st,h.q,h.wb,h.wn,by have:=h.cb;omega⟩
theorem dU.begin (h:dU cl e d) {s:dv} (hs:mO cl d.calls.length s):dU cl e (jB d s):=by
 have hl:(jB d s).ab.length=d.ab.length+1:=by
  show (d.ab++[s]).length=_
  rw [cT,jk]
 refine ⟨λk t ht=>?_,λk hk=>?_,λc hc k hk=>?_,h.wn,?_⟩
 .have bc:=ao ht
  change (d.ab++[s])[k]? = some t at ht
  by_cases hk:k < d.ab.length
  .rw [jC hk] at ht
   exact h.st k t ht
  .rw [lj (by omega)] at ht
   have:k - d.ab.length=0:=by omega
   rw [this] at ht
   cases ht
   exact hs
 .rw [hl]
  rcases iT.1 hk with hk|hk
  .have:=h.q k hk;omega
  .rw [eM.1 hk];omega
 .rw [hl]
  have:=h.wb c hc k hk;omega
 .show d.calls.length<=ux (d.ab++[s])+e
  have:=h.cb
  have:=zp0 d.ab s
  omega
theorem dU.calls {d':aY} (h:dU cl e d) (hs:d'.ab=d.ab) (hl:d'.calls.length=d.calls.length) (hw:∀ c∈d'.calls,∃ c0∈d.calls,c.waiters=c0.waiters) (hq:∀ k∈d'.queue,k∈d.queue\/∃ c∈d.calls,k∈c.waiters):dU cl e d':=by
 refine ⟨λk s ti=>?_,λk hk=>?_,λc hc k hk=>?_,λc hc=>?_,by rw [hs,hl];exact h.cb⟩
 .rw [hl];exact h.st k s (hs ▸ ti)
 .rw [hs]
  rcases hq k hk with g|⟨c,hc,g⟩
  .exact h.q k g
  .exact h.wb c hc k g
 .rw [hs]
  obtain ⟨c0,h0,e0⟩:=hw c hc
  exact h.wb c0 h0 k (e0 ▸ hk)
 .obtain ⟨c0,h0,e0⟩:=hw c hc
  rw [e0];exact h.wn c0 h0
theorem znJ (d:aY) (i:Nat) (a:ae):∀ c∈(bl d i a).1.calls,∃ c0∈d.calls,c.waiters=c0.waiters:=by
 intro c hc
 unfold bl at hc
 split at hc
 .rename_i c0 jn
  split at hc
  .exact ⟨c,hc,rfl⟩
  .rcases yd hc with hc|rfl
   .exact ⟨c,hc,rfl⟩
   .exact ⟨c0,ek jn,rfl⟩
 .exact ⟨c,hc,rfl⟩
theorem ztz (d:aY) (r:ba):(lI d r).calls=d.calls/\(lI d r).ab=d.ab/\(lI d r).queue=d.queue/\(lI d r).steps=d.steps/\(lI d r).aD=d.aD:=by
 unfold lI
 split <;> exact ⟨rfl,rfl,rfl,rfl,rfl⟩
theorem tA (d:aY) (i:Nat) (r:ba):(gj d i r).aD=d.aD/\(gj d i r).calls=(bl d i r.atom).1.calls/\(gj d i r).calls.length=d.calls.length/\d.steps<=(gj d i r).steps /\
 (gj d i r).queue=d.queue++(if (bl d i r.atom).2=true then (((bl d i r.atom).1.calls[i]?).map aX.waiters).getD [] else []):=by
 obtain ⟨k1,k2,k3,k4,k5,k6,k7⟩:=Gj d i r.atom
 unfold gj
 split
 .rename_i hn
  obtain ⟨g1,g2,g3,g4,g5⟩:=ztz { (bl d i r.atom).1 with steps:=d.steps+1 } r
  refine ⟨g5.trans k6,g1,(congrArg List.length g1).trans k7,?_,?_⟩
  .show d.steps<=(lI { (bl d i r.atom).1 with steps:=d.steps+1 } r).steps
   rw [g4];exact mN _
  .show (lI { (bl d i r.atom).1 with steps:=d.steps+1 } r).queue++(((lI { (bl d i r.atom).1 with steps:=d.steps+1 } r).calls[i]?).map aX.waiters).getD []=_
   rw [g1,g3]
   show (bl d i r.atom).1.queue++_=_
   rw [k2]
 .exact ⟨k6,rfl,k7,by rw [k1];exact aQ _,by rw [k2,bD]⟩
theorem dU.answer (h:dU cl e d) (i:Nat) (r:ba):dU cl e (gj d i r):=by
 obtain ⟨k1,k2,k3,k4,k5⟩:=tA d i r
 refine h.calls (F4 d i r) k3 (λc hc=>znJ d i r.atom c (k2 ▸ hc)) (λk hk=>?_)
 rw [k5] at hk
 rcases iT.1 hk with hk|hk
 .exact .inl hk
 .split at hk
  .cases hc:(bl d i r.atom).1.calls[i]? with
   |none=>rw [hc] at hk;cases hk
   |some c =>
    rw [hc] at hk
    obtain ⟨c0,h0,e0⟩:=znJ d i r.atom c (ek hc)
    have hk:k∈c.waiters:=hk
    exact .inr ⟨c0,h0,e0 ▸ hk⟩
  .cases hk
theorem dU.open (h:dU cl e d) (a:ae):dU cl (e+1) (cY d a).1:=by
 unfold cY
 split
 .exact h.mono (mN _)
 split
 .exact h.mono (mN _)
 .have hl:(d.calls++[(⟨bC a,[],[]⟩:aX)]).length=d.calls.length+1:=by rw [cT,jk]
  refine ⟨λk s hs=>?_,h.q,λc hc=>?_,λc hc=>?_,?_⟩
  .show mO cl (d.calls++[_]).length s
   rw [hl]
   exact (h.st k s hs).mono (mN _)
  .rcases iT.1 hc with hc|hc
   .exact h.wb c hc
   .rw [eM.1 hc];nofun
  .rcases iT.1 hc with hc|hc
   .exact h.wn c hc
   .rw [eM.1 hc];exact List.nodup_nil
  .show (d.calls++[_]).length<=ux d.ab+(e+1)
   rw [hl]
   have:=h.cb
   omega
theorem zoX {a:ae} (h:¬ bm a):cY d a=(d,0,false):=by
 unfold cY
 rw [aB h]
theorem dU.iI (i:Nat):∀ (l:aN) {d:aY},dU cl e d->dU cl e (jM d i l)
 | [],d,h=>h
 |f::l,d,h=>dU.iI i l (h.answer i ⟨f,-1,[]⟩)
theorem K0 (i:Nat) (a:ae):∀ (cs:List aq) (k:Nat) (d:aY),(gk d i a k cs).calls=d.calls/\(gk d i a k cs).aD=d.aD/\d.steps<=(gk d i a k cs).steps
 | [],k,d=>⟨rfl,rfl,aQ _⟩
 |c::cs,k,d=>by
  rw [gk]
  cases j8 a c.head with
  |none=>exact K0 i a cs (k+1) d
  |some l =>
   obtain ⟨h1,h2,h3⟩:=K0 i a cs (k+1) (jB d ⟨i,(k:Int),0,l,ah,0,0⟩)
   exact ⟨h1,h2,dZ (mN _) h3⟩
theorem VM (i:Nat):∀ (l:aN) (d:aY),(jM d i l).calls.length=d.calls.length/\(jM d i l).aD=d.aD/\d.steps<=(jM d i l).steps
 | [],d=>⟨rfl,rfl,aQ _⟩
 |f::l,d=>by
  obtain ⟨h1,h2,h3⟩:=VM i l (gj d i ⟨f,-1,[]⟩)
  obtain ⟨k1,k2,k3,k4,k5⟩:=tA d i ⟨f,-1,[]⟩
  exact ⟨h1.trans k3,h2.trans k1,dZ k4 h3⟩
theorem dU.dr (i:Nat) (a:ae):∀ (cs:List aq) (k:Nat) {d:aY},dU cl e d->i < d.calls.length->(∀ (j:Nat) c,cs[j]? = some c->cl[k+j]? = some c)->dU cl e (gk d i a k cs)
 | [],k,d,h,hi,hc=>h
 |c::cs,k,d,h,hi,hc=>by
  rw [gk]
  have dO:∀ (j:Nat) c',cs[j]? = some c'->cl[k+1+j]? = some c':=λj c' hj=>by
   have:=hc (j+1) c' (by simpa using hj)
   rwa [show k+(j+1)=k+1+j by omega] at this
  cases hu:j8 a c.head with
  |none=>exact dU.dr i a cs (k+1) h hi dO
  |some l =>
   refine dU.dr i a cs (k+1) (h.begin ⟨hi,⟨k,c,rfl,by simpa using hc 0 c (by simp),jl _⟩,zuy hu,by show 0 < _;omega⟩) hi dO
theorem zoY (d:aY) (a:ae):(cY d a).1.aD=d.aD/\(cY d a).1.steps=d.steps:=by
 unfold cY
 split
 .exact ⟨rfl,rfl⟩
 .split <;> exact ⟨rfl,rfl⟩
theorem BP (facts:aN) (cl:List aq) (d:aY) (a:ae):(aT facts cl d a).1.aD=d.aD/\d.steps<=(aT facts cl d a).1.steps/\(aT facts cl d a).1.calls.length=(cY d (bC a)).1.calls.length/\(aT facts cl d a).2=(cY d (bC a)).2.1:=by
 obtain ⟨o1,o2⟩:=zoY d (bC a)
 unfold aT
 split
 .obtain ⟨h1,h2,h3⟩:=K0 (cY d (bC a)).2.1 (bC (bC a)) cl 0 (jM (cY d (bC a)).1 (cY d (bC a)).2.1 (fB (bC (bC a)) facts))
  obtain ⟨g1,g2,g3⟩:=VM (cY d (bC a)).2.1 (fB (bC (bC a)) facts) (cY d (bC a)).1
  exact ⟨h2.trans (g2.trans o1),dZ (uJ o2.symm) (dZ g3 h3),(congrArg List.length h1).trans g1,rfl⟩
 .exact ⟨o1,uJ o2.symm,rfl,rfl⟩
theorem dU.aT (h:dU cl e d) (facts:aN) (a:ae):dU cl (e+1) (aT facts cl d a).1:=by
 have ho:=h.open (bC a)
 unfold Am.aT
 split
 .rename_i hn
  obtain ⟨o1,o2⟩:=Wd hn
  refine dU.dr _ _ cl 0 (dU.iI _ _ ho) ?_ (λj c hj=>by rw [i5];exact hj)
  rw [(VM _ _ _).1,o1,o2]
  show d.calls.length < (d.calls++[_]).length
  rw [cT,jk];omega
 .exact ho
theorem dU.state (h:dU cl e d) {s s':dv} (hk:d.ab[k]? = some s) (hs:mO cl d.calls.length s') {e':Nat} (he:e+(if yc s=true then 1 else 0)<=e'+(if yc s'=true then 1 else 0)):dU cl e' { d with ab:=d.ab.set k s' }:=by
 have hl:(d.ab.set k s').length=d.ab.length:=iS
 refine ⟨λj t ht=>?_,λj hj=>?_,λc hc j hj=>?_,h.wn,?_⟩
 .change (d.ab.set k s')[j]? = some t at ht
  by_cases hj:j=k
  .subst hj
   rw [mz (ao hk)] at ht
   cases ht
   exact hs
  .rw [yf (λq=>hj q.symm)] at ht
   exact h.st j t ht
 .show j < (d.ab.set k s').length
  rw [hl];exact h.q j hj
 .show j < (d.ab.set k s').length
  rw [hl];exact h.wb c hc j hj
 .show d.calls.length<=ux (d.ab.set k s')+e'
  have h1:=zs1 (s':=s') hk
  have h2:=h.cb
  omega
theorem dU.wait (h:dU cl e d) (i:Nat) (hk:k < d.ab.length):dU cl e (iP d i k):=by
 unfold iP
 split
 .rename_i c hc
  have hm:=ek hc
  split
  .exact h
  .rename_i hn
   refine ⟨λj s hs=>?_,h.q,λc' dO j hj=>?_,λc' dO=>?_,?_⟩
   .show mO cl (d.calls.set i _).length s
    rw [iS];exact h.st j s hs
   .rcases yd dO with dO|rfl
    .exact h.wb c' dO j hj
    .rcases iT.1 hj with hj|hj
     .exact h.wb c hm j hj
     .rw [eM.1 hj];exact hk
   .rcases yd dO with dO|rfl
    .exact h.wn c' dO
    .show (c.waiters++[k]).Nodup
     rw [List.nodup_append]
     refine ⟨h.wn c hm,by simp,λx hx y hy=>?_⟩
     rw [eM.1 hy]
     rintro rfl
     exact hn hx
   .show (d.calls.set i _).length<=_
    rw [iS];exact h.cb
 .exact h
theorem BQ (d:aY) (i k:Nat):(iP d i k).aD=d.aD/\(iP d i k).steps=d.steps/\(iP d i k).ab=d.ab/\(iP d i k).calls.length=d.calls.length/\(iP d i k).queue=d.queue/\(iP d i k).count=d.count/\(iP d i k).aC=d.aC/\(iP d i k).known=d.known/\∀ c∈(iP d i k).calls,∃ c0∈d.calls,c.answers=c0.answers:=by
 unfold iP
 split
 .split
  .exact ⟨rfl,rfl,rfl,rfl,rfl,rfl,rfl,rfl,λc hc=>⟨c,hc,rfl⟩⟩
  .rename_i c0 jn _
   refine ⟨rfl,rfl,rfl,iS,rfl,rfl,rfl,rfl,λc hc=>?_⟩
   rcases yd hc with hc|rfl
   .exact ⟨c,hc,rfl⟩
   .exact ⟨c0,ek jn,rfl⟩
 .exact ⟨rfl,rfl,rfl,rfl,rfl,rfl,rfl,rfl,λc hc=>⟨c,hc,rfl⟩⟩
theorem dU.num {S W W' C C':Nat} (h:dU cl e d) (n:dE S W C d) (hW:d.steps<=W') (hWW:W<=W') (hC:d.steps+e<=C'):dE S W' C' d:=by
 have h1:=n.ab
 have h2:=h.cb
 have h3:=znS d.ab
 refine ⟨n.steps,h1,n.aC,n.count,n.lq,λc hc=>?_,dZ n.queue (Nat.mul_le_mul (aQ _) (by omega)),by omega⟩
 have:=V8 c.waiters d.ab.length (h.wn c hc) (h.wb c hc)
 omega
end
end Go.Am
