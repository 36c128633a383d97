/- Walks: a state goes through the answers that are there. Written out by fill2.py. No condition. -/
import Derived.Test.YtnkmeidmdaidhaaGreatDoorG38
set_option linter.unusedSimpArgs false
set_option linter.unusedVariables false
namespace Go.Proofs.YtnkmeidmdaidhaaGreatDoor
open Go.Am Tryz
set_option maxRecDepth 100000
set_option maxHeartbeats 0
theorem zsd (v w:ai) (n:ae):(n.cells++[v,w])[11]? = some v:=rfl
theorem Qk (v w:ai) (n:ae):(n.cells++[v,w])[12]? = some w:=rfl
theorem zAg (a b c u v w:ai) (n:ae):cut (a::b::c::u::(n.cells++[v,w])) 4 11=some n.cells:=rfl
theorem zA1 (a b n:Int) (wa:Option Addr) (wn wc:Nat):lL aH 101 [(0,.int .i64 a),(1,.int .i64 b),(2,.int .i64 n),(3,.slice wa wn wc)]=some (.agg ⟨[.int .i64 a,.int .i64 b,.int .i64 n,.slice wa wn wc]++ah.cells++[.int .i64 0,.int .i64 0]⟩):=by kernel_rfl
theorem zwi {h hc:Heap} {E:List Nat} {y:cO} {cd vf:ai} {d:ba} (z:Ext h hc) (v:Am.Inv iD h E y cd vf d hc) {k:Nat} {s:dy} (hs:d.ab[k]? = some s) {j:Nat} (hj:s.clause=(j:Int)) {c9:aY} (yn:d.calls[s.src]? = some c9) (ia:s.l.length<=400) (cZ:s.taken<=1000) (hB:∀ i,qP (fO k ((c9.answers.drop s.seen).take i) d)) (K:aJ) {e:Env}
 (he:∃ J:Nat->ai,e=(.pointer (some ⟨y.pl .w,0,none⟩)::jr J 1 3 (.pointer (some ⟨y.pl (.s k),0,none⟩)::jr J 5 143 ([]))))
 (hk:∀ h' E' y' u,Ext h h'->Am.Inv iD h E' y' cd vf (fO k (c9.answers.drop s.seen) d) h'->eB d.ab.length E E' y y' hc h'->K u h'):W prog aH ov none (Ol 23) e (hc.lay [] hc.low) (Dm prog aH ov none (Ol 24) (eI aH f32 K)):=by
 obtain ⟨J,rfl⟩:=he
 have g:=aS.refl [] hc
 have qw:=iF v
 have qs:=nH v hs
 rw [hj] at qs
 have hz:=z.size
 have pG:qP d:=hB 0
 have Ka:=en yn
 simp only [cm,seval]
 with_reducible first|refine ez (by simp only [eN]) z.av ?_
 simp only [aa,seval,eN,qw.lay,qs.lay,zsd]
 refine zlC ((v.bf g).bf (aS.lay _ _ _ _)) yn (by have:=pG.calls;omega) (by have:=pG.mY _ Ka;omega) _ (λh' w A x om=>?_)
 (((with_reducible refine ix ?_ ?_ ?_);(· exact (by (simp only [iY]);have:=z.size;omega));(· exact x));replace z:=z.ao x;replace g:=g.over x;replace qw:=qw.over x;replace qs:=qs.over x;rw [aw h'])
 have hw:Sl aC.atom (bq E h') w c9.answers:=om.bq (λ_ _ _ _ h=>h) (by decide) (λX hX=>by rw [bh];have:=v.eF X hX;have:=g.size;omega)
 have G0:=λ(hh:Heap)=>(hw.mono (uX _ _)).bQ bZ hh
 have g2:aS [] h' h':=aS.refl [] h'
 simp only [aa,seval,eN]
 ((with_reducible refine ⟨z.cU.lay _ _,?_⟩);(intro _ h' zz x _);(simp only [bY,bC] at x);replace g:=g.over x;replace qw:=qw.over x;replace qs:=qs.over x;replace g2:=g2.over x;(replace z:=zz);(clear zz);rw [aw h'])
 have pK:Sl aC.atom (bq E h') w c9.answers:=hw.mono ((g2.wide (D':=E) (by simp)).inc (λB hB=>.inl hB))
 have sX:=(eB.refl d.ab.length E y hc).bf g
 have vX:=v.bf g
 obtain ⟨hX,tQ⟩:∃ hX,hX=h':=⟨_,rfl⟩
 have VN:Sl aC.atom (bq E hX) w c9.answers:=by rw [tQ];exact pK
 have sY:eB d.ab.length E E y y hX h':=by rw [tQ];exact eB.refl _ _ _ _
 rw [<- tQ] at sX
 clear tQ
 simp only [syms,seval,eN]
 obtain ⟨I1,aX⟩:∃ I:Nat->Env->Heap->Prop,I=(λn e h'=>∃ (i:Nat) (E2:List Nat) (y2:cO) (d2:ba) (h1:Heap),h'=h1.lay [] h1.low/\Ext h h1/\(n=c9.answers.length - (s.seen+i)/\d2=fO k ((c9.answers.drop s.seen).take i) d/\d2.ab[k]? = some { s with seen:=s.seen+i }/\Am.Inv iD h E2 y2 cd vf d2 h1/\eB d.ab.length E E2 y y2 hX h1)/\∃ J:Nat->ai,e=(.pointer (some ⟨y.pl .w,0,none⟩)::jr J 1 3 (.pointer (some ⟨y.pl (.s k),0,none⟩)::J 5::w::jr J 7 141 ([])))):=⟨_,rfl⟩
 refine dN I1 _ (by rw [aX];exact ⟨0,E,y,d,_,rfl,z,⟨rfl,rfl,hs,vX,sY⟩,bo⟩) ?_
 intro n e h' aP
 rw [aX] at aP
 obtain ⟨i,E2,y2,d2,bU,rfl,z,hinv,J,rfl⟩:=aP
 clear vX sY g g2 qw qs
 obtain ⟨rfl,ld,eQ,v2,s2⟩:=hinv
 have tF:=hB i
 rw [<- ld] at tF
 have qw:=iF v2
 have qs:=nH v2 eQ
 rw [s2.w,s2.t] at qw
 rw [s2.s k (aq hs),s2.v k (aq hs)] at qs
 dsimp only at qs
 rw [hj] at qs
 have lg:=z.size
 have jB:Sl aC.atom bU w c9.answers:=(VN.mono s2.inc).mono (uX _ _)
 have g:=aS.refl [] bU
 simp only [aa,seval,eN,qs.lay,Qk,G0]
 refine bS (λaT=>?_) (λaT=>?_)
 rotate_left
 .have aB:fO k (c9.answers.drop s.seen) d=d2:=by rw [ld,gb (by rw [mf];omega)]
  rw [aB] at hk
  repeat' (simp only [aa,seval,eN])
  exact hk _ E2 y2 _ z.av (v2.bf (g.trans (aS.lay _ _ _ []) (by simp))) ((sX.trans s2 (aR _)).bf (g.trans (aS.lay _ _ _ []) (by simp)))
 simp only [aa,seval,eN]
 rw [<- s2.w]
 refine Y9 (v2.bf (g.trans (aS.lay _ _ _ []) (by simp))) _ (λh' x=>?_)
 (replace z:=z.ao x;replace g:=g.over x;replace qw:=qw.over x;replace qs:=qs.over x;rw [aw h'])
 rw [s2.w]
 have OV:(c9.answers.drop s.seen)[i]? = c9.answers[s.seen+i]? := by rw [lq]
 by_cases jP:d2.aE < (d2.steps:Int)
 .have aB:fO k (c9.answers.drop s.seen) d=d2:=by rw [<- H4 i (c9.answers.drop s.seen),Xi,<- ld,xN jP]
  rw [aB] at hk
  rw [sk jP]
  repeat' (first|simp only [aa,seval,eN]|((with_reducible apply cf);(· rfl)))
  exact hk _ E2 y2 _ z.av (v2.bf (g.trans (aS.lay _ _ _ []) (by simp))) ((sX.trans s2 (aR _)).bf (g.trans (aS.lay _ _ _ []) (by simp)))
 rw [tn jP]
 repeat' (first|simp only [aa,seval,eN]|((with_reducible apply cf);(· rfl)))
 obtain ⟨a,ha,B7⟩:=gC (l:=c9.answers) (i:=s.seen+i) aT
 with_reducible first|refine ez (by simp only [eN]) z.av ?_
 simp only [aa,seval,eN,qs.lay,↓zAg,Qk,dU,dq]
 refine r9 (jB.mono g.all) bZ ck (by omega) ha (λp hp=>?_)
 simp only [aa,seval,eN]
 refine qV hp iQ ck ?_
 clear hp
 simp only [aa,seval,eN]
 refine Yw s.next a _ _ (λh' w2 b x jO xh=>?_)
 (((with_reducible refine ix ?_ ?_ ?_);(· exact (by (simp only [iY]);have:=z.size;omega));(· exact x));replace z:=z.ao x;replace g:=g.over x;replace qw:=qw.over x;replace qs:=qs.over x;rw [aw h'])
 have VM:∀ (h:Heap) (K:aJ),aK (some w2) h K=K w2 h:=λ_ _=>rfl
 have ph:∀ (s:Bool) (h:Heap) (K:aJ),aK (some (.bool s)) h K=K (.bool s) h:=λ_ _ _=>rfl
 have eX:∀ m,bG [] s.next a=some m->Sl aC.bind (h'.lay [] h'.low) w2 m:=λm hm=>(xh m hm).2.lay _ _
 have g3:aS [] h' h':=aS.refl [] h'
 simp only [aa,seval,eN,VM,ph]
 ((with_reducible refine ⟨z.cU.lay _ _,?_⟩);(intro _ h' zz x _);(simp only [bY,bC] at x);replace g:=g.over x;replace qw:=qw.over x;replace qs:=qs.over x;replace g3:=g3.over x;(replace z:=zz);(clear zz);rw [aw h'])
 simp only [aa,seval,eN]
 have hw8:IntKind.i64.wrap (((s.seen+i:Nat):Int)+1)=((s.seen+(i+1):Nat):Int):=by have:=pG.mY _ Ka;rw [fZ (by omega) (by omega)];omega
 have ic:(c9.answers.drop s.seen).take (i+1)=(c9.answers.drop s.seen).take i++[a]:=by rw [lr,OV,B7];rfl
 have OT:fO k ((c9.answers.drop s.seen).take (i+1)) d=bL k { s with seen:=s.seen+i } a d2:=by rw [ic,Xi,<- ld,ur jP eQ];rfl
 have tM:(bL k { s with seen:=s.seen+i } a d2).ab[k]? = some { s with seen:=s.seen+(i+1) }:=Qc (a:=a) eQ
 have uW:=z.size
 have Ay:=s2.s k (aq hs)
 have hvk:=s2.v k (aq hs)
 have Vr:=v2.own (.s k) (aq eQ)
 have KT:=v2.new _ Vr
 rw [Ay] at KT
 cases hex:bG [] s.next a with
 |none =>
  have hb:=jO hex
  subst hb
  repeat' (simp only [aa,seval,eN,qs.lay,Qk,hw8])
  have v3:=v2.bf g
  have s3:=s2.bf g
  have zQ:bL k { s with seen:=s.seen+i } a d2={ d2 with ab:=d2.ab.set k { s with seen:=s.seen+(i+1) } }:=by unfold bL;dsimp only;rw [hex];rfl
  refine j4 (n:=1) (o:=16) (vs:=[.int .i64 ((s.seen+(i+1):Nat):Int)]) qs AX rfl rfl (by show 16+1<=17;omega) rfl (λh8 q8 kB=>?_)
  have z8:=(z.jC [] h'.low (by omega)).step kB KT
  obtain ⟨E8,v8,s8⟩:=v3.state uW eQ (s':={ s with seen:=s.seen+(i+1) }) rfl (by rw [Ay];exact (aS.refl [y.pl (.s k)] h').eV kB (.inl (by simp))) (by rw [Ay,hvk];unfold tc;rw [hj];exact q8)
  have s9:=s3.trans s8 (by rw [ld];exact Qe k _ d)
  rw [<- zQ,<- OT] at v8
  rw [aw h8]
  clear z g qs qw
  have z:=z8
  simp only [aa,seval,eN]
  (rw [aX];with_reducible refine cF (m:=_) ?_ ⟨i+1,E8,y2,fO k ((c9.answers.drop s.seen).take (i+1)) d,_,rfl,z,⟨rfl,rfl,by rw [OT];exact tM,v8,s9⟩,bo⟩;omega)
 |some m =>
  obtain ⟨hb,_⟩:=xh m hex
  subst hb
  have qT:=(xh m hex).2.mono g3.all
  have EW:∀ (h:Heap) (K:aJ),aK (some (y.vl (.s k))) h K=K (y.vl (.s k)) h:=λ_ _=>rfl
  have Ad:Sl aC.bind h' (y.vl (.s k)) s.l:=by have:=v2.fz k _ eQ;rw [hvk] at this;exact (this.mono (uX _ _)).mono g.all
  have yu:=zsm hex
  have Eh:=(Bh dZ hex).1
  simp only [aa,seval,eN,qs.lay,EW]
  refine zuC s.l m _ _ _ (Ad.lay _ _) (qT.lay _ _) ia (by simp only [db] at yu;omega) Eh _ (λh' w3 e3 x ow=>?_)
  obtain ⟨Aw,Lq⟩:=ow
  obtain ⟨wa,wn,wc,rfl⟩:=Lq.slice
  have sK:Sl aC.bind (bq E2 h') (.slice wa wn wc) (jE s.l m):=Lq.bq (λ_ _ _ _ h=>h) (by decide) (λX hX=>by rw [bh];have:=v2.eF X hX;have:=g.size;omega)
  (replace z:=z.ao x;replace g:=g.over x;replace qw:=qw.over x;replace qs:=qs.over x;rw [aw h'])
  have g4:aS [] h' h':=aS.refl [] h'
  repeat' (simp only [aa,seval,eN])
  have fT:IntKind.i64.wrap ((s.taken:Int)+1)=((s.taken+1:Nat):Int):=by rw [fZ (by omega) (by omega)];omega
  have Ep:Sl aC.bind (bq E2 h') (.slice wa wn wc) (jE s.l m):=sK.mono ((g4.wide (D':=E2) (by simp)).inc (λB hB=>.inl hB))
  have rQ:=z.size
  with_reducible first|refine ez (by simp only [eN]) z.av ?_
  simp only [aa,seval,eN,qs.lay,fT,zA1]
  refine ni (by have:=z.size;omega) (by omega) ?_
  simp only [aa,seval,eN]
  have v4:=v2.bf g
  have s4:=s2.bf g
  rw [<- s4.w]
  refine zsD rQ z.av v4 (aS.lay _ _ _ _) (As:=h'.size+0) (s:=⟨s.call,s.clause,s.taken+1,jE s.l m,ah,0,0⟩) (lv:=.slice wa wn wc) (by omega) ⟨by rw [bh];simp,by rw [jG];unfold tc;rw [hj];rfl⟩ Ep tF.steps tF.queue tF.ab _ (λh5 E5 y5 u5 GJ z5 v5 s5=>?_)
  rw [s4.w]
  refine Hf (by kernel_rfl) z5.low (by rw [bh];simp only [ek,db];omega) ?_
  have s6:=s4.trans s5 (by rw [ld];exact Qe k _ d)
  have EF:=s6.s k (aq hs)
  have K5:=s6.v k (aq hs)
  have EJ:(jV d2 ⟨s.call,s.clause,s.taken+1,jE s.l m,ah,0,0⟩).ab[k]? = some { s with seen:=s.seen+i }:=by
   show (d2.ab++[_])[k]? = _
   rw [jz (aq eQ)]
   exact eQ
  have qs:=nH v5 EJ
  rw [EF,K5] at qs
  dsimp only at qs
  rw [hj] at qs
  have z:=z5
  have g5:=aS.refl [] h5
  rw [aw h5]
  clear qw g g4
  simp only [cm,seval,eN]
  ((with_reducible refine ⟨z.cU.lay _ _,?_⟩);(intro _ h' zz x _);(simp only [bY,bC] at x);replace qs:=qs.over x;replace g5:=g5.over x;(replace z:=zz);(clear zz);rw [aw h'])
  have xi:=z.size
  repeat' (simp only [aa,seval,eN,qs.lay,Qk,hw8])
  have v7:=v5.bf g5
  have s7:=s6.bf g5
  have zQ:bL k { s with seen:=s.seen+i } a d2={ jV d2 ⟨s.call,s.clause,s.taken+1,jE s.l m,ah,0,0⟩ with ab:=(jV d2 ⟨s.call,s.clause,s.taken+1,jE s.l m,ah,0,0⟩).ab.set k { s with seen:=s.seen+(i+1) } }:=by unfold bL;dsimp only;rw [hex];rfl
  refine j4 (n:=1) (o:=16) (vs:=[.int .i64 ((s.seen+(i+1):Nat):Int)]) qs AX rfl rfl (by show 16+1<=17;omega) rfl (λh8 q8 kB=>?_)
  have z8:=(z.jC [] h'.low (by omega)).step kB KT
  obtain ⟨E8,v8,s8⟩:=v7.state xi EJ (s':={ s with seen:=s.seen+(i+1) }) rfl (by rw [EF];exact (aS.refl [y.pl (.s k)] h').eV kB (.inl (by simp))) (by rw [EF,K5];unfold tc;rw [hj];exact q8)
  have s9:=s7.trans s8 (by rw [<- (show (bL k { s with seen:=s.seen+i } a d2).ab.length=(jV d2 ⟨s.call,s.clause,s.taken+1,jE s.l m,ah,0,0⟩).ab.length by rw [zQ];exact ja)];exact eA (by rw [ld];exact Qe k _ d) (zpN k _ a d2))
  rw [<- zQ,<- OT] at v8
  rw [aw h8]
  clear z qs
  have z:=z8
  simp only [aa,seval,eN]
  (rw [aX];with_reducible refine cF (m:=_) ?_ ⟨i+1,E8,y5,fO k ((c9.answers.drop s.seen).take (i+1)) d,_,rfl,z,⟨rfl,rfl,by rw [OT];exact tM,v8,s9⟩,bo⟩;omega)
end Go.Proofs.YtnkmeidmdaidhaaGreatDoor
namespace Go.Am
variable {k:Nat}
structure nt (cl:List ak) (n:Nat) (s:dy):Prop where
 call:s.call < n
 BT:∃ (j:Nat) (c:ak),s.clause=(j:Int)/\cl[j]? = some c/\s.taken<=c.body.length
 len:s.l.length<=4+4*s.taken
 src:s.src < n
def yU (s:dy):Bool:=decide (s.next.pred≠⟨#[]⟩)
def vo (l:List dy):Nat:=l.countP yU
structure dW (cl:List ak) (e:Nat) (d:ba):Prop where
 st:∀ (k:Nat) s,d.ab[k]? = some s->nt cl d.calls.length s
 q:∀ k∈d.queue,k < d.ab.length
 wb:∀ c∈d.calls,∀ k∈c.waiters,k < d.ab.length
 wn:∀ c∈d.calls,c.waiters.Nodup
 cb:d.calls.length<=vo d.ab+e
theorem zn9 (l:List dy):vo l<=l.length:=List.countP_le_length
theorem zqr (l:List dy) (s:dy):vo l<=vo (l++[s]):=by
 unfold vo
 rw [List.countP_append]
 exact Ih _ _
theorem ztI {l:List dy} {s s':dy} (h:l[k]? = some s):vo (l.set k s')+(if yU s=true then 1 else 0)=vo l+(if yU s'=true then 1 else 0):=by
 induction l generalizing k with
 |nil=>simp at h
 |cons x l ih =>
  cases k with
  |zero =>
   simp only [C7,eh] at h
   subst h
   rw [gd]
   unfold vo
   rw [Ig,Ig]
   omega
  |succ k =>
   have:=ih (k:=k) (by simpa using h)
   rw [ze]
   unfold vo at this ⊢
   rw [Ig,Ig]
   omega
section
variable {cl:List ak} {e:Nat} {d:ba}
theorem nt.mono {n m:Nat} {s:dy} (h:nt cl n s) (hn:n<=m):nt cl m s:=⟨dr h.call hn,h.BT,h.len,dr h.src hn⟩
theorem dW.mono {e':Nat} (h:dW cl e d) (he:e<=e'):dW cl e' d:=⟨h.st,h.q,h.wb,h.wn,by have:=h.cb;omega⟩
theorem dW.begin (h:dW cl e d) {s:dy} (hs:nt cl d.calls.length s):dW cl e (jV d s):=by
 have hl:(jV d s).ab.length=d.ab.length+1:=by
  show (d.ab++[s]).length=_
  rw [cE,gF]
 refine ⟨λk t ht=>?_,λk hk=>?_,λc hc k hk=>?_,h.wn,?_⟩
 .have aT:=aq ht
  change (d.ab++[s])[k]? = some t at ht
  by_cases hk:k < d.ab.length
  .rw [jz hk] at ht
   exact h.st k t ht
  .rw [lp (by omega)] at ht
   have:k - d.ab.length=0:=by omega
   rw [this] at ht
   cases ht
   exact hs
 .rw [hl]
  rcases gg.1 hk with hk|hk
  .have:=h.q k hk;omega
  .rw [ep.1 hk];omega
 .rw [hl]
  have:=h.wb c hc k hk;omega
 .show d.calls.length<=vo (d.ab++[s])+e
  have:=h.cb
  have:=zqr d.ab s
  omega
theorem dW.calls {d':ba} (h:dW cl e d) (hs:d'.ab=d.ab) (hl:d'.calls.length=d.calls.length) (hw:∀ c∈d'.calls,∃ c0∈d.calls,c.waiters=c0.waiters) (hq:∀ k∈d'.queue,k∈d.queue\/∃ c∈d.calls,k∈c.waiters):dW cl e d':=by
 refine ⟨λk s n7=>?_,λk hk=>?_,λc hc k hk=>?_,λc hc=>?_,by rw [hs,hl];exact h.cb⟩
 .rw [hl];exact h.st k s (hs ▸ n7)
 .rw [hs]
  rcases hq k hk with g|⟨c,hc,g⟩
  .exact h.q k g
  .exact h.wb c hc k g
 .rw [hs]
  obtain ⟨c0,h0,e0⟩:=hw c hc
  exact h.wb c0 h0 k (e0 ▸ hk)
 .obtain ⟨c0,h0,e0⟩:=hw c hc
  rw [e0];exact h.wn c0 h0
theorem znZ (d:ba) (i:Nat) (a:ae):∀ c∈(bn d i a).1.calls,∃ c0∈d.calls,c.waiters=c0.waiters:=by
 intro c hc
 unfold bn at hc
 split at hc
 .rename_i c0 kf
  split at hc
  .exact ⟨c,hc,rfl⟩
  .rcases yZ hc with hc|rfl
   .exact ⟨c,hc,rfl⟩
   .exact ⟨c0,en kf,rfl⟩
 .exact ⟨c,hc,rfl⟩
theorem zuk (d:ba) (r:bc):(mc d r).calls=d.calls/\(mc d r).ab=d.ab/\(mc d r).queue=d.queue/\(mc d r).steps=d.steps/\(mc d r).aE=d.aE:=by
 unfold mc
 split <;> exact ⟨rfl,rfl,rfl,rfl,rfl⟩
theorem uq (d:ba) (i:Nat) (r:bc):(gA d i r).aE=d.aE/\(gA d i r).calls=(bn d i r.atom).1.calls/\(gA d i r).calls.length=d.calls.length/\d.steps<=(gA d i r).steps /\
 (gA d i r).queue=d.queue++(if (bn d i r.atom).2=true then (((bn d i r.atom).1.calls[i]?).map aY.waiters).getD [] else []):=by
 obtain ⟨k1,k2,k3,k4,k5,k6,k7⟩:=Hw d i r.atom
 unfold gA
 split
 .rename_i hn
  obtain ⟨g1,g2,g3,g4,g5⟩:=zuk { (bn d i r.atom).1 with steps:=d.steps+1 } r
  refine ⟨g5.trans k6,g1,(congrArg List.length g1).trans k7,?_,?_⟩
  .show d.steps<=(mc { (bn d i r.atom).1 with steps:=d.steps+1 } r).steps
   rw [g4];exact nq _
  .show (mc { (bn d i r.atom).1 with steps:=d.steps+1 } r).queue++(((mc { (bn d i r.atom).1 with steps:=d.steps+1 } r).calls[i]?).map aY.waiters).getD []=_
   rw [g1,g3]
   show (bn d i r.atom).1.queue++_=_
   rw [k2]
 .exact ⟨k6,rfl,k7,by rw [k1];exact aR _,by rw [k2,bC]⟩
theorem dW.answer (h:dW cl e d) (i:Nat) (r:bc):dW cl e (gA d i r):=by
 obtain ⟨k1,k2,k3,k4,k5⟩:=uq d i r
 refine h.calls (Hd d i r) k3 (λc hc=>znZ d i r.atom c (k2 ▸ hc)) (λk hk=>?_)
 rw [k5] at hk
 rcases gg.1 hk with hk|hk
 .exact .inl hk
 .split at hk
  .cases hc:(bn d i r.atom).1.calls[i]? with
   |none=>rw [hc] at hk;cases hk
   |some c =>
    rw [hc] at hk
    obtain ⟨c0,h0,e0⟩:=znZ d i r.atom c (en hc)
    have hk:k∈c.waiters:=hk
    exact .inr ⟨c0,h0,e0 ▸ hk⟩
  .cases hk
theorem dW.open (h:dW cl e d) (a:ae):dW cl (e+1) (de d a).1:=by
 unfold de
 split
 .exact h.mono (nq _)
 split
 .exact h.mono (nq _)
 .have hl:(d.calls++[(⟨bB a,[],[]⟩:aY)]).length=d.calls.length+1:=by rw [cE,gF]
  refine ⟨λk s hs=>?_,h.q,λc hc=>?_,λc hc=>?_,?_⟩
  .show nt cl (d.calls++[_]).length s
   rw [hl]
   exact (h.st k s hs).mono (nq _)
  .rcases gg.1 hc with hc|hc
   .exact h.wb c hc
   .rw [ep.1 hc];nofun
  .rcases gg.1 hc with hc|hc
   .exact h.wn c hc
   .rw [ep.1 hc];exact List.nodup_nil
  .show (d.calls++[_]).length<=vo d.ab+(e+1)
   rw [hl]
   have:=h.cb
   omega
theorem zpi {a:ae} (h:¬ bg a):de d a=(d,0,false):=by
 unfold de
 rw [aD h]
theorem dW.i0 (i:Nat):∀ (l:aN) {d:ba},dW cl e d->dW cl e (j6 d i l)
 | [],d,h=>h
 |f::l,d,h=>dW.i0 i l (h.answer i ⟨f,-1,[]⟩)
theorem ML (i:Nat) (a:ae):∀ (cs:List ak) (k:Nat) (d:ba),(fY d i a k cs).calls=d.calls/\(fY d i a k cs).aE=d.aE/\d.steps<=(fY d i a k cs).steps
 | [],k,d=>⟨rfl,rfl,aR _⟩
 |c::cs,k,d=>by
  rw [fY]
  cases kD a c.head with
  |none=>exact ML i a cs (k+1) d
  |some l =>
   obtain ⟨h1,h2,h3⟩:=ML i a cs (k+1) (jV d ⟨i,(k:Int),0,l,ah,0,0⟩)
   exact ⟨h1,h2,eA (nq _) h3⟩
theorem XV (i:Nat):∀ (l:aN) (d:ba),(j6 d i l).calls.length=d.calls.length/\(j6 d i l).aE=d.aE/\d.steps<=(j6 d i l).steps
 | [],d=>⟨rfl,rfl,aR _⟩
 |f::l,d=>by
  obtain ⟨h1,h2,h3⟩:=XV i l (gA d i ⟨f,-1,[]⟩)
  obtain ⟨k1,k2,k3,k4,k5⟩:=uq d i ⟨f,-1,[]⟩
  exact ⟨h1.trans k3,h2.trans k1,eA k4 h3⟩
theorem dW.dw (i:Nat) (a:ae):∀ (cs:List ak) (k:Nat) {d:ba},dW cl e d->i < d.calls.length->(∀ (j:Nat) c,cs[j]? = some c->cl[k+j]? = some c)->dW cl e (fY d i a k cs)
 | [],k,d,h,hi,hc=>h
 |c::cs,k,d,h,hi,hc=>by
  rw [fY]
  have ec:∀ (j:Nat) c',cs[j]? = some c'->cl[k+1+j]? = some c':=λj c' hj=>by
   have:=hc (j+1) c' (by simpa using hj)
   rwa [show k+(j+1)=k+1+j by omega] at this
  cases hu:kD a c.head with
  |none=>exact dW.dw i a cs (k+1) h hi ec
  |some l =>
   refine dW.dw i a cs (k+1) (h.begin ⟨hi,⟨k,c,rfl,by simpa using hc 0 c (by simp),iN _⟩,zvn hu,by show 0 < _;omega⟩) hi ec
theorem zpj (d:ba) (a:ae):(de d a).1.aE=d.aE/\(de d a).1.steps=d.steps:=by
 unfold de
 split
 .exact ⟨rfl,rfl⟩
 .split <;> exact ⟨rfl,rfl⟩
theorem CT (facts:aN) (cl:List ak) (d:ba) (a:ae):(aW facts cl d a).1.aE=d.aE/\d.steps<=(aW facts cl d a).1.steps/\(aW facts cl d a).1.calls.length=(de d (bB a)).1.calls.length/\(aW facts cl d a).2=(de d (bB a)).2.1:=by
 obtain ⟨o1,o2⟩:=zpj d (bB a)
 unfold aW
 split
 .obtain ⟨h1,h2,h3⟩:=ML (de d (bB a)).2.1 (bB (bB a)) cl 0 (j6 (de d (bB a)).1 (de d (bB a)).2.1 (eT (bB (bB a)) facts))
  obtain ⟨g1,g2,g3⟩:=XV (de d (bB a)).2.1 (eT (bB (bB a)) facts) (de d (bB a)).1
  exact ⟨h2.trans (g2.trans o1),eA (vy o2.symm) (eA g3 h3),(congrArg List.length h1).trans g1,rfl⟩
 .exact ⟨o1,vy o2.symm,rfl,rfl⟩
theorem dW.aW (h:dW cl e d) (facts:aN) (a:ae):dW cl (e+1) (aW facts cl d a).1:=by
 have ho:=h.open (bB a)
 unfold Am.aW
 split
 .rename_i hn
  obtain ⟨o1,o2⟩:=X9 hn
  refine dW.dw _ _ cl 0 (dW.i0 _ _ ho) ?_ (λj c hj=>by rw [iA];exact hj)
  rw [(XV _ _ _).1,o1,o2]
  show d.calls.length < (d.calls++[_]).length
  rw [cE,gF];omega
 .exact ho
theorem dW.state (h:dW cl e d) {s s':dy} (hk:d.ab[k]? = some s) (hs:nt cl d.calls.length s') {e':Nat} (he:e+(if yU s=true then 1 else 0)<=e'+(if yU s'=true then 1 else 0)):dW cl e' { d with ab:=d.ab.set k s' }:=by
 have hl:(d.ab.set k s').length=d.ab.length:=ja
 refine ⟨λj t ht=>?_,λj hj=>?_,λc hc j hj=>?_,h.wn,?_⟩
 .change (d.ab.set k s')[j]? = some t at ht
  by_cases hj:j=k
  .subst hj
   rw [mV (aq hk)] at ht
   cases ht
   exact hs
  .rw [za (λq=>hj q.symm)] at ht
   exact h.st j t ht
 .show j < (d.ab.set k s').length
  rw [hl];exact h.q j hj
 .show j < (d.ab.set k s').length
  rw [hl];exact h.wb c hc j hj
 .show d.calls.length<=vo (d.ab.set k s')+e'
  have h1:=ztI (s':=s') hk
  have h2:=h.cb
  omega
theorem dW.wait (h:dW cl e d) (i:Nat) (hk:k < d.ab.length):dW cl e (i9 d i k):=by
 unfold i9
 split
 .rename_i c hc
  have hm:=en hc
  split
  .exact h
  .rename_i hn
   refine ⟨λj s hs=>?_,h.q,λc' ec j hj=>?_,λc' ec=>?_,?_⟩
   .show nt cl (d.calls.set i _).length s
    rw [ja];exact h.st j s hs
   .rcases yZ ec with ec|rfl
    .exact h.wb c' ec j hj
    .rcases gg.1 hj with hj|hj
     .exact h.wb c hm j hj
     .rw [ep.1 hj];exact hk
   .rcases yZ ec with ec|rfl
    .exact h.wn c' ec
    .show (c.waiters++[k]).Nodup
     rw [List.nodup_append]
     refine ⟨h.wn c hm,by simp,λx hx y hy=>?_⟩
     rw [ep.1 hy]
     rintro rfl
     exact hn hx
   .show (d.calls.set i _).length<=_
    rw [ja];exact h.cb
 .exact h
theorem CQ (d:ba) (i k:Nat):(i9 d i k).aE=d.aE/\(i9 d i k).steps=d.steps/\(i9 d i k).ab=d.ab/\(i9 d i k).calls.length=d.calls.length/\(i9 d i k).queue=d.queue/\(i9 d i k).count=d.count/\(i9 d i k).aF=d.aF/\(i9 d i k).known=d.known/\∀ c∈(i9 d i k).calls,∃ c0∈d.calls,c.answers=c0.answers:=by
 unfold i9
 split
 .split
  .exact ⟨rfl,rfl,rfl,rfl,rfl,rfl,rfl,rfl,λc hc=>⟨c,hc,rfl⟩⟩
  .rename_i c0 kf _
   refine ⟨rfl,rfl,rfl,ja,rfl,rfl,rfl,rfl,λc hc=>?_⟩
   rcases yZ hc with hc|rfl
   .exact ⟨c,hc,rfl⟩
   .exact ⟨c0,en kf,rfl⟩
 .exact ⟨rfl,rfl,rfl,rfl,rfl,rfl,rfl,rfl,λc hc=>⟨c,hc,rfl⟩⟩
theorem dW.num {S W W' C C':Nat} (h:dW cl e d) (n:dz S W C d) (hW:d.steps<=W') (hWW:W<=W') (hC:d.steps+e<=C'):dz S W' C' d:=by
 have h1:=n.ab
 have h2:=h.cb
 have h3:=zn9 d.ab
 refine ⟨n.steps,h1,n.aF,n.count,n.mY,λc hc=>?_,eA n.queue (Nat.mul_le_mul (aR _) (by omega)),by omega⟩
 have:=X3 c.waiters d.ab.length (h.wn c hc) (h.wb c hc)
 omega
end
end Go.Am
