/- Walks: a state goes through the answers that are there. Written out by fill2.py. No condition. -/
import Derived.Test.YtnkmeidmdaidhaaGreatDoorG39
import Derived.Test.YtnkmeidmdaidhaaGreatDoorG40
set_option linter.unusedSimpArgs false
set_option linter.unusedVariables false
namespace Go.Proofs.YtnkmeidmdaidhaaGreatDoor
open Go.Am Tryz
set_option maxRecDepth 100000
set_option maxHeartbeats 0
theorem zqL (v w:ai) (n:ae):(n.cells++[v,w])[11]? = some v:=rfl
theorem MD (v w:ai) (n:ae):(n.cells++[v,w])[12]? = some w:=rfl
theorem zx1 (a b c u v w:ai) (n:ae):cut (a::b::c::u::(n.cells++[v,w])) 4 11=some n.cells:=rfl
theorem zyO (a b n:Int) (wa:Option Addr) (wn wc:Nat):mu aH 101 [(0,.int .i64 a),(1,.int .i64 b),(2,.int .i64 n),(3,.slice wa wn wc)]=some (.agg ⟨[.int .i64 a,.int .i64 b,.int .i64 n,.slice wa wn wc]++ah.cells++[.int .i64 0,.int .i64 0]⟩):=by kernel_rfl
theorem zuw {h hc:Heap} {E:List Nat} {y:cp} {bN vf:ai} {d:bg} (z:Ext h hc) (v:Am.Inv gj h E y bN vf d hc) {k:Nat} {s:eu} (hs:d.ab[k]? = some s) {j:Nat} (hj:s.clause=(j:Int)) {c9:ba} (qf:d.calls[s.src]? = some c9) (gx:s.l.length<=400) (dh:s.taken<=1000) (hB:∀ i,og (fM k ((c9.answers.drop s.seen).take i) d)) (K:aL) {e:Env}
 (he:∃ J:Nat->ai,e=(.pointer (some ⟨y.pl .w,0,none⟩)::jr J 1 3 (.pointer (some ⟨y.pl (.s k),0,none⟩)::jr J 5 143 ([]))))
 (hk:∀ h' E' y' u,Ext h h'->Am.Inv gj h E' y' bN vf (fM k (c9.answers.drop s.seen) d) h'->dK d.ab.length E E' y y' hc h'->K u h'):W prog aH ov none (KE 23) e (hc.lay [] hc.low) (Ae prog aH ov none (KE 24) (dM aH f32 K)):=by
 obtain ⟨J,rfl⟩:=he
 have g:=aP.refl [] hc
 have qw:=gk v
 have qs:=lH v hs
 rw [hj] at qs
 have hz:=z.size
 have nf:og d:=hB 0
 have GJ:=fV qf
 simp only [bM,seval]
 with_reducible first|refine dO (by simp only [dQ]) z.aw ?_
 simp only [aa,seval,dQ,qw.lay,qs.lay,zqL]
 refine zkL ((v.aX g).aX (aP.lay _ _ _ _)) qf (by have:=nf.calls;omega) (by have:=nf.lP _ GJ;omega) _ (λh' w A x om=>?_)
 (((with_reducible refine fC ?_ ?_ ?_);(· exact (by (simp only [fT]);have:=z.size;omega));(· exact x));replace z:=z.ao x;replace g:=g.over x;replace qw:=qw.over x;replace qs:=qs.over x;rw [aq h'])
 have hw:Sl aF.atom (bm E h') w c9.answers:=om.bm (λ_ _ _ _ h=>h) (by decide) (λX hX=>by rw [bo];have:=v.eh X hX;have:=g.size;omega)
 have Lg:=λ(hh:Heap)=>(hw.mono (rY _ _)).bP cF hh
 have g2:aP [] h' h':=aP.refl [] h'
 simp only [aa,seval,dQ]
 ((with_reducible refine ⟨z.cI.lay _ _,?_⟩);(intro _ h' zz x _);(simp only [bK,bu] at x);replace g:=g.over x;replace qw:=qw.over x;replace qs:=qs.over x;replace g2:=g2.over x;(replace z:=zz);(clear zz);rw [aq h'])
 have jL:Sl aF.atom (bm E h') w c9.answers:=hw.mono ((g2.wide (D':=E) (by simp)).inc (λB hB=>.inl hB))
 have sX:=(dK.refl d.ab.length E y hc).aX g
 have vX:=v.aX g
 obtain ⟨hX,qV⟩:∃ hX,hX=h':=⟨_,rfl⟩
 have HI:Sl aF.atom (bm E hX) w c9.answers:=by rw [qV];exact jL
 have sY:dK d.ab.length E E y y hX h':=by rw [qV];exact dK.refl _ _ _ _
 rw [<- qV] at sX
 clear qV
 simp only [syms,seval,dQ]
 obtain ⟨I1,aY⟩:∃ I:Nat->Env->Heap->Prop,I=(λn e h'=>∃ (i:Nat) (E2:List Nat) (y2:cp) (d2:bg) (h1:Heap),h'=h1.lay [] h1.low/\Ext h h1/\(n=c9.answers.length - (s.seen+i)/\d2=fM k ((c9.answers.drop s.seen).take i) d/\d2.ab[k]? = some { s with seen:=s.seen+i }/\Am.Inv gj h E2 y2 bN vf d2 h1/\dK d.ab.length E E2 y y2 hX h1)/\∃ J:Nat->ai,e=(.pointer (some ⟨y.pl .w,0,none⟩)::jr J 1 3 (.pointer (some ⟨y.pl (.s k),0,none⟩)::J 5::w::jr J 7 141 ([])))):=⟨_,rfl⟩
 refine dV I1 _ (by rw [aY];exact ⟨0,E,y,d,_,rfl,z,⟨rfl,rfl,hs,vX,sY⟩,bw⟩) ?_
 intro n e h' aT
 rw [aY] at aT
 obtain ⟨i,E2,y2,d2,bW,rfl,z,hinv,J,rfl⟩:=aT
 clear vX sY g g2 qw qs
 obtain ⟨rfl,jw,eX,v2,s2⟩:=hinv
 have qO:=hB i
 rw [<- jw] at qO
 have qw:=gk v2
 have qs:=lH v2 eX
 rw [s2.w,s2.t] at qw
 rw [s2.s k (au hs),s2.v k (au hs)] at qs
 dsimp only at qs
 rw [hj] at qs
 have kD:=z.size
 have jx:Sl aF.atom bW w c9.answers:=(HI.mono s2.inc).mono (rY _ _)
 have g:=aP.refl [] bW
 simp only [aa,seval,dQ,qs.lay,MD,Lg]
 refine b9 (λaW=>?_) (λaW=>?_)
 rotate_left
 .have aD:fM k (c9.answers.drop s.seen) d=d2:=by rw [jw,iK (by rw [oe];omega)]
  rw [aD] at hk
  repeat' (simp only [aa,seval,dQ])
  exact hk _ E2 y2 _ z.aw (v2.aX (g.trans (aP.lay _ _ _ []) (by simp))) ((sX.trans s2 (aS _)).aX (g.trans (aP.lay _ _ _ []) (by simp)))
 simp only [aa,seval,dQ]
 rw [<- s2.w]
 refine UD (v2.aX (g.trans (aP.lay _ _ _ []) (by simp))) _ (λh' x=>?_)
 (replace z:=z.ao x;replace g:=g.over x;replace qw:=qw.over x;replace qs:=qs.over x;rw [aq h'])
 rw [s2.w]
 have hdr:(c9.answers.drop s.seen)[i]? = c9.answers[s.seen+i]? := by rw [ka]
 by_cases gb:d2.aE < (d2.steps:Int)
 .have aD:fM k (c9.answers.drop s.seen) d=d2:=by rw [<- JV i (c9.answers.drop s.seen),Te,<- jw,xZ gb]
  rw [aD] at hk
  rw [wm gb]
  repeat' (first|simp only [aa,seval,dQ]|((with_reducible apply cn);(· rfl)))
  exact hk _ E2 y2 _ z.aw (v2.aX (g.trans (aP.lay _ _ _ []) (by simp))) ((sX.trans s2 (aS _)).aX (g.trans (aP.lay _ _ _ []) (by simp)))
 rw [su gb]
 repeat' (first|simp only [aa,seval,dQ]|((with_reducible apply cn);(· rfl)))
 obtain ⟨a,ha,P6⟩:=ig (l:=c9.answers) (i:=s.seen+i) aW
 with_reducible first|refine dO (by simp only [dQ]) z.aw ?_
 simp only [aa,seval,dQ,qs.lay,↓zx1,MD,dJ,dt]
 refine uQ (jx.mono g.all) cF cw (by omega) ha (λp hp=>?_)
 simp only [aa,seval,dQ]
 refine rq hp iM cw ?_
 clear hp
 simp only [aa,seval,dQ]
 refine Ui s.next a _ _ (λh' w2 b x ni ue=>?_)
 (((with_reducible refine fC ?_ ?_ ?_);(· exact (by (simp only [fT]);have:=z.size;omega));(· exact x));replace z:=z.ao x;replace g:=g.over x;replace qw:=qw.over x;replace qs:=qs.over x;rw [aq h'])
 have RI:∀ (h:Heap) (K:aL),aK (some w2) h K=K w2 h:=λ_ _=>rfl
 have zg:∀ (s:Bool) (h:Heap) (K:aL),aK (some (.bool s)) h K=K (.bool s) h:=λ_ _ _=>rfl
 have iF:∀ m,cz [] s.next a=some m->Sl aF.bind (h'.lay [] h'.low) w2 m:=λm hm=>(ue m hm).2.lay _ _
 have g3:aP [] h' h':=aP.refl [] h'
 simp only [aa,seval,dQ,RI,zg]
 ((with_reducible refine ⟨z.cI.lay _ _,?_⟩);(intro _ h' zz x _);(simp only [bK,bu] at x);replace g:=g.over x;replace qw:=qw.over x;replace qs:=qs.over x;replace g3:=g3.over x;(replace z:=zz);(clear zz);rw [aq h'])
 simp only [aa,seval,dQ]
 have Xt:IntKind.i64.wrap (((s.seen+i:Nat):Int)+1)=((s.seen+(i+1):Nat):Int):=by have:=nf.lP _ GJ;rw [ez (by omega) (by omega)];omega
 have mT:(c9.answers.drop s.seen).take (i+1)=(c9.answers.drop s.seen).take i++[a]:=by rw [od,hdr,P6];rfl
 have K7:fM k ((c9.answers.drop s.seen).take (i+1)) d=bJ k { s with seen:=s.seen+i } a d2:=by rw [mT,Te,<- jw,vP gb eX];rfl
 have wY:(bJ k { s with seen:=s.seen+i } a d2).ab[k]? = some { s with seen:=s.seen+(i+1) }:=zos (a:=a) eX
 have vC:=z.size
 have rb:=s2.s k (au hs)
 have Xr:=s2.v k (au hs)
 have Rm:=v2.own (.s k) (au eX)
 have Hv:=v2.new _ Rm
 rw [rb] at Hv
 cases hex:cz [] s.next a with
 |none =>
  have hb:=ni hex
  subst hb
  repeat' (simp only [aa,seval,dQ,qs.lay,MD,Xt])
  have v3:=v2.aX g
  have s3:=s2.aX g
  have wO:bJ k { s with seen:=s.seen+i } a d2={ d2 with ab:=d2.ab.set k { s with seen:=s.seen+(i+1) } }:=by unfold bJ;dsimp only;rw [hex];rfl
  refine iH (n:=1) (o:=16) (vs:=[.int .i64 ((s.seen+(i+1):Nat):Int)]) qs xL rfl rfl (by show 16+1<=17;omega) rfl (λh8 q8 i6=>?_)
  have z8:=(z.iG [] h'.low (by omega)).step i6 Hv
  obtain ⟨E8,v8,s8⟩:=v3.state vC eX (s':={ s with seen:=s.seen+(i+1) }) rfl (by rw [rb];exact (aP.refl [y.pl (.s k)] h').ec i6 (.inl (by simp))) (by rw [rb,Xr];unfold uL;rw [hj];exact q8)
  have s9:=s3.trans s8 (by rw [jw];exact Mh k _ d)
  rw [<- wO,<- K7] at v8
  rw [aq h8]
  clear z g qs qw
  have z:=z8
  simp only [aa,seval,dQ]
  (rw [aY];with_reducible refine cR (m:=_) ?_ ⟨i+1,E8,y2,fM k ((c9.answers.drop s.seen).take (i+1)) d,_,rfl,z,⟨rfl,rfl,by rw [K7];exact wY,v8,s9⟩,bw⟩;omega)
 |some m =>
  obtain ⟨hb,_⟩:=ue m hex
  subst hb
  have rT:=(ue m hex).2.mono g3.all
  have B7:∀ (h:Heap) (K:aL),aK (some (y.vl (.s k))) h K=K (y.vl (.s k)) h:=λ_ _=>rfl
  have xd:Sl aF.bind h' (y.vl (.s k)) s.l:=by have:=v2.fz k _ eX;rw [Xr] at this;exact (this.mono (rY _ _)).mono g.all
  have Hc:=zqU hex
  have Bt:=(zns zq0 hex).1
  simp only [aa,seval,dQ,qs.lay,B7]
  refine zsT s.l m _ _ _ (xd.lay _ _) (rT.lay _ _) gx (by simp only [cW] at Hc;omega) Bt _ (λh' w3 e3 x ow=>?_)
  obtain ⟨Aw,Ia⟩:=ow
  obtain ⟨wa,wn,wc,rfl⟩:=Ia.slice
  have rS:Sl aF.bind (bm E2 h') (.slice wa wn wc) (kQ s.l m):=Ia.bm (λ_ _ _ _ h=>h) (by decide) (λX hX=>by rw [bo];have:=v2.eh X hX;have:=g.size;omega)
  (replace z:=z.ao x;replace g:=g.over x;replace qw:=qw.over x;replace qs:=qs.over x;rw [aq h'])
  have g4:aP [] h' h':=aP.refl [] h'
  repeat' (simp only [aa,seval,dQ])
  have eY:IntKind.i64.wrap ((s.taken:Int)+1)=((s.taken+1:Nat):Int):=by rw [ez (by omega) (by omega)];omega
  have QX:Sl aF.bind (bm E2 h') (.slice wa wn wc) (kQ s.l m):=rS.mono ((g4.wide (D':=E2) (by simp)).inc (λB hB=>.inl hB))
  have pq:=z.size
  with_reducible first|refine dO (by simp only [dQ]) z.aw ?_
  simp only [aa,seval,dQ,qs.lay,eY,zyO]
  refine kO (by have:=z.size;omega) (by omega) ?_
  simp only [aa,seval,dQ]
  have v4:=v2.aX g
  have s4:=s2.aX g
  rw [<- s4.w]
  refine zra pq z.aw v4 (aP.lay _ _ _ _) (As:=h'.size+0) (s:=⟨s.call,s.clause,s.taken+1,kQ s.l m,ah,0,0⟩) (lv:=.slice wa wn wc) (by omega) ⟨by rw [bo];simp,by rw [kM];unfold uL;rw [hj];rfl⟩ QX qO.steps qO.queue qO.ab _ (λh5 E5 y5 u5 KV z5 v5 s5=>?_)
  rw [s4.w]
  refine Eg (by kernel_rfl) z5.low (by rw [bo];simp only [dB,cW];omega) ?_
  have s6:=s4.trans s5 (by rw [jw];exact Mh k _ d)
  have BQ:=s6.s k (au hs)
  have HH:=s6.v k (au hs)
  have BU:(kT d2 ⟨s.call,s.clause,s.taken+1,kQ s.l m,ah,0,0⟩).ab[k]? = some { s with seen:=s.seen+i }:=by
   show (d2.ab++[_])[k]? = _
   rw [kY (au eX)]
   exact eX
  have qs:=lH v5 BU
  rw [BQ,HH] at qs
  dsimp only at qs
  rw [hj] at qs
  have z:=z5
  have g5:=aP.refl [] h5
  rw [aq h5]
  clear qw g g4
  simp only [bM,seval,dQ]
  ((with_reducible refine ⟨z.cI.lay _ _,?_⟩);(intro _ h' zz x _);(simp only [bK,bu] at x);replace qs:=qs.over x;replace g5:=g5.over x;(replace z:=zz);(clear zz);rw [aq h'])
  have uh:=z.size
  repeat' (simp only [aa,seval,dQ,qs.lay,MD,Xt])
  have v7:=v5.aX g5
  have s7:=s6.aX g5
  have wO:bJ k { s with seen:=s.seen+i } a d2={ kT d2 ⟨s.call,s.clause,s.taken+1,kQ s.l m,ah,0,0⟩ with ab:=(kT d2 ⟨s.call,s.clause,s.taken+1,kQ s.l m,ah,0,0⟩).ab.set k { s with seen:=s.seen+(i+1) } }:=by unfold bJ;dsimp only;rw [hex];rfl
  refine iH (n:=1) (o:=16) (vs:=[.int .i64 ((s.seen+(i+1):Nat):Int)]) qs xL rfl rfl (by show 16+1<=17;omega) rfl (λh8 q8 i6=>?_)
  have z8:=(z.iG [] h'.low (by omega)).step i6 Hv
  obtain ⟨E8,v8,s8⟩:=v7.state uh BU (s':={ s with seen:=s.seen+(i+1) }) rfl (by rw [BQ];exact (aP.refl [y.pl (.s k)] h').ec i6 (.inl (by simp))) (by rw [BQ,HH];unfold uL;rw [hj];exact q8)
  have s9:=s7.trans s8 (by rw [<- (show (bJ k { s with seen:=s.seen+i } a d2).ab.length=(kT d2 ⟨s.call,s.clause,s.taken+1,kQ s.l m,ah,0,0⟩).ab.length by rw [wO];exact ij)];exact dZ (by rw [jw];exact Mh k _ d) (zot k _ a d2))
  rw [<- wO,<- K7] at v8
  rw [aq h8]
  clear z qs
  have z:=z8
  simp only [aa,seval,dQ]
  (rw [aY];with_reducible refine cR (m:=_) ?_ ⟨i+1,E8,y5,fM k ((c9.answers.drop s.seen).take (i+1)) d,_,rfl,z,⟨rfl,rfl,by rw [K7];exact wY,v8,s9⟩,bw⟩;omega)
end Go.Proofs.YtnkmeidmdaidhaaGreatDoor
namespace Go.Am
variable {k:Nat}
structure lp (cl:List ay) (n:Nat) (s:eu):Prop where
 call:s.call < n
 DK:∃ (j:Nat) (c:ay),s.clause=(j:Int)/\cl[j]? = some c/\s.taken<=c.body.length
 len:s.l.length<=4+4*s.taken
 src:s.src < n
def vW (s:eu):Bool:=decide (s.next.pred≠⟨#[]⟩)
def r7 (l:List eu):Nat:=l.countP vW
structure dL (cl:List ay) (e:Nat) (d:bg):Prop where
 st:∀ (k:Nat) s,d.ab[k]? = some s->lp cl d.calls.length s
 q:∀ k∈d.queue,k < d.ab.length
 wb:∀ c∈d.calls,∀ k∈c.waiters,k < d.ab.length
 wn:∀ c∈d.calls,c.waiters.Nodup
 cb:d.calls.length<=r7 d.ab+e
theorem zt6 (l:List eu):r7 l<=l.length:=List.countP_le_length
theorem zo0 (l:List eu) (s:eu):r7 l<=r7 (l++[s]):=by
 unfold r7
 rw [List.countP_append]
 exact Fc _ _
theorem zr3 {l:List eu} {s s':eu} (h:l[k]? = some s):r7 (l.set k s')+(if vW s=true then 1 else 0)=r7 l+(if vW s'=true then 1 else 0):=by
 induction l generalizing k with
 |nil=>simp at h
 |cons x l ih =>
  cases k with
  |zero =>
   simp only [EO,dy] at h
   subst h
   rw [eA]
   unfold r7
   rw [Fb,Fb]
   omega
  |succ k =>
   have:=ih (k:=k) (by simpa using h)
   rw [yo]
   unfold r7 at this ⊢
   rw [Fb,Fb]
   omega
section
variable {cl:List ay} {e:Nat} {d:bg}
theorem lp.mono {n m:Nat} {s:eu} (h:lp cl n s) (hn:n<=m):lp cl m s:=⟨dU h.call hn,h.DK,h.len,dU h.src hn⟩
theorem dL.mono {e':Nat} (h:dL cl e d) (he:e<=e'):dL cl e' d:=⟨h.st,h.q,h.wb,h.wn,by have:=h.cb;omega⟩
theorem dL.begin (h:dL cl e d) {s:eu} (hs:lp cl d.calls.length s):dL cl e (kT d s):=by
 have hl:(kT d s).ab.length=d.ab.length+1:=by
  show (d.ab++[s]).length=_
  rw [dx,j9]
 refine ⟨λk t ht=>?_,λk hk=>?_,λc hc k hk=>?_,h.wn,?_⟩
 .have aW:=au ht
  change (d.ab++[s])[k]? = some t at ht
  by_cases hk:k < d.ab.length
  .rw [kY hk] at ht
   exact h.st k t ht
  .rw [n9 (by omega)] at ht
   have:k - d.ab.length=0:=by omega
   rw [this] at ht
   cases ht
   exact hs
 .rw [hl]
  rcases ju.1 hk with hk|hk
  .have:=h.q k hk;omega
  .rw [ek.1 hk];omega
 .rw [hl]
  have:=h.wb c hc k hk;omega
 .show d.calls.length<=r7 (d.ab++[s])+e
  have:=h.cb
  have:=zo0 d.ab s
  omega
theorem dL.calls {d':bg} (h:dL cl e d) (hs:d'.ab=d.ab) (hl:d'.calls.length=d.calls.length) (hw:∀ c∈d'.calls,∃ c0∈d.calls,c.waiters=c0.waiters) (hq:∀ k∈d'.queue,k∈d.queue\/∃ c∈d.calls,k∈c.waiters):dL cl e d':=by
 refine ⟨λk s ou=>?_,λk hk=>?_,λc hc k hk=>?_,λc hc=>?_,by rw [hs,hl];exact h.cb⟩
 .rw [hl];exact h.st k s (hs ▸ ou)
 .rw [hs]
  rcases hq k hk with g|⟨c,hc,g⟩
  .exact h.q k g
  .exact h.wb c hc k g
 .rw [hs]
  obtain ⟨c0,h0,e0⟩:=hw c hc
  exact h.wb c0 h0 k (e0 ▸ hk)
 .obtain ⟨c0,h0,e0⟩:=hw c hc
  rw [e0];exact h.wn c0 h0
theorem zmN (d:bg) (i:Nat) (a:ae):∀ c∈(bq d i a).1.calls,∃ c0∈d.calls,c.waiters=c0.waiters:=by
 intro c hc
 unfold bq at hc
 split at hc
 .rename_i c0 lx
  split at hc
  .exact ⟨c,hc,rfl⟩
  .rcases EN hc with hc|rfl
   .exact ⟨c,hc,rfl⟩
   .exact ⟨c0,fV lx,rfl⟩
 .exact ⟨c,hc,rfl⟩
theorem zsB (d:bg) (r:aV):(j7 d r).calls=d.calls/\(j7 d r).ab=d.ab/\(j7 d r).queue=d.queue/\(j7 d r).steps=d.steps/\(j7 d r).aE=d.aE:=by
 unfold j7
 split <;> exact ⟨rfl,rfl,rfl,rfl,rfl⟩
theorem zB (d:bg) (i:Nat) (r:aV):(gm d i r).aE=d.aE/\(gm d i r).calls=(bq d i r.atom).1.calls/\(gm d i r).calls.length=d.calls.length/\d.steps<=(gm d i r).steps /\
 (gm d i r).queue=d.queue++(if (bq d i r.atom).2=true then (((bq d i r.atom).1.calls[i]?).map ba.waiters).getD [] else []):=by
 obtain ⟨k1,k2,k3,k4,k5,k6,k7⟩:=JF d i r.atom
 unfold gm
 split
 .rename_i hn
  obtain ⟨g1,g2,g3,g4,g5⟩:=zsB { (bq d i r.atom).1 with steps:=d.steps+1 } r
  refine ⟨g5.trans k6,g1,(congrArg List.length g1).trans k7,?_,?_⟩
  .show d.steps<=(j7 { (bq d i r.atom).1 with steps:=d.steps+1 } r).steps
   rw [g4];exact mx _
  .show (j7 { (bq d i r.atom).1 with steps:=d.steps+1 } r).queue++(((j7 { (bq d i r.atom).1 with steps:=d.steps+1 } r).calls[i]?).map ba.waiters).getD []=_
   rw [g1,g3]
   show (bq d i r.atom).1.queue++_=_
   rw [k2]
 .exact ⟨k6,rfl,k7,by rw [k1];exact aS _,by rw [k2,bu]⟩
theorem dL.answer (h:dL cl e d) (i:Nat) (r:aV):dL cl e (gm d i r):=by
 obtain ⟨k1,k2,k3,k4,k5⟩:=zB d i r
 refine h.calls (Zr d i r) k3 (λc hc=>zmN d i r.atom c (k2 ▸ hc)) (λk hk=>?_)
 rw [k5] at hk
 rcases ju.1 hk with hk|hk
 .exact .inl hk
 .split at hk
  .cases hc:(bq d i r.atom).1.calls[i]? with
   |none=>rw [hc] at hk;cases hk
   |some c =>
    rw [hc] at hk
    obtain ⟨c0,h0,e0⟩:=zmN d i r.atom c (fV hc)
    have hk:k∈c.waiters:=hk
    exact .inr ⟨c0,h0,e0 ▸ hk⟩
  .cases hk
theorem dL.open (h:dL cl e d) (a:ae):dL cl (e+1) (dr d a).1:=by
 unfold dr
 split
 .exact h.mono (mx _)
 split
 .exact h.mono (mx _)
 .have hl:(d.calls++[(⟨b8 a,[],[]⟩:ba)]).length=d.calls.length+1:=by rw [dx,j9]
  refine ⟨λk s hs=>?_,h.q,λc hc=>?_,λc hc=>?_,?_⟩
  .show lp cl (d.calls++[_]).length s
   rw [hl]
   exact (h.st k s hs).mono (mx _)
  .rcases ju.1 hc with hc|hc
   .exact h.wb c hc
   .rw [ek.1 hc];nofun
  .rcases ju.1 hc with hc|hc
   .exact h.wn c hc
   .rw [ek.1 hc];exact List.nodup_nil
  .show (d.calls++[_]).length<=r7 d.ab+(e+1)
   rw [hl]
   have:=h.cb
   omega
theorem zvv {a:ae} (h:¬ bT a):dr d a=(d,0,false):=by
 unfold dr
 rw [aG h]
theorem dL.lI (i:Nat):∀ (l:aU) {d:bg},dL cl e d->dL cl e (jR d i l)
 | [],d,h=>h
 |f::l,d,h=>dL.lI i l (h.answer i ⟨f,-1,[]⟩)
theorem LS (i:Nat) (a:ae):∀ (cs:List ay) (k:Nat) (d:bg),(gQ d i a k cs).calls=d.calls/\(gQ d i a k cs).aE=d.aE/\d.steps<=(gQ d i a k cs).steps
 | [],k,d=>⟨rfl,rfl,aS _⟩
 |c::cs,k,d=>by
  rw [gQ]
  cases nZ a c.head with
  |none=>exact LS i a cs (k+1) d
  |some l =>
   obtain ⟨h1,h2,h3⟩:=LS i a cs (k+1) (kT d ⟨i,(k:Int),0,l,ah,0,0⟩)
   exact ⟨h1,h2,dZ (mx _) h3⟩
theorem Tw (i:Nat):∀ (l:aU) (d:bg),(jR d i l).calls.length=d.calls.length/\(jR d i l).aE=d.aE/\d.steps<=(jR d i l).steps
 | [],d=>⟨rfl,rfl,aS _⟩
 |f::l,d=>by
  obtain ⟨h1,h2,h3⟩:=Tw i l (gm d i ⟨f,-1,[]⟩)
  obtain ⟨k1,k2,k3,k4,k5⟩:=zB d i ⟨f,-1,[]⟩
  exact ⟨h1.trans k3,h2.trans k1,dZ k4 h3⟩
theorem dL.fL (i:Nat) (a:ae):∀ (cs:List ay) (k:Nat) {d:bg},dL cl e d->i < d.calls.length->(∀ (j:Nat) c,cs[j]? = some c->cl[k+j]? = some c)->dL cl e (gQ d i a k cs)
 | [],k,d,h,hi,hc=>h
 |c::cs,k,d,h,hi,hc=>by
  rw [gQ]
  have eO:∀ (j:Nat) c',cs[j]? = some c'->cl[k+1+j]? = some c':=λj c' hj=>by
   have:=hc (j+1) c' (by simpa using hj)
   rwa [show k+(j+1)=k+1+j by omega] at this
  cases hu:nZ a c.head with
  |none=>exact dL.fL i a cs (k+1) h hi eO
  |some l =>
   refine dL.fL i a cs (k+1) (h.begin ⟨hi,⟨k,c,rfl,by simpa using hc 0 c (by simp),jv _⟩,ztB hu,by show 0 < _;omega⟩) hi eO
theorem zn0 (d:bg) (a:ae):(dr d a).1.aE=d.aE/\(dr d a).1.steps=d.steps:=by
 unfold dr
 split
 .exact ⟨rfl,rfl⟩
 .split <;> exact ⟨rfl,rfl⟩
theorem zH (facts:aU) (cl:List ay) (d:bg) (a:ae):(bp facts cl d a).1.aE=d.aE/\d.steps<=(bp facts cl d a).1.steps/\(bp facts cl d a).1.calls.length=(dr d (b8 a)).1.calls.length/\(bp facts cl d a).2=(dr d (b8 a)).2.1:=by
 obtain ⟨o1,o2⟩:=zn0 d (b8 a)
 unfold bp
 split
 .obtain ⟨h1,h2,h3⟩:=LS (dr d (b8 a)).2.1 (b8 (b8 a)) cl 0 (jR (dr d (b8 a)).1 (dr d (b8 a)).2.1 (fX (b8 (b8 a)) facts))
  obtain ⟨g1,g2,g3⟩:=Tw (dr d (b8 a)).2.1 (fX (b8 (b8 a)) facts) (dr d (b8 a)).1
  exact ⟨h2.trans (g2.trans o1),dZ (sy o2.symm) (dZ g3 h3),(congrArg List.length h1).trans g1,rfl⟩
 .exact ⟨o1,sy o2.symm,rfl,rfl⟩
theorem dL.bp (h:dL cl e d) (facts:aU) (a:ae):dL cl (e+1) (bp facts cl d a).1:=by
 have ho:=h.open (b8 a)
 unfold Am.bp
 split
 .rename_i hn
  obtain ⟨o1,o2⟩:=zn1 hn
  refine dL.fL _ _ cl 0 (dL.lI _ _ ho) ?_ (λj c hj=>by rw [ia];exact hj)
  rw [(Tw _ _ _).1,o1,o2]
  show d.calls.length < (d.calls++[_]).length
  rw [dx,j9];omega
 .exact ho
theorem dL.state (h:dL cl e d) {s s':eu} (hk:d.ab[k]? = some s) (hs:lp cl d.calls.length s') {e':Nat} (he:e+(if vW s=true then 1 else 0)<=e'+(if vW s'=true then 1 else 0)):dL cl e' { d with ab:=d.ab.set k s' }:=by
 have hl:(d.ab.set k s').length=d.ab.length:=ij
 refine ⟨λj t ht=>?_,λj hj=>?_,λc hc j hj=>?_,h.wn,?_⟩
 .change (d.ab.set k s')[j]? = some t at ht
  by_cases hj:j=k
  .subst hj
   rw [qF (au hk)] at ht
   cases ht
   exact hs
  .rw [J4 (λq=>hj q.symm)] at ht
   exact h.st j t ht
 .show j < (d.ab.set k s').length
  rw [hl];exact h.q j hj
 .show j < (d.ab.set k s').length
  rw [hl];exact h.wb c hc j hj
 .show d.calls.length<=r7 (d.ab.set k s')+e'
  have h1:=zr3 (s':=s') hk
  have h2:=h.cb
  omega
theorem dL.wait (h:dL cl e d) (i:Nat) (hk:k < d.ab.length):dL cl e (js d i k):=by
 unfold js
 split
 .rename_i c hc
  have hm:=fV hc
  split
  .exact h
  .rename_i hn
   refine ⟨λj s hs=>?_,h.q,λc' eO j hj=>?_,λc' eO=>?_,?_⟩
   .show lp cl (d.calls.set i _).length s
    rw [ij];exact h.st j s hs
   .rcases EN eO with eO|rfl
    .exact h.wb c' eO j hj
    .rcases ju.1 hj with hj|hj
     .exact h.wb c hm j hj
     .rw [ek.1 hj];exact hk
   .rcases EN eO with eO|rfl
    .exact h.wn c' eO
    .show (c.waiters++[k]).Nodup
     rw [List.nodup_append]
     refine ⟨h.wn c hm,by simp,λx hx y hy=>?_⟩
     rw [ek.1 hy]
     rintro rfl
     exact hn hx
   .show (d.calls.set i _).length<=_
    rw [ij];exact h.cb
 .exact h
theorem CH (d:bg) (i k:Nat):(js d i k).aE=d.aE/\(js d i k).steps=d.steps/\(js d i k).ab=d.ab/\(js d i k).calls.length=d.calls.length/\(js d i k).queue=d.queue/\(js d i k).count=d.count/\(js d i k).aB=d.aB/\(js d i k).known=d.known/\∀ c∈(js d i k).calls,∃ c0∈d.calls,c.answers=c0.answers:=by
 unfold js
 split
 .split
  .exact ⟨rfl,rfl,rfl,rfl,rfl,rfl,rfl,rfl,λc hc=>⟨c,hc,rfl⟩⟩
  .rename_i c0 lx _
   refine ⟨rfl,rfl,rfl,ij,rfl,rfl,rfl,rfl,λc hc=>?_⟩
   rcases EN hc with hc|rfl
   .exact ⟨c,hc,rfl⟩
   .exact ⟨c0,fV lx,rfl⟩
 .exact ⟨rfl,rfl,rfl,rfl,rfl,rfl,rfl,rfl,λc hc=>⟨c,hc,rfl⟩⟩
theorem dL.num {S W W' C C':Nat} (h:dL cl e d) (n:dp S W C d) (hW:d.steps<=W') (hWW:W<=W') (hC:d.steps+e<=C'):dp S W' C' d:=by
 have h1:=n.ab
 have h2:=h.cb
 have h3:=zt6 d.ab
 refine ⟨n.steps,h1,n.aB,n.count,n.lP,λc hc=>?_,dZ n.queue (Nat.mul_le_mul (aS _) (by omega)),by omega⟩
 have:=znN c.waiters d.ab.length (h.wn c hc) (h.wb c hc)
 omega
end
end Go.Am
