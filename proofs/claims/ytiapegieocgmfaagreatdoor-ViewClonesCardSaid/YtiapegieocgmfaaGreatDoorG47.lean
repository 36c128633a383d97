/- Walks: versions held against each other; lists without anything in them. Written out by fill2.py. No condition. -/
import Derived.Test.YtiapegieocgmfaaGreatDoorG46
set_option linter.unusedSimpArgs false
set_option linter.unusedVariables false
set_option maxRecDepth 100000
set_option maxHeartbeats 0
noncomputable section
namespace Go.Proofs.YtiapegieocgmfaaGreatDoor
open Go.Am Tryz
theorem Ul:aD.desc 40=some (.slice 49):=by kernel_rfl
theorem zCY:dg aD 49=some 1:=by kernel_rfl
theorem NQ (a) (n c:Nat) (h:Heap):bo aD 38 (.slice a n c) h=some (.int .i64 n):=by kernel_rfl
theorem zy1 (l m:List Nat) (v u:ab) (A B:Nat) (t1 t2:TypeId) (h:Heap) (f:cC 1 ED h t1 A v l) (g:cC 1 ED h t2 B u m) (hs:l.length<=1000) (K:aF)
 (hk:∀ h',Ext h h'->K (.bool (decide (l=m))) h'):Ok prog aD ov 12 [v,u] h K:=by
 obtain ⟨va,vn,vc,rfl⟩:=f.shape
 obtain ⟨ua,un,uc,rfl⟩:=g.shape
 have df:=λ(hh:Heap)=>f.bo Ul hh
 have hlu:=λ(hh:Heap)=>g.bo Ul hh
 rw [ao h]
 have z:=Ext.refl h
 refine Ok.aw 24 (bq N12) ?_
 simp only [aa,seval,wx,iy,df,hlu]
 refine gg (λaQ=>?_) (λheq=>?_)
 .rw [tM (show ¬ l=m from λe=>by subst e;exact aQ rfl)] at hk
  simp only [aa,seval,wx]
  exact hk _ z.aA
 have hlen:l.length=m.length:=by omega
 simp only [aa,seval,wx]
 obtain ⟨I1,aU⟩:∃ I:Nat->Env->Heap->Prop,I=(λn e h'=>∃ (i:Nat) (h1:Heap),h'=h1.lay [] h1.low/\Ext h h1/\(n=l.length - i/\i<=l.length/\l.take i=m.take i)/\∃ J:Nat->ab,e=(.slice va vn vc::.slice ua un uc::jr J 2 3 (.int .i64 i::jr J 6 20 ([])))):=⟨_,rfl⟩
 refine dA I1 _ (by rw [aU];exact ⟨0,_,rfl,z,⟨rfl,by omega,rfl⟩,bl⟩) ?_
 intro n e h' aO
 rw [aU] at aO
 obtain ⟨i,bC,rfl,z,hinv,J,rfl⟩:=aO
 obtain ⟨rfl,hi,mX⟩:=hinv
 have hw:=ei i (by omega)
 have f1:=cC.vK f z.inc
 have g1:=cC.vK g z.inc
 simp only [aa,seval,wx,iy,df]
 refine bn (λaT=>?_) (λaT=>?_)
 rotate_left
 .rw [gE (by omega),gE (by omega)] at mX
  rw [uN mX] at hk
  simp only [aa,seval,wx]
  exact hk _ z.aA
 obtain ⟨r,hr⟩:∃ r,l[i]? = some r:=⟨_,gF (by omega)⟩
 obtain ⟨s,kS⟩:∃ s,m[i]? = some s:=⟨_,gF (by omega)⟩
 have i1:=f1.ix (kd:=.i64) (i:=i) Ul zCY (by omega)
 have i2:=g1.ix (kd:=.i64) (i:=i) Ul zCY (by omega)
 have c1:=f1.nq hr rfl
 have c2:=g1.nq kS rfl
 simp only [aa,seval,wx]
 with_reducible first|refine dL (by simp only [wx]) z.aA ?_
 simp only [aa,seval,wx,iy,i1,i2,c1,c2,bO,cd]
 refine gg (λaQ=>?_) (λhe=>?_)
 .have yH:¬ r=s:=λe=>aQ (by rw [e])
  rw [tM (show ¬ l=m from λe=>by
   subst e
   rw [hr] at kS
   exact yH (Option.some.inj kS))] at hk
  simp only [aa,seval,wx]
  ((with_reducible refine ⟨z.cn.lay _ _,?_⟩);(intro _ h' zz x _);(simp only [bM,bu] at x);(replace z:=zz);(clear zz);rw [ao h'])
  simp only [aa,seval,wx]
  exact hk _ z.aA
 .have rY:r=s:=by omega
  simp only [aa,seval,wx]
  ((with_reducible refine ⟨z.cn.lay _ _,?_⟩);(intro _ h' zz x _);(simp only [bM,bu] at x);(replace z:=zz);(clear zz);rw [ao h'])
  simp only [aa,seval,wx]
  rw [hw]
  (rw [aU];with_reducible refine cy (m:=_) ?_ ⟨i+1,_,rfl,z,⟨rfl,by omega,by rw [oW,oW,hr,kS,mX,rY]⟩,bl⟩;omega)
theorem zuo (a1 a2) (c1 c2:Nat) (h:Heap) (K:aF)
 (hk:∀ h',Ext h h'->K (.bool true) h'):Ok prog aD ov 11 [.slice a1 0 c1,.slice a2 0 c2] h K:=by
 rw [ao h]
 have z:=Ext.refl h
 refine Ok.aw 24 (bq Ur) ?_
 simp only [aa,seval,zQ,iy,NQ]
 obtain ⟨I1,aU⟩:∃ I:Nat->Env->Heap->Prop,I=(λn e h'=>∃ (i:Nat) (h1:Heap),h'=h1.lay [] h1.low/\Ext h h1/\(n=0/\i=0)/\∃ J:Nat->ab,e=(.slice a1 0 c1::.slice a2 0 c2::jr J 2 3 (.int .i64 i::jr J 6 20 ([])))):=⟨_,rfl⟩
 refine dA I1 _ (by rw [aU];exact ⟨0,_,rfl,z,⟨rfl,rfl⟩,bl⟩) ?_
 intro n e h' aO
 rw [aU] at aO
 obtain ⟨i,bC,rfl,z,hinv,J,rfl⟩:=aO
 obtain ⟨rfl,rfl⟩:=hinv
 simp only [aa,seval,zQ,iy,NQ]
 exact hk _ z.aA
def Uq (h h':Heap) (w:ab) (l:aS):Prop:=(∃ a c,w=.slice a l.length c)/\(l≠[]->∀ D:List Nat,(∀ B∈D,B < h.size)->Sl aM.atom (aG D h') w l)
theorem dG.Ve {h h':Heap} {u:TypeId} {w:ab} {l:aS} (f:dG h h' u w l):Uq h h' w l:=by
 rcases f with ⟨rfl,hs,he⟩|⟨A,t,rfl,e2,e3,e4⟩
 .refine ⟨?_,λhn=>absurd rfl hn⟩
  rcases he with rfl|⟨B,o,rfl⟩
  .exact ⟨_,_,rfl⟩
  .exact ⟨_,_,rfl⟩
 .exact ⟨⟨_,_,rfl⟩,λ_ D hD=>dG.sl (h0:=h) (u:=u) (.inr ⟨A,t,rfl,e2.kg (λhm=>by have:=hD A hm;omega),e3,e4⟩)⟩
end Go.Proofs.YtiapegieocgmfaaGreatDoor
namespace Go.Proofs.YtiapegieocgmfaaGreatDoor
open Go.Am
def AM (n m:Int):Int:=if m < 1 then 0 else if n.tmod m < 0 then n.tmod m+m else n.tmod m
theorem zzc (n m:Int) (hm:1<=m):0<=AM n m/\AM n m < m:=by
 unfold AM
 rw [az (by omega)]
 have h1:=Int.tmod_lt_of_pos n (show 0 < m by omega)
 have h2:=Int.lt_tmod_of_pos n (show 0 < m by omega)
 split <;> omega
end Go.Proofs.YtiapegieocgmfaaGreatDoor
namespace Go.Proofs.YtiapegieocgmfaaGreatDoor
open Go.Am Tryz
theorem zwU (n m:Int) (h:Heap) (K:aF) (hm:m<=4611686018427387904) (hk:K (.int .i64 (AM n m)) h):Ok prog aD ov 13 [.int .i64 n,.int .i64 m] h K:=by
 refine Ok.aw 15 (bq N13) ?_
 simp only [aa,seval,Ih]
 refine bn (λc=>?_) (λc=>?_)
 .simp only [aa,seval,Ih]
  have:AM n m=0:=by unfold AM;rw [aE c]
  rw [this] at hk
  exact hk
 have hb:=zzc n m (by omega)
 have hd:AM n m=if n.tmod m < 0 then n.tmod m+m else n.tmod m:=by unfold AM;rw [az c]
 simp only [aa,seval,Ih]
 rw [zAE (by omega)]
 simp only [aa,seval,Ih]
 refine bn (λc2=>?_) (λc2=>?_)
 .rw [aE c2] at hd
  rw [hd] at hk hb
  simp only [aa,seval,Ih]
  rw [wrap_i64 (by omega) (by omega)]
  exact hk
 .rw [az c2] at hd
  rw [hd] at hk
  simp only [aa,seval,Ih]
  exact hk
def N18:=bA f18
def ZO:=PLift.up (by have c:=bB N18 f18;simp only [aN,f18,seval] at c;exact nd c <| nd @Li <| nd @sL <| nd @Ln <| nd @U0 <| nd @U1 <| nd @U2 <| nd @sM <| nd @Vr <| @dZ)
end Go.Proofs.YtiapegieocgmfaaGreatDoor
namespace Go.Proofs.YtiapegieocgmfaaGreatDoor
open Go.Am
theorem zsN (k:Int):(AM k 2=0)↔k.tmod 2=0:=by
 unfold AM
 rw [az (by omega)]
 have h1:=Int.tmod_lt_of_pos k (show (0:Int) < 2 by omega)
 have h2:=Int.lt_tmod_of_pos k (show (0:Int) < 2 by omega)
 split <;> omega
end Go.Proofs.YtiapegieocgmfaaGreatDoor
namespace Go.Proofs.YtiapegieocgmfaaGreatDoor
open Go.Am Tryz
variable {h:Heap} {d:aq} {N:Nat}
theorem aL.LR {X:List Nat} {h2:Heap} (f:aL X h h2):aL [] (aG X h) (aG X h2):=by
 refine ⟨by rw [iC,iC];exact f.size,λB hB _=>?_⟩
 rw [iC] at hB
 by_cases hx:B∈X
 .rw [Ar hx hB,Ar hx (dB hB f.size)]
 .rw [oS hx,oS hx]
  exact f.get B hB hx
theorem eC.other {X:List Nat} {b:Nat} {h2:Heap} {S0:Nat} {E:List Nat} {q:Int} {facts:au->aS} {aI us:au->Nat} (s:eC X N b h S0 E d q facts aI us) (f:aL X h h2):eC X N b h2 S0 E d q facts aI us:=⟨s.1.bN (aL.LR f),s.2.1,λB hB=>dB (s.2.2 B hB) f.size⟩
theorem zf3 (l:List eu) (v:ab) (h:Heap) (hl:Sl aM.act h v l) (K:aF)
 (o9:l.length<=40->(∀ c∈l,c.s.size<=300/\c.a.aW=true)->∀ h',Ext h h'->K (.bool true) h') (iV:∀ h',Ext h h'->K (.bool false) h'):Ok prog aD ov 6 [v] h K:=by
 rw [ao h]
 have z:=Ext.refl h
 have hZ:∀ (h:Heap) (K:aF),aC (some v) h K=K v h:=λ_ _=>rfl
 have df:=λ(hh:Heap)=>hl.bo k6 hh
 refine Ok.aw 28 (bq N6) ?_
 simp only [aa,seval,c6]
 obtain ⟨I1,aU⟩:∃ I:Nat->Env->Heap->Prop,I=(λn e h'=>∃ (i:Nat) (h1:Heap),h'=h1.lay [] h1.low/\Ext h h1/\(n=l.length - i/\i<=l.length/\(∀ c∈l.take i,c.s.size<=300/\c.a.aW=true))/\∃ J:Nat->ab,e=(v::jr J 1 2 (.int .i64 i::jr J 4 25 ([])))):=⟨_,rfl⟩
 refine dA I1 _ (by rw [aU];exact ⟨0,_,rfl,z,⟨rfl,by omega,by simp⟩,bl⟩) ?_
 intro n e h' aO
 rw [aU] at aO
 obtain ⟨i,bC,rfl,z,hinv,J,rfl⟩:=aO
 obtain ⟨rfl,hi,aH⟩:=hinv
 have hle:=hl.le
 simp only [aa,seval,c6,hZ,df]
 refine bn (λaT=>?_) (λka=>?_)
 .obtain ⟨r,hr,cw⟩:=eW (l:=l) (i:=i) (by omega)
  have fH:IntKind.i64.wrap ((i:Int)+1)=((i+1:Nat):Int):=by unfold maxLen at hle;rw [wrap_i64 (by omega) (by omega)];omega
  simp only [aa,seval,c6,hZ]
  repeat' ((first|((with_reducible apply bn) <;> intro _)|with_reducible refine CK (hl.mono z.inc) k6 qj (by omega) hr (λp hp=>?_)|with_reducible refine Eo hp zC (λqq hq=>?_)|with_reducible refine gj hq j9 ?_|with_reducible refine Ep hp zD (λqq hq=>?_)|with_reducible refine ma hq eP bH ?_|((with_reducible refine Tx _ _ _ (λIF h' x=>?_) (λIF h' x=>?_)) <;> (replace z:=z.an x;rw [ao h']))|((with_reducible apply bX);(· rfl))) <;> simp only [aa,seval,c6,hZ])
  all_goals first
   |exact iV _ z.aA
   |(rw [fH]
     (rw [aU];with_reducible refine cy (m:=_) ?_ ⟨i+1,_,rfl,z,⟨rfl,by omega,qH (i:=i) (P:=λc:eu=>c.s.size<=300/\c.a.aW=true) cw aH ⟨by omega,IF⟩⟩,bl⟩;omega))
 .rw [gE (by omega)] at aH
  simp only [aa,seval,c6,hZ,df]
  refine bn (λhle=>?_) (λvo=>?_)
  .simp only [aa,seval,c6]
   exact o9 (by omega) aH _ z.aA
  .simp only [aa,seval,c6]
   exact iV _ z.aA
theorem lP.down {N2 S2 NB k:Nat} (f:lP N h S2 NB d k) (hN:N2<=N):lP N2 h S2 NB d k:=by
 obtain ⟨p0,p1,p2,p5,p6,q,b,nv,rows,e1,e2,e3,e4,e5,e6,e7,e8,e9⟩:=f
 exact ⟨p0,p1,p2,p5,p6,q,b,nv,rows,e1,e2,e3,e4,e5,e6,by omega,by omega,e9⟩
theorem lP.nb {S2 NB k:Nat} (f:lP N h S2 NB d k):N<=NB/\NB < h.size:=by
 obtain ⟨p0,p1,p2,p5,p6,q,b,nv,rows,e1,e2,e3,e4,e5,e6,e7,e8,e9⟩:=f
 exact ⟨e8,e9⟩
theorem zBm (d:aq) (l:List eu) (p0 p1 p2 p5 p6 lv:ab) (q b:Int) (h:Heap) (cG:bd 1 h) (hd:dR h p0 p1 p2 p5 p6 d) (hq:d.i6=q) (hb:d.fE=b) (W6:AX d) (oF:d.ah.length<=70) (IG:d.bZ.length<=70) (Ab:d.aR.length<=70) (hl:Sl aM.act h lv l) (Gf:l.length<=40) (aT:∀ c∈l,c.s.size<=300/\c.a.aW=true) (K:aF)
 (o9:∀ h',Ext h h'->K (.tuple #[.pointer none,.pointer none,.bool false]) h')
 (iV:zy d=0->∀ h' S0 S2 E facts aI us,Ext h h'->eC [] h.size (4*l.length) h' S0 E d q facts aI us->cZ d l.length facts aI us->K (.tuple #[.pointer (some ⟨S0,0,none⟩),.pointer (some ⟨S2,0,none⟩),.bool true]) h'):Ok prog aD ov 7 [fI p0 p1 p2 p5 p6 q b,lv] h K:=by
 have bf:=hd.one q b
 rw [ao h]
 have z:=Ext.refl h
 have qc:∀ (h:Heap) (K:aF),aC (some lv) h K=K lv h:=λ_ _=>rfl
 have Dq:=λ(hh:Heap)=>hl.bo k6 hh
 refine Ok.aw 89 (bq N7) ?_
 simp only [aa,seval,c7,gZ,↓fA,eV,eI]
 refine zBq d _ _ _ _ _ q b _ (cG.lay _ _) bf (hd.lay _ _) hq hb W6 (by omega) (by omega) [] (λ_ h=>nomatch h) _ (λaQ h' x=>?_) (λheq h' S0 E0 x dz=>?_)
 .have qP:=Holds.top (i:=0) x rfl
  (replace z:=z.an x;rw [ao h'])
  simp only [aa,seval,c7,bO,qP.lay,↓fA,eV,eI]
  refine zwS d _ _ _ _ _ q b _ bf ((hd.mono z.inc).lay _ _) Ab oF [] (λ_ h=>nomatch h) ((hd.mono z.inc).lay _ _) _ (λc h' _ x=>?_) (λh' S2 NB x _=>?_)
  all_goals
   (replace z:=z.an x;replace qP:=qP.over x;rw [ao h'])
   simp only [aa,seval,c7,bO,cd]
   refine gg (λ_=>?_) (λhe=>absurd he aQ)
   simp only [aa,seval,c7]
   exact o9 _ z.aA
 have qP:=Holds.top (i:=0) x rfl
 replace dz:=dz.down (N2:=h.size) (by rw [bc];omega)
 have NL:=cZ.empty d
 obtain ⟨iG,mn⟩:=zga heq
 (replace z:=z.an x;rw [ao h'])
 have oD:=dz.lt.2
 simp only [aa,seval,c7,cd,bO,qP.lay,↓fA,eV,eI]
 refine zwS d _ _ _ _ _ q b _ bf ((hd.mono z.inc).lay _ _) Ab oF E0 (λB hB=>by rw [bc];have:=(oD B hB).2;omega) (hd.mono (zoI (z.inc.trans (bL.lay _ _ _)) (λB hB=>(oD B hB).1))) _ (λc h' hc x=>?_) (λhT S2 NB x sd=>?_)
 ·(replace z:=z.an x;( replace qP:=qP.over x );( replace dz:=dz.over x );rw [ao h'])
  simp only [aa,seval,c7,bO]
  refine gg (λ_=>?_) (λhe=>absurd he hc)
  simp only [aa,seval,c7]
  exact o9 _ z.aA
 have hNB:=sd.nb
 rw [iC] at hNB
 replace dz:=(dz.lay _ _).fresh (X:=[NB]) (x.bN []) (λB hB=>by rw [hU.1 hB];exact hNB)
 replace sd:=sd.down (N2:=h.size) (by rw [bc];have:=z.size;omega)
 replace z:=z.an x
 have hzT:=z.size
 rw [ao hT]
 simp only [aa,seval,c7,cd,bO]
 obtain ⟨I1,aU⟩:∃ I:Nat->Env->Heap->Prop,I=(λn e h'=>∃ (i:Nat) (E:List Nat) (facts:au->aS) (aI us:au->Nat) (h1:Heap),h'=h1.lay [] h1.low/\Ext h h1/\(n=l.length - i/\i<=l.length/\eC [NB] h.size (4*i) h1 S0 E d q facts aI us/\lP h.size (aG E h1) S2 NB d i/\cZ d i facts aI us)/\∃ J:Nat->ab,e=(J 0::lv::jr J 2 5 (.pointer (some ⟨S0,0,none⟩)::J 8::.pointer (some ⟨S2,0,none⟩)::J 10::.int .i64 i::jr J 12 79 ([])))):=⟨_,rfl⟩
 refine dA I1 _ (by rw [aU];exact ⟨0,E0,_,_,_,_,rfl,z,⟨rfl,by omega,dz,sd,NL⟩,bl⟩) ?_
 intro n e h' aO
 rw [aU] at aO
 obtain ⟨i,E,facts,aI,us,bC,rfl,z,hinv,J,rfl⟩:=aO
 clear dz sd NL
 obtain ⟨rfl,hi,dz,sd,inv⟩:=hinv
 have fH:=ei i (by omega)
 have hz:=z.size
 simp only [aa,seval,c7,qc,Dq]
 refine bn (λGk=>?_) (λka=>?_)
 rotate_left
 .have iX:i=l.length:=by omega
  subst iX
  simp only [aa,seval,c7,cd]
  exact iV heq _ S0 S2 E _ _ us z.aA ((dz.lay _ _).by (aL.refl _ _)) inv
 obtain ⟨r,hr,cw⟩:=eW (l:=l) (i:=i) (by omega)
 have lk:=(aT r (ic cw)).2
 have iF:=inv.len r.s
 have oc:=inv.Ap r.s
 have hNE:∀ B∈E,B≠NB:=λB hB e=>dz.2.1 B hB (by simp [e])
 repeat' (first|simp only [aa,seval,c7,qc,dm,cd,bO]|with_reducible refine CK (hl.mono z.inc) k6 qj (by omega) hr (λp hp=>?_)|with_reducible refine Uc hp JP (λqq hq=>?_)|with_reducible refine gj hq ES ?_)
 refine zwU r.k 2 _ _ (by decide) ?_
 simp only [aa,seval,c7,bO]
 refine bn (λhp=>?_) (λhp=>?_)
 focus
  have Ag:rq d q r (facts r.s)=jC d q r.s r.a (facts r.s):=aE ((zsN r.k).1 hp)
  simp only [aa,seval,c7]
  with_reducible first|refine dL (by simp only [c7]) z.aA ?_
  repeat' (first|simp only [aa,seval,c7,qc,dm,cd,bO]|with_reducible refine CK (hl.mono z.inc) k6 qj (by omega) hr (λp hp=>?_)|with_reducible refine Eo hp zC (λqq hq=>?_)|with_reducible refine Ep hp zD (λqq hq=>?_)|with_reducible refine gj hq j9 ?_|with_reducible refine ma hq eP bH ?_)
  refine zly d q r.s r.a facts aI us h _ z.aA h.size (4*i) i S0 E rfl [NB] (dz.lay _ _) inv iG mn ((cG.ext z).lay _ _) lk (by omega) (by omega) _ (λh3 E2 gd z2 f2 FF mK inv2=>?_)
  have kf:=f2.size
  rw [bc] at kf
  refine vT (by kernel_rfl) z2.low (by rw [bc];exact kf) ?_
  have Cc:=sd.beside (E2:=E2) ((aL.lay bC [] _ E).trans f2 (λB hB=>.inl hB)) (λB hB=>(FF B hB).imp id (λe=>by rw [bc] at e;omega))
  have mG:=z2.size
  clear z dz sd
  have z:=z2
  rw [ao h3]
  simp only [aa,seval,c7]
  ((with_reducible refine ⟨z.cn.lay _ _,?_⟩);(intro _ h6 zz x _);(simp only [bM,bu] at x))
  replace mK:=mK.over x
  replace Cc:=Cc.di ((aL.refl [] h3).over x)
  clear z
  have z:=zz
  rw [ao h6]
  simp only [aa,seval,c7]
  with_reducible first|refine dL (by simp only [c7]) z.aA ?_
  simp only [aa,seval,c7,qc,dm,cd,bO]
  repeat' ((first|with_reducible refine CK (hl.mono z.inc) k6 qj (by omega) hr (λp hp=>?_)|with_reducible refine Eo hp zC (λqq hq=>?_)|with_reducible refine Ep hp zD (λqq hq=>?_)|with_reducible refine gj hq j9 ?_|with_reducible refine ma hq eP bH ?_) <;> simp only [aa,seval,c7,qc,dm,cd,bO])
  have FG:=mK.lt.2
  have R0:NB ∉ E2:=λhm=>mK.2.1 NB hm (by simp)
  refine zt0 d i r.s r.a h _ z.aA h.size S2 NB rfl E2 (λB hB=>by rw [bc];have:=(FG B hB).2;omega) (Cc.di (aL.lay _ _ _ _)) R0 (by omega) lk _ (λh7 bb ee z7 f7 G8=>?_)
  have IK:=f7.size
  rw [bc] at IK
  refine vT (by kernel_rfl) z7.low (by rw [bc];exact IK) ?_
  have zj:=mK.other ((aL.lay h6 [] _ [NB]).trans f7 (λB hB=>.inl hB))
  clear z mK Cc
  have z:=z7
  rw [ao h7]
  simp only [aa,seval,c7]
  ((with_reducible refine ⟨z.cn.lay _ _,?_⟩);(intro _ h8 zz x _);(simp only [bM,bu] at x))
  replace zj:=zj.over x
  replace G8:=G8.di ((aL.refl [] h7).over x)
  rw [<- Ag] at zj inv2
  clear z
  have z:=zz
  rw [ao h8]
  simp only [aa,seval,c7]
  rw [fH]
  (rw [aU];with_reducible refine cy (m:=_) ?_ ⟨i+1,E2,_,_,gd,_,rfl,z,⟨rfl,by omega,zj,G8,inv2⟩,bl⟩;omega)
 focus
  have Ag:rq d q r (facts r.s)=kH d r.s r.a (facts r.s):=az (λe=>hp ((zsN r.k).2 e))
  simp only [aa,seval,c7]
  with_reducible first|refine dL (by simp only [c7]) z.aA ?_
  repeat' (first|simp only [aa,seval,c7,qc,dm,cd,bO]|with_reducible refine CK (hl.mono z.inc) k6 qj (by omega) hr (λp hp=>?_)|with_reducible refine Eo hp zC (λqq hq=>?_)|with_reducible refine Ep hp zD (λqq hq=>?_)|with_reducible refine gj hq j9 ?_|with_reducible refine ma hq eP bH ?_)
  refine zjv d q r.s r.a facts aI us h _ z.aA h.size (4*i) i S0 E rfl [NB] (dz.lay _ _) inv iG mn ((cG.ext z).lay _ _) lk (by omega) (by omega) _ (λh3 E2 gd z2 f2 FF mK inv2=>?_)
  have kf:=f2.size
  rw [bc] at kf
  refine vT (by kernel_rfl) z2.low (by rw [bc];exact kf) ?_
  have Cc:=sd.beside (E2:=E2) ((aL.lay bC [] _ E).trans f2 (λB hB=>.inl hB)) (λB hB=>(FF B hB).imp id (λe=>by rw [bc] at e;omega))
  have mG:=z2.size
  clear z dz sd
  have z:=z2
  rw [ao h3]
  simp only [aa,seval,c7]
  ((with_reducible refine ⟨z.cn.lay _ _,?_⟩);(intro _ h6 zz x _);(simp only [bM,bu] at x))
  replace mK:=mK.over x
  replace Cc:=Cc.di ((aL.refl [] h3).over x)
  clear z
  have z:=zz
  rw [ao h6]
  simp only [aa,seval,c7]
  with_reducible first|refine dL (by simp only [c7]) z.aA ?_
  simp only [aa,seval,c7,qc,dm,cd,bO]
  repeat' ((first|with_reducible refine CK (hl.mono z.inc) k6 qj (by omega) hr (λp hp=>?_)|with_reducible refine Eo hp zC (λqq hq=>?_)|with_reducible refine Ep hp zD (λqq hq=>?_)|with_reducible refine gj hq j9 ?_|with_reducible refine ma hq eP bH ?_) <;> simp only [aa,seval,c7,qc,dm,cd,bO])
  have FG:=mK.lt.2
  have R0:NB ∉ E2:=λhm=>mK.2.1 NB hm (by simp)
  refine zrb d i r.s r.a h _ z.aA h.size S2 NB rfl E2 (λB hB=>by rw [bc];have:=(FG B hB).2;omega) (Cc.di (aL.lay _ _ _ _)) R0 (by omega) lk _ (λh7 bb ee z7 f7 G8=>?_)
  have IK:=f7.size
  rw [bc] at IK
  refine vT (by kernel_rfl) z7.low (by rw [bc];exact IK) ?_
  have zj:=mK.other ((aL.lay h6 [] _ [NB]).trans f7 (λB hB=>.inl hB))
  clear z mK Cc
  have z:=z7
  rw [ao h7]
  simp only [aa,seval,c7]
  ((with_reducible refine ⟨z.cn.lay _ _,?_⟩);(intro _ h8 zz x _);(simp only [bM,bu] at x))
  replace zj:=zj.over x
  replace G8:=G8.di ((aL.refl [] h7).over x)
  rw [<- Ag] at zj inv2
  clear z
  have z:=zz
  rw [ao h8]
  simp only [aa,seval,c7]
  rw [fH]
  (rw [aU];with_reducible refine cy (m:=_) ?_ ⟨i+1,E2,_,_,gd,_,rfl,z,⟨rfl,by omega,zj,G8,inv2⟩,bl⟩;omega)
theorem zju (d:aq) (p0 p1 p2 p5 p6:ab) (q b:Int) (h:Heap) (hd:dR h p0 p1 p2 p5 p6 d) (K:aF) (o9:d.ah.length<=70->d.bZ.length<=70->d.aR.length<=70->(∀ c∈d.aR,c.reads.length<=40)->d.rules.length<=70->(∀ r∈d.rules,r.body.length<=9)->d.bK.length<=70->(∀ g∈d.bK,g.body.length<=9)->∀ h',Ext h h'->K (.bool true) h') (iV:∀ h',Ext h h'->K (.bool false) h'):Ok prog aD ov 5 [fI p0 p1 p2 p5 p6 q b] h K:=by
 rw [ao h]
 have z:=Ext.refl h
 have oI:∀ (h:Heap) (K:aF),aC (some p0) h K=K p0 h:=λ_ _=>rfl
 have kT:∀ (h:Heap) (K:aF),aC (some p1) h K=K p1 h:=λ_ _=>rfl
 have jB:∀ (h:Heap) (K:aF),aC (some p2) h K=K p2 h:=λ_ _=>rfl
 have kU:∀ (h:Heap) (K:aF),aC (some p5) h K=K p5 h:=λ_ _=>rfl
 have lY:∀ (h:Heap) (K:aF),aC (some p6) h K=K p6 h:=λ_ _=>rfl
 have fR:=λ(hh:Heap)=>hd.s1.bo kr hh
 have iE:=λ(hh:Heap)=>hd.s2.bo jT hh
 have nY:=λ(hh:Heap)=>hd.s5.bo my hh
 have mW:=λ(hh:Heap)=>hd.s6.bo nu hh
 refine Ok.aw 134 (bq N5) ?_
 repeat' (simp only [aa,seval,c5,gZ,eM,ft,fN,gY,iw,oI,kT,jB,kU,lY,fR,iE,nY,mW])
 refine zgU d.ah p0 70 6000 _ (hd.s0.lay _ _) _ (λe0 h' x=>?_) (λh' x=>?_)
 rotate_left
 .have q0:=Holds.top (i:=0) x rfl
  (replace z:=z.an x;rw [ao h'])
  repeat' (first|simp only [aa,seval,c5,kW]|((with_reducible apply bX);(· rfl)))
  exact iV _ z.aA
 have q0:=Holds.top (i:=0) x rfl
 (replace z:=z.an x;rw [ao h'])
 obtain ⟨A0,el⟩:∃ A0,A0=h.size+0:=⟨_,rfl⟩
 rw [<- el] at q0
 rw [<- el]
 repeat' (first|simp only [aa,seval,c5,q0.lay,eM,ft,fN,gY,iw,oI,kT,jB,kU,lY,fR,iE,nY,mW,fQ]|((with_reducible apply bn) <;> intro _)|((with_reducible apply bX);(· rfl)))
 iterate 4 (· exact iV _ z.aA)
 have e1:d.bZ.length<=70:=by omega
 have e2:d.aR.length<=70:=by omega
 have e5:d.rules.length<=70:=by omega
 have e6:d.bK.length<=70:=by omega
 obtain ⟨I1,aU⟩:∃ I:Nat->Env->Heap->Prop,I=(λn e h'=>∃ (i:Nat) (h1:Heap),h'=h1.lay [] h1.low/\Ext h h1/\(n=d.bZ.length - i/\i<=d.bZ.length/\Holds h1 A0 (.row (du p0 p1 p2 p5 p6 q b) 28 false))/\∃ J:Nat->ab,e=(J 0::.pointer (some ⟨A0,0,none⟩)::J 2::.int .i64 i::jr J 4 131 ([]))):=⟨_,rfl⟩
 refine dA I1 _ (by rw [aU];exact ⟨0,_,rfl,z,⟨rfl,by omega,q0⟩,bl⟩) ?_
 intro n e h' aO
 rw [aU] at aO
 obtain ⟨i,bC,rfl,z,hinv,J,rfl⟩:=aO
 clear q0
 obtain ⟨rfl,hi,q0⟩:=hinv
 have hw:=ei i (by omega)
 simp only [aa,seval,c5,q0.lay,eM,ft,fN,gY,iw,oI,kT,jB,kU,lY,fR,iE,nY,mW,fQ]
 refine bn (λaT=>?_) (λaT=>?_)
 .obtain ⟨r,hr,cw⟩:=eW (l:=d.bZ) (i:=i) (by omega)
  repeat' (first|simp only [aa,seval,c5,q0.lay,eM,ft,fN,gY,iw,oI,kT,jB,kU,lY,fR,iE,nY,mW,fQ]|((with_reducible apply bn) <;> intro _)|with_reducible refine Q4 (hd.s1.mono z.inc) kr mL (by omega) hr (λp hp=>?_)|with_reducible refine xS hp HM (λq hq=>?_)|with_reducible refine gj hq j9 ?_)
  .exact iV _ z.aA
  rw [hw]
  (rw [aU];with_reducible refine cy (m:=_) ?_ ⟨i+1,_,rfl,z,⟨rfl,by omega,q0⟩,bl⟩;omega)
 clear hi aT hw
 simp only [aa,seval,c5,q0.lay,eM,ft,fN,gY,iw,oI,kT,jB,kU,lY,fR,iE,nY,mW,fQ]
 obtain ⟨I2,fM⟩:∃ I:Nat->Env->Heap->Prop,I=(λn e h'=>∃ (i:Nat) (h1:Heap),h'=h1.lay [] h1.low/\Ext h h1/\(n=d.aR.length - i/\i<=d.aR.length/\(∀ c∈d.aR.take i,c.reads.length<=40)/\Holds h1 A0 (.row (du p0 p1 p2 p5 p6 q b) 28 false))/\∃ J:Nat->ab,e=(J 0::.pointer (some ⟨A0,0,none⟩)::jr J 2 2 (.int .i64 i::jr J 5 130 ([])))):=⟨_,rfl⟩
 refine dA I2 _ (by rw [fM];exact ⟨0,_,rfl,z,⟨rfl,by omega,by simp,q0⟩,bl⟩) ?_
 intro n e h' aO
 rw [fM] at aO
 obtain ⟨i,bC,rfl,z,hinv,J,rfl⟩:=aO
 clear q0
 obtain ⟨rfl,hi,aH,q0⟩:=hinv
 have hw:=ei i (by omega)
 simp only [aa,seval,c5,q0.lay,eM,ft,fN,gY,iw,oI,kT,jB,kU,lY,fR,iE,nY,mW,fQ]
 refine bn (λaT=>?_) (λaT=>?_)
 .obtain ⟨r,hr,cw⟩:=eW (l:=d.aR) (i:=i) (by omega)
  repeat' (first|simp only [aa,seval,c5,q0.lay,eM,ft,fN,gY,iw,oI,kT,jB,kU,lY,fR,iE,nY,mW,fQ]|((with_reducible apply bn) <;> intro _)|with_reducible refine CD (hd.s2.mono z.inc) jT kM (by omega) hr (λp b hb hp=>?_)|with_reducible refine xS hp CB (λq hq=>?_)|with_reducible refine gj hq j9 ?_|with_reducible refine Fq hp JQ (λq hq=>?_)|with_reducible refine gj hq ER ?_)
  .exact iV _ z.aA
  refine zgU r.reads _ 40 3000 _ (hb.lay _ _) _ (λer h' x=>?_) (λh' x=>?_)
  rotate_left
  ·(replace z:=z.an x;( replace q0:=q0.over x );rw [ao h'])
   repeat' (first|simp only [aa,seval,c5,kW]|((with_reducible apply bX);(· rfl)))
   exact iV _ z.aA
  (replace z:=z.an x;replace q0:=q0.over x;rw [ao h'])
  repeat' (first|simp only [aa,seval,c5,fQ]|((with_reducible apply bX);(· rfl)))
  rw [hw]
  (rw [fM];with_reducible refine cy (m:=_) ?_ ⟨i+1,_,rfl,z,⟨rfl,by omega,qH (i:=i) (P:=λc:bz=>c.reads.length<=40) cw aH (by omega),q0⟩,bl⟩;omega)
 rw [gE (by omega)] at aH
 clear hi aT hw
 simp only [aa,seval,c5,q0.lay,eM,ft,fN,gY,iw,oI,kT,jB,kU,lY,fR,iE,nY,mW,fQ]
 obtain ⟨I3,ny⟩:∃ I:Nat->Env->Heap->Prop,I=(λn e h'=>∃ (i:Nat) (h1:Heap),h'=h1.lay [] h1.low/\Ext h h1/\(n=d.rules.length - i/\i<=d.rules.length/\(∀ r∈d.rules.take i,r.body.length<=9)/\Holds h1 A0 (.row (du p0 p1 p2 p5 p6 q b) 28 false))/\∃ J:Nat->ab,e=(J 0::.pointer (some ⟨A0,0,none⟩)::jr J 2 3 (.int .i64 i::jr J 6 129 ([])))):=⟨_,rfl⟩
 refine dA I3 _ (by rw [ny];exact ⟨0,_,rfl,z,⟨rfl,by omega,by simp,q0⟩,bl⟩) ?_
 intro n e h' aO
 rw [ny] at aO
 obtain ⟨i,bC,rfl,z,hinv,J,rfl⟩:=aO
 clear q0
 obtain ⟨rfl,hi,ya,q0⟩:=hinv
 have hw:=ei i (by omega)
 simp only [aa,seval,c5,q0.lay,eM,ft,fN,gY,iw,oI,kT,jB,kU,lY,fR,iE,nY,mW,fQ]
 refine bn (λaT=>?_) (λaT=>?_)
 .obtain ⟨r,hr,cw⟩:=eW (l:=d.rules) (i:=i) (by omega)
  repeat' (first|simp only [aa,seval,c5,q0.lay,eM,ft,fN,gY,iw,oI,kT,jB,kU,lY,fR,iE,nY,mW,fQ]|with_reducible refine Q5 (hd.s5.mono z.inc) my rz (by omega) hr (λp b hb hp=>?_)|with_reducible refine Fs hp HN (λq hq=>?_)|with_reducible refine ma hq eP bH ?_)
  refine Tx r.head _ _ (λAg h' x=>?_) (λAg h' x=>?_)
  rotate_left
  ·(replace z:=z.an x;( replace q0:=q0.over x );rw [ao h'])
   repeat' (first|simp only [aa,seval,c5,kW]|((with_reducible apply bX);(· rfl)))
   exact iV _ z.aA
  (replace z:=z.an x;replace q0:=q0.over x;rw [ao h'])
  repeat' (first|simp only [aa,seval,c5,q0.lay,eM,ft,fN,gY,iw,oI,kT,jB,kU,lY,fR,iE,nY,mW,fQ]|with_reducible refine Q5 (hd.s5.mono z.inc) my rz (by omega) hr (λp b hb hp=>?_)|with_reducible refine Ft hp HO (λq hq=>?_)|with_reducible refine gj hq sH ?_|((with_reducible apply bX);(· rfl)))
  refine zo9 r.body _ 9 _ (Sl.mono (by assumption) (bL.lay _ _ _)) _ (λhb9 _ h' x=>?_) (λh' x=>?_)
  rotate_left
  ·(replace z:=z.an x;( replace q0:=q0.over x );rw [ao h'])
   repeat' (first|simp only [aa,seval,c5,kW]|((with_reducible apply bX);(· rfl)))
   exact iV _ z.aA
  (replace z:=z.an x;replace q0:=q0.over x;rw [ao h'])
  repeat' (first|simp only [aa,seval,c5,fQ]|((with_reducible apply bX);(· rfl)))
  rw [hw]
  (rw [ny];with_reducible refine cy (m:=_) ?_ ⟨i+1,_,rfl,z,⟨rfl,by omega,qH (i:=i) (P:=λr:cB=>r.body.length<=9) cw ya (by omega),q0⟩,bl⟩;omega)
 rw [gE (by omega)] at ya
 clear hi aT hw
 simp only [aa,seval,c5,q0.lay,eM,ft,fN,gY,iw,oI,kT,jB,kU,lY,fR,iE,nY,mW,fQ]
 obtain ⟨I4,FH⟩:∃ I:Nat->Env->Heap->Prop,I=(λn e h'=>∃ (i:Nat) (h1:Heap),h'=h1.lay [] h1.low/\Ext h h1/\(n=d.bK.length - i/\i<=d.bK.length/\(∀ g∈d.bK.take i,g.body.length<=9)/\Holds h1 A0 (.row (du p0 p1 p2 p5 p6 q b) 28 false))/\∃ J:Nat->ab,e=(J 0::.pointer (some ⟨A0,0,none⟩)::jr J 2 4 (.int .i64 i::jr J 7 128 ([])))):=⟨_,rfl⟩
 refine dA I4 _ (by rw [FH];exact ⟨0,_,rfl,z,⟨rfl,by omega,by simp,q0⟩,bl⟩) ?_
 intro n e h' aO
 rw [FH] at aO
 obtain ⟨i,bC,rfl,z,hinv,J,rfl⟩:=aO
 clear q0
 obtain ⟨rfl,hi,xZ,q0⟩:=hinv
 have hw:=ei i (by omega)
 simp only [aa,seval,c5,q0.lay,eM,ft,fN,gY,iw,oI,kT,jB,kU,lY,fR,iE,nY,mW,fQ]
 refine bn (λaT=>?_) (λaT=>?_)
 rotate_left
 .rw [gE (by omega)] at xZ
  repeat' (simp only [aa,seval,c5])
  exact o9 (by omega) e1 e2 aH e5 ya e6 xZ _ z.aA
 obtain ⟨r,hr,cw⟩:=eW (l:=d.bK) (i:=i) (by omega)
 repeat' (first|simp only [aa,seval,c5,q0.lay,eM,ft,fN,gY,iw,oI,kT,jB,kU,lY,fR,iE,nY,mW,fQ]|((with_reducible apply bn) <;> intro _)|with_reducible refine Ud (hd.s6.mono z.inc) nu qk (by omega) hr (λp b hb hp=>?_)|with_reducible refine Vf hp T9 (λq hq=>?_)|with_reducible refine gj hq j9 ?_|with_reducible refine Vg hp Q2 (λq hq=>?_)|with_reducible refine ma hq eP bH ?_)
 .exact iV _ z.aA
 refine Tx r.head _ _ (λAg h' x=>?_) (λAg h' x=>?_)
 rotate_left
 ·(replace z:=z.an x;( replace q0:=q0.over x );rw [ao h'])
  repeat' (first|simp only [aa,seval,c5,kW]|((with_reducible apply bX);(· rfl)))
  exact iV _ z.aA
 (replace z:=z.an x;replace q0:=q0.over x;rw [ao h'])
 repeat' (first|simp only [aa,seval,c5,q0.lay,eM,ft,fN,gY,iw,oI,kT,jB,kU,lY,fR,iE,nY,mW,fQ]|with_reducible refine Ud (hd.s6.mono z.inc) nu qk (by omega) hr (λp b hb hp=>?_)|with_reducible refine Vh hp Ua (λq hq=>?_)|with_reducible refine gj hq sH ?_|((with_reducible apply bX);(· rfl)))
 refine zo9 r.body _ 9 _ (Sl.mono (by assumption) (bL.lay _ _ _)) _ (λhb9 _ h' x=>?_) (λh' x=>?_)
 rotate_left
 ·(replace z:=z.an x;( replace q0:=q0.over x );rw [ao h'])
  repeat' (first|simp only [aa,seval,c5,kW]|((with_reducible apply bX);(· rfl)))
  exact iV _ z.aA
 (replace z:=z.an x;replace q0:=q0.over x;rw [ao h'])
 repeat' (first|simp only [aa,seval,c5,fQ]|((with_reducible apply bX);(· rfl)))
 rw [hw]
 (rw [FH];with_reducible refine cy (m:=_) ?_ ⟨i+1,_,rfl,z,⟨rfl,by omega,qH (i:=i) (P:=λg:eZ=>g.body.length<=9) cw xZ (by omega),q0⟩,bl⟩;omega)
def N3:=bA f3
def x3:=PLift.up (by have c:=bB N3 f3;simp only [aN,f3,seval] at c;exact nd c <| nd @JP <| nd @zC <| nd @zD <| nd @GU <| nd @dZ <| nd @mZ <| nd @cq <| nd @gA <| nd @GZ <| nd @Ca <| @fi3)
theorem c3:type_of% x3.down:=x3.down
end Go.Proofs.YtiapegieocgmfaaGreatDoor
