/- What a view has: its facts are those of its members, as many as they have together, and a call of one principal turns its own alone. No condition. -/
import Derived.Test.YtiapegieocgmfaaGreatDoorG38
import Derived.Test.YtiapegieocgmfaaGreatDoorG47
set_option linter.unusedSimpArgs false
set_option linter.unusedVariables false
namespace Go.Am

def Rp (l:aS):Prop:=l.Pairwise (λx y=>cL x≠cL y)
theorem ef.diff {s:aS} (h:ef s):Rp s:=h.imp λh e=>by rw [bT.2 e] at h;exact absurd h (by decide)
theorem zh6:∀ (m:aS) {l:aS},Rp (l++m)->(eo (l++m)).length=(eo l).length+m.length
 | [],l,_=>by rw [bu,dN,iU]
 |a::m,l,h=>by
  have e:l++a::m=(l++[a])++m:=by rw [j7];rfl
  rw [e] at h ⊢
  rw [zh6 m h]
  have hd:Rp (l++[a]):=(List.pairwise_append.1 h).1
  have hh:bE (eo l) a=false:=by
   cases hc:bE (eo l) a
   .rfl
   .obtain ⟨x,hx,ex⟩:=cP.1 hc
    exact absurd ex ((List.pairwise_append.1 hd).2.2 x ((qG l).mem hx) a (hU.2 rfl))
  rw [zlN,(Js hh).length_eq,dn,dn]
  omega
theorem zxt {l:aS} (h:Rp l):(eo l).length=l.length:=by
 have:=zh6 l (l:=[]) h
 rw [pE] at this
 rw [this]
 exact jo _
section
variable {d:aq} {k:Nat} {facts:au->aS} {aI us:au->Nat}
theorem cZ.diff (i:cZ d k facts aI us):∀ {m:List au},m.Nodup->Rp (m.map facts).flatten
 | [],_=>List.Pairwise.nil
 |w::r,hn=>by
  rw [tN] at hn
  rw [lD,List.flatten_cons]
  refine List.pairwise_append.2 ⟨(i.hY w).diff,i.diff hn.2,λx hx y hy e=>?_⟩
  obtain ⟨l,hl,hyl⟩:=List.mem_flatten.1 hy
  obtain ⟨w2,vG,rfl⟩:=oY.1 hl
  have dp:=zmH (JR (i.ok w x hx)) (JR (i.ok w2 y hyl)) e
  have h1:=(Cr (i.ok w x hx)).2.2.2
  have h2:=(Cr (i.ok w2 y hyl)).2.2.2
  rw [dp] at h1
  have:w=w2:=by rw [<- h1,<- h2]
  rw [this] at hn
  exact hn.1 vG
end
end Go.Am
namespace Go.Am
theorem zi1 {Z β:Type} [DecidableEq β] {f:List Z->Z->Int} {l:List Z} (h:ji f [] l=0) {i:Nat} {x:Z} (hx:l[i]? = some x):f (l.take i) x=0:=by
 have:=ku.1 h i x hx
 rwa [pE] at this
theorem zsP {ps:List au} {c:bz} (h:wi ps c=0):c.reads.Nodup/\c.reads.length<=16/\∀ x∈c.reads,x∈ps/\x≠c.who:=by
 unfold wi at h
 split at h
 .cases h
 .rename_i hl
  refine ⟨Tv.2 λi j hi hj dK e=>?_,by omega,λx hx=>?_⟩
  .have h2:=zi1 (β:=au) h (i:=j) (gF hj)
   have h3:=(Cn (by decide)).1 (bY.1 h2 (bm (cp (c.reads.take j) c.reads[j]) 5) (by simp))
   have h4:cp (c.reads.take j) c.reads[j]=true:=dw.2 (by
    rw [<- e]
    refine ic (i:=i) ?_
    rw [mi,aE dK,gF hi])
   rw [h3] at h4
   cases h4
  .obtain ⟨j,hj⟩:=List.mem_iff_getElem?.1 hx
   have h2:=zi1 (β:=au) h hj
   have h3:=(Cn (by decide)).1 (bY.1 h2 (bm (!cp ps x) 6) (by simp))
   have h4:=(Cn (by decide)).1 (bY.1 h2 (bm (decide (x=c.who)) 11) (by simp))
   exact ⟨dw.1 (by simpa using h3),by simpa using h4⟩
theorem zvP {ps:List au} {l:List bz} (h:HB ps l=0):zt ps l/\∀ c∈l,c.reads.length<=16:=by
 unfold HB at h
 have hc:∀ {i:Nat} {c:bz},l[i]? = some c->c.who∈ps/\¬ c.who∈(l.take i).map bz.who/\wi ps c=0:=λ{i c} hi=>by
  have h2:=bY.1 (zi1 (β:=au) h hi)
  have h3:=(Cn (by decide)).1 (h2 (bm (!cp ps c.who) 6) (by simp))
  have h4:=(Cn (by decide)).1 (h2 (bm (cp ((l.take i).map bz.who) c.who) 5) (by simp))
  exact ⟨dw.1 (by simpa using h3),λhm=>absurd ((dw.2 hm).symm.trans h4) (by decide),h2 (wi ps c) (by simp)⟩
 have aT:∀ (i k:Nat) (c e:bz),l[i]? = some c->l[k]? = some e->c.who=e.who->¬ i < k:=λi k c e hi hk hw aT=>by
  refine (hc hk).2.1 (oY.2 ⟨c,ic (i:=i) ?_,hw⟩)
  rw [mi,aE aT,hi]
 refine ⟨⟨λi k c e hi hk hw=>?_,λc hm=>?_⟩,λc hm=>?_⟩
 .have h1:=aT i k c e hi hk hw
  have h2:=aT k i e c hk hi hw.symm
  omega
 .obtain ⟨i,hi⟩:=List.mem_iff_getElem?.1 hm
  obtain ⟨h1,_,h3⟩:=hc hi
  obtain ⟨h4,_,h5⟩:=zsP h3
  exact ⟨h1,h4,h5⟩
 .obtain ⟨i,hi⟩:=List.mem_iff_getElem?.1 hm
  exact (zsP (hc hi).2.2).2.1
open Classical in
theorem zyD {k1 k2:List au} (n1:k1.Nodup) (n2:k2.Nodup) (h:∀ t∈k1,t∈k2):k1.length<=k2.length:=by
 have hp:(k2.filter λt=>decide (t∈k1)).Perm k1:=(List.perm_ext_iff_of_nodup (n2.sublist JE) n1).2 λt=>by
  rw [H3]
  simp only [jH]
  exact ⟨λx=>x.2,λx=>⟨h t x,x⟩⟩
 rw [<- hp.length_eq]
 exact CI _ _
theorem zhO {d:aq} (h:zy d=0):zt d.ah d.aR:=by
 unfold zy at h
 exact (zvP (bY.1 h (HB d.ah d.aR) (by simp))).1
theorem ztX {d:aq} {who:au} (h:zy d=0) (hw:who∈d.ah):(v7 d who).Nodup/\(v7 d who).length<=16:=by
 have fT:=zhO h
 obtain ⟨iG,mn⟩:=zga h
 have hn:=zea (who:=who) fT
 refine ⟨hn,gn ?_ mn⟩
 have hs:∀ x∈v7 d who,x∈d.ah:=λx hx=>by
  rcases qf.1 hx with rfl|hx
  .exact hw
  .exact ((zpo fT).2 x hx).1
 exact zyD hn iG hs
end Go.Am
namespace Go.Proofs.YtiapegieocgmfaaGreatDoor
open Go.Am Tryz
set_option maxRecDepth 100000
set_option maxHeartbeats 0
theorem zsC {lf:aS} (Gh:lf.length<=1000) (fa ga:Option Addr) (fc gc:Nat) (h:Heap) (fs:lf≠[]->Sl aM.atom h (.slice fa lf.length fc) lf) (gs:lf≠[]->Sl aM.atom h (.slice ga lf.length gc) lf) (K:aF) (hk:∀ h',Ext h h'->K (.bool true) h'):Ok prog aD ov 11 [.slice ga lf.length gc,.slice fa lf.length fc] h K:=by
 by_cases jz:lf=[]
 .have h0:lf.length=0:=by rw [jz];rfl
  rw [h0]
  exact zuo _ _ _ _ _ _ hk
 .refine zpa _ _ _ _ _ (gs jz) (fs jz) Gh Gh _ (λh' x=>?_)
  rw [uN rfl]
  exact hk h' x
theorem zsD (l:List Nat) (v u:ab) (A B:Nat) (t1 t2:TypeId) (h:Heap) (f:cC 1 ED h t1 A v l) (g:cC 1 ED h t2 B u l) (hs:l.length<=1000) (K:aF) (hk:∀ h',Ext h h'->K (.bool true) h'):Ok prog aD ov 12 [v,u] h K:=by
 refine zy1 l l v u A B t1 t2 h f g hs _ (λh' x=>?_)
 rw [uN rfl]
 exact hk h' x
theorem zm5 (d0:aq) (l m:List eu) (who:au) (v lv mv:ab) (h:Heap) (cG:bd 1 h) (hx:Ld h v d0) (hl:Sl aM.act h lv l) (hm:Sl aM.act h mv m):zP prog aD.gs 3 [v,lv,mv,.string who] h λv h'=>v=.bool true/\Ext h h':=by
 obtain ⟨p0,p1,p2,p5,p6,q,b,rfl,Ac⟩:=hx
 obtain ⟨d,hd,hq,hb⟩:∃ d:aq,dR h p0 p1 p2 p5 p6 d/\d.i6=q/\d.fE=b:=⟨{ d0 with i6:=q,fE:=b },⟨Ac.s0,Ac.s1,Ac.s2,Ac.s5,Ac.s6⟩,rfl,rfl⟩
 clear Ac
 have bf:=hd.one q b
 have qc:∀ (h:Heap) (K:aF),aC (some lv) h K=K lv h:=λ_ _=>rfl
 have vF:∀ (h:Heap) (K:aF),aC (some mv) h K=K mv h:=λ_ _=>rfl
 refine zP.enter mixed tB zCI zBI (bq N3) (λρ0 w0 B=>?_)
 obtain ⟨J,hJ⟩:∃ J:Nat->ab,(([fI p0 p1 p2 p5 p6 q b,lv,mv,.string who]:List ab)++List.replicate (f3.ntmps - ([fI p0 p1 p2 p5 p6 q b,lv,mv,.string who]:List ab).length) undef)=(fI p0 p1 p2 p5 p6 q b::lv::mv::.string who::jr J 4 118 ([])):=oM (by kernel_rfl)
 rw [hJ]
 have z:=Ext.refl h
 refine SD.RP (ao h) ?_
 refine SD.oP B (c1:=(N3 1)) (c2:=(N3 2)) (by kernel_rfl) (by kernel_rfl) ?_
 simp only [aa,seval,c3,gZ,dm,qc,vF,qn,rE]
 refine SD.oP B (c1:=(N3 3)) (c2:=(N3 10)) (by kernel_rfl) (by kernel_rfl) ?_
 simp only [aa,seval,c3]
 refine Ok.over (g:=J3 1) rfl (zzD (cG.lay _ _)) ?_
 repeat' (first|simp only [aa,seval,c3,fQ,qn,rE]|((with_reducible first|apply bn|apply lK|apply gg|apply rJ|apply vZ) <;> intro _)|((with_reducible apply bX);(· rfl))|((with_reducible refine ⟨z.cn.lay _ _,?_⟩);(intro _ h' zz x _);(try simp only [bM,bu] at x);(replace z:=zz);(clear zz);rw [ao h']))
 refine SD.oP B (c1:=(N3 11)) (c2:=(N3 18)) (by kernel_rfl) (by kernel_rfl) ?_
 simp only [aa,seval,c3,fQ,gZ,↓fA,eV,eI,qc]
 refine zju d _ _ _ _ _ _ _ _ (hd.lay _ _) _ (λb0 b1 b2 b3 b4 b5 b6 b7 h' x=>?_) (λh' x=>?_)
 rotate_left
 ·((first|((with_reducible refine cU ?_ ?_ ?_);(· exact (by (try simp only [ck]);have:=z.size;omega));(· first|exact x|simpa only [oN] using x))|skip);replace z:=z.ec x (by (try simp only [ck]);omega);rw [ao h'])
  simp only [aa,seval,c3,kW]
  repeat' ((first|((with_reducible first|apply bn|apply lK|apply gg|apply rJ|apply vZ) <;> intro _)|((with_reducible apply bX);(· rfl))|((with_reducible refine ⟨z.cn.lay _ _,?_⟩);(intro _ h' zz x _);(try simp only [bM,bu] at x);(replace z:=zz);(clear zz);rw [ao h'])) <;> simp only [aa,seval,c3,kW,qn,Qk])
  exact ⟨.inl trivial,_,rfl,rfl,z.aA⟩
 have qP:=Holds.top (i:=0) x rfl
 ((first|((with_reducible refine cU ?_ ?_ ?_);(· exact (by (try simp only [ck]);have:=z.size;omega));(· first|exact x|simpa only [oN] using x))|skip);replace z:=z.ec x (by (try simp only [ck]);omega);rw [ao h'])
 obtain ⟨P0,hP0⟩:∃ P0,P0=h.size+0:=⟨_,rfl⟩
 rw [<- hP0] at qP
 rw [<- hP0]
 repeat' (first|simp only [aa,seval,c3,fQ,qc]|((with_reducible first|apply bn|apply lK|apply gg|apply rJ|apply vZ) <;> intro _)|((with_reducible apply bX);(· rfl))|((with_reducible refine ⟨z.cn.lay _ _,?_⟩);(intro _ h' zz x _);(try simp only [bM,bu] at x);(try replace qP:=qP.over x);(replace z:=zz);(clear zz);rw [ao h']))
 refine zf3 l _ _ ((hl.mono z.inc).lay _ _) _ (λGf aT h' x=>?_) (λh' x=>?_)
 rotate_left
 ·((first|((with_reducible refine cU ?_ ?_ ?_);(· exact (by (try simp only [ck]);have:=z.size;omega));(· first|exact x|simpa only [oN] using x))|skip);replace z:=z.ec x (by (try simp only [ck]);omega);(try replace qP:=qP.over x);rw [ao h'])
  simp only [aa,seval,c3,kW]
  repeat' ((first|((with_reducible first|apply bn|apply lK|apply gg|apply rJ|apply vZ) <;> intro _)|((with_reducible apply bX);(· rfl))|((with_reducible refine ⟨z.cn.lay _ _,?_⟩);(intro _ h' zz x _);(try simp only [bM,bu] at x);(try replace qP:=qP.over x);(replace z:=zz);(clear zz);rw [ao h'])) <;> simp only [aa,seval,c3,kW,qn,Qk])
  exact ⟨.inl trivial,_,rfl,rfl,z.aA⟩
 ((first|((with_reducible refine cU ?_ ?_ ?_);(· exact (by (try simp only [ck]);have:=z.size;omega));(· first|exact x|simpa only [oN] using x))|skip);replace z:=z.ec x (by (try simp only [ck]);omega);(try replace qP:=qP.over x);rw [ao h'])
 repeat' (first|simp only [aa,seval,c3,fQ,vF]|((with_reducible first|apply bn|apply lK|apply gg|apply rJ|apply vZ) <;> intro _)|((with_reducible apply bX);(· rfl))|((with_reducible refine ⟨z.cn.lay _ _,?_⟩);(intro _ h' zz x _);(try simp only [bM,bu] at x);(try replace qP:=qP.over x);(replace z:=zz);(clear zz);rw [ao h']))
 refine zf3 m _ _ ((hm.mono z.inc).lay _ _) _ (λamX hmt h' x=>?_) (λh' x=>?_)
 rotate_left
 ·((first|((with_reducible refine cU ?_ ?_ ?_);(· exact (by (try simp only [ck]);have:=z.size;omega));(· first|exact x|simpa only [oN] using x))|skip);replace z:=z.ec x (by (try simp only [ck]);omega);(try replace qP:=qP.over x);rw [ao h'])
  simp only [aa,seval,c3,kW]
  repeat' ((first|((with_reducible first|apply bn|apply lK|apply gg|apply rJ|apply vZ) <;> intro _)|((with_reducible apply bX);(· rfl))|((with_reducible refine ⟨z.cn.lay _ _,?_⟩);(intro _ h' zz x _);(try simp only [bM,bu] at x);(try replace qP:=qP.over x);(replace z:=zz);(clear zz);rw [ao h'])) <;> simp only [aa,seval,c3,kW,qn,Qk])
  exact ⟨.inl trivial,_,rfl,rfl,z.aA⟩
 ((first|((with_reducible refine cU ?_ ?_ ?_);(· exact (by (try simp only [ck]);have:=z.size;omega));(· first|exact x|simpa only [oN] using x))|skip);replace z:=z.ec x (by (try simp only [ck]);omega);(try replace qP:=qP.over x);rw [ao h'])
 simp only [aa,seval,c3,fQ,dm]
 repeat' ((first|((with_reducible first|apply bn|apply lK|apply gg|apply rJ|apply vZ) <;> intro _)|((with_reducible apply bX);(· rfl))|((with_reducible refine ⟨z.cn.lay _ _,?_⟩);(intro _ h' zz x _);(try simp only [bM,bu] at x);(try replace qP:=qP.over x);(replace z:=zz);(clear zz);rw [ao h'])) <;> simp only [aa,seval,c3,fQ,dm,qn,rE,Qk])
 .exact ⟨.inl trivial,_,rfl,rfl,z.aA⟩
 refine SD.oP B (c1:=(N3 19)) (c2:=(N3 20)) (by kernel_rfl) (by kernel_rfl) ?_
 simp only [aa,seval,c3,qP.lay,gZ,↓fA,eV,eI,qc]
 have W6:AX d:=⟨by omega,by omega,by omega,λr hr=>by have:=b5 r hr;omega,by omega,λg hg=>by have:=b7 g hg;omega⟩
 refine zBm d l _ _ _ _ _ lv q b _ ((cG.ext z).lay _ _) ((hd.mono z.inc).lay _ _) hq hb W6 (by omega) (by omega) (by omega) ((hl.mono z.inc).lay _ _) Gf aT _ (λh' x=>?_) (λheq h' S0 S2 E facts aI us x dz inv=>?_)
 ·((first|((with_reducible refine cU ?_ ?_ ?_);(· exact (by (try simp only [ck]);have:=z.size;omega));(· first|exact x|simpa only [oN] using x))|skip);replace z:=z.ec x (by (try simp only [ck]);omega);(try replace qP:=qP.over x);rw [ao h'])
  simp only [aa,seval,c3,jg,cd,gB,qn,rE]
  refine SD.oP B (c1:=(N3 21)) (c2:=(N3 28)) (by kernel_rfl) (by kernel_rfl) ?_
  simp only [aa,seval,c3,gB]
  (with_reducible apply bX);(· rfl)
  simp only [aa,seval,c3,kW,qn,Qk]
  exact ⟨.inl trivial,_,rfl,rfl,z.aA⟩
 have fT:=zhO heq
 obtain ⟨iG,mn⟩:=zga heq
 have ad8:∀ c∈d.aR,c.reads.length<=40:=b3
 have hPE:∀ B∈E,P0 < B:=λB hB=>by
  have h1:=(dz.lt.2 B hB).1
  have h2:=qP.lt
  rw [bc] at h1
  omega
 replace dz:=dz.down (N2:=h.size) (by rw [bc];have:=z.size;omega)
 ((first|((with_reducible refine cU ?_ ?_ ?_);(· exact (by (try simp only [ck]);have:=z.size;omega));(· first|exact x|simpa only [oN] using x))|skip);replace z:=z.ec x (by (try simp only [ck]);omega);(try replace qP:=qP.over x);(try replace dz:=dz.over x);rw [ao h'])
 simp only [aa,seval,c3,jg,cd,gB,qn,rE]
 refine SD.oP B (c1:=(N3 21)) (c2:=(N3 28)) (by kernel_rfl) (by kernel_rfl) ?_
 simp only [aa,seval,c3,gB]
 (with_reducible apply bX);(· rfl)
 simp only [aa,seval,c3,fQ,qn,rE]
 refine SD.seq (c1:=(N3 29)) (c2:=(N3 30)) (by kernel_rfl) ?_
 refine SD.region (id:=8) (ops:=ek (N3 29)) (by kernel_rfl) ?_
 refine SL.op B (l:=mh (ek (N3 29)) 1) (o:=mJ (ek (N3 29)) 0) (op:=.move (.tmp 9)) (d:=some 45) (v:=.pointer (some ⟨S0,0,none⟩)) (by kernel_rfl) (by kernel_rfl) (by kernel_rfl) (by kernel_rfl) (by kernel_rfl) (λ_ _ _=>rfl) ?_
 have oa:=cG.lt
 refine SL.call (l:=mh (ek (N3 29)) 2) (o:=mJ (ek (N3 29)) 1) (f:=.func 8) (args:=#[.tmp 45]) (ats:=#[33]) (d:=some 46) (gf:=8) B (by kernel_rfl) (by kernel_rfl) (by kernel_rfl) (by kernel_rfl) rfl ?_
 refine zwF d q facts aI us _ ((cG.ext z).lay _ _) h.size _ l.length S0 E oa (dz.lay _ _).un inv (by omega) (by omega) _ (λh2 C0 E2 b2 gd x2 jD=>?_)
 refine SL.op B (l:=[]) (o:=mJ (ek (N3 29)) 2) (op:=.assign (.tmp 46)) (d:=some 12) (v:=.pointer (some ⟨C0,0,none⟩)) (by kernel_rfl) (by kernel_rfl) (by kernel_rfl) (by kernel_rfl) (by kernel_rfl) (λ_ _ _=>rfl) ?_
 refine SL.nil ?_
 rw [rE]
 replace qP:=qP.over x2
 replace dz:=dz.over x2
 replace z:=z.an x2
 clear x2 x
 refine SD.RP (ao h2) ?_
 refine SD.IY B (by kernel_rfl) ?_
 obtain ⟨lf,Gh⟩:∃ lf,lf=eo ((gl d who).map facts).flatten:=⟨_,rfl⟩
 have GI:(gl d who).Nodup/\(gl d who).length<=16:=by
  unfold gl
  split
  .exact ztX heq (nz.1 (by assumption))
  .exact ⟨List.nodup_nil,lE _⟩
 have amT:lf.length<=640:=by
  rw [Gh,zxt (inv.diff GI.1)]
  have:=Qp (n:=40) (ls:=(gl d who).map facts) (λl hl=>by obtain ⟨w,_,rfl⟩:=oY.1 hl;exact gn (inv.len w) Gf)
  rw [gi] at this
  omega
 have WS:=λB hB=>(dz.lt.2 B hB).2
 simp only [aa,seval,c3]
 with_reducible first|refine dL (by simp only [c3]) z.aA ?_
 simp only [aa,seval,c3,cd,qP.lay,↓fA,eV,eI,dm]
 refine zfr d who _ _ _ _ _ q b _ bf ((hd.mono z.inc).lay _ _) (by omega) (by omega) fT b3 [] _ _ S0 E d q facts aI us (dz.lay _ _) (λw=>by have:=inv.len w;omega) (λw x hx=>inv.aW hx) _ (λh' f x of=>?_)
 rw [<- Gh] at of
 have hEb:∀ B∈E,B < h'.size:=λB hB=>dB ((dz.lt.2 B hB).2) (aL.size ((aL.refl [] _).over x))
 obtain ⟨⟨fa,fc,yo⟩,fk⟩:=dG.Ve of
 subst yo
 have fs:lf≠[]->Sl aM.atom (aG E h') (.slice fa lf.length fc) lf:=λaQ=>fk aQ E (λB hB=>by rw [bc];exact (dz.lt.2 B hB).2)
 clear of fk
 ((first|((with_reducible refine cU ?_ ?_ ?_);(· exact (by (try simp only [ck]);have:=z.size;omega));(· first|exact x|simpa only [oN] using x))|skip);replace z:=z.ec x (by (try simp only [ck]);omega);(try replace qP:=qP.over x);(try replace dz:=dz.over x);(try replace jD:=jD.over x);rw [ao h'])
 simp only [aa,seval,c3,iy,cd,qP.lay,↓fA,eV,eI,dm]
 refine zfs d who _ _ _ _ _ q b _ bf ((hd.mono z.inc).lay _ _) (by omega) (by omega) fT b3 [] _ _ S0 E d q facts aI us (dz.lay _ _) _ (λh' v Av x gv hAv=>?_)
 have WN:∀ B∈E,B≠Av:=λB hB e=>by
  rw [bc] at hAv
  have:=hEb B hB
  omega
 replace fs:lf≠[]->Sl aM.atom (aG E h') (.slice fa lf.length fc) lf:=λaQ=>(fs aQ).mono ((((aL.refl [] _).over x).mono (D':=E) (λ_ h=>nomatch h)).inc (λB hB=>.inl hB))
 obtain ⟨va,vn,vc,rfl⟩:=gv.shape
 ((first|((with_reducible refine cU ?_ ?_ ?_);(· exact (by (try simp only [ck]);have:=z.size;omega));(· first|exact x|simpa only [oN] using x))|skip);replace z:=z.ec x (by (try simp only [ck]);omega);(try replace qP:=qP.over x);(try replace dz:=dz.over x);(try replace jD:=jD.over x);rw [ao h'])
 simp only [aa,seval,c3,iy,cd]
 ((with_reducible refine ⟨z.cn.lay _ _,?_⟩);(intro _ h' zz x _);(try simp only [bM,bu] at x);(try replace qP:=qP.over x);(try replace dz:=dz.over x);(try replace jD:=jD.over x);(try replace gv:=gv.over x);(replace z:=zz);(clear zz);rw [ao h'])
 replace fs:lf≠[]->Sl aM.atom (aG E h') (.slice fa lf.length fc) lf:=λaQ=>(fs aQ).mono ((((aL.refl [] _).over x).mono (D':=E) (λ_ h=>nomatch h)).inc (λB hB=>.inl hB))
 simp only [aa,seval,c3,iy,cd,qP.lay,↓fA,eV,eI,dm]
 refine zfr d who _ _ _ _ _ q b _ bf ((hd.mono z.inc).lay _ _) (by omega) (by omega) fT b3 E _ _ C0 E2 d q facts aI gd (jD.lay _ _) (λw=>by have:=inv.len w;omega) (λw x hx=>inv.aW hx) _ (λh' f x of=>?_)
 rw [<- Gh] at of
 obtain ⟨⟨ga,gc,ka⟩,gk⟩:=dG.Ve of
 subst ka
 have gs:lf≠[]->Sl aM.atom h' (.slice ga lf.length gc) lf:=λaQ=>gk aQ [] (λ_ h=>nomatch h)
 replace fs:lf≠[]->Sl aM.atom (aG E h') (.slice fa lf.length fc) lf:=λaQ=>(fs aQ).mono ((((aL.refl [] _).over x).mono (D':=E) (λ_ h=>nomatch h)).inc (λB hB=>.inl hB))
 clear of gk
 ((first|((with_reducible refine cU ?_ ?_ ?_);(· exact (by (try simp only [ck]);have:=z.size;omega));(· first|exact x|simpa only [oN] using x))|skip);replace z:=z.ec x (by (try simp only [ck]);omega);(try replace qP:=qP.over x);(try replace dz:=dz.over x);(try replace jD:=jD.over x);(try replace gv:=gv.over x);rw [ao h'])
 simp only [aa,seval,c3,iy,cd]
 refine zsC (by omega) _ _ _ _ _ (λaQ=>((fs aQ).mono (rH _ _)).lay _ _) (λaQ=>(gs aQ).lay _ _) _ (λh' x=>?_)
 replace fs:lf≠[]->Sl aM.atom (aG E h') (.slice fa lf.length fc) lf:=λaQ=>(fs aQ).mono ((((aL.refl [] _).over x).mono (D':=E) (λ_ h=>nomatch h)).inc (λB hB=>.inl hB))
 clear gs
 ((first|((with_reducible refine cU ?_ ?_ ?_);(· exact (by (try simp only [ck]);have:=z.size;omega));(· first|exact x|simpa only [oN] using x))|skip);replace z:=z.ec x (by (try simp only [ck]);omega);(try replace qP:=qP.over x);(try replace dz:=dz.over x);(try replace jD:=jD.over x);(try replace gv:=gv.over x);rw [ao h'])
 simp only [aa,seval,c3,fQ]
 (with_reducible apply bX);(· rfl)
 simp only [aa,seval,c3,fQ,cd,qP.lay,↓fA,eV,eI,dm]
 refine zfs d who _ _ _ _ _ q b _ bf ((hd.mono z.inc).lay _ _) (by omega) (by omega) fT b3 E _ _ C0 E2 d q facts aI gd (jD.lay _ _) _ (λh' v Aw x gw hAw=>?_)
 replace fs:lf≠[]->Sl aM.atom (aG E h') (.slice fa lf.length fc) lf:=λaQ=>(fs aQ).mono ((((aL.refl [] _).over x).mono (D':=E) (λ_ h=>nomatch h)).inc (λB hB=>.inl hB))
 obtain ⟨ua,un,uc,rfl⟩:=gw.shape
 ((first|((with_reducible refine cU ?_ ?_ ?_);(· exact (by (try simp only [ck]);have:=z.size;omega));(· first|exact x|simpa only [oN] using x))|skip);replace z:=z.ec x (by (try simp only [ck]);omega);(try replace qP:=qP.over x);(try replace dz:=dz.over x);(try replace jD:=jD.over x);(try replace gv:=gv.over x);rw [ao h'])
 simp only [aa,seval,c3,iy,cd]
 refine zsD _ _ _ _ _ _ _ _ (gw.lay _ _) (gv.lay _ _) (by rw [gi];omega) _ (λh' x=>?_)
 replace fs:lf≠[]->Sl aM.atom (aG E h') (.slice fa lf.length fc) lf:=λaQ=>(fs aQ).mono ((((aL.refl [] _).over x).mono (D':=E) (λ_ h=>nomatch h)).inc (λB hB=>.inl hB))
 clear gw
 ((first|((with_reducible refine cU ?_ ?_ ?_);(· exact (by (try simp only [ck]);have:=z.size;omega));(· first|exact x|simpa only [oN] using x))|skip);replace z:=z.ec x (by (try simp only [ck]);omega);(try replace qP:=qP.over x);(try replace dz:=dz.over x);(try replace jD:=jD.over x);(try replace gv:=gv.over x);rw [ao h'])
 simp only [aa,seval,c3,fQ]
 (with_reducible apply bX);(· rfl)
 simp only [aa,seval,c3,fQ]
 obtain ⟨h8,Dm⟩:∃ h8,h8=h':=⟨_,rfl⟩
 have alS:∀ B∈E,B < h8.size:=λB hB=>by rw [Dm];exact (dz.lt.2 B hB).2
 have qP8:Holds h8 P0 (.row (du p0 p1 p2 p5 p6 q b) 28 false):=by rw [Dm];exact qP
 have gv8:cC 1 ED h8 49 Av (.slice va vn vc) ((gl d who).map aI):=by rw [Dm];exact gv
 have fs8:lf≠[]->Sl aM.atom (aG E h8) (.slice fa lf.length fc) lf:=by rw [Dm];exact fs
 have ZB:eC E 0 b2 h8 C0 E2 d q facts aI gd:=by rw [Dm];exact jD
 have z8:Ext h h8:=by rw [Dm];exact z
 have tU:aL E h8 h':=by rw [Dm];exact aL.refl _ _
 have M6:∀ w,(facts w).length<=l.length:=inv.len
 have M9:∀ w,∀ x∈facts w,x.aW=true:=λw x hx=>inv.aW hx
 have Dr:=λ(hh:Heap)=>hm.bo k6 hh
 obtain ⟨I1,aU⟩:∃ I:Nat->Env->Heap->Prop,I=(λn e h'=>∃ (i:Nat) (Ei:List Nat) (nx:au->aS) (rB tq:au->Nat) (h1:Heap),h'=h1.lay [] h1.low/\Ext h h1/\(n=m.length - i/\i<=m.length/\eC [] h.size (4*(l.length+i)) h1 S0 Ei d q nx rB tq/\cZ d (l.length+i) nx rB tq/\aL E h8 h1/\(∀ B∈Ei,B∈E\/h8.size<=B))/\∃ J:Nat->ab,e=(jr J 0 2 (mv::.string who::.pointer (some ⟨P0,0,none⟩)::jr J 5 4 (.pointer (some ⟨S0,0,none⟩)::jr J 10 2 (.pointer (some ⟨C0,0,none⟩)::.slice fa lf.length fc::.slice va vn vc::.int .i64 i::jr J 16 106 ([])))))):=⟨_,rfl⟩
 refine dA I1 _ (by rw [aU];exact ⟨0,E,facts,aI,us,_,rfl,z,⟨rfl,lE _,dz,inv,tU,λB hB=>.inl hB⟩,bl⟩) ?_
 intro n e h' aO
 rw [aU] at aO
 obtain ⟨i,Ei,nx,rB,tq,bC,rfl,z,hinv,J,rfl⟩:=aO
 clear dz jD qP gv fs inv tU Dm
 obtain ⟨rfl,hi,dz,inv,tU,RV⟩:=hinv
 have fH:=ei i (by omega)
 have hz:=z.size
 simp only [aa,seval,c3,vF,Dr]
 refine bn (λGk=>?_) (λka=>?_)
 rotate_left
 .have qP:=qP8.bN tU (λGm=>by have:=hPE _ Gm;omega)
  have jD:=ZB.by tU
  have gv:=gv8.bN tU (λGm=>WN _ Gm rfl)
  have fs:lf≠[]->Sl aM.atom bC (.slice fa lf.length fc) lf:=λaQ=>((fs8 aQ).mono (tU.inc (D':=E) (λB hB=>.inl hB))).mono (rH _ _)
  clear dz inv tU
  simp only [aa,seval,c3,cd,qP.lay,↓fA,eV,eI,dm]
  refine zfr d who _ _ _ _ _ q b _ bf ((hd.mono z.inc).lay _ _) (by omega) (by omega) fT b3 [] _ _ C0 E2 d q facts aI gd (jD.lay _ _) (λw=>by have:=M6 w;omega) M9 _ (λh' f x of=>?_)
  rw [<- Gh] at of
  obtain ⟨⟨ga,gc,ka⟩,gk⟩:=dG.Ve of
  subst ka
  have gs:lf≠[]->Sl aM.atom h' (.slice ga lf.length gc) lf:=λaQ=>gk aQ [] (λ_ h=>nomatch h)
  replace fs:lf≠[]->Sl aM.atom h' (.slice fa lf.length fc) lf:=λaQ=>(fs aQ).mono x.inc.kJ
  clear of gk
  ((first|((with_reducible refine cU ?_ ?_ ?_);(· exact (by (try simp only [ck]);have:=z.size;omega));(· first|exact x|simpa only [oN] using x))|skip);replace z:=z.ec x (by (try simp only [ck]);omega);(try replace qP:=qP.over x);(try replace jD:=jD.over x);(try replace gv:=gv.over x);rw [ao h'])
  simp only [aa,seval,c3,iy,cd]
  refine zsC (by omega) _ _ _ _ _ (λaQ=>(fs aQ).lay _ _) (λaQ=>(gs aQ).lay _ _) _ (λh' x=>?_)
  clear gs fs
  ((first|((with_reducible refine cU ?_ ?_ ?_);(· exact (by (try simp only [ck]);have:=z.size;omega));(· first|exact x|simpa only [oN] using x))|skip);replace z:=z.ec x (by (try simp only [ck]);omega);(try replace qP:=qP.over x);(try replace jD:=jD.over x);(try replace gv:=gv.over x);rw [ao h'])
  simp only [aa,seval,c3,iy,cd,qP.lay,↓fA,eV,eI,dm]
  refine zfs d who _ _ _ _ _ q b _ bf ((hd.mono z.inc).lay _ _) (by omega) (by omega) fT b3 [] _ _ C0 E2 d q facts aI gd (jD.lay _ _) _ (λh' v Aw x gw hAw=>?_)
  obtain ⟨ua,un,uc,rfl⟩:=gw.shape
  ((first|((with_reducible refine cU ?_ ?_ ?_);(· exact (by (try simp only [ck]);have:=z.size;omega));(· first|exact x|simpa only [oN] using x))|skip);replace z:=z.ec x (by (try simp only [ck]);omega);(try replace qP:=qP.over x);(try replace jD:=jD.over x);(try replace gv:=gv.over x);rw [ao h'])
  simp only [aa,seval,c3,iy,cd]
  refine zsD _ _ _ _ _ _ _ _ (gw.lay _ _) (gv.lay _ _) (by rw [gi];omega) _ (λh' x=>?_)
  clear gw
  ((first|((with_reducible refine cU ?_ ?_ ?_);(· exact (by (try simp only [ck]);have:=z.size;omega));(· first|exact x|simpa only [oN] using x))|skip);replace z:=z.ec x (by (try simp only [ck]);omega);(try replace qP:=qP.over x);(try replace jD:=jD.over x);(try replace gv:=gv.over x);rw [ao h'])
  simp only [aa,seval,c3,gB,qn]
  exact ⟨.inl trivial,_,rfl,rfl,z.aA⟩
 obtain ⟨r,hr,cw⟩:=eW (l:=m) (i:=i) (by omega)
 have lk:=(hmt r (ic cw)).2
 have iF:=inv.len r.s
 have oc:=inv.Ap r.s
 repeat' (first|simp only [aa,seval,c3,vF,dm,cd,bO]|((with_reducible first|apply bn|apply lK|apply gg|apply rJ|apply vZ) <;> intro _)|with_reducible refine CK (hm.mono z.inc) k6 qj (by omega) hr (λp hp=>?_)|with_reducible refine Uc hp JP (λqq hq=>?_)|with_reducible refine Eo hp zC (λqq hq=>?_)|with_reducible refine Ep hp zD (λqq hq=>?_)|with_reducible refine gj hq ES ?_|with_reducible refine gj hq j9 ?_|with_reducible refine ma hq eP bH ?_|((with_reducible apply bX);(· rfl))|((with_reducible refine ⟨z.cn.lay _ _,?_⟩);(intro _ h' zz x _);(try simp only [bM,bu] at x);(try replace qP:=qP.over x);(try replace jD:=jD.over x);(try replace gv:=gv.over x);(replace z:=zz);(clear zz);rw [ao h']))
 refine zwU r.k 2 _ _ (by decide) ?_
 simp only [aa,seval,c3,bO]
 refine bn (λhp=>?_) (λhp=>?_)
 focus
  simp only [aa,seval,c3]
  with_reducible first|refine dL (by simp only [c3]) z.aA ?_
  repeat' (first|simp only [aa,seval,c3,vF,dm,cd,bO]|((with_reducible first|apply bn|apply lK|apply gg|apply rJ|apply vZ) <;> intro _)|with_reducible refine CK (hm.mono z.inc) k6 qj (by omega) hr (λp hp=>?_)|with_reducible refine Uc hp JP (λqq hq=>?_)|with_reducible refine Eo hp zC (λqq hq=>?_)|with_reducible refine Ep hp zD (λqq hq=>?_)|with_reducible refine gj hq ES ?_|with_reducible refine gj hq j9 ?_|with_reducible refine ma hq eP bH ?_|((with_reducible apply bX);(· rfl))|((with_reducible refine ⟨z.cn.lay _ _,?_⟩);(intro _ h' zz x _);(try simp only [bM,bu] at x);(try replace qP:=qP.over x);(try replace jD:=jD.over x);(try replace gv:=gv.over x);(replace z:=zz);(clear zz);rw [ao h']))
  refine zly d q r.s r.a nx rB tq h _ z.aA h.size (4*(l.length+i)) (l.length+i) S0 Ei rfl [] (dz.lay _ _) inv iG mn ((cG.ext z).lay _ _) lk (by omega) (by omega) _ (λh3 E3 Oj z2 f2 Me wT GP=>?_)
  have kf:=f2.size
  rw [bc] at kf
  refine vT (by kernel_rfl) z2.low (by rw [bc];exact kf) ?_
  have Fv:aL E h8 h3:=tU.trans ((aL.lay bC [] _ Ei).trans f2 (λB hB=>.inl hB)) RV
  have WQ:∀ B∈E3,B∈E\/h8.size<=B:=λB hB=>(Me B hB).elim (RV B) (λe=>.inr (by rw [bc] at e;have:=tU.size;omega))
  clear z dz
  have z:=z2
  rw [ao h3]
  simp only [aa,seval,c3]
  ((with_reducible refine ⟨z.cn.lay _ _,?_⟩);(intro _ h6 zz x _);(try simp only [bM,bu] at x))
  replace wT:=wT.over x
  replace Fv:=Fv.over x
  clear z
  have z:=zz
  rw [ao h6]
  simp only [aa,seval,c3]
  rw [fH]
  (rw [aU];with_reducible refine cy (m:=_) ?_ ⟨i+1,E3,_,_,Oj,_,rfl,z,⟨rfl,by omega,by rw [show 4*(l.length+(i+1))=4*(l.length+i)+4 by omega];exact wT,GP,Fv,WQ⟩,bl⟩;omega)
 rotate_left
 focus
  simp only [aa,seval,c3]
  with_reducible first|refine dL (by simp only [c3]) z.aA ?_
  repeat' (first|simp only [aa,seval,c3,vF,dm,cd,bO]|((with_reducible first|apply bn|apply lK|apply gg|apply rJ|apply vZ) <;> intro _)|with_reducible refine CK (hm.mono z.inc) k6 qj (by omega) hr (λp hp=>?_)|with_reducible refine Uc hp JP (λqq hq=>?_)|with_reducible refine Eo hp zC (λqq hq=>?_)|with_reducible refine Ep hp zD (λqq hq=>?_)|with_reducible refine gj hq ES ?_|with_reducible refine gj hq j9 ?_|with_reducible refine ma hq eP bH ?_|((with_reducible apply bX);(· rfl))|((with_reducible refine ⟨z.cn.lay _ _,?_⟩);(intro _ h' zz x _);(try simp only [bM,bu] at x);(try replace qP:=qP.over x);(try replace jD:=jD.over x);(try replace gv:=gv.over x);(replace z:=zz);(clear zz);rw [ao h']))
  refine zjv d q r.s r.a nx rB tq h _ z.aA h.size (4*(l.length+i)) (l.length+i) S0 Ei rfl [] (dz.lay _ _) inv iG mn ((cG.ext z).lay _ _) lk (by omega) (by omega) _ (λh3 E3 Oj z2 f2 Me wT GP=>?_)
  have kf:=f2.size
  rw [bc] at kf
  refine vT (by kernel_rfl) z2.low (by rw [bc];exact kf) ?_
  have Fv:aL E h8 h3:=tU.trans ((aL.lay bC [] _ Ei).trans f2 (λB hB=>.inl hB)) RV
  have WQ:∀ B∈E3,B∈E\/h8.size<=B:=λB hB=>(Me B hB).elim (RV B) (λe=>.inr (by rw [bc] at e;have:=tU.size;omega))
  clear z dz
  have z:=z2
  rw [ao h3]
  simp only [aa,seval,c3]
  ((with_reducible refine ⟨z.cn.lay _ _,?_⟩);(intro _ h6 zz x _);(try simp only [bM,bu] at x))
  replace wT:=wT.over x
  replace Fv:=Fv.over x
  clear z
  have z:=zz
  rw [ao h6]
  simp only [aa,seval,c3]
  rw [fH]
  (rw [aU];with_reducible refine cy (m:=_) ?_ ⟨i+1,E3,_,_,Oj,_,rfl,z,⟨rfl,by omega,by rw [show 4*(l.length+(i+1))=4*(l.length+i)+4 by omega];exact wT,GP,Fv,WQ⟩,bl⟩;omega)
end Go.Proofs.YtiapegieocgmfaaGreatDoor
