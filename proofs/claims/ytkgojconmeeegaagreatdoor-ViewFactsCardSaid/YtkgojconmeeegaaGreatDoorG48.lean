/- What a view has: its facts are those of its members, as many as they have together, and a call of one principal turns its own alone. No condition. -/
import Derived.Test.YtkgojconmeeegaaGreatDoorG45
import Derived.Test.YtkgojconmeeegaaGreatDoorG47
set_option linter.unusedSimpArgs false
set_option linter.unusedVariables false
namespace Go.Am

def SE (l:aW):Prop:=l.Pairwise (λx y=>cF x≠cF y)
theorem eh.diff {s:aW} (h:eh s):SE s:=h.imp λh e=>by rw [bW.2 e] at h;exact absurd h (by decide)
theorem ziw:∀ (m:aW) {l:aW},SE (l++m)->(eG (l++m)).length=(eG l).length+m.length
 | [],l,_=>by rw [bu,dr,jh]
 |a::m,l,h=>by
  have e:l++a::m=(l++[a])++m:=by rw [jD];rfl
  rw [e] at h ⊢
  rw [ziw m h]
  have hd:SE (l++[a]):=(List.pairwise_append.1 h).1
  have hh:bH (eG l) a=false:=by
   cases hc:bH (eG l) a
   .rfl
   .obtain ⟨x,hx,ex⟩:=cY.1 hc
    exact absurd ex ((List.pairwise_append.1 hd).2.2 x ((qK l).mem hx) a (iq.2 rfl))
  rw [zlT,(RF hh).length_eq,de,de]
  omega
theorem zqf {l:aW} (h:SE l):(eG l).length=l.length:=by
 have:=ziw l (l:=[]) h
 rw [qu] at this
 rw [this]
 exact iu _
section
variable {d:aw} {k:Nat} {facts:aB->aW} {aX us:aB->Nat}
theorem dH.diff (i:dH d k facts aX us):∀ {m:List aB},m.Nodup->SE (m.map facts).flatten
 | [],_=>List.Pairwise.nil
 |w::r,hn=>by
  rw [AV] at hn
  rw [mZ,List.flatten_cons]
  refine List.pairwise_append.2 ⟨(i.iU w).diff,i.diff hn.2,λx hx y hy e=>?_⟩
  obtain ⟨l,hl,hyl⟩:=List.mem_flatten.1 hy
  obtain ⟨w2,ph,rfl⟩:=ud.1 hl
  have dj:=zmM (JZ (i.ok w x hx)) (JZ (i.ok w2 y hyl)) e
  have h1:=(CQ (i.ok w x hx)).2.2.2
  have h2:=(CQ (i.ok w2 y hyl)).2.2.2
  rw [dj] at h1
  have:w=w2:=by rw [<- h1,<- h2]
  rw [this] at hn
  exact hn.1 ph
end
end Go.Am
namespace Go.Am
theorem zjm {Z β:Type} [DecidableEq β] {f:List Z->Z->Int} {l:List Z} (h:jb f [] l=0) {i:Nat} {x:Z} (hx:l[i]? = some x):f (l.take i) x=0:=by
 have:=km.1 h i x hx
 rwa [qu] at this
theorem ztC {ps:List aB} {c:bB} (h:wh ps c=0):c.reads.Nodup/\c.reads.length<=16/\∀ x∈c.reads,x∈ps/\x≠c.who:=by
 unfold wh at h
 split at h
 .cases h
 .rename_i hl
  refine ⟨Jz.2 λi j hi hj dF e=>?_,by omega,λx hx=>?_⟩
  .have h2:=zjm (β:=aB) h (i:=j) (gI hj)
   have h3:=(CE (by decide)).1 (cd.1 h2 (br (cq (c.reads.take j) c.reads[j]) 5) (by simp))
   have h4:cq (c.reads.take j) c.reads[j]=true:=dL.2 (by
    rw [<- e]
    refine ig (i:=i) ?_
    rw [lX,aE dF,gI hi])
   rw [h3] at h4
   cases h4
  .obtain ⟨j,hj⟩:=List.mem_iff_getElem?.1 hx
   have h2:=zjm (β:=aB) h hj
   have h3:=(CE (by decide)).1 (cd.1 h2 (br (!cq ps x) 6) (by simp))
   have h4:=(CE (by decide)).1 (cd.1 h2 (br (decide (x=c.who)) 11) (by simp))
   exact ⟨dL.1 (by simpa using h3),by simpa using h4⟩
theorem zwU {ps:List aB} {l:List bB} (h:HN ps l=0):CI ps l/\∀ c∈l,c.reads.length<=16:=by
 unfold HN at h
 have hc:∀ {i:Nat} {c:bB},l[i]? = some c->c.who∈ps/\¬ c.who∈(l.take i).map bB.who/\wh ps c=0:=λ{i c} hi=>by
  have h2:=cd.1 (zjm (β:=aB) h hi)
  have h3:=(CE (by decide)).1 (h2 (br (!cq ps c.who) 6) (by simp))
  have h4:=(CE (by decide)).1 (h2 (br (cq ((l.take i).map bB.who) c.who) 5) (by simp))
  exact ⟨dL.1 (by simpa using h3),λhm=>absurd ((dL.2 hm).symm.trans h4) (by decide),h2 (wh ps c) (by simp)⟩
 have aP:∀ (i k:Nat) (c e:bB),l[i]? = some c->l[k]? = some e->c.who=e.who->¬ i < k:=λi k c e hi hk hw aP=>by
  refine (hc hk).2.1 (ud.2 ⟨c,ig (i:=i) ?_,hw⟩)
  rw [lX,aE aP,hi]
 refine ⟨⟨λi k c e hi hk hw=>?_,λc hm=>?_⟩,λc hm=>?_⟩
 .have h1:=aP i k c e hi hk hw
  have h2:=aP k i e c hk hi hw.symm
  omega
 .obtain ⟨i,hi⟩:=List.mem_iff_getElem?.1 hm
  obtain ⟨h1,_,h3⟩:=hc hi
  obtain ⟨h4,_,h5⟩:=ztC h3
  exact ⟨h1,h4,h5⟩
 .obtain ⟨i,hi⟩:=List.mem_iff_getElem?.1 hm
  exact (ztC (hc hi).2.2).2.1
open Classical in
theorem zzV {k1 k2:List aB} (n1:k1.Nodup) (n2:k2.Nodup) (h:∀ t∈k1,t∈k2):k1.length<=k2.length:=by
 have hp:(k2.filter λt=>decide (t∈k1)).Perm k1:=(List.perm_ext_iff_of_nodup (n2.sublist RY) n1).2 λt=>by
  rw [J5]
  simp only [gY]
  exact ⟨λx=>x.2,λx=>⟨h t x,x⟩⟩
 rw [<- hp.length_eq]
 exact AO _ _
theorem zib {d:aw} (h:zB d=0):CI d.ah d.aU:=by
 unfold zB at h
 exact (zwU (cd.1 h (HN d.ah d.aU) (by simp))).1
theorem zuT {d:aw} {who:aB} (h:zB d=0) (hw:who∈d.ah):(vY d who).Nodup/\(vY d who).length<=16:=by
 have gV:=zib h
 obtain ⟨i6,kT⟩:=zgx h
 have hn:=zer (who:=who) gV
 refine ⟨hn,il ?_ kT⟩
 have hs:∀ x∈vY d who,x∈d.ah:=λx hx=>by
  rcases qc.1 hx with rfl|hx
  .exact hw
  .exact ((zp0 gV).2 x hx).1
 exact zzV hn i6 hs
end Go.Am
namespace Go.Proofs.YtkgojconmeeegaaGreatDoor
open Go.Am Tryz
set_option maxRecDepth 100000
set_option maxHeartbeats 0
variable {who:aB} {d:aw} {facts:aB->aW}
theorem zx0 (p g:ak) (h:Heap) (K:aG) (hk:∀ h' w,Ext h h'->K (.tuple #[w,.bool (ff p g)]) h'):Ok prog aA ov 22 [p.val,g.val] h K:=by
 rw [ao h]
 have z:=Ext.refl h
 refine Ok.aq 9 (bm N22) ?_
 repeat' (simp only [aa,seval,c22,fA,↓dW,dO,da])
 refine zCT [] _ p g _ Sl.nil (by simp) _ (λh' w b x hn hs=>?_)
 (replace z:=z.aj x;rw [ao h'])
 have dn:∀ (h:Heap) (K:aG),aD (some w) h K=K w h:=λ_ _=>rfl
 have hb:b=ff p g:=by
  unfold ff
  cases he:ec [] p g with
  |none=>rw [hn he];rfl
  |some m=>rw [(hs m he).1];rfl
 rw [<- hb] at hk
 cases b
 all_goals
  repeat' (simp only [aa,seval,c22,dn])
  exact hk _ _ z.au
theorem zAQ (xs:List aB):(AM xs).Pairwise λa b=>slt b a=false:=by
 unfold AM
 rw [List.pairwise_map]
 refine (List.pairwise_mergeSort (le:=λx y:List UInt8=>decide (x<=y)) (λa b c h1 h2=>by
  simp only [gY] at *
  exact List.le_trans h1 h2) (λa b=>by
  simp only [qt,gY]
  exact List.le_total a b) _).imp (λ{a b} h=>?_)
 simp only [gY] at h
 unfold slt
 rw [SA]
 simpa using h
theorem zDo (hn:(eF d who).Nodup) {i:Nat} {a b:aB} (h0:0 < i) (ha:(eF d who)[i - 1]? = some a) (hb:(eF d who)[i]? = some b):slt a b=true:=by
 have hp:(eF d who).Pairwise λa b=>slt b a=false:=by
  unfold eF
  split
  .exact zAQ _
  .exact .nil
 obtain ⟨hi,rfl⟩:=dz.1 hb
 obtain ⟨hj,rfl⟩:=dz.1 ha
 have h1:=Jz.1 hp (i - 1) i hj hi (by omega)
 have h2:=Jz.1 hn (i - 1) i hj hi (by omega)
 cases h3:slt (eF d who)[i - 1] (eF d who)[i] with
 |true=>rfl
 |false=>exact absurd (zqe h3 h1) h2
def kQ (facts:aB->aW) (ms:List aB) (i:Nat):Nat:=((ms.take i).map λw=>(facts w).length).sum
theorem zwW {ms:List aB} {i:Nat} {r:aB} (h:ms[i]? = some r):kQ facts ms (i+1)=kQ facts ms i+(facts r).length:=by
 unfold kQ
 rw [nT,h]
 simp
theorem zCg (hf:∀ w,(facts w).length<=40) (ms:List aB) (i:Nat):kQ facts ms i<=i*40:=by
 unfold kQ
 have:∀ (l:List aB),(l.map λw=>(facts w).length).sum<=l.length*40:=λl=>by
  induction l with
  |nil=>simp
  |cons x l ih =>
   have:=hf x
   rw [mZ,J9,de]
   omega
 have h2:=this (ms.take i)
 have h3:(ms.take i).length<=i:=by rw [fj];omega
 have:=py 40 h3
 omega
theorem zzy {ms:List aB}:kQ facts ms ms.length=(ms.map facts).flatten.length:=by
 unfold kQ
 rw [AQ,List.length_flatten,Ij]
 rfl
theorem zoo (a b:Bool):bY prog aA .eql 4 (.bool a) (.bool b)=some (.bool (a == b)):=by
 cases a <;> cases b <;> kernel_rfl
theorem zDp (h:(eF d who).length=0):fR d.ah who=false:=by
 unfold eF at h
 split at h
 .have:=I8 d who
  omega
 .rename_i h2
  simpa using h2
theorem zBe (h:¬ (eF d who).length=0):fR d.ah who=true:=by
 unfold eF at h
 split at h
 .assumption
 .exact absurd rfl h
theorem zna (d0:aw) (l:List lC) (who:aB) (p:ak) (v lv:ae) (h:Heap) (cP:bl 1 h) (hx:L3 h v d0) (hl:Sl aJ.act h lv l) (K:aG)
 (hk:∀ h',Ext h h'->K (.bool true) h'):Ok prog aA ov 4 [v,lv,.string who,p.val] h K:=by
 obtain ⟨p0,p1,p2,p5,p6,q,b,rfl,DF⟩:=hx
 obtain ⟨d,hd,hq,hb⟩:∃ d:aw,ej h p0 p1 p2 p5 p6 d/\d.iO=q/\d.fE=b:=⟨{ d0 with iO:=q,fE:=b },⟨DF.s0,DF.s1,DF.s2,DF.s5,DF.s6⟩,rfl,rfl⟩
 clear DF
 have bn:=hd.one q b
 rw [ao h]
 have z:=Ext.refl h
 refine Ok.aq 188 (bm N4) ?_
 simp only [aa,seval,c4,jG,fA]
 refine Ok.over (g:=Ki 1) rfl (zA4 (cP.lay _ _)) ?_
 repeat' (first|simp only [aa,seval,c4,↓fN,fw,eU]|((with_reducible apply bI);(· rfl)))
 refine zjM d _ _ _ _ _ _ _ _ (hd.lay _ _) _ (λb0 b1 b2 b3 b4 b5 b6 b7 h' x=>?_) (λh' x=>?_)
 rotate_left
 ·(replace z:=z.aj x;rw [ao h'])
  repeat' (first|simp only [aa,seval,c4]|((with_reducible apply bI);(· rfl)))
  exact hk _ z.au
 have qP:=Holds.top (i:=0) x rfl
 have qA:=Holds.top (i:=1) x rfl
 (replace z:=z.aj x;rw [ao h'])
 obtain ⟨P0,hP0⟩:∃ P0,P0=h.size+0:=⟨_,rfl⟩
 rw [<- hP0] at qP
 rw [<- hP0]
 obtain ⟨P1,hP1⟩:∃ P1,P1=h.size+1:=⟨_,rfl⟩
 rw [<- hP1] at qA
 rw [<- hP1]
 repeat' (first|simp only [aa,seval,c4]|((with_reducible apply bI);(· rfl)))
 refine zkG l _ _ ((hl.mono z.inc).lay _ _) _ (λBR aP h' x=>?_) (λh' x=>?_)
 rotate_left
 ·(replace z:=z.aj x;( replace qP:=qP.over x );( replace qA:=qA.over x );rw [ao h'])
  repeat' (first|simp only [aa,seval,c4]|((with_reducible apply bI);(· rfl)))
  exact hk _ z.au
 (replace z:=z.aj x;replace qP:=qP.over x;replace qA:=qA.over x;rw [ao h'])
 simp only [aa,seval,c4]
 (with_reducible apply bI);(· rfl)
 repeat' (first|simp only [aa,seval,c4,qA.lay,↓dW,dO,da]|((with_reducible apply bg) <;> intro _))
 .exact hk _ z.au
 refine Rx p _ _ (λkT h' x=>?_) (λ_ h' x=>?_)
 rotate_left
 ·(replace z:=z.aj x;( replace qP:=qP.over x );( replace qA:=qA.over x );rw [ao h'])
  repeat' (first|simp only [aa,seval,c4]|((with_reducible apply bI);(· rfl)))
  exact hk _ z.au
 (replace z:=z.aj x;replace qP:=qP.over x;replace qA:=qA.over x;rw [ao h'])
 repeat' (first|simp only [aa,seval,c4]|((with_reducible apply bI);(· rfl)))
 simp only [aa,seval,c4,qP.lay,↓fN,fw,eU]
 have XV:A4 d:=⟨by omega,by omega,by omega,λr hr=>by have:=b5 r hr;omega,by omega,λg hg=>by have:=b7 g hg;omega⟩
 refine zCS d l _ _ _ _ _ lv q b _ ((cP.ext z).lay _ _) ((hd.mono z.inc).lay _ _) hq hb XV (by omega) (by omega) (by omega) ((hl.mono z.inc).lay _ _) BR aP _ (λh' x=>?_) (λheq h' S0 S2 E facts aX us x dq inv=>?_)
 ·(replace z:=z.aj x;( replace qP:=qP.over x );( replace qA:=qA.over x );rw [ao h'])
  simp only [aa,seval,c4]
  (with_reducible apply bI);(· rfl)
  simp only [aa,seval,c4]
  exact hk _ z.au
 have gV:=zib heq
 obtain ⟨i6,aoC⟩:=zgx heq
 have afr:∀ c∈d.aU,c.reads.length<=40:=b3
 replace dq:=dq.down (N2:=h.size) (by rw [bf];have:=z.size;omega)
 (replace z:=z.aj x;replace qP:=qP.over x;replace qA:=qA.over x;rw [ao h'])
 have Ak:(eF d who).Nodup/\(eF d who).length<=16:=by
  unfold eF
  split
  .exact zuT heq (jo.1 (by assumption))
  .exact ⟨List.nodup_nil,sg _⟩
 have YR:(eG ((eF d who).map facts).flatten).length<=640:=by
  rw [zqf (inv.diff Ak.1)]
  have:=zmO (n:=40) (ls:=(eF d who).map facts) (λl hl=>by obtain ⟨w,_,rfl⟩:=ud.1 hl;exact il (inv.len w) BR)
  rw [fV] at this
  omega
 obtain ⟨lf,NG⟩:∃ lf,lf=eG ((eF d who).map facts).flatten:=⟨_,rfl⟩
 rw [<- NG] at YR
 simp only [aa,seval,c4]
 (with_reducible apply bI);(· rfl)
 simp only [aa,seval,c4]
 with_reducible first|refine cZ (by simp only [c4]) z.au ?_
 simp only [aa,seval,c4,qP.lay,↓fN,fw,eU]
 refine zpM d who _ _ _ _ _ q b _ bn ((hd.mono z.inc).lay _ _) (by omega) (by omega) gV b3 [] _ _ S0 E d q facts aX us (dq.lay _ _) (λw=>by have:=inv.len w;omega) (λw x hx=>inv.aV hx) _ (λh' f x of=>?_)
 rw [<- NG] at of
 replace of:=of.sl
 obtain ⟨fa,fn,fc,rfl⟩:=rP of
 (((with_reducible refine di ?_ ?_ ?_);(· exact (by (simp only [dp]);have:=z.size;omega));(· exact x));replace z:=z.aj x;replace qP:=qP.over x;replace qA:=qA.over x;replace dq:=dq.over x;rw [ao h'])
 simp only [aa,seval,c4,qP.lay,↓fN,fw,eU]
 refine zhQ d who _ _ _ _ _ q b _ bn ((hd.mono z.inc).lay _ _) (by omega) (by omega) gV b3 _ (λm h' x ms=>?_)
 replace ms:=ms.sl
 obtain ⟨ma,mn,mc,rfl⟩:=rP ms
 (((with_reducible refine di ?_ ?_ ?_);(· exact (by (simp only [dp]);have:=z.size;omega));(· exact x));replace z:=z.aj x;replace qP:=qP.over x;replace qA:=qA.over x;replace dq:=dq.over x;replace of:=of.over x;rw [ao h'])
 simp only [aa,seval,c4]
 ((with_reducible refine ⟨z.bZ.lay _ _,?_⟩);(intro _ h' zz x _);(simp only [bG,bu] at x);replace qP:=qP.over x;replace qA:=qA.over x;replace dq:=dq.over x;replace of:=of.over x;replace ms:=ms.over x;(replace z:=zz);(clear zz);rw [ao h'])
 simp only [aa,seval,c4]
 have Gy:=λ(hh:Heap)=>ms.bt zDR hh
 have YQ:=λ(hh:Heap)=>of.bt bC hh
 have Nn:∀ w,(facts w).length<=40:=λw=>il (inv.len w) BR
 have gw:=Ak.2
 obtain ⟨I1,aO⟩:∃ I:Nat->Env->Heap->Prop,I=(λn e h'=>∃ (i c:Nat) (h1:Heap),h'=h1.lay [] h1.low/\Ext h h1/\(n=(eF d who).length - i/\i<=(eF d who).length/\c=kQ facts (eF d who) i/\Holds h1 P0 (.row (dw p0 p1 p2 p5 p6 q b) 28 false)/\Holds h1 P1 (.row p.cells 34 false)/\gi [] h.size (4*l.length) h1 S0 E d q facts aX us/\Sl aJ.atom h1 (.slice fa fn fc) lf/\Sl aJ.str h1 (.slice ma mn mc) (eF d who))/\∃ J:Nat->ae,e=(jr J 0 2 (.string who::J 3::.pointer (some ⟨P0,0,none⟩)::jr J 5 2 (.pointer (some ⟨P1,0,none⟩)::J 8::.pointer (some ⟨S0,0,none⟩)::jr J 10 2 (.slice fa fn fc::.slice ma mn mc::.int .i64 c::.int .i64 i::jr J 16 176 ([])))))):=⟨_,rfl⟩
 refine cK I1 _ (by rw [aO];exact ⟨0,0,_,rfl,z,⟨rfl,by omega,by simp [kQ],qP,qA,dq,of,ms⟩,bc⟩) ?_
 intro n e h' aK
 rw [aO] at aK
 obtain ⟨i,c,bD,rfl,z,hinv,J,rfl⟩:=aK
 clear qP qA dq of ms
 obtain ⟨rfl,hi,rfl,qP,qA,dq,of,ms⟩:=hinv
 have fb:=dE i (by omega)
 have mS:=zCg Nn (eF d who) i
 simp only [aa,seval,c4,Gy]
 refine bg (λgq=>?_) (λNu=>?_)
 rotate_left
 .have he:i=(eF d who).length:=by omega
  subst he
  have vw:kQ facts (eF d who) (eF d who).length=lf.length:=by rw [zzy,NG,zqf (inv.diff Ak.1)]
  rw [vw]
  have b9:∀ x∈lf,fR (eF d who) x.says=true/\x∈facts x.says:=λx hx=>by
   rw [NG] at hx
   obtain ⟨l2,j7,yV⟩:=List.mem_flatten.1 ((qK _).mem hx)
   obtain ⟨w,hw,rfl⟩:=ud.1 j7
   have hs:=(CQ (inv.ok w x yV)).2.2.2
   rw [hs]
   exact ⟨jo.2 hw,yV⟩
  have so:∀ x∈lf,x.aV=true:=λx hx=>inv.aV (b9 x hx).2
  simp only [aa,seval,c4]
  obtain ⟨I2,ey⟩:∃ I:Nat->Env->Heap->Prop,I=(λn e h'=>∃ (i:Nat) (h1:Heap),h'=h1.lay [] h1.low/\Ext h h1/\(n=lf.length - i/\i<=lf.length/\Holds h1 P0 (.row (dw p0 p1 p2 p5 p6 q b) 28 false)/\Holds h1 P1 (.row p.cells 34 false)/\gi [] h.size (4*l.length) h1 S0 E d q facts aX us/\Sl aJ.atom h1 (.slice fa fn fc) lf/\Sl aJ.str h1 (.slice ma mn mc) (eF d who))/\∃ J:Nat->ae,e=(jr J 0 2 (.string who::J 3::.pointer (some ⟨P0,0,none⟩)::jr J 5 2 (.pointer (some ⟨P1,0,none⟩)::J 8::.pointer (some ⟨S0,0,none⟩)::jr J 10 2 (.slice fa fn fc::.slice ma mn mc::.int .i64 lf.length::J 15::.int .i64 i::jr J 17 175 ([])))))):=⟨_,rfl⟩
  refine cK I2 _ (by rw [ey];exact ⟨0,_,rfl,z,⟨rfl,by omega,qP,qA,dq,of,ms⟩,bc⟩) ?_
  intro n e h' aK
  rw [ey] at aK
  obtain ⟨i,bD,rfl,z,hinv,J,rfl⟩:=aK
  clear qP qA dq of ms
  obtain ⟨rfl,hi,qP,qA,dq,of,ms⟩:=hinv
  have fb:=dE i (by omega)
  simp only [aa,seval,c4,YQ]
  refine bg (λgq=>?_) (λNu=>?_)
  rotate_left
  .have he:i=lf.length:=by omega
   subst he
   simp only [aa,seval,c4,qA.lay,↓dW,dO,da]
   refine zrX lf _ p _ (of.lay _ _) (by omega) _ (λh' xw x xs=>?_)
   (replace z:=z.aj x;replace qP:=qP.over x;replace qA:=qA.over x;replace dq:=dq.over x;replace of:=of.over x;replace ms:=ms.over x;rw [ao h'])
   obtain ⟨xa,xn,xc,rfl⟩:=rP xs
   have hlX:=λ(hh:Heap)=>xs.bt bC hh
   repeat' (simp only [aa,seval,c4])
   obtain ⟨I3,lp⟩:∃ I:Nat->Env->Heap->Prop,I=(λn e h'=>∃ (i k:Nat) (h1:Heap),h'=h1.lay [] h1.low/\Ext h h1/\(n=lf.length - i/\i<=lf.length/\k=((lf.take i).filter (ff p)).length/\Holds h1 P0 (.row (dw p0 p1 p2 p5 p6 q b) 28 false)/\Holds h1 P1 (.row p.cells 34 false)/\Sl aJ.atom h1 (.slice fa fn fc) lf/\Sl aJ.str h1 (.slice ma mn mc) (eF d who)/\Sl aJ.atom h1 (.slice xa xn xc) (lf.filter (ff p)))/\∃ J:Nat->ae,e=(jr J 0 2 (.string who::J 3::.pointer (some ⟨P0,0,none⟩)::jr J 5 2 (.pointer (some ⟨P1,0,none⟩)::jr J 8 4 (.slice fa fn fc::.slice ma mn mc::.int .i64 lf.length::jr J 15 2 (.slice xa xn xc::.bool true::.int .i64 k::.int .i64 i::jr J 21 171 ([]))))))):=⟨_,rfl⟩
   refine cK I3 _ (by rw [lp];exact ⟨0,0,_,rfl,z,⟨rfl,by omega,by simp,qP,qA,of,ms,xs⟩,bc⟩) ?_
   intro n e h' aK
   rw [lp] at aK
   obtain ⟨i,k,bD,rfl,z,hinv,J,rfl⟩:=aK
   clear qP qA dq of ms xs
   obtain ⟨rfl,hi,rfl,qP,qA,of,ms,xs⟩:=hinv
   have fb:=dE i (by omega)
   have qB:((lf.take i).filter (ff p)).length<=i:=il (AO _ _) (by rw [fj];omega)
   simp only [aa,seval,c4,YQ]
   refine bg (λgq=>?_) (λNu=>?_)
   rotate_left
   .have he:i=lf.length:=by omega
    subst he
    rw [AQ]
    simp only [aa,seval,c4,YQ,hlX]
    refine zD9 lf _ _ (of.lay _ _) (by omega) so _ (λh' x=>?_)
    rw [show D9 lf=true from by rw [NG];exact kY.2 (qK _).iU]
    (replace z:=z.aj x;replace qP:=qP.over x;replace qA:=qA.over x;replace of:=of.over x;replace ms:=ms.over x;replace xs:=xs.over x;rw [ao h'])
    simp only [aa,seval,c4,Gy]
    refine lz (λhe=>?_) (λba=>?_)
    .have Zb:=zDp (d:=d) (who:=who) (by omega)
     simp only [aa,seval,c4,qP.lay,↓fN,fw,eU]
     refine CM d.ah who _ _ _ _ _ _ _ _ ((hd.mono z.inc).lay _ _).s0 _ (λh' x=>?_)
     rw [Zb]
     (replace z:=z.aj x;replace qP:=qP.over x;replace qA:=qA.over x;replace of:=of.over x;replace ms:=ms.over x;replace xs:=xs.over x;rw [ao h'])
     simp only [aa,seval,c4]
     (with_reducible apply bI);(· rfl)
     repeat' (simp only [aa,seval,c4,zoo,qA.lay,↓dW,dO,da])
     refine HF p _ _ (λh' x=>?_)
     (replace z:=z.aj x;replace qP:=qP.over x;replace qA:=qA.over x;replace of:=of.over x;replace ms:=ms.over x;replace xs:=xs.over x;rw [ao h'])
     have Za:decide (((p.cU:Nat):Int) >= 0)=true:=sY (by omega)
     simp only [aa,seval,c4,Za]
     exact hk _ z.au
    .have Zb:=zBe (d:=d) (who:=who) (by omega)
     simp only [aa,seval,c4,qP.lay,↓fN,fw,eU]
     refine CM d.ah who _ _ _ _ _ _ _ _ ((hd.mono z.inc).lay _ _).s0 _ (λh' x=>?_)
     rw [Zb]
     (replace z:=z.aj x;replace qP:=qP.over x;replace qA:=qA.over x;replace of:=of.over x;replace ms:=ms.over x;replace xs:=xs.over x;rw [ao h'])
     simp only [aa,seval,c4]
     (with_reducible apply bI);(· rfl)
     repeat' (simp only [aa,seval,c4,zoo,qA.lay,↓dW,dO,da])
     refine HF p _ _ (λh' x=>?_)
     (replace z:=z.aj x;replace qP:=qP.over x;replace qA:=qA.over x;replace of:=of.over x;replace ms:=ms.over x;replace xs:=xs.over x;rw [ao h'])
     have Za:decide (((p.cU:Nat):Int) >= 0)=true:=sY (by omega)
     simp only [aa,seval,c4,Za]
     exact hk _ z.au
   obtain ⟨r,hr,bM⟩:=eb (l:=lf) (i:=i) (by omega)
   simp only [aa,seval,c4]
   with_reducible first|refine cZ (by simp only [c4]) z.au ?_
   simp only [aa,seval,c4,qA.lay,↓dW,dO,da]
   repeat' ((first|with_reducible refine mM of bC bE (by omega) hr (λpp hp=>?_)|with_reducible refine ly hp eK bE ?_) <;> simp only [aa,seval,c4])
   refine zx0 p r _ _ (λh' w x=>?_)
   (((with_reducible refine di ?_ ?_ ?_);(· exact (by (simp only [dp]);have:=z.size;omega));(· exact x));replace z:=z.aj x;replace qP:=qP.over x;replace qA:=qA.over x;replace of:=of.over x;replace ms:=ms.over x;replace xs:=xs.over x;rw [ao h'])
   have mT:∀ (h:Heap) (K:aG),aD (some w) h K=K w h:=λ_ _=>rfl
   cases hm:ff p r
   .repeat' (first|simp only [aa,seval,c4,mT]|((with_reducible refine ⟨z.bZ.lay _ _,?_⟩);(intro _ h' zz x _);( simp only [bG,bu] at x );( replace qP:=qP.over x );( replace qA:=qA.over x );( replace of:=of.over x );( replace ms:=ms.over x );( replace xs:=xs.over x );(replace z:=zz);(clear zz);rw [ao h']))
    rw [fb]
    (rw [lp];with_reducible refine bS (m:=_) ?_ ⟨i+1,((lf.take i).filter (ff p)).length,_,rfl,z,⟨rfl,by omega,(zlx bM hm).symm,qP,qA,of,ms,xs⟩,bc⟩;omega)
   .obtain ⟨mf,hlen⟩:=zo3 bM hm
    have kF:=(dz.1 mf).1
    have lq:decide ((((lf.take i).filter (ff p)).length:Int) >= ((lf.filter (ff p)).length:Int))=false:=uW (by omega)
    have qG:IntKind.i64.wrap ((((lf.take i).filter (ff p)).length:Int)+1)=(((lf.take (i+1)).filter (ff p)).length:Int):=by rw [hlen,wrap_i64 (by omega) (by omega)];omega
    have hxr:(lf.filter (ff p))[(((lf.take i).filter (ff p)).length:Int).toNat]? = some r:=mf
    have ba:bY prog aA .neq 34 r.val r.val=some (.bool false):=by rw [zwB];simp
    repeat' (first|simp only [aa,seval,c4,mT]|((with_reducible refine ⟨z.bZ.lay _ _,?_⟩);(intro _ h' zz x _);(simp only [bG,bu] at x);replace qP:=qP.over x;replace qA:=qA.over x;replace of:=of.over x;replace ms:=ms.over x;replace xs:=xs.over x;(replace z:=zz);(clear zz);rw [ao h']))
    with_reducible first|refine cZ (by simp only [c4]) z.au ?_
    simp only [aa,seval,c4,hlX,lq]
    repeat' ((first|with_reducible refine mM xs bC bE (by omega) hxr (λpp hp=>?_)|with_reducible refine mM of bC bE (by omega) hr (λpp hp=>?_)|with_reducible refine ly hp eK bE ?_|((with_reducible refine ⟨z.bZ.lay _ _,?_⟩);(intro _ h' zz x _);(simp only [bG,bu] at x);replace qP:=qP.over x;replace qA:=qA.over x;replace of:=of.over x;replace ms:=ms.over x;replace xs:=xs.over x;(replace z:=zz);(clear zz);rw [ao h'])) <;> simp only [aa,seval,c4,ba])
    rw [qG,fb]
    (rw [lp];with_reducible refine bS (m:=_) ?_ ⟨i+1,((lf.take (i+1)).filter (ff p)).length,_,rfl,z,⟨rfl,by omega,rfl,qP,qA,of,ms,xs⟩,bc⟩;omega)
  obtain ⟨r,hr,bM⟩:=eb (l:=lf) (i:=i) (by omega)
  have hrm:=ig bM
  obtain ⟨TB,hrf⟩:=b9 r hrm
  simp only [aa,seval,c4]
  with_reducible first|refine cZ (by simp only [c4]) z.au ?_
  simp only [aa,seval,c4,qP.lay,↓fN,fw,eU]
  repeat' ((first|with_reducible refine mM of bC bE (by omega) hr (λpp hp=>?_)|with_reducible refine We hp sR (λqq hq=>?_)|with_reducible refine fo hq gU ?_) <;> simp only [aa,seval,c4])
  refine zr4 d who r.says _ _ _ _ _ q b _ bn ((hd.mono z.inc).lay _ _) (by omega) (by omega) gV b3 _ (λh' x=>?_)
  (((with_reducible refine di ?_ ?_ ?_);(· exact (by (simp only [dp]);have:=z.size;omega));(· exact x));replace z:=z.aj x;replace qP:=qP.over x;replace qA:=qA.over x;replace dq:=dq.over x;replace of:=of.over x;replace ms:=ms.over x;rw [ao h'])
  rw [TB]
  repeat' (first|simp only [aa,seval,c4]|with_reducible refine mM of bC bE (by omega) hr (λpp hp=>?_)|with_reducible refine ly hp eK bE ?_|((with_reducible apply bI);(· rfl)))
  refine zCW r d q facts aX us _ h.size _ S0 E (dq.lay _ _).un (by have:=inv.len r.says;omega) _ (λh' x=>?_)
  (((with_reducible refine di ?_ ?_ ?_);(· exact (by (simp only [dp]);have:=z.size;omega));(· exact x));replace z:=z.aj x;replace qP:=qP.over x;replace qA:=qA.over x;replace dq:=dq.over x;replace of:=of.over x;replace ms:=ms.over x;rw [ao h'])
  rw [sY hrf]
  repeat' (first|simp only [aa,seval,c4]|((with_reducible apply bI);(· rfl))|((with_reducible refine ⟨z.bZ.lay _ _,?_⟩);(intro _ h' zz x _);(simp only [bG,bu] at x);replace qP:=qP.over x;replace qA:=qA.over x;replace dq:=dq.over x;replace of:=of.over x;replace ms:=ms.over x;(replace z:=zz);(clear zz);rw [ao h']))
  rw [fb]
  (rw [ey];with_reducible refine bS (m:=_) ?_ ⟨i+1,_,rfl,z,⟨rfl,by omega,qP,qA,dq,of,ms⟩,bc⟩;omega)
 obtain ⟨r,hr,bM⟩:=eb (l:=eF d who) (i:=i) (by omega)
 have hwc:IntKind.i64.wrap ((kQ facts (eF d who) i:Int)+((facts r).length:Int))=((kQ facts (eF d who) (i+1):Nat):Int):=by
  have:=Nn r
  rw [zwW bM,wrap_i64 (by omega) (by omega)]
  omega
 simp only [aa,seval,c4]
 repeat' ((first|with_reducible refine oT ms cQ mU (by omega) hr (λpp hp=>?_)|with_reducible refine fo hp gU ?_) <;> simp only [aa,seval,c4])
 refine zxV r d q facts aX us _ h.size _ S0 E (dq.lay _ _).un _ (λh' x=>?_)
 (replace z:=z.aj x;replace qP:=qP.over x;replace qA:=qA.over x;replace dq:=dq.over x;replace of:=of.over x;replace ms:=ms.over x;rw [ao h'])
 simp only [aa,seval,c4]
 repeat' ((first|((with_reducible first|apply bg|apply lz|apply im|apply uR|apply zr) <;> intro _)|with_reducible refine oT ms cQ mU (by omega) hr (λpp hp=>?_)|with_reducible refine fo hp gU ?_|((with_reducible apply bI);(· rfl))|((with_reducible refine ⟨z.bZ.lay _ _,?_⟩);(intro _ h' zz x _);(first|simp only [bG,bu] at x|skip);(first|replace qP:=qP.over x|skip);(first|replace qA:=qA.over x|skip);(first|replace dq:=dq.over x|skip);(first|replace of:=of.over x|skip);(first|replace ms:=ms.over x|skip);(replace z:=zz);(clear zz);rw [ao h'])) <;> simp only [aa,seval,c4,aaK,aaL,aaM])
 rw [hwc]
 have TB:fR (eF d who) r=true:=jo.2 (ig bM)
 rcases Nat.eq_zero_or_pos i with rfl|jS
 .with_reducible first|refine cZ (by simp only [c4]) z.au ?_
  have sy:(eF d who)[(0:Int).toNat]? = some r:=hr
  simp only [aa,seval,c4,Int.lt_irrefl,qP.lay,↓fN,fw,eU]
  repeat' ((first|with_reducible refine oT ms cQ mU (by omega) sy (λpp hp=>?_)|with_reducible refine fo hp gU ?_) <;> simp only [aa,seval,c4])
  refine zr4 d who r _ _ _ _ _ q b _ bn ((hd.mono z.inc).lay _ _) (by omega) (by omega) gV b3 _ (λh' x=>?_)
  (((with_reducible refine di ?_ ?_ ?_);(· exact (by (simp only [dp]);have:=z.size;omega));(· exact x));replace z:=z.aj x;replace qP:=qP.over x;replace qA:=qA.over x;replace dq:=dq.over x;replace of:=of.over x;replace ms:=ms.over x;rw [ao h'])
  rw [TB]
  repeat' (first|simp only [aa,seval,c4]|((with_reducible apply bI);(· rfl))|((with_reducible refine ⟨z.bZ.lay _ _,?_⟩);(intro _ h' zz x _);(simp only [bG,bu] at x);replace qP:=qP.over x;replace qA:=qA.over x;replace dq:=dq.over x;replace of:=of.over x;replace ms:=ms.over x;(replace z:=zz);(clear zz);rw [ao h']))
  (rw [aO];with_reducible refine bS (m:=_) ?_ ⟨0+1,kQ facts (eF d who) (0+1),_,rfl,z,⟨rfl,by omega,rfl,qP,qA,dq,of,ms⟩,bc⟩;omega)
 .have ru:decide ((i:Int) > 0)=true:=sY (by omega)
  have tL:IntKind.i64.wrap ((i:Int) - 1)=((i - 1:Nat):Int):=by rw [wrap_i64 (by omega) (by omega)];omega
  with_reducible first|refine cZ (by simp only [c4]) z.au ?_
  obtain ⟨r1,wK,B5⟩:=eb (l:=eF d who) (i:=i - 1) (by omega)
  simp only [aa,seval,c4,ru,tL]
  repeat' ((first|with_reducible refine oT ms cQ mU (by omega) wK (λpp hp=>?_)|with_reducible refine oT ms cQ mU (by omega) hr (λpp hp=>?_)|with_reducible refine fo hp gU ?_) <;> simp only [aa,seval,c4,UX,zDo Ak.1 jS B5 bM,qP.lay,↓fN,fw,eU])
  refine zr4 d who r _ _ _ _ _ q b _ bn ((hd.mono z.inc).lay _ _) (by omega) (by omega) gV b3 _ (λh' x=>?_)
  (((with_reducible refine di ?_ ?_ ?_);(· exact (by (simp only [dp]);have:=z.size;omega));(· exact x));replace z:=z.aj x;replace qP:=qP.over x;replace qA:=qA.over x;replace dq:=dq.over x;replace of:=of.over x;replace ms:=ms.over x;rw [ao h'])
  rw [TB]
  repeat' (first|simp only [aa,seval,c4]|((with_reducible apply bI);(· rfl))|((with_reducible refine ⟨z.bZ.lay _ _,?_⟩);(intro _ h' zz x _);(simp only [bG,bu] at x);replace qP:=qP.over x;replace qA:=qA.over x;replace dq:=dq.over x;replace of:=of.over x;replace ms:=ms.over x;(replace z:=zz);(clear zz);rw [ao h']))
  rw [fb]
  (rw [aO];with_reducible refine bS (m:=_) ?_ ⟨i+1,kQ facts (eF d who) (i+1),_,rfl,z,⟨rfl,by omega,rfl,qP,qA,dq,of,ms⟩,bc⟩;omega)
end Go.Proofs.YtkgojconmeeegaaGreatDoor
