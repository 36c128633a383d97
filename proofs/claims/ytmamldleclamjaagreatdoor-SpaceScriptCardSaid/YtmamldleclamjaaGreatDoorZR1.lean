/- Walks: texts put into a rising list; how many the document's space has. Written out by fill2.py. No condition. -/
import Derived.Test.YtmamldleclamjaaGreatDoorG44
set_option linter.unusedSimpArgs false
set_option linter.unusedVariables false
namespace Go.Proofs.YtmamldleclamjaaGreatDoor
open Go.Am Tryz
set_option maxRecDepth 100000
set_option maxHeartbeats 0
theorem ZU:uB aG 22 22=true:=by kernel_rfl
theorem zCc (l:List au) (x:au) (i:Nat) (y:au):y∈(l.take i++[x])++l.drop i↔y=x\/y∈l:=by
 rw [iA,iA,fH]
 conv=>rhs;rw [<- pj i l,iA]
 constructor
 .rintro ((h|h)|h)
  .exact .inr (.inl h)
  .exact .inl h
  .exact .inr (.inr h)
 .rintro (h|h|h)
  .exact .inl (.inr h)
  .exact .inl (.inl h)
  .exact .inr h
theorem zB5 (l:List au) (v:ah) (x0:au) (h:Heap) (hl:Sl aK.str h v l) (hn:l.length<=100000) (vq:mP l) (K:aI)
 (hk:∀ h' w l2,Ext h h'->Sl aK.str h' w l2->mP l2->(∀ y,y∈l2↔y=x0\/y∈l)->l2.length<=l.length+1->K w h'):Ok prog aG ov 43 [v,.string x0] h K:=by
 rw [ao h]
 have z:=Ext.refl h
 have hv:∀ (h:Heap) (K:aI),aH (some v) h K=K v h:=λ_ _=>rfl
 have cU:=λ(hh:Heap)=>hl.bn cG hh
 refine Ok.aw 46 (bu N43) ?_
 simp only [aa,seval,tM]
 obtain ⟨I1,aX⟩:∃ I:Nat->Env->Heap->Prop,I=(λn e h'=>∃ (i:Nat) (h1:Heap),h'=h1.lay [] h1.low/\Ext h h1/\(n=l.length - i/\i<=l.length/\(∀ y∈l.take i,slt y x0=true))/\∃ J:Nat->ah,e=(v::.string x0::jr J 2 3 (.int .i64 i::jr J 6 42 ([])))):=⟨_,rfl⟩
 refine du I1 _ (by rw [aX];exact ⟨0,_,rfl,z,⟨rfl,by omega,by simp⟩,bm⟩) ?_
 intro n e h' aP
 rw [aX] at aP
 obtain ⟨i,bx,rfl,z,hinv,J,rfl⟩:=aP
 obtain ⟨rfl,hi,dj⟩:=hinv
 have hw:=ei i (by omega)
 obtain ⟨v1,oq,sv1⟩:=zCu (kd:=.i64) hl (by decide) cG nK hi
 obtain ⟨v2,mK,sv2⟩:=zwu (kd:=.i64) hl (by decide) cG nK hi
 have Ni:∀ (h:Heap) (K:aI),aH (some v1) h K=K v1 h:=λ_ _=>rfl
 have YB:∀ (h:Heap) (K:aI),aH (some v2) h K=K v2 h:=λ_ _=>rfl
 have hzz:=z.size
 simp only [aa,seval,tM,cU]
 refine bq (λaW=>?_) (λaW=>?_)
 focus
  obtain ⟨r,hr,bT⟩:=fo (l:=l) (i:=i) (by omega)
  simp only [aa,seval,tM]
  repeat' ((first|with_reducible refine qz (hl.mono z.inc) cG nK (by omega) hr (λp hp=>?_)|with_reducible refine iY hp kJ ?_) <;> simp only [aa,seval,tM])
  rw [zA8]
  obtain ⟨bb,jG⟩:∃ bb,bb=Op.bytesLess r.data.toList x0.data.toList:=⟨_,rfl⟩
  rw [<- jG]
  cases bb
  rotate_left
  .have Mk:slt r x0=true:=jG.symm
   simp only [aa,seval,tM]
   rw [hw]
   (rw [aX];with_reducible refine cy (m:=_) ?_ ⟨i+1,_,rfl,z,⟨rfl,by omega,oE (i:=i) (P:=λy=>slt y x0=true) bT dj Mk⟩,bm⟩;omega)
  simp only [aa,seval,tM,cU]
  refine bq (λ_=>?_) (λhx=>absurd aW hx)
  simp only [aa,seval,tM]
  repeat' ((first|((with_reducible apply bq) <;> intro _)|with_reducible refine qz (hl.mono z.inc) cG nK (by omega) hr (λp hp=>?_)|with_reducible refine iY hp kJ ?_) <;> simp only [aa,seval,tM])
  .have he:r=x0:=by assumption
   (skip)
   exact hk _ _ l z.aC ((hl.mono z.inc).lay _ _) vq (λy=>⟨.inr,λhy=>hy.elim (λe=>by rw [e,<- he];exact fW bT) id⟩) (by omega)
  have kp:∀ y,l[i]? = some y->slt y x0=false/\¬ y=x0:=λy hy=>by
   have e:=bT.symm.trans hy
   cases e
   exact ⟨jG.symm,by assumption⟩
  clear hp
 rotate_left
 focus
  simp only [aa,seval,tM,cU]
  refine bq (λhx=>absurd hx aW) (λ_=>?_)
  have kp:∀ y,l[i]? = some y->slt y x0=false/\¬ y=x0:=λy hy=>by
   have:=(dH.1 hy).1
   omega
 all_goals
  (simp only [aa,seval,tM,oq,Ni])
  repeat' ((first|((with_reducible first|apply bq|apply qh|apply iS|apply Hk|apply zqT) <;> intro _)|with_reducible refine qz (hl.mono z.inc) cG nK (by omega) hr (λp hp=>?_)|with_reducible refine iY hp kJ ?_) <;> simp only [aa,seval,tM,hv,oq,Ni])
  simp only [dx,seval,ly,ZU]
  have f0:Ow aK.str h (bx.lay [ba.row [] 9 false] bx.low) 9 (bx.size+1) (.slice (some ⟨bx.size+0,0,none⟩) 0 0) [] :=
   .inl ⟨by omega,rfl,.inr ⟨bx.size+0,0,rfl,by omega,by rw [bd];simp,[],9,false,by rw [iB];rfl⟩⟩
  obtain ⟨C9,jV,jx⟩:=zsY (A:=bx.size+1) (h:=bx.lay [ba.row [] 9 false] bx.low) (r:=aK.str) (by decide) sv1 (z.inc.trans (bH.lay _ _ _)) (zoR (z.inc.trans (bH.lay _ _ _)) (by omega))
  obtain ⟨w3,h3,A3,g1,o3,pD,g4,g5⟩:=uy (t:=22) cG zV rfl (by decide) (by rw [bd];omega) f0 jV jx (by rw [fw];simp only [dK];omega) (by rw [fw];simp only [dK];omega)
  rw [g1]
  replace z:=z.cw pD (by omega) (by omega)
  rw [pk] at o3
  have zO:=z.size
  rw [ao h3]
  repeat' (simp only [aa,seval,tM])
  simp only [dx,seval,ly,ZU]
  refine zvB (i:=0) (cs:=[.string x0]) (x:=x0) cG zV rfl (by decide) (by rfl) zO o3 rfl (by rw [fw];omega) (by rw [fw];omega) (λw4 h4 A4 o4 cg4 hA4=>?_)
  have Xn:=o3.fresh
  replace z:=z.cw cg4 Xn (by omega)
  have YN:=z.size
  have Xo:=o4.fresh
  rw [ao h4]
  repeat' (simp only [aa,seval,tM,mK,YB])
  simp only [dx,seval,ly,ZU]
  obtain ⟨afl,ud,Yk⟩:=zsY (A:=A4) (h:=h4.lay [] h4.low) (r:=aK.str) (by decide) sv2 (z.inc.trans (bH.lay _ _ _)) (zoR (z.inc.trans (bH.lay _ _ _)) (by omega))
  obtain ⟨w5,h5,A5,g6,o5,cg5,g7,g8⟩:=uy (t:=22) cG zV rfl (by decide) (by rw [bd];omega) (o4.mono (bH.lay _ _ _)) ud Yk (by rw [dI,fw,jM];simp only [v8];omega) (by rw [dI,fw,jM];simp only [v8];omega)
  rw [g6]
  replace z:=z.cw cg5 Xo (by omega)
  have s5:=o5.sl (by decide)
  rw [ao h5]
  simp only [aa,seval,tM]
  exact hk _ _ _ z.aC (s5.lay _ _) (vq.put dj kp) (zCc l x0 i) (by rw [dI,dI,fw,jM];simp only [v8];omega)
theorem zxq (d:aq) (q:Int) (facts:au->aN) (az:au->Nat) (h:Heap) (N S2 NB:Nat) (sd:gC N h S2 NB d q facts az) (k0:d.ab.length<=16) (gv:∀ w,(facts w).length<=800) (K:aI)
 (hk:∀ h' (l:List au),Ext h h'->mP l->(∀ t,t∈l↔∃ w∈d.ab,∃ a∈facts w,mu a t=true)->K (.int .i64 l.length) h'):Ok prog aG ov 22 [.pointer (some ⟨S2,0,none⟩)] h K:=by
 obtain ⟨p0,p1,p2,p5,p6,b,nv,rows,e1,e2,e3,e4,e5,e6,e7,e8,e9⟩:=id sd
 have je:∀ (h:Heap) (K:aI),aH (some nv) h K=K nv h:=λ_ _=>rfl
 have Ir:rows.length=d.ab.length:=by rw [<- e4,nA]
 have cU:=λ(hh:Heap)=>e3.bn wY hh
 rw [ao h]
 have z:=Ext.refl h
 refine Ok.aw 55 (bu N22) ?_
 simp only [aa,seval,tK]
 obtain ⟨I1,aX⟩:∃ I:Nat->Env->Heap->Prop,I=(λn e h'=>∃ (i:Nat) (v:ah) (l:List au) (h1:Heap),h'=h1.lay [] h1.low/\Ext h h1/\(n=rows.length - i/\i<=rows.length/\Sl aK.str h1 v l/\mP l/\l.length<=3200*i/\(∀ t,t∈l↔∃ r∈rows.take i,∃ a∈facts r.aR,mu a t=true))/\∃ J:Nat->ah,e=(.pointer (some ⟨S2,0,none⟩)::jr J 1 2 (v::.int .i64 i::jr J 5 51 ([])))):=⟨_,rfl⟩
 refine du I1 _ (by rw [aX];exact ⟨0,.slice none 0 0,[],_,rfl,z,⟨rfl,by omega,.nil,List.Pairwise.nil,by simp,by simp⟩,bm⟩) ?_
 intro n e h' aP
 rw [aX] at aP
 obtain ⟨i,v,l,bx,rfl,z,hinv,J,rfl⟩:=aP
 obtain ⟨rfl,hi,sl,vq,s7,hm⟩:=hinv
 have gk:=ei i (by omega)
 have q1:=e1.mono z.inc
 simp only [aa,seval,tK,q1.lay,vU,je,cU]
 refine bq (λaW=>?_) (λkW=>?_)
 rotate_left
 .have hvl:∀ (h:Heap) (K:aI),aH (some v) h K=K v h:=λ_ _=>rfl
  have XV:=λ(hh:Heap)=>sl.bn cG hh
  simp only [aa,seval,tK,XV]
  refine hk _ l z.aC vq (λt=>?_)
  rw [hm t,gA (by omega),<- e4]
  constructor
  .rintro ⟨r,h1,h2⟩
   exact ⟨r.aR,JC h1,h2⟩
  .rintro ⟨w,h1,h2⟩
   obtain ⟨r,h3,rfl⟩:=nD.1 h1
   exact ⟨r,h3,h2⟩
 obtain ⟨r,hr⟩:∃ r,rows[i]? = some r:=⟨_,ie (by omega)⟩
 have hrn:=gv r.aR
 have gr:=e3.ix (kd:=.i64) (i:=i) wY D0 (by omega)
 have rT:Sl aK.atom h r.v (facts r.aR):=(e5 r (fW hr)).2.mono (nu [NB] _)
 have XT:=λ(hh:Heap)=>rT.bn bF hh
 have nI:∀ (h:Heap) (K:aI),aH (some r.v) h K=K r.v h:=λ_ _=>rfl
 have lW:rows.take (i+1)=rows.take i++[r]:=by rw [nS,hr];rfl
 simp only [aa,seval,tK]
 obtain ⟨I2,fF⟩:∃ I:Nat->Env->Heap->Prop,I=(λn e h'=>∃ (k:Nat) (v2:ah) (l2:List au) (h1:Heap),h'=h1.lay [] h1.low/\Ext h h1/\(n=(facts r.aR).length - k/\k<=(facts r.aR).length/\Sl aK.str h1 v2 l2/\mP l2/\l2.length<=3200*i+4*k/\(∀ t,t∈l2↔(∃ r∈rows.take i,∃ a∈facts r.aR,mu a t=true)\/∃ a∈(facts r.aR).take k,mu a t=true))/\∃ J:Nat->ah,e=(.pointer (some ⟨S2,0,none⟩)::jr J 1 2 (v2::.int .i64 i::.int .i64 k::jr J 6 50 ([])))):=⟨_,rfl⟩
 refine du I2 _ (by rw [fF];exact ⟨0,v,l,_,rfl,z,⟨rfl,by omega,sl,vq,by omega,λt=>by rw [hm t];simp⟩,bm⟩) ?_
 intro n e h' aP
 rw [fF] at aP
 obtain ⟨k,v2,l2,bx,rfl,z,hinv,J,rfl⟩:=aP
 clear sl vq s7 hm q1
 obtain ⟨rfl,gu,sl,vq,s7,hm⟩:=hinv
 have qt:=ei k (by omega)
 have q1:=e1.mono z.inc
 have c1:=(cN.qZ e3 z.inc).fE (j:=1) hr (by omega) rfl
 simp only [aa,seval,tK,q1.lay,vU,je,gr,c1,nI,XT]
 refine bq (λjc=>?_) (λam6=>?_)
 rotate_left
 .have fS:∀ t,t∈l2↔∃ r∈rows.take (i+1),∃ a∈facts r.aR,mu a t=true:=λt=>by
   rw [hm t,gA (l:=facts r.aR) (i:=k) (by omega),lW]
   simp only [iA,fH]
   constructor
   .rintro (⟨x,h1,h2⟩|h2)
    .exact ⟨x,.inl h1,h2⟩
    .exact ⟨r,.inr rfl,h2⟩
   .rintro ⟨x,h1|rfl,h2⟩
    .exact .inl ⟨x,h1,h2⟩
    .exact .inr h2
  simp only [aa,seval,tK]
  rw [gk]
  (rw [aX];with_reducible refine cy (m:=_) ?_ ⟨i+1,v2,l2,_,rfl,z,⟨rfl,by omega,sl,vq,by omega,fS⟩,bm⟩;omega)
 obtain ⟨a,ha,xB⟩:=fo (l:=facts r.aR) (i:=k) (by omega)
 have Yo:(facts r.aR).take (k+1)=(facts r.aR).take k++[a]:=by rw [nS,xB];rfl
 simp only [aa,seval,tK,q1.lay,vU,je,gr,c1,nI]
 repeat' ((first|with_reducible refine oG (rT.mono z.inc) bF bN (by omega) ha (λp hp=>?_)|with_reducible refine mw hp fD bN ?_) <;> simp only [aa,seval,tK])
 refine zum a _ _ (λcv cs A2 h' x o2 hc4 hcm=>?_)
 have sc:=o2.sl (by decide)
 have kq:=λ(hh:Heap)=>sc.bn cG hh
 (replace z:=z.an x;replace sl:=sl.over x;rw [ao h'])
 simp only [aa,seval,tK]
 obtain ⟨I3,lE⟩:∃ I:Nat->Env->Heap->Prop,I=(λn e h'=>∃ (j:Nat) (v3:ah) (l3:List au) (h1:Heap),h'=h1.lay [] h1.low/\Ext h h1/\(n=cs.length - j/\j<=cs.length/\Sl aK.str h1 v3 l3/\mP l3/\l3.length<=3200*i+4*k+j/\(∀ t,t∈l3↔t∈l2\/t∈cs.take j)/\Sl aK.str h1 cv cs)/\∃ J:Nat->ah,e=(.pointer (some ⟨S2,0,none⟩)::jr J 1 2 (v3::.int .i64 i::.int .i64 k::cv::.int .i64 j::jr J 8 48 ([])))):=⟨_,rfl⟩
 refine du I3 _ (by rw [lE];exact ⟨0,v2,l2,_,rfl,z,⟨rfl,by omega,sl,vq,by omega,λt=>by simp,sc⟩,bm⟩) ?_
 intro n e h' aP
 rw [lE] at aP
 obtain ⟨j,v3,l3,bx,rfl,z,hinv,J,rfl⟩:=aP
 clear sl vq s7 q1 sc o2 x hp c1
 obtain ⟨rfl,hj,sl,vq,s7,yd,sc⟩:=hinv
 have Nl:=ei j (by omega)
 simp only [aa,seval,tK,kq]
 refine bq (λFG=>?_) (λam7=>?_)
 rotate_left
 .have wA:∀ t,t∈l3↔(∃ r∈rows.take i,∃ a∈facts r.aR,mu a t=true)\/∃ a∈(facts r.aR).take (k+1),mu a t=true:=λt=>by
   rw [yd t,hm t,gA (l:=cs) (i:=j) (by omega),Yo,hcm t,or_assoc]
   refine or_congr Iff.rfl ?_
   simp only [iA,fH]
   constructor
   .rintro (⟨x,h1,h2⟩|h2)
    .exact ⟨x,.inl h1,h2⟩
    .exact ⟨a,.inr rfl,h2⟩
   .rintro ⟨x,h1|rfl,h2⟩
    .exact .inl ⟨x,h1,h2⟩
    .exact .inr h2
  simp only [aa,seval,tK]
  rw [qt]
  (rw [fF];with_reducible refine cy (m:=_) ?_ ⟨k+1,v3,l3,_,rfl,z,⟨rfl,by omega,sl,vq,by omega,wA⟩,bm⟩;omega)
 obtain ⟨c,hc,xH⟩:=fo (l:=cs) (i:=j) (by omega)
 have Yp:cs.take (j+1)=cs.take j++[c]:=by rw [nS,xH];rfl
 simp only [aa,seval,tK]
 repeat' ((first|with_reducible refine qz sc cG nK (by omega) hc (λp hp=>?_)|with_reducible refine iY hp kJ ?_) <;> simp only [aa,seval,tK])
 refine zB5 l3 v3 c _ (sl.lay _ _) (by omega) vq _ (λh' w l4 x s4 Yf wA wy=>?_)
 (replace z:=z.an x;replace sc:=sc.over x;rw [ao h'])
 have hm5:∀ t,t∈l4↔t∈l2\/t∈cs.take (j+1):=λt=>by rw [wA t,yd t,Yp,iA,fH,or_comm,or_assoc]
 simp only [aa,seval,tK]
 rw [Nl]
 (rw [lE];with_reducible refine cy (m:=_) ?_ ⟨j+1,w,l4,_,rfl,z,⟨rfl,by omega,s4,Yf,by omega,hm5,sc⟩,bm⟩;omega)
end Go.Proofs.YtmamldleclamjaaGreatDoor
