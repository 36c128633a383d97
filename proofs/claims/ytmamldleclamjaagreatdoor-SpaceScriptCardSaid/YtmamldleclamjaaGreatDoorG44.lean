/- Walks: what is gone through of a policy, all bounds. Written out by fill2.py. No condition. -/
import Derived.Test.YtmamldleclamjaaGreatDoorG43
set_option linter.unusedSimpArgs false
set_option linter.unusedVariables false
set_option maxRecDepth 100000
set_option maxHeartbeats 0
namespace Go.Proofs.YtmamldleclamjaaGreatDoor
open Go.Am Tryz
theorem zj1 (d:aq) (p0 p1 p2 p5 p6:ah) (q b:Int) (h:Heap) (hd:fx h p0 p1 p2 p5 p6 d) (K:aI) (sL:d.ab.length<=70->d.bJ.length<=70->d.bf.length<=70->(∀ c∈d.bf,c.reads.length<=40)->d.rules.length<=70->(∀ r∈d.rules,r.body.length<=9)->d.bl.length<=70->(∀ g∈d.bl,g.body.length<=9)->∀ h',Ext h h'->K (.bool true) h') (kS:∀ h',Ext h h'->K (.bool false) h'):Ok prog aG ov 5 [hU p0 p1 p2 p5 p6 q b] h K:=by
 rw [ao h]
 have z:=Ext.refl h
 have F9:∀ (h:Heap) (K:aI),aH (some p0) h K=K p0 h:=λ_ _=>rfl
 have oq:∀ (h:Heap) (K:aI),aH (some p1) h K=K p1 h:=λ_ _=>rfl
 have mK:∀ (h:Heap) (K:aI),aH (some p2) h K=K p2 h:=λ_ _=>rfl
 have tf:∀ (h:Heap) (K:aI),aH (some p5) h K=K p5 h:=λ_ _=>rfl
 have uh:∀ (h:Heap) (K:aI),aH (some p6) h K=K p6 h:=λ_ _=>rfl
 have jt:=λ(hh:Heap)=>hd.s1.bn kj hh
 have kq:=λ(hh:Heap)=>hd.s2.bn mY hh
 have Bg:=λ(hh:Heap)=>hd.s5.bn mZ hh
 have xY:=λ(hh:Heap)=>hd.s6.bn nX hh
 refine Ok.aw 134 (bu N5) ?_
 repeat' (simp only [aa,seval,c5,kG,lO,F9])
 refine zgS d.ab p0 70 6000 _ (hd.s0.lay _ _) _ (λe0 h' x=>?_) (λh' x=>?_)
 rotate_left
 .have q0:=Holds.top (i:=0) x rfl
  (replace z:=z.an x;rw [ao h'])
  repeat' (first|simp only [aa,seval,c5]|((with_reducible apply ct);(· rfl)))
  exact kS _ z.aC
 have q0:=Holds.top (i:=0) x rfl
 (replace z:=z.an x;rw [ao h'])
 obtain ⟨A0,ep⟩:∃ A0,A0=h.size+0:=⟨_,rfl⟩
 rw [<- ep] at q0
 rw [<- ep]
 repeat' (first|simp only [aa,seval,c5,q0.lay,lP,rj,oz,pV,oq,mK,tf,uh,jt,kq,Bg,xY]|((with_reducible apply bq) <;> intro _)|((with_reducible apply ct);(· rfl)))
 iterate 4 (· exact kS _ z.aC)
 have e1:d.bJ.length<=70:=by omega
 have e2:d.bf.length<=70:=by omega
 have e5:d.rules.length<=70:=by omega
 have e6:d.bl.length<=70:=by omega
 obtain ⟨I1,aX⟩:∃ I:Nat->Env->Heap->Prop,I=(λn e h'=>∃ (i:Nat) (h1:Heap),h'=h1.lay [] h1.low/\Ext h h1/\(n=d.bJ.length - i/\i<=d.bJ.length/\Holds h1 A0 (.row (dW p0 p1 p2 p5 p6 q b) 28 false))/\∃ J:Nat->ah,e=(J 0::.pointer (some ⟨A0,0,none⟩)::J 2::.int .i64 i::jr J 4 131 ([]))):=⟨_,rfl⟩
 refine du I1 _ (by rw [aX];exact ⟨0,_,rfl,z,⟨rfl,by omega,q0⟩,bm⟩) ?_
 intro n e h' aP
 rw [aX] at aP
 obtain ⟨i,bx,rfl,z,hinv,J,rfl⟩:=aP
 clear q0
 obtain ⟨rfl,hi,q0⟩:=hinv
 have hw:=ei i (by omega)
 simp only [aa,seval,c5,q0.lay,lP,oq,jt]
 refine bq (λaW=>?_) (λaW=>?_)
 .obtain ⟨r,hr,bT⟩:=fo (l:=d.bJ) (i:=i) (by omega)
  repeat' (first|simp only [aa,seval,c5,q0.lay,lP,oq]|((with_reducible apply bq) <;> intro _)|with_reducible refine QH (hd.s1.mono z.inc) kj my (by omega) hr (λp hp=>?_)|with_reducible refine xu hp Ht (λq hq=>?_)|with_reducible refine iY hq kJ ?_)
  .exact kS _ z.aC
  rw [hw]
  (rw [aX];with_reducible refine cy (m:=_) ?_ ⟨i+1,_,rfl,z,⟨rfl,by omega,q0⟩,bm⟩;omega)
 clear hi aW hw
 simp only [aa,seval,c5]
 obtain ⟨I2,fF⟩:∃ I:Nat->Env->Heap->Prop,I=(λn e h'=>∃ (i:Nat) (h1:Heap),h'=h1.lay [] h1.low/\Ext h h1/\(n=d.bf.length - i/\i<=d.bf.length/\(∀ c∈d.bf.take i,c.reads.length<=40)/\Holds h1 A0 (.row (dW p0 p1 p2 p5 p6 q b) 28 false))/\∃ J:Nat->ah,e=(J 0::.pointer (some ⟨A0,0,none⟩)::jr J 2 2 (.int .i64 i::jr J 5 130 ([])))):=⟨_,rfl⟩
 refine du I2 _ (by rw [fF];exact ⟨0,_,rfl,z,⟨rfl,by omega,by simp,q0⟩,bm⟩) ?_
 intro n e h' aP
 rw [fF] at aP
 obtain ⟨i,bx,rfl,z,hinv,J,rfl⟩:=aP
 clear q0
 obtain ⟨rfl,hi,aE,q0⟩:=hinv
 have hw:=ei i (by omega)
 simp only [aa,seval,c5,q0.lay,rj,mK,kq]
 refine bq (λaW=>?_) (λaW=>?_)
 .obtain ⟨r,hr,bT⟩:=fo (l:=d.bf) (i:=i) (by omega)
  repeat' (first|simp only [aa,seval,c5,q0.lay,rj,mK]|((with_reducible apply bq) <;> intro _)|with_reducible refine Jw (hd.s2.mono z.inc) mY oC (by omega) hr (λp b hb hp=>?_)|with_reducible refine xu hp DM (λq hq=>?_)|with_reducible refine iY hq kJ ?_|with_reducible refine LH hp TR (λq hq=>?_)|with_reducible refine iY hq KY ?_)
  .exact kS _ z.aC
  refine zgS r.reads _ 40 3000 _ (hb.lay _ _) _ (λer h' x=>?_) (λh' x=>?_)
  rotate_left
  ·(replace z:=z.an x;( replace q0:=q0.over x );rw [ao h'])
   repeat' (first|simp only [aa,seval,c5]|((with_reducible apply ct);(· rfl)))
   exact kS _ z.aC
  (replace z:=z.an x;replace q0:=q0.over x;rw [ao h'])
  repeat' (first|simp only [aa,seval,c5]|((with_reducible apply ct);(· rfl)))
  rw [hw]
  (rw [fF];with_reducible refine cy (m:=_) ?_ ⟨i+1,_,rfl,z,⟨rfl,by omega,oE (i:=i) (P:=λc:bS=>c.reads.length<=40) bT aE (by omega),q0⟩,bm⟩;omega)
 rw [gA (by omega)] at aE
 clear hi aW hw
 simp only [aa,seval,c5]
 obtain ⟨I3,lE⟩:∃ I:Nat->Env->Heap->Prop,I=(λn e h'=>∃ (i:Nat) (h1:Heap),h'=h1.lay [] h1.low/\Ext h h1/\(n=d.rules.length - i/\i<=d.rules.length/\(∀ r∈d.rules.take i,r.body.length<=9)/\Holds h1 A0 (.row (dW p0 p1 p2 p5 p6 q b) 28 false))/\∃ J:Nat->ah,e=(J 0::.pointer (some ⟨A0,0,none⟩)::jr J 2 3 (.int .i64 i::jr J 6 129 ([])))):=⟨_,rfl⟩
 refine du I3 _ (by rw [lE];exact ⟨0,_,rfl,z,⟨rfl,by omega,by simp,q0⟩,bm⟩) ?_
 intro n e h' aP
 rw [lE] at aP
 obtain ⟨i,bx,rfl,z,hinv,J,rfl⟩:=aP
 clear q0
 obtain ⟨rfl,hi,xF,q0⟩:=hinv
 have hw:=ei i (by omega)
 simp only [aa,seval,c5,q0.lay,oz,tf,Bg]
 refine bq (λaW=>?_) (λaW=>?_)
 .obtain ⟨r,hr,bT⟩:=fo (l:=d.rules) (i:=i) (by omega)
  repeat' (first|simp only [aa,seval,c5,q0.lay,oz,tf]|with_reducible refine QI (hd.s5.mono z.inc) mZ rk (by omega) hr (λp b hb hp=>?_)|with_reducible refine EK hp Hi (λq hq=>?_)|with_reducible refine mw hq fD bN ?_)
  refine Tf r.head _ _ (λIj h' x=>?_) (λIj h' x=>?_)
  rotate_left
  ·(replace z:=z.an x;( replace q0:=q0.over x );rw [ao h'])
   repeat' (first|simp only [aa,seval,c5]|((with_reducible apply ct);(· rfl)))
   exact kS _ z.aC
  (replace z:=z.an x;replace q0:=q0.over x;rw [ao h'])
  repeat' (first|simp only [aa,seval,c5,q0.lay,oz,tf]|with_reducible refine QI (hd.s5.mono z.inc) mZ rk (by omega) hr (λp b hb hp=>?_)|with_reducible refine EL hp Hj (λq hq=>?_)|with_reducible refine iY hq uH ?_|((with_reducible apply ct);(· rfl)))
  refine zpl r.body _ 9 _ (Sl.mono (by assumption) (bH.lay _ _ _)) _ (λhb9 _ h' x=>?_) (λh' x=>?_)
  rotate_left
  ·(replace z:=z.an x;( replace q0:=q0.over x );rw [ao h'])
   repeat' (first|simp only [aa,seval,c5]|((with_reducible apply ct);(· rfl)))
   exact kS _ z.aC
  (replace z:=z.an x;replace q0:=q0.over x;rw [ao h'])
  repeat' (first|simp only [aa,seval,c5]|((with_reducible apply ct);(· rfl)))
  rw [hw]
  (rw [lE];with_reducible refine cy (m:=_) ?_ ⟨i+1,_,rfl,z,⟨rfl,by omega,oE (i:=i) (P:=λr:bw=>r.body.length<=9) bT xF (by omega),q0⟩,bm⟩;omega)
 rw [gA (by omega)] at xF
 clear hi aW hw
 simp only [aa,seval,c5]
 obtain ⟨I4,E1⟩:∃ I:Nat->Env->Heap->Prop,I=(λn e h'=>∃ (i:Nat) (h1:Heap),h'=h1.lay [] h1.low/\Ext h h1/\(n=d.bl.length - i/\i<=d.bl.length/\(∀ g∈d.bl.take i,g.body.length<=9)/\Holds h1 A0 (.row (dW p0 p1 p2 p5 p6 q b) 28 false))/\∃ J:Nat->ah,e=(J 0::.pointer (some ⟨A0,0,none⟩)::jr J 2 4 (.int .i64 i::jr J 7 128 ([])))):=⟨_,rfl⟩
 refine du I4 _ (by rw [E1];exact ⟨0,_,rfl,z,⟨rfl,by omega,by simp,q0⟩,bm⟩) ?_
 intro n e h' aP
 rw [E1] at aP
 obtain ⟨i,bx,rfl,z,hinv,J,rfl⟩:=aP
 clear q0
 obtain ⟨rfl,hi,xE,q0⟩:=hinv
 have hw:=ei i (by omega)
 simp only [aa,seval,c5,q0.lay,pV,uh,xY]
 refine bq (λaW=>?_) (λaW=>?_)
 rotate_left
 .rw [gA (by omega)] at xE
  repeat' (simp only [aa,seval,c5])
  exact sL (by omega) e1 e2 aE e5 xF e6 xE _ z.aC
 obtain ⟨r,hr,bT⟩:=fo (l:=d.bl) (i:=i) (by omega)
 repeat' (first|simp only [aa,seval,c5,q0.lay,pV,uh]|((with_reducible apply bq) <;> intro _)|with_reducible refine TW (hd.s6.mono z.inc) nX qa (by omega) hr (λp b hb hp=>?_)|with_reducible refine U4 hp TS (λq hq=>?_)|with_reducible refine iY hq kJ ?_|with_reducible refine U5 hp QD (λq hq=>?_)|with_reducible refine mw hq fD bN ?_)
 .exact kS _ z.aC
 refine Tf r.head _ _ (λIj h' x=>?_) (λIj h' x=>?_)
 rotate_left
 ·(replace z:=z.an x;( replace q0:=q0.over x );rw [ao h'])
  repeat' (first|simp only [aa,seval,c5]|((with_reducible apply ct);(· rfl)))
  exact kS _ z.aC
 (replace z:=z.an x;replace q0:=q0.over x;rw [ao h'])
 repeat' (first|simp only [aa,seval,c5,q0.lay,pV,uh]|with_reducible refine TW (hd.s6.mono z.inc) nX qa (by omega) hr (λp b hb hp=>?_)|with_reducible refine U6 hp TT (λq hq=>?_)|with_reducible refine iY hq uH ?_|((with_reducible apply ct);(· rfl)))
 refine zpl r.body _ 9 _ (Sl.mono (by assumption) (bH.lay _ _ _)) _ (λhb9 _ h' x=>?_) (λh' x=>?_)
 rotate_left
 ·(replace z:=z.an x;( replace q0:=q0.over x );rw [ao h'])
  repeat' (first|simp only [aa,seval,c5]|((with_reducible apply ct);(· rfl)))
  exact kS _ z.aC
 (replace z:=z.an x;replace q0:=q0.over x;rw [ao h'])
 repeat' (first|simp only [aa,seval,c5]|((with_reducible apply ct);(· rfl)))
 rw [hw]
 (rw [E1];with_reducible refine cy (m:=_) ?_ ⟨i+1,_,rfl,z,⟨rfl,by omega,oE (i:=i) (P:=λg:eJ=>g.body.length<=9) bT xE (by omega),q0⟩,bm⟩;omega)
theorem zh5 (l m:aN) (v u:ah) (h:Heap) (hl:Sl aK.atom h v l) (hm:Sl aK.atom h u m) (hs:l.length<=1000) (gG:m.length<=1000) (K:aI)
 (hk:∀ h',Ext h h'->K (.bool (decide (l=m))) h'):Ok prog aG ov 12 [v,u] h K:=by
 rw [ao h]
 have z:=Ext.refl h
 have gv:=λ(hh:Heap)=>hl.bn bF hh
 have Ii:=λ(hh:Heap)=>hm.bn bF hh
 refine Ok.aw 24 (bu N12) ?_
 simp only [aa,seval,Co,gv,Ii]
 refine iS (λaS=>?_) (λheq=>?_)
 .rw [oL (show ¬ l=m from λe=>by subst e;exact aS rfl)] at hk
  repeat' (simp only [aa,seval,Co])
  exact hk _ z.aC
 have hlen:l.length=m.length:=by omega
 repeat' (simp only [aa,seval,Co])
 obtain ⟨I1,aX⟩:∃ I:Nat->Env->Heap->Prop,I=(λn e h'=>∃ (i:Nat) (h1:Heap),h'=h1.lay [] h1.low/\Ext h h1/\(n=l.length - i/\i<=l.length/\l.take i=m.take i)/\∃ J:Nat->ah,e=(v::u::jr J 2 3 (.int .i64 i::jr J 6 20 ([])))):=⟨_,rfl⟩
 refine du I1 _ (by rw [aX];exact ⟨0,_,rfl,z,⟨rfl,by omega,rfl⟩,bm⟩) ?_
 intro n e h' aP
 rw [aX] at aP
 obtain ⟨i,bx,rfl,z,hinv,J,rfl⟩:=aP
 obtain ⟨rfl,hi,lW⟩:=hinv
 have hw:=ei i (by omega)
 simp only [aa,seval,Co,gv]
 refine bq (λaW=>?_) (λaW=>?_)
 rotate_left
 .rw [gA (by omega),gA (by omega)] at lW
  rw [pn lW] at hk
  repeat' (simp only [aa,seval,Co])
  exact hk _ z.aC
 obtain ⟨r,hr,bT⟩:=fo (l:=l) (i:=i) (by omega)
 obtain ⟨s,hs,lL⟩:=fo (l:=m) (i:=i) (by omega)
 simp only [aa,seval,Co]
 repeat' ((first|((with_reducible apply Hk) <;> intro _)|with_reducible refine oG (hl.mono z.inc) bF bN (by omega) hr (λp hp=>?_)|with_reducible refine oG (hm.mono z.inc) bF bN (by omega) hs (λp hp=>?_)|with_reducible refine mw hp fD bN ?_|with_reducible refine dL (by simp only [Co]) z.aC ?_|((with_reducible refine ⟨z.cK.lay _ _,?_⟩);(intro _ h' zz x _);(simp only [b9,bG] at x);(replace z:=zz);(clear zz);rw [ao h'])) <;> simp only [aa,seval,Co,zvK])
 .have aS:¬ r=s:=by assumption
  rw [oL (show ¬ l=m from λe=>by
   subst e
   rw [bT] at lL
   exact aS (Option.some.inj lL))] at hk
  exact hk _ z.aC
 .have he:r=s:=by assumption
  rw [hw]
  (rw [aX];with_reducible refine cy (m:=_) ?_ ⟨i+1,_,rfl,z,⟨rfl,by omega,by rw [nS,nS,bT,lL,lW,he]⟩,bm⟩;omega)
theorem aM.Lv {X:List Nat} {h h2:Heap} (f:aM X h h2):aM [] (aD X h) (aD X h2):=by
 refine ⟨by rw [fX,fX];exact f.size,λB hB _=>?_⟩
 rw [fX] at hB
 by_cases hx:B∈X
 .rw [yV hx hB,yV hx (dJ hB f.size)]
 .rw [nN hx,nN hx]
  exact f.get B hB hx
theorem eH.other {X:List Nat} {N b:Nat} {h h2:Heap} {S0:Nat} {E:List Nat} {d:aq} {q:Int} {facts:au->aN} {az us:au->Nat} (s:eH X N b h S0 E d q facts az us) (f:aM X h h2):eH X N b h2 S0 E d q facts az us:=⟨s.1.cT (aM.Lv f),s.2.1,λB hB=>dJ (s.2.2 B hB) f.size⟩
theorem zum (a:aj) (h:Heap) (K:aI) (hk:∀ w l A h',Ext h h'->Ow aK.str h h' 9 A w l->l.length<=4->(∀ x,x∈l↔mu a x=true)->K w h'):Ok prog aG ov 42 [a.val] h K:=by
 rw [ao h]
 have z:=Ext.refl h
 refine Ok.aw 4 (bu N42) ?_
 simp only [aa,seval,c42,gI,↓eP,ef,dy]
 refine zpm a false _ _ (λw l A h' x o hl hm=>?_)
 replace o:=o.down (h0:=h) (by rw [bd];omega)
 (replace z:=z.an x;rw [ao h'])
 simp only [aa,seval,c42]
 exact hk _ _ _ _ z.aC (o.lay _ _) hl (λx=>(hm x).trans jH.symm)
end Go.Proofs.YtmamldleclamjaaGreatDoor
namespace Go.Am
variable {n:Nat} {e:Int} {l:aN} {Z:Type}
section
variable {cl tP:List bw} {facts eL:aN}
theorem zsw (hc:∀ c,c∈cl↔c∈tP) (hf:∀ a,a∈facts↔a∈eL):iE cl facts↔iE tP eL :=
 ⟨λh=>⟨λc hh=>h.clauses c ((hc c).2 hh),λa hh=>h.facts a ((hf a).2 hh)⟩,λh=>⟨λc hh=>h.clauses c ((hc c).1 hh),λa hh=>h.facts a ((hf a).1 hh)⟩⟩
theorem zoU (hm:iE cl facts) (hc:∀ c,c∈cl↔c∈tP) (hf:∀ a,a∈facts↔a∈eL):∀ n,iD cl facts n=iD tP eL n
 |0=>rfl
 |n+1=>by
  have fS:=(zsw hc hf).1 hm
  show Hx cl facts (iD cl facts n)=Hx tP eL (iD tP eL n)
  rw [zoU hm hc hf n]
  refine zxQ (zqp (Tg hm (IX fS n))) (zqp (Tg fS (IX fS n))) (λx=>⟨λh=>?_,λh=>?_⟩)
  .exact zne (λc=>(hc c).1) (λa=>(hf a).1) (λ_ h=>h) h
  .exact zne (λc=>(hc c).2) (λa=>(hf a).2) (λ_ h=>h) h
theorem zBG (hm:iE cl facts) {m:Nat} (h:n<=m):∀ a∈iD cl facts n,a∈iD cl facts m:=by
 induction m with
 |zero=>obtain rfl:n=0:=by omega
        exact λ_ h=>h
 |succ m ih =>
  by_cases e:n=m+1
  .subst e;exact λ_ h=>h
  .exact λa ha=>zwD hm m a (ih (by omega) a ha)
theorem zyY (hm:iE cl facts) {m:Nat} (h:n<=m):(iD cl facts n).length<=(iD cl facts m).length:=(zAQ (zsq cl facts n) (zsq cl facts m) (zBG hm h)).1
theorem zlK {k:Nat} (h:iD cl facts (k+1)=iD cl facts k):∀ n,iD cl facts (k+n)=iD cl facts k
 |0=>rfl
 |n+1=>by
  show Hx cl facts (iD cl facts (k+n))=_
  rw [zlK h n]
  exact h
inductive ig (cl:List bw) (facts:aN):aN->Nat->Int->Prop
 |bad:¬ iE cl facts->ig cl facts [] 0 2
 |all (k:Nat):iE cl facts->(∀ i,i < k->(iD cl facts i).length < (iD cl facts (i+1)).length)->(iD cl facts k).length<=24->iD cl facts (k+1)=iD cl facts k->ig cl facts (iD cl facts k) k 0
 |pU (k:Nat):iE cl facts->(∀ i,i < k->(iD cl facts i).length < (iD cl facts (i+1)).length)->24 < (iD cl facts (k+1)).length->ig cl facts [] 0 14
theorem ig.len (h:ig cl facts l n e):l.length<=24:=by
 cases h with
 |bad _=>exact i6 _
 |all k _ _ h _=>exact h
 |pU k _ _ _=>exact i6 _
theorem ig.fact (h:ig cl facts l n e):∀ a∈l,eE a:=by
 cases h with
 |bad _=>nofun
 |all _ hm _ _ _=>exact IX hm n
 |pU k _ _ _=>nofun
theorem zwz {k:Nat} (hm:iE cl facts) (hb:∀ i,i < k->(iD cl facts i).length < (iD cl facts (i+1)).length):∀ i,i<=k->i<=(iD cl facts i).length
 |0,_=>i6 _
 |i+1,h=>by
  have:=zwz hm hb i (by omega)
  have:=hb i (by omega)
  omega
theorem ig.round (h:ig cl facts l n e):n<=24:=by
 cases h with
 |bad _=>exact i6 _
 |all _ hm hb h _=>exact hY (zwz hm hb n (bo _)) h
 |pU k _ _ _=>exact i6 _
theorem zsz {k k2:Nat} (hm:iE cl facts) (h4:(iD cl facts k).length<=24) (hs:iD cl facts (k+1)=iD cl facts k) (h:24 < (iD cl facts k2).length):False:=by
 by_cases hk:k2<=k
 .have:=zyY hm hk
  omega
 .have:=zlK hs (k2 - k)
  rw [show k+(k2 - k)=k2 by omega] at this
  rw [this] at h
  omega
theorem ig.one {l2:aN} {n2:Nat} {e2:Int} (h:ig cl facts l n e) (h2:ig cl facts l2 n2 e2):l=l2/\n=n2/\e=e2:=by
 cases h with
 |bad hm =>
  cases h2 with
  |bad _=>exact ⟨rfl,rfl,rfl⟩
  |all k fS=>exact absurd fS hm
  |pU k fS=>exact absurd fS hm
 |all _ hm hb h4 hs =>
  cases h2 with
  |bad fS=>exact absurd hm fS
  |all _ fS nF h42 gG =>
   have hn:n=n2:=by
    rcases HA n n2 with aW|he|sS
    .have:=nF n aW
     rw [hs] at this
     omega
    .exact he
    .have:=hb n2 sS
     rw [gG] at this
     omega
   subst hn
   exact ⟨rfl,rfl,rfl⟩
  |pU k2 fS nF h2=>exact (zsz hm h4 hs h2).elim
 |pU k hm hb h =>
  cases h2 with
  |bad fS=>exact absurd hm fS
  |all _ fS nF h42 gG=>exact (zsz hm h42 gG h).elim
  |pU k2 _ _ _=>exact ⟨rfl,rfl,rfl⟩
theorem ig.zero (h:ig cl facts l n 0):iE cl facts/\l=iD cl facts n/\(∀ i,i < n->(iD cl facts i).length < (iD cl facts (i+1)).length)/\l.length<=24/\iD cl facts (n+1)=l:=by
 cases h with
 |all _ hm hb h4 hs=>exact ⟨hm,rfl,hb,h4,hs⟩
theorem ig.iter (hm:iE cl facts↔iE tP eL) (hi:iE cl facts->∀ n,iD cl facts n=iD tP eL n) (h:ig cl facts l n e):ig tP eL l n e:=by
 cases h with
 |bad h=>exact .bad (λx=>h (hm.2 x))
 |all _ h hb h4 hs =>
  rw [hi h n] at h4 ⊢
  rw [hi h,hi h] at hs
  exact .all n (hm.1 h) (λi hh=>by rw [<- hi h,<- hi h];exact hb i hh) h4 hs
 |pU k h hb h4 =>
  rw [hi h] at h4
  exact .pU k (hm.1 h) (λi hh=>by rw [<- hi h,<- hi h];exact hb i hh) h4
theorem ig.same (hc:∀ c,c∈cl↔c∈tP) (hf:∀ a,a∈facts↔a∈eL) (h:ig cl facts l n e):ig tP eL l n e :=
 h.iter (zsw hc hf) (λhm=>zoU hm hc hf)
end
def aK.eD (r:aK Z) (B:Heap):aK Z:={ k:=r.k,R:=λh cs x=>bH B h/\r.R B cs x,len:=λh cs x hh=>r.len _ _ _ hh.2,mono:=λh h' cs x i hh=>⟨hh.1.trans i,hh.2⟩,iu:=λh cs x hh=>r.iu _ _ _ hh.2 }
theorem Sl.eD {Z:Type} {r:aK Z} {B:Heap} {v:ah} {l:List Z} (f:Sl r B v l):Sl (r.eD B) B v l:=by
 rcases f with f|⟨A,o,c,row,u,ro,e1,e2,e3,e4,e5,e6⟩
 .exact .inl f
 .refine .inr ⟨A,o,c,row,u,ro,e1,e2,e3,e4,e5,λi x hx=>?_⟩
  obtain ⟨cs,g1,g2⟩:=e6 i x hx
  exact ⟨cs,g1,bH.refl _,g2⟩
theorem zsY {r:aK Z} {B h:Heap} {A:Nat} {v:ah} {l:List Z} (hk:0 < r.k) (f:Sl r B v l) (i:bH B h) (i2:bH B (kill A h)):∃ news,fN v r.k h=some (l.length,news)/\Src r (kill A h) l.length news l:=by
 obtain ⟨news,h1,h2,h3,h4,h5⟩:=vT (r:=r.eD B) (A:=A) (h:=h) hk (f.eD.mono i) (λcs y hr=>⟨i2,hr.2⟩)
 refine ⟨news,h1,h2,h3,h4,λj y hy=>?_⟩
 obtain ⟨cs,g1,g2,g3⟩:=h5 j y hy
 exact ⟨cs,g1,r.mono _ _ _ _ i2 g3⟩
theorem zCu {T:bO} {t e:TypeId} {r:aK Z} {B:Heap} {v:ah} {l:List Z} (f:Sl r B v l) (hk:0 < r.k) (hd:T.desc t=some (.slice e)) (hs:di T e=some r.k) {b:Nat} {kd:IntKind} (hb:b<=l.length) :
 ∃ v',jL T t v none (some (.int kd b)) none=some v'/\Sl r B v' (l.take b):=by
 have h:=zya (bs:=[]) (w:=B.low) f hk hd hs (kd:=kd) hb (K:=λv' _=>Sl r B v' (l.take b)) (λ_ h=>h)
 cases e:jL T t v none (some (.int kd b)) none with
 |none=>rw [e] at h;exact h.elim
 |some v'=>rw [e] at h;exact ⟨v',rfl,h⟩
end Go.Am
namespace Go.Am
variable {d:aq}
def mP (l:List au):Prop:=l.Pairwise λa b=>slt a b=true
theorem mP.nodup {l:List au} (h:mP l):l.Nodup:=List.Pairwise.imp (λ{a b} tS e=>by
 subst e
 rw [zuS] at tS
 cases tS) h
theorem mP.put {l:List au} {i:Nat} {x:au} (h:mP l) (dj:∀ y∈l.take i,slt y x=true) (kp:∀ r,l[i]? = some r->slt r x=false/\¬ r=x):mP ((l.take i++[x])++l.drop i):=by
 have h0:=h
 rw [<- pj i l] at h0
 obtain ⟨h1,h2,h3⟩:=List.pairwise_append.1 h0
 have hd:∀ y∈l.drop i,slt x y=true:=λy hy=>by
  cases hr:l[i]? with
  |none =>
   rw [List.getElem?_eq_none_iff] at hr
   rw [wW hr] at hy
   cases hy
  |some r =>
   obtain ⟨e1,e2⟩:=kp r hr
   have hxr:slt x r=true:=by
    cases hx:slt x r
    .exact absurd (zpK e1 hx) e2
    .rfl
   obtain ⟨hl,hg⟩:=dH.1 hr
   rw [DE hl,hg] at hy h2
   rcases cJ.1 hy with rfl|hy
   .exact hxr
   .exact zkv hxr ((nQ.1 h2).1 y hy)
 refine List.pairwise_append.2 ⟨List.pairwise_append.2 ⟨h1,Tm _ _,λa ha b hb=>?_⟩,h2,λa ha b hb=>?_⟩
 .rw [fH.1 hb]
  exact dj a ha
 .rcases iA.1 ha with ha|ha
  .exact h3 a ha b hb
  .rw [fH.1 ha]
   exact hd b hb
def xd (d:aq) (az:au->Nat):Prop:=∀ w,w ∉ d.ab->az w=0
theorem zwK {q:Int} {c:dM} {l m:aN} (h:gX d q c l=some m):fG d c.s c.a=0:=by
 unfold gX eN fM at h
 refine Classical.byContradiction λhn=>?_
 rw [aA hn,aA hn] at h
 split at h <;> cases h
theorem zwm {s:au} {a:aj} (h:fG d s a=0):s∈d.ab:=cC.1 (Dy h).1
theorem xd.turn {q:Int} {c:dM} {l:aN} {az:au->Nat} (o:xd d az):xd d (oK az c.s (gX d q c l)):=λw hw=>by
 cases hl:gX d q c l with
 |none=>rw [zY];exact o w hw
 |some m =>
  have hs:=zwm (zwK hl)
  rw [znn (λe=>hw (by rw [<- e];exact hs))]
  exact o w hw
theorem de.out {k:Nat} {facts:au->aN} {az us:au->Nat} (i:de d k facts az us) {w:au} (hw:w ∉ d.ab):facts w=[]:=by
 cases hf:facts w with
 |nil=>rfl
 |cons a r=>exact absurd (zwm (i.ok w a (by rw [hf];exact fZ))) hw
end Go.Am
