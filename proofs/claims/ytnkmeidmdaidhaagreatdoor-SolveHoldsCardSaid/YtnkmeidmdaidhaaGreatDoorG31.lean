/- Walks: two atoms made Am.one. Written out by fill2.py. No condition. -/
import Derived.Test.YtnkmeidmdaidhaaGreatDoorG30
set_option linter.unusedSimpArgs false
set_option linter.unusedVariables false
set_option maxRecDepth 100000
set_option maxHeartbeats 0
namespace Go.Proofs.YtnkmeidmdaidhaaGreatDoor
open Go.Am Tryz
variable {l:List av} {v:ai} {h:Heap} {L:Nat} {u:TypeId}
theorem Ge {m:List av} {s:aV} {t:ay} (h:iN l s t=some m):m.length=l.length+1:=zh2 h
theorem jF.RF {Z:Type} {r:aG Z} {h0 a b:Heap} {e:TypeId} {l:List Z} {D:List Nat} (f:jF r h0 a e v l) (dP:∀ h h' cs x,r.R h cs x->r.R h' cs x) (x:aR D a b) (hD:∀ B∈D,B < h0.size):jF r h0 b e v l:=by
 obtain ⟨A,f⟩:=f
 have aL:∀ B,h0.size<=B->B ∉ D:=λB hB hm=>by have:=hD B hm;omega
 rcases f with ⟨h1,h2,h3⟩|⟨row,h1,h2,h3,h4,h5,h6,h7,h8⟩
 .refine ⟨A,.inl ⟨h1,h2,?_⟩⟩
  rcases h3 with h3|⟨B,o,g1,g2,g3,row,u,ro,g4⟩
  .exact .inl h3
  .exact .inr ⟨B,o,g1,g2,dt g3 x.size,row,u,ro,(x.get B g3 (aL B g2)).trans g4⟩
 .refine ⟨A,.inr ⟨row,h1,h2,h3,dt h4 x.size,(x.get A h4 (aL A h3)).trans h5,h6,h7,λi y hy=>?_⟩⟩
  obtain ⟨cs,c1,c2⟩:=h8 i y hy
  exact ⟨cs,c1,dP _ _ _ _ c2⟩
def rR (u:TypeId) (L:Nat) (h h1:Heap) (v:ai) (l:List av):Prop:=(v=.slice none 0 0/\l=[])\/∃ hb:Heap,L < hb.size/\h.size<=hb.size/\jF aG.bind hb h1 u v l
theorem rR.sl {h1:Heap} (f:rR u L h h1 v l):Sl aG.bind (bp [L] h1) v l:=by
 rcases f with ⟨rfl,rfl⟩|⟨hb,h2,_,A,o⟩
 .exact Sl.nil
 .exact o.bp (λ_ _ _ _ h=>h) (by decide) (λB hB=>by rw [eM.1 hB];exact h2)
theorem rR.bf {a b:Heap} (f:rR u L h a v l) (x:aR [L] a b):rR u L h b v l:=by
 rcases f with f|⟨hb,h2,h3,o⟩
 .exact .inl f
 .exact .inr ⟨hb,h2,h3,jF.RF (r:=aG.bind) o (λ_ _ _ _ h=>h) x (λB hB=>by rw [eM.1 hB];exact h2)⟩
theorem rR.own {h1:Heap} (f:rR u L h h1 v l):jF aG.bind h h1 u v l:=by
 rcases f with ⟨rfl,rfl⟩|⟨hb,_,h3,o⟩
 .exact ⟨h.size,Ow.nil (aQ _)⟩
 .exact o.low h3
theorem rR.one {u:TypeId} {L:Nat} {h h1:Heap} {v:ai} {l:List av} (f:rR u L h h1 v l):Am.one v=true:=by
 rcases f.sl with ⟨rfl,_⟩|⟨_,_,_,_,_,_,rfl,_⟩ <;> rfl
theorem Oq (l:List av) (lv:ai) (s:aV) (t:ay) (L:Nat) (h hc:Heap) (z:Ext h hc) (hL:h.size<=L) (q:ak hc L (.row [lv] 95 false)) (hl:rR 134 L h hc lv l) (hs:l.length<=900) (K:aO)
 (lR:∀ m,iN l s t=some m->∀ h' w,Ext h h'->aR [L] hc h'->ak h' L (.row [w] 95 false)->rR 134 L h h' w m->K (.bool true) h')
 (AM:iN l s t=none->∀ h',Ext h h'->aR [L] hc h'->ak h' L (.row [lv] 95 false)->K (.bool false) h'):Ok prog aJ ov 92 [.string s,t.val,.pointer (some ⟨L,0,none⟩)] hc K:=by
 have cg:=aR.refl [L] hc
 rw [az hc]
 have DU:∀ (h:Heap) (K:aO),aM (some lv) h K=K lv h:=λ_ _=>rfl
 have IE:cut t.cells 0 2=some t.cells:=rfl
 refine Ok.aF 17 (bY Yu) ?_
 repeat' (simp only [aa,seval,MO,K8,q.lay,DU,↓IE,EL,BM])
 refine zyg l lv s t _ ((hl.sl.mono (ui _ _)).lay _ _) hs _ (λh' w e x hn eE=>?_)
 have hqL:=q.lt
 have hcz:=z.size
 (replace z:=z.au x;replace q:=q.over x;replace cg:=cg.over x;rw [az h'])
 have wz:∀ (h:Heap) (K:aO),aM (some w) h K=K w h:=λ_ _=>rfl
 cases hb:iN l s t with
 |none =>
  have he:=hn hb
  have vx:(e == 0)=false:=by simpa using he
  repeat' (simp only [aa,seval,MO,wz,vx])
  exact AM hb _ z.aw (cg.trans (aR.lay _ _ _ []) (λ_ h=>nomatch h)) (q.on _ _)
 |some m =>
  obtain ⟨he,hw⟩:=eE m hb
  subst he
  have ho:rR 134 L h h' w m:=.inr ⟨_,by rw [br];exact dt hqL (by omega),by rw [br];omega,hw⟩
  have Bg:=ho.one
  have AZ:w.cells.toList=[w]:=OU ho.sl
  repeat' (simp only [aa,seval,MO,wz])
  refine jL (n:=1) (o:=0) (vs:=[w]) q (by kernel_rfl) AZ rfl (by simp) (by simp [Bg]) (λh9 q' c=>?_)
  replace q':ak h9 L (.row [w] 95 false):=q'
  have fr:aR [L] h' h9:=(aR.lay h' [] h'.low [L]).trans (fc.bf c (by simp:L∈[L])) (λB hB=>.inl hB)
  have hk9:=ho.bf fr
  replace cg:=cg.eN c (.inl (by simp))
  replace z:=z.cp c hL (by omega)
  clear q
  rw [az h9]
  repeat' (simp only [aa,seval,MO])
  exact lR m hb _ w z.aw (cg.trans (aR.lay _ _ _ []) (λ_ h=>nomatch h)) (q'.on _ _) (hk9.bf (aR.lay h9 _ _ [L]))
theorem zzE {a b:ae} (h:kG a b=true):b.says=a.says/\b.pred=a.pred/\b.n=a.n/\0<=a.n/\a.n<=4:=by
 unfold kG at h
 simp only [dW,ix] at h
 exact ⟨h.1.symm,h.2.1.symm,h.2.2.1.symm,h.2.2.2.1,h.2.2.2.2⟩
theorem zps {a b:ae}:∀ {k:Nat} {l:List av},mK a b k=some l->l.length<=k
 |0,l,h=>by cases h;simp
 |k+1,l,h=>by
  cases hu:mK a b k with
  |none=>rw [F9 (by omega) hu] at h;cases h
  |some l0 =>
   have h0:=zps hu
   rw [Ga hu] at h
   unfold uD at h
   split at h
   .cases h;omega
   split at h
   .have:=Ge h;omega
   split at h
   .have:=Ge h;omega
   .cases h
theorem zy3 (a:ae):a.cells[0]? = some (.string a.says):=rfl
theorem zy4 (a:ae):a.cells[1]? = some (.string a.pred):=rfl
theorem zy5 (a:ae):a.cells[2]? = some (.int .i64 a.n):=rfl
theorem zyn (a b:ae) (h:Heap) (K:aO)
 (AM:j8 a b=none->∀ h' w,Ext h h'->K (.tuple #[w,.bool false]) h')
 (lR:∀ l,j8 a b=some l->∀ h' w,Ext h h'->jF aG.bind h h' 134 w l->K (.tuple #[w,.bool true]) h'):Ok prog aJ ov 60 [a.val,b.val] h K:=by
 rw [az h]
 have z:=Ext.refl h
 have gZ:∀ (s:aV) (h:Heap) (K:aO),aM (some (.string s)) h K=K (.string s) h:=λ_ _ _=>rfl
 have ZG:∀ (n:Int) (h:Heap) (K:aO),aM (some (.int .i64 n)) h K=K (.int .i64 n) h:=λ_ _ _=>rfl
 refine Ok.aF 93 (bY X5) ?_
 by_cases mT:kG a b=true
 rotate_left
 .have jU:j8 a b=none:=aA mT
  repeat' (first|simp only [aa,seval,j6,js,zy3,zy4,zy5,gZ,ZG]|((with_reducible first|apply cm|apply su) <;> intro _))
  all_goals try exact AM jU _ _ z.aw
  refine absurd ?_ mT
  unfold kG
  simp only [dW,ix]
  exact ⟨Decidable.not_not.1 (by assumption),Decidable.not_not.1 (by assumption),by assumption,by omega,by omega⟩
 .obtain ⟨e1,e2,e3,e4,e5⟩:=zzE mT
  repeat' (first|simp only [aa,seval,j6,js,zy3,zy4,zy5,gZ,ZG,e1,e2,e3]|((with_reducible first|apply cm|apply su) <;> intro _))
  all_goals first|(exfalso;omega)|(exfalso;exact absurd rfl (by assumption))|skip
  refine uw (λh' x hq=>?_)
  have q0:=hq 0 _ rfl
  have q1:=hq 1 _ rfl
  have q2:=hq 2 _ rfl
  clear hq
  (replace z:=z.au x;rw [az h'])
  obtain ⟨m,hm⟩:∃ m:Nat,a.n=m:=⟨a.n.toNat,by omega⟩
  rw [hm]
  have tu:=z.size
  obtain ⟨A0,iX⟩:∃ A0,A0=h.size+0:=⟨_,rfl⟩
  obtain ⟨A1,nq⟩:∃ A1,A1=h.size+1:=⟨_,rfl⟩
  obtain ⟨L,hL⟩:∃ L,L=h.size+2:=⟨_,rfl⟩
  rw [<- iX] at q0
  rw [<- nq] at q1
  rw [<- hL] at q2
  rw [<- iX,<- nq,<- hL]
  obtain ⟨I1,bo⟩:∃ I:Nat->Env->Heap->Prop,I=(λn e h'=>∃ (i:Nat) (l:List av) (lv:ai) (h1:Heap),h'=h1.lay [] h1.low/\Ext h h1/\(n=m - i/\i<=m/\mK a b i=some l/\ak h1 A0 (.row a.cells 28 false)/\ak h1 A1 (.row b.cells 28 false)/\ak h1 L (.row [lv] 95 false)/\rR 134 L h h1 lv l)/\∃ J:Nat->ai,e=(jr J 0 2 (.pointer (some ⟨A0,0,none⟩)::.pointer (some ⟨A1,0,none⟩)::jr J 4 2 (.pointer (some ⟨L,0,none⟩)::.func (.func 92) ⟨[]⟩ ⟨[.pointer (some ⟨L,0,none⟩)]⟩::jr J 8 35 (.int .i64 m::.int .i64 i::jr J 45 50 ([])))))):=⟨_,rfl⟩
  refine fh I1 _ (by rw [bo];exact ⟨0,[],.slice none 0 0,_,rfl,z,⟨rfl,by omega,rfl,q0,q1,q2,.inl ⟨rfl,rfl⟩⟩,bO⟩) ?_
  intro n e h' aU
  rw [bo] at aU
  obtain ⟨i,l,lv,cF,rfl,z,hinv,J,rfl⟩:=aU
  clear q0 q1 q2
  obtain ⟨rfl,hi,hu,q0,q1,q2,sl⟩:=hinv
  have hw:=gE i (by omega)
  have DU:∀ (h:Heap) (K:aO),aM (some lv) h K=K lv h:=λ_ _=>rfl
  have vK:=zps hu
  have hz:=z.size
  have xI:=sl.sl.mono (ui _ _)
  have cg:=aR.refl [L] cF
  have M0:h.size<=L:=by omega
  simp only [aa,seval,j6]
  refine cm (λbc=>?_) (λbc=>?_)
  rotate_left
  .have he:i=m:=by omega
   subst he
   have hud:j8 a b=some l:=by
    unfold j8
    rw [aB mT,show a.n.toNat=i by omega,hu]
   repeat' (simp only [aa,seval,j6,q2.lay,DU])
   exact lR l hud _ _ z.aw (sl.own.lay _ _)
  have jH:(0:Int)<=(i:Int)/\(i:Int) < 4:=by omega
  have kP:=LR a i (by omega)
  have kQ:=LR b i (by omega)
  simp only [aa,seval,j6]
  with_reducible first|refine eF (by simp only [j6]) z.aw ?_
  simp only [aa,seval,j6,q0.lay,q2.lay,DU,jH,↓kP,EL,BM]
  refine ES l lv (a.arg i) _ (xI.lay _ _) (by omega) _ (λh' x=>?_)
  (((with_reducible refine fP ?_ ?_ ?_);(· exact (by (simp only [gh]);have:=z.size;omega));(· exact x));replace z:=z.au x;replace q0:=q0.over x;replace q1:=q1.over x;replace q2:=q2.over x;replace cg:=cg.over x;replace xI:=xI.over x;rw [az h'])
  simp only [aa,seval,j6,q1.lay,q2.lay,DU,jH,↓kQ,EL,BM]
  refine ES l lv (b.arg i) _ (xI.lay _ _) (by omega) _ (λh' x=>?_)
  (((with_reducible refine fP ?_ ?_ ?_);(· exact (by (simp only [gh]);have:=z.size;omega));(· exact x));replace z:=z.au x;replace q0:=q0.over x;replace q1:=q1.over x;replace q2:=q2.over x;replace cg:=cg.over x;replace xI:=xI.over x;rw [az h'])
  simp only [aa,seval,j6]
  obtain ⟨x0,FW⟩:∃ x0,x0=b9 l (a.arg i):=⟨_,rfl⟩
  obtain ⟨y0,JQ⟩:∃ y0,y0=b9 l (b.arg i):=⟨_,rfl⟩
  rw [<- FW,<- JQ]
  obtain ⟨xv,xs⟩:=x0
  obtain ⟨yv,ys⟩:=y0
  refine nL (by have:=z.size;omega) (by omega) ?_
  simp only [aa,seval,j6,ay.val,ay.cells]
  refine znE (by simp) (by have:=z.size;omega) (by simp) ?_
  simp only [aa,seval,j6,iw,iy,jt,Am.one,iv,fW,ij]
  refine Eo (by kernel_rfl) (by simp) (by have:=z.size;omega) ?_
  simp only [aa,seval,j6,iw,iy,jt,Am.one,iv,fW,Ce,ij]
  refine Eo (by kernel_rfl) (by simp) (by have:=z.size;omega) ?_
  simp only [cv,seval,j6]
  ((with_reducible refine ⟨z.cS.lay _ _,?_⟩);(intro _ h' zz x _);(simp only [bS,bD] at x);replace q0:=q0.over x;replace q1:=q1.over x;replace q2:=q2.over x;replace cg:=cg.over x;replace xI:=xI.over x;(replace z:=zz);(clear zz);rw [az h'])
  have q3:=ak.top (i:=0) x rfl
  have q4:=ak.top (i:=1) x rfl
  clear x
  have r9:mK a b (i+1)=uD l ⟨xv,xs⟩ ⟨yv,ys⟩:=by rw [Ga hu,<- FW,<- JQ]
  have gO:∀ h',aR [L] cF h'->rR 134 L h h' lv l:=λh' f=>sl.bf f
  have wy:mK a b (i+1)=none->j8 a b=none:=λe=>by
   unfold j8
   rw [aB mT]
   exact F9 (by omega) e
  repeat' (first|simp only [aa,seval,j6,q3.lay,q4.lay,zk8]|((with_reducible apply cm) <;> intro _)|((with_reducible apply cK);(· rfl)))
  .have TR:mK a b (i+1)=some l:=r9.trans (aB (by assumption))
   rw [hw]
   (rw [bo];with_reducible refine dA (m:=_) ?_ ⟨i+1,l,lv,_,rfl,z,⟨rfl,by omega,TR,q0,q1,q2,gO _ cg⟩,bO⟩;omega)
  have jY:mK a b (i+1)=if xv=true/\(yv=false\/slt ys xs=true) then iN l xs ⟨yv,ys⟩ else if yv=true then iN l ys ⟨xv,xs⟩ else none:=r9.trans (aA (by assumption))
  clear r9
  cases xv <;> cases yv
  .rw [aA (by simp),aA (by simp)] at jY
   repeat' (first|simp only [aa,seval,j6,q4.lay]|((with_reducible apply cK);(· rfl)))
   exact AM (wy jY) _ _ z.aw
  .rw [aA (by simp),aB rfl] at jY
   repeat' (simp only [aa,seval,j6,q3.lay,q4.lay,gZ])
   rw [Eu]
   refine Oq l lv ys ⟨false,xs⟩ L h _ z.aw M0 (q2.on _ _) (gO _ (cg.trans (aR.lay _ _ _ []) (λ_ h=>nomatch h))) (by omega) _ (λmm hb h' w z2 pA oL Ef=>?_) (λhb h' z2 pA oL=>?_)
   .replace q0:=(q0.on _ _).bf pA (by simp;omega)
    replace q1:=(q1.on _ _).bf pA (by simp;omega)
    clear z q2
    have z:=z2
    rw [az h']
    repeat' (first|simp only [aa,seval,j6]|((with_reducible apply cK);(· rfl)))
    rw [hw]
    (rw [bo];with_reducible refine dA (m:=_) ?_ ⟨i+1,mm,w,_,rfl,z,⟨rfl,by omega,jY.trans hb,q0,q1,oL,Ef⟩,bO⟩;omega)
   .clear z
    have z:=z2
    rw [az h']
    repeat' (first|simp only [aa,seval,j6]|((with_reducible apply cK);(· rfl)))
    exact AM (wy (jY.trans hb)) _ _ z.aw
  .rw [aB (by simp)] at jY
   repeat' (first|simp only [aa,seval,j6,q3.lay,q4.lay,gZ]|((with_reducible apply cK);(· rfl)))
   rw [Eu]
   refine Oq l lv xs ⟨false,ys⟩ L h _ z.aw M0 (q2.on _ _) (gO _ (cg.trans (aR.lay _ _ _ []) (λ_ h=>nomatch h))) (by omega) _ (λmm hb h' w z2 pA oL Ef=>?_) (λhb h' z2 pA oL=>?_)
   .replace q0:=(q0.on _ _).bf pA (by simp;omega)
    replace q1:=(q1.on _ _).bf pA (by simp;omega)
    clear z q2
    have z:=z2
    rw [az h']
    repeat' (first|simp only [aa,seval,j6]|((with_reducible apply cK);(· rfl)))
    rw [hw]
    (rw [bo];with_reducible refine dA (m:=_) ?_ ⟨i+1,mm,w,_,rfl,z,⟨rfl,by omega,jY.trans hb,q0,q1,oL,Ef⟩,bO⟩;omega)
   .clear z
    have z:=z2
    rw [az h']
    repeat' (first|simp only [aa,seval,j6]|((with_reducible apply cK);(· rfl)))
    exact AM (wy (jY.trans hb)) _ _ z.aw
  .repeat' (first|simp only [aa,seval,j6,q3.lay,q4.lay,gZ,zu4]|((with_reducible apply cK);(· rfl)))
   cases ZC:slt ys xs
   .rw [aA (by simp [ZC]),aB rfl] at jY
    repeat' (simp only [aa,seval,j6,q3.lay,q4.lay,gZ])
    rw [Eu]
    refine Oq l lv ys ⟨true,xs⟩ L h _ z.aw M0 (q2.on _ _) (gO _ (cg.trans (aR.lay _ _ _ []) (λ_ h=>nomatch h))) (by omega) _ (λmm hb h' w z2 pA oL Ef=>?_) (λhb h' z2 pA oL=>?_)
    .replace q0:=(q0.on _ _).bf pA (by simp;omega)
     replace q1:=(q1.on _ _).bf pA (by simp;omega)
     clear z q2
     have z:=z2
     rw [az h']
     repeat' (first|simp only [aa,seval,j6]|((with_reducible apply cK);(· rfl)))
     rw [hw]
     (rw [bo];with_reducible refine dA (m:=_) ?_ ⟨i+1,mm,w,_,rfl,z,⟨rfl,by omega,jY.trans hb,q0,q1,oL,Ef⟩,bO⟩;omega)
    .clear z
     have z:=z2
     rw [az h']
     repeat' (first|simp only [aa,seval,j6]|((with_reducible apply cK);(· rfl)))
     exact AM (wy (jY.trans hb)) _ _ z.aw
   .rw [aB (by simp [ZC])] at jY
    repeat' (simp only [aa,seval,j6,q3.lay,q4.lay,gZ])
    rw [Eu]
    refine Oq l lv xs ⟨true,ys⟩ L h _ z.aw M0 (q2.on _ _) (gO _ (cg.trans (aR.lay _ _ _ []) (λ_ h=>nomatch h))) (by omega) _ (λmm hb h' w z2 pA oL Ef=>?_) (λhb h' z2 pA oL=>?_)
    .replace q0:=(q0.on _ _).bf pA (by simp;omega)
     replace q1:=(q1.on _ _).bf pA (by simp;omega)
     clear z q2
     have z:=z2
     rw [az h']
     repeat' (first|simp only [aa,seval,j6]|((with_reducible apply cK);(· rfl)))
     rw [hw]
     (rw [bo];with_reducible refine dA (m:=_) ?_ ⟨i+1,mm,w,_,rfl,z,⟨rfl,by omega,jY.trans hb,q0,q1,oL,Ef⟩,bO⟩;omega)
    .clear z
     have z:=z2
     rw [az h']
     repeat' (first|simp only [aa,seval,j6]|((with_reducible apply cK);(· rfl)))
     exact AM (wy (jY.trans hb)) _ _ z.aw
theorem zqF (l:List av) (v:ai) (h:Heap) (hl:Sl aG.bind h v l) (hs:l.length<=1000) (aE:∀ y∈l,kZ y=false) (K:aO)
 (hk:∀ h',Ext h h'->K (.int .i64 (-1)) h'):Ok prog aJ ov 127 [v,.func (.func 101) ⟨[]⟩ ⟨[]⟩] h K:=by
 rw [az h]
 have z:=Ext.refl h
 have eD:=λ(hh:Heap)=>hl.bW dx hh
 refine Ok.aF 17 (bY Hu) ?_
 simp only [aa,seval,sN,eD]
 obtain ⟨I1,bo⟩:∃ I:Nat->Env->Heap->Prop,I=(λn e h'=>∃ (i:Nat) (h1:Heap),h'=h1.lay [] h1.low/\Ext h h1/\(n=l.length - i/\i<=l.length)/\∃ J:Nat->ai,e=(v::.func (.func 101) ⟨[]⟩ ⟨[]⟩::jr J 2 4 (v::.int .i64 l.length::.int .i64 i::jr J 9 10 ([])))):=⟨_,rfl⟩
 refine fh I1 _ (by rw [bo];exact ⟨0,_,rfl,z,⟨rfl,by omega⟩,bO⟩) ?_
 intro n e h' aU
 rw [bo] at aU
 obtain ⟨i,cF,rfl,z,hinv,J,rfl⟩:=aU
 obtain ⟨rfl,hi⟩:=hinv
 have hw:=gE i (by omega)
 simp only [aa,seval,sN]
 refine cm (λbc=>?_) (λbc=>?_)
 rotate_left
 .repeat' ( simp only [aa,seval,sN])
  exact hk _ z.aw
 obtain ⟨r,hr,cI⟩:=i4 (l:=l) (i:=i) bc
 have hrf:=aE r (ek cI)
 simp only [aa,seval,sN]
 repeat' ((first|with_reducible refine ya (hl.mono z.inc) dx mx (by omega) hr (λp hp=>?_)|with_reducible refine JY hp G8 mx ?_) <;> simp only [aa,seval,sN])
 refine W7 r _ _ (λh' x=>?_)
 (replace z:=z.au x;rw [az h'])
 clear hp
 rw [hrf]
 simp only [aa,seval,sN]
 rw [hw]
 (rw [bo];with_reducible refine dA (m:=_) ?_ ⟨i+1,_,rfl,z,⟨rfl,by omega⟩,bO⟩;omega)
theorem zoP (l:List av) (v:ai) (h:Heap) (hl:Sl aG.bind h v l) (hs:l.length<=1000) (aE:∀ y∈l,kZ y=false) (K:aO)
 (hk:∀ h',Ext h h'->K v h'):Ok prog aJ ov 99 [v,.func (.func 101) ⟨[]⟩ ⟨[]⟩] h K:=by
 rw [az h]
 have z:=Ext.refl h
 refine Ok.aF 40 (bY YA) ?_
 repeat' (simp only [aa,seval,YG])
 refine zqF l v _ (hl.lay _ _) hs aE _ (λh' x=>?_)
 (replace z:=z.au x;rw [az h'])
 repeat' (simp only [aa,seval,YG])
 exact hk _ z.aw
theorem zwq (l m:List av) (v u:ai) (h:Heap) (hl:Sl aG.bind h v l) (hm:Sl aG.bind h u m) (hs:l.length<=1000) (FQ:m.length<=1000) (K:aO)
 (hk:∀ h' w,Ext h h'->jF aG.bind h h' 134 w (gm l m)->K w h'):Ok prog aJ ov 100 [v,u] h K:=by
 rw [az h]
 have z:=Ext.refl h
 refine Ok.aF 24 (bY Cq) ?_
 simp only [aa,seval,fI]
 repeat' ((with_reducible refine rF (hl.mono z.inc) dx ?_) <;> simp only [aa,seval,fI])
 obtain ⟨I1,bo⟩:∃ I:Nat->Env->Heap->Prop,I=(λn e h'=>∃ (i:Nat) (w:ai) (A:Nat) (h1:Heap),h'=h1.lay [] h1.low/\Ext h h1/\(n=l.length - i/\i<=l.length/\Ow aG.bind h h1 134 A w (gm (l.take i) m))/\∃ J:Nat->ai,e=(v::u::jr J 2 3 (w::jr J 6 2 (v::.int .i64 l.length::.int .i64 i::jr J 11 15 ([]))))):=⟨_,rfl⟩
 refine fh I1 _ (by rw [bo];exact ⟨0,.slice none 0 0,h.size,_,rfl,z,⟨rfl,by omega,Ow.nil (aQ _)⟩,bO⟩) ?_
 intro n e h' aU
 rw [bo] at aU
 obtain ⟨i,w,A,cF,rfl,z,hinv,J,rfl⟩:=aU
 obtain ⟨rfl,hi,ho⟩:=hinv
 have hw:=gE i (by omega)
 have hz:=z.size
 simp only [aa,seval,fI]
 refine cm (λbc=>?_) (λbc=>?_)
 rotate_left
 .repeat' ( simp only [aa,seval,fI])
  rw [iR (by omega)] at ho
  exact hk _ _ z.aw ⟨_,ho.mono (bP.lay _ _ _)⟩
 obtain ⟨r,hr,cI⟩:=i4 (l:=l) (i:=i) bc
 have fM:=ho.lt
 simp only [aa,seval,fI]
 repeat' ((first|with_reducible refine ya (hl.mono z.inc) dx mx (by omega) hr (λp hp=>?_)|with_reducible refine JY hp G8 mx ?_) <;> simp only [aa,seval,fI,iw,iy,jt,Am.one,iv,fW,Al,av.val,av.cells])
 refine (eF (by simp only [fI])) z.aw ?_
 repeat' (simp only [aa,seval,fI])
 refine ES m u r.term _ ((hm.mono z.inc).lay _ _) FQ _ (λh' x=>?_)
 (((with_reducible refine fP ?_ ?_ ?_);(· exact (by (simp only [gh]);have:=z.size;omega));(· exact x));replace z:=z.au x;replace ho:=ho.over x;rw [az h'])
 simp only [aa,seval,fI,zry,OA,Om]
 refine nL (by have:=z.size;omega) (by omega) ?_
 simp only [cv,seval,fI,lF,Fl]
 have hlen:(gm (l.take i) m).length<=1000:=by unfold gm;rw [gq,gR];omega
 have AP:(h'.lay [aZ.row (av.cells ⟨r.var,b9 m r.term⟩) 134 false] (h'.size+1)).size=h'.size+1:=by rw [br];rfl
 have JS:=z.size
 obtain ⟨jo,mh⟩:=GM (A:=A) (r:=aG.bind) (c:=1) (y:=⟨r.var,b9 m r.term⟩) (by decide) (show (h'.lay [aZ.row (av.cells ⟨r.var,b9 m r.term⟩) 134 false] (h'.size+1)).get (h'.size+0)=some (.row (av.cells ⟨r.var,b9 m r.term⟩) 134 false) by rw [kE];rfl) rfl
 obtain ⟨w',FC,A'',e1,e2,e3,e4,e5⟩:=xc (t:=95) dx zN rfl (by decide) (by rw [AP];omega) (ho.mono (bP.lay _ _ _)) jo mh (by omega) (by omega)
 have FJ:=ho.fresh
 rw [e1]
 simp only [syms,seval]
 refine i3 (A:=A) (by kernel_rfl) (by rw [br];omega) (by omega) (by simpa only [bS,br,bD,eB,dK,i5] using e3) ?_
 replace z:=(z.jK [aZ.row (av.cells ⟨r.var,b9 m r.term⟩) 134 false] (h'.size+1) (by omega)).step e3 FJ
 have kq:gm (l.take (i+1)) m=gm (l.take i) m++[⟨r.var,b9 m r.term⟩]:=by rw [oT,cI];unfold gm;rw [sG];rfl
 rw [<- kq] at e2
 clear ho
 rw [az FC]
 repeat' (first|simp only [aa,seval,fI]|((with_reducible refine ⟨z.cS.lay _ _,?_⟩);(intro _ h' zz x _);(simp only [bS,bD] at x);replace e2:=e2.over x;(replace z:=zz);(clear zz);rw [az h']))
 rw [hw]
 (rw [bo];with_reducible refine dA (m:=_) ?_ ⟨i+1,_,_,_,rfl,z,⟨rfl,by omega,e2⟩,bO⟩;omega)
theorem ztQ (a b:List av) (v u:ai) (h:Heap) (hl:Sl aG.bind h v a) (hm:Sl aG.bind h u b) (hs:a.length<=400) (eE:b.length<=400) (hb:Am.Good b) (K:aO)
 (hk:∀ h' w e,Ext h h'->jF aG.bind h h' 134 w (jq a b)->K (.tuple #[w,.int .i64 e]) h'):Ok prog aJ ov 68 [v,u] h K:=by
 rw [az h]
 have z:=Ext.refl h
 have Ds:=λ(hh:Heap)=>hm.bW dx hh
 refine Ok.aF 44 (bY Yd) ?_
 simp only [aa,seval,qg]
 refine GC a v _ (hl.lay _ _) (by omega) _ (λh' e x he=>?_)
 (replace z:=z.au x;rw [az h'])
 by_cases kP:dX a
 rotate_left
 .have aL:(e != 0)=true:=by simpa using λg=>kP (he.1 g)
  have IC:jq a b=[]:=aA kP
  repeat' (simp only [aa,seval,qg,aL])
  exact hk _ _ _ z.aw (by rw [IC];exact ⟨h.size,Ow.nil (aQ _)⟩)
 obtain rfl:=he.2 kP
 repeat' (simp only [aa,seval,qg,bne_self_eq_false])
 refine GC b u _ ((hm.mono z.inc).lay _ _) (by omega) _ (λh' e x yM=>?_)
 (replace z:=z.au x;rw [az h'])
 obtain rfl:=yM.2 hb.qR
 repeat' (simp only [aa,seval,qg,bne_self_eq_false])
 refine zwq a b v u _ ((hl.mono z.inc).lay _ _) ((hm.mono z.inc).lay _ _) (by omega) (by omega) _ (λh' w x hw=>?_)
 have rh:=z.size
 replace hw:=hw.low (h0':=h) (by rw [br];omega)
 (replace z:=z.au x;rw [az h'])
 repeat' (simp only [aa,seval,qg])
 refine zoP (gm a b) w _ ((hw.sl (by decide)).lay _ _) (by unfold gm;rw [gq];omega) (zBH kP (λy hy=>(hb.ok y hy).1)) _ (λh' x=>?_)
 (replace z:=z.au x;replace hw:=hw.over x;rw [az h'])
 repeat' (simp only [aa,seval,qg,Ds])
 obtain ⟨I1,bo⟩:∃ I:Nat->Env->Heap->Prop,I=(λn e h'=>∃ (i:Nat) (o:ai) (h1:Heap),h'=h1.lay [] h1.low/\Ext h h1/\(n=b.length - i/\i<=b.length/\jF aG.bind h h1 134 o (iO a b i))/\∃ J:Nat->ai,e=(v::u::jr J 2 4 (o::jr J 7 16 (u::.int .i64 b.length::.int .i64 i::jr J 26 20 ([]))))):=⟨_,rfl⟩
 refine fh I1 _ (by rw [bo];exact ⟨0,w,_,rfl,z,⟨rfl,by omega,hw⟩,bO⟩) ?_
 intro n e h' aU
 rw [bo] at aU
 obtain ⟨i,o,cF,rfl,z,hinv,J,rfl⟩:=aU
 clear hw
 obtain ⟨rfl,hi,so⟩:=hinv
 have mF:=gE i (by omega)
 have jd:=WL (a:=a) (b:=b) i
 simp only [aa,seval,qg]
 refine cm (λbc=>?_) (λbc=>?_)
 rotate_left
 .obtain rfl:i=b.length:=by omega
  repeat' (simp only [aa,seval,qg])
  refine GC _ o _ ((so.sl (by decide)).lay _ _) (by omega) _ (λh' e x Nb=>?_)
  (replace z:=z.au x;replace so:=so.over x;rw [az h'])
  by_cases lC:dX (iO a b b.length)
  .obtain rfl:=Nb.2 lC
   have IC:jq a b=iO a b b.length:=by unfold jq;rw [aB kP,aB lC]
   repeat' (simp only [aa,seval,qg,bne_self_eq_false])
   exact hk _ _ _ z.aw (by rw [IC];exact so.lay _ _)
  .have aL:(e != 0)=true:=by simpa using λg=>lC (Nb.1 g)
   have IC:jq a b=[]:=by unfold jq;rw [aB kP,aA lC]
   repeat' (simp only [aa,seval,qg,aL])
   exact hk _ _ _ z.aw (by rw [IC];exact ⟨h.size,Ow.nil (aQ _)⟩)
 obtain ⟨r,hr,cI⟩:=i4 (l:=b) (i:=i) (by omega)
 simp only [aa,seval,qg]
 repeat' ((first|with_reducible refine ya (hm.mono z.inc) dx mx (by omega) hr (λp hp=>?_)|with_reducible refine JY hp G8 mx ?_) <;> simp only [aa,seval,qg,iw,iy,jt,Am.one,iv,fW,Al,av.val,av.cells])
 rcases hg:bx a r.var with ⟨⟨tv,ts⟩,pb⟩
 refine EX a v r.var _ ((hl.mono z.inc).lay _ _) (by omega) _ (λh' x=>?_)
 rw [hg]
 have q0:=ak.top (i:=0) x rfl
 (replace z:=z.au x;replace so:=so.over x;rw [az h'])
 clear hp
 simp only [aa,seval,qg,ay.val,ay.cells]
 cases pb
 .repeat' (first|simp only [aa,seval,qg,iw,iy,jt,Am.one,iv,fW,ij,q0.lay]|((with_reducible apply cK);(· rfl)))
  have ny:=Gh cI (by rw [hg])
  refine zr9 (iO a b i) o r _ ((so.sl (by decide)).lay _ _) (by omega) (VA kP.1 hb.up (by omega)) _ (λh' w2 x pe=>?_)
  have wC:=z.size
  replace pe:=pe.low (h0':=h) (by rw [br];omega)
  (replace z:=z.au x;replace so:=so.over x;replace q0:=q0.over x;rw [az h'])
  clear so
  repeat' (simp only [aa,seval,qg])
  rw [mF]
  (rw [bo];with_reducible refine dA (m:=_) ?_ ⟨i+1,w2,_,rfl,z,⟨rfl,by omega,by rw [ny];exact pe⟩,bO⟩;omega)
 .repeat' (first|simp only [aa,seval,qg,iw,iy,jt,Am.one,iv,fW,ij]|((with_reducible apply cK);(· rfl)))
  have ny:=Gi cI (by rw [hg])
  rw [mF]
  refine Gn z.aw (λH z hO hI=>?_)
  (rw [bo];with_reducible refine dA (m:=_) ?_ ⟨i+1,o,_,rfl,z,⟨rfl,by omega,by rw [ny];exact so.mono hI⟩,bO⟩;omega)
end Go.Proofs.YtnkmeidmdaidhaaGreatDoor
