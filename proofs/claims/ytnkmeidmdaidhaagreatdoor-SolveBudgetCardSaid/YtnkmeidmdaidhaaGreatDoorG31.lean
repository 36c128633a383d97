/- Walks: two atoms made Am.one. Written out by fill2.py. No condition. -/
import Derived.Test.YtnkmeidmdaidhaaGreatDoorG30
set_option linter.unusedSimpArgs false
set_option linter.unusedVariables false
set_option maxRecDepth 100000
set_option maxHeartbeats 0
namespace Go.Proofs.YtnkmeidmdaidhaaGreatDoor
open Go.Am Tryz
variable {l:List av} {v:ai} {h:Heap} {L:Nat} {u:TypeId}
theorem Ek {m:List av} {s:bf} {t:az} (h:jz l s t=some m):m.length=l.length+1:=ZR h
theorem iD.PA {Z:Type} {r:aF Z} {h0 a b:Heap} {e:TypeId} {l:List Z} {D:List Nat} (f:iD r h0 a e v l) (dF:∀ h h' cs x,r.R h cs x->r.R h' cs x) (x:aP D a b) (hD:∀ B∈D,B < h0.size):iD r h0 b e v l:=by
 obtain ⟨A,f⟩:=f
 have aO:∀ B,h0.size<=B->B ∉ D:=λB hB hm=>by have:=hD B hm;omega
 rcases f with ⟨h1,h2,h3⟩|⟨row,h1,h2,h3,h4,h5,h6,h7,h8⟩
 .refine ⟨A,.inl ⟨h1,h2,?_⟩⟩
  rcases h3 with h3|⟨B,o,g1,g2,g3,row,u,ro,g4⟩
  .exact .inl h3
  .exact .inr ⟨B,o,g1,g2,dU g3 x.size,row,u,ro,(x.get B g3 (aO B g2)).trans g4⟩
 .refine ⟨A,.inr ⟨row,h1,h2,h3,dU h4 x.size,(x.get A h4 (aO A h3)).trans h5,h6,h7,λi y hy=>?_⟩⟩
  obtain ⟨cs,c1,c2⟩:=h8 i y hy
  exact ⟨cs,c1,dF _ _ _ _ c2⟩
def pW (u:TypeId) (L:Nat) (h h1:Heap) (v:ai) (l:List av):Prop:=(v=.slice none 0 0/\l=[])\/∃ hb:Heap,L < hb.size/\h.size<=hb.size/\iD aF.bind hb h1 u v l
theorem pW.sl {h1:Heap} (f:pW u L h h1 v l):Sl aF.bind (bm [L] h1) v l:=by
 rcases f with ⟨rfl,rfl⟩|⟨hb,h2,_,A,o⟩
 .exact Sl.nil
 .exact o.bm (λ_ _ _ _ h=>h) (by decide) (λB hB=>by rw [ek.1 hB];exact h2)
theorem pW.aX {a b:Heap} (f:pW u L h a v l) (x:aP [L] a b):pW u L h b v l:=by
 rcases f with f|⟨hb,h2,h3,o⟩
 .exact .inl f
 .exact .inr ⟨hb,h2,h3,iD.PA (r:=aF.bind) o (λ_ _ _ _ h=>h) x (λB hB=>by rw [ek.1 hB];exact h2)⟩
theorem pW.own {h1:Heap} (f:pW u L h h1 v l):iD aF.bind h h1 u v l:=by
 rcases f with ⟨rfl,rfl⟩|⟨hb,_,h3,o⟩
 .exact ⟨h.size,Ow.nil (aS _)⟩
 .exact o.low h3
theorem pW.one {u:TypeId} {L:Nat} {h h1:Heap} {v:ai} {l:List av} (f:pW u L h h1 v l):Am.one v=true:=by
 rcases f.sl with ⟨rfl,_⟩|⟨_,_,_,_,_,_,rfl,_⟩ <;> rfl
theorem Mo (l:List av) (lv:ai) (s:bf) (t:az) (L:Nat) (h hc:Heap) (z:Ext h hc) (hL:h.size<=L) (q:ak hc L (.row [lv] 95 false)) (hl:pW 134 L h hc lv l) (hs:l.length<=900) (K:aL)
 (kh:∀ m,jz l s t=some m->∀ h' w,Ext h h'->aP [L] hc h'->ak h' L (.row [w] 95 false)->pW 134 L h h' w m->K (.bool true) h')
 (yO:jz l s t=none->∀ h',Ext h h'->aP [L] hc h'->ak h' L (.row [lv] 95 false)->K (.bool false) h'):Ok prog aH ov 92 [.string s,t.val,.pointer (some ⟨L,0,none⟩)] hc K:=by
 have cg:=aP.refl [L] hc
 rw [aq hc]
 have B7:∀ (h:Heap) (K:aL),aK (some lv) h K=K lv h:=λ_ _=>rfl
 have GM:cut t.cells 0 2=some t.cells:=rfl
 refine Ok.aC 17 (bH We) ?_
 repeat' (simp only [aa,seval,KP,Jn,q.lay,B7,↓GM,CM,zF])
 refine zw2 l lv s t _ ((hl.sl.mono (rY _ _)).lay _ _) hs _ (λh' w e x hn eX=>?_)
 have hqL:=q.lt
 have hcz:=z.size
 (replace z:=z.ao x;replace q:=q.over x;replace cg:=cg.over x;rw [aq h'])
 have ub:∀ (h:Heap) (K:aL),aK (some w) h K=K w h:=λ_ _=>rfl
 cases hb:jz l s t with
 |none =>
  have he:=hn hb
  have tj:(e == 0)=false:=by simpa using he
  repeat' (simp only [aa,seval,KP,ub,tj])
  exact yO hb _ z.aw (cg.trans (aP.lay _ _ _ []) (λ_ h=>nomatch h)) (q.on _ _)
 |some m =>
  obtain ⟨he,hw⟩:=eX m hb
  subst he
  have ho:pW 134 L h h' w m:=.inr ⟨_,by rw [bo];exact dU hqL (by omega),by rw [bo];omega,hw⟩
  have xo:=ho.one
  have yV:w.cells.toList=[w]:=Mu ho.sl
  repeat' (simp only [aa,seval,KP,ub])
  refine iH (n:=1) (o:=0) (vs:=[w]) q (by kernel_rfl) yV rfl (by simp) (by simp [xo]) (λh9 q' c=>?_)
  replace q':ak h9 L (.row [w] 95 false):=q'
  have fr:aP [L] h' h9:=(aP.lay h' [] h'.low [L]).trans (fW.aX c (by simp:L∈[L])) (λB hB=>.inl hB)
  have hk9:=ho.aX fr
  replace cg:=cg.ec c (.inl (by simp))
  replace z:=z.bY c hL (by omega)
  clear q
  rw [aq h9]
  repeat' (simp only [aa,seval,KP])
  exact kh m hb _ w z.aw (cg.trans (aP.lay _ _ _ []) (λ_ h=>nomatch h)) (q'.on _ _) (hk9.aX (aP.lay h9 _ _ [L]))
theorem zyw {a b:ae} (h:lM a b=true):b.says=a.says/\b.pred=a.pred/\b.n=a.n/\0<=a.n/\a.n<=4:=by
 unfold lM at h
 simp only [dj,iC] at h
 exact ⟨h.1.symm,h.2.1.symm,h.2.2.1.symm,h.2.2.2.1,h.2.2.2.2⟩
theorem zou {a b:ae}:∀ {k:Nat} {l:List av},n7 a b k=some l->l.length<=k
 |0,l,h=>by cases h;simp
 |k+1,l,h=>by
  cases hu:n7 a b k with
  |none=>rw [L5 (by omega) hu] at h;cases h
  |some l0 =>
   have h0:=zou hu
   rw [Tq hu] at h
   unfold Fi at h
   split at h
   .cases h;omega
   split at h
   .have:=Ek h;omega
   split at h
   .have:=Ek h;omega
   .cases h
theorem zxR (a:ae):a.cells[0]? = some (.string a.says):=rfl
theorem zxS (a:ae):a.cells[1]? = some (.string a.pred):=rfl
theorem zxT (a:ae):a.cells[2]? = some (.int .i64 a.n):=rfl
theorem zw9 (a b:ae) (h:Heap) (K:aL)
 (yO:nZ a b=none->∀ h' w,Ext h h'->K (.tuple #[w,.bool false]) h')
 (kh:∀ l,nZ a b=some l->∀ h' w,Ext h h'->iD aF.bind h h' 134 w l->K (.tuple #[w,.bool true]) h'):Ok prog aH ov 60 [a.val,b.val] h K:=by
 rw [aq h]
 have z:=Ext.refl h
 have fS:∀ (s:bf) (h:Heap) (K:aL),aK (some (.string s)) h K=K (.string s) h:=λ_ _ _=>rfl
 have Xs:∀ (n:Int) (h:Heap) (K:aL),aK (some (.int .i64 n)) h K=K (.int .i64 n) h:=λ_ _ _=>rfl
 refine Ok.aC 93 (bH VO) ?_
 by_cases oo:lM a b=true
 rotate_left
 .have ni:nZ a b=none:=aA oo
  repeat' (first|simp only [aa,seval,i5,iB,zxR,zxS,zxT,fS,Xs]|((with_reducible first|apply b9|apply se) <;> intro _))
  all_goals try exact yO ni _ _ z.aw
  refine absurd ?_ oo
  unfold lM
  simp only [dj,iC]
  exact ⟨Decidable.not_not.1 (by assumption),Decidable.not_not.1 (by assumption),by assumption,by omega,by omega⟩
 .obtain ⟨e1,e2,e3,e4,e5⟩:=zyw oo
  repeat' (first|simp only [aa,seval,i5,iB,zxR,zxS,zxT,fS,Xs,e1,e2,e3]|((with_reducible first|apply b9|apply se) <;> intro _))
  all_goals first|(exfalso;omega)|(exfalso;exact absurd rfl (by assumption))|skip
  refine r6 (λh' x hq=>?_)
  have q0:=hq 0 _ rfl
  have q1:=hq 1 _ rfl
  have q2:=hq 2 _ rfl
  clear hq
  (replace z:=z.ao x;rw [aq h'])
  obtain ⟨m,hm⟩:∃ m:Nat,a.n=m:=⟨a.n.toNat,by omega⟩
  rw [hm]
  have po:=z.size
  obtain ⟨A0,gO⟩:∃ A0,A0=h.size+0:=⟨_,rfl⟩
  obtain ⟨A1,lS⟩:∃ A1,A1=h.size+1:=⟨_,rfl⟩
  obtain ⟨L,hL⟩:∃ L,L=h.size+2:=⟨_,rfl⟩
  rw [<- gO] at q0
  rw [<- lS] at q1
  rw [<- hL] at q2
  rw [<- gO,<- lS,<- hL]
  obtain ⟨I1,aY⟩:∃ I:Nat->Env->Heap->Prop,I=(λn e h'=>∃ (i:Nat) (l:List av) (lv:ai) (h1:Heap),h'=h1.lay [] h1.low/\Ext h h1/\(n=m - i/\i<=m/\n7 a b i=some l/\ak h1 A0 (.row a.cells 28 false)/\ak h1 A1 (.row b.cells 28 false)/\ak h1 L (.row [lv] 95 false)/\pW 134 L h h1 lv l)/\∃ J:Nat->ai,e=(jr J 0 2 (.pointer (some ⟨A0,0,none⟩)::.pointer (some ⟨A1,0,none⟩)::jr J 4 2 (.pointer (some ⟨L,0,none⟩)::.func (.func 92) ⟨[]⟩ ⟨[.pointer (some ⟨L,0,none⟩)]⟩::jr J 8 35 (.int .i64 m::.int .i64 i::jr J 45 50 ([])))))):=⟨_,rfl⟩
  refine dV I1 _ (by rw [aY];exact ⟨0,[],.slice none 0 0,_,rfl,z,⟨rfl,by omega,rfl,q0,q1,q2,.inl ⟨rfl,rfl⟩⟩,bw⟩) ?_
  intro n e h' aT
  rw [aY] at aT
  obtain ⟨i,l,lv,bW,rfl,z,hinv,J,rfl⟩:=aT
  clear q0 q1 q2
  obtain ⟨rfl,hi,hu,q0,q1,q2,sl⟩:=hinv
  have hw:=fe i (by omega)
  have B7:∀ (h:Heap) (K:aL),aK (some lv) h K=K lv h:=λ_ _=>rfl
  have tz:=zou hu
  have hz:=z.size
  have vE:=sl.sl.mono (rY _ _)
  have cg:=aP.refl [L] bW
  have K1:h.size<=L:=by omega
  simp only [aa,seval,i5]
  refine b9 (λaW=>?_) (λaW=>?_)
  rotate_left
  .have he:i=m:=by omega
   subst he
   have hud:nZ a b=some l:=by
    unfold nZ
    rw [aG oo,show a.n.toNat=i by omega,hu]
   repeat' (simp only [aa,seval,i5,q2.lay,B7])
   exact kh l hud _ _ z.aw (sl.own.lay _ _)
  have lY:(0:Int)<=(i:Int)/\(i:Int) < 4:=by omega
  have kj:=JN a i (by omega)
  have nh:=JN b i (by omega)
  simp only [aa,seval,i5]
  with_reducible first|refine dO (by simp only [i5]) z.aw ?_
  simp only [aa,seval,i5,q0.lay,q2.lay,B7,lY,↓kj,CM,zF]
  refine C0 l lv (a.arg i) _ (vE.lay _ _) (by omega) _ (λh' x=>?_)
  (((with_reducible refine fC ?_ ?_ ?_);(· exact (by (simp only [fT]);have:=z.size;omega));(· exact x));replace z:=z.ao x;replace q0:=q0.over x;replace q1:=q1.over x;replace q2:=q2.over x;replace cg:=cg.over x;replace vE:=vE.over x;rw [aq h'])
  simp only [aa,seval,i5,q1.lay,q2.lay,B7,lY,↓nh,CM,zF]
  refine C0 l lv (b.arg i) _ (vE.lay _ _) (by omega) _ (λh' x=>?_)
  (((with_reducible refine fC ?_ ?_ ?_);(· exact (by (simp only [fT]);have:=z.size;omega));(· exact x));replace z:=z.ao x;replace q0:=q0.over x;replace q1:=q1.over x;replace q2:=q2.over x;replace cg:=cg.over x;replace vE:=vE.over x;rw [aq h'])
  simp only [aa,seval,i5]
  obtain ⟨x0,D2⟩:∃ x0,x0=ep l (a.arg i):=⟨_,rfl⟩
  obtain ⟨y0,HL⟩:∃ y0,y0=ep l (b.arg i):=⟨_,rfl⟩
  rw [<- D2,<- HL]
  obtain ⟨xv,xs⟩:=x0
  obtain ⟨yv,ys⟩:=y0
  refine kO (by have:=z.size;omega) (by omega) ?_
  simp only [aa,seval,i5,az.val,az.cells]
  refine zmI (by simp) (by have:=z.size;omega) (by simp) ?_
  simp only [aa,seval,i5,gy,gA,il,Am.one,gv,eA,gh]
  refine vJ (by kernel_rfl) (by simp) (by have:=z.size;omega) ?_
  simp only [aa,seval,i5,gy,gA,il,Am.one,gv,eA,yo,gh]
  refine vJ (by kernel_rfl) (by simp) (by have:=z.size;omega) ?_
  simp only [bM,seval,i5]
  ((with_reducible refine ⟨z.cI.lay _ _,?_⟩);(intro _ h' zz x _);(simp only [bK,bu] at x);replace q0:=q0.over x;replace q1:=q1.over x;replace q2:=q2.over x;replace cg:=cg.over x;replace vE:=vE.over x;(replace z:=zz);(clear zz);rw [aq h'])
  have q3:=ak.top (i:=0) x rfl
  have q4:=ak.top (i:=1) x rfl
  clear x
  have qp:n7 a b (i+1)=Fi l ⟨xv,xs⟩ ⟨yv,ys⟩:=by rw [Tq hu,<- D2,<- HL]
  have gx:∀ h',aP [L] bW h'->pW 134 L h h' lv l:=λh' f=>sl.aX f
  have tZ:n7 a b (i+1)=none->nZ a b=none:=λe=>by
   unfold nZ
   rw [aG oo]
   exact L5 (by omega) e
  repeat' (first|simp only [aa,seval,i5,q3.lay,q4.lay,zku]|((with_reducible apply b9) <;> intro _)|((with_reducible apply cn);(· rfl)))
  .have Rz:n7 a b (i+1)=some l:=qp.trans (aG (by assumption))
   rw [hw]
   (rw [aY];with_reducible refine cR (m:=_) ?_ ⟨i+1,l,lv,_,rfl,z,⟨rfl,by omega,Rz,q0,q1,q2,gx _ cg⟩,bw⟩;omega)
  have iV:n7 a b (i+1)=if xv=true/\(yv=false\/slt ys xs=true) then jz l xs ⟨yv,ys⟩ else if yv=true then jz l ys ⟨xv,xs⟩ else none:=qp.trans (aA (by assumption))
  clear qp
  cases xv <;> cases yv
  .rw [aA (by simp),aA (by simp)] at iV
   repeat' (first|simp only [aa,seval,i5,q4.lay]|((with_reducible apply cn);(· rfl)))
   exact yO (tZ iV) _ _ z.aw
  .rw [aA (by simp),aG rfl] at iV
   repeat' (simp only [aa,seval,i5,q3.lay,q4.lay,fS])
   rw [CK]
   refine Mo l lv ys ⟨false,xs⟩ L h _ z.aw K1 (q2.on _ _) (gx _ (cg.trans (aP.lay _ _ _ []) (λ_ h=>nomatch h))) (by omega) _ (λmm hb h' w z2 nz m7 Cs=>?_) (λhb h' z2 nz m7=>?_)
   .replace q0:=(q0.on _ _).aX nz (by simp;omega)
    replace q1:=(q1.on _ _).aX nz (by simp;omega)
    clear z q2
    have z:=z2
    rw [aq h']
    repeat' (first|simp only [aa,seval,i5]|((with_reducible apply cn);(· rfl)))
    rw [hw]
    (rw [aY];with_reducible refine cR (m:=_) ?_ ⟨i+1,mm,w,_,rfl,z,⟨rfl,by omega,iV.trans hb,q0,q1,m7,Cs⟩,bw⟩;omega)
   .clear z
    have z:=z2
    rw [aq h']
    repeat' (first|simp only [aa,seval,i5]|((with_reducible apply cn);(· rfl)))
    exact yO (tZ (iV.trans hb)) _ _ z.aw
  .rw [aG (by simp)] at iV
   repeat' (first|simp only [aa,seval,i5,q3.lay,q4.lay,fS]|((with_reducible apply cn);(· rfl)))
   rw [CK]
   refine Mo l lv xs ⟨false,ys⟩ L h _ z.aw K1 (q2.on _ _) (gx _ (cg.trans (aP.lay _ _ _ []) (λ_ h=>nomatch h))) (by omega) _ (λmm hb h' w z2 nz m7 Cs=>?_) (λhb h' z2 nz m7=>?_)
   .replace q0:=(q0.on _ _).aX nz (by simp;omega)
    replace q1:=(q1.on _ _).aX nz (by simp;omega)
    clear z q2
    have z:=z2
    rw [aq h']
    repeat' (first|simp only [aa,seval,i5]|((with_reducible apply cn);(· rfl)))
    rw [hw]
    (rw [aY];with_reducible refine cR (m:=_) ?_ ⟨i+1,mm,w,_,rfl,z,⟨rfl,by omega,iV.trans hb,q0,q1,m7,Cs⟩,bw⟩;omega)
   .clear z
    have z:=z2
    rw [aq h']
    repeat' (first|simp only [aa,seval,i5]|((with_reducible apply cn);(· rfl)))
    exact yO (tZ (iV.trans hb)) _ _ z.aw
  .repeat' (first|simp only [aa,seval,i5,q3.lay,q4.lay,fS,zt8]|((with_reducible apply cn);(· rfl)))
   cases Xp:slt ys xs
   .rw [aA (by simp [Xp]),aG rfl] at iV
    repeat' (simp only [aa,seval,i5,q3.lay,q4.lay,fS])
    rw [CK]
    refine Mo l lv ys ⟨true,xs⟩ L h _ z.aw K1 (q2.on _ _) (gx _ (cg.trans (aP.lay _ _ _ []) (λ_ h=>nomatch h))) (by omega) _ (λmm hb h' w z2 nz m7 Cs=>?_) (λhb h' z2 nz m7=>?_)
    .replace q0:=(q0.on _ _).aX nz (by simp;omega)
     replace q1:=(q1.on _ _).aX nz (by simp;omega)
     clear z q2
     have z:=z2
     rw [aq h']
     repeat' (first|simp only [aa,seval,i5]|((with_reducible apply cn);(· rfl)))
     rw [hw]
     (rw [aY];with_reducible refine cR (m:=_) ?_ ⟨i+1,mm,w,_,rfl,z,⟨rfl,by omega,iV.trans hb,q0,q1,m7,Cs⟩,bw⟩;omega)
    .clear z
     have z:=z2
     rw [aq h']
     repeat' (first|simp only [aa,seval,i5]|((with_reducible apply cn);(· rfl)))
     exact yO (tZ (iV.trans hb)) _ _ z.aw
   .rw [aG (by simp [Xp])] at iV
    repeat' (simp only [aa,seval,i5,q3.lay,q4.lay,fS])
    rw [CK]
    refine Mo l lv xs ⟨true,ys⟩ L h _ z.aw K1 (q2.on _ _) (gx _ (cg.trans (aP.lay _ _ _ []) (λ_ h=>nomatch h))) (by omega) _ (λmm hb h' w z2 nz m7 Cs=>?_) (λhb h' z2 nz m7=>?_)
    .replace q0:=(q0.on _ _).aX nz (by simp;omega)
     replace q1:=(q1.on _ _).aX nz (by simp;omega)
     clear z q2
     have z:=z2
     rw [aq h']
     repeat' (first|simp only [aa,seval,i5]|((with_reducible apply cn);(· rfl)))
     rw [hw]
     (rw [aY];with_reducible refine cR (m:=_) ?_ ⟨i+1,mm,w,_,rfl,z,⟨rfl,by omega,iV.trans hb,q0,q1,m7,Cs⟩,bw⟩;omega)
    .clear z
     have z:=z2
     rw [aq h']
     repeat' (first|simp only [aa,seval,i5]|((with_reducible apply cn);(· rfl)))
     exact yO (tZ (iV.trans hb)) _ _ z.aw
theorem zpM (l:List av) (v:ai) (h:Heap) (hl:Sl aF.bind h v l) (hs:l.length<=1000) (aD:∀ y∈l,lG y=false) (K:aL)
 (hk:∀ h',Ext h h'->K (.int .i64 (-1)) h'):Ok prog aH ov 127 [v,.func (.func 101) ⟨[]⟩ ⟨[]⟩] h K:=by
 rw [aq h]
 have z:=Ext.refl h
 have dG:=λ(hh:Heap)=>hl.bP cU hh
 refine Ok.aC 17 (bH FF) ?_
 simp only [aa,seval,qM,dG]
 obtain ⟨I1,aY⟩:∃ I:Nat->Env->Heap->Prop,I=(λn e h'=>∃ (i:Nat) (h1:Heap),h'=h1.lay [] h1.low/\Ext h h1/\(n=l.length - i/\i<=l.length)/\∃ J:Nat->ai,e=(v::.func (.func 101) ⟨[]⟩ ⟨[]⟩::jr J 2 4 (v::.int .i64 l.length::.int .i64 i::jr J 9 10 ([])))):=⟨_,rfl⟩
 refine dV I1 _ (by rw [aY];exact ⟨0,_,rfl,z,⟨rfl,by omega⟩,bw⟩) ?_
 intro n e h' aT
 rw [aY] at aT
 obtain ⟨i,bW,rfl,z,hinv,J,rfl⟩:=aT
 obtain ⟨rfl,hi⟩:=hinv
 have hw:=fe i (by omega)
 simp only [aa,seval,qM]
 refine b9 (λaW=>?_) (λaW=>?_)
 rotate_left
 .repeat' ( simp only [aa,seval,qM])
  exact hk _ z.aw
 obtain ⟨r,hr,cv⟩:=ig (l:=l) (i:=i) aW
 have hrf:=aD r (fV cv)
 simp only [aa,seval,qM]
 repeat' ((first|with_reducible refine vU (hl.mono z.inc) cU kW (by omega) hr (λp hp=>?_)|with_reducible refine HW hp Fe kW ?_) <;> simp only [aa,seval,qM])
 refine UE r _ _ (λh' x=>?_)
 (replace z:=z.ao x;rw [aq h'])
 clear hp
 rw [hrf]
 simp only [aa,seval,qM]
 rw [hw]
 (rw [aY];with_reducible refine cR (m:=_) ?_ ⟨i+1,_,rfl,z,⟨rfl,by omega⟩,bw⟩;omega)
theorem znR (l:List av) (v:ai) (h:Heap) (hl:Sl aF.bind h v l) (hs:l.length<=1000) (aD:∀ y∈l,lG y=false) (K:aL)
 (hk:∀ h',Ext h h'->K v h'):Ok prog aH ov 99 [v,.func (.func 101) ⟨[]⟩ ⟨[]⟩] h K:=by
 rw [aq h]
 have z:=Ext.refl h
 refine Ok.aC 40 (bH Wk) ?_
 repeat' (simp only [aa,seval,Ws])
 refine zpM l v _ (hl.lay _ _) hs aD _ (λh' x=>?_)
 (replace z:=z.ao x;rw [aq h'])
 repeat' (simp only [aa,seval,Ws])
 exact hk _ z.aw
theorem zvs (l m:List av) (v u:ai) (h:Heap) (hl:Sl aF.bind h v l) (hm:Sl aF.bind h u m) (hs:l.length<=1000) (DZ:m.length<=1000) (K:aL)
 (hk:∀ h' w,Ext h h'->iD aF.bind h h' 134 w (hY l m)->K w h'):Ok prog aH ov 100 [v,u] h K:=by
 rw [aq h]
 have z:=Ext.refl h
 refine Ok.aC 24 (bH Ag) ?_
 simp only [aa,seval,eI]
 repeat' ((with_reducible refine pG (hl.mono z.inc) cU ?_) <;> simp only [aa,seval,eI])
 obtain ⟨I1,aY⟩:∃ I:Nat->Env->Heap->Prop,I=(λn e h'=>∃ (i:Nat) (w:ai) (A:Nat) (h1:Heap),h'=h1.lay [] h1.low/\Ext h h1/\(n=l.length - i/\i<=l.length/\Ow aF.bind h h1 134 A w (hY (l.take i) m))/\∃ J:Nat->ai,e=(v::u::jr J 2 3 (w::jr J 6 2 (v::.int .i64 l.length::.int .i64 i::jr J 11 15 ([]))))):=⟨_,rfl⟩
 refine dV I1 _ (by rw [aY];exact ⟨0,.slice none 0 0,h.size,_,rfl,z,⟨rfl,by omega,Ow.nil (aS _)⟩,bw⟩) ?_
 intro n e h' aT
 rw [aY] at aT
 obtain ⟨i,w,A,bW,rfl,z,hinv,J,rfl⟩:=aT
 obtain ⟨rfl,hi,ho⟩:=hinv
 have hw:=fe i (by omega)
 have hz:=z.size
 simp only [aa,seval,eI]
 refine b9 (λaW=>?_) (λaW=>?_)
 rotate_left
 .repeat' ( simp only [aa,seval,eI])
  rw [iK (by omega)] at ho
  exact hk _ _ z.aw ⟨_,ho.mono (bQ.lay _ _ _)⟩
 obtain ⟨r,hr,cv⟩:=ig (l:=l) (i:=i) aW
 have eM:=ho.lt
 simp only [aa,seval,eI]
 repeat' ((first|with_reducible refine vU (hl.mono z.inc) cU kW (by omega) hr (λp hp=>?_)|with_reducible refine HW hp Fe kW ?_) <;> simp only [aa,seval,eI,gy,gA,il,Am.one,gv,eA,yr,av.val,av.cells])
 refine (dO (by simp only [eI])) z.aw ?_
 repeat' (simp only [aa,seval,eI])
 refine C0 m u r.term _ ((hm.mono z.inc).lay _ _) DZ _ (λh' x=>?_)
 (((with_reducible refine fC ?_ ?_ ?_);(· exact (by (simp only [fT]);have:=z.size;omega));(· exact x));replace z:=z.ao x;replace ho:=ho.over x;rw [aq h'])
 simp only [aa,seval,eI,zqH,Mi,Mj]
 refine kO (by have:=z.size;omega) (by omega) ?_
 simp only [bM,seval,eI,j4,Dy]
 have hlen:(hY (l.take i) m).length<=1000:=by unfold hY;rw [fN,hZ];omega
 have AU:(h'.lay [bc.row (av.cells ⟨r.var,ep m r.term⟩) 134 false] (h'.size+1)).size=h'.size+1:=by rw [bo];rfl
 have HP:=z.size
 obtain ⟨mQ,kC⟩:=EE (A:=A) (r:=aF.bind) (c:=1) (y:=⟨r.var,ep m r.term⟩) (by decide) (show (h'.lay [bc.row (av.cells ⟨r.var,ep m r.term⟩) 134 false] (h'.size+1)).get (h'.size+0)=some (.row (av.cells ⟨r.var,ep m r.term⟩) 134 false) by rw [kM];rfl) rfl
 obtain ⟨w',DL,A'',e1,e2,e3,e4,e5⟩:=uS (t:=95) cU xX rfl (by decide) (by rw [AU];omega) (ho.mono (bQ.lay _ _ _)) mQ kC (by omega) (by omega)
 have DR:=ho.fresh
 rw [e1]
 simp only [syms,seval]
 refine gR (A:=A) (by kernel_rfl) (by rw [bo];omega) (by omega) (by simpa only [bK,bo,bu,dB,cW,ia] using e3) ?_
 replace z:=(z.iG [bc.row (av.cells ⟨r.var,ep m r.term⟩) 134 false] (h'.size+1) (by omega)).step e3 DR
 have mT:hY (l.take (i+1)) m=hY (l.take i) m++[⟨r.var,ep m r.term⟩]:=by rw [od,cv];unfold hY;rw [rM];rfl
 rw [<- mT] at e2
 clear ho
 rw [aq DL]
 repeat' (first|simp only [aa,seval,eI]|((with_reducible refine ⟨z.cI.lay _ _,?_⟩);(intro _ h' zz x _);(simp only [bK,bu] at x);replace e2:=e2.over x;(replace z:=zz);(clear zz);rw [aq h']))
 rw [hw]
 (rw [aY];with_reducible refine cR (m:=_) ?_ ⟨i+1,_,_,_,rfl,z,⟨rfl,by omega,e2⟩,bw⟩;omega)
theorem zsT (a b:List av) (v u:ai) (h:Heap) (hl:Sl aF.bind h v a) (hm:Sl aF.bind h u b) (hs:a.length<=400) (eX:b.length<=400) (hb:Am.Good b) (K:aL)
 (hk:∀ h' w e,Ext h h'->iD aF.bind h h' 134 w (kQ a b)->K (.tuple #[w,.int .i64 e]) h'):Ok prog aH ov 68 [v,u] h K:=by
 rw [aq h]
 have z:=Ext.refl h
 have yZ:=λ(hh:Heap)=>hm.bP cU hh
 refine Ok.aC 44 (bH VX) ?_
 simp only [aa,seval,oh]
 refine Ey a v _ (hl.lay _ _) (by omega) _ (λh' e x he=>?_)
 (replace z:=z.ao x;rw [aq h'])
 by_cases kj:kb a
 rotate_left
 .have aO:(e != 0)=true:=by simpa using λg=>kj (he.1 g)
  have GK:kQ a b=[]:=aA kj
  repeat' (simp only [aa,seval,oh,aO])
  exact hk _ _ _ z.aw (by rw [GK];exact ⟨h.size,Ow.nil (aS _)⟩)
 obtain rfl:=he.2 kj
 repeat' (simp only [aa,seval,oh,bne_self_eq_false])
 refine Ey b u _ ((hm.mono z.inc).lay _ _) (by omega) _ (λh' e x wT=>?_)
 (replace z:=z.ao x;rw [aq h'])
 obtain rfl:=wT.2 hb.Wt
 repeat' (simp only [aa,seval,oh,bne_self_eq_false])
 refine zvs a b v u _ ((hl.mono z.inc).lay _ _) ((hm.mono z.inc).lay _ _) (by omega) (by omega) _ (λh' w x hw=>?_)
 have pq:=z.size
 replace hw:=hw.low (h0':=h) (by rw [bo];omega)
 (replace z:=z.ao x;rw [aq h'])
 repeat' (simp only [aa,seval,oh])
 refine znR (hY a b) w _ ((hw.sl (by decide)).lay _ _) (by unfold hY;rw [fN];omega) (zAB kj (λy hy=>(hb.ok y hy).1)) _ (λh' x=>?_)
 (replace z:=z.ao x;replace hw:=hw.over x;rw [aq h'])
 repeat' (simp only [aa,seval,oh,yZ])
 obtain ⟨I1,aY⟩:∃ I:Nat->Env->Heap->Prop,I=(λn e h'=>∃ (i:Nat) (o:ai) (h1:Heap),h'=h1.lay [] h1.low/\Ext h h1/\(n=b.length - i/\i<=b.length/\iD aF.bind h h1 134 o (iI a b i))/\∃ J:Nat->ai,e=(v::u::jr J 2 4 (o::jr J 7 16 (u::.int .i64 b.length::.int .i64 i::jr J 26 20 ([]))))):=⟨_,rfl⟩
 refine dV I1 _ (by rw [aY];exact ⟨0,w,_,rfl,z,⟨rfl,by omega,hw⟩,bw⟩) ?_
 intro n e h' aT
 rw [aY] at aT
 obtain ⟨i,o,bW,rfl,z,hinv,J,rfl⟩:=aT
 clear hw
 obtain ⟨rfl,hi,so⟩:=hinv
 have jx:=fe i (by omega)
 have kn:=Up (a:=a) (b:=b) i
 simp only [aa,seval,oh]
 refine b9 (λaW=>?_) (λaW=>?_)
 rotate_left
 .obtain rfl:i=b.length:=by omega
  repeat' (simp only [aa,seval,oh])
  refine Ey _ o _ ((so.sl (by decide)).lay _ _) (by omega) _ (λh' e x K9=>?_)
  (replace z:=z.ao x;replace so:=so.over x;rw [aq h'])
  by_cases qR:kb (iI a b b.length)
  .obtain rfl:=K9.2 qR
   have GK:kQ a b=iI a b b.length:=by unfold kQ;rw [aG kj,aG qR]
   repeat' (simp only [aa,seval,oh,bne_self_eq_false])
   exact hk _ _ _ z.aw (by rw [GK];exact so.lay _ _)
  .have aO:(e != 0)=true:=by simpa using λg=>qR (K9.1 g)
   have GK:kQ a b=[]:=by unfold kQ;rw [aG kj,aA qR]
   repeat' (simp only [aa,seval,oh,aO])
   exact hk _ _ _ z.aw (by rw [GK];exact ⟨h.size,Ow.nil (aS _)⟩)
 obtain ⟨r,hr,cv⟩:=ig (l:=b) (i:=i) (by omega)
 simp only [aa,seval,oh]
 repeat' ((first|with_reducible refine vU (hm.mono z.inc) cU kW (by omega) hr (λp hp=>?_)|with_reducible refine HW hp Fe kW ?_) <;> simp only [aa,seval,oh,gy,gA,il,Am.one,gv,eA,yr,av.val,av.cells])
 rcases hg:df a r.var with ⟨⟨tv,ts⟩,pb⟩
 refine Df a v r.var _ ((hl.mono z.inc).lay _ _) (by omega) _ (λh' x=>?_)
 rw [hg]
 have q0:=ak.top (i:=0) x rfl
 (replace z:=z.ao x;replace so:=so.over x;rw [aq h'])
 clear hp
 simp only [aa,seval,oh,az.val,az.cells]
 cases pb
 .repeat' (first|simp only [aa,seval,oh,gy,gA,il,Am.one,gv,eA,gh,q0.lay]|((with_reducible apply cn);(· rfl)))
  have oZ:=L7 cv (by rw [hg])
  refine zrl (iI a b i) o r _ ((so.sl (by decide)).lay _ _) (by omega) (Z5 kj.1 hb.up (by omega)) _ (λh' w2 x jL=>?_)
  have uh:=z.size
  replace jL:=jL.low (h0':=h) (by rw [bo];omega)
  (replace z:=z.ao x;replace so:=so.over x;replace q0:=q0.over x;rw [aq h'])
  clear so
  repeat' (simp only [aa,seval,oh])
  rw [jx]
  (rw [aY];with_reducible refine cR (m:=_) ?_ ⟨i+1,w2,_,rfl,z,⟨rfl,by omega,by rw [oZ];exact jL⟩,bw⟩;omega)
 .repeat' (first|simp only [aa,seval,oh,gy,gA,il,Am.one,gv,eA,gh]|((with_reducible apply cn);(· rfl)))
  have oZ:=L8 cv (by rw [hg])
  rw [jx]
  refine Es z.aw (λH z hO hI=>?_)
  (rw [aY];with_reducible refine cR (m:=_) ?_ ⟨i+1,o,_,rfl,z,⟨rfl,by omega,by rw [oZ];exact so.mono hI⟩,bw⟩;omega)
end Go.Proofs.YtnkmeidmdaidhaaGreatDoor
