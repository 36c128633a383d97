/- Walks: two atoms made Am.one. Written out by fill2.py. No condition. -/
import Derived.Test.YtnkmeidmdaidhaaGreatDoorG28
set_option linter.unusedSimpArgs false
set_option linter.unusedVariables false
set_option maxRecDepth 100000
set_option maxHeartbeats 0
namespace Go.Proofs.YtnkmeidmdaidhaaGreatDoor
open Go.Am Tryz
variable {l:List au} {v:ai} {h:Heap} {L:Nat} {u:TypeId}
theorem Hy {m:List au} {s:aU} {t:ay} (h:jW l s t=some m):m.length=l.length+1:=zib h
theorem jX.TC {Z:Type} {r:aC Z} {h0 a b:Heap} {e:TypeId} {l:List Z} {D:List Nat} (f:jX r h0 a e v l) (ef:∀ h h' cs x,r.R h cs x->r.R h' cs x) (x:aS D a b) (hD:∀ B∈D,B < h0.size):jX r h0 b e v l:=by
 obtain ⟨A,f⟩:=f
 have aM:∀ B,h0.size<=B->B ∉ D:=λB hB hm=>by have:=hD B hm;omega
 rcases f with ⟨h1,h2,h3⟩|⟨row,h1,h2,h3,h4,h5,h6,h7,h8⟩
 .refine ⟨A,.inl ⟨h1,h2,?_⟩⟩
  rcases h3 with h3|⟨B,o,g1,g2,g3,row,u,ro,g4⟩
  .exact .inl h3
  .exact .inr ⟨B,o,g1,g2,dr g3 x.size,row,u,ro,(x.get B g3 (aM B g2)).trans g4⟩
 .refine ⟨A,.inr ⟨row,h1,h2,h3,dr h4 x.size,(x.get A h4 (aM A h3)).trans h5,h6,h7,λi y hy=>?_⟩⟩
  obtain ⟨cs,c1,c2⟩:=h8 i y hy
  exact ⟨cs,c1,ef _ _ _ _ c2⟩
def sx (u:TypeId) (L:Nat) (h h1:Heap) (v:ai) (l:List au):Prop:=(v=.slice none 0 0/\l=[])\/∃ hb:Heap,L < hb.size/\h.size<=hb.size/\jX aC.bind hb h1 u v l
theorem sx.sl {h1:Heap} (f:sx u L h h1 v l):Sl aC.bind (bq [L] h1) v l:=by
 rcases f with ⟨rfl,rfl⟩|⟨hb,h2,_,A,o⟩
 .exact Sl.nil
 .exact o.bq (λ_ _ _ _ h=>h) (by decide) (λB hB=>by rw [ep.1 hB];exact h2)
theorem sx.bf {a b:Heap} (f:sx u L h a v l) (x:aS [L] a b):sx u L h b v l:=by
 rcases f with f|⟨hb,h2,h3,o⟩
 .exact .inl f
 .exact .inr ⟨hb,h2,h3,jX.TC (r:=aC.bind) o (λ_ _ _ _ h=>h) x (λB hB=>by rw [ep.1 hB];exact h2)⟩
theorem sx.own {h1:Heap} (f:sx u L h h1 v l):jX aC.bind h h1 u v l:=by
 rcases f with ⟨rfl,rfl⟩|⟨hb,_,h3,o⟩
 .exact ⟨h.size,Ow.nil (aR _)⟩
 .exact o.low h3
theorem sx.one {u:TypeId} {L:Nat} {h h1:Heap} {v:ai} {l:List au} (f:sx u L h h1 v l):Am.one v=true:=by
 rcases f.sl with ⟨rfl,_⟩|⟨_,_,_,_,_,_,rfl,_⟩ <;> rfl
theorem P5 (l:List au) (lv:ai) (s:aU) (t:ay) (L:Nat) (h hc:Heap) (z:Ext h hc) (hL:h.size<=L) (q:Holds hc L (.row [lv] 95 false)) (hl:sx 134 L h hc lv l) (hs:l.length<=900) (K:aJ)
 (jL:∀ m,jW l s t=some m->∀ h' w,Ext h h'->aS [L] hc h'->Holds h' L (.row [w] 95 false)->sx 134 L h h' w m->K (.bool true) h')
 (B3:jW l s t=none->∀ h',Ext h h'->aS [L] hc h'->Holds h' L (.row [lv] 95 false)->K (.bool false) h'):Ok prog aH ov 92 [.string s,t.val,.pointer (some ⟨L,0,none⟩)] hc K:=by
 have cg:=aS.refl [L] hc
 rw [aw hc]
 have EW:∀ (h:Heap) (K:aJ),aK (some lv) h K=K lv h:=λ_ _=>rfl
 have Kd:cut t.cells 0 2=some t.cells:=rfl
 refine Ok.aA 17 (bH N92) ?_
 repeat' (simp only [aa,seval,OA,MT,q.lay,EW,↓Kd,FT,xO])
 refine zze l lv s t _ ((hl.sl.mono (uX _ _)).lay _ _) hs _ (λh' w e x hn eQ=>?_)
 have hqL:=q.lt
 have hcz:=z.size
 (replace z:=z.ao x;replace q:=q.over x;replace cg:=cg.over x;rw [aw h'])
 have xf:∀ (h:Heap) (K:aJ),aK (some w) h K=K w h:=λ_ _=>rfl
 cases hb:jW l s t with
 |none =>
  have he:=hn hb
  have wq:(e == 0)=false:=by simpa using he
  repeat' (simp only [aa,seval,OA,xf,wq])
  exact B3 hb _ z.av (cg.trans (aS.lay _ _ _ []) (λ_ h=>nomatch h)) (q.on _ _)
 |some m =>
  obtain ⟨he,hw⟩:=eQ m hb
  subst he
  have ho:sx 134 L h h' w m:=.inr ⟨_,by rw [bh];exact dr hqL (by omega),by rw [bh];omega,hw⟩
  have Cm:=ho.one
  have Cd:w.cells.toList=[w]:=Qw ho.sl
  repeat' (simp only [aa,seval,OA,xf])
  refine j4 (n:=1) (o:=0) (vs:=[w]) q (by kernel_rfl) Cd rfl (by simp) (by simp [Cm]) (λh9 q' c=>?_)
  replace q':Holds h9 L (.row [w] 95 false):=q'
  have fr:aS [L] h' h9:=(aS.lay h' [] h'.low [L]).trans (ff.bf c (by simp:L∈[L])) (λB hB=>.inl hB)
  have hk9:=ho.bf fr
  replace cg:=cg.eV c (.inl (by simp))
  replace z:=z.bV c hL (by omega)
  clear q
  rw [aw h9]
  repeat' (simp only [aa,seval,OA])
  exact jL m hb _ w z.av (cg.trans (aS.lay _ _ _ []) (λ_ h=>nomatch h)) (q'.on _ _) (hk9.bf (aS.lay h9 _ _ [L]))
theorem zAK {a b:ae} (h:mP a b=true):b.says=a.says/\b.pred=a.pred/\b.n=a.n/\0<=a.n/\a.n<=4:=by
 unfold mP at h
 simp only [dK,jm] at h
 exact ⟨h.1.symm,h.2.1.symm,h.2.2.1.symm,h.2.2.2.1,h.2.2.2.2⟩
theorem zpP {a b:ae}:∀ {k:Nat} {l:List au},nL a b k=some l->l.length<=k
 |0,l,h=>by cases h;simp
 |k+1,l,h=>by
  cases hu:nL a b k with
  |none=>rw [Hj (by omega) hu] at h;cases h
  |some l0 =>
   have h0:=zpP hu
   rw [MJ hu] at h
   unfold y4 at h
   split at h
   .cases h;omega
   split at h
   .have:=Hy h;omega
   split at h
   .have:=Hy h;omega
   .cases h
theorem zz9 (a:ae):a.cells[0]? = some (.string a.says):=rfl
theorem zAa (a:ae):a.cells[1]? = some (.string a.pred):=rfl
theorem zAb (a:ae):a.cells[2]? = some (.int .i64 a.n):=rfl
theorem zzo (a b:ae) (h:Heap) (K:aJ)
 (B3:kD a b=none->∀ h' w,Ext h h'->K (.tuple #[w,.bool false]) h')
 (jL:∀ l,kD a b=some l->∀ h' w,Ext h h'->jX aC.bind h h' 134 w l->K (.tuple #[w,.bool true]) h'):Ok prog aH ov 60 [a.val,b.val] h K:=by
 rw [aw h]
 have z:=Ext.refl h
 have iw:∀ (s:aU) (h:Heap) (K:aJ),aK (some (.string s)) h K=K (.string s) h:=λ_ _ _=>rfl
 have hvn:∀ (n:Int) (h:Heap) (K:aJ),aK (some (.int .i64 n)) h K=K (.int .i64 n) h:=λ_ _ _=>rfl
 refine Ok.aA 93 (bH Z6) ?_
 by_cases pH:mP a b=true
 rotate_left
 .have jO:kD a b=none:=az pH
  repeat' (first|simp only [aa,seval,kA,gV,zz9,zAa,zAb,iw,hvn]|((with_reducible first|apply bS|apply qM) <;> intro _))
  all_goals try exact B3 jO _ _ z.av
  refine absurd ?_ pH
  unfold mP
  simp only [dK,jm]
  exact ⟨Decidable.not_not.1 (by assumption),Decidable.not_not.1 (by assumption),by assumption,by omega,by omega⟩
 .obtain ⟨e1,e2,e3,e4,e5⟩:=zAK pH
  repeat' (first|simp only [aa,seval,kA,gV,zz9,zAa,zAb,iw,hvn,e1,e2,e3]|((with_reducible first|apply bS|apply qM) <;> intro _))
  all_goals first|(exfalso;omega)|(exfalso;exact absurd rfl (by assumption))|skip
  refine uB (λh' x hq=>?_)
  have q0:=hq 0 _ rfl
  have q1:=hq 1 _ rfl
  have q2:=hq 2 _ rfl
  clear hq
  (replace z:=z.ao x;rw [aw h'])
  obtain ⟨m,hm⟩:∃ m:Nat,a.n=m:=⟨a.n.toNat,by omega⟩
  rw [hm]
  have sS:=z.size
  obtain ⟨A0,fI⟩:∃ A0,A0=h.size+0:=⟨_,rfl⟩
  obtain ⟨A1,nR⟩:∃ A1,A1=h.size+1:=⟨_,rfl⟩
  obtain ⟨L,hL⟩:∃ L,L=h.size+2:=⟨_,rfl⟩
  rw [<- fI] at q0
  rw [<- nR] at q1
  rw [<- hL] at q2
  rw [<- fI,<- nR,<- hL]
  obtain ⟨I1,aX⟩:∃ I:Nat->Env->Heap->Prop,I=(λn e h'=>∃ (i:Nat) (l:List au) (lv:ai) (h1:Heap),h'=h1.lay [] h1.low/\Ext h h1/\(n=m - i/\i<=m/\nL a b i=some l/\Holds h1 A0 (.row a.cells 28 false)/\Holds h1 A1 (.row b.cells 28 false)/\Holds h1 L (.row [lv] 95 false)/\sx 134 L h h1 lv l)/\∃ J:Nat->ai,e=(jr J 0 2 (.pointer (some ⟨A0,0,none⟩)::.pointer (some ⟨A1,0,none⟩)::jr J 4 2 (.pointer (some ⟨L,0,none⟩)::.func (.func 92) ⟨[]⟩ ⟨[.pointer (some ⟨L,0,none⟩)]⟩::jr J 8 35 (.int .i64 m::.int .i64 i::jr J 45 50 ([])))))):=⟨_,rfl⟩
  refine dN I1 _ (by rw [aX];exact ⟨0,[],.slice none 0 0,_,rfl,z,⟨rfl,by omega,rfl,q0,q1,q2,.inl ⟨rfl,rfl⟩⟩,bo⟩) ?_
  intro n e h' aP
  rw [aX] at aP
  obtain ⟨i,l,lv,bU,rfl,z,hinv,J,rfl⟩:=aP
  clear q0 q1 q2
  obtain ⟨rfl,hi,hu,q0,q1,q2,sl⟩:=hinv
  have hw:=eE i (by omega)
  have EW:∀ (h:Heap) (K:aJ),aK (some lv) h K=K lv h:=λ_ _=>rfl
  have pe:=zpP hu
  have hz:=z.size
  have yE:=sl.sl.mono (uX _ _)
  have cg:=aS.refl [L] bU
  have ON:h.size<=L:=by omega
  simp only [aa,seval,kA]
  refine bS (λaT=>?_) (λaT=>?_)
  rotate_left
  .have he:i=m:=by omega
   subst he
   have hud:kD a b=some l:=by
    unfold kD
    rw [aD pH,show a.n.toNat=i by omega,hu]
   repeat' (simp only [aa,seval,kA,q2.lay,EW])
   exact jL l hud _ _ z.av (sl.own.lay _ _)
  have iK:(0:Int)<=(i:Int)/\(i:Int) < 4:=by omega
  have jq:=NC a i (by omega)
  have jN:=NC b i (by omega)
  simp only [aa,seval,kA]
  with_reducible first|refine ez (by simp only [kA]) z.av ?_
  simp only [aa,seval,kA,q0.lay,q2.lay,EW,iK,↓jq,FT,xO]
  refine FW l lv (a.arg i) _ (yE.lay _ _) (by omega) _ (λh' x=>?_)
  (((with_reducible refine ix ?_ ?_ ?_);(· exact (by (simp only [iY]);have:=z.size;omega));(· exact x));replace z:=z.ao x;replace q0:=q0.over x;replace q1:=q1.over x;replace q2:=q2.over x;replace cg:=cg.over x;replace yE:=yE.over x;rw [aw h'])
  simp only [aa,seval,kA,q1.lay,q2.lay,EW,iK,↓jN,FT,xO]
  refine FW l lv (b.arg i) _ (yE.lay _ _) (by omega) _ (λh' x=>?_)
  (((with_reducible refine ix ?_ ?_ ?_);(· exact (by (simp only [iY]);have:=z.size;omega));(· exact x));replace z:=z.ao x;replace q0:=q0.over x;replace q1:=q1.over x;replace q2:=q2.over x;replace cg:=cg.over x;replace yE:=yE.over x;rw [aw h'])
  simp only [aa,seval,kA]
  obtain ⟨x0,Cv⟩:∃ x0,x0=cu l (a.arg i):=⟨_,rfl⟩
  obtain ⟨y0,La⟩:∃ y0,y0=cu l (b.arg i):=⟨_,rfl⟩
  rw [<- Cv,<- La]
  obtain ⟨xv,xs⟩:=x0
  obtain ⟨yv,ys⟩:=y0
  refine ni (by have:=z.size;omega) (by omega) ?_
  simp only [aa,seval,kA,ay.val,ay.cells]
  refine znU (by simp) (by have:=z.size;omega) (by simp) ?_
  simp only [aa,seval,kA,iy,gS,iI,Am.one,im,gd,gN]
  refine Fv (by kernel_rfl) (by simp) (by have:=z.size;omega) ?_
  simp only [aa,seval,kA,iy,gS,iI,Am.one,im,gd,ze,gN]
  refine Fv (by kernel_rfl) (by simp) (by have:=z.size;omega) ?_
  simp only [cm,seval,kA]
  ((with_reducible refine ⟨z.cU.lay _ _,?_⟩);(intro _ h' zz x _);(simp only [bY,bC] at x);replace q0:=q0.over x;replace q1:=q1.over x;replace q2:=q2.over x;replace cg:=cg.over x;replace yE:=yE.over x;(replace z:=zz);(clear zz);rw [aw h'])
  have q3:=Holds.top (i:=0) x rfl
  have q4:=Holds.top (i:=1) x rfl
  clear x
  have sP:nL a b (i+1)=y4 l ⟨xv,xs⟩ ⟨yv,ys⟩:=by rw [MJ hu,<- Cv,<- La]
  have ia:∀ h',aS [L] bU h'->sx 134 L h h' lv l:=λh' f=>sl.bf f
  have xd:nL a b (i+1)=none->kD a b=none:=λe=>by
   unfold kD
   rw [aD pH]
   exact Hj (by omega) e
  repeat' (first|simp only [aa,seval,kA,q3.lay,q4.lay,zlh]|((with_reducible apply bS) <;> intro _)|((with_reducible apply cf);(· rfl)))
  .have VE:nL a b (i+1)=some l:=sP.trans (aD (by assumption))
   rw [hw]
   (rw [aX];with_reducible refine cF (m:=_) ?_ ⟨i+1,l,lv,_,rfl,z,⟨rfl,by omega,VE,q0,q1,q2,ia _ cg⟩,bo⟩;omega)
  have ko:nL a b (i+1)=if xv=true/\(yv=false\/slt ys xs=true) then jW l xs ⟨yv,ys⟩ else if yv=true then jW l ys ⟨xv,xs⟩ else none:=sP.trans (az (by assumption))
  clear sP
  cases xv <;> cases yv
  .rw [az (by simp),az (by simp)] at ko
   repeat' (first|simp only [aa,seval,kA,q4.lay]|((with_reducible apply cf);(· rfl)))
   exact B3 (xd ko) _ _ z.av
  .rw [az (by simp),aD rfl] at ko
   repeat' (simp only [aa,seval,kA,q3.lay,q4.lay,iw])
   rw [FC]
   refine P5 l lv ys ⟨false,xs⟩ L h _ z.av ON (q2.on _ _) (ia _ (cg.trans (aS.lay _ _ _ []) (λ_ h=>nomatch h))) (by omega) _ (λmm hb h' w z2 qe pq Fo=>?_) (λhb h' z2 qe pq=>?_)
   .replace q0:=(q0.on _ _).bf qe (by simp;omega)
    replace q1:=(q1.on _ _).bf qe (by simp;omega)
    clear z q2
    have z:=z2
    rw [aw h']
    repeat' (first|simp only [aa,seval,kA]|((with_reducible apply cf);(· rfl)))
    rw [hw]
    (rw [aX];with_reducible refine cF (m:=_) ?_ ⟨i+1,mm,w,_,rfl,z,⟨rfl,by omega,ko.trans hb,q0,q1,pq,Fo⟩,bo⟩;omega)
   .clear z
    have z:=z2
    rw [aw h']
    repeat' (first|simp only [aa,seval,kA]|((with_reducible apply cf);(· rfl)))
    exact B3 (xd (ko.trans hb)) _ _ z.av
  .rw [aD (by simp)] at ko
   repeat' (first|simp only [aa,seval,kA,q3.lay,q4.lay,iw]|((with_reducible apply cf);(· rfl)))
   rw [FC]
   refine P5 l lv xs ⟨false,ys⟩ L h _ z.av ON (q2.on _ _) (ia _ (cg.trans (aS.lay _ _ _ []) (λ_ h=>nomatch h))) (by omega) _ (λmm hb h' w z2 qe pq Fo=>?_) (λhb h' z2 qe pq=>?_)
   .replace q0:=(q0.on _ _).bf qe (by simp;omega)
    replace q1:=(q1.on _ _).bf qe (by simp;omega)
    clear z q2
    have z:=z2
    rw [aw h']
    repeat' (first|simp only [aa,seval,kA]|((with_reducible apply cf);(· rfl)))
    rw [hw]
    (rw [aX];with_reducible refine cF (m:=_) ?_ ⟨i+1,mm,w,_,rfl,z,⟨rfl,by omega,ko.trans hb,q0,q1,pq,Fo⟩,bo⟩;omega)
   .clear z
    have z:=z2
    rw [aw h']
    repeat' (first|simp only [aa,seval,kA]|((with_reducible apply cf);(· rfl)))
    exact B3 (xd (ko.trans hb)) _ _ z.av
  .repeat' (first|simp only [aa,seval,kA,q3.lay,q4.lay,iw,zvU]|((with_reducible apply cf);(· rfl)))
   cases hsx:slt ys xs
   .rw [az (by simp [hsx]),aD rfl] at ko
    repeat' (simp only [aa,seval,kA,q3.lay,q4.lay,iw])
    rw [FC]
    refine P5 l lv ys ⟨true,xs⟩ L h _ z.av ON (q2.on _ _) (ia _ (cg.trans (aS.lay _ _ _ []) (λ_ h=>nomatch h))) (by omega) _ (λmm hb h' w z2 qe pq Fo=>?_) (λhb h' z2 qe pq=>?_)
    .replace q0:=(q0.on _ _).bf qe (by simp;omega)
     replace q1:=(q1.on _ _).bf qe (by simp;omega)
     clear z q2
     have z:=z2
     rw [aw h']
     repeat' (first|simp only [aa,seval,kA]|((with_reducible apply cf);(· rfl)))
     rw [hw]
     (rw [aX];with_reducible refine cF (m:=_) ?_ ⟨i+1,mm,w,_,rfl,z,⟨rfl,by omega,ko.trans hb,q0,q1,pq,Fo⟩,bo⟩;omega)
    .clear z
     have z:=z2
     rw [aw h']
     repeat' (first|simp only [aa,seval,kA]|((with_reducible apply cf);(· rfl)))
     exact B3 (xd (ko.trans hb)) _ _ z.av
   .rw [aD (by simp [hsx])] at ko
    repeat' (simp only [aa,seval,kA,q3.lay,q4.lay,iw])
    rw [FC]
    refine P5 l lv xs ⟨true,ys⟩ L h _ z.av ON (q2.on _ _) (ia _ (cg.trans (aS.lay _ _ _ []) (λ_ h=>nomatch h))) (by omega) _ (λmm hb h' w z2 qe pq Fo=>?_) (λhb h' z2 qe pq=>?_)
    .replace q0:=(q0.on _ _).bf qe (by simp;omega)
     replace q1:=(q1.on _ _).bf qe (by simp;omega)
     clear z q2
     have z:=z2
     rw [aw h']
     repeat' (first|simp only [aa,seval,kA]|((with_reducible apply cf);(· rfl)))
     rw [hw]
     (rw [aX];with_reducible refine cF (m:=_) ?_ ⟨i+1,mm,w,_,rfl,z,⟨rfl,by omega,ko.trans hb,q0,q1,pq,Fo⟩,bo⟩;omega)
    .clear z
     have z:=z2
     rw [aw h']
     repeat' (first|simp only [aa,seval,kA]|((with_reducible apply cf);(· rfl)))
     exact B3 (xd (ko.trans hb)) _ _ z.av
theorem zrc (l:List au) (v:ai) (h:Heap) (hl:Sl aC.bind h v l) (hs:l.length<=1000) (aB:∀ y∈l,mL y=false) (K:aJ)
 (hk:∀ h',Ext h h'->K (.int .i64 (-1)) h'):Ok prog aH ov 127 [v,.func (.func 101) ⟨[]⟩ ⟨[]⟩] h K:=by
 rw [aw h]
 have z:=Ext.refl h
 have dQ:=λ(hh:Heap)=>hl.bQ dB hh
 refine Ok.aA 17 (bH IP) ?_
 simp only [aa,seval,tB,dQ]
 obtain ⟨I1,aX⟩:∃ I:Nat->Env->Heap->Prop,I=(λn e h'=>∃ (i:Nat) (h1:Heap),h'=h1.lay [] h1.low/\Ext h h1/\(n=l.length - i/\i<=l.length)/\∃ J:Nat->ai,e=(v::.func (.func 101) ⟨[]⟩ ⟨[]⟩::jr J 2 4 (v::.int .i64 l.length::.int .i64 i::jr J 9 10 ([])))):=⟨_,rfl⟩
 refine dN I1 _ (by rw [aX];exact ⟨0,_,rfl,z,⟨rfl,by omega⟩,bo⟩) ?_
 intro n e h' aP
 rw [aX] at aP
 obtain ⟨i,bU,rfl,z,hinv,J,rfl⟩:=aP
 obtain ⟨rfl,hi⟩:=hinv
 have hw:=eE i (by omega)
 simp only [aa,seval,tB]
 refine bS (λaT=>?_) (λaT=>?_)
 rotate_left
 .repeat' ( simp only [aa,seval,tB])
  exact hk _ z.av
 obtain ⟨r,hr,cw⟩:=gC (l:=l) (i:=i) aT
 have hrf:=aB r (en cw)
 simp only [aa,seval,tB]
 repeat' ((first|with_reducible refine yX (hl.mono z.inc) dB mT (by omega) hr (λp hp=>?_)|with_reducible refine Lg hp Im mT ?_) <;> simp only [aa,seval,tB])
 refine Za r _ _ (λh' x=>?_)
 (replace z:=z.ao x;rw [aw h'])
 clear hp
 rw [hrf]
 simp only [aa,seval,tB]
 rw [hw]
 (rw [aX];with_reducible refine cF (m:=_) ?_ ⟨i+1,_,rfl,z,⟨rfl,by omega⟩,bo⟩;omega)
theorem zo6 (l:List au) (v:ai) (h:Heap) (hl:Sl aC.bind h v l) (hs:l.length<=1000) (aB:∀ y∈l,mL y=false) (K:aJ)
 (hk:∀ h',Ext h h'->K v h'):Ok prog aH ov 99 [v,.func (.func 101) ⟨[]⟩ ⟨[]⟩] h K:=by
 rw [aw h]
 have z:=Ext.refl h
 refine Ok.aA 40 (bH N99) ?_
 repeat' (simp only [aa,seval,c99])
 refine zrc l v _ (hl.lay _ _) hs aB _ (λh' x=>?_)
 (replace z:=z.ao x;rw [aw h'])
 repeat' (simp only [aa,seval,c99])
 exact hk _ z.av
theorem zxs (l m:List au) (v u:ai) (h:Heap) (hl:Sl aC.bind h v l) (hm:Sl aC.bind h u m) (hs:l.length<=1000) (G1:m.length<=1000) (K:aJ)
 (hk:∀ h' w,Ext h h'->jX aC.bind h h' 134 w (gE l m)->K w h'):Ok prog aH ov 100 [v,u] h K:=by
 rw [aw h]
 have z:=Ext.refl h
 refine Ok.aA 24 (bH Dr) ?_
 simp only [aa,seval,fP]
 repeat' ((with_reducible refine q9 (hl.mono z.inc) dB ?_) <;> simp only [aa,seval,fP])
 obtain ⟨I1,aX⟩:∃ I:Nat->Env->Heap->Prop,I=(λn e h'=>∃ (i:Nat) (w:ai) (A:Nat) (h1:Heap),h'=h1.lay [] h1.low/\Ext h h1/\(n=l.length - i/\i<=l.length/\Ow aC.bind h h1 134 A w (gE (l.take i) m))/\∃ J:Nat->ai,e=(v::u::jr J 2 3 (w::jr J 6 2 (v::.int .i64 l.length::.int .i64 i::jr J 11 15 ([]))))):=⟨_,rfl⟩
 refine dN I1 _ (by rw [aX];exact ⟨0,.slice none 0 0,h.size,_,rfl,z,⟨rfl,by omega,Ow.nil (aR _)⟩,bo⟩) ?_
 intro n e h' aP
 rw [aX] at aP
 obtain ⟨i,w,A,bU,rfl,z,hinv,J,rfl⟩:=aP
 obtain ⟨rfl,hi,ho⟩:=hinv
 have hw:=eE i (by omega)
 have hz:=z.size
 simp only [aa,seval,fP]
 refine bS (λaT=>?_) (λaT=>?_)
 rotate_left
 .repeat' ( simp only [aa,seval,fP])
  rw [gb (by omega)] at ho
  exact hk _ _ z.av ⟨_,ho.mono (bN.lay _ _ _)⟩
 obtain ⟨r,hr,cw⟩:=gC (l:=l) (i:=i) aT
 have ey:=ho.lt
 simp only [aa,seval,fP]
 repeat' ((first|with_reducible refine yX (hl.mono z.inc) dB mT (by omega) hr (λp hp=>?_)|with_reducible refine Lg hp Im mT ?_) <;> simp only [aa,seval,fP,iy,gS,iI,Am.one,im,gd,BF,au.val,au.cells])
 refine (ez (by simp only [fP])) z.av ?_
 repeat' (simp only [aa,seval,fP])
 refine FW m u r.term _ ((hm.mono z.inc).lay _ _) G1 _ (λh' x=>?_)
 (((with_reducible refine ix ?_ ?_ ?_);(· exact (by (simp only [iY]);have:=z.size;omega));(· exact x));replace z:=z.ao x;replace ho:=ho.over x;rw [aw h'])
 simp only [aa,seval,fP,zr9,Qf,P7]
 refine ni (by have:=z.size;omega) (by omega) ?_
 simp only [cm,seval,fP,jF,Gu]
 have hlen:(gE (l.take i) m).length<=1000:=by unfold gE;rw [gw,gR];omega
 have sH:(h'.lay [aZ.row (au.cells ⟨r.var,cu m r.term⟩) 134 false] (h'.size+1)).size=h'.size+1:=by rw [bh];rfl
 have xj:=z.size
 obtain ⟨ji,mH⟩:=Bo (A:=A) (r:=aC.bind) (c:=1) (y:=⟨r.var,cu m r.term⟩) (by decide) (show (h'.lay [aZ.row (au.cells ⟨r.var,cu m r.term⟩) 134 false] (h'.size+1)).get (h'.size+0)=some (.row (au.cells ⟨r.var,cu m r.term⟩) 134 false) by rw [jG];rfl) rfl
 obtain ⟨w',B0,Zu,e1,e2,e3,e4,e5⟩:=sb (t:=95) dB Be rfl (by decide) (by rw [sH];omega) (ho.mono (bN.lay _ _ _)) ji mH (by omega) (by omega)
 have wz:=ho.fresh
 rw [e1]
 simp only [syms,seval]
 refine iL (A:=A) (by kernel_rfl) (by rw [bh];omega) (by omega) (by simpa only [bY,bh,bC,ek,db,iA] using e3) ?_
 replace z:=(z.jC [aZ.row (au.cells ⟨r.var,cu m r.term⟩) 134 false] (h'.size+1) (by omega)).step e3 wz
 have ic:gE (l.take (i+1)) m=gE (l.take i) m++[⟨r.var,cu m r.term⟩]:=by rw [lr,cw];unfold gE;rw [sf];rfl
 rw [<- ic] at e2
 clear ho
 rw [aw B0]
 repeat' (first|simp only [aa,seval,fP]|((with_reducible refine ⟨z.cU.lay _ _,?_⟩);(intro _ h' zz x _);(simp only [bY,bC] at x);replace e2:=e2.over x;(replace z:=zz);(clear zz);rw [aw h']))
 rw [hw]
 (rw [aX];with_reducible refine cF (m:=_) ?_ ⟨i+1,_,_,_,rfl,z,⟨rfl,by omega,e2⟩,bo⟩;omega)
theorem zuC (a b:List au) (v u:ai) (h:Heap) (hl:Sl aC.bind h v a) (hm:Sl aC.bind h u b) (hs:a.length<=400) (eQ:b.length<=400) (hb:Am.Good b) (K:aJ)
 (hk:∀ h' w e,Ext h h'->jX aC.bind h h' 134 w (jE a b)->K (.tuple #[w,.int .i64 e]) h'):Ok prog aH ov 68 [v,u] h K:=by
 rw [aw h]
 have z:=Ext.refl h
 have Ag:=λ(hh:Heap)=>hm.bQ dB hh
 refine Ok.aA 44 (bH N68) ?_
 simp only [aa,seval,qS]
 refine HM a v _ (hl.lay _ _) (by omega) _ (λh' e x he=>?_)
 (replace z:=z.ao x;rw [aw h'])
 by_cases jq:eG a
 rotate_left
 .have aM:(e != 0)=true:=by simpa using λg=>jq (he.1 g)
  have Kb:jE a b=[]:=az jq
  repeat' (simp only [aa,seval,qS,aM])
  exact hk _ _ _ z.av (by rw [Kb];exact ⟨h.size,Ow.nil (aR _)⟩)
 obtain rfl:=he.2 jq
 repeat' (simp only [aa,seval,qS,bne_self_eq_false])
 refine HM b u _ ((hm.mono z.inc).lay _ _) (by omega) _ (λh' e x zT=>?_)
 (replace z:=z.ao x;rw [aw h'])
 obtain rfl:=zT.2 hb.uQ
 repeat' (simp only [aa,seval,qS,bne_self_eq_false])
 refine zxs a b v u _ ((hl.mono z.inc).lay _ _) ((hm.mono z.inc).lay _ _) (by omega) (by omega) _ (λh' w x hw=>?_)
 have rQ:=z.size
 replace hw:=hw.low (h0':=h) (by rw [bh];omega)
 (replace z:=z.ao x;rw [aw h'])
 repeat' (simp only [aa,seval,qS])
 refine zo6 (gE a b) w _ ((hw.sl (by decide)).lay _ _) (by unfold gE;rw [gw];omega) (zC6 jq (λy hy=>(hb.ok y hy).1)) _ (λh' x=>?_)
 (replace z:=z.ao x;replace hw:=hw.over x;rw [aw h'])
 repeat' (simp only [aa,seval,qS,Ag])
 obtain ⟨I1,aX⟩:∃ I:Nat->Env->Heap->Prop,I=(λn e h'=>∃ (i:Nat) (o:ai) (h1:Heap),h'=h1.lay [] h1.low/\Ext h h1/\(n=b.length - i/\i<=b.length/\jX aC.bind h h1 134 o (i6 a b i))/\∃ J:Nat->ai,e=(v::u::jr J 2 4 (o::jr J 7 16 (u::.int .i64 b.length::.int .i64 i::jr J 26 20 ([]))))):=⟨_,rfl⟩
 refine dN I1 _ (by rw [aX];exact ⟨0,w,_,rfl,z,⟨rfl,by omega,hw⟩,bo⟩) ?_
 intro n e h' aP
 rw [aX] at aP
 obtain ⟨i,o,bU,rfl,z,hinv,J,rfl⟩:=aP
 clear hw
 obtain ⟨rfl,hi,so⟩:=hinv
 have jB:=eE i (by omega)
 have jt:=YF (a:=a) (b:=b) i
 simp only [aa,seval,qS]
 refine bS (λaT=>?_) (λaT=>?_)
 rotate_left
 .obtain rfl:i=b.length:=by omega
  repeat' (simp only [aa,seval,qS])
  refine HM _ o _ ((so.sl (by decide)).lay _ _) (by omega) _ (λh' e x OW=>?_)
  (replace z:=z.ao x;replace so:=so.over x;rw [aw h'])
  by_cases kO:eG (i6 a b b.length)
  .obtain rfl:=OW.2 kO
   have Kb:jE a b=i6 a b b.length:=by unfold jE;rw [aD jq,aD kO]
   repeat' (simp only [aa,seval,qS,bne_self_eq_false])
   exact hk _ _ _ z.av (by rw [Kb];exact so.lay _ _)
  .have aM:(e != 0)=true:=by simpa using λg=>kO (OW.1 g)
   have Kb:jE a b=[]:=by unfold jE;rw [aD jq,az kO]
   repeat' (simp only [aa,seval,qS,aM])
   exact hk _ _ _ z.av (by rw [Kb];exact ⟨h.size,Ow.nil (aR _)⟩)
 obtain ⟨r,hr,cw⟩:=gC (l:=b) (i:=i) (by omega)
 simp only [aa,seval,qS]
 repeat' ((first|with_reducible refine yX (hm.mono z.inc) dB mT (by omega) hr (λp hp=>?_)|with_reducible refine Lg hp Im mT ?_) <;> simp only [aa,seval,qS,iy,gS,iI,Am.one,im,gd,BF,au.val,au.cells])
 rcases hg:bE a r.var with ⟨⟨tv,ts⟩,pb⟩
 refine F8 a v r.var _ ((hl.mono z.inc).lay _ _) (by omega) _ (λh' x=>?_)
 rw [hg]
 have q0:=Holds.top (i:=0) x rfl
 (replace z:=z.ao x;replace so:=so.over x;rw [aw h'])
 clear hp
 simp only [aa,seval,qS,ay.val,ay.cells]
 cases pb
 .repeat' (first|simp only [aa,seval,qS,iy,gS,iI,Am.one,im,gd,gN,q0.lay]|((with_reducible apply cf);(· rfl)))
  have m9:=HB cw (by rw [hg])
  refine zsQ (i6 a b i) o r _ ((so.sl (by decide)).lay _ _) (by omega) (XC jq.1 hb.up (by omega)) _ (λh' w2 x pK=>?_)
  have xi:=z.size
  replace pK:=pK.low (h0':=h) (by rw [bh];omega)
  (replace z:=z.ao x;replace so:=so.over x;replace q0:=q0.over x;rw [aw h'])
  clear so
  repeat' (simp only [aa,seval,qS])
  rw [jB]
  (rw [aX];with_reducible refine cF (m:=_) ?_ ⟨i+1,w2,_,rfl,z,⟨rfl,by omega,by rw [m9];exact pK⟩,bo⟩;omega)
 .repeat' (first|simp only [aa,seval,qS,iy,gS,iI,Am.one,im,gd,gN]|((with_reducible apply cf);(· rfl)))
  have m9:=HC cw (by rw [hg])
  rw [jB]
  refine Ho z.av (λH z hO hI=>?_)
  (rw [aX];with_reducible refine cF (m:=_) ?_ ⟨i+1,o,_,rfl,z,⟨rfl,by omega,by rw [m9];exact so.mono hI⟩,bo⟩;omega)
end Go.Proofs.YtnkmeidmdaidhaaGreatDoor
