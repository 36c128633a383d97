/- Walks: the first error of several; an atom's error; a fact's. Written out by fill2.py. No condition. -/
import Derived.Test.YtmamldleclamjaaGreatDoorGFr
set_option linter.unusedSimpArgs false
set_option linter.unusedVariables false
namespace Go.Proofs.YtmamldleclamjaaGreatDoor
open Go.Am Tryz
set_option maxRecDepth 100000
set_option maxHeartbeats 0
variable {h:Heap} {i:Nat}
def fB (h:Heap) (fv:ah) (e:Int):Prop:=(∃ (f:Fn) (a b:Array ah),fv=.func f a b)/\∀ hc (K:aI),aM [] h hc->(∀ h',Ext hc h'->K (.int .i64 e) h')->vY prog aG ov [] hc K fv
theorem fB.cT {h2:Heap} {fv:ah} {e:Int} (r:fB h fv e) (x:aM [] h h2):fB h2 fv e:=⟨r.1,λhc K y hk=>r.2 hc K (x.trans y (λ_ h=>nomatch h)) hk⟩
theorem fB.over {h1 h2:Heap} {bs:List ba} {w:Nat} {fv:ah} {e:Int} (r:fB h1 fv e) (x:Ext (h1.lay bs w) h2):fB h2 fv e:=r.cT ((aM.refl [] h1).over x)
theorem fB.lay {h1:Heap} {fv:ah} {e:Int} (r:fB h1 fv e) (bs:List ba) (w:Nat):fB (h1.lay bs w) fv e:=r.cT (aM.lay _ _ _ _)
theorem Ext.cY {h2:Heap} (x:Ext h h2):aM [] h h2:=x.cT []
theorem zB3 (b:Bool) (e:Int) (A B:Nat) (h:Heap) (q0:Holds h A (.row [.bool b] 4 false)) (q1:Holds h B (.row [.int .i64 e] 34 false)) (K:aI) (hk:∀ h',Ext h h'->K (.int .i64 (bj b e)) h'):Ok prog aG ov 115 [.pointer (some ⟨A,0,none⟩),.pointer (some ⟨B,0,none⟩)] h K:=by
 rw [ao h]
 have z:=Ext.refl h
 refine Ok.aw 3 (bu J6) ?_
 cases b
 .simp only [aa,seval,La,q0.lay]
  exact hk _ z.aC
 .simp only [aa,seval,La,q0.lay,q1.lay]
  exact hk _ z.aC
theorem nO (b:Bool) (e:Int) (h:Heap) (K:aI) (hk:∀ h' fv,Ext h h'->fB h' fv (bj b e)->K fv h'):Ok prog aG ov 79 [.bool b,.int .i64 e] h K:=by
 rw [ao h]
 have z:=Ext.refl h
 refine Ok.aw 4 (bu N79) ?_
 simp only [aa,seval,c79]
 refine hk _ _ z.aC ⟨⟨_,_,_,rfl⟩,λhc K2 y gu=>?_⟩
 rw [zW]
 exact zB3 b e _ _ hc (Holds.cY ⟨by rw [bd];simp,by rw [iB];rfl⟩ y) (Holds.cY ⟨by rw [bd];simp,by rw [iB];rfl⟩ y) K2 gu
theorem zoL {es:List Int} {e:Int} (hz:∀ x∈es.take i,x=0) (he:es[i]? = some e) (aS:e≠0):iv es=e:=by
 induction es generalizing i with
 |nil=>simp at he
 |cons x es ih =>
  rw [fV]
  cases i with
  |zero=>simp at he;subst he;rw [aA aS]
  |succ i =>
   rw [aB (hz x (by simp))]
   exact ih (λy hy=>hz y (by rw [List.take_succ_cons];exact eQ _ hy)) (by simpa using he)
theorem zU (rL:List ah) (es:List Int) (v:ah) (h:Heap) (hl:Sl aK.LJ h v rL) (hs:rL.length<=100) (hlen:es.length=rL.length) (hr:∀ (i:Nat) fv e,rL[i]? = some fv->es[i]? = some e->fB h fv e) (K:aI)
 (hk:∀ h',Ext h h'->K (.int .i64 (iv es)) h'):Ok prog aG ov 78 [v] h K:=by
 rw [ao h]
 have z:=Ext.refl h
 have cU:=λ(hh:Heap)=>hl.bn QY hh
 refine Ok.aw 17 (bu N78) ?_
 simp only [aa,seval,Cs,cU]
 obtain ⟨I1,aX⟩:∃ I:Nat->Env->Heap->Prop,I=(λn e h'=>∃ (i:Nat) (h1:Heap),h'=h1.lay [] h1.low/\Ext h h1/\(n=rL.length - i/\i<=rL.length/\∀ x∈es.take i,x=0)/\∃ J:Nat->ah,e=(jr J 0 6 (v::.int .i64 rL.length::.int .i64 i::jr J 9 9 ([])))):=⟨_,rfl⟩
 refine du I1 _ (by rw [aX];exact ⟨0,_,rfl,z,⟨rfl,by omega,by simp⟩,bm⟩) ?_
 intro n e h' aP
 rw [aX] at aP
 obtain ⟨i,bx,rfl,z,hinv,J,rfl⟩:=aP
 obtain ⟨rfl,hi,aE⟩:=hinv
 have hw:=ei i (by omega)
 simp only [aa,seval,Cs]
 refine bq (λaW=>?_) (λaW=>?_)
 rotate_left
 .rw [gA (by omega)] at aE
  rw [dr.2 aE] at hk
  simp only [aa,seval,Cs]
  exact hk _ z.aC
 obtain ⟨fv,hf,Xm⟩:=fo (l:=rL) (i:=i) (by omega)
 obtain ⟨e,he,rN⟩:=fo (l:=es) (i:=i) (by omega)
 simp only [aa,seval,Cs]
 repeat' ((first|with_reducible refine zwE (hl.mono z.inc) QY zFu (by omega) hf (λp hp=>?_)|with_reducible refine iY hp zCR ?_) <;> simp only [aa,seval,Cs])
 refine (hr i fv e Xm rN).2 _ _ (z.aC.cT []) (λh' x=>?_)
 (replace z:=z.an x;rw [ao h'])
 clear hp
 simp only [aa,seval,Cs]
 refine iS (λaS=>?_) (λheq=>?_)
 .rw [zoL aE rN aS] at hk
  simp only [aa,seval,Cs]
  exact hk _ z.aC
 .simp only [aa,seval,Cs]
  rw [hw]
  (rw [aX];with_reducible refine cy (m:=_) ?_ ⟨i+1,_,rfl,z,⟨rfl,by omega,oE (i:=i) (P:=λx:Int=>x=0) rN aE heq⟩,bm⟩;omega)
theorem Pv (l:List au) (aR:au) (p0 p1 p2 p5 p6:ah) (q b:Int) (h:Heap) (hl:Sl aK.str h p0 l) (hs:l.length<=1000) (K:aI) (hk:∀ h',Ext h h'->K (.bool (bh l aR)) h'):Ok prog aG ov 82 [hU p0 p1 p2 p5 p6 q b,.string aR] h K:=by
 rw [ao h]
 have z:=Ext.refl h
 have el:∀ (h:Heap) (K:aI),aH (some p0) h K=K p0 h:=λ_ _=>rfl
 refine Ok.aw 7 (bu N82) ?_
 simp only [aa,seval,c82,kG,lO,el]
 refine IG l p0 aR _ (hl.lay _ _) hs _ (λh' x=>?_)
 (replace z:=z.an x;rw [ao h'])
 simp only [aa,seval,c82]
 exact hk _ z.aC
theorem zn5 {l:List bP} {x:bP} {s:au} (hz:∀ y∈l.take i,¬ y.name=s) (hx:l[i]? = some x) (he:x.name=s):nP l s=(x.arity,true):=by
 induction l generalizing i with
 |nil=>simp at hx
 |cons y l ih =>
  unfold nP at ih ⊢
  cases i with
  |zero=>simp at hx;subst hx;rw [List.find?_cons_of_pos (by simpa using he)]
  |succ i =>
   rw [List.find?_cons_of_neg (by simpa using hz y (by simp))]
   exact ih (λw hw=>hz w (by rw [List.take_succ_cons];exact eQ _ hw)) (by simpa using hx)
theorem zje {l:List bP} {s:au} (hz:∀ y∈l,¬ y.name=s):nP l s=(0,false):=by
 unfold nP
 rw [List.find?_eq_none.2 (λx hx=>by simpa using hz x hx)]
theorem zDv (h:Heap) (l:List ba) (w i o:Nat) (v:ah) (hi:i < l.length):iO aG 65 (.pointer (some ⟨h.size+i,o,none⟩)) v (h.lay l w)=if v.cells.size=2 then uC l[i]? i o v.cells.toList h l w else none:=y6 my h l w i o v hi
theorem zwW (l:List bP) (aR:au) (p0 p1 p2 p5 p6:ah) (q b:Int) (h:Heap) (hl:Sl aK.pred h p1 l) (K:aI) (hk:∀ h',Ext h h'->K (.tuple #[.int .i64 (nP l aR).1,.bool (nP l aR).2]) h'):Ok prog aG ov 132 [hU p0 p1 p2 p5 p6 q b,.string aR] h K:=by
 rw [ao h]
 have z:=Ext.refl h
 have hle:=hl.le
 have el:∀ (h:Heap) (K:aI),aH (some p1) h K=K p1 h:=λ_ _=>rfl
 have gN:∀ (s:au) (h:Heap) (K:aI),aH (some (.string s)) h K=K (.string s) h:=λ_ _ _=>rfl
 have cU:=λ(hh:Heap)=>hl.bn kj hh
 refine Ok.aw 20 (bu Ko) ?_
 simp only [aa,seval,xk,kG,lP,el,cU]
 refine lZ (λh' x hq=>?_)
 have q0:=hq 0 _ rfl
 clear hq
 (replace z:=z.an x;rw [ao h'])
 obtain ⟨I1,aX⟩:∃ I:Nat->Env->Heap->Prop,I=(λn e h'=>∃ (i:Nat) (h1:Heap),h'=h1.lay [] h1.low/\Ext h h1/\(n=l.length - i/\i<=l.length/\∀ y∈l.take i,¬ y.name=aR)/\∃ J:Nat->ah,e=(J 0::.string aR::jr J 2 7 (p1::.int .i64 l.length::.int .i64 i::jr J 12 10 ([])))):=⟨_,rfl⟩
 refine du I1 _ (by rw [aX];exact ⟨0,_,rfl,z,⟨rfl,by omega,by simp⟩,bm⟩) ?_
 intro n e h' aP
 rw [aX] at aP
 obtain ⟨i,bx,rfl,z,hinv,J,rfl⟩:=aP
 obtain ⟨rfl,hi,aE⟩:=hinv
 have hw:i < l.length->IntKind.i64.wrap ((i:Int)+1)=((i+1:Nat):Int):=λhh=>by unfold maxLen at hle;rw [wrap_i64 (by omega) (by omega)];omega
 simp only [aa,seval,xk]
 refine bq (λaW=>?_) (λaW=>?_)
 rotate_left
 .rw [gA (by omega)] at aE
  rw [zje aE] at hk
  simp only [aa,seval,xk]
  exact hk _ z.aC
 obtain ⟨r,hr,bT⟩:=fo (l:=l) (i:=i) (by omega)
 repeat' (first|simp only [aa,seval,xk]|with_reducible refine QH (hl.mono z.inc) kj my (by omega) hr (λp hp=>?_)|with_reducible refine Nt hp AB my ?_)
 repeat' (first|simp only [aa,seval,xk,r5,nC,po,Am.one,tG,nR,zDv,gN]|((with_reducible apply bq) <;> intro _))
 .rw [zn5 aE bT (by assumption)] at hk
  exact hk _ z.aC
 .rw [hw (by omega)]
  refine SN z.aC (λH z hO hI=>?_)
  (rw [aX];with_reducible refine cy (m:=_) ?_ ⟨i+1,_,rfl,z,⟨rfl,by omega,oE (i:=i) (P:=λy:bP=>¬ y.name=aR) bT aE (by assumption)⟩,bm⟩;omega)
theorem zwX (a:aj) (h:Heap) (cR:bc 1 h) (K:aI) (hk:∀ h',Ext h h'->K (.int .i64 (j9 a)) h'):Ok prog aG ov 134 [a.val] h K:=by
 rw [ao h]
 have z:=Ext.refl h
 refine Ok.aw 40 (bu Kq) ?_
 repeat' (simp only [aa,seval,mV,gI,zvQ])
 refine zm9 _ _ (cR.lay _ _) _ (λhs h' x=>?_) (λhs h' x=>?_)
 rotate_left
 ·(replace z:=z.an x;rw [ao h'])
  repeat' (first|simp only [aa,seval,mV]|((with_reducible apply ct);(· rfl)))
  rw [SS (.inl hs)] at hk
  exact hk _ z.aC
 have q0:=Holds.top (i:=0) x rfl
 (replace z:=z.an x;rw [ao h'])
 repeat' (first|simp only [aa,seval,mV,q0.lay,zAi]|((with_reducible apply ct);(· rfl)))
 refine zsF _ _ ((cR.ext z).lay _ _) _ (λhp h' x=>?_) (λhp h' x=>?_)
 rotate_left
 ·(replace z:=z.an x;( replace q0:=q0.over x );rw [ao h'])
  repeat' (first|simp only [aa,seval,mV]|((with_reducible apply ct);(· rfl)))
  rw [SS (.inr hp)] at hk
  exact hk _ z.aC
 (replace z:=z.an x;replace q0:=q0.over x;rw [ao h'])
 repeat' (first|simp only [aa,seval,mV,q0.lay,zvR,↓eP,ef,dy]|((with_reducible apply bq) <;> intro _)|((with_reducible apply ct);(· rfl)))
 all_goals first
  |(rw [zpX hs hp (by omega)] at hk
    exact hk _ z.aC)
  |skip
 have vk:0<=a.n:=by omega
 have Ik:a.n<=4:=by omega
 have qU:a.bQ=a.n.toNat:=zAj vk Ik
 refine Qf a _ _ (λw h' x sw=>?_)
 (replace z:=z.an x;replace q0:=q0.over x;rw [ao h'])
 repeat' (simp only [aa,seval,mV])
 refine zfs a.args w _ sD _ (sw.lay _ _) (by rw [wO];have:=Tp a;omega) (λt hc K' xe hK=>by rw [rV];exact zuc t hc ((cR.ext z).lay _ _ |>.ext xe) K' hK) _ (λh' x=>?_)
 (replace z:=z.an x;replace q0:=q0.over x;rw [ao h'])
 cases Md:a.args.any sD
 rotate_left
 .repeat' ( simp only [aa,seval,mV])
  rw [zl9 hs hp (by omega) Md] at hk
  exact hk _ z.aC
 rw [zl8 hs hp (by omega) Md,qU] at hk
 obtain ⟨k,anh⟩:=Int.eq_ofNat_of_zero_le vk
 have zI:k<=4:=by omega
 have nH:=zAx
 have gj:=zCi q0 k zI
 have sW:(0:Int)<=a.n/\a.n<=4:=⟨vk,Ik⟩
 repeat' (simp only [aa,seval,mV,q0.lay,zvR,zAx _ _ _ vk Ik])
 have RM:a.n.toNat=k:=by omega
 rw [RM] at hk ⊢
 obtain ⟨sv,C4⟩:∃ sv,sv=Value.slice (some ⟨h.size+0,if 4=k then 3 else 3+k*2,none⟩) (4 - k) (4 - k):=⟨_,rfl⟩
 rw [<- C4] at gj ⊢
 clear nH
 obtain ⟨I1,aX⟩:∃ I:Nat->Env->Heap->Prop,I=(λn e h'=>∃ (i:Nat) (h1:Heap),h'=h1.lay [] h1.low/\Ext h h1/\(n=4 - k - i/\i<=4 - k/\(∀ t∈(a.all.drop k).take i,t=cf)/\Sl aK.term h1 sv (a.all.drop k))/\∃ J:Nat->ah,e=(jr J 0 31 (sv::.int .i64 ((4 - k:Nat):Int)::.int .i64 i::jr J 34 7 ([])))):=⟨_,rfl⟩
 refine du I1 _ (by rw [aX];exact ⟨0,_,rfl,z,⟨rfl,by omega,by simp,gj⟩,bm⟩) ?_
 intro n e h' aP
 rw [aX] at aP
 obtain ⟨i,bx,rfl,z,hinv,J,rfl⟩:=aP
 clear gj q0
 obtain ⟨rfl,hi,aE,gj⟩:=hinv
 have gk:=ei i (by omega)
 have W5:=PI a k
 simp only [aa,seval,mV]
 refine bq (λaW=>?_) (λaW=>?_)
 rotate_left
 .rw [gA (by omega)] at aE
  repeat' (simp only [aa,seval,mV])
  rw [aA (by rw [tF];rintro ⟨x,hx,e⟩;simp [aE x hx] at e)] at hk
  exact hk _ z.aC
 obtain ⟨⟨rv,rs⟩,hr,bT⟩:=fo (l:=a.all.drop k) (i:=i) (by omega)
 have hri:a.arg (k+i)=⟨rv,rs⟩:=Option.some.inj ((zAg a (by omega)).symm.trans bT)
 repeat' (first|simp only [aa,seval,mV,r5,nC,po,Am.one,tG,nR,BK,aZ.val,aZ.cells,zts,zqx]|((with_reducible apply Hk) <;> intro _)|with_reducible refine QJ gj zf kC (by omega) hr (λp hp=>?_)|with_reducible refine Ix hp sC kC ?_)
 .have X4:¬ (⟨rv,rs⟩:aZ)=cf:=‹¬ (⟨rv,rs⟩:aZ)=⟨false,⟨#[]⟩⟩›
  rw [aB (tF.2 ⟨_,fW bT,by simp [X4]⟩)] at hk
  exact hk _ z.aC
 .have Xk:(⟨rv,rs⟩:aZ)=cf:=‹(⟨rv,rs⟩:aZ)=⟨false,⟨#[]⟩⟩›
  rw [gk]
  refine SN z.aC (λH z hO hI=>?_)
  (rw [aX];with_reducible refine cy (m:=_) ?_ ⟨i+1,_,rfl,z,⟨rfl,by omega,oE (i:=i) (P:=λt:aZ=>t=cf) bT aE Xk,gj.mono hI⟩,bm⟩;omega)
theorem zzg (a:aj) (A:Nat) (h:Heap) (cR:bc 1 h) (q0:Holds h A (.row a.cells 47 false)) (K:aI) (hk:∀ h',Ext h h'->K (.int .i64 (j9 a)) h'):Ok prog aG ov 133 [.pointer (some ⟨A,0,none⟩)] h K:=by
 rw [ao h]
 have z:=Ext.refl h
 refine Ok.aw 3 (bu Kp) ?_
 simp only [aa,seval,Lf,q0.lay,↓eP,ef,dy]
 refine zwX a _ (cR.lay _ _) _ (λh' x=>?_)
 (replace z:=z.an x;rw [ao h'])
 simp only [aa,seval,Lf]
 exact hk _ z.aC
theorem zT (b:Bool) (h:Heap) (K:aI):sj b h K=K (.bool b) h:=by
 unfold sj
 cases b
 .simp
 .simp
theorem Ag {bs:List ba} {w c:Nat} {u:TypeId} {ro:Bool} {l:List ah} (hb:bs[i]? = some (.row l u ro)) (h1:l.all Am.one=true) (hc:c=l.length) (hl:l.length<=100):Sl aK.LJ (h.lay bs w) (.slice (some ⟨h.size+i,0,none⟩) l.length c) l:=by
 have hi:=(dH.1 hb).1
 refine .inr ⟨h.size+i,0,c,l,u,ro,rfl,by unfold maxLen;omega,.inl ⟨by unfold G;omega,by omega⟩,by rw [bd];omega,by rw [iB];exact hb,λj x hx=>⟨[x],?_,rfl,jh.1 h1 x (fW hx)⟩⟩
 have hj:=dH.1 hx
 have rR:=hj.1
 show cut l (0+j*1) 1=some [x]
 unfold cut
 rw [aB (by omega),j3,Nat.mul_one,DE hj.1,hj.2]
 rfl
theorem zm7 (d:aq) (a:aj) (p0 p1 p2 p5 p6:ah) (q b:Int) (h:Heap) (cR:bc 1 h) (bt:(dW p0 p1 p2 p5 p6 q b).all Am.one=true) (h0:Sl aK.str h p0 d.ab) (h1:Sl aK.pred h p1 d.bJ) (hs:d.ab.length<=1000) (K:aI) (hk:∀ h',Ext h h'->K (.int .i64 (iC d a)) h'):Ok prog aG ov 105 [hU p0 p1 p2 p5 p6 q b,a.val] h K:=by
 rw [ao h]
 have z:=Ext.refl h
 have gN:∀ (s:au) (h:Heap) (K:aI),aH (some (.string s)) h K=K (.string s) h:=λ_ _ _=>rfl
 refine Ok.aw 29 (bu JX) ?_
 simp only [aa,seval,ke,kG,↓iR,gO,fY,gI,zAi,gN]
 refine zwW d.bJ a.pred _ _ _ _ _ _ _ _ (h1.lay _ _) _ (λh' x=>?_)
 have q0:=Holds.top (i:=0) x rfl
 have q1:=Holds.top (i:=1) x rfl
 (replace z:=z.an x;rw [ao h'])
 simp only [aa,seval,ke]
 rw [zT]
 simp only [aa,seval,ke]
 with_reducible first|refine dL (by simp only [ke]) z.aC ?_
 simp only [aa,seval,ke,q0.lay,q1.lay,↓iR,gO,fY,zvQ,gN]
 refine Pv d.ab a.says _ _ _ _ _ _ _ _ ((h0.mono z.inc).lay _ _) hs _ (λh' x=>?_)
 (((with_reducible refine cW ?_ ?_ ?_);(· exact (by (simp only [cV]);have:=z.size;omega));(· exact x));replace z:=z.an x;replace q0:=q0.over x;replace q1:=q1.over x;rw [ao h'])
 simp only [aa,seval,ke]
 (with_reducible apply ct);(· rfl)
 simp only [aa,seval,ke]
 refine nO _ _ _ _ (λh' f1 x r1=>?_)
 (((with_reducible refine cW ?_ ?_ ?_);(· exact (by (simp only [cV]);have:=z.size;omega));(· exact x));replace z:=z.an x;replace q0:=q0.over x;replace q1:=q1.over x;rw [ao h'])
 simp only [aa,seval,ke]
 (with_reducible apply ct);(· rfl)
 simp only [aa,seval,ke]
 refine nO _ _ _ _ (λh' f2 x r2=>?_)
 (((with_reducible refine cW ?_ ?_ ?_);(· exact (by (simp only [cV]);have:=z.size;omega));(· exact x));replace z:=z.an x;replace q0:=q0.over x;replace q1:=q1.over x;replace r1:=r1.over x;rw [ao h'])
 simp only [aa,seval,ke,q1.lay,zvR]
 rw [zT]
 simp only [aa,seval,ke]
 refine nO _ _ _ _ (λh' f3 x r3=>?_)
 (((with_reducible refine cW ?_ ?_ ?_);(· exact (by (simp only [cV]);have:=z.size;omega));(· exact x));replace z:=z.an x;replace q0:=q0.over x;replace q1:=q1.over x;replace r1:=r1.over x;replace r2:=r2.over x;rw [ao h'])
 obtain ⟨A1,oa⟩:∃ A1,A1=h.size+1:=⟨_,rfl⟩
 rw [<- oa] at q1
 rw [<- oa]
 have r0:fB h' (.func (.func 133) ⟨[]⟩ ⟨[.pointer (some ⟨A1,0,none⟩)]⟩) (j9 a):=⟨⟨_,_,_,rfl⟩,λhc K2 y gu=>by rw [zW];exact zzg a A1 hc (Holds.cY (cR.ext z) y) (Holds.cY q1 y) K2 gu⟩
 obtain ⟨g1,u1,v1,rfl⟩:=r1.1
 obtain ⟨g2,u2,v2,rfl⟩:=r2.1
 obtain ⟨g3,u3,v3,rfl⟩:=r3.1
 simp only [aa,seval,ke]
 refine vN (by have:=z.size;omega) (by omega) ?_
 simp only [aa,seval,ke]
 refine zU [.func (.func 133) ⟨[]⟩ ⟨[.pointer (some ⟨A1,0,none⟩)]⟩,.func g1 u1 v1,.func g2 u2 v2,.func g3 u3 v3] [j9 a,bj (!bh d.ab a.says) 6,bj (!(nP d.bJ a.pred).2) 7,bj ((nP d.bJ a.pred).1 != a.n) 8] _ _ (Ag (i:=0) rfl rfl rfl (by simp)) (by simp) rfl (λi fv e h1 h2=>?_) _ (λh' x=>?_)
 .match i,h1,h2 with
  |0,h1,h2=>cases h1;cases h2;exact r0.lay _ _
  |1,h1,h2=>cases h1;cases h2;exact r1.lay _ _
  |2,h1,h2=>cases h1;cases h2;exact r2.lay _ _
  |3,h1,h2=>cases h1;cases h2;exact r3.lay _ _
 (((with_reducible refine cW ?_ ?_ ?_);(· exact (by (simp only [cV]);have:=z.size;omega));(· exact x));replace z:=z.an x;replace q0:=q0.over x;replace q1:=q1.over x;replace r1:=r1.over x;replace r2:=r2.over x;replace r3:=r3.over x;rw [ao h'])
 simp only [aa,seval,ke]
 ((with_reducible refine ⟨z.cK.lay _ _,?_⟩);(intro _ h' zz x _);(simp only [b9,bG] at x);replace q0:=q0.over x;replace q1:=q1.over x;replace r1:=r1.over x;replace r2:=r2.over x;replace r3:=r3.over x;(replace z:=zz);(clear zz);rw [ao h'])
 simp only [aa,seval,ke]
 have he:iv [j9 a,bj (!bh d.ab a.says) 6,bj (!(nP d.bJ a.pred).2) 7,bj ((nP d.bJ a.pred).1 != a.n) 8]=iC d a:=rfl
 rw [he]
 exact hk _ z.aC
theorem zzk (d:aq) (a:aj) (p0 p1 p2 p5 p6:ah) (q b:Int) (A B:Nat) (h:Heap) (cR:bc 1 h) (bt:(dW p0 p1 p2 p5 p6 q b).all Am.one=true) (h0:Sl aK.str h p0 d.ab) (h1:Sl aK.pred h p1 d.bJ) (hs:d.ab.length<=1000) (q0:Holds h A (.row (dW p0 p1 p2 p5 p6 q b) 28 false)) (q1:Holds h B (.row a.cells 47 false)) (K:aI) (hk:∀ h',Ext h h'->K (.int .i64 (iC d a)) h'):Ok prog aG ov 104 [.pointer (some ⟨A,0,none⟩),.pointer (some ⟨B,0,none⟩)] h K:=by
 rw [ao h]
 have z:=Ext.refl h
 refine Ok.aw 4 (bu JW) ?_
 simp only [aa,seval,K9,q0.lay,q1.lay,↓iR,gO,fY,↓eP,ef,dy]
 refine zm7 d a _ _ _ _ _ _ _ _ (cR.lay _ _) bt (h0.lay _ _) (h1.lay _ _) hs _ (λh' x=>?_)
 (replace z:=z.an x;rw [ao h'])
 simp only [aa,seval,K9]
 exact hk _ z.aC
theorem zzl (d:aq) (s:au) (a:aj) (p0 p1 p2 p5 p6:ah) (q b:Int) (h:Heap) (cR:bc 1 h) (bt:(dW p0 p1 p2 p5 p6 q b).all Am.one=true) (h0:Sl aK.str h p0 d.ab) (h1:Sl aK.pred h p1 d.bJ) (hs:d.ab.length<=1000) (K:aI) (hk:∀ h',Ext h h'->K (.int .i64 (fG d s a)) h'):Ok prog aG ov 71 [hU p0 p1 p2 p5 p6 q b,.string s,a.val] h K:=by
 rw [ao h]
 have z:=Ext.refl h
 have gN:∀ (s:au) (h:Heap) (K:aI),aH (some (.string s)) h K=K (.string s) h:=λ_ _ _=>rfl
 refine Ok.aw 21 (bu N71) ?_
 simp only [aa,seval,tO,kG,gI]
 refine lZ (λh' x hq=>?_)
 have q0:=hq 0 _ rfl
 have q1:=hq 1 _ rfl
 clear hq
 (replace z:=z.an x;rw [ao h'])
 obtain ⟨A0,ep⟩:∃ A0,A0=h.size+0:=⟨_,rfl⟩
 rw [<- ep] at q0
 rw [<- ep]
 obtain ⟨A1,oa⟩:∃ A1,A1=h.size+1:=⟨_,rfl⟩
 rw [<- oa] at q1
 rw [<- oa]
 with_reducible first|refine dL (by simp only [tO]) z.aC ?_
 simp only [aa,seval,tO,q0.lay,↓iR,gO,fY]
 refine Pv d.ab s _ _ _ _ _ _ _ _ ((h0.mono z.inc).lay _ _) hs _ (λh' x=>?_)
 (((with_reducible refine cW ?_ ?_ ?_);(· exact (by (simp only [cV]);have:=z.size;omega));(· exact x));replace z:=z.an x;replace q0:=q0.over x;replace q1:=q1.over x;rw [ao h'])
 simp only [aa,seval,tO]
 (with_reducible apply ct);(· rfl)
 simp only [aa,seval,tO]
 refine nO _ _ _ _ (λh' f1 x r1=>?_)
 (((with_reducible refine cW ?_ ?_ ?_);(· exact (by (simp only [cV]);have:=z.size;omega));(· exact x));replace z:=z.an x;replace q0:=q0.over x;replace q1:=q1.over x;rw [ao h'])
 simp only [aa,seval,tO,q1.lay,↓eP,ef,dy]
 refine zw6 a _ _ (λh' x=>?_)
 (((with_reducible refine cW ?_ ?_ ?_);(· exact (by (simp only [cV]);have:=z.size;omega));(· exact x));replace z:=z.an x;replace q0:=q0.over x;replace q1:=q1.over x;replace r1:=r1.over x;rw [ao h'])
 simp only [aa,seval,tO]
 (with_reducible apply ct);(· rfl)
 simp only [aa,seval,tO]
 refine nO _ _ _ _ (λh' f2 x r2=>?_)
 (((with_reducible refine cW ?_ ?_ ?_);(· exact (by (simp only [cV]);have:=z.size;omega));(· exact x));replace z:=z.an x;replace q0:=q0.over x;replace q1:=q1.over x;replace r1:=r1.over x;rw [ao h'])
 simp only [aa,seval,tO,q1.lay,zvQ,gN]
 rw [zT]
 simp only [aa,seval,tO]
 refine nO _ _ _ _ (λh' f3 x r3=>?_)
 (((with_reducible refine cW ?_ ?_ ?_);(· exact (by (simp only [cV]);have:=z.size;omega));(· exact x));replace z:=z.an x;replace q0:=q0.over x;replace q1:=q1.over x;replace r1:=r1.over x;replace r2:=r2.over x;rw [ao h'])
 have r0:fB h' (.func (.func 104) ⟨[]⟩ ⟨[.pointer (some ⟨A0,0,none⟩),.pointer (some ⟨A1,0,none⟩)]⟩) (iC d a):=⟨⟨_,_,_,rfl⟩,λhc K2 y gu=>by
  rw [zW]
  exact zzk d a _ _ _ _ _ _ _ A0 A1 hc (Holds.cY (cR.ext z) y) bt ((h0.mono z.inc).mono y.all) ((h1.mono z.inc).mono y.all) hs (Holds.cY q0 y) (Holds.cY q1 y) K2 gu⟩
 rw [show decide (a.says≠s) = !decide (a.says=s) by simp] at r3
 obtain ⟨g1,u1,v1,rfl⟩:=r1.1
 obtain ⟨g2,u2,v2,rfl⟩:=r2.1
 obtain ⟨g3,u3,v3,rfl⟩:=r3.1
 simp only [aa,seval,tO]
 refine vN (by have:=z.size;omega) (by omega) ?_
 simp only [aa,seval,tO]
 refine zU [.func g1 u1 v1,.func (.func 104) ⟨[]⟩ ⟨[.pointer (some ⟨A0,0,none⟩),.pointer (some ⟨A1,0,none⟩)]⟩,.func g2 u2 v2,.func g3 u3 v3] [bj (!bh d.ab s) 6,iC d a,bj (!a.ground) 10,bj (!decide (a.says=s)) 11] _ _ (Ag (i:=0) rfl rfl rfl (by simp)) (by simp) rfl (λi fv e h1 h2=>?_) _ (λh' x=>?_)
 .match i,h1,h2 with
  |0,h1,h2=>cases h1;cases h2;exact r1.lay _ _
  |1,h1,h2=>cases h1;cases h2;exact r0.lay _ _
  |2,h1,h2=>cases h1;cases h2;exact r2.lay _ _
  |3,h1,h2=>cases h1;cases h2;exact r3.lay _ _
 (((with_reducible refine cW ?_ ?_ ?_);(· exact (by (simp only [cV]);have:=z.size;omega));(· exact x));replace z:=z.an x;replace q0:=q0.over x;replace q1:=q1.over x;replace r1:=r1.over x;replace r2:=r2.over x;replace r3:=r3.over x;rw [ao h'])
 simp only [aa,seval,tO]
 ((with_reducible refine ⟨z.cK.lay _ _,?_⟩);(intro _ h' zz x _);(simp only [b9,bG] at x);replace q0:=q0.over x;replace q1:=q1.over x;replace r1:=r1.over x;replace r2:=r2.over x;replace r3:=r3.over x;(replace z:=zz);(clear zz);rw [ao h'])
 simp only [aa,seval,tO]
 exact hk _ z.aC
end Go.Proofs.YtmamldleclamjaaGreatDoor
