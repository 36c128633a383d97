/- Walks: bindings: may they be Written out by fill2.py. No condition. -/
import Derived.Test.YtjildadoepadeaaGreatDoorG30
set_option linter.unusedSimpArgs false
set_option linter.unusedVariables false
set_option maxRecDepth 100000
set_option maxHeartbeats 0
namespace Go.Proofs.YtjildadoepadeaaGreatDoor
open Go.Am
theorem HQ {I:Nat->Env->Heap->Prop} {m:Nat} {Q:Ex->Env->Heap->Prop} {x:Ex} {e:Env} {h0 h1:Heap} {bs:List bd} {w:Nat} (z:Ext h0 (h1.lay bs w)) (hk:∀ H,Ext h0 H->(∀ A b,Holds h1 A b->Holds H A b)->dz h1 H->Bm I m Q x e (H.lay [] H.low)):Bm I m Q x e (h1.lay bs w):=by
 have:=hk _ z (λA b q=>q.on bs w) (dz.lay _ _ _)
 rwa [<- ak] at this
theorem zvZ (a:ae) (k:Nat) (hk:k < 4):cut a.cells (3+k*2) 2=some (a.arg k).cells:=by
 have:k=0\/k=1\/k=2\/k=3:=by omega
 rcases this with rfl|rfl|rfl|rfl <;> rfl
theorem UW:zl az 23 23=true:=by kernel_rfl
end Go.Proofs.YtjildadoepadeaaGreatDoor
namespace Go.Proofs.YtjildadoepadeaaGreatDoor
open Go.Am Tryz
theorem IY (A o:Nat) (k:Int) (h0:0<=k) (h4:k<=4):kn az 39 (.pointer (some ⟨A,o,none⟩)) (some (.int .i64 k)) none none=some (.slice (some ⟨A,if 4=k.toNat then o else o+k.toNat*2,none⟩) (4 - k.toNat) (4 - k.toNat)):=by
 have hG:4 < G:=by decide
 simp only [kn,xg,mQ,pH,aC hG,cM]
 rw [aC ⟨h0,by omega⟩]
 simp [iD]
theorem An (a:ae) (k:Nat):(a.all.drop k).length=4 - k:=by rw [nX];rfl
theorem IC (a:ae) {k i:Nat} (h:k+i < 4):(a.all.drop k)[i]? = some (a.arg (k+i)):=by
 rw [ja]
 have:k+i=0\/k+i=1\/k+i=2\/k+i=3:=by omega
 rcases this with e|e|e|e <;> rw [e] <;> rfl
theorem Uo {H:Heap} {A:Nat} {a:ae} {u:TypeId} {ro:Bool} (q:Holds H A (.row a.cells u ro)) (k:Nat) (hk:k<=4):Sl aQ.term H (.slice (some ⟨A,if 4=k then 3 else 3+k*2,none⟩) (4 - k) (4 - k)) (a.all.drop k):=by
 refine .inr ⟨A,_,4 - k,a.cells,u,ro,by rw [An],by rw [An];unfold maxLen;omega,.inl ⟨by unfold G;omega,by rw [An];exact bg _⟩,q.lt,q.get,λi x hx=>?_⟩
 have hi:i < 4 - k:=by have:=(fB.1 hx).1;rw [An] at this;exact this
 rw [IC a (by omega)] at hx
 cases hx
 have hc:=zvZ a (k+i) (by omega)
 rw [ay (by omega)]
 refine ⟨_,?_,rfl⟩
 show cut a.cells (3+k*2+i*2) 2=_
 rw [<- hc]
 congr 1
 omega
theorem IG (a:ae):a.cells[0]? = some (.string a.says):=rfl
theorem On (a:ae):a.cells[1]? = some (.string a.pred):=rfl
theorem GA (a:ae):a.cells[2]? = some (.int .i64 a.n):=rfl
theorem S6 (a:ae) (h:Heap) (bJ:aI 1 h) (K:aF) (h1:bu a->∀ h',Ext h h'->K (.int .i64 0) h') (h2:¬ bu a->∀ c h',c≠0->Ext h h'->K (.int .i64 c) h'):Ok prog az ov 128 [a.val] h K:=by
 rw [ak h]
 have z:=Ext.refl h
 refine Ok.au 40 (br wH) ?_
 repeat' (simp only [aa,seval,eg,e9,IG])
 refine Ii _ _ (bJ.lay _ _) _ (λhs h' x=>?_) (λhs h' x=>?_)
 rotate_left
 ·(replace z:=z.aj x;rw [ak h'])
  repeat' (first|simp only [aa,seval,eg]|((with_reducible apply bK);(· rfl)))
  exact h2 (λx=>hs x.says) _ _ (by decide) z.ao
 have q0:=Holds.top (i:=0) x rfl
 (replace z:=z.aj x;rw [ak h'])
 repeat' (first|simp only [aa,seval,eg,q0.lay,On]|((with_reducible apply bK);(· rfl)))
 refine NM _ _ ((bJ.ext z).lay _ _) _ (λhp h' x=>?_) (λhp h' x=>?_)
 rotate_left
 ·(replace z:=z.aj x;( replace q0:=q0.over x );rw [ak h'])
  repeat' (first|simp only [aa,seval,eg]|((with_reducible apply bK);(· rfl)))
  exact h2 (λx=>hp x.pred) _ _ (by decide) z.ao
 (replace z:=z.aj x;replace q0:=q0.over x;rw [ak h'])
 repeat' (first|simp only [aa,seval,eg,q0.lay,GA,↓eZ,dO,dx]|((with_reducible apply bp) <;> intro _)|((with_reducible apply bK);(· rfl)))
 all_goals try exact h2 (λx=>by have:=x.lo;have:=x.hi;omega) _ _ (by decide) z.ao
 have pU:0<=a.n:=by omega
 have pV:a.n<=4:=by omega
 have qV:a.bR=a.n.toNat:=UE pU pV
 refine IA a _ _ (λw h' x sw=>?_)
 (replace z:=z.aj x;replace q0:=q0.over x;rw [ak h'])
 repeat' (simp only [aa,seval,eg])
 refine MG a.args w _ jf _ (sw.lay _ _) (by rw [vR];have:=Nz a;omega) (λt hc K' xe hK=>by rw [nK];exact SQ t hc ((bJ.ext z).lay _ _ |>.ext xe) K' hK) _ (λh' x=>?_)
 (replace z:=z.aj x;replace q0:=q0.over x;rw [ak h'])
 cases qJ:a.args.any jf
 rotate_left
 .repeat' ( simp only [aa,seval,eg])
  refine h2 (λx=>?_) _ _ (by decide) z.ao
  obtain ⟨t,ht,hb⟩:=oI.1 qJ
  obtain ⟨i,hi,rfl⟩:=gN.1 ht
  have:=x.gY i (eT.1 hi).2
  unfold jf at hb
  simp [this] at hb
 have yo:∀ i:Nat,(i:Int) < a.n->cC (a.arg i):=λi hi=>by
  have:=uN.1 qJ (a.arg i) (gN.2 ⟨i,by omega,rfl⟩)
  unfold jf at this
  simpa using this
 obtain ⟨k,hk⟩:=H6 pU
 have tM:k<=4:=by omega
 have DW:=IY
 have cq:=Uo q0 k tM
 have lg:(0:Int)<=a.n/\a.n<=4:=⟨pU,pV⟩
 repeat' (simp only [aa,seval,eg,q0.lay,GA,IY _ _ _ pU pV])
 have Lq:a.n.toNat=k:=by omega
 rw [Lq]
 obtain ⟨sv,tW⟩:∃ sv,sv=Value.slice (some ⟨h.size+0,if 4=k then 3 else 3+k*2,none⟩) (4 - k) (4 - k):=⟨_,rfl⟩
 rw [<- tW] at cq ⊢
 clear DW
 obtain ⟨I1,aU⟩:∃ I:Nat->Env->Heap->Prop,I=(λn e h'=>∃ (i:Nat) (h1:Heap),h'=h1.lay [] h1.low/\Ext h h1/\(n=4 - k - i/\i<=4 - k/\(∀ t∈(a.all.drop k).take i,t=aZ)/\Sl aQ.term h1 sv (a.all.drop k))/\∃ J:Nat->ai,e=(jr J 0 31 (sv::.int .i64 ((4 - k:Nat):Int)::.int .i64 i::jr J 34 7 ([])))):=⟨_,rfl⟩
 refine dK I1 _ (by rw [aU];exact ⟨0,_,rfl,z,⟨rfl,by omega,by simp,cq⟩,bx⟩) ?_
 intro n e h' aR
 rw [aU] at aR
 obtain ⟨i,b8,rfl,z,hinv,J,rfl⟩:=aR
 clear cq q0
 obtain ⟨rfl,hi,aq,cq⟩:=hinv
 have j9:=ec i (by omega)
 have P3:=An a k
 simp only [aa,seval,eg]
 refine bp (λaS=>?_) (λaS=>?_)
 rotate_left
 .rw [i9 (by omega)] at aq
  repeat' (simp only [aa,seval,eg])
  refine h1 ⟨hs,hp,pU,pV,yo,λj hj hj4=>?_⟩ _ z.ao
  have hU:=IC a (k:=k) (i:=j - k) (by omega)
  have e:k+(j - k)=j:=by omega
  rw [e] at hU
  exact aq _ (ig hU)
 obtain ⟨⟨rv,rs⟩,hr,bz⟩:=fx (l:=a.all.drop k) (i:=i) (by omega)
 have Qo:a.arg (k+i)=⟨rv,rs⟩:=Option.some.inj ((IC a (by omega)).symm.trans bz)
 repeat' (first|simp only [aa,seval,eg,i7,kS,mL,Am.one,jM,iZ,yK,aH.val,aH.cells,SD,RZ]|((with_reducible apply IQ) <;> intro _)|with_reducible refine IV cq wC iD (by omega) hr (λp hp=>?_)|with_reducible refine Ef hp oJ iD ?_)
 .refine h2 (λx=>?_) _ _ (by decide) z.ao
  have:=x.rest (k+i) (by omega) (by omega)
  rw [Qo] at this
  exact absurd this (by assumption)
 .have xI:(⟨rv,rs⟩:aH)=aZ:=‹(⟨rv,rs⟩:aH)=⟨false,⟨#[]⟩⟩›
  rw [j9]
  refine HQ z.ao (λH z hO hI=>?_)
  (rw [aU];with_reducible refine db (m:=_) ?_ ⟨i+1,_,rfl,z,⟨rfl,by omega,mS (i:=i) (P:=λt:aH=>t=aZ) bz aq xI,cq.mono hI⟩,bx⟩;omega)
theorem zsA (a:ae) (bv:Bool) (h:Heap) (K:aF) (hk:∀ w l h',Ext h h'->Sl aQ.str h' w l->l.length<=4->(∀ x,x∈l↔∃ i:Nat,i < a.bR/\(a.arg i).v=bv/\(a.arg i).s=x)->K w h'):Ok prog az ov 121 [a.val,.bool bv] h K:=by
 rw [ak h]
 have z:=Ext.refl h
 have oS:=Nz a
 refine Ok.au 31 (br BG) ?_
 repeat' (simp only [aa,seval,kX,e9,↓eZ,dO,dx])
 refine IA a _ _ (λw h' x sw=>?_)
 (replace z:=z.aj x;rw [ak h'])
 have Lx:=λ(hh:Heap)=>sw.bE wC hh
 have P3:=vR a
 have Ae:=z.size
 simp only [aa,seval,kX,Lx]
 obtain ⟨Hb,rfl⟩:∃ Hb,Hb=h':=⟨_,rfl⟩
 obtain ⟨I1,aU⟩:∃ I:Nat->Env->Heap->Prop,I=(λn e h'=>∃ (i:Nat) (wv:ai) (A:Nat) (l:List aA) (h1:Heap),h'=h1.lay [] h1.low/\Ext h h1/\(n=a.bR - i/\i<=a.bR/\l.length<=i/\(∀ x,x∈l↔∃ j:Nat,j < i/\(a.arg j).v=bv/\(a.arg j).s=x)/\Ow aQ.str h h1 9 A wv l/\dz Hb h1/\Hb.size<=A)/\∃ J:Nat->ai,e=(J 0::.bool bv::jr J 2 3 (wv::jr J 6 3 (w::.int .i64 a.args.length::.int .i64 i::jr J 12 21 ([]))))):=⟨_,rfl⟩
 refine dK I1 _ (by rw [aU];exact ⟨0,.slice none 0 0,Hb.size,[],_,rfl,z,⟨rfl,by omega,by simp,by simp,Ow.nil (by omega),dz.refl _,bg _⟩,bx⟩) ?_
 intro n e h' aR
 rw [aU] at aR
 obtain ⟨i,wv,A,l,b8,rfl,z,hinv,J,rfl⟩:=aR
 obtain ⟨rfl,hi,Qi,cS,ow,ib,zO⟩:=hinv
 have j9:=ec i (by omega)
 simp only [aa,seval,kX]
 refine bp (λaS=>?_) (λaS=>?_)
 rotate_left
 .have he:i=a.bR:=by omega
  rw [he] at cS
  repeat' (simp only [aa,seval,kX])
  exact hk _ _ _ z.ao ((ow.sl (by decide)).lay _ _) (by omega) cS
 have hU:=Go.Am.args_at (a:=a) (i:=i) (by omega)
 rcases LP:a.arg i with ⟨rv,rs⟩
 rw [LP] at hU
 have hr:a.args[(i:Int).toNat]? = some ⟨rv,rs⟩:=by rw [Gl];exact hU
 have oq:∀ x,(∃ j:Nat,j < i+1/\(a.arg j).v=bv/\(a.arg j).s=x)↔(∃ j:Nat,j < i/\(a.arg j).v=bv/\(a.arg j).s=x)\/(rv=bv/\rs=x):=by
  intro x
  constructor
  .rintro ⟨j,hj,e⟩
   by_cases xV:j=i
   .subst xV
    rw [LP] at e
    exact .inr e
   .exact .inl ⟨j,by omega,e⟩
  .rintro (⟨j,hj,e⟩|e)
   .exact ⟨j,by omega,e⟩
   .exact ⟨i,by omega,by rw [LP];exact e⟩
 repeat' (first|simp only [aa,seval,kX,i7,kS,mL,Am.one,jM,iZ,yK,aH.val,aH.cells]|with_reducible refine IV (sw.mono ib) wC iD (by omega) hr (λp hp=>?_)|with_reducible refine Ef hp oJ iD ?_)
 have ml:(¬ rv=bv\/rs∈l)->∀ x,x∈l↔∃ j:Nat,j < i+1/\(a.arg j).v=bv/\(a.arg j).s=x:=by
  intro hs x
  rw [oq,<- cS]
  refine ⟨.inl,λe=>e.elim id (λe=>?_)⟩
  rcases hs with hs|hs
  .exact absurd e.1 hs
  .rw [<- e.2];exact hs
 have oh:rv=bv->∀ x,x∈l++[rs]↔∃ j:Nat,j < i+1/\(a.arg j).v=bv/\(a.arg j).s=x:=by
  intro hs x
  rw [oq,<- cS,pM,td]
  exact ⟨λe=>e.imp id (λe=>⟨hs,e.symm⟩),λe=>e.imp id (λe=>e.2.symm)⟩
 have b1:(true == false)=false:=rfl
 have b2:(false == true)=false:=rfl
 have b3:(true == true)=true:=rfl
 have b4:(false == false)=true:=rfl
 have pf:=z.size
 cases rv
 all_goals
  cases bv
  all_goals
   repeat' (simp only [aa,seval,kX,ztw,b1,b2])
 all_goals first
  |(rw [j9]
    have vB:=ml (.inl (by decide))
    refine HQ z.ao (λH z hO hI=>?_)
    (rw [aU];with_reducible refine db (m:=_) ?_ ⟨i+1,wv,A,l,_,rfl,z,⟨rfl,by omega,by omega,vB,ow.mono hI,ib.trans hI,zO⟩,bx⟩;omega))
  |skip
 all_goals
  refine FT l wv rs _ ((ow.sl (by decide)).lay _ _) (by omega) _ (λh' x=>?_)
  have q0:=Holds.top (i:=0) x rfl
  (replace z:=z.aj x;replace ow:=ow.over x;replace ib:=ib.over x;rw [ak h'])
  cases aR:l.any λx=>decide (rs=x)
  rotate_left
  .have vB:=ml (.inr (by obtain ⟨y,hy,e⟩:=oI.1 aR;rw [of_decide_eq_true e];exact hy))
   repeat' (first|simp only [aa,seval,kX]|((with_reducible apply bK);(· rfl)))
   rw [j9]
   (rw [aU];with_reducible refine db (m:=_) ?_ ⟨i+1,wv,A,l,_,rfl,z,⟨rfl,by omega,by omega,vB,ow,ib,zO⟩,bx⟩;omega)
  have htk:=oh rfl
  repeat' (first|simp only [aa,seval,kX,q0.lay]|((with_reducible apply bK);(· rfl)))
  simp only [gf,seval,F7,UW]
 all_goals
  refine Ou (i:=0) (cs:=[.string rs]) (x:=rs) dp H5 rfl (by decide) (by rfl) z.size ow rfl (by omega) (by omega) (λw3 h3 A3 Ah lH zL=>?_)
  have zV:=ow.fresh
  have WX:=dz.JC (ib.trans (dz.lay _ _ _)) lH zO
  have zQ:=ib.size
  replace z:=z.ao.step lH (by omega)
  rw [ak h3]
  repeat' (simp only [aa,seval,kX])
  rw [j9]
  clear ow q0
  (rw [aU];with_reducible refine db (m:=_) ?_ ⟨i+1,w3,A3,l++[rs],_,rfl,z,⟨rfl,by omega,by rw [hJ,zm];omega,htk,Ah,WX,by omega⟩,bx⟩;omega)
theorem TP (a:ae) (h:Heap) (K:aF) (hk:∀ w l h',Ext h h'->Sl aQ.str h' w l->l.length<=4->(∀ x,x∈l↔gi a x)->K w h'):Ok prog az ov 175 [a.val] h K:=by
 rw [ak h]
 have z:=Ext.refl h
 refine Ok.au 4 (br B1) ?_
 repeat' (simp only [aa,seval,CI,e9,↓eZ,dO,dx])
 refine zsA a true _ _ (λw l h' x s hl hm=>?_)
 (replace z:=z.aj x;rw [ak h'])
 repeat' (simp only [aa,seval,CI])
 exact hk _ _ _ z.ao (s.lay _ _) hl (λx=>(hm x).trans kN.symm)
end Go.Proofs.YtjildadoepadeaaGreatDoor
