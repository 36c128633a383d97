/- Walks: the first error of several; an atom's error; a fact's. Written out by fill2.py. No condition. -/
import Derived.Test.YtkgojconmeeegaaGreatDoorG30
import Derived.Test.YtkgojconmeeegaaGreatDoorG26
set_option linter.unusedSimpArgs false
set_option linter.unusedVariables false
namespace Go.Proofs.YtkgojconmeeegaaGreatDoor
open Go.Am Tryz
set_option maxRecDepth 100000
set_option maxHeartbeats 0
variable {i:Nat}
def ft (h:Heap) (fv:ae) (e:Int):Prop:=(∃ (f:Fn) (a b:Array ae),fv=.func f a b)/\∀ hc (K:aG),aQ [] h hc->(∀ h',Ext hc h'->K (.int .i64 e) h')->pw prog aA ov [] hc K fv
theorem ft.ck {h h2:Heap} {fv:ae} {e:Int} (r:ft h fv e) (x:aQ [] h h2):ft h2 fv e:=⟨r.1,λhc K y hk=>r.2 hc K (x.trans y (λ_ h=>nomatch h)) hk⟩
theorem ft.over {h1 h2:Heap} {bs:List bh} {w:Nat} {fv:ae} {e:Int} (r:ft h1 fv e) (x:Ext (h1.lay bs w) h2):ft h2 fv e:=r.ck ((aQ.refl [] h1).over x)
theorem ft.lay {h1:Heap} {fv:ae} {e:Int} (r:ft h1 fv e) (bs:List bh) (w:Nat):ft (h1.lay bs w) fv e:=r.ck (aQ.lay _ _ _ _)
theorem zCZ (b:Bool) (e:Int) (A B:Nat) (h:Heap) (q0:Holds h A (.row [.bool b] 4 false)) (q1:Holds h B (.row [.int .i64 e] 49 false)) (K:aG) (hk:∀ h',Ext h h'->K (.int .i64 (br b e)) h'):Ok prog aA ov 159 [.pointer (some ⟨A,0,none⟩),.pointer (some ⟨B,0,none⟩)] h K:=by
 rw [ao h]
 have z:=Ext.refl h
 refine Ok.aq 3 (bm K3) ?_
 cases b
 .simp only [aa,seval,Mf,q0.lay]
  exact hk _ z.au
 .simp only [aa,seval,Mf,q0.lay,q1.lay]
  exact hk _ z.au
theorem oc (b:Bool) (e:Int) (h:Heap) (K:aG) (hk:∀ h' fv,Ext h h'->ft h' fv (br b e)->K fv h'):Ok prog aA ov 112 [.bool b,.int .i64 e] h K:=by
 rw [ao h]
 have z:=Ext.refl h
 refine Ok.aq 4 (bm Kw) ?_
 simp only [aa,seval,V1]
 refine hk _ _ z.au ⟨⟨_,_,_,rfl⟩,λhc K2 y gp=>?_⟩
 rw [uM]
 exact zCZ b e _ _ hc (Holds.dR ⟨by rw [bf];simp,by rw [gH];rfl⟩ y) (Holds.dR ⟨by rw [bf];simp,by rw [gH];rfl⟩ y) K2 gp
theorem zo4 {es:List Int} {e:Int} (hz:∀ x∈es.take i,x=0) (he:es[i]? = some e) (ba:e≠0):jI es=e:=by
 induction es generalizing i with
 |nil=>simp at he
 |cons x es ih =>
  rw [Ua]
  cases i with
  |zero=>simp at he;subst he;rw [az ba]
  |succ i =>
   rw [aE (hz x (by simp))]
   exact ih (λy hy=>hz y (by rw [R1];exact gJ _ hy)) (by simpa using he)
theorem Aw (sk:List ae) (es:List Int) (v:ae) (h:Heap) (hl:Sl aJ.MJ h v sk) (hs:sk.length<=100) (hlen:es.length=sk.length) (hr:∀ (i:Nat) fv e,sk[i]? = some fv->es[i]? = some e->ft h fv e) (K:aG)
 (hk:∀ h',Ext h h'->K (.int .i64 (jI es)) h'):Ok prog aA ov 111 [v] h K:=by
 rw [ao h]
 have z:=Ext.refl h
 have cO:=λ(hh:Heap)=>hl.bt Sz hh
 refine Ok.aq 17 (bm Kv) ?_
 simp only [aa,seval,qT,cO]
 obtain ⟨I1,aO⟩:∃ I:Nat->Env->Heap->Prop,I=(λn e h'=>∃ (i:Nat) (h1:Heap),h'=h1.lay [] h1.low/\Ext h h1/\(n=sk.length - i/\i<=sk.length/\∀ x∈es.take i,x=0)/\∃ J:Nat->ae,e=(jr J 0 6 (v::.int .i64 sk.length::.int .i64 i::jr J 9 9 ([])))):=⟨_,rfl⟩
 refine cK I1 _ (by rw [aO];exact ⟨0,_,rfl,z,⟨rfl,by omega,by simp⟩,bc⟩) ?_
 intro n e h' aK
 rw [aO] at aK
 obtain ⟨i,bD,rfl,z,hinv,J,rfl⟩:=aK
 obtain ⟨rfl,hi,aC⟩:=hinv
 have hw:=dE i (by omega)
 simp only [aa,seval,qT]
 refine bg (λaP=>?_) (λaP=>?_)
 rotate_left
 .rw [fX (by omega)] at aC
  rw [cd.2 aC] at hk
  simp only [aa,seval,qT]
  exact hk _ z.au
 obtain ⟨fv,hf,Yr⟩:=eb (l:=sk) (i:=i) (by omega)
 obtain ⟨e,he,wH⟩:=eb (l:=es) (i:=i) (by omega)
 simp only [aa,seval,qT]
 repeat' ((first|with_reducible refine zxu (hl.mono z.inc) Sz zHm (by omega) hf (λp hp=>?_)|with_reducible refine fo hp zDI ?_) <;> simp only [aa,seval,qT])
 refine (hr i fv e Yr wH).2 _ _ (z.au.ck []) (λh' x=>?_)
 (replace z:=z.aj x;rw [ao h'])
 clear hp
 simp only [aa,seval,qT]
 refine im (λba=>?_) (λheq=>?_)
 .rw [zo4 aC wH ba] at hk
  simp only [aa,seval,qT]
  exact hk _ z.au
 .simp only [aa,seval,qT]
  rw [hw]
  (rw [aO];with_reducible refine bS (m:=_) ?_ ⟨i+1,_,rfl,z,⟨rfl,by omega,mL (i:=i) (P:=λx:Int=>x=0) wH aC heq⟩,bc⟩;omega)
theorem Q0 (l:List aB) (who:aB) (p0 p1 p2 p5 p6:ae) (q b:Int) (h:Heap) (hl:Sl aJ.str h p0 l) (hs:l.length<=1000) (K:aG) (hk:∀ h',Ext h h'->K (.bool (cq l who)) h'):Ok prog aA ov 45 [gC p0 p1 p2 p5 p6 q b,.string who] h K:=by
 rw [ao h]
 have z:=Ext.refl h
 have dn:∀ (h:Heap) (K:aG),aD (some p0) h K=K p0 h:=λ_ _=>rfl
 refine Ok.aq 7 (bm Vm) ?_
 simp only [aa,seval,SX,jG,k6,dn]
 refine Je l p0 who _ (hl.lay _ _) hs _ (λh' x=>?_)
 (replace z:=z.aj x;rw [ao h'])
 simp only [aa,seval,SX]
 exact hk _ z.au
theorem zwv {l:List cX} {x:cX} {s:aB} (hz:∀ y∈l.take i,¬ y.name=s) (hx:l[i]? = some x) (he:x.name=s):wZ l s=(x.arity,true):=by
 induction l generalizing i with
 |nil=>simp at hx
 |cons y l ih =>
  unfold wZ at ih ⊢
  cases i with
  |zero=>simp at hx;subst hx;rw [List.find?_cons_of_pos (by simpa using he)]
  |succ i =>
   rw [List.find?_cons_of_neg (by simpa using hz y (by simp))]
   exact ih (λw hw=>hz w (by rw [R1];exact gJ _ hw)) (by simpa using hx)
theorem zq4 {l:List cX} {s:aB} (hz:∀ y∈l,¬ y.name=s):wZ l s=(0,false):=by
 unfold wZ
 rw [List.find?_eq_none.2 (λx hx=>by simpa using hz x hx)]
theorem zEj (h:Heap) (l:List bh) (w i o:Nat) (v:ae) (hi:i < l.length):iS aA 73 (.pointer (some ⟨h.size+i,o,none⟩)) v (h.lay l w)=if v.cells.size=2 then sN l[i]? i o v.cells.toList h l w else none:=wi mH h l w i o v hi
theorem zxP (l:List cX) (who:aB) (p0 p1 p2 p5 p6:ae) (q b:Int) (h:Heap) (hl:Sl aJ.pred h p1 l) (K:aG) (hk:∀ h',Ext h h'->K (.tuple #[.int .i64 (wZ l who).1,.bool (wZ l who).2]) h'):Ok prog aA ov 160 [gC p0 p1 p2 p5 p6 q b,.string who] h K:=by
 rw [ao h]
 have z:=Ext.refl h
 have hle:=hl.le
 have dn:∀ (h:Heap) (K:aG),aD (some p1) h K=K p1 h:=λ_ _=>rfl
 have gw:∀ (s:aB) (h:Heap) (K:aG),aD (some (.string s)) h K=K (.string s) h:=λ_ _ _=>rfl
 have cO:=λ(hh:Heap)=>hl.bt kj hh
 refine Ok.aq 20 (bm K4) ?_
 simp only [aa,seval,xC,jG,lU,dn,cO]
 refine lg (λh' x hq=>?_)
 have q0:=hq 0 _ rfl
 clear hq
 (replace z:=z.aj x;rw [ao h'])
 obtain ⟨I1,aO⟩:∃ I:Nat->Env->Heap->Prop,I=(λn e h'=>∃ (i:Nat) (h1:Heap),h'=h1.lay [] h1.low/\Ext h h1/\(n=l.length - i/\i<=l.length/\∀ y∈l.take i,¬ y.name=who)/\∃ J:Nat->ae,e=(J 0::.string who::jr J 2 7 (p1::.int .i64 l.length::.int .i64 i::jr J 12 10 ([])))):=⟨_,rfl⟩
 refine cK I1 _ (by rw [aO];exact ⟨0,_,rfl,z,⟨rfl,by omega,by simp⟩,bc⟩) ?_
 intro n e h' aK
 rw [aO] at aK
 obtain ⟨i,bD,rfl,z,hinv,J,rfl⟩:=aK
 obtain ⟨rfl,hi,aC⟩:=hinv
 have hw:i < l.length->IntKind.i64.wrap ((i:Int)+1)=((i+1:Nat):Int):=λhh=>by unfold maxLen at hle;rw [wrap_i64 (by omega) (by omega)];omega
 simp only [aa,seval,xC]
 refine bg (λaP=>?_) (λaP=>?_)
 rotate_left
 .rw [fX (by omega)] at aC
  rw [zq4 aC] at hk
  simp only [aa,seval,xC]
  exact hk _ z.au
 obtain ⟨r,hr,bM⟩:=eb (l:=l) (i:=i) (by omega)
 repeat' (first|simp only [aa,seval,xC]|with_reducible refine Sv (hl.mono z.inc) kj mH (by omega) hr (λp hp=>?_)|with_reducible refine G7 hp A8 mH ?_)
 repeat' (first|simp only [aa,seval,xC,iR,gL,ij,Am.one,iT,gX,zEj,gw]|((with_reducible apply bg) <;> intro _))
 .rw [zwv aC bM (by assumption)] at hk
  exact hk _ z.au
 .rw [hw (by omega)]
  refine Ep z.au (λH z hO hI=>?_)
  (rw [aO];with_reducible refine bS (m:=_) ?_ ⟨i+1,_,rfl,z,⟨rfl,by omega,mL (i:=i) (P:=λy:cX=>¬ y.name=who) bM aC (by assumption)⟩,bc⟩;omega)
theorem zxQ (a:ak) (h:Heap) (cP:bl 1 h) (K:aG) (hk:∀ h',Ext h h'->K (.int .i64 (po a)) h'):Ok prog aA ov 162 [a.val] h K:=by
 rw [ao h]
 have z:=Ext.refl h
 refine Ok.aq 40 (bm K6) ?_
 repeat' (simp only [aa,seval,nc,fA,zwI])
 refine zm7 _ _ (cP.lay _ _) _ (λhs h' x=>?_) (λhs h' x=>?_)
 rotate_left
 ·(replace z:=z.aj x;rw [ao h'])
  repeat' (first|simp only [aa,seval,nc]|((with_reducible apply bI);(· rfl)))
  rw [zlZ (.inl hs)] at hk
  exact hk _ z.au
 have q0:=Holds.top (i:=0) x rfl
 (replace z:=z.aj x;rw [ao h'])
 repeat' (first|simp only [aa,seval,nc,q0.lay,zBn]|((with_reducible apply bI);(· rfl)))
 refine zto _ _ ((cP.ext z).lay _ _) _ (λhp h' x=>?_) (λhp h' x=>?_)
 rotate_left
 ·(replace z:=z.aj x;( replace q0:=q0.over x );rw [ao h'])
  repeat' (first|simp only [aa,seval,nc]|((with_reducible apply bI);(· rfl)))
  rw [zlZ (.inr hp)] at hk
  exact hk _ z.au
 (replace z:=z.aj x;replace q0:=q0.over x;rw [ao h'])
 repeat' (first|simp only [aa,seval,nc,q0.lay,zwJ,↓dW,dO,da]|((with_reducible apply bg) <;> intro _)|((with_reducible apply bI);(· rfl)))
 all_goals first
  |(rw [zyX hs hp (by omega)] at hk
    exact hk _ z.au)
  |skip
 have sx:0<=a.n:=by omega
 have Ty:a.n<=4:=by omega
 have vw:a.cU=a.n.toNat:=zDN sx Ty
 refine RO a _ _ (λw h' x sw=>?_)
 (replace z:=z.aj x;replace q0:=q0.over x;rw [ao h'])
 repeat' (simp only [aa,seval,nc])
 refine zfO a.args w _ tc _ (sw.lay _ _) (by rw [wU];have:=zmA a;omega) (λt hc K' xe hK=>by rw [sE];exact zuZ t hc ((cP.ext z).lay _ _ |>.ext xe) K' hK) _ (λh' x=>?_)
 (replace z:=z.aj x;replace q0:=q0.over x;rw [ao h'])
 cases M7:a.args.any tc
 rotate_left
 .repeat' ( simp only [aa,seval,nc])
  rw [zv0 hs hp (by omega) M7] at hk
  exact hk _ z.au
 rw [zvZ hs hp (by omega) M7,vw] at hk
 obtain ⟨k,aof⟩:=Int.eq_ofNat_of_zero_le sx
 have tF:k<=4:=by omega
 have mF:=zBA
 have gg:=zDa q0 k tF
 have lN:(0:Int)<=a.n/\a.n<=4:=⟨sx,Ty⟩
 repeat' (simp only [aa,seval,nc,q0.lay,zwJ,zBA _ _ _ sx Ty])
 have II:a.n.toNat=k:=by omega
 rw [II] at hk ⊢
 obtain ⟨sv,D4⟩:∃ sv,sv=Value.slice (some ⟨h.size+0,if 4=k then 3 else 3+k*2,none⟩) (4 - k) (4 - k):=⟨_,rfl⟩
 rw [<- D4] at gg ⊢
 clear mF
 obtain ⟨I1,aO⟩:∃ I:Nat->Env->Heap->Prop,I=(λn e h'=>∃ (i:Nat) (h1:Heap),h'=h1.lay [] h1.low/\Ext h h1/\(n=4 - k - i/\i<=4 - k/\(∀ t∈(a.all.drop k).take i,t=cu)/\Sl aJ.term h1 sv (a.all.drop k))/\∃ J:Nat->ae,e=(jr J 0 31 (sv::.int .i64 ((4 - k:Nat):Int)::.int .i64 i::jr J 34 7 ([])))):=⟨_,rfl⟩
 refine cK I1 _ (by rw [aO];exact ⟨0,_,rfl,z,⟨rfl,by omega,by simp,gg⟩,bc⟩) ?_
 intro n e h' aK
 rw [aO] at aK
 obtain ⟨i,bD,rfl,z,hinv,J,rfl⟩:=aK
 clear gg q0
 obtain ⟨rfl,hi,aC,gg⟩:=hinv
 have fb:=dE i (by omega)
 have tx:=Re a k
 simp only [aa,seval,nc]
 refine bg (λaP=>?_) (λaP=>?_)
 rotate_left
 .rw [fX (by omega)] at aC
  repeat' (simp only [aa,seval,nc])
  rw [az (by rw [wq];rintro ⟨x,hx,e⟩;simp [aC x hx] at e)] at hk
  exact hk _ z.au
 obtain ⟨⟨rv,rs⟩,hr,bM⟩:=eb (l:=a.all.drop k) (i:=i) (by omega)
 have Tz:a.arg (k+i)=⟨rv,rs⟩:=Option.some.inj ((zBl a (by omega)).symm.trans bM)
 repeat' (first|simp only [aa,seval,nc,iR,gL,ij,Am.one,iT,gX,gA,aH.val,aH.cells,zhz,zq8]|((with_reducible apply uR) <;> intro _)|with_reducible refine Sx gg zJ fK (by omega) hr (λp hp=>?_)|with_reducible refine Cq hp oo fK ?_)
 .have Y3:¬ (⟨rv,rs⟩:aH)=cu:=‹¬ (⟨rv,rs⟩:aH)=⟨false,⟨#[]⟩⟩›
  rw [aE (wq.2 ⟨_,ig bM,by simp [Y3]⟩)] at hk
  exact hk _ z.au
 .have Yp:(⟨rv,rs⟩:aH)=cu:=‹(⟨rv,rs⟩:aH)=⟨false,⟨#[]⟩⟩›
  rw [fb]
  refine Ep z.au (λH z hO hI=>?_)
  (rw [aO];with_reducible refine bS (m:=_) ?_ ⟨i+1,_,rfl,z,⟨rfl,by omega,mL (i:=i) (P:=λt:aH=>t=cu) bM aC Yp,gg.mono hI⟩,bc⟩;omega)
theorem zz6 (a:ak) (A:Nat) (h:Heap) (cP:bl 1 h) (q0:Holds h A (.row a.cells 34 false)) (K:aG) (hk:∀ h',Ext h h'->K (.int .i64 (po a)) h'):Ok prog aA ov 161 [.pointer (some ⟨A,0,none⟩)] h K:=by
 rw [ao h]
 have z:=Ext.refl h
 refine Ok.aq 3 (bm K5) ?_
 simp only [aa,seval,Mg,q0.lay,↓dW,dO,da]
 refine zxQ a _ (cP.lay _ _) _ (λh' x=>?_)
 (replace z:=z.aj x;rw [ao h'])
 simp only [aa,seval,Mg]
 exact hk _ z.au
theorem Au (b:Bool) (h:Heap) (K:aG):rY b h K=K (.bool b) h:=by
 unfold rY
 cases b
 .simp
 .simp
theorem AG {h:Heap} {bs:List bh} {w c:Nat} {u:TypeId} {ro:Bool} {l:List ae} (hb:bs[i]? = some (.row l u ro)) (h1:l.all Am.one=true) (hc:c=l.length) (hl:l.length<=100):Sl aJ.MJ (h.lay bs w) (.slice (some ⟨h.size+i,0,none⟩) l.length c) l:=by
 have hi:=(dz.1 hb).1
 refine .inr ⟨h.size+i,0,c,l,u,ro,rfl,by unfold maxLen;omega,.inl ⟨by unfold G;omega,by omega⟩,by rw [bf];omega,by rw [gH];exact hb,λj x hx=>⟨[x],?_,rfl,gK.1 h1 x (ig hx)⟩⟩
 have hj:=dz.1 hx
 have su:=hj.1
 show cut l (0+j*1) 1=some [x]
 unfold cut
 rw [aE (by omega),iu,Dg,C0 hj.1,hj.2]
 rfl
theorem zm4 (d:aw) (a:ak) (p0 p1 p2 p5 p6:ae) (q b:Int) (h:Heap) (cP:bl 1 h) (bn:(dw p0 p1 p2 p5 p6 q b).all Am.one=true) (h0:Sl aJ.str h p0 d.ah) (h1:Sl aJ.pred h p1 d.cp) (hs:d.ah.length<=1000) (K:aG) (hk:∀ h',Ext h h'->K (.int .i64 (r6 d a)) h'):Ok prog aA ov 114 [gC p0 p1 p2 p5 p6 q b,a.val] h K:=by
 rw [ao h]
 have z:=Ext.refl h
 have gw:∀ (s:aB) (h:Heap) (K:aG),aD (some (.string s)) h K=K (.string s) h:=λ_ _ _=>rfl
 refine Ok.aq 29 (bm Ky) ?_
 simp only [aa,seval,ke,jG,↓fN,fw,eU,fA,zBn,gw]
 refine zxP d.cp a.pred _ _ _ _ _ _ _ _ (h1.lay _ _) _ (λh' x=>?_)
 have q0:=Holds.top (i:=0) x rfl
 have q1:=Holds.top (i:=1) x rfl
 (replace z:=z.aj x;rw [ao h'])
 simp only [aa,seval,ke]
 rw [Au]
 simp only [aa,seval,ke]
 with_reducible first|refine cZ (by simp only [ke]) z.au ?_
 simp only [aa,seval,ke,q0.lay,q1.lay,↓fN,fw,eU,zwI,gw]
 refine Q0 d.ah a.says _ _ _ _ _ _ _ _ ((h0.mono z.inc).lay _ _) hs _ (λh' x=>?_)
 (((with_reducible refine di ?_ ?_ ?_);(· exact (by (simp only [dp]);have:=z.size;omega));(· exact x));replace z:=z.aj x;replace q0:=q0.over x;replace q1:=q1.over x;rw [ao h'])
 simp only [aa,seval,ke]
 (with_reducible apply bI);(· rfl)
 simp only [aa,seval,ke]
 refine oc _ _ _ _ (λh' f1 x r1=>?_)
 (((with_reducible refine di ?_ ?_ ?_);(· exact (by (simp only [dp]);have:=z.size;omega));(· exact x));replace z:=z.aj x;replace q0:=q0.over x;replace q1:=q1.over x;rw [ao h'])
 simp only [aa,seval,ke]
 (with_reducible apply bI);(· rfl)
 simp only [aa,seval,ke]
 refine oc _ _ _ _ (λh' f2 x r2=>?_)
 (((with_reducible refine di ?_ ?_ ?_);(· exact (by (simp only [dp]);have:=z.size;omega));(· exact x));replace z:=z.aj x;replace q0:=q0.over x;replace q1:=q1.over x;replace r1:=r1.over x;rw [ao h'])
 simp only [aa,seval,ke,q1.lay,zwJ]
 rw [Au]
 simp only [aa,seval,ke]
 refine oc _ _ _ _ (λh' f3 x r3=>?_)
 (((with_reducible refine di ?_ ?_ ?_);(· exact (by (simp only [dp]);have:=z.size;omega));(· exact x));replace z:=z.aj x;replace q0:=q0.over x;replace q1:=q1.over x;replace r1:=r1.over x;replace r2:=r2.over x;rw [ao h'])
 obtain ⟨A1,me⟩:∃ A1,A1=h.size+1:=⟨_,rfl⟩
 rw [<- me] at q1
 rw [<- me]
 have r0:ft h' (.func (.func 161) ⟨[]⟩ ⟨[.pointer (some ⟨A1,0,none⟩)]⟩) (po a):=⟨⟨_,_,_,rfl⟩,λhc K2 y gp=>by rw [uM];exact zz6 a A1 hc (Holds.dR (cP.ext z) y) (Holds.dR q1 y) K2 gp⟩
 obtain ⟨g1,u1,v1,rfl⟩:=r1.1
 obtain ⟨g2,u2,v2,rfl⟩:=r2.1
 obtain ⟨g3,u3,v3,rfl⟩:=r3.1
 simp only [aa,seval,ke]
 refine tS (by have:=z.size;omega) (by omega) ?_
 simp only [aa,seval,ke]
 refine Aw [.func (.func 161) ⟨[]⟩ ⟨[.pointer (some ⟨A1,0,none⟩)]⟩,.func g1 u1 v1,.func g2 u2 v2,.func g3 u3 v3] [po a,br (!cq d.ah a.says) 6,br (!(wZ d.cp a.pred).2) 7,br ((wZ d.cp a.pred).1 != a.n) 8] _ _ (AG (i:=0) rfl rfl rfl (by simp)) (by simp) rfl (λi fv e h1 h2=>?_) _ (λh' x=>?_)
 .match i,h1,h2 with
  |0,h1,h2=>cases h1;cases h2;exact r0.lay _ _
  |1,h1,h2=>cases h1;cases h2;exact r1.lay _ _
  |2,h1,h2=>cases h1;cases h2;exact r2.lay _ _
  |3,h1,h2=>cases h1;cases h2;exact r3.lay _ _
 (((with_reducible refine di ?_ ?_ ?_);(· exact (by (simp only [dp]);have:=z.size;omega));(· exact x));replace z:=z.aj x;replace q0:=q0.over x;replace q1:=q1.over x;replace r1:=r1.over x;replace r2:=r2.over x;replace r3:=r3.over x;rw [ao h'])
 simp only [aa,seval,ke]
 ((with_reducible refine ⟨z.bZ.lay _ _,?_⟩);(intro _ h' zz x _);(simp only [bG,bu] at x);replace q0:=q0.over x;replace q1:=q1.over x;replace r1:=r1.over x;replace r2:=r2.over x;replace r3:=r3.over x;(replace z:=zz);(clear zz);rw [ao h'])
 simp only [aa,seval,ke]
 have he:jI [po a,br (!cq d.ah a.says) 6,br (!(wZ d.cp a.pred).2) 7,br ((wZ d.cp a.pred).1 != a.n) 8]=r6 d a:=rfl
 rw [he]
 exact hk _ z.au
theorem zAc (d:aw) (a:ak) (p0 p1 p2 p5 p6:ae) (q b:Int) (A B:Nat) (h:Heap) (cP:bl 1 h) (bn:(dw p0 p1 p2 p5 p6 q b).all Am.one=true) (h0:Sl aJ.str h p0 d.ah) (h1:Sl aJ.pred h p1 d.cp) (hs:d.ah.length<=1000) (q0:Holds h A (.row (dw p0 p1 p2 p5 p6 q b) 28 false)) (q1:Holds h B (.row a.cells 34 false)) (K:aG) (hk:∀ h',Ext h h'->K (.int .i64 (r6 d a)) h'):Ok prog aA ov 113 [.pointer (some ⟨A,0,none⟩),.pointer (some ⟨B,0,none⟩)] h K:=by
 rw [ao h]
 have z:=Ext.refl h
 refine Ok.aq 4 (bm Kx) ?_
 simp only [aa,seval,L8,q0.lay,q1.lay,↓fN,fw,eU,↓dW,dO,da]
 refine zm4 d a _ _ _ _ _ _ _ _ (cP.lay _ _) bn (h0.lay _ _) (h1.lay _ _) hs _ (λh' x=>?_)
 (replace z:=z.aj x;rw [ao h'])
 simp only [aa,seval,L8]
 exact hk _ z.au
theorem zAd (d:aw) (s:aB) (a:ak) (p0 p1 p2 p5 p6:ae) (q b:Int) (h:Heap) (cP:bl 1 h) (bn:(dw p0 p1 p2 p5 p6 q b).all Am.one=true) (h0:Sl aJ.str h p0 d.ah) (h1:Sl aJ.pred h p1 d.cp) (hs:d.ah.length<=1000) (K:aG) (hk:∀ h',Ext h h'->K (.int .i64 (jg d s a)) h'):Ok prog aA ov 68 [gC p0 p1 p2 p5 p6 q b,.string s,a.val] h K:=by
 rw [ao h]
 have z:=Ext.refl h
 have gw:∀ (s:aB) (h:Heap) (K:aG),aD (some (.string s)) h K=K (.string s) h:=λ_ _ _=>rfl
 refine Ok.aq 21 (bm N68) ?_
 simp only [aa,seval,ur,jG,fA]
 refine lg (λh' x hq=>?_)
 have q0:=hq 0 _ rfl
 have q1:=hq 1 _ rfl
 clear hq
 (replace z:=z.aj x;rw [ao h'])
 obtain ⟨A0,dK⟩:∃ A0,A0=h.size+0:=⟨_,rfl⟩
 rw [<- dK] at q0
 rw [<- dK]
 obtain ⟨A1,me⟩:∃ A1,A1=h.size+1:=⟨_,rfl⟩
 rw [<- me] at q1
 rw [<- me]
 with_reducible first|refine cZ (by simp only [ur]) z.au ?_
 simp only [aa,seval,ur,q0.lay,↓fN,fw,eU]
 refine Q0 d.ah s _ _ _ _ _ _ _ _ ((h0.mono z.inc).lay _ _) hs _ (λh' x=>?_)
 (((with_reducible refine di ?_ ?_ ?_);(· exact (by (simp only [dp]);have:=z.size;omega));(· exact x));replace z:=z.aj x;replace q0:=q0.over x;replace q1:=q1.over x;rw [ao h'])
 simp only [aa,seval,ur]
 (with_reducible apply bI);(· rfl)
 simp only [aa,seval,ur]
 refine oc _ _ _ _ (λh' f1 x r1=>?_)
 (((with_reducible refine di ?_ ?_ ?_);(· exact (by (simp only [dp]);have:=z.size;omega));(· exact x));replace z:=z.aj x;replace q0:=q0.over x;replace q1:=q1.over x;rw [ao h'])
 simp only [aa,seval,ur,q1.lay,↓dW,dO,da]
 refine zpD a _ _ (λh' x=>?_)
 (((with_reducible refine di ?_ ?_ ?_);(· exact (by (simp only [dp]);have:=z.size;omega));(· exact x));replace z:=z.aj x;replace q0:=q0.over x;replace q1:=q1.over x;replace r1:=r1.over x;rw [ao h'])
 simp only [aa,seval,ur]
 (with_reducible apply bI);(· rfl)
 simp only [aa,seval,ur]
 refine oc _ _ _ _ (λh' f2 x r2=>?_)
 (((with_reducible refine di ?_ ?_ ?_);(· exact (by (simp only [dp]);have:=z.size;omega));(· exact x));replace z:=z.aj x;replace q0:=q0.over x;replace q1:=q1.over x;replace r1:=r1.over x;rw [ao h'])
 simp only [aa,seval,ur,q1.lay,zwI,gw]
 rw [Au]
 simp only [aa,seval,ur]
 refine oc _ _ _ _ (λh' f3 x r3=>?_)
 (((with_reducible refine di ?_ ?_ ?_);(· exact (by (simp only [dp]);have:=z.size;omega));(· exact x));replace z:=z.aj x;replace q0:=q0.over x;replace q1:=q1.over x;replace r1:=r1.over x;replace r2:=r2.over x;rw [ao h'])
 have r0:ft h' (.func (.func 113) ⟨[]⟩ ⟨[.pointer (some ⟨A0,0,none⟩),.pointer (some ⟨A1,0,none⟩)]⟩) (r6 d a):=⟨⟨_,_,_,rfl⟩,λhc K2 y gp=>by
  rw [uM]
  exact zAc d a _ _ _ _ _ _ _ A0 A1 hc (Holds.dR (cP.ext z) y) bn ((h0.mono z.inc).mono y.all) ((h1.mono z.inc).mono y.all) hs (Holds.dR q0 y) (Holds.dR q1 y) K2 gp⟩
 rw [show decide (a.says≠s) = !decide (a.says=s) by simp] at r3
 obtain ⟨g1,u1,v1,rfl⟩:=r1.1
 obtain ⟨g2,u2,v2,rfl⟩:=r2.1
 obtain ⟨g3,u3,v3,rfl⟩:=r3.1
 simp only [aa,seval,ur]
 refine tS (by have:=z.size;omega) (by omega) ?_
 simp only [aa,seval,ur]
 refine Aw [.func g1 u1 v1,.func (.func 113) ⟨[]⟩ ⟨[.pointer (some ⟨A0,0,none⟩),.pointer (some ⟨A1,0,none⟩)]⟩,.func g2 u2 v2,.func g3 u3 v3] [br (!cq d.ah s) 6,r6 d a,br (!a.ground) 10,br (!decide (a.says=s)) 11] _ _ (AG (i:=0) rfl rfl rfl (by simp)) (by simp) rfl (λi fv e h1 h2=>?_) _ (λh' x=>?_)
 .match i,h1,h2 with
  |0,h1,h2=>cases h1;cases h2;exact r1.lay _ _
  |1,h1,h2=>cases h1;cases h2;exact r0.lay _ _
  |2,h1,h2=>cases h1;cases h2;exact r2.lay _ _
  |3,h1,h2=>cases h1;cases h2;exact r3.lay _ _
 (((with_reducible refine di ?_ ?_ ?_);(· exact (by (simp only [dp]);have:=z.size;omega));(· exact x));replace z:=z.aj x;replace q0:=q0.over x;replace q1:=q1.over x;replace r1:=r1.over x;replace r2:=r2.over x;replace r3:=r3.over x;rw [ao h'])
 simp only [aa,seval,ur]
 ((with_reducible refine ⟨z.bZ.lay _ _,?_⟩);(intro _ h' zz x _);(simp only [bG,bu] at x);replace q0:=q0.over x;replace q1:=q1.over x;replace r1:=r1.over x;replace r2:=r2.over x;replace r3:=r3.over x;(replace z:=zz);(clear zz);rw [ao h'])
 simp only [aa,seval,ur]
 exact hk _ z.au
end Go.Proofs.YtkgojconmeeegaaGreatDoor
