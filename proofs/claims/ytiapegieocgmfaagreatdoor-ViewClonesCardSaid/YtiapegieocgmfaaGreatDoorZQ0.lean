/- Walks: the first error of several; an atom's error; a fact's. Written out by fill2.py. No condition. -/
import Derived.Test.YtiapegieocgmfaaGreatDoorG29
import Derived.Test.YtiapegieocgmfaaGreatDoorG25
set_option linter.unusedSimpArgs false
set_option linter.unusedVariables false
namespace Go.Proofs.YtiapegieocgmfaaGreatDoor
open Go.Am Tryz
set_option maxRecDepth 100000
set_option maxHeartbeats 0
variable {h:Heap} {i:Nat}
def fp (h:Heap) (fv:ab) (e:Int):Prop:=(∃ (f:Fn) (a b:Array ab),fv=.func f a b)/\∀ hc (K:aF),aL [] h hc->(∀ h',Ext hc h'->K (.int .i64 e) h')->oU prog aD ov [] hc K fv
theorem fp.bN {h2:Heap} {fv:ab} {e:Int} (r:fp h fv e) (x:aL [] h h2):fp h2 fv e:=⟨r.1,λhc K y hk=>r.2 hc K (x.trans y (λ_ h=>nomatch h)) hk⟩
theorem fp.over {h1 h2:Heap} {bs:List ba} {w:Nat} {fv:ab} {e:Int} (r:fp h1 fv e) (x:Ext (h1.lay bs w) h2):fp h2 fv e:=r.bN ((aL.refl [] h1).over x)
theorem fp.lay {h1:Heap} {fv:ab} {e:Int} (r:fp h1 fv e) (bs:List ba) (w:Nat):fp (h1.lay bs w) fv e:=r.bN (aL.lay _ _ _ _)
theorem Ext.di {h2:Heap} (x:Ext h h2):aL [] h h2:=x.bN []
theorem zBr (b:Bool) (e:Int) (A B:Nat) (h:Heap) (q0:Holds h A (.row [.bool b] 4 false)) (q1:Holds h B (.row [.int .i64 e] 53 false)) (K:aF) (hk:∀ h',Ext h h'->K (.int .i64 (bm b e)) h'):Ok prog aD ov 139 [.pointer (some ⟨A,0,none⟩),.pointer (some ⟨B,0,none⟩)] h K:=by
 rw [ao h]
 have z:=Ext.refl h
 refine Ok.aw 3 (bq Kw) ?_
 cases b
 .simp only [aa,seval,Lu,q0.lay]
  exact hk _ z.aA
 .simp only [aa,seval,Lu,q0.lay,q1.lay]
  exact hk _ z.aA
theorem oh (b:Bool) (e:Int) (h:Heap) (K:aF) (hk:∀ h' fv,Ext h h'->fp h' fv (bm b e)->K fv h'):Ok prog aD ov 95 [.bool b,.int .i64 e] h K:=by
 rw [ao h]
 have z:=Ext.refl h
 refine Ok.aw 4 (bq N95) ?_
 simp only [aa,seval,c95]
 refine hk _ _ z.aA ⟨⟨_,_,_,rfl⟩,λhc K2 y gz=>?_⟩
 rw [vV]
 exact zBr b e _ _ hc (Holds.di ⟨by rw [bc];simp,by rw [iB];rfl⟩ y) (Holds.di ⟨by rw [bc];simp,by rw [iB];rfl⟩ y) K2 gz
theorem zoD {es:List Int} {e:Int} (hz:∀ x∈es.take i,x=0) (he:es[i]? = some e) (aQ:e≠0):jN es=e:=by
 induction es generalizing i with
 |nil=>simp at he
 |cons x es ih =>
  rw [SY]
  cases i with
  |zero=>simp at he;subst he;rw [az aQ]
  |succ i =>
   rw [aE (hz x (by simp))]
   exact ih (λy hy=>hz y (by rw [QT];exact fB _ hy)) (by simpa using he)
theorem Au (rV:List ab) (es:List Int) (v:ab) (h:Heap) (hl:Sl aM.L5 h v rV) (hs:rV.length<=100) (hlen:es.length=rV.length) (hr:∀ (i:Nat) fv e,rV[i]? = some fv->es[i]? = some e->fp h fv e) (K:aF)
 (hk:∀ h',Ext h h'->K (.int .i64 (jN es)) h'):Ok prog aD ov 94 [v] h K:=by
 rw [ao h]
 have z:=Ext.refl h
 have df:=λ(hh:Heap)=>hl.bo Ro hh
 refine Ok.aw 17 (bq N94) ?_
 simp only [aa,seval,C6,df]
 obtain ⟨I1,aU⟩:∃ I:Nat->Env->Heap->Prop,I=(λn e h'=>∃ (i:Nat) (h1:Heap),h'=h1.lay [] h1.low/\Ext h h1/\(n=rV.length - i/\i<=rV.length/\∀ x∈es.take i,x=0)/\∃ J:Nat->ab,e=(jr J 0 6 (v::.int .i64 rV.length::.int .i64 i::jr J 9 9 ([])))):=⟨_,rfl⟩
 refine dA I1 _ (by rw [aU];exact ⟨0,_,rfl,z,⟨rfl,by omega,by simp⟩,bl⟩) ?_
 intro n e h' aO
 rw [aU] at aO
 obtain ⟨i,bC,rfl,z,hinv,J,rfl⟩:=aO
 obtain ⟨rfl,hi,aH⟩:=hinv
 have hw:=ei i (by omega)
 simp only [aa,seval,C6]
 refine bn (λaT=>?_) (λaT=>?_)
 rotate_left
 .rw [gE (by omega)] at aH
  rw [bY.2 aH] at hk
  simp only [aa,seval,C6]
  exact hk _ z.aA
 obtain ⟨fv,hf,Xy⟩:=eW (l:=rV) (i:=i) (by omega)
 obtain ⟨e,he,ub⟩:=eW (l:=es) (i:=i) (by omega)
 simp only [aa,seval,C6]
 repeat' ((first|with_reducible refine zwk (hl.mono z.inc) Ro zE3 (by omega) hf (λp hp=>?_)|with_reducible refine gj hp zCb ?_) <;> simp only [aa,seval,C6])
 refine (hr i fv e Xy ub).2 _ _ (z.aA.bN []) (λh' x=>?_)
 (replace z:=z.an x;rw [ao h'])
 clear hp
 simp only [aa,seval,C6]
 refine gg (λaQ=>?_) (λheq=>?_)
 .rw [zoD aH ub aQ] at hk
  simp only [aa,seval,C6]
  exact hk _ z.aA
 .simp only [aa,seval,C6]
  rw [hw]
  (rw [aU];with_reducible refine cy (m:=_) ?_ ⟨i+1,_,rfl,z,⟨rfl,by omega,qH (i:=i) (P:=λx:Int=>x=0) ub aH heq⟩,bl⟩;omega)
theorem PQ (l:List au) (who:au) (p0 p1 p2 p5 p6:ab) (q b:Int) (h:Heap) (hl:Sl aM.str h p0 l) (hs:l.length<=1000) (K:aF) (hk:∀ h',Ext h h'->K (.bool (cp l who)) h'):Ok prog aD ov 38 [fI p0 p1 p2 p5 p6 q b,.string who] h K:=by
 rw [ao h]
 have z:=Ext.refl h
 have bR:∀ (h:Heap) (K:aF),aC (some p0) h K=K p0 h:=λ_ _=>rfl
 refine Ok.aw 7 (bq Uu) ?_
 simp only [aa,seval,RE,gZ,eM,bR]
 refine I9 l p0 who _ (hl.lay _ _) hs _ (λh' x=>?_)
 (replace z:=z.an x;rw [ao h'])
 simp only [aa,seval,RE]
 exact hk _ z.aA
theorem zvv {l:List da} {x:da} {s:au} (hz:∀ y∈l.take i,¬ y.name=s) (hx:l[i]? = some x) (he:x.name=s):xi l s=(x.arity,true):=by
 induction l generalizing i with
 |nil=>simp at hx
 |cons y l ih =>
  unfold xi at ih ⊢
  cases i with
  |zero=>simp at hx;subst hx;rw [List.find?_cons_of_pos (by simpa using he)]
  |succ i =>
   rw [List.find?_cons_of_neg (by simpa using hz y (by simp))]
   exact ih (λw hw=>hz w (by rw [QT];exact fB _ hw)) (by simpa using hx)
theorem zqo {l:List da} {s:au} (hz:∀ y∈l,¬ y.name=s):xi l s=(0,false):=by
 unfold xi
 rw [List.find?_eq_none.2 (λx hx=>by simpa using hz x hx)]
theorem zCR (h:Heap) (l:List ba) (w i o:Nat) (v:ab) (hi:i < l.length):iH aD 62 (.pointer (some ⟨h.size+i,o,none⟩)) v (h.lay l w)=if v.cells.size=2 then tI l[i]? i o v.cells.toList h l w else none:=xk mL h l w i o v hi
theorem zwB (l:List da) (who:au) (p0 p1 p2 p5 p6:ab) (q b:Int) (h:Heap) (hl:Sl aM.pred h p1 l) (K:aF) (hk:∀ h',Ext h h'->K (.tuple #[.int .i64 (xi l who).1,.bool (xi l who).2]) h'):Ok prog aD ov 140 [fI p0 p1 p2 p5 p6 q b,.string who] h K:=by
 rw [ao h]
 have z:=Ext.refl h
 have hle:=hl.le
 have bR:∀ (h:Heap) (K:aF),aC (some p1) h K=K p1 h:=λ_ _=>rfl
 have gK:∀ (s:au) (h:Heap) (K:aF),aC (some (.string s)) h K=K (.string s) h:=λ_ _ _=>rfl
 have df:=λ(hh:Heap)=>hl.bo kr hh
 refine Ok.aw 20 (bq Kx) ?_
 simp only [aa,seval,xJ,gZ,ft,bR,df]
 refine na (λh' x hq=>?_)
 have q0:=hq 0 _ rfl
 clear hq
 (replace z:=z.an x;rw [ao h'])
 obtain ⟨I1,aU⟩:∃ I:Nat->Env->Heap->Prop,I=(λn e h'=>∃ (i:Nat) (h1:Heap),h'=h1.lay [] h1.low/\Ext h h1/\(n=l.length - i/\i<=l.length/\∀ y∈l.take i,¬ y.name=who)/\∃ J:Nat->ab,e=(J 0::.string who::jr J 2 7 (p1::.int .i64 l.length::.int .i64 i::jr J 12 10 ([])))):=⟨_,rfl⟩
 refine dA I1 _ (by rw [aU];exact ⟨0,_,rfl,z,⟨rfl,by omega,by simp⟩,bl⟩) ?_
 intro n e h' aO
 rw [aU] at aO
 obtain ⟨i,bC,rfl,z,hinv,J,rfl⟩:=aO
 obtain ⟨rfl,hi,aH⟩:=hinv
 have hw:i < l.length->IntKind.i64.wrap ((i:Int)+1)=((i+1:Nat):Int):=λhh=>by unfold maxLen at hle;rw [wrap_i64 (by omega) (by omega)];omega
 simp only [aa,seval,xJ]
 refine bn (λaT=>?_) (λaT=>?_)
 rotate_left
 .rw [gE (by omega)] at aH
  rw [zqo aH] at hk
  simp only [aa,seval,xJ]
  exact hk _ z.aA
 obtain ⟨r,hr,cw⟩:=eW (l:=l) (i:=i) (by omega)
 repeat' (first|simp only [aa,seval,xJ]|with_reducible refine Q4 (hl.mono z.inc) kr mL (by omega) hr (λp hp=>?_)|with_reducible refine GY hp AZ mL ?_)
 repeat' (first|simp only [aa,seval,xJ,sg,nU,oX,Am.one,sC,oV,zCR,gK]|((with_reducible apply bn) <;> intro _))
 .rw [zvv aH cw (by assumption)] at hk
  exact hk _ z.aA
 .rw [hw (by omega)]
  refine Tf z.aA (λH z hO hI=>?_)
  (rw [aU];with_reducible refine cy (m:=_) ?_ ⟨i+1,_,rfl,z,⟨rfl,by omega,qH (i:=i) (P:=λy:da=>¬ y.name=who) cw aH (by assumption)⟩,bl⟩;omega)
theorem zwC (a:ak) (h:Heap) (cG:bd 1 h) (K:aF) (hk:∀ h',Ext h h'->K (.int .i64 (pB a)) h'):Ok prog aD ov 142 [a.val] h K:=by
 rw [ao h]
 have z:=Ext.refl h
 refine Ok.aw 40 (bq Kz) ?_
 repeat' (simp only [aa,seval,np,eE,zvF])
 refine zm2 _ _ (cG.lay _ _) _ (λhs h' x=>?_) (λhs h' x=>?_)
 rotate_left
 ·(replace z:=z.an x;rw [ao h'])
  repeat' (first|simp only [aa,seval,np]|((with_reducible apply bX);(· rfl)))
  rw [zlY (.inl hs)] at hk
  exact hk _ z.aA
 have q0:=Holds.top (i:=0) x rfl
 (replace z:=z.an x;rw [ao h'])
 repeat' (first|simp only [aa,seval,np,q0.lay,zzW]|((with_reducible apply bX);(· rfl)))
 refine zsB _ _ ((cG.ext z).lay _ _) _ (λhp h' x=>?_) (λhp h' x=>?_)
 rotate_left
 ·(replace z:=z.an x;( replace q0:=q0.over x );rw [ao h'])
  repeat' (first|simp only [aa,seval,np]|((with_reducible apply bX);(· rfl)))
  rw [zlY (.inr hp)] at hk
  exact hk _ z.aA
 (replace z:=z.an x;replace q0:=q0.over x;rw [ao h'])
 repeat' (first|simp only [aa,seval,np,q0.lay,zvG,↓eY,eJ,dX]|((with_reducible apply bn) <;> intro _)|((with_reducible apply bX);(· rfl)))
 all_goals first
  |(rw [zxH hs hp (by omega)] at hk
    exact hk _ z.aA)
  |skip
 have oF:0<=a.n:=by omega
 have Sn:a.n<=4:=by omega
 have ra:a.cO=a.n.toNat:=zCj oF Sn
 refine QN a _ _ (λw h' x sw=>?_)
 (replace z:=z.an x;replace q0:=q0.over x;rw [ao h'])
 repeat' (simp only [aa,seval,np])
 refine zfo a.args w _ sK _ (sw.lay _ _) (by rw [w9];have:=zmx a;omega) (λt hc K' xe hK=>by rw [r9];exact zt2 t hc ((cG.ext z).lay _ _ |>.ext xe) K' hK) _ (λh' x=>?_)
 (replace z:=z.an x;replace q0:=q0.over x;rw [ao h'])
 cases Mu:a.args.any sK
 rotate_left
 .repeat' ( simp only [aa,seval,np])
  rw [zuX hs hp (by omega) Mu] at hk
  exact hk _ z.aA
 rw [zuW hs hp (by omega) Mu,ra] at hk
 obtain ⟨k,amO⟩:=Int.eq_ofNat_of_zero_le oF
 have yw:k<=4:=by omega
 have oa:=zAc
 have fX:=zBA q0 k yw
 have s7:(0:Int)<=a.n/\a.n<=4:=⟨oF,Sn⟩
 repeat' (simp only [aa,seval,np,q0.lay,zvG,zAc _ _ _ oF Sn])
 have Sg:a.n.toNat=k:=by omega
 rw [Sg] at hk ⊢
 obtain ⟨sv,DH⟩:∃ sv,sv=Value.slice (some ⟨h.size+0,if 4=k then 3 else 3+k*2,none⟩) (4 - k) (4 - k):=⟨_,rfl⟩
 rw [<- DH] at fX ⊢
 clear oa
 obtain ⟨I1,aU⟩:∃ I:Nat->Env->Heap->Prop,I=(λn e h'=>∃ (i:Nat) (h1:Heap),h'=h1.lay [] h1.low/\Ext h h1/\(n=4 - k - i/\i<=4 - k/\(∀ t∈(a.all.drop k).take i,t=cT)/\Sl aM.term h1 sv (a.all.drop k))/\∃ J:Nat->ab,e=(jr J 0 31 (sv::.int .i64 ((4 - k:Nat):Int)::.int .i64 i::jr J 34 7 ([])))):=⟨_,rfl⟩
 refine dA I1 _ (by rw [aU];exact ⟨0,_,rfl,z,⟨rfl,by omega,by simp,fX⟩,bl⟩) ?_
 intro n e h' aO
 rw [aU] at aO
 obtain ⟨i,bC,rfl,z,hinv,J,rfl⟩:=aO
 clear fX q0
 obtain ⟨rfl,hi,aH,fX⟩:=hinv
 have fH:=ei i (by omega)
 have Xg:=P6 a k
 simp only [aa,seval,np]
 refine bn (λaT=>?_) (λaT=>?_)
 rotate_left
 .rw [gE (by omega)] at aH
  repeat' (simp only [aa,seval,np])
  rw [az (by rw [xy];rintro ⟨x,hx,e⟩;simp [aH x hx] at e)] at hk
  exact hk _ z.aA
 obtain ⟨⟨rv,rs⟩,hr,cw⟩:=eW (l:=a.all.drop k) (i:=i) (by omega)
 have hri:a.arg (k+i)=⟨rv,rs⟩:=Option.some.inj ((zzT a (by omega)).symm.trans cw)
 repeat' (first|simp only [aa,seval,np,sg,nU,oX,Am.one,sC,oV,vO,aZ.val,aZ.cells,zto,zqt]|((with_reducible apply rJ) <;> intro _)|with_reducible refine Q6 fX zF kL (by omega) hr (λp hp=>?_)|with_reducible refine IV hp sJ kL ?_)
 .have Yg:¬ (⟨rv,rs⟩:aZ)=cT:=‹¬ (⟨rv,rs⟩:aZ)=⟨false,⟨#[]⟩⟩›
  rw [aE (xy.2 ⟨_,ic cw,by simp [Yg]⟩)] at hk
  exact hk _ z.aA
 .have Xw:(⟨rv,rs⟩:aZ)=cT:=‹(⟨rv,rs⟩:aZ)=⟨false,⟨#[]⟩⟩›
  rw [fH]
  refine Tf z.aA (λH z hO hI=>?_)
  (rw [aU];with_reducible refine cy (m:=_) ?_ ⟨i+1,_,rfl,z,⟨rfl,by omega,qH (i:=i) (P:=λt:aZ=>t=cT) cw aH Xw,fX.mono hI⟩,bl⟩;omega)
theorem zyN (a:ak) (A:Nat) (h:Heap) (cG:bd 1 h) (q0:Holds h A (.row a.cells 47 false)) (K:aF) (hk:∀ h',Ext h h'->K (.int .i64 (pB a)) h'):Ok prog aD ov 141 [.pointer (some ⟨A,0,none⟩)] h K:=by
 rw [ao h]
 have z:=Ext.refl h
 refine Ok.aw 3 (bq Ky) ?_
 simp only [aa,seval,Lv,q0.lay,↓eY,eJ,dX]
 refine zwC a _ (cG.lay _ _) _ (λh' x=>?_)
 (replace z:=z.an x;rw [ao h'])
 simp only [aa,seval,Lv]
 exact hk _ z.aA
theorem As (b:Bool) (h:Heap) (K:aF):sy b h K=K (.bool b) h:=by
 unfold sy
 cases b
 .simp
 .simp
theorem AG {bs:List ba} {w c:Nat} {u:TypeId} {ro:Bool} {l:List ab} (hb:bs[i]? = some (.row l u ro)) (h1:l.all Am.one=true) (hc:c=l.length) (hl:l.length<=100):Sl aM.L5 (h.lay bs w) (.slice (some ⟨h.size+i,0,none⟩) l.length c) l:=by
 have hi:=(dP.1 hb).1
 refine .inr ⟨h.size+i,0,c,l,u,ro,rfl,by unfold maxLen;omega,.inl ⟨by unfold G;omega,by omega⟩,by rw [bc];omega,by rw [iB];exact hb,λj x hx=>⟨[x],?_,rfl,iT.1 h1 x (ic hx)⟩⟩
 have hj:=dP.1 hx
 have r5:=hj.1
 show cut l (0+j*1) 1=some [x]
 unfold cut
 rw [aE (by omega),jo,CT,Eg hj.1,hj.2]
 rfl
theorem zmZ (d:aq) (a:ak) (p0 p1 p2 p5 p6:ab) (q b:Int) (h:Heap) (cG:bd 1 h) (bf:(du p0 p1 p2 p5 p6 q b).all Am.one=true) (h0:Sl aM.str h p0 d.ah) (h1:Sl aM.pred h p1 d.bZ) (hs:d.ah.length<=1000) (K:aF) (hk:∀ h',Ext h h'->K (.int .i64 (rP d a)) h'):Ok prog aD ov 97 [fI p0 p1 p2 p5 p6 q b,a.val] h K:=by
 rw [ao h]
 have z:=Ext.refl h
 have gK:∀ (s:au) (h:Heap) (K:aF),aC (some (.string s)) h K=K (.string s) h:=λ_ _ _=>rfl
 refine Ok.aw 29 (bq N97) ?_
 simp only [aa,seval,sQ,gZ,↓fA,eV,eI,eE,zzW,gK]
 refine zwB d.bZ a.pred _ _ _ _ _ _ _ _ (h1.lay _ _) _ (λh' x=>?_)
 have q0:=Holds.top (i:=0) x rfl
 have q1:=Holds.top (i:=1) x rfl
 (replace z:=z.an x;rw [ao h'])
 simp only [aa,seval,sQ]
 rw [As]
 simp only [aa,seval,sQ]
 with_reducible first|refine dL (by simp only [sQ]) z.aA ?_
 simp only [aa,seval,sQ,q0.lay,q1.lay,↓fA,eV,eI,zvF,gK]
 refine PQ d.ah a.says _ _ _ _ _ _ _ _ ((h0.mono z.inc).lay _ _) hs _ (λh' x=>?_)
 (((with_reducible refine cU ?_ ?_ ?_);(· exact (by (simp only [ck]);have:=z.size;omega));(· exact x));replace z:=z.an x;replace q0:=q0.over x;replace q1:=q1.over x;rw [ao h'])
 simp only [aa,seval,sQ]
 (with_reducible apply bX);(· rfl)
 simp only [aa,seval,sQ]
 refine oh _ _ _ _ (λh' f1 x r1=>?_)
 (((with_reducible refine cU ?_ ?_ ?_);(· exact (by (simp only [ck]);have:=z.size;omega));(· exact x));replace z:=z.an x;replace q0:=q0.over x;replace q1:=q1.over x;rw [ao h'])
 simp only [aa,seval,sQ]
 (with_reducible apply bX);(· rfl)
 simp only [aa,seval,sQ]
 refine oh _ _ _ _ (λh' f2 x r2=>?_)
 (((with_reducible refine cU ?_ ?_ ?_);(· exact (by (simp only [ck]);have:=z.size;omega));(· exact x));replace z:=z.an x;replace q0:=q0.over x;replace q1:=q1.over x;replace r1:=r1.over x;rw [ao h'])
 simp only [aa,seval,sQ,q1.lay,zvG]
 rw [As]
 simp only [aa,seval,sQ]
 refine oh _ _ _ _ (λh' f3 x r3=>?_)
 (((with_reducible refine cU ?_ ?_ ?_);(· exact (by (simp only [ck]);have:=z.size;omega));(· exact x));replace z:=z.an x;replace q0:=q0.over x;replace q1:=q1.over x;replace r1:=r1.over x;replace r2:=r2.over x;rw [ao h'])
 obtain ⟨A1,oC⟩:∃ A1,A1=h.size+1:=⟨_,rfl⟩
 rw [<- oC] at q1
 rw [<- oC]
 have r0:fp h' (.func (.func 141) ⟨[]⟩ ⟨[.pointer (some ⟨A1,0,none⟩)]⟩) (pB a):=⟨⟨_,_,_,rfl⟩,λhc K2 y gz=>by rw [vV];exact zyN a A1 hc (Holds.di (cG.ext z) y) (Holds.di q1 y) K2 gz⟩
 obtain ⟨g1,u1,v1,rfl⟩:=r1.1
 obtain ⟨g2,u2,v2,rfl⟩:=r2.1
 obtain ⟨g3,u3,v3,rfl⟩:=r3.1
 simp only [aa,seval,sQ]
 refine w8 (by have:=z.size;omega) (by omega) ?_
 simp only [aa,seval,sQ]
 refine Au [.func (.func 141) ⟨[]⟩ ⟨[.pointer (some ⟨A1,0,none⟩)]⟩,.func g1 u1 v1,.func g2 u2 v2,.func g3 u3 v3] [pB a,bm (!cp d.ah a.says) 6,bm (!(xi d.bZ a.pred).2) 7,bm ((xi d.bZ a.pred).1 != a.n) 8] _ _ (AG (i:=0) rfl rfl rfl (by simp)) (by simp) rfl (λi fv e h1 h2=>?_) _ (λh' x=>?_)
 .match i,h1,h2 with
  |0,h1,h2=>cases h1;cases h2;exact r0.lay _ _
  |1,h1,h2=>cases h1;cases h2;exact r1.lay _ _
  |2,h1,h2=>cases h1;cases h2;exact r2.lay _ _
  |3,h1,h2=>cases h1;cases h2;exact r3.lay _ _
 (((with_reducible refine cU ?_ ?_ ?_);(· exact (by (simp only [ck]);have:=z.size;omega));(· exact x));replace z:=z.an x;replace q0:=q0.over x;replace q1:=q1.over x;replace r1:=r1.over x;replace r2:=r2.over x;replace r3:=r3.over x;rw [ao h'])
 simp only [aa,seval,sQ]
 ((with_reducible refine ⟨z.cn.lay _ _,?_⟩);(intro _ h' zz x _);(simp only [bM,bu] at x);replace q0:=q0.over x;replace q1:=q1.over x;replace r1:=r1.over x;replace r2:=r2.over x;replace r3:=r3.over x;(replace z:=zz);(clear zz);rw [ao h'])
 simp only [aa,seval,sQ]
 have he:jN [pB a,bm (!cp d.ah a.says) 6,bm (!(xi d.bZ a.pred).2) 7,bm ((xi d.bZ a.pred).1 != a.n) 8]=rP d a:=rfl
 rw [he]
 exact hk _ z.aA
theorem zyT (d:aq) (a:ak) (p0 p1 p2 p5 p6:ab) (q b:Int) (A B:Nat) (h:Heap) (cG:bd 1 h) (bf:(du p0 p1 p2 p5 p6 q b).all Am.one=true) (h0:Sl aM.str h p0 d.ah) (h1:Sl aM.pred h p1 d.bZ) (hs:d.ah.length<=1000) (q0:Holds h A (.row (du p0 p1 p2 p5 p6 q b) 28 false)) (q1:Holds h B (.row a.cells 47 false)) (K:aF) (hk:∀ h',Ext h h'->K (.int .i64 (rP d a)) h'):Ok prog aD ov 96 [.pointer (some ⟨A,0,none⟩),.pointer (some ⟨B,0,none⟩)] h K:=by
 rw [ao h]
 have z:=Ext.refl h
 refine Ok.aw 4 (bq N96) ?_
 simp only [aa,seval,c96,q0.lay,q1.lay,↓fA,eV,eI,↓eY,eJ,dX]
 refine zmZ d a _ _ _ _ _ _ _ _ (cG.lay _ _) bf (h0.lay _ _) (h1.lay _ _) hs _ (λh' x=>?_)
 (replace z:=z.an x;rw [ao h'])
 simp only [aa,seval,c96]
 exact hk _ z.aA
theorem zyU (d:aq) (s:au) (a:ak) (p0 p1 p2 p5 p6:ab) (q b:Int) (h:Heap) (cG:bd 1 h) (bf:(du p0 p1 p2 p5 p6 q b).all Am.one=true) (h0:Sl aM.str h p0 d.ah) (h1:Sl aM.pred h p1 d.bZ) (hs:d.ah.length<=1000) (K:aF) (hk:∀ h',Ext h h'->K (.int .i64 (jk d s a)) h'):Ok prog aD ov 58 [fI p0 p1 p2 p5 p6 q b,.string s,a.val] h K:=by
 rw [ao h]
 have z:=Ext.refl h
 have gK:∀ (s:au) (h:Heap) (K:aF),aC (some (.string s)) h K=K (.string s) h:=λ_ _ _=>rfl
 refine Ok.aw 21 (bq N58) ?_
 simp only [aa,seval,tT,gZ,eE]
 refine na (λh' x hq=>?_)
 have q0:=hq 0 _ rfl
 have q1:=hq 1 _ rfl
 clear hq
 (replace z:=z.an x;rw [ao h'])
 obtain ⟨A0,el⟩:∃ A0,A0=h.size+0:=⟨_,rfl⟩
 rw [<- el] at q0
 rw [<- el]
 obtain ⟨A1,oC⟩:∃ A1,A1=h.size+1:=⟨_,rfl⟩
 rw [<- oC] at q1
 rw [<- oC]
 with_reducible first|refine dL (by simp only [tT]) z.aA ?_
 simp only [aa,seval,tT,q0.lay,↓fA,eV,eI]
 refine PQ d.ah s _ _ _ _ _ _ _ _ ((h0.mono z.inc).lay _ _) hs _ (λh' x=>?_)
 (((with_reducible refine cU ?_ ?_ ?_);(· exact (by (simp only [ck]);have:=z.size;omega));(· exact x));replace z:=z.an x;replace q0:=q0.over x;replace q1:=q1.over x;rw [ao h'])
 simp only [aa,seval,tT]
 (with_reducible apply bX);(· rfl)
 simp only [aa,seval,tT]
 refine oh _ _ _ _ (λh' f1 x r1=>?_)
 (((with_reducible refine cU ?_ ?_ ?_);(· exact (by (simp only [ck]);have:=z.size;omega));(· exact x));replace z:=z.an x;replace q0:=q0.over x;replace q1:=q1.over x;rw [ao h'])
 simp only [aa,seval,tT,q1.lay,↓eY,eJ,dX]
 refine zwL a _ _ (λh' x=>?_)
 (((with_reducible refine cU ?_ ?_ ?_);(· exact (by (simp only [ck]);have:=z.size;omega));(· exact x));replace z:=z.an x;replace q0:=q0.over x;replace q1:=q1.over x;replace r1:=r1.over x;rw [ao h'])
 simp only [aa,seval,tT]
 (with_reducible apply bX);(· rfl)
 simp only [aa,seval,tT]
 refine oh _ _ _ _ (λh' f2 x r2=>?_)
 (((with_reducible refine cU ?_ ?_ ?_);(· exact (by (simp only [ck]);have:=z.size;omega));(· exact x));replace z:=z.an x;replace q0:=q0.over x;replace q1:=q1.over x;replace r1:=r1.over x;rw [ao h'])
 simp only [aa,seval,tT,q1.lay,zvF,gK]
 rw [As]
 simp only [aa,seval,tT]
 refine oh _ _ _ _ (λh' f3 x r3=>?_)
 (((with_reducible refine cU ?_ ?_ ?_);(· exact (by (simp only [ck]);have:=z.size;omega));(· exact x));replace z:=z.an x;replace q0:=q0.over x;replace q1:=q1.over x;replace r1:=r1.over x;replace r2:=r2.over x;rw [ao h'])
 have r0:fp h' (.func (.func 96) ⟨[]⟩ ⟨[.pointer (some ⟨A0,0,none⟩),.pointer (some ⟨A1,0,none⟩)]⟩) (rP d a):=⟨⟨_,_,_,rfl⟩,λhc K2 y gz=>by
  rw [vV]
  exact zyT d a _ _ _ _ _ _ _ A0 A1 hc (Holds.di (cG.ext z) y) bf ((h0.mono z.inc).mono y.all) ((h1.mono z.inc).mono y.all) hs (Holds.di q0 y) (Holds.di q1 y) K2 gz⟩
 rw [show decide (a.says≠s) = !decide (a.says=s) by simp] at r3
 obtain ⟨g1,u1,v1,rfl⟩:=r1.1
 obtain ⟨g2,u2,v2,rfl⟩:=r2.1
 obtain ⟨g3,u3,v3,rfl⟩:=r3.1
 simp only [aa,seval,tT]
 refine w8 (by have:=z.size;omega) (by omega) ?_
 simp only [aa,seval,tT]
 refine Au [.func g1 u1 v1,.func (.func 96) ⟨[]⟩ ⟨[.pointer (some ⟨A0,0,none⟩),.pointer (some ⟨A1,0,none⟩)]⟩,.func g2 u2 v2,.func g3 u3 v3] [bm (!cp d.ah s) 6,rP d a,bm (!a.ground) 10,bm (!decide (a.says=s)) 11] _ _ (AG (i:=0) rfl rfl rfl (by simp)) (by simp) rfl (λi fv e h1 h2=>?_) _ (λh' x=>?_)
 .match i,h1,h2 with
  |0,h1,h2=>cases h1;cases h2;exact r1.lay _ _
  |1,h1,h2=>cases h1;cases h2;exact r0.lay _ _
  |2,h1,h2=>cases h1;cases h2;exact r2.lay _ _
  |3,h1,h2=>cases h1;cases h2;exact r3.lay _ _
 (((with_reducible refine cU ?_ ?_ ?_);(· exact (by (simp only [ck]);have:=z.size;omega));(· exact x));replace z:=z.an x;replace q0:=q0.over x;replace q1:=q1.over x;replace r1:=r1.over x;replace r2:=r2.over x;replace r3:=r3.over x;rw [ao h'])
 simp only [aa,seval,tT]
 ((with_reducible refine ⟨z.cn.lay _ _,?_⟩);(intro _ h' zz x _);(simp only [bM,bu] at x);replace q0:=q0.over x;replace q1:=q1.over x;replace r1:=r1.over x;replace r2:=r2.over x;replace r3:=r3.over x;(replace z:=zz);(clear zz);rw [ao h'])
 simp only [aa,seval,tT]
 exact hk _ z.aA
end Go.Proofs.YtiapegieocgmfaaGreatDoor
