/- Walks: ground atoms, variables, clauses and facts that may be, by the document. Written out by fill2.py. No condition. -/
import Derived.Test.YtmamldleclamjaaGreatDoorG31
import Derived.Test.YtmamldleclamjaaGreatDoorG30
set_option linter.unusedSimpArgs false
set_option linter.unusedVariables false
set_option maxRecDepth 100000
set_option maxHeartbeats 0
namespace Go.Proofs.YtmamldleclamjaaGreatDoor
open Go.Am Tryz
variable {c:bw} {g:eJ}
theorem zlw (a:aj) (i:Nat) (hi:i < 4):a.cells[3+i*2+0]? = some (.bool (a.arg i).v):=by
 have:i=0\/i=1\/i=2\/i=3:=by omega
 rcases this with rfl|rfl|rfl|rfl <;> rfl
theorem ztA (a:aj) (i:Nat) (hi:i < 4):a.cells[3+i*2+1]? = some (.string (a.arg i).s):=by
 have:i=0\/i=1\/i=2\/i=3:=by omega
 rcases this with rfl|rfl|rfl|rfl <;> rfl
theorem zDT:cm prog aG .eql 4 (.bool true) (.bool true)=some (.bool true):=by kernel_rfl
theorem zDS:cm prog aG .eql 4 (.bool true) (.bool false)=some (.bool false):=by kernel_rfl
theorem zDR:cm prog aG .eql 4 (.bool false) (.bool true)=some (.bool false):=by kernel_rfl
theorem zDQ:cm prog aG .eql 4 (.bool false) (.bool false)=some (.bool true):=by kernel_rfl
theorem zup (a:aj) (h:Heap) (K:aI) (hk:∀ h',Ext h h'->K (.bool a.ground) h'):Ok prog aG ov 99 [a.val] h K:=by
 rw [ao h]
 have z:=Ext.refl h
 have CI:a.bQ<=4:=by unfold aj.bQ;omega
 refine Ok.aw 14 (bu N99) ?_
 repeat' (simp only [aa,seval,HX,gI])
 refine lZ (λh' x hq=>?_)
 have q0:=hq 0 _ rfl
 clear hq
 (replace z:=z.an x;rw [ao h'])
 obtain ⟨A0,ep⟩:∃ A0,A0=h.size+0:=⟨_,rfl⟩
 rw [<- ep] at q0
 rw [<- ep]
 obtain ⟨I1,aX⟩:∃ I:Nat->Env->Heap->Prop,I=(λn e h'=>∃ (i:Nat) (h1:Heap),h'=h1.lay [] h1.low/\Ext h h1/\(n=a.bQ - i/\i<=a.bQ/\(∀ j,j < i->(a.arg j).v=false)/\Holds h1 A0 (.row a.cells 47 false))/\∃ J:Nat->ah,e=(J 0::.pointer (some ⟨A0,0,none⟩)::J 2::.int .i64 i::jr J 4 11 ([]))):=⟨_,rfl⟩
 refine du I1 _ (by rw [aX];exact ⟨0,_,rfl,z,⟨rfl,by omega,λj hj=>by omega,q0⟩,bm⟩) ?_
 intro n e h' aP
 rw [aX] at aP
 obtain ⟨i,bx,rfl,z,hinv,J,rfl⟩:=aP
 clear q0
 obtain ⟨rfl,hi,aE,q0⟩:=hinv
 have hw:=ei i (by omega)
 simp only [aa,seval,HX,q0.lay,↓eP,ef,dy]
 refine Te a _ _ (λh' x=>?_)
 (replace z:=z.an x;replace q0:=q0.over x;rw [ao h'])
 simp only [aa,seval,HX]
 refine bq (λaW=>?_) (λaW=>?_)
 rotate_left
 .have hg:a.ground=true:=fh.2 (λj hj=>aE j (by omega))
  rw [hg] at hk
  repeat' (simp only [aa,seval,HX])
  exact hk _ z.aC
 have MC:(0:Int)<=(i:Int)/\(i:Int) < 4:=by omega
 have H9:=zlw a i (by omega)
 obtain ⟨vb,o7⟩:∃ vb,(a.arg i).v=vb:=⟨_,rfl⟩
 rw [o7] at H9
 cases vb
 .repeat' ( simp only [aa,seval,HX,q0.lay,MC,H9])
  rw [hw]
  have yi:∀ j,j < i+1->(a.arg j).v=false:=by
   intro j hj
   by_cases lx:j < i
   .exact aE j lx
   .have:j=i:=by omega
    subst this
    exact o7
  (rw [aX];with_reducible refine cy (m:=_) ?_ ⟨i+1,_,rfl,z,⟨rfl,by omega,yi,q0⟩,bm⟩;omega)
 .have hg:a.ground=false:=by
   cases hgg:a.ground
   .rfl
   .rw [fh.1 hgg i (by omega)] at o7
    cases o7
  rw [hg] at hk
  repeat' (simp only [aa,seval,HX,q0.lay,MC,H9])
  exact hk _ z.aC
theorem zpm (a:aj) (bv:Bool) (h:Heap) (K:aI) (hk:∀ w l A h',Ext h h'->Ow aK.str h h' 9 A w l->l.length<=4->(∀ x,x∈l↔∃ i:Nat,i < a.bQ/\(a.arg i).v=bv/\(a.arg i).s=x)->K w h'):Ok prog aG ov 70 [a.val,.bool bv] h K:=by
 rw [ao h]
 have z:=Ext.refl h
 have CI:a.bQ<=4:=by unfold aj.bQ;omega
 refine Ok.aw 50 (bu N70) ?_
 repeat' (simp only [aa,seval,wi,gI])
 refine lZ (λh' x hq=>?_)
 have q0:=hq 0 _ rfl
 clear hq
 (replace z:=z.an x;rw [ao h'])
 have rU:=z.size
 obtain ⟨A0,ep⟩:∃ A0,A0=h.size+0:=⟨_,rfl⟩
 rw [<- ep] at q0
 rw [<- ep]
 have q0l:=q0.lt
 obtain ⟨I1,aX⟩:∃ I:Nat->Env->Heap->Prop,I=(λn e h'=>∃ (i:Nat) (wv:ah) (A:Nat) (l:List au) (h1:Heap),h'=h1.lay [] h1.low/\Ext h h1/\(n=a.bQ - i/\i<=a.bQ/\l.length<=i/\(∀ x,x∈l↔∃ j:Nat,j < i/\(a.arg j).v=bv/\(a.arg j).s=x)/\Ow aK.str h h1 9 A wv l/\A≠A0/\Holds h1 A0 (.row a.cells 47 false))/\∃ J:Nat->ah,e=(J 0::.bool bv::.pointer (some ⟨A0,0,none⟩)::jr J 3 2 (wv::.int .i64 i::jr J 7 45 ([])))):=⟨_,rfl⟩
 refine du I1 _ (by rw [aX];exact ⟨0,.slice none 0 0,A0+1,[],_,rfl,z,⟨rfl,by omega,by simp,by simp,Ow.nil (by omega),by omega,q0⟩,bm⟩) ?_
 intro n e h' aP
 rw [aX] at aP
 obtain ⟨i,wv,A,l,bx,rfl,z,hinv,J,rfl⟩:=aP
 clear q0
 obtain ⟨rfl,hi,s7,bY,ow,WE,q0⟩:=hinv
 have hw:=ei i (by omega)
 simp only [aa,seval,wi,q0.lay,↓eP,ef,dy]
 refine Te a _ _ (λh' x=>?_)
 (replace z:=z.an x;replace q0:=q0.over x;replace ow:=ow.over x;rw [ao h'])
 simp only [aa,seval,wi]
 refine bq (λaW=>?_) (λaW=>?_)
 rotate_left
 .have he:i=a.bQ:=by omega
  rw [he] at bY
  repeat' (simp only [aa,seval,wi])
  exact hk _ _ _ _ z.aC (ow.mono (bH.lay _ _ _)) (by omega) bY
 repeat' (simp only [aa,seval,wi])
 obtain ⟨I2,fF⟩:∃ I:Nat->Env->Heap->Prop,I=(λn e h'=>∃ (k:Nat) (b:Bool) (h1:Heap),h'=h1.lay [] h1.low/\Ext h h1/\(n=i - k/\k<=i/\(b=true↔∃ j:Nat,j < k/\a.arg j=a.arg i)/\Ow aK.str h h1 9 A wv l/\Holds h1 A0 (.row a.cells 47 false))/\∃ J:Nat->ah,e=(J 0::.bool bv::.pointer (some ⟨A0,0,none⟩)::jr J 3 2 (wv::.int .i64 i::.bool b::.int .i64 k::jr J 9 43 ([])))):=⟨_,rfl⟩
 refine du I2 _ (by rw [fF];exact ⟨0,false,_,rfl,z,⟨rfl,by omega,by simp,ow,q0⟩,bm⟩) ?_
 intro n e h' aP
 rw [fF] at aP
 obtain ⟨k,b,bx,rfl,z,hinv,J,rfl⟩:=aP
 clear q0 ow
 obtain ⟨rfl,xU,jG,ow,q0⟩:=hinv
 have qt:=ei k (by omega)
 have MC:(0:Int)<=(i:Int)/\(i:Int) < 4:=by omega
 have rM:=Tq a i (by omega)
 simp only [aa,seval,wi]
 refine bq (λjc=>?_) (λjc=>?_)
 .have zI:(0:Int)<=(k:Int)/\(k:Int) < 4:=by omega
  have Ia:=Tq a k (by omega)
  have mJ:(∃ j:Nat,j < k+1/\a.arg j=a.arg i)↔(∃ j:Nat,j < k/\a.arg j=a.arg i)\/a.arg k=a.arg i:=by
   constructor
   .rintro ⟨j,hj,e⟩
    by_cases Bd:j=k
    .subst Bd
     exact .inr e
    .exact .inl ⟨j,by omega,e⟩
   .rintro (⟨j,hj,e⟩|e)
    .exact ⟨j,by omega,e⟩
    .exact ⟨k,by omega,e⟩
  cases b
  .repeat' (first|simp only [aa,seval,wi,q0.lay,MC,zI,↓rM,↓Ia,zjb,Tc,zn9]|with_reducible refine dL (by simp only [wi]) z.aC ?_|((with_reducible  apply bq ) <;> intro _)|((with_reducible refine ⟨z.cK.lay _ _,?_⟩);(intro _ h' zz x _);( simp only [b9,bG] at x );( replace q0:=q0.over x );( replace ow:=ow.over x );(replace z:=zz);(clear zz);rw [ao h']))
   all_goals rw [qt]
   .have tU:(true=true↔∃ j:Nat,j < k+1/\a.arg j=a.arg i):=by rw [mJ];exact ⟨λ_=>.inr (by assumption),λ_=>rfl⟩
    (rw [fF];with_reducible refine cy (m:=_) ?_ ⟨k+1,true,_,rfl,z,⟨rfl,by omega,tU,ow,q0⟩,bm⟩;omega)
   .have tU:(false=true↔∃ j:Nat,j < k+1/\a.arg j=a.arg i):=by
     rw [mJ,<- jG]
     exact ⟨λe=>.inl e,λe=>e.elim id (λe=>absurd e (by assumption))⟩
    (rw [fF];with_reducible refine cy (m:=_) ?_ ⟨k+1,false,_,rfl,z,⟨rfl,by omega,tU,ow,q0⟩,bm⟩;omega)
  .repeat' (first|simp only [aa,seval,wi]|with_reducible refine dL (by simp only [wi]) z.aC ?_|((with_reducible refine ⟨z.cK.lay _ _,?_⟩);(intro _ h' zz x _);( simp only [b9,bG] at x );( replace q0:=q0.over x );( replace ow:=ow.over x );(replace z:=zz);(clear zz);rw [ao h']))
   rw [qt]
   have tU:(true=true↔∃ j:Nat,j < k+1/\a.arg j=a.arg i):=by rw [mJ];exact ⟨λe=>.inl (jG.1 e),λ_=>rfl⟩
   (rw [fF];with_reducible refine cy (m:=_) ?_ ⟨k+1,true,_,rfl,z,⟨rfl,by omega,tU,ow,q0⟩,bm⟩;omega)
 have sX:k=i:=by omega
 have H9:=zlw a i (by omega)
 have hcS:=ztA a i (by omega)
 have mM:IntKind.i64.wrap ((i:Int)+1)=((i+1:Nat):Int):=hw
 have mJ:∀ x,(∃ j:Nat,j < i+1/\(a.arg j).v=bv/\(a.arg j).s=x)↔(∃ j:Nat,j < i/\(a.arg j).v=bv/\(a.arg j).s=x)\/((a.arg i).v=bv/\(a.arg i).s=x):=by
  intro x
  constructor
  .rintro ⟨j,hj,e⟩
   by_cases Bd:j=i
   .subst Bd
    exact .inr e
   .exact .inl ⟨j,by omega,e⟩
  .rintro (⟨j,hj,e⟩|e)
   .exact ⟨j,by omega,e⟩
   .exact ⟨i,by omega,e⟩
 have lV:(b=true\/¬ (a.arg i).v=bv)->∀ x,x∈l↔∃ j:Nat,j < i+1/\(a.arg j).v=bv/\(a.arg j).s=x:=by
  intro hs x
  rw [mJ,<- bY]
  refine ⟨.inl,λe=>e.elim id (λe=>?_)⟩
  rcases hs with hs|hs
  .obtain ⟨j,hj,ej⟩:=jG.1 hs
   rw [bY]
   exact ⟨j,by omega,by rw [ej];exact e⟩
  .exact absurd e.1 hs
 have oY:(a.arg i).v=bv->∀ x,x∈l++[(a.arg i).s]↔∃ j:Nat,j < i+1/\(a.arg j).v=bv/\(a.arg j).s=x:=by
  intro hs x
  rw [mJ,<- bY,iA,fH]
  exact ⟨λe=>e.imp id (λe=>⟨hs,e.symm⟩),λe=>e.imp id (λe=>e.2.symm)⟩
 obtain ⟨vb,o7⟩:∃ vb,(a.arg i).v=vb:=⟨_,rfl⟩
 rw [o7] at H9 lV oY
 cases vb
 all_goals
  cases bv
  all_goals
   cases b
   all_goals
    repeat' (first|simp only [aa,seval,wi,q0.lay,MC,H9,hcS,zDT,zDS,zDR,zDQ]|((with_reducible apply ct);(· rfl)))
 all_goals first
  |(rw [hw]
    have yr:=lV (by simp)
    (rw [aX];with_reducible refine cy (m:=_) ?_ ⟨i+1,wv,A,l,_,rfl,z,⟨rfl,by omega,by omega,yr,ow,WE,q0⟩,bm⟩;omega))
  |skip
 all_goals
  simp only [dx,seval,ly,T8]
  have lW:=oY rfl
  have Rt:(bx.lay [ba.row [Value.string (a.arg i).s] 9 false] bx.low).size=bx.size+1:=by rw [bd];rfl
  obtain ⟨jV,mI⟩:=Jc (r:=aK.str) (A:=A) (c:=1) (y:=(a.arg i).s) (by decide) (show (bx.lay [ba.row [Value.string (a.arg i).s] 9 false] bx.low).get (bx.size+0)=some (.row [Value.string (a.arg i).s] 9 false) by rw [iB];rfl) rfl
  have hz:=z.size
  obtain ⟨w',h2,A',e1,e2,e3,e4,e5⟩:=uy (t:=22) cG zV rfl (by decide) (by rw [Rt];omega) (ow.mono (bH.lay _ _ _)) jV mI (by omega) (by omega)
  have Bb:=ow.fresh
  have q0l:=q0.lt
  rw [Rt] at e4
  replace z:=(z.lk [ba.row [Value.string (a.arg i).s] 9 false] bx.low (by omega)).step e3 Bb
  clear mJ jG sX
  have q1:=q0.bK e3 (by first|exact WE|exact Ne.symm WE)
  rw [e1,ao h2]
  clear q0 ow
 all_goals
  repeat' (simp only [aa,seval,wi])
  rw [hw]
  (rw [aX];with_reducible refine cy (m:=_) ?_ ⟨i+1,w',A',l++[(a.arg i).s],_,rfl,z,⟨rfl,by omega,by rw [dI,v8];omega,lW,e2,by omega,q1⟩,bm⟩;omega)
theorem zxb (a:aj) (bv:Bool) (h:Heap) (K:aI) (hk:∀ w l h',Ext h h'->Sl aK.str h' w l->l.length<=4->(∀ x,x∈l↔∃ i:Nat,i < a.bQ/\(a.arg i).v=bv/\(a.arg i).s=x)->K w h'):Ok prog aG ov 70 [a.val,.bool bv] h K :=
 zpm a bv h K (λw l A h' x o hl hm=>hk w l h' x (o.sl (by decide)) hl hm)
theorem zzw (a:aj) (h:Heap) (K:aI) (hk:∀ w l h',Ext h h'->Sl aK.str h' w l->l.length<=4->(∀ x,x∈l↔j0 a x)->K w h'):Ok prog aG ov 95 [a.val] h K:=by
 rw [ao h]
 have z:=Ext.refl h
 refine Ok.aw 4 (bu N95) ?_
 repeat' (simp only [aa,seval,c95,gI,↓eP,ef,dy])
 refine zxb a true _ _ (λw l h' x s hl hm=>?_)
 (replace z:=z.an x;rw [ao h'])
 repeat' (simp only [aa,seval,c95])
 exact hk _ _ _ z.aC (s.lay _ _) hl (λx=>(hm x).trans jI.symm)
section
variable {d:aq} {a:aj} {l:aN}
theorem zv0 (h:¬ iC d a=0):lz d a l=iC d a:=by unfold lz;rw [fV,aA h]
theorem zvZ (h:iC d a=0) (h2:6 < l.length):lz d a l=4:=by unfold lz;rw [fV,aB h,fV,pn h2];rfl
theorem zv1 (h:iC d a=0) (h2:¬ 6 < l.length):lz d a l=fc (λ_ x=>iC d x) (l.take 0) (l.drop 0):=by
 unfold lz
 rw [fV,aB h,fV,oL h2,fV]
 show (if Cc d l=0 then (0:Int) else Cc d l)=Cc d l
 split
 .rename_i e;exact e.symm
 .rfl
theorem zom (h:lz d a l=0):j9 a=0/\l.length<=6/\∀ x∈l,j9 x=0:=by
 unfold lz at h
 have h:=dr.1 h
 refine ⟨Tb (h (iC d a) (by simp)),?_,λx hx=>?_⟩
 .have:=(PS (by decide)).1 (h (bj (decide (6 < l.length)) 4) (by simp))
  simpa using this
 .have h2:=kl.1 (h (Cc d l) (by simp))
  obtain ⟨i,hi⟩:=sk hx
  exact Tb (h2 i x hi)
theorem zCt (h:j9 a=0):a.n<=4:=(zkQ h).hi
end
theorem zjX (d:aq) (a:aj) (l:aN) (v:ah) (p0 p1 p2 p5 p6:ah) (q b:Int) (h:Heap) (bt:(dW p0 p1 p2 p5 p6 q b).all Am.one=true) (hd:fx h p0 p1 p2 p5 p6 d) (hl:Sl aK.atom h v l) (K:aI) (hk:∀ h',Ext h h'->K (.int .i64 (lz d a l)) h'):Ok prog aG ov 60 [hU p0 p1 p2 p5 p6 q b,a.val,v] h K:=by
 rw [ao h]
 have z:=Ext.refl h
 have lM:∀ (n:Int) (h:Heap) (K:aI),aH (some (.int .i64 n)) h K=K (.int .i64 n) h:=λ_ _ _=>rfl
 have cU:=λ(hh:Heap)=>hl.bn bF hh
 refine Ok.aw 30 (bu N60) ?_
 simp only [aa,seval,tN,kG,gI,↓iR,gO,fY,↓eP,ef,dy]
 refine zjW d a _ _ _ _ _ _ _ _ bt (hd.lay _ _) _ (λh' x=>?_)
 have q0:=Holds.top (i:=0) x rfl
 (replace z:=z.an x;rw [ao h'])
 obtain ⟨A0,ep⟩:∃ A0,A0=h.size+0:=⟨_,rfl⟩
 rw [<- ep] at q0
 rw [<- ep]
 simp only [aa,seval,tN]
 refine iS (λhc=>?_) (λh0=>?_)
 .rw [zv0 hc] at hk
  simp only [aa,seval,tN]
  exact hk _ z.aC
 simp only [aa,seval,tN,cU]
 refine bq (λh6=>?_) (λh6=>?_)
 .rw [zvZ h0 (by omega)] at hk
  simp only [aa,seval,tN]
  exact hk _ z.aC
 have pK:=zv1 (l:=l) h0 (by omega)
 simp only [aa,seval,tN]
 obtain ⟨I1,aX⟩:∃ I:Nat->Env->Heap->Prop,I=(λn e h'=>∃ (i:Nat) (h1:Heap),h'=h1.lay [] h1.low/\Ext h h1/\(n=l.length - i/\i<=l.length/\lz d a l=fc (λ_ x=>iC d x) (l.take i) (l.drop i)/\Holds h1 A0 (.row (dW p0 p1 p2 p5 p6 q b) 28 false))/\∃ J:Nat->ah,e=(jr J 0 2 (v::.pointer (some ⟨A0,0,none⟩)::jr J 4 4 (.int .i64 i::jr J 9 24 ([]))))):=⟨_,rfl⟩
 refine du I1 _ (by rw [aX];exact ⟨0,_,rfl,z,⟨rfl,by omega,pK,q0⟩,bm⟩) ?_
 intro n e h' aP
 rw [aX] at aP
 obtain ⟨i,bx,rfl,z,hinv,J,rfl⟩:=aP
 clear q0
 obtain ⟨rfl,hi,dQ,q0⟩:=hinv
 have hw:=ei i (by omega)
 simp only [aa,seval,tN,cU]
 refine bq (λaW=>?_) (λaW=>?_)
 rotate_left
 .rw [G5 dQ (by omega)] at hk
  repeat' (simp only [aa,seval,tN])
  exact hk _ z.aC
 obtain ⟨r,hr,bT⟩:=fo (l:=l) (i:=i) (by omega)
 repeat' (first|simp only [aa,seval,tN,q0.lay,↓iR,gO,fY]|with_reducible refine dL (by simp only [tN]) z.aC ?_|with_reducible refine oG (hl.mono z.inc) bF bN (by omega) hr (λp hp=>?_)|with_reducible refine mw hp fD bN ?_)
 refine zjW d r _ _ _ _ _ _ _ _ bt ((hd.mono z.inc).lay _ _) _ (λh' x=>?_)
 (((with_reducible refine cW ?_ ?_ ?_);(· exact (by (simp only [cV]);have:=z.size;omega));(· exact x));replace z:=z.an x;replace q0:=q0.over x;rw [ao h'])
 simp only [aa,seval,tN]
 ((with_reducible refine ⟨z.cK.lay _ _,?_⟩);(intro _ h' zz x _);(simp only [b9,bG] at x);replace q0:=q0.over x;(replace z:=zz);(clear zz);rw [ao h'])
 simp only [aa,seval,tN]
 refine iS (λhc=>?_) (λh0=>?_)
 .rw [qx bT dQ rfl hc] at hk
  simp only [aa,seval,tN]
  exact hk _ z.aC
 .simp only [aa,seval,tN,lM]
  rw [hw]
  (rw [aX];with_reducible refine cy (m:=_) ?_ ⟨i+1,_,rfl,z,⟨rfl,by omega,Hd bT dQ h0,q0⟩,bm⟩;omega)
theorem zvO (s:au):qg aG 44 [(0,.bool true),(1,.string s)]=some (.agg ⟨[.bool true,.string s]⟩):=by kernel_rfl
theorem zvM (a:aZ) (s:au):cm prog aG .eql 44 a.val (.agg ⟨[.bool true,.string s]⟩)=some (.bool (decide (a=⟨true,s⟩))):=zn9 a ⟨true,s⟩
def HL (a:aj) (m:Nat) (s:au):Prop:=∃ j,j < m/\(j:Int) < a.n/\a.arg j=⟨true,s⟩
theorem zvj {a:aj} {m:Nat} {s:au} (hm:(m:Int) < a.n):HL a (m+1) s↔HL a m s\/a.arg m=⟨true,s⟩:=by
 constructor
 .rintro ⟨j,h1,h2,e⟩
  by_cases hj:j=m
  .subst hj;exact .inr e
  .exact .inl ⟨j,by omega,h2,e⟩
 .rintro (⟨j,h1,h2,e⟩|e)
  .exact ⟨j,by omega,h2,e⟩
  .exact ⟨m,by omega,hm,e⟩
theorem zym {a:aj} {m:Nat} {s:au} (hn:a.n<=4) (hm:a.n<=(m:Int)):HL a m s↔j0 a s:=by
 constructor
 .rintro ⟨j,h1,h2,e⟩
  exact ⟨j,by omega,h2,by rw [e],by rw [e]⟩
 .rintro ⟨j,h1,h2,h3,h4⟩
  refine ⟨j,by omega,h2,?_⟩
  cases ha:a.arg j with
  |mk vv ss =>
   rw [ha] at h3 h4
   cases h3
   cases h4
   rfl
theorem zrd (a:aj) (l:aN) (v:ah) (h:Heap) (hl:Sl aK.atom h v l) (hn:l.length<=6) (hvl:∀ x∈l,x.n<=4) (K:aI) (sL:(∀ x,j0 a x->∃ y∈l,j0 y x)->∀ h',Ext h h'->K (.bool true) h') (kS:¬ (∀ x,j0 a x->∃ y∈l,j0 y x)->∀ h',Ext h h'->K (.bool false) h'):Ok prog aG ov 61 [a.val,v] h K:=by
 rw [ao h]
 have z:=Ext.refl h
 have cU:=λ(hh:Heap)=>hl.bn bF hh
 refine Ok.aw 49 (bu N61) ?_
 repeat' (simp only [aa,seval,sH,gI,↓eP,ef,dy])
 refine zzw a _ _ (λw ns h' x sn MS hm=>?_)
 (replace z:=z.an x;rw [ao h'])
 repeat' (simp only [aa,seval,sH])
 have qo:=λ(hh:Heap)=>sn.bn cG hh
 obtain ⟨I1,aX⟩:∃ I:Nat->Env->Heap->Prop,I=(λn e h'=>∃ (i:Nat) (h1:Heap),h'=h1.lay [] h1.low/\Ext h h1/\(n=ns.length - i/\i<=ns.length/\(∀ x∈ns.take i,∃ y∈l,j0 y x)/\Sl aK.str h1 w ns)/\∃ J:Nat->ah,e=(J 0::v::jr J 2 3 (w::.int .i64 i::jr J 7 44 ([])))):=⟨_,rfl⟩
 refine du I1 _ (by rw [aX];exact ⟨0,_,rfl,z,⟨rfl,by omega,by simp,sn⟩,bm⟩) ?_
 intro n e h' aP
 rw [aX] at aP
 obtain ⟨i,bx,rfl,z,hinv,J,rfl⟩:=aP
 clear sn
 obtain ⟨rfl,hi,aE,sn⟩:=hinv
 have gk:=ei i (by omega)
 simp only [aa,seval,sH,qo]
 refine bq (λaW=>?_) (λaW=>?_)
 rotate_left
 .rw [gA (by omega)] at aE
  repeat' (simp only [aa,seval,sH])
  exact sL (λx hx=>aE x ((hm x).2 hx)) _ z.aC
 obtain ⟨s,hs,lL⟩:=fo (l:=ns) (i:=i) (by omega)
 have hsa:j0 a s:=(hm s).1 (fW lL)
 repeat' (simp only [aa,seval,sH])
 obtain ⟨I2,fF⟩:∃ I:Nat->Env->Heap->Prop,I=(λn e h'=>∃ (k:Nat) (b:Bool) (h1:Heap),h'=h1.lay [] h1.low/\Ext h h1/\(n=l.length - k/\k<=l.length/\(b=true↔∃ y∈l.take k,j0 y s)/\Sl aK.str h1 w ns)/\∃ J:Nat->ah,e=(J 0::v::jr J 2 3 (w::.int .i64 i::.bool b::.int .i64 k::jr J 9 42 ([])))):=⟨_,rfl⟩
 refine du I2 _ (by rw [fF];exact ⟨0,false,_,rfl,z,⟨rfl,by omega,by simp,sn⟩,bm⟩) ?_
 intro n e h' aP
 rw [fF] at aP
 obtain ⟨k,b,bx,rfl,z,hinv,J,rfl⟩:=aP
 clear sn
 obtain ⟨rfl,xU,jG,sn⟩:=hinv
 have qt:=ei k (by omega)
 simp only [aa,seval,sH,cU]
 refine bq (λjc=>?_) (λjc=>?_)
 .obtain ⟨r,hr,bT⟩:=fo (l:=l) (i:=k) (by omega)
  have nI:=hvl _ (fW bT)
  have lW:l.take (k+1)=l.take k++[r]:=by rw [nS,bT];rfl
  repeat' (simp only [aa,seval,sH])
  obtain ⟨I3,lE⟩:∃ I:Nat->Env->Heap->Prop,I=(λn e h'=>∃ (m:Nat) (b:Bool) (h1:Heap),h'=h1.lay [] h1.low/\Ext h h1/\(n=4 - m/\m<=4/\(b=true↔(∃ y∈l.take k,j0 y s)\/HL r m s)/\Sl aK.str h1 w ns)/\∃ J:Nat->ah,e=(J 0::v::jr J 2 3 (w::.int .i64 i::.bool b::.int .i64 k::.int .i64 m::jr J 10 41 ([])))):=⟨_,rfl⟩
  refine du I3 _ (by rw [lE];exact ⟨0,b,_,rfl,z,⟨rfl,by omega,by rw [jG];exact ⟨.inl,λh=>h.elim id (λ⟨j,hj,_⟩=>by omega)⟩,sn⟩,bm⟩) ?_
  intro n e h' aP
  rw [lE] at aP
  obtain ⟨m,b,bx,rfl,z,hinv,J,rfl⟩:=aP
  clear sn
  obtain ⟨rfl,ans,CF,sn⟩:=hinv
  have RY:=ei m (by omega)
  simp only [aa,seval,sH]
  repeat' ((first|((with_reducible apply bq) <;> intro _)|with_reducible refine oG (hl.mono z.inc) bF bN (by omega) hr (λp hp=>?_)|with_reducible refine U7 hp DK (λq hq=>?_)|with_reducible refine iY hq Uk ?_) <;> simp only [aa,seval,sH])
  rotate_left
  .have tU:(b=true↔∃ y∈l.take (k+1),j0 y s):=by
    rw [CF,zym nI (by omega),lW]
    simp only [iA,fH]
    constructor
    .rintro (⟨y,h1,h2⟩|h2)
     .exact ⟨y,.inl h1,h2⟩
     .exact ⟨r,.inr rfl,h2⟩
    .rintro ⟨y,h1|rfl,h2⟩
     .exact .inl ⟨y,h1,h2⟩
     .exact .inr h2
   rw [qt]
   (rw [fF];with_reducible refine cy (m:=_) ?_ ⟨k+1,b,_,rfl,z,⟨rfl,by omega,tU,sn⟩,bm⟩;omega)
  have RQ:(m:Int) < r.n:=by omega
  have wA:m < 4:=by omega
  have mJ:=zvj (s:=s) RQ
  cases b
  rotate_left
  .have tU:(true=true↔(∃ y∈l.take k,j0 y s)\/HL r (m+1) s):=⟨λ_=>(CF.1 rfl).imp id (λh=>mJ.2 (.inl h)),λ_=>rfl⟩
   repeat' ((first|with_reducible refine dL (by simp only [sH]) z.aC ?_|((with_reducible refine ⟨z.cK.lay _ _,?_⟩);(intro _ h' zz x _);(simp only [b9,bG] at x);replace sn:=sn.over x;(replace z:=zz);(clear zz);rw [ao h'])) <;> simp only [aa,seval,sH])
   rw [RY]
   (rw [lE];with_reducible refine cy (m:=_) ?_ ⟨m+1,true,_,rfl,z,⟨rfl,by omega,tU,sn⟩,bm⟩;omega)
  repeat' ((first|with_reducible refine dL (by simp only [sH]) z.aC ?_|((with_reducible apply bq) <;> intro _)|with_reducible refine oG (hl.mono z.inc) bF bN (by omega) hr (λp hp=>?_)|with_reducible refine U8 hp B6 (λp hp=>?_)|with_reducible_and_instances refine ixg hp tj (by omega) (by omega) (λp hp=>?_)|with_reducible refine Ix hp sC kC ?_|with_reducible refine qz sn cG nK (by omega) hs (λp hp=>?_)|with_reducible refine iY hp kJ ?_|((with_reducible refine ⟨z.cK.lay _ _,?_⟩);(intro _ h' zz x _);(simp only [b9,bG] at x);replace sn:=sn.over x;(replace z:=zz);(clear zz);rw [ao h'])) <;> simp only [aa,seval,sH,zvO,zvM])
  all_goals rw [RY]
  .have he:r.arg m=⟨true,s⟩:=by assumption
   have tU:(true=true↔(∃ y∈l.take k,j0 y s)\/HL r (m+1) s):=⟨λ_=>.inr (mJ.2 (.inr he)),λ_=>rfl⟩
   (rw [lE];with_reducible refine cy (m:=_) ?_ ⟨m+1,true,_,rfl,z,⟨rfl,by omega,tU,sn⟩,bm⟩;omega)
  .have he:¬ r.arg m=⟨true,s⟩:=by assumption
   have tU:(false=true↔(∃ y∈l.take k,j0 y s)\/HL r (m+1) s):=by
    rw [mJ,CF]
    exact ⟨λh=>h.imp id .inl,λh=>h.imp id (λg=>g.resolve_right he)⟩
   (rw [lE];with_reducible refine cy (m:=_) ?_ ⟨m+1,false,_,rfl,z,⟨rfl,by omega,tU,sn⟩,bm⟩;omega)
 rw [gA (by omega)] at jG
 cases b
 .repeat' (first|simp only [aa,seval,sH]|((with_reducible apply ct);(· rfl)))
  exact kS (λhh=>by have:=jG.2 (hh s hsa);cases this) _ z.aC
 .have Mb:∀ x∈ns.take (i+1),∃ y∈l,j0 y x:=oE (i:=i) (P:=λx=>∃ y∈l,j0 y x) lL aE (jG.1 rfl)
  repeat' (first|simp only [aa,seval,sH]|((with_reducible apply ct);(· rfl)))
  rw [gk]
  (rw [aX];with_reducible refine cy (m:=_) ?_ ⟨i+1,_,rfl,z,⟨rfl,by omega,Mb,sn⟩,bm⟩;omega)
section
variable {d:aq}
theorem zBg (h:¬ rB d.ab=0):oF d=rB d.ab:=by unfold oF;rw [fV,aA h]
theorem zBh (h:rB d.ab=0) (h2:¬ uA d.bJ=0):oF d=uA d.bJ:=by unfold oF;rw [fV,aB h,fV,aA h2]
theorem zBe (h:rB d.ab=0) (h2:uA d.bJ=0) (h3:¬ yZ d.ab d.bf=0):oF d=yZ d.ab d.bf:=by unfold oF;rw [fV,aB h,fV,aB h2,fV,aA h3]
theorem zBf (h:rB d.ab=0) (h2:uA d.bJ=0) (h3:yZ d.ab d.bf=0) (h4:d.dV < 0\/1000 < d.dV\/d.cP < 1\/1048576 < d.cP\/64 < d.rules.length+d.bl.length):oF d=4:=by
 have hb:(decide (d.dV < 0\/1000 < d.dV) || decide (d.cP < 1\/1048576 < d.cP) || decide (64 < d.rules.length+d.bl.length))=true:=by
  simp only [su,jl]
  omega
 unfold oF
 rw [fV,aB h,fV,aB h2,fV,aB h3,fV]
 unfold BW
 rw [hb]
 rfl
theorem zBi (h:rB d.ab=0) (h2:uA d.bJ=0) (h3:yZ d.ab d.bf=0) (h4:¬ (d.dV < 0\/1000 < d.dV\/d.cP < 1\/1048576 < d.cP\/64 < d.rules.length+d.bl.length)):oF d=iv [fc (λ_ c=>tE d c) [] d.rules,fc (λ_ g=>sg d g) [] d.bl]:=by
 have hb:(decide (d.dV < 0\/1000 < d.dV) || decide (d.cP < 1\/1048576 < d.cP) || decide (64 < d.rules.length+d.bl.length))=false:=by
  simp only [Bool.or_eq_false_iff,decide_eq_false_iff_not]
  omega
 unfold oF
 rw [fV,aB h,fV,aB h2,fV,aB h3,fV]
 unfold BW
 rw [hb]
 show (if DD d=0 then (0:Int) else DD d)=DD d
 split
 .rename_i e;exact e.symm
 .rfl
theorem zqQ {a b:Int} (h:¬ a=0):iv [a,b]=a:=by rw [fV,aA h]
theorem zqR {a b:Int} (h:a=0):iv [a,b]=b:=by
 rw [fV,aB h]
 show (if b=0 then (0:Int) else b)=b
 split
 .rename_i e;exact e.symm
 .rfl
theorem zCf (h:¬ lz d c.head c.body=0):tE d c=lz d c.head c.body:=zqQ h
theorem zCe (h:lz d c.head c.body=0) (h2:¬ ∀ x,j0 c.head x->∃ y∈c.body,j0 y x):tE d c=9:=by
 have h3:∃ x,j0 c.head x/\∀ a∈c.body,¬ j0 a x:=Classical.byContradiction λhn=>h2 λx hx=>Classical.byContradiction λhy=>hn ⟨x,hx,λa ha hv=>hy ⟨a,ha,hv⟩⟩
 unfold tE
 rw [zqR h]
 unfold B2
 simp only [h3,decide_true]
 rfl
theorem zCd (h:lz d c.head c.body=0) (h2:∀ x,j0 c.head x->∃ y∈c.body,j0 y x):tE d c=0:=by
 have h3:¬ ∃ x,j0 c.head x/\∀ a∈c.body,¬ j0 a x:=by
  rintro ⟨x,hx,hn⟩
  obtain ⟨y,hy,hv⟩:=h2 x hx
  exact hn y hy hv
 unfold tE
 rw [zqR h]
 unfold B2
 simp only [h3,decide_false]
 rfl
theorem zyQ (h:bh d.ab g.to=false):sg d g=6:=by unfold sg;rw [h];rfl
theorem zwx (h:bh d.ab g.to=true) (h2:g.to=g.head.says):sg d g=11:=by unfold sg;rw [h,pn h2];rfl
theorem zyR (h:bh d.ab g.to=true) (h2:¬ g.to=g.head.says):sg d g=lz d g.head g.body:=by
 unfold sg
 rw [h,oL h2]
 show (if lz d g.head g.body=0 then (0:Int) else lz d g.head g.body)=_
 split
 .rename_i e;exact e.symm
 .rfl
end
theorem zDx (h:Heap) (l:List ba) (w i o:Nat) (v:ah) (hi:i < l.length):iO aG 72 (.pointer (some ⟨h.size+i,o,none⟩)) v (h.lay l w)=if v.cells.size=13 then uC l[i]? i o v.cells.toList h l w else none:=y6 qa h l w i o v hi
theorem zub (d:aq) (p0 p1 p2 p5 p6:ah) (q b:Int) (h:Heap) (bt:(dW p0 p1 p2 p5 p6 q b).all Am.one=true) (hd:fx h p0 p1 p2 p5 p6 d) (hq:d.dV=q) (hb:d.cP=b) (hn:d.bf.length<=70) (K:aI) (hk:∀ h',Ext h h'->K (.int .i64 (oF d)) h'):Ok prog aG ov 33 [hU p0 p1 p2 p5 p6 q b] h K:=by
 rw [ao h]
 have z:=Ext.refl h
 have tf:∀ (h:Heap) (K:aI),aH (some p5) h K=K p5 h:=λ_ _=>rfl
 have uh:∀ (h:Heap) (K:aI),aH (some p6) h K=K p6 h:=λ_ _=>rfl
 have lM:∀ (n:Int) (h:Heap) (K:aI),aH (some (.int .i64 n)) h K=K (.int .i64 n) h:=λ_ _ _=>rfl
 have Bg:=λ(hh:Heap)=>hd.s5.bn mZ hh
 have xY:=λ(hh:Heap)=>hd.s6.bn nX hh
 have ann:=hd.s5.le
 have ano:=hd.s6.le
 have Nj:d.rules.length<=64->d.bl.length<=64->IntKind.i64.wrap ((d.rules.length:Int)+(d.bl.length:Int))=(d.rules.length:Int)+(d.bl.length:Int):=λ_ _=>wrap_i64 (by omega) (by omega)
 refine Ok.aw 133 (bu N33) ?_
 simp only [aa,seval,kh,kG,↓iR,gO,fY]
 refine zj2 d.ab _ _ _ _ _ _ _ _ (hd.s0.lay _ _) _ (λh' x=>?_)
 have q0:=Holds.top (i:=0) x rfl
 (replace z:=z.an x;rw [ao h'])
 obtain ⟨A0,ep⟩:∃ A0,A0=h.size+0:=⟨_,rfl⟩
 rw [<- ep] at q0
 rw [<- ep]
 simp only [aa,seval,kh]
 refine qh (λh0=>?_) (λhc=>?_)
 rotate_left
 .rw [zBg hc] at hk
  repeat' (first|simp only [aa,seval,kh]|((with_reducible first|apply qh|apply iS) <;> intro _))
  all_goals first
   |exact hk _ z.aC
   |(exfalso;omega)
 simp only [aa,seval,kh,q0.lay,↓iR,gO,fY]
 refine zut d.bJ _ _ _ _ _ _ _ _ ((hd.s1.mono z.inc).lay _ _) _ (λh' x=>?_)
 (replace z:=z.an x;replace q0:=q0.over x;rw [ao h'])
 simp only [aa,seval,kh]
 refine qh (λh1=>?_) (λhc=>?_)
 rotate_left
 .rw [zBh h0 hc] at hk
  repeat' (first|simp only [aa,seval,kh]|((with_reducible apply iS) <;> intro _))
  all_goals first
   |exact hk _ z.aC
   |(exfalso;omega)
 simp only [aa,seval,kh,q0.lay,↓iR,gO,fY]
 refine zq7 d _ _ _ _ _ _ _ _ bt ((hd.mono z.inc).lay _ _) hn _ (λh' x=>?_)
 (replace z:=z.an x;replace q0:=q0.over x;rw [ao h'])
 simp only [aa,seval,kh]
 refine iS (λhc=>?_) (λh2=>?_)
 .rw [zBe h0 h1 hc] at hk
  simp only [aa,seval,kh]
  exact hk _ z.aC
 repeat' (first|simp only [aa,seval,kh,q0.lay,Gy,NI,oz,pV,tf,uh,Bg,xY,lM]|((with_reducible apply bq) <;> intro _))
 iterate 7
  .rw [zBf h0 h1 h2 (by first|omega|(have:=Nj (by omega) (by omega);omega))] at hk
   exact hk _ z.aC
 have ae2:=Nj (by omega) (by omega)
 have Ik:¬ (d.dV < 0\/1000 < d.dV\/d.cP < 1\/1048576 < d.cP\/64 < d.rules.length+d.bl.length):=by omega
 rw [zBi h0 h1 h2 Ik] at hk
 have e5:d.rules.length<=64:=by omega
 have e6:d.bl.length<=64:=by omega
 obtain ⟨E5,hE5⟩:∃ e,e=fc (λ_ c=>tE d c) [] d.rules:=⟨_,rfl⟩
 obtain ⟨E6,hE6⟩:∃ e,e=fc (λ_ g=>sg d g) [] d.bl:=⟨_,rfl⟩
 rw [<- hE5,<- hE6] at hk
 obtain ⟨I1,aX⟩:∃ I:Nat->Env->Heap->Prop,I=(λn e h'=>∃ (i:Nat) (h1:Heap),h'=h1.lay [] h1.low/\Ext h h1/\(n=d.rules.length - i/\i<=d.rules.length/\E5=fc (λ_ c=>tE d c) (d.rules.take i) (d.rules.drop i)/\Holds h1 A0 (.row (dW p0 p1 p2 p5 p6 q b) 28 false))/\∃ J:Nat->ah,e=(J 0::.pointer (some ⟨A0,0,none⟩)::jr J 2 2 (.int .i64 i::jr J 5 129 ([])))):=⟨_,rfl⟩
 refine du I1 _ (by rw [aX];exact ⟨0,_,rfl,z,⟨rfl,by omega,hE5,q0⟩,bm⟩) ?_
 intro n e h' aP
 rw [aX] at aP
 obtain ⟨i,bx,rfl,z,hinv,J,rfl⟩:=aP
 clear q0
 obtain ⟨rfl,hi,dQ,q0⟩:=hinv
 have hw:=ei i (by omega)
 simp only [aa,seval,kh,q0.lay,oz,tf,Bg]
 refine bq (λaW=>?_) (λaW=>?_)
 .obtain ⟨r,hr,bT⟩:=fo (l:=d.rules) (i:=i) (by omega)
  repeat' (first|simp only [aa,seval,kh,q0.lay,↓iR,gO,fY,oz,tf]|with_reducible refine dL (by simp only [kh]) z.aC ?_|with_reducible refine QI (hd.s5.mono z.inc) mZ rk (by omega) hr (λp bv hb hp=>?_)|with_reducible refine EK hp Hi (λqq hq=>?_)|with_reducible refine mw hq fD bN ?_|with_reducible refine EL hp Hj (λqq hq=>?_)|with_reducible refine iY hq uH ?_)
  refine zjX d r.head r.body bv _ _ _ _ _ _ _ _ bt ((hd.mono z.inc).lay _ _) (hb.lay _ _) _ (λh' x=>?_)
  (((with_reducible refine cW ?_ ?_ ?_);(· exact (by (simp only [cV]);have:=z.size;omega));(· exact x));replace z:=z.an x;replace q0:=q0.over x;rw [ao h'])
  clear hb
  by_cases pJ:lz d r.head r.body=0
  rotate_left
  .have eG:=qx (f:=λ_ c=>tE d c) bT dQ (zCf pJ) pJ
   rw [eG,zqQ pJ] at hk
   repeat' (first|simp only [aa,seval,kh,lM]|with_reducible refine dL (by simp only [kh]) z.aC ?_|((with_reducible first|apply qh|apply iS) <;> intro _)|((with_reducible refine ⟨z.cK.lay _ _,?_⟩);(intro _ h' zz x _);(simp only [b9,bG] at x);replace q0:=q0.over x;(replace z:=zz);(clear zz);rw [ao h']))
   all_goals first
    |exact hk _ z.aC
    |(exfalso;omega)
  rw [pJ]
  simp only [aa,seval,kh]
  ((with_reducible refine ⟨z.cK.lay _ _,?_⟩);(intro _ h' zz x _);(simp only [b9,bG] at x);replace q0:=q0.over x;(replace z:=zz);(clear zz);rw [ao h'])
  simp only [syms,seval,kh]
  with_reducible first|refine dL (by simp only [kh]) z.aC ?_
  obtain ⟨qu,XO,mN⟩:=zom pJ
  repeat' (first|simp only [aa,seval,kh,q0.lay,oz,tf]|with_reducible refine QI (hd.s5.mono z.inc) mZ rk (by omega) hr (λp bv hb hp=>?_)|with_reducible refine EK hp Hi (λqq hq=>?_)|with_reducible refine mw hq fD bN ?_|with_reducible refine EL hp Hj (λqq hq=>?_)|with_reducible refine iY hq uH ?_)
  refine zrd r.head r.body bv _ (hb.lay _ _) XO (λx hx=>zCt (mN x hx)) _ (λYd h' x=>?_) (λYd h' x=>?_)
  ·(( ((with_reducible refine cW ?_ ?_ ?_);(· exact (by ( simp only [cV] );have:=z.size;omega));(·  exact x )) );replace z:=z.an x;( replace q0:=q0.over x );rw [ao h'])
   repeat' (first|simp only [aa,seval,kh]|((with_reducible apply ct);(· rfl))|((with_reducible refine ⟨z.cK.lay _ _,?_⟩);(intro _ h' zz x _);(simp only [b9,bG] at x);replace q0:=q0.over x;(replace z:=zz);(clear zz);rw [ao h']))
   rw [hw]
   (rw [aX];with_reducible refine cy (m:=_) ?_ ⟨i+1,_,rfl,z,⟨rfl,by omega,Hd (f:=λ_ c=>tE d c) bT dQ (zCd pJ Yd),q0⟩,bm⟩;omega)
  .have eG:=qx (f:=λ_ c=>tE d c) bT dQ (zCe pJ Yd) (by decide)
   rw [eG,zqQ (by decide)] at hk
   (((with_reducible refine cW ?_ ?_ ?_);(· exact (by (simp only [cV]);have:=z.size;omega));(· exact x));replace z:=z.an x;replace q0:=q0.over x;rw [ao h'])
   repeat' (first|simp only [aa,seval,kh]|((with_reducible apply ct);(· rfl))|((with_reducible refine ⟨z.cK.lay _ _,?_⟩);(intro _ h' zz x _);(simp only [b9,bG] at x);replace q0:=q0.over x;(replace z:=zz);(clear zz);rw [ao h']))
   exact hk _ z.aC
 have WH:=G5 dQ (by omega)
 rw [zqR WH] at hk
 clear hi aW hw dQ
 simp only [aa,seval,kh]
 obtain ⟨I2,fF⟩:∃ I:Nat->Env->Heap->Prop,I=(λn e h'=>∃ (i:Nat) (h1:Heap),h'=h1.lay [] h1.low/\Ext h h1/\(n=d.bl.length - i/\i<=d.bl.length/\E6=fc (λ_ g=>sg d g) (d.bl.take i) (d.bl.drop i)/\Holds h1 A0 (.row (dW p0 p1 p2 p5 p6 q b) 28 false))/\∃ J:Nat->ah,e=(J 0::.pointer (some ⟨A0,0,none⟩)::jr J 2 3 (.int .i64 i::jr J 6 128 ([])))):=⟨_,rfl⟩
 refine du I2 _ (by rw [fF];exact ⟨0,_,rfl,z,⟨rfl,by omega,hE6,q0⟩,bm⟩) ?_
 intro n e h' aP
 rw [fF] at aP
 obtain ⟨i,bx,rfl,z,hinv,J,rfl⟩:=aP
 clear q0
 obtain ⟨rfl,hi,dQ,q0⟩:=hinv
 have hw:=ei i (by omega)
 simp only [aa,seval,kh,q0.lay,pV,uh,xY]
 refine bq (λaW=>?_) (λaW=>?_)
 rotate_left
 .rw [G5 dQ (by omega)] at hk
  repeat' (simp only [aa,seval,kh])
  exact hk _ z.aC
 obtain ⟨r,hr,bT⟩:=fo (l:=d.bl) (i:=i) (by omega)
 repeat' (first|simp only [aa,seval,kh,q0.lay,pV,uh,r5,nC,Am.one,Bool.true_and,nR,zDx]|with_reducible refine TW (hd.s6.mono z.inc) nX qa (by omega) hr (λp bv hb hp=>?_)|with_reducible refine ldG hp Ei qa ?_)
 have hob:(r.head.cells++[bv]).all Am.one=true:=by have:=hb.one;simp only [aj.cells,List.all_append,nC,po,this];rfl
 have FD:(r.head.cells++[bv]).length=12:=rfl
 have hbv:∀ (h:Heap) (K:aI),aH (some bv) h K=K bv h:=λ_ _=>rfl
 have Xx:(Value.string r.to::(r.head.cells++[bv]))[0]? = some (.string r.to):=rfl
 have Ie:(Value.string r.to::(r.head.cells++[bv]))[1]? = some (.string r.head.says):=rfl
 have Xy:(Value.string r.to::(r.head.cells++[bv]))[12]? = some bv:=rfl
 have hgc:cut (Value.string r.to::(r.head.cells++[bv])) 1 11=some r.head.cells:=rfl
 rw [aB FD,aB (by rw [FD,hob];rfl),show (Value.string r.to::(r.head.cells++bv::List.drop (r.head.cells++[bv]).length [Value.string ⟨#[]⟩,Value.string ⟨#[]⟩,Value.int IntKind.i64 0,Value.bool false,Value.string ⟨#[]⟩,Value.bool false,Value.string ⟨#[]⟩,Value.bool false,Value.string ⟨#[]⟩,Value.bool false,Value.string ⟨#[]⟩,Value.slice none 0 0]))=Value.string r.to::(r.head.cells++[bv]) from rfl]
 repeat' (simp only [aa,seval,kh,q0.lay,↓iR,gO,fY])
 refine Hf d.ab r.to _ _ _ _ _ _ _ _ ((hd.s0.mono z.inc).lay _ _) _ (λh' x=>?_)
 have g0:=Holds.top (i:=0) x rfl
 (replace z:=z.an x;replace q0:=q0.over x;replace hb:=hb.over x;rw [ao h'])
 obtain ⟨A1,oa⟩:∃ A1,A1=bx.size+0:=⟨_,rfl⟩
 rw [<- oa] at g0
 rw [<- oa]
 rw [DO]
 cases hh:bh d.ab r.to
 .rw [qx (f:=λ_ g=>sg d g) bT dQ (zyQ hh) (by decide)] at hk
  repeat' (first|simp only [aa,seval,kh]|((with_reducible apply ct);(· rfl)))
  exact hk _ z.aC
 repeat' (first|simp only [aa,seval,kh,g0.lay,Xx,Ie,q0.lay,↓iR,gO,fY,↓hgc,ef,dy,Xy,hbv]|((with_reducible apply bq) <;> intro _)|((with_reducible apply ct);(· rfl)))
 .rw [qx (f:=λ_ g=>sg d g) bT dQ (zwx hh (by assumption)) (by decide)] at hk
  exact hk _ z.aC
 have aS:¬ r.to=r.head.says:=by assumption
 refine zjX d r.head r.body bv _ _ _ _ _ _ _ _ bt ((hd.mono z.inc).lay _ _) (hb.lay _ _) _ (λh' x=>?_)
 (replace z:=z.an x;replace q0:=q0.over x;replace g0:=g0.over x;replace hb:=hb.over x;rw [ao h'])
 have MA:=zyR hh aS
 simp only [aa,seval,kh]
 refine iS (λhc=>?_) (λh0=>?_)
 .rw [qx (f:=λ_ g=>sg d g) bT dQ MA hc] at hk
  simp only [aa,seval,kh]
  exact hk _ z.aC
 .simp only [aa,seval,kh,lM]
  rw [hw]
  (rw [fF];with_reducible refine cy (m:=_) ?_ ⟨i+1,_,rfl,z,⟨rfl,by omega,Hd (f:=λ_ g=>sg d g) bT dQ (MA.trans h0),q0⟩,bm⟩;omega)
end Go.Proofs.YtmamldleclamjaaGreatDoor
