/- The code of some functions, node by node, for simp. Written by a program (mkcode.py). No condition. -/
import Derived.Test.YtmamldleclamjaaGreatDoorZQ0
set_option linter.unusedSimpArgs false
set_option linter.unusedVariables false
set_option maxRecDepth 100000
set_option maxHeartbeats 0
noncomputable section
namespace Go.Proofs.YtmamldleclamjaaGreatDoor
open Go.Am Tryz
variable {v:ah} {h:Heap} {Z:Type} {e:Int} {i:Nat} {x:bP}
def N57:=bB f57
def x57:=PLift.up (by have c:=bD N57 f57;simp only [aL,f57,seval] at c;exact nd c <| nd @Hq <| nd @kx <| nd @ni <| nd @gH <| nd @ky <| @VS)
theorem AP:type_of% x57.down:=x57.down
def N92:=bB f92
def x92:=PLift.up (by have c:=bD N92 f92;simp only [aL,f92,seval] at c;exact nd c <| nd @Jr <| nd @Ht <| nd @QC <| nd @yD <| nd @vB <| nd @nj <| nd @gH <| nd @yF <| @Wq)
theorem Re:type_of% x92.down:=x92.down
def N58:=bB f58
def x58:=PLift.up (by have c:=bD N58 f58;simp only [aL,f58,seval] at c;exact nd c <| nd @Em <| nd @Jr <| nd @Ht <| nd @QC <| nd @yD <| nd @vB <| nd @nj <| nd @Gp <| nd @gH <| nd @yF <| @VT)
theorem zo:type_of% x58.down:=x58.down
def N93:=bB f93
def x93:=PLift.up (by have c:=bD N93 f93;simp only [aL,f93,seval] at c;exact nd c <| nd @DM <| nd @TR <| nd @kx <| nd @ni <| nd @eV <| nd @gH <| nd @ky <| @Wr)
theorem zq:type_of% x93.down:=x93.down
def N59:=bB f59
def x59:=PLift.up (by have c:=bD N59 f59;simp only [aL,f59,seval] at c;exact nd c <| nd @zwg <| nd @DM <| nd @Gj <| nd @Gm <| nd @eV <| nd @Gq <| nd @gH <| nd @Gt <| @VU)
theorem rJ:type_of% x59.down:=x59.down
def N94:=bB f94
def x94:=PLift.up (by have c:=bD N94 f94;simp only [aL,f94,seval] at c;exact nd c <| nd @vV <| nd @Hs <| nd @DK <| nd @eV <| nd @nj <| nd @b8 <| nd @gH <| @Ws)
theorem Ct:type_of% x94.down:=x94.down
def N60:=bB f60
def x60:=PLift.up (by have c:=bD N60 f60;simp only [aL,f60,seval] at c;exact nd c <| nd @iM <| nd @eV <| nd @b8 <| nd @gl <| @VV)
theorem tN:type_of% x60.down:=x60.down
def N61:=bB f61
def x61:=PLift.up (by have c:=bD N61 f61;simp only [aL,f61,seval] at c;exact nd c <| nd @DK <| nd @B6 <| nd @kx <| nd @tj <| nd @iM <| nd @nj <| nd @q9 <| nd @b8 <| nd @gH <| nd @ky <| nd @gl <| @VW)
theorem sH:type_of% x61.down:=x61.down
def N33:=bB f33
def x33:=PLift.up (by have c:=bD N33 f33;simp only [aL,f33,seval] at c;exact nd c <| nd @K4 <| nd @QB <| nd @zAn <| nd @TP <| nd @TQ <| nd @vV <| nd @Hi <| nd @Hj <| nd @TS <| nd @QD <| nd @TT <| nd @Gk <| nd @Gl <| nd @BC <| nd @BD <| nd @eV <| nd @nj <| nd @b8 <| nd @k8 <| nd @Ns <| nd @gH <| nd @BE <| nd @BF <| @Vu)
theorem kh:type_of% x33.down:=x33.down
def N42:=bB f42
def x42:=PLift.up (by have c:=bD N42 f42;simp only [aL,f42,seval] at c;exact nd c <| nd @b8 <| @VD)
theorem c42:type_of% x42.down:=x42.down
theorem DO (l:List au) (s:au):qR l s=bh l s:=by
 cases h:bh l s
 .cases g:qR l s
  .rfl
  .rw [cC.2 (kT.1 g)] at h;cases h
 .exact kT.2 (cC.1 h)
theorem zz0 {a:aj} {i:Nat} (h1:jZ a.says) (h2:jZ a.pred) (h3:¬ (a.n < 0\/4 < a.n)) (hi:(i:Int) < a.n) (ht:¬ dt (a.arg i)):j9 a=3 :=
 zl9 h1 h2 h3 (tF.2 ⟨a.arg i,fW (Am.args_at (fJ.2 ⟨by omega,hi⟩)),by unfold HI;simp [ht]⟩)
theorem zx2 {a:aj} (h1:jZ a.says) (h2:jZ a.pred) (h3:¬ (a.n < 0\/4 < a.n)) (aE:∀ j:Nat,(j:Int) < a.n->dt (a.arg j)):j9 a=if (a.all.drop a.bQ).any (λt => !decide (t=cf)) then 15 else 0:=by
 refine zl8 h1 h2 h3 (Aq.2 λt ht=>?_)
 obtain ⟨j,hj,rfl⟩:=pw.1 ht
 unfold HI
 simp [aE j (fJ.1 hj).2]
theorem zvA (a:aj) {k:Nat} (h:k < 4):a.all[k]? = some (a.arg k):=by
 have:k=0\/k=1\/k=2\/k=3:=by omega
 rcases this with rfl|rfl|rfl|rfl <;> rfl
theorem zzG {a:aj} {k:Nat} (h1:a.bQ<=k) (h2:k < 4) (h:¬ a.arg k=cf):(a.all.drop a.bQ).any (λt => !decide (t=cf))=true :=
 tF.2 ⟨a.arg k,fW (i:=k - a.bQ) (by rw [kL,show a.bQ+(k - a.bQ)=k by omega];exact zvA a h2),by simp [h]⟩
theorem zxF {a:aj} (h:∀ k,a.bQ<=k->k < 4->a.arg k=cf):(a.all.drop a.bQ).any (λt => !decide (t=cf))=false:=by
 refine Aq.2 λt ht=>?_
 obtain ⟨i,hi⟩:=sk ht
 rw [kL] at hi
 have h4:a.bQ+i < 4:=(dH.1 hi).1
 rw [zvA a h4] at hi
 cases hi
 simp [h _ (Nat.le_add_right _ _) h4]
theorem zwZ (a:aj) (h:Heap) (K:aI) (hk:∀ h',Ext h h'->K (.int .i64 (j9 a)) h'):Ok prog aG ov 128 [a.val] h K:=by
 rw [ao h]
 have z:=Ext.refl h
 refine Ok.aw 46 (bu Kj) ?_
 repeat' (simp only [aa,seval,kf,gI,zqz])
 refine zna _ _ _ (λhs h' x=>?_) (λhs h' x=>?_)
 rotate_left
 ·(replace z:=z.an x;rw [ao h'])
  repeat' (first|simp only [aa,seval,kf]|((with_reducible apply ct);(· rfl)))
  rw [SS (.inl hs)] at hk
  exact hk _ z.aC
 have q0:=Holds.top (i:=0) x rfl
 (replace z:=z.an x;rw [ao h'])
 repeat' (first|simp only [aa,seval,kf,q0.lay,zvV]|((with_reducible apply ct);(· rfl)))
 refine zsG _ _ _ (λhp h' x=>?_) (λhp h' x=>?_)
 rotate_left
 ·(replace z:=z.an x;( replace q0:=q0.over x );rw [ao h'])
  repeat' (first|simp only [aa,seval,kf]|((with_reducible apply ct);(· rfl)))
  rw [SS (.inr hp)] at hk
  exact hk _ z.aC
 (replace z:=z.an x;replace q0:=q0.over x;rw [ao h'])
 repeat' (first|simp only [aa,seval,kf,q0.lay,Tz]|((with_reducible apply bq) <;> intro _)|((with_reducible apply ct);(· rfl)))
 all_goals try (rw [zpX hs hp (by omega)] at hk;exact hk _ z.aC)
 have h3:¬ (a.n < 0\/4 < a.n):=by omega
 have vk:0<=a.n:=by omega
 have Ik:a.n<=4:=by omega
 obtain ⟨I1,aX⟩:∃ I:Nat->Env->Heap->Prop,I=(λn e h'=>∃ (i:Nat) (h1:Heap),h'=h1.lay [] h1.low/\Ext h h1/\(n=4 - i/\(i:Int)<=a.n/\(∀ j,j < i->dt (a.arg j))/\Holds h1 (h.size+0) (.row a.cells 47 false))/\∃ J:Nat->ah,e=(J 0::.pointer (some ⟨h.size+0,0,none⟩)::J 2::.int .i64 i::jr J 4 43 ([]))):=⟨_,rfl⟩
 refine du I1 _ (by rw [aX];exact ⟨0,_,rfl,z,⟨rfl,by omega,λj hj=>by omega,q0⟩,bm⟩) ?_
 intro n e h' aP
 rw [aX] at aP
 obtain ⟨i,bx,rfl,z,hinv,J,rfl⟩:=aP
 clear q0
 obtain ⟨rfl,hi,aE,q0⟩:=hinv
 have gk:=ei i (by omega)
 simp only [aa,seval,kf,q0.lay,Tz]
 refine bq (λaW=>?_) (λaW=>?_)
 .have sW:(0:Int)<=(i:Int)/\(i:Int) < 4:=by omega
  have rM:=Tq a i (by omega)
  repeat' (simp only [aa,seval,kf,q0.lay,sW,↓rM,zjb,Tc])
  refine zzu _ _ _ (λht h' x=>?_) (λht h' x=>?_)
  ·(replace z:=z.an x;( replace q0:=q0.over x );rw [ao h'])
   have yi:∀ j,j < i+1->dt (a.arg j):=by
    intro j hj
    by_cases lx:j < i
    .exact aE j lx
    .have:j=i:=by omega
     subst this
     exact ht
   repeat' (first|simp only [aa,seval,kf]|((with_reducible apply ct);(· rfl)))
   rw [gk]
   (rw [aX];with_reducible refine cy (m:=_) ?_ ⟨i+1,_,rfl,z,⟨rfl,by omega,yi,q0⟩,bm⟩;omega)
  ·(replace z:=z.an x;( replace q0:=q0.over x );rw [ao h'])
   repeat' (first|simp only [aa,seval,kf]|((with_reducible apply ct);(· rfl)))
   rw [zz0 hs hp h3 (i:=i) (by omega) ht] at hk
   exact hk _ z.aC
 have aP:a.n=(i:Int):=by omega
 have CI:a.bQ=i:=by unfold aj.bQ;omega
 rw [zx2 hs hp h3 (λj hj=>aE j (by omega))] at hk
 repeat' (simp only [aa,seval,kf,q0.lay,Tz])
 rw [aP]
 obtain ⟨I2,fF⟩:∃ I:Nat->Env->Heap->Prop,I=(λn e h'=>∃ (k:Nat) (h1:Heap),h'=h1.lay [] h1.low/\Ext h h1/\(n=4 - k/\i<=k/\k<=4/\(∀ j,i<=j->j < k->a.arg j=cf)/\Holds h1 (h.size+0) (.row a.cells 47 false))/\∃ J:Nat->ah,e=(J 0::.pointer (some ⟨h.size+0,0,none⟩)::jr J 2 2 (.int .i64 k::jr J 5 42 ([])))):=⟨_,rfl⟩
 refine du I2 _ (by rw [fF];exact ⟨i,_,rfl,z,⟨rfl,by omega,by omega,λj h1 h2=>by omega,q0⟩,bm⟩) ?_
 intro n e h' aP
 rw [fF] at aP
 obtain ⟨k,zr,rfl,z,hinv,J,rfl⟩:=aP
 clear q0
 obtain ⟨rfl,vd,zI,gj,q0⟩:=hinv
 have qt:=ei k (by omega)
 simp only [aa,seval,kf]
 refine bq (λaW=>?_) (λaW=>?_)
 rotate_left
 .repeat' ( simp only [aa,seval,kf])
  rw [zxF (λj g1 g2=>gj j (by omega) (by omega))] at hk
  exact hk _ z.aC
 have sW:(0:Int)<=(k:Int)/\(k:Int) < 4:=by omega
 have rM:=Tq a k (by omega)
 simp only [aa,seval,kf,q0.lay,sW,↓rM,zjb,Tc,zBb,zoa]
 refine Hk (λaS=>?_) (λheq=>?_)
 .repeat' ( simp only [aa,seval,kf])
  rw [zzG (k:=k) (by omega) (by omega) aS] at hk
  exact hk _ z.aC
 .have yi:∀ j,i<=j->j < k+1->a.arg j=cf:=by
   intro j h1 h2
   by_cases lx:j < k
   .exact gj j h1 lx
   .have:j=k:=by omega
    subst this
    exact heq
  repeat' (simp only [aa,seval,kf])
  rw [qt]
  (rw [fF];with_reducible refine cy (m:=_) ?_ ⟨k+1,_,rfl,z,⟨rfl,by omega,by omega,yi,q0⟩,bm⟩;omega)
theorem zsX {r:aK Z} {l:List Z} (f:Sl r h v l):∃ a n c,v=.slice a n c:=by
 rcases f with ⟨rfl,_⟩|⟨A,o,c,row,u,ro,rfl,_⟩ <;> exact ⟨_,_,_,rfl⟩
theorem zr4 (a:Option Addr) (n c:Nat):qg aG 28 [(0,.slice a n c)]=some (hU (.slice a n c) (.slice none 0 0) (.slice none 0 0) (.slice none 0 0) (.slice none 0 0) 0 0):=by kernel_rfl
theorem zyC (a:Option Addr) (n c:Nat):qg aG 28 [(1,.slice a n c)]=some (hU (.slice none 0 0) (.slice a n c) (.slice none 0 0) (.slice none 0 0) (.slice none 0 0) 0 0):=by kernel_rfl
theorem zxU {l:List au} (f:Sl aK.str h v l) (i:Nat) (hi:i<=l.length):∃ a n c,jL aG 22 v none (some (.int .i64 i)) none=some (.slice a n c)/\Sl aK.str h (.slice a n c) (l.take i):=by
 obtain ⟨u1,g1,g2⟩:=f.sub (a:=0) (b:=i) (by decide) cG nK (.inl ⟨rfl,rfl⟩) (.inr ⟨.i64,rfl⟩) (by omega) hi
 obtain ⟨a,n,c,rfl⟩:=zsX g2
 exact ⟨a,n,c,g1,by simpa using g2⟩
theorem zzU {l:List bP} (f:Sl aK.pred h v l) (i:Nat) (hi:i<=l.length):∃ a n c,jL aG 23 v none (some (.int .i64 i)) none=some (.slice a n c)/\Sl aK.pred h (.slice a n c) (l.take i):=by
 obtain ⟨u1,g1,g2⟩:=f.sub (a:=0) (b:=i) (by decide) kj my (.inl ⟨rfl,rfl⟩) (.inr ⟨.i64,rfl⟩) (by omega) hi
 obtain ⟨a,n,c,rfl⟩:=zsX g2
 exact ⟨a,n,c,g1,by simpa using g2⟩
theorem zlP (l:List bP) (aR:au) (p0 p1 p2 p5 p6:ah) (q b:Int) (h:Heap) (hl:Sl aK.pred h p1 l) (K:aI) (hk:∀ h',Ext h h'->K (.tuple #[.int .i64 (nP l aR).1,.bool (nP l aR).2]) h'):Ok prog aG ov 92 [hU p0 p1 p2 p5 p6 q b,.string aR] h K:=by
 rw [ao h]
 have z:=Ext.refl h
 have hle:=hl.le
 have el:∀ (h:Heap) (K:aI),aH (some p1) h K=K p1 h:=λ_ _=>rfl
 have cU:=λ(hh:Heap)=>hl.bn kj hh
 refine Ok.aw 26 (bu N92) ?_
 repeat' (simp only [aa,seval,Re,kG])
 refine lZ (λh' x hq=>?_)
 have q0:=hq 0 _ rfl
 clear hq
 (replace z:=z.an x;rw [ao h'])
 obtain ⟨A0,ep⟩:∃ A0,A0=h.size+0:=⟨_,rfl⟩
 rw [<- ep] at q0
 rw [<- ep]
 obtain ⟨I1,aX⟩:∃ I:Nat->Env->Heap->Prop,I=(λn e h'=>∃ (i:Nat) (h1:Heap),h'=h1.lay [] h1.low/\Ext h h1/\(n=l.length - i/\i<=l.length/\(∀ y∈l.take i,¬ y.name=aR)/\Holds h1 A0 (.row (dW p0 p1 p2 p5 p6 q b) 28 false))/\∃ J:Nat->ah,e=(J 0::.string aR::.pointer (some ⟨A0,0,none⟩)::jr J 3 3 (.int .i64 i::jr J 7 21 ([])))):=⟨_,rfl⟩
 refine du I1 _ (by rw [aX];exact ⟨0,_,rfl,z,⟨rfl,by omega,by simp,q0⟩,bm⟩) ?_
 intro n e h' aP
 rw [aX] at aP
 obtain ⟨i,bx,rfl,z,hinv,J,rfl⟩:=aP
 clear q0
 obtain ⟨rfl,hi,aE,q0⟩:=hinv
 have hw:i < l.length->IntKind.i64.wrap ((i:Int)+1)=((i+1:Nat):Int):=λhh=>by unfold maxLen at hle;rw [wrap_i64 (by omega) (by omega)];omega
 simp only [aa,seval,Re,q0.lay,lP,el,cU]
 refine bq (λaW=>?_) (λaW=>?_)
 rotate_left
 .repeat' ( simp only [aa,seval,Re])
  rw [gA (by omega)] at aE
  rw [zje aE] at hk
  exact hk _ z.aC
 obtain ⟨r,hr,bT⟩:=fo (l:=l) (i:=i) (by omega)
 repeat' (first|simp only [aa,seval,Re,q0.lay,lP,el]|((with_reducible apply bq) <;> intro _)|with_reducible refine QH (hl.mono z.inc) kj my (by omega) hr (λp hp=>?_)|with_reducible refine xu hp Ht (λq hq=>?_)|with_reducible refine LH hp QC (λq hq=>?_)|with_reducible refine iY hq kJ ?_|with_reducible refine iY hq Uk ?_)
 .rw [zn5 aE bT (by assumption)] at hk
  exact hk _ z.aC
 .have aS:¬ r.name=aR:=by assumption
  rw [hw (by omega)]
  (rw [aX];with_reducible refine cy (m:=_) ?_ ⟨i+1,_,rfl,z,⟨rfl,by omega,oE (i:=i) (P:=λy:bP=>¬ y.name=aR) bT aE aS,q0⟩,bm⟩;omega)
section
variable {d:aq} {a:aj}
theorem zAW (h:¬ j9 a=0):iC d a=j9 a:=by unfold iC;rw [fV,aA h]
theorem zAU (h:j9 a=0) (h1:bh d.ab a.says=false):iC d a=6:=by unfold iC;rw [fV,aB h,fV,h1];rfl
theorem zAV (h:j9 a=0) (h1:bh d.ab a.says=true) (h2:(nP d.bJ a.pred).2=false):iC d a=7:=by unfold iC;rw [fV,aB h,fV,h1,h2];rfl
theorem zAT (h:j9 a=0) (h1:bh d.ab a.says=true) (h2:(nP d.bJ a.pred).2=true) (h3:¬ (nP d.bJ a.pred).1=a.n):iC d a=8:=by unfold iC;rw [fV,aB h,fV,h1,h2,oL h3];rfl
theorem zAS (h:j9 a=0) (h1:bh d.ab a.says=true) (h2:(nP d.bJ a.pred).2=true) (h3:(nP d.bJ a.pred).1=a.n):iC d a=0:=by unfold iC;rw [fV,aB h,fV,h1,h2,pn h3];rfl
end
theorem zjW (d:aq) (a:aj) (p0 p1 p2 p5 p6:ah) (q b:Int) (h:Heap) (bt:(dW p0 p1 p2 p5 p6 q b).all Am.one=true) (hd:fx h p0 p1 p2 p5 p6 d) (K:aI) (hk:∀ h',Ext h h'->K (.int .i64 (iC d a)) h'):Ok prog aG ov 94 [hU p0 p1 p2 p5 p6 q b,a.val] h K:=by
 rw [ao h]
 have z:=Ext.refl h
 have lM:∀ (n:Int) (h:Heap) (K:aI),aH (some (.int .i64 n)) h K=K (.int .i64 n) h:=λ_ _ _=>rfl
 refine Ok.aw 31 (bu N94) ?_
 simp only [aa,seval,Ct,kG,gI,↓eP,ef,dy]
 refine zwZ a _ _ (λh' x=>?_)
 have q0:=Holds.top (i:=0) x rfl
 have e0:=Holds.top (i:=1) x rfl
 (replace z:=z.an x;rw [ao h'])
 simp only [aa,seval,Ct]
 refine iS (λhc=>?_) (λh0=>?_)
 .rw [zAW hc] at hk
  simp only [aa,seval,Ct]
  exact hk _ z.aC
 simp only [aa,seval,Ct,q0.lay,e0.lay,↓iR,gO,fY,zqz]
 refine Hf d.ab a.says _ _ _ _ _ _ _ _ ((hd.s0.mono z.inc).lay _ _) _ (λh' x=>?_)
 (replace z:=z.an x;replace q0:=q0.over x;replace e0:=e0.over x;rw [ao h'])
 rw [DO]
 cases hh:bh d.ab a.says
 .rw [zAU h0 hh] at hk
  repeat' (first|simp only [aa,seval,Ct]|((with_reducible apply ct);(· rfl)))
  exact hk _ z.aC
 repeat' (first|simp only [aa,seval,Ct,q0.lay,e0.lay,↓iR,gO,fY,zvV]|((with_reducible apply ct);(· rfl)))
 refine zlP d.bJ a.pred _ _ _ _ _ _ _ _ ((hd.s1.mono z.inc).lay _ _) _ (λh' x=>?_)
 (replace z:=z.an x;replace q0:=q0.over x;replace e0:=e0.over x;rw [ao h'])
 cases h2:(nP d.bJ a.pred).2
 .rw [zAV h0 hh h2] at hk
  repeat' (first|simp only [aa,seval,Ct]|((with_reducible apply ct);(· rfl)))
  exact hk _ z.aC
 repeat' (first|simp only [aa,seval,Ct,e0.lay,Tz,lM]|((with_reducible apply iS) <;> intro _)|((with_reducible apply ct);(· rfl)))
 .rw [zAT h0 hh h2 (by assumption)] at hk
  exact hk _ z.aC
 .rw [zAS h0 hh h2 (by assumption)] at hk
  exact hk _ z.aC
def fP (pre:List au) (w:au):Int:=iv [bj (!oI w) 3,bj (bh pre w) 5]
theorem UZ {pre:List au} {w:au} (h:¬ jZ w):fP pre w=3:=by unfold fP;rw [Ta h];rfl
theorem U0 {pre:List au} {w:au} (h:jZ w) (h2:bh pre w=true):fP pre w=5:=by unfold fP;rw [bZ.2 h,h2];rfl
theorem UY {pre:List au} {w:au} (h:jZ w) (h2:bh pre w=false):fP pre w=0:=by unfold fP;rw [bZ.2 h,h2];rfl
theorem qx {f:List Z->Z->Int} {l:List Z} {x:Z} {c:Int} (hx:l[i]? = some x) (he:e=fc f (l.take i) (l.drop i)) (hc:f (l.take i) x=c) (h0:c≠0):e=c:=by
 rw [he,rW hx,hc,aA h0]
theorem Hd {f:List Z->Z->Int} {l:List Z} {x:Z} (hx:l[i]? = some x) (he:e=fc f (l.take i) (l.drop i)) (hc:f (l.take i) x=0):e=fc f (l.take (i+1)) (l.drop (i+1)):=by
 rw [he,rW hx,aB hc]
theorem G5 {f:List Z->Z->Int} {l:List Z} (he:e=fc f (l.take i) (l.drop i)) (hi:l.length<=i):e=0:=by rw [he,Ds hi]
theorem zj2 (l:List au) (p0 p1 p2 p5 p6:ah) (q b:Int) (h:Heap) (hl:Sl aK.str h p0 l) (K:aI) (hk:∀ h',Ext h h'->K (.int .i64 (rB l)) h'):Ok prog aG ov 57 [hU p0 p1 p2 p5 p6 q b] h K:=by
 rw [ao h]
 have z:=Ext.refl h
 have el:∀ (h:Heap) (K:aI),aH (some p0) h K=K p0 h:=λ_ _=>rfl
 have cU:=λ(hh:Heap)=>hl.bn cG hh
 refine Ok.aw 38 (bu N57) ?_
 repeat' (first|simp only [aa,seval,AP,kG,lO,el,cU]|((with_reducible apply bq) <;> intro _))
 iterate 2
  .rw [show rB l=4 from aB (by omega)] at hk
   exact hk _ z.aC
 have pK:rB l=fc fP (l.take 0) (l.drop 0):=aA (by omega)
 refine lZ (λh' x hq=>?_)
 have q0:=hq 0 _ rfl
 clear hq
 (replace z:=z.an x;rw [ao h'])
 obtain ⟨A0,ep⟩:∃ A0,A0=h.size+0:=⟨_,rfl⟩
 rw [<- ep] at q0
 rw [<- ep]
 obtain ⟨I1,aX⟩:∃ I:Nat->Env->Heap->Prop,I=(λn e h'=>∃ (i:Nat) (h1:Heap),h'=h1.lay [] h1.low/\Ext h h1/\(n=l.length - i/\i<=l.length/\rB l=fc fP (l.take i) (l.drop i)/\Holds h1 A0 (.row (dW p0 p1 p2 p5 p6 q b) 28 false))/\∃ J:Nat->ah,e=(J 0::.pointer (some ⟨A0,0,none⟩)::J 2::.int .i64 i::jr J 4 35 ([]))):=⟨_,rfl⟩
 refine du I1 _ (by rw [aX];exact ⟨0,_,rfl,z,⟨rfl,by omega,pK,q0⟩,bm⟩) ?_
 intro n e h' aP
 rw [aX] at aP
 obtain ⟨i,bx,rfl,z,hinv,J,rfl⟩:=aP
 clear q0
 obtain ⟨rfl,hi,dQ,q0⟩:=hinv
 have hw:=ei i (by omega)
 simp only [aa,seval,AP,q0.lay,lO,el,cU]
 refine bq (λaW=>?_) (λaW=>?_)
 rotate_left
 .rw [G5 dQ (by omega)] at hk
  repeat' (simp only [aa,seval,AP])
  exact hk _ z.aC
 obtain ⟨r,hr,bT⟩:=fo (l:=l) (i:=i) (by omega)
 obtain ⟨a,m,c,g1,g2⟩:=zxU hl i hi
 have gN:∀ (h:Heap) (K:aI),aH (some (.slice a m c)) h K=K (.slice a m c) h:=λ_ _=>rfl
 repeat' (first|simp only [aa,seval,AP,q0.lay,lO,el]|with_reducible refine qz (hl.mono z.inc) cG nK (by omega) hr (λp hp=>?_)|with_reducible refine iY hp kJ ?_)
 refine zna _ _ _ (λhs h' x=>?_) (λhs h' x=>?_)
 rotate_left
 .rw [qx bT dQ (UZ hs) (by decide)] at hk
  (replace z:=z.an x;replace q0:=q0.over x;rw [ao h'])
  repeat' (first|simp only [aa,seval,AP]|((with_reducible apply ct);(· rfl)))
  exact hk _ z.aC
 (replace z:=z.an x;replace q0:=q0.over x;rw [ao h'])
 repeat' (first|simp only [aa,seval,AP,q0.lay,lO,el,g1,gN,zr4,fY]|with_reducible refine dL (by simp only [AP]) z.aC ?_|with_reducible refine qz (hl.mono z.inc) cG nK (by omega) hr (λp hp=>?_)|with_reducible refine iY hp kJ ?_|((with_reducible apply ct);(· rfl)))
 refine Hf (l.take i) r _ _ _ _ _ _ _ _ ((g2.mono z.inc).lay _ _) _ (λh' x=>?_)
 (((with_reducible refine cW ?_ ?_ ?_);(· exact (by (simp only [cV]);have:=z.size;omega));(· exact x));replace z:=z.an x;replace q0:=q0.over x;rw [ao h'])
 rw [DO]
 cases hh:bh (l.take i) r
 .repeat' (first|simp only [aa,seval,AP]|((with_reducible refine ⟨z.cK.lay _ _,?_⟩);(intro _ h' zz x _);( simp only [b9,bG] at x );( replace q0:=q0.over x );(replace z:=zz);(clear zz);rw [ao h']))
  rw [hw]
  (rw [aX];with_reducible refine cy (m:=_) ?_ ⟨i+1,_,rfl,z,⟨rfl,by omega,Hd bT dQ (UY hs hh),q0⟩,bm⟩;omega)
 .rw [qx bT dQ (U0 hs hh) (by decide)] at hk
  repeat' (first|simp only [aa,seval,AP]|((with_reducible refine ⟨z.cK.lay _ _,?_⟩);(intro _ h' zz x _);(simp only [b9,bG] at x);replace q0:=q0.over x;(replace z:=zz);(clear zz);rw [ao h']))
  exact hk _ z.aC
def fR (pre:List bP) (x:bP):Int:=iv [bj (!oI x.name) 3,bj (bh (pre.map bP.name) x.name) 5,bj (decide (x.arity < 0\/4 < x.arity)) 4]
theorem U2 {pre:List bP} (h:¬ jZ x.name):fR pre x=3:=by unfold fR;rw [Ta h];rfl
theorem U3 {pre:List bP} (h:jZ x.name) (h2:bh (pre.map bP.name) x.name=true):fR pre x=5:=by unfold fR;rw [bZ.2 h,h2];rfl
theorem LG {pre:List bP} (h:jZ x.name) (h2:bh (pre.map bP.name) x.name=false) (h3:x.arity < 0\/4 < x.arity):fR pre x=4:=by unfold fR;rw [bZ.2 h,h2,pn h3];rfl
theorem U1 {pre:List bP} (h:jZ x.name) (h2:bh (pre.map bP.name) x.name=false) (h3:¬ (x.arity < 0\/4 < x.arity)):fR pre x=0:=by unfold fR;rw [bZ.2 h,h2,oL h3];rfl
theorem zvF (l:List bP) (s:au):(nP l s).2=bh (l.map bP.name) s:=by
 unfold nP
 cases h:l.find? (λx=>decide (x.name=s)) with
 |none =>
  have h1:=List.find?_eq_none.1 h
  cases g:bh (l.map bP.name) s
  .rfl
  .obtain ⟨x,hx,e⟩:=nD.1 (cC.1 g)
   exact absurd (h1 x hx) (by simp [e])
 |some x =>
  have h1:=List.find?_some h
  have h2:=List.mem_of_find?_eq_some h
  symm
  exact cC.2 (nD.2 ⟨x,h2,of_decide_eq_true h1⟩)
theorem zFt (h:Heap) (l:List ba) (w i o:Nat) (v:ah) (hi:i < l.length):iO aG 65 (.pointer (some ⟨h.size+i,o,none⟩)) v (h.lay l w)=if v.cells.size=2 then uC l[i]? i o v.cells.toList h l w else none:=y6 my h l w i o v hi
theorem zut (l:List bP) (p0 p1 p2 p5 p6:ah) (q b:Int) (h:Heap) (hl:Sl aK.pred h p1 l) (K:aI) (hk:∀ h',Ext h h'->K (.int .i64 (uA l)) h'):Ok prog aG ov 58 [hU p0 p1 p2 p5 p6 q b] h K:=by
 rw [ao h]
 have z:=Ext.refl h
 have el:∀ (h:Heap) (K:aI),aH (some p1) h K=K p1 h:=λ_ _=>rfl
 have cU:=λ(hh:Heap)=>hl.bn kj hh
 refine Ok.aw 46 (bu N58) ?_
 repeat' (first|simp only [aa,seval,zo,kG,lP,el,cU]|((with_reducible apply bq) <;> intro _))
 .rw [show uA l=4 from aB (by omega)] at hk
  exact hk _ z.aC
 have pK:uA l=fc fR (l.take 0) (l.drop 0):=aA (by omega)
 refine lZ (λh' x hq=>?_)
 have q0:=hq 0 _ rfl
 clear hq
 (replace z:=z.an x;rw [ao h'])
 obtain ⟨A0,ep⟩:∃ A0,A0=h.size+0:=⟨_,rfl⟩
 rw [<- ep] at q0
 rw [<- ep]
 obtain ⟨I1,aX⟩:∃ I:Nat->Env->Heap->Prop,I=(λn e h'=>∃ (i:Nat) (h1:Heap),h'=h1.lay [] h1.low/\Ext h h1/\(n=l.length - i/\i<=l.length/\uA l=fc fR (l.take i) (l.drop i)/\Holds h1 A0 (.row (dW p0 p1 p2 p5 p6 q b) 28 false))/\∃ J:Nat->ah,e=(J 0::.pointer (some ⟨A0,0,none⟩)::J 2::.int .i64 i::jr J 4 43 ([]))):=⟨_,rfl⟩
 refine du I1 _ (by rw [aX];exact ⟨0,_,rfl,z,⟨rfl,by omega,pK,q0⟩,bm⟩) ?_
 intro n e h' aP
 rw [aX] at aP
 obtain ⟨i,bx,rfl,z,hinv,J,rfl⟩:=aP
 clear q0
 obtain ⟨rfl,hi,dQ,q0⟩:=hinv
 have hw:=ei i (by omega)
 simp only [aa,seval,zo,q0.lay,lP,el,cU]
 refine bq (λaW=>?_) (λaW=>?_)
 rotate_left
 .rw [G5 dQ (by omega)] at hk
  repeat' (simp only [aa,seval,zo])
  exact hk _ z.aC
 obtain ⟨r,hr,bT⟩:=fo (l:=l) (i:=i) (by omega)
 obtain ⟨a,m,c,g1,g2⟩:=zzU hl i hi
 have gN:∀ (h:Heap) (K:aI),aH (some (.slice a m c)) h K=K (.slice a m c) h:=λ_ _=>rfl
 repeat' (first|simp only [aa,seval,zo,q0.lay,lP,el]|with_reducible refine QH (hl.mono z.inc) kj my (by omega) hr (λp hp=>?_)|with_reducible refine Nt hp AB my ?_)
 repeat' (simp only [aa,seval,zo,r5,nC,po,Am.one,tG,nR,zFt])
 refine zsG _ _ _ (λhs h' x=>?_) (λhs h' x=>?_)
 rotate_left
 .rw [qx bT dQ (U2 hs) (by decide)] at hk
  (replace z:=z.an x;replace q0:=q0.over x;rw [ao h'])
  repeat' (first|simp only [aa,seval,zo]|((with_reducible apply ct);(· rfl)))
  exact hk _ z.aC
 have e0:=Holds.top (i:=0) x rfl
 (replace z:=z.an x;replace q0:=q0.over x;rw [ao h'])
 obtain ⟨E0,ob⟩:∃ E0,E0=bx.size+0:=⟨_,rfl⟩
 rw [<- ob] at e0
 rw [<- ob]
 have Fi:([.string r.name,.int .i64 r.arity]:List ah)[0]? = some (.string r.name):=rfl
 have uY:([.string r.name,.int .i64 r.arity]:List ah)[1]? = some (.int .i64 r.arity):=rfl
 repeat' (first|simp only [aa,seval,zo,q0.lay,e0.lay,lP,el,g1,gN,zyC,fY,Fi]|with_reducible refine dL (by simp only [zo]) z.aC ?_|((with_reducible apply ct);(· rfl)))
 refine zlP (l.take i) r.name _ _ _ _ _ _ _ _ ((g2.mono z.inc).lay _ _) _ (λh' x=>?_)
 (((with_reducible refine cW ?_ ?_ ?_);(· exact (by (simp only [cV]);have:=z.size;omega));(· exact x));replace z:=z.an x;replace q0:=q0.over x;replace e0:=e0.over x;rw [ao h'])
 rw [zvF]
 cases hh:bh ((l.take i).map bP.name) r.name
 .repeat' (first|simp only [aa,seval,zo,e0.lay,uY]|((with_reducible  apply bq ) <;> intro _)|((with_reducible refine ⟨z.cK.lay _ _,?_⟩);(intro _ h' zz x _);( simp only [b9,bG] at x );( replace q0:=q0.over x );( replace e0:=e0.over x );(replace z:=zz);(clear zz);rw [ao h']))
  .rw [qx bT dQ (LG hs hh (by omega)) (by decide)] at hk
   exact hk _ z.aC
  .rw [qx bT dQ (LG hs hh (by omega)) (by decide)] at hk
   exact hk _ z.aC
  rw [hw]
  (rw [aX];with_reducible refine cy (m:=_) ?_ ⟨i+1,_,rfl,z,⟨rfl,by omega,Hd bT dQ (U1 hs hh (by omega)),q0⟩,bm⟩;omega)
 .rw [qx bT dQ (U3 hs hh) (by decide)] at hk
  repeat' (first|simp only [aa,seval,zo]|((with_reducible refine ⟨z.cK.lay _ _,?_⟩);(intro _ h' zz x _);(simp only [b9,bG] at x);replace q0:=q0.over x;replace e0:=e0.over x;(replace z:=zz);(clear zz);rw [ao h']))
  exact hk _ z.aC
def fA (ps:List au) (c:bS) (pre:List au) (w:au):Int:=iv [bj (!bh ps w) 6,bj (decide (w=c.aR)) 11,bj (bh pre w) 5]
section
variable {ps pre:List au} {c:bS} {w:au}
theorem UT (h:bh ps w=false):fA ps c pre w=6:=by unfold fA;rw [h];rfl
theorem zDV (h:bh ps w=true) (h2:w=c.aR):fA ps c pre w=11:=by unfold fA;rw [h,pn h2];rfl
theorem US (h:bh ps w=true) (h2:¬ w=c.aR) (h3:bh pre w=true):fA ps c pre w=5:=by unfold fA;rw [h,oL h2,h3];rfl
theorem UR (h:bh ps w=true) (h2:¬ w=c.aR) (h3:bh pre w=false):fA ps c pre w=0:=by unfold fA;rw [h,oL h2,h3];rfl
end
theorem zuf (ps:List au) (x0:bS) (v:ah) (p0 p1 p2 p5 p6:ah) (q b:Int) (h:Heap) (bt:(dW p0 p1 p2 p5 p6 q b).all Am.one=true) (hl:Sl aK.str h p0 ps) (hv:Sl aK.str h v x0.reads) (K:aI) (hk:∀ h',Ext h h'->K (.int .i64 (qy ps x0)) h'):Ok prog aG ov 93 [hU p0 p1 p2 p5 p6 q b,.agg ⟨[.string x0.aR,v]⟩] h K:=by
 rw [ao h]
 have z:=Ext.refl h
 have el:∀ (h:Heap) (K:aI),aH (some v) h K=K v h:=λ_ _=>rfl
 have cU:=λ(hh:Heap)=>hv.bn cG hh
 have Fi:([.string x0.aR,v]:List ah)[0]? = some (.string x0.aR):=rfl
 have uY:([.string x0.aR,v]:List ah)[1]? = some v:=rfl
 refine Ok.aw 48 (bu N93) ?_
 repeat' (first|simp only [aa,seval,zq,kG,uY,el,cU]|((with_reducible apply bq) <;> intro _))
 iterate 2
  .rw [show qy ps x0=4 from aB (by omega)] at hk
   exact hk _ z.aC
 have pK:qy ps x0=fc (fA ps x0) (x0.reads.take 0) (x0.reads.drop 0):=aA (by omega)
 refine lZ (λh' x hq=>?_)
 have q0:=hq 0 _ rfl
 have e0:=hq 1 _ rfl
 clear hq
 (replace z:=z.an x;rw [ao h'])
 obtain ⟨A0,ep⟩:∃ A0,A0=h.size+0:=⟨_,rfl⟩
 rw [<- ep] at q0
 rw [<- ep]
 obtain ⟨E0,ob⟩:∃ E0,E0=h.size+1:=⟨_,rfl⟩
 rw [<- ob] at e0
 rw [<- ob]
 obtain ⟨I1,aX⟩:∃ I:Nat->Env->Heap->Prop,I=(λn e h'=>∃ (i:Nat) (h1:Heap),h'=h1.lay [] h1.low/\Ext h h1/\(n=x0.reads.length - i/\i<=x0.reads.length/\qy ps x0=fc (fA ps x0) (x0.reads.take i) (x0.reads.drop i)/\Holds h1 A0 (.row (dW p0 p1 p2 p5 p6 q b) 28 false)/\Holds h1 E0 (.row [.string x0.aR,v] 67 false))/\∃ J:Nat->ah,e=(jr J 0 2 (.pointer (some ⟨A0,0,none⟩)::.pointer (some ⟨E0,0,none⟩)::J 4::.int .i64 i::jr J 6 44 ([])))):=⟨_,rfl⟩
 refine du I1 _ (by rw [aX];exact ⟨0,_,rfl,z,⟨rfl,by omega,pK,q0,e0⟩,bm⟩) ?_
 intro n e h' aP
 rw [aX] at aP
 obtain ⟨i,bx,rfl,z,hinv,J,rfl⟩:=aP
 clear q0 e0
 obtain ⟨rfl,hi,dQ,q0,e0⟩:=hinv
 have hw:=ei i (by omega)
 simp only [aa,seval,zq,e0.lay,uY,el,cU]
 refine bq (λaW=>?_) (λaW=>?_)
 rotate_left
 .rw [G5 dQ (by omega)] at hk
  repeat' (simp only [aa,seval,zq])
  exact hk _ z.aC
 obtain ⟨r,hr,bT⟩:=fo (l:=x0.reads) (i:=i) (by omega)
 obtain ⟨a,m,c,g1,g2⟩:=zxU hv i hi
 have gN:∀ (h:Heap) (K:aI),aH (some (.slice a m c)) h K=K (.slice a m c) h:=λ_ _=>rfl
 repeat' (first|simp only [aa,seval,zq,q0.lay,e0.lay,↓iR,gO,fY,uY,el]|with_reducible refine dL (by simp only [zq]) z.aC ?_|with_reducible refine qz (hv.mono z.inc) cG nK (by omega) hr (λp hp=>?_)|with_reducible refine iY hp kJ ?_)
 refine Hf ps r _ _ _ _ _ _ _ _ ((hl.mono z.inc).lay _ _) _ (λh' x=>?_)
 (((with_reducible refine cW ?_ ?_ ?_);(· exact (by (simp only [cV]);have:=z.size;omega));(· exact x));replace z:=z.an x;replace q0:=q0.over x;replace e0:=e0.over x;rw [ao h'])
 rw [DO]
 cases hh:bh ps r
 .rw [qx bT dQ (UT hh) (by decide)] at hk
  repeat' (first|simp only [aa,seval,zq]|((with_reducible apply ct);(· rfl))|((with_reducible refine ⟨z.cK.lay _ _,?_⟩);(intro _ h' zz x _);(simp only [b9,bG] at x);replace q0:=q0.over x;replace e0:=e0.over x;(replace z:=zz);(clear zz);rw [ao h']))
  exact hk _ z.aC
 repeat' (first|simp only [aa,seval,zq,e0.lay,fY,Fi,uY,el,g1,gN,zr4]|with_reducible refine dL (by simp only [zq]) z.aC ?_|((with_reducible apply bq) <;> intro _)|with_reducible refine qz (hv.mono z.inc) cG nK (by omega) hr (λp hp=>?_)|with_reducible refine iY hp kJ ?_|((with_reducible apply ct);(· rfl))|((with_reducible refine ⟨z.cK.lay _ _,?_⟩);(intro _ h' zz x _);(simp only [b9,bG] at x);replace q0:=q0.over x;replace e0:=e0.over x;(replace z:=zz);(clear zz);rw [ao h']))
 .rw [qx bT dQ (zDV hh (by assumption)) (by decide)] at hk
  exact hk _ z.aC
 have aS:¬ r=x0.aR:=by assumption
 refine Hf (x0.reads.take i) r _ _ _ _ _ _ _ _ ((g2.mono z.inc).lay _ _) _ (λh' x=>?_)
 (((with_reducible refine cW ?_ ?_ ?_);(· exact (by (simp only [cV]);have:=z.size;omega));(· exact x));replace z:=z.an x;replace q0:=q0.over x;replace e0:=e0.over x;rw [ao h'])
 rw [DO]
 cases hh2:bh (x0.reads.take i) r
 .repeat' (first|simp only [aa,seval,zq]|((with_reducible refine ⟨z.cK.lay _ _,?_⟩);(intro _ h' zz x _);( simp only [b9,bG] at x );( replace q0:=q0.over x );( replace e0:=e0.over x );(replace z:=zz);(clear zz);rw [ao h']))
  rw [hw]
  (rw [aX];with_reducible refine cy (m:=_) ?_ ⟨i+1,_,rfl,z,⟨rfl,by omega,Hd bT dQ (UR hh aS hh2),q0,e0⟩,bm⟩;omega)
 .rw [qx bT dQ (US hh aS hh2) (by decide)] at hk
  repeat' (first|simp only [aa,seval,zq]|((with_reducible refine ⟨z.cK.lay _ _,?_⟩);(intro _ h' zz x _);(simp only [b9,bG] at x);replace q0:=q0.over x;replace e0:=e0.over x;(replace z:=zz);(clear zz);rw [ao h']))
  exact hk _ z.aC
def fC (ps:List au) (pre:List bS) (c:bS):Int:=iv [bj (!bh ps c.aR) 6,bj (bh (pre.map bS.aR) c.aR) 5,qy ps c]
section
variable {ps:List au} {pre:List bS} {c:bS}
theorem UW (h:bh ps c.aR=false):fC ps pre c=6:=by unfold fC;rw [h];rfl
theorem UU (h:bh ps c.aR=true) (h2:bh (pre.map bS.aR) c.aR=true):fC ps pre c=5:=by unfold fC;rw [h,h2];rfl
theorem UX (h:bh ps c.aR=true) (h2:bh (pre.map bS.aR) c.aR=false):fC ps pre c=qy ps c:=by
 unfold fC
 rw [h,h2]
 show (if qy ps c=0 then (0:Int) else qy ps c)=qy ps c
 split
 .rename_i e;exact e.symm
 .rfl
end
theorem zq7 (d:aq) (p0 p1 p2 p5 p6:ah) (q b:Int) (h:Heap) (bt:(dW p0 p1 p2 p5 p6 q b).all Am.one=true) (hd:fx h p0 p1 p2 p5 p6 d) (hn:d.bf.length<=70) (K:aI) (hk:∀ h',Ext h h'->K (.int .i64 (yZ d.ab d.bf)) h'):Ok prog aG ov 59 [hU p0 p1 p2 p5 p6 q b] h K:=by
 rw [ao h]
 have z:=Ext.refl h
 have el:∀ (h:Heap) (K:aI),aH (some p2) h K=K p2 h:=λ_ _=>rfl
 have cU:=λ(hh:Heap)=>hd.s2.bn mY hh
 have pK:yZ d.ab d.bf=fc (fC d.ab) (d.bf.take 0) (d.bf.drop 0):=rfl
 refine Ok.aw 49 (bu N59) ?_
 repeat' (simp only [aa,seval,rJ,kG])
 refine lZ (λh' x hq=>?_)
 have q0:=hq 0 _ rfl
 clear hq
 (replace z:=z.an x;rw [ao h'])
 obtain ⟨A0,ep⟩:∃ A0,A0=h.size+0:=⟨_,rfl⟩
 rw [<- ep] at q0
 rw [<- ep]
 obtain ⟨I1,aX⟩:∃ I:Nat->Env->Heap->Prop,I=(λn e h'=>∃ (i:Nat) (h1:Heap),h'=h1.lay [] h1.low/\Ext h h1/\(n=d.bf.length - i/\i<=d.bf.length/\yZ d.ab d.bf=fc (fC d.ab) (d.bf.take i) (d.bf.drop i)/\Holds h1 A0 (.row (dW p0 p1 p2 p5 p6 q b) 28 false))/\∃ J:Nat->ah,e=(J 0::.pointer (some ⟨A0,0,none⟩)::J 2::.int .i64 i::jr J 4 46 ([]))):=⟨_,rfl⟩
 refine du I1 _ (by rw [aX];exact ⟨0,_,rfl,z,⟨rfl,by omega,pK,q0⟩,bm⟩) ?_
 intro n e h' aP
 rw [aX] at aP
 obtain ⟨i,bx,rfl,z,hinv,J,rfl⟩:=aP
 clear q0
 obtain ⟨rfl,hi,dQ,q0⟩:=hinv
 have hw:=ei i (by omega)
 simp only [aa,seval,rJ,q0.lay,rj,el,cU]
 refine bq (λaW=>?_) (λaW=>?_)
 rotate_left
 .rw [G5 dQ (by omega)] at hk
  repeat' (simp only [aa,seval,rJ])
  exact hk _ z.aC
 obtain ⟨r,hr,bT⟩:=fo (l:=d.bf) (i:=i) (by omega)
 repeat' (first|simp only [aa,seval,rJ,q0.lay,↓iR,gO,fY,rj,el]|with_reducible refine dL (by simp only [rJ]) z.aC ?_|with_reducible refine Jw (hd.s2.mono z.inc) mY oC (by omega) hr (λp bv hb hp=>?_)|with_reducible refine xu hp DM (λqq hq=>?_)|with_reducible refine iY hq kJ ?_)
 refine Hf d.ab r.aR _ _ _ _ _ _ _ _ ((hd.s0.mono z.inc).lay _ _) _ (λh' x=>?_)
 (((with_reducible refine cW ?_ ?_ ?_);(· exact (by (simp only [cV]);have:=z.size;omega));(· exact x));replace z:=z.an x;replace q0:=q0.over x;rw [ao h'])
 rw [DO]
 cases hh:bh d.ab r.aR
 .rw [qx bT dQ (UW hh) (by decide)] at hk
  repeat' (first|simp only [aa,seval,rJ]|((with_reducible apply ct);(· rfl))|((with_reducible refine ⟨z.cK.lay _ _,?_⟩);(intro _ h' zz x _);(simp only [b9,bG] at x);replace q0:=q0.over x;(replace z:=zz);(clear zz);rw [ao h']))
  exact hk _ z.aC
 repeat' (first|simp only [aa,seval,rJ]|((with_reducible apply ct);(· rfl))|((with_reducible refine ⟨z.cK.lay _ _,?_⟩);(intro _ h' zz x _);(simp only [b9,bG] at x);replace q0:=q0.over x;(replace z:=zz);(clear zz);rw [ao h']))
 obtain ⟨I2,fF⟩:∃ I:Nat->Env->Heap->Prop,I=(λn e h'=>∃ (k:Nat) (h1:Heap),h'=h1.lay [] h1.low/\Ext h h1/\(n=i - k/\k<=i/\(∀ e∈d.bf.take k,e.aR≠r.aR)/\Holds h1 A0 (.row (dW p0 p1 p2 p5 p6 q b) 28 false))/\∃ J:Nat->ah,e=(J 0::.pointer (some ⟨A0,0,none⟩)::J 2::.int .i64 i::.int .i64 k::jr J 5 45 ([]))):=⟨_,rfl⟩
 refine du I2 _ (by rw [fF];exact ⟨0,_,rfl,z,⟨rfl,by omega,by simp,q0⟩,bm⟩) ?_
 intro n e h' aP
 rw [fF] at aP
 obtain ⟨k,bx,rfl,z,hinv,J,rfl⟩:=aP
 clear q0
 obtain ⟨rfl,xU,mi,q0⟩:=hinv
 have qt:=ei k (by omega)
 simp only [aa,seval,rJ]
 refine bq (λjc=>?_) (λjc=>?_)
 .obtain ⟨e,he,rN⟩:=fo (l:=d.bf) (i:=k) (by omega)
  repeat' (first|simp only [aa,seval,rJ,q0.lay,rj,el]|with_reducible refine dL (by simp only [rJ]) z.aC ?_|((with_reducible apply bq) <;> intro _)|with_reducible refine Jw (hd.s2.mono z.inc) mY oC (by omega) hr (λp bv hb hp=>?_)|with_reducible refine Jw (hd.s2.mono z.inc) mY oC (by omega) he (λp bv hb hp=>?_)|with_reducible refine xu hp DM (λqq hq=>?_)|with_reducible refine iY hq kJ ?_|((with_reducible refine ⟨z.cK.lay _ _,?_⟩);(intro _ h' zz x _);(simp only [b9,bG] at x);replace q0:=q0.over x;(replace z:=zz);(clear zz);rw [ao h']))
  .have Xi:e.aR=r.aR:=by assumption
   rw [qx bT dQ (UU hh (cC.2 (nD.2 ⟨e,fW (i:=k) (by rw [mc,aB (by omega)];exact rN),Xi⟩))) (by decide)] at hk
   exact hk _ z.aC
  .have aS:¬ e.aR=r.aR:=by assumption
   rw [qt]
   (rw [fF];with_reducible refine cy (m:=_) ?_ ⟨k+1,_,rfl,z,⟨rfl,by omega,oE (i:=k) (P:=λe:bS=>e.aR≠r.aR) rN mi aS,q0⟩,bm⟩;omega)
 have sX:k=i:=by omega
 subst sX
 have kZ:bh ((d.bf.take k).map bS.aR) r.aR=false:=by
  cases g:bh ((d.bf.take k).map bS.aR) r.aR
  .rfl
  .obtain ⟨e,he,ee⟩:=nD.1 (cC.1 g)
   exact absurd ee (mi e he)
 repeat' (first|simp only [aa,seval,rJ,q0.lay,↓iR,gO,fY,rj,el]|with_reducible refine dL (by simp only [rJ]) z.aC ?_|with_reducible refine Jw (hd.s2.mono z.inc) mY oC (by omega) hr (λp bv hb hp=>?_)|with_reducible refine Nt hp Eh oC ?_)
 have nF:Sl aK.str bx bv r.reads:=by assumption
 refine zuf d.ab r bv _ _ _ _ _ _ _ _ bt ((hd.s0.mono z.inc).lay _ _) (nF.lay _ _) _ (λh' x=>?_)
 have lM:∀ (n:Int) (h:Heap) (K:aI),aH (some (.int .i64 n)) h K=K (.int .i64 n) h:=λ_ _ _=>rfl
 (((with_reducible refine cW ?_ ?_ ?_);(· exact (by (simp only [cV]);have:=z.size;omega));(· exact x));replace z:=z.an x;replace q0:=q0.over x;rw [ao h'])
 have cQ:=UX (pre:=d.bf.take k) hh kZ
 simp only [aa,seval,rJ]
 ((with_reducible refine ⟨z.cK.lay _ _,?_⟩);(intro _ h' zz x _);(simp only [b9,bG] at x);replace q0:=q0.over x;(replace z:=zz);(clear zz);rw [ao h'])
 simp only [aa,seval,rJ]
 refine iS (λhc=>?_) (λh0=>?_)
 .rw [qx bT dQ cQ hc] at hk
  simp only [aa,seval,rJ]
  exact hk _ z.aC
 .simp only [aa,seval,rJ,lM]
  rw [hw]
  (rw [aX];with_reducible refine cy (m:=_) ?_ ⟨k+1,_,rfl,z,⟨rfl,by omega,Hd bT dQ (cQ.trans h0),q0⟩,bm⟩;omega)
end Go.Proofs.YtmamldleclamjaaGreatDoor
