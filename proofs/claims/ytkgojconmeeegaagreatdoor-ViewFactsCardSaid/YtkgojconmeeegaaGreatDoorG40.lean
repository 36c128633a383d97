/- The code of some functions, node by node, for simp. Written by a program (mkcode.py). No condition. -/
import Derived.Test.YtkgojconmeeegaaGreatDoorG39
set_option linter.unusedSimpArgs false
set_option linter.unusedVariables false
set_option maxRecDepth 100000
set_option maxHeartbeats 0
noncomputable section
namespace Go.Proofs.YtkgojconmeeegaaGreatDoor
open Go.Am Tryz
variable {v:ae} {h:Heap}
def N99:=bp f99
def x99:=PLift.up (by have c:=bq N99 f99;simp only [aI,f99,seval] at c;exact nd c <| nd @HX <| nd @kx <| nd @mG <| nd @eC <| nd @ky <| @Xz)
theorem Bt:type_of% x99.down:=x99.down
def KX:=bp f152
def PM:=PLift.up (by have c:=bq KX f152;simp only [aI,f152,seval] at c;exact nd c <| nd @JX <| nd @HY <| nd @Sh <| nd @yZ <| nd @vP <| nd @lx <| nd @eC <| nd @y5 <| @zFE)
theorem Bg:type_of% PM.down:=PM.down
def Kl:=bp f100
def O4:=PLift.up (by have c:=bq Kl f100;simp only [aI,f100,seval] at c;exact nd c <| nd @Fh <| nd @JX <| nd @HY <| nd @Sh <| nd @yZ <| nd @vP <| nd @lx <| nd @G6 <| nd @eC <| nd @y5 <| @zEZ)
theorem oq:type_of% O4.down:=O4.down
def KY:=bp f153
def PN:=PLift.up (by have c:=bq KY f153;simp only [aI,f153,seval] at c;exact nd c <| nd @CZ <| nd @JY <| nd @kx <| nd @mG <| nd @el <| nd @eC <| nd @ky <| @zFF)
theorem ot:type_of% PN.down:=PN.down
def Km:=bp f101
def O5:=PLift.up (by have c:=bq Km f101;simp only [aI,f101,seval] at c;exact nd c <| nd @U2 <| nd @CZ <| nd @y4 <| nd @Cj <| nd @el <| nd @Co <| nd @eC <| nd @Cr <| @zE0)
theorem lI:type_of% O5.down:=O5.down
def Kq:=bp f104
def O8:=PLift.up (by have c:=bq Kq f104;simp only [aI,f104,seval] at c;exact nd c <| nd @sR <| nd @CY <| nd @w9 <| nd @el <| nd @lx <| nd @bP <| nd @eC <| @zE3)
theorem tg:type_of% O8.down:=O8.down
def Ko:=bp f102
def O6:=PLift.up (by have c:=bq Ko f102;simp only [aI,f102,seval] at c;exact nd c <| nd @iF <| nd @el <| nd @bP <| nd @fS <| @zE1)
theorem pB:type_of% O6.down:=O6.down
def Kp:=bp f103
def O7:=PLift.up (by have c:=bq Kp f103;simp only [aI,f103,seval] at c;exact nd c <| nd @w9 <| nd @zD <| nd @kx <| nd @pZ <| nd @iF <| nd @lx <| nd @jA <| nd @bP <| nd @eC <| nd @ky <| nd @fS <| @zE2)
theorem kc:type_of% O7.down:=O7.down
def N58:=bp f58
def x58:=PLift.up (by have c:=bq N58 f58;simp only [aI,f58,seval] at c;exact nd c <| nd @L6 <| nd @Sg <| nd @zBs <| nd @U3 <| nd @U4 <| nd @sR <| nd @HZ <| nd @H2 <| nd @U5 <| nd @Si <| nd @U6 <| nd @G4 <| nd @G5 <| nd @Ck <| nd @Cl <| nd @el <| nd @lx <| nd @bP <| nd @lR <| nd @Oz <| nd @eC <| nd @Cs <| nd @Ct <| @WZ)
theorem mz:type_of% x58.down:=x58.down
theorem ztH {Z:Type} {r:aJ Z} {l:List Z} (f:Sl r h v l):∃ a n c,v=.slice a n c:=by
 rcases f with ⟨rfl,_⟩|⟨A,o,c,row,u,ro,rfl,_⟩ <;> exact ⟨_,_,_,rfl⟩
theorem zsX (a:Option Addr) (n c:Nat):od aA 28 [(0,.slice a n c)]=some (gC (.slice a n c) (.slice none 0 0) (.slice none 0 0) (.slice none 0 0) (.slice none 0 0) 0 0):=by kernel_rfl
theorem zzu (a:Option Addr) (n c:Nat):od aA 28 [(1,.slice a n c)]=some (gC (.slice none 0 0) (.slice a n c) (.slice none 0 0) (.slice none 0 0) (.slice none 0 0) 0 0):=by kernel_rfl
theorem zyO {l:List aB} (f:Sl aJ.str h v l) (i:Nat) (hi:i<=l.length):∃ a n c,jY aA 22 v none (some (.int .i64 i)) none=some (.slice a n c)/\Sl aJ.str h (.slice a n c) (l.take i):=by
 obtain ⟨u1,g1,g2⟩:=f.sub (a:=0) (b:=i) (by decide) cQ mU (.inl ⟨rfl,rfl⟩) (.inr ⟨.i64,rfl⟩) (by omega) hi
 obtain ⟨a,n,c,rfl⟩:=ztH g2
 exact ⟨a,n,c,g1,by simpa using g2⟩
theorem zAV {l:List cX} (f:Sl aJ.pred h v l) (i:Nat) (hi:i<=l.length):∃ a n c,jY aA 23 v none (some (.int .i64 i)) none=some (.slice a n c)/\Sl aJ.pred h (.slice a n c) (l.take i):=by
 obtain ⟨u1,g1,g2⟩:=f.sub (a:=0) (b:=i) (by decide) kj mH (.inl ⟨rfl,rfl⟩) (.inr ⟨.i64,rfl⟩) (by omega) hi
 obtain ⟨a,n,c,rfl⟩:=ztH g2
 exact ⟨a,n,c,g1,by simpa using g2⟩
theorem zpw (l:List cX) (who:aB) (p0 p1 p2 p5 p6:ae) (q b:Int) (h:Heap) (hl:Sl aJ.pred h p1 l) (K:aG) (hk:∀ n b h',Ext h h'->K (.tuple #[.int .i64 n,.bool b]) h'):Ok prog aA ov 152 [gC p0 p1 p2 p5 p6 q b,.string who] h K:=by
 rw [ao h]
 have z:=Ext.refl h
 have hle:=hl.le
 have dn:∀ (h:Heap) (K:aG),aD (some p1) h K=K p1 h:=λ_ _=>rfl
 have cO:=λ(hh:Heap)=>hl.bt kj hh
 refine Ok.aq 26 (bm KX) ?_
 repeat' (simp only [aa,seval,Bg,jG])
 refine lg (λh' x hq=>?_)
 have q0:=hq 0 _ rfl
 clear hq
 (replace z:=z.aj x;rw [ao h'])
 obtain ⟨A0,dK⟩:∃ A0,A0=h.size+0:=⟨_,rfl⟩
 rw [<- dK] at q0
 rw [<- dK]
 obtain ⟨I1,aO⟩:∃ I:Nat->Env->Heap->Prop,I=(λn e h'=>∃ (i:Nat) (h1:Heap),h'=h1.lay [] h1.low/\Ext h h1/\(n=l.length - i/\i<=l.length/\Holds h1 A0 (.row (dw p0 p1 p2 p5 p6 q b) 28 false))/\∃ J:Nat->ae,e=(J 0::.string who::.pointer (some ⟨A0,0,none⟩)::jr J 3 3 (.int .i64 i::jr J 7 21 ([])))):=⟨_,rfl⟩
 refine cK I1 _ (by rw [aO];exact ⟨0,_,rfl,z,⟨rfl,by omega,q0⟩,bc⟩) ?_
 intro n e h' aK
 rw [aO] at aK
 obtain ⟨i,bD,rfl,z,hinv,J,rfl⟩:=aK
 clear q0
 obtain ⟨rfl,hi,q0⟩:=hinv
 have hw:i < l.length->IntKind.i64.wrap ((i:Int)+1)=((i+1:Nat):Int):=λhh=>by unfold maxLen at hle;rw [wrap_i64 (by omega) (by omega)];omega
 simp only [aa,seval,Bg,q0.lay,lU,dn,cO]
 refine bg (λaP=>?_) (λaP=>?_)
 rotate_left
 .repeat' ( simp only [aa,seval,Bg])
  exact hk _ _ _ z.au
 obtain ⟨r,hr,bM⟩:=eb (l:=l) (i:=i) (by omega)
 repeat' (first|simp only [aa,seval,Bg,q0.lay,lU,dn]|((with_reducible apply bg) <;> intro _)|with_reducible refine Sv (hl.mono z.inc) kj mH (by omega) hr (λp hp=>?_)|with_reducible refine xO hp HY (λq hq=>?_)|with_reducible refine FG hp Sh (λq hq=>?_)|with_reducible refine fo hq gU ?_|with_reducible refine fo hq SS ?_)
 .exact hk _ _ _ z.au
 .rw [hw (by omega)]
  (rw [aO];with_reducible refine bS (m:=_) ?_ ⟨i+1,_,rfl,z,⟨rfl,by omega,q0⟩,bc⟩;omega)
theorem zx9 (l:List aB) (p0 p1 p2 p5 p6:ae) (q b:Int) (h:Heap) (hl:Sl aJ.str h p0 l) (K:aG) (hk:∀ c h',Ext h h'->K (.int .i64 c) h'):Ok prog aA ov 99 [gC p0 p1 p2 p5 p6 q b] h K:=by
 rw [ao h]
 have z:=Ext.refl h
 have dn:∀ (h:Heap) (K:aG),aD (some p0) h K=K p0 h:=λ_ _=>rfl
 have cO:=λ(hh:Heap)=>hl.bt cQ hh
 refine Ok.aq 38 (bm N99) ?_
 repeat' (first|simp only [aa,seval,Bt,jG,k6,dn,cO]|((with_reducible apply bg) <;> intro _))
 .exact hk _ _ z.au
 .exact hk _ _ z.au
 refine lg (λh' x hq=>?_)
 have q0:=hq 0 _ rfl
 clear hq
 (replace z:=z.aj x;rw [ao h'])
 obtain ⟨A0,dK⟩:∃ A0,A0=h.size+0:=⟨_,rfl⟩
 rw [<- dK] at q0
 rw [<- dK]
 obtain ⟨I1,aO⟩:∃ I:Nat->Env->Heap->Prop,I=(λn e h'=>∃ (i:Nat) (h1:Heap),h'=h1.lay [] h1.low/\Ext h h1/\(n=l.length - i/\i<=l.length/\Holds h1 A0 (.row (dw p0 p1 p2 p5 p6 q b) 28 false))/\∃ J:Nat->ae,e=(J 0::.pointer (some ⟨A0,0,none⟩)::J 2::.int .i64 i::jr J 4 35 ([]))):=⟨_,rfl⟩
 refine cK I1 _ (by rw [aO];exact ⟨0,_,rfl,z,⟨rfl,by omega,q0⟩,bc⟩) ?_
 intro n e h' aK
 rw [aO] at aK
 obtain ⟨i,bD,rfl,z,hinv,J,rfl⟩:=aK
 clear q0
 obtain ⟨rfl,hi,q0⟩:=hinv
 have hw:=dE i (by omega)
 simp only [aa,seval,Bt,q0.lay,k6,dn,cO]
 refine bg (λaP=>?_) (λaP=>?_)
 rotate_left
 .repeat' ( simp only [aa,seval,Bt])
  exact hk _ _ z.au
 obtain ⟨r,hr,bM⟩:=eb (l:=l) (i:=i) (by omega)
 obtain ⟨a,m,c,g1,g2⟩:=zyO hl i hi
 have gw:∀ (h:Heap) (K:aG),aD (some (.slice a m c)) h K=K (.slice a m c) h:=λ_ _=>rfl
 repeat' (first|simp only [aa,seval,Bt,q0.lay,k6,dn]|with_reducible refine oT (hl.mono z.inc) cQ mU (by omega) hr (λp hp=>?_)|with_reducible refine fo hp gU ?_)
 refine zfP _ _ _ (λhs h' x=>?_) (λh' x=>?_)
 rotate_left
 ·(replace z:=z.aj x;( replace q0:=q0.over x );rw [ao h'])
  repeat' (first|simp only [aa,seval,Bt]|((with_reducible apply bI);(· rfl)))
  exact hk _ _ z.au
 (replace z:=z.aj x;replace q0:=q0.over x;rw [ao h'])
 repeat' (first|simp only [aa,seval,Bt,q0.lay,k6,dn,g1,gw,zsX,eU]|with_reducible refine cZ (by simp only [Bt]) z.au ?_|with_reducible refine oT (hl.mono z.inc) cQ mU (by omega) hr (λp hp=>?_)|with_reducible refine fo hp gU ?_|((with_reducible apply bI);(· rfl)))
 refine CM (l.take i) r _ _ _ _ _ _ _ _ ((g2.mono z.inc).lay _ _) _ (λh' x=>?_)
 (((with_reducible refine di ?_ ?_ ?_);(· exact (by (simp only [dp]);have:=z.size;omega));(· exact x));replace z:=z.aj x;replace q0:=q0.over x;rw [ao h'])
 cases hh:fR (l.take i) r
 .repeat' (first|simp only [aa,seval,Bt]|((with_reducible refine ⟨z.bZ.lay _ _,?_⟩);(intro _ h' zz x _);( simp only [bG,bu] at x );( replace q0:=q0.over x );(replace z:=zz);(clear zz);rw [ao h']))
  rw [hw]
  (rw [aO];with_reducible refine bS (m:=_) ?_ ⟨i+1,_,rfl,z,⟨rfl,by omega,q0⟩,bc⟩;omega)
 .repeat' (first|simp only [aa,seval,Bt]|((with_reducible refine ⟨z.bZ.lay _ _,?_⟩);(intro _ h' zz x _);( simp only [bG,bu] at x );( replace q0:=q0.over x );(replace z:=zz);(clear zz);rw [ao h']))
  exact hk _ _ z.au
theorem aaz (h:Heap) (l:List bh) (w i o:Nat) (v:ae) (hi:i < l.length):iS aA 73 (.pointer (some ⟨h.size+i,o,none⟩)) v (h.lay l w)=if v.cells.size=2 then sN l[i]? i o v.cells.toList h l w else none:=wi mH h l w i o v hi
theorem zx8 (l:List cX) (p0 p1 p2 p5 p6:ae) (q b:Int) (h:Heap) (hl:Sl aJ.pred h p1 l) (K:aG) (hk:∀ c h',Ext h h'->K (.int .i64 c) h'):Ok prog aA ov 100 [gC p0 p1 p2 p5 p6 q b] h K:=by
 rw [ao h]
 have z:=Ext.refl h
 have dn:∀ (h:Heap) (K:aG),aD (some p1) h K=K p1 h:=λ_ _=>rfl
 have cO:=λ(hh:Heap)=>hl.bt kj hh
 refine Ok.aq 46 (bm Kl) ?_
 repeat' (first|simp only [aa,seval,oq,jG,lU,dn,cO]|((with_reducible apply bg) <;> intro _))
 .exact hk _ _ z.au
 refine lg (λh' x hq=>?_)
 have q0:=hq 0 _ rfl
 clear hq
 (replace z:=z.aj x;rw [ao h'])
 obtain ⟨A0,dK⟩:∃ A0,A0=h.size+0:=⟨_,rfl⟩
 rw [<- dK] at q0
 rw [<- dK]
 obtain ⟨I1,aO⟩:∃ I:Nat->Env->Heap->Prop,I=(λn e h'=>∃ (i:Nat) (h1:Heap),h'=h1.lay [] h1.low/\Ext h h1/\(n=l.length - i/\i<=l.length/\Holds h1 A0 (.row (dw p0 p1 p2 p5 p6 q b) 28 false))/\∃ J:Nat->ae,e=(J 0::.pointer (some ⟨A0,0,none⟩)::J 2::.int .i64 i::jr J 4 43 ([]))):=⟨_,rfl⟩
 refine cK I1 _ (by rw [aO];exact ⟨0,_,rfl,z,⟨rfl,by omega,q0⟩,bc⟩) ?_
 intro n e h' aK
 rw [aO] at aK
 obtain ⟨i,bD,rfl,z,hinv,J,rfl⟩:=aK
 clear q0
 obtain ⟨rfl,hi,q0⟩:=hinv
 have hw:=dE i (by omega)
 simp only [aa,seval,oq,q0.lay,lU,dn,cO]
 refine bg (λaP=>?_) (λaP=>?_)
 rotate_left
 .repeat' ( simp only [aa,seval,oq])
  exact hk _ _ z.au
 obtain ⟨r,hr,bM⟩:=eb (l:=l) (i:=i) (by omega)
 obtain ⟨a,m,c,g1,g2⟩:=zAV hl i hi
 have gw:∀ (h:Heap) (K:aG),aD (some (.slice a m c)) h K=K (.slice a m c) h:=λ_ _=>rfl
 repeat' (first|simp only [aa,seval,oq,q0.lay,lU,dn]|with_reducible refine Sv (hl.mono z.inc) kj mH (by omega) hr (λp hp=>?_)|with_reducible refine G7 hp A8 mH ?_)
 repeat' (simp only [aa,seval,oq,iR,gL,ij,Am.one,iT,gX,aaz])
 refine zio _ _ _ (λhs h' x=>?_) (λh' x=>?_)
 rotate_left
 ·(replace z:=z.aj x;( replace q0:=q0.over x );rw [ao h'])
  repeat' (first|simp only [aa,seval,oq]|((with_reducible apply bI);(· rfl)))
  exact hk _ _ z.au
 have e0:=Holds.top (i:=0) x rfl
 (replace z:=z.aj x;replace q0:=q0.over x;rw [ao h'])
 obtain ⟨E0,oE⟩:∃ E0,E0=bD.size+0:=⟨_,rfl⟩
 rw [<- oE] at e0
 rw [<- oE]
 have F9:([.string r.name,.int .i64 r.arity]:List ae)[0]? = some (.string r.name):=rfl
 have vu:([.string r.name,.int .i64 r.arity]:List ae)[1]? = some (.int .i64 r.arity):=rfl
 repeat' (first|simp only [aa,seval,oq,q0.lay,e0.lay,lU,dn,g1,gw,zzu,eU,F9]|with_reducible refine cZ (by simp only [oq]) z.au ?_|((with_reducible apply bI);(· rfl)))
 refine zpw (l.take i) r.name _ _ _ _ _ _ _ _ ((g2.mono z.inc).lay _ _) _ (λnn bb h' x=>?_)
 (((with_reducible refine di ?_ ?_ ?_);(· exact (by (simp only [dp]);have:=z.size;omega));(· exact x));replace z:=z.aj x;replace q0:=q0.over x;replace e0:=e0.over x;rw [ao h'])
 cases bb
 .repeat' (first|simp only [aa,seval,oq,e0.lay,vu]|((with_reducible  apply bg ) <;> intro _)|((with_reducible refine ⟨z.bZ.lay _ _,?_⟩);(intro _ h' zz x _);( simp only [bG,bu] at x );( replace q0:=q0.over x );( replace e0:=e0.over x );(replace z:=zz);(clear zz);rw [ao h']))
  .exact hk _ _ z.au
  .exact hk _ _ z.au
  rw [hw]
  (rw [aO];with_reducible refine bS (m:=_) ?_ ⟨i+1,_,rfl,z,⟨rfl,by omega,q0⟩,bc⟩;omega)
 .repeat' (first|simp only [aa,seval,oq]|((with_reducible refine ⟨z.bZ.lay _ _,?_⟩);(intro _ h' zz x _);( simp only [bG,bu] at x );( replace q0:=q0.over x );( replace e0:=e0.over x );(replace z:=zz);(clear zz);rw [ao h']))
  exact hk _ _ z.au
theorem zu2 (ps:List aB) (x0:bB) (v:ae) (p0 p1 p2 p5 p6:ae) (q b:Int) (h:Heap) (bn:(dw p0 p1 p2 p5 p6 q b).all Am.one=true) (hl:Sl aJ.str h p0 ps) (hv:Sl aJ.str h v x0.reads) (K:aG) (hk:∀ c h',Ext h h'->K (.int .i64 c) h'):Ok prog aA ov 153 [gC p0 p1 p2 p5 p6 q b,.agg ⟨[.string x0.who,v]⟩] h K:=by
 rw [ao h]
 have z:=Ext.refl h
 have dn:∀ (h:Heap) (K:aG),aD (some v) h K=K v h:=λ_ _=>rfl
 have cO:=λ(hh:Heap)=>hv.bt cQ hh
 have F9:([.string x0.who,v]:List ae)[0]? = some (.string x0.who):=rfl
 have vu:([.string x0.who,v]:List ae)[1]? = some v:=rfl
 refine Ok.aq 48 (bm KY) ?_
 repeat' (first|simp only [aa,seval,ot,jG,vu,dn,cO]|((with_reducible apply bg) <;> intro _))
 .exact hk _ _ z.au
 .exact hk _ _ z.au
 refine lg (λh' x hq=>?_)
 have q0:=hq 0 _ rfl
 have e0:=hq 1 _ rfl
 clear hq
 (replace z:=z.aj x;rw [ao h'])
 obtain ⟨A0,dK⟩:∃ A0,A0=h.size+0:=⟨_,rfl⟩
 rw [<- dK] at q0
 rw [<- dK]
 obtain ⟨E0,oE⟩:∃ E0,E0=h.size+1:=⟨_,rfl⟩
 rw [<- oE] at e0
 rw [<- oE]
 obtain ⟨I1,aO⟩:∃ I:Nat->Env->Heap->Prop,I=(λn e h'=>∃ (i:Nat) (h1:Heap),h'=h1.lay [] h1.low/\Ext h h1/\(n=x0.reads.length - i/\i<=x0.reads.length/\Holds h1 A0 (.row (dw p0 p1 p2 p5 p6 q b) 28 false)/\Holds h1 E0 (.row [.string x0.who,v] 75 false))/\∃ J:Nat->ae,e=(jr J 0 2 (.pointer (some ⟨A0,0,none⟩)::.pointer (some ⟨E0,0,none⟩)::J 4::.int .i64 i::jr J 6 44 ([])))):=⟨_,rfl⟩
 refine cK I1 _ (by rw [aO];exact ⟨0,_,rfl,z,⟨rfl,by omega,q0,e0⟩,bc⟩) ?_
 intro n e h' aK
 rw [aO] at aK
 obtain ⟨i,bD,rfl,z,hinv,J,rfl⟩:=aK
 clear q0 e0
 obtain ⟨rfl,hi,q0,e0⟩:=hinv
 have hw:=dE i (by omega)
 simp only [aa,seval,ot,e0.lay,vu,dn,cO]
 refine bg (λaP=>?_) (λaP=>?_)
 rotate_left
 .repeat' ( simp only [aa,seval,ot])
  exact hk _ _ z.au
 obtain ⟨r,hr,bM⟩:=eb (l:=x0.reads) (i:=i) (by omega)
 obtain ⟨a,m,c,g1,g2⟩:=zyO hv i hi
 have gw:∀ (h:Heap) (K:aG),aD (some (.slice a m c)) h K=K (.slice a m c) h:=λ_ _=>rfl
 repeat' (first|simp only [aa,seval,ot,q0.lay,e0.lay,↓fN,fw,eU,vu,dn]|with_reducible refine cZ (by simp only [ot]) z.au ?_|with_reducible refine oT (hv.mono z.inc) cQ mU (by omega) hr (λp hp=>?_)|with_reducible refine fo hp gU ?_)
 refine CM ps r _ _ _ _ _ _ _ _ ((hl.mono z.inc).lay _ _) _ (λh' x=>?_)
 (((with_reducible refine di ?_ ?_ ?_);(· exact (by (simp only [dp]);have:=z.size;omega));(· exact x));replace z:=z.aj x;replace q0:=q0.over x;replace e0:=e0.over x;rw [ao h'])
 cases hh:fR ps r
 .repeat' (first|simp only [aa,seval,ot]|((with_reducible apply bI);(· rfl))|((with_reducible refine ⟨z.bZ.lay _ _,?_⟩);(intro _ h' zz x _);( simp only [bG,bu] at x );( replace q0:=q0.over x );( replace e0:=e0.over x );(replace z:=zz);(clear zz);rw [ao h']))
  exact hk _ _ z.au
 repeat' (first|simp only [aa,seval,ot,e0.lay,eU,F9,vu,dn,g1,gw,zsX]|with_reducible refine cZ (by simp only [ot]) z.au ?_|((with_reducible apply bg) <;> intro _)|with_reducible refine oT (hv.mono z.inc) cQ mU (by omega) hr (λp hp=>?_)|with_reducible refine fo hp gU ?_|((with_reducible apply bI);(· rfl))|((with_reducible refine ⟨z.bZ.lay _ _,?_⟩);(intro _ h' zz x _);(simp only [bG,bu] at x);replace q0:=q0.over x;replace e0:=e0.over x;(replace z:=zz);(clear zz);rw [ao h']))
 .exact hk _ _ z.au
 refine CM (x0.reads.take i) r _ _ _ _ _ _ _ _ ((g2.mono z.inc).lay _ _) _ (λh' x=>?_)
 (((with_reducible refine di ?_ ?_ ?_);(· exact (by (simp only [dp]);have:=z.size;omega));(· exact x));replace z:=z.aj x;replace q0:=q0.over x;replace e0:=e0.over x;rw [ao h'])
 cases hh2:fR (x0.reads.take i) r
 .repeat' (first|simp only [aa,seval,ot]|((with_reducible refine ⟨z.bZ.lay _ _,?_⟩);(intro _ h' zz x _);( simp only [bG,bu] at x );( replace q0:=q0.over x );( replace e0:=e0.over x );(replace z:=zz);(clear zz);rw [ao h']))
  rw [hw]
  (rw [aO];with_reducible refine bS (m:=_) ?_ ⟨i+1,_,rfl,z,⟨rfl,by omega,q0,e0⟩,bc⟩;omega)
 .repeat' (first|simp only [aa,seval,ot]|((with_reducible refine ⟨z.bZ.lay _ _,?_⟩);(intro _ h' zz x _);( simp only [bG,bu] at x );( replace q0:=q0.over x );( replace e0:=e0.over x );(replace z:=zz);(clear zz);rw [ao h']))
  exact hk _ _ z.au
theorem zu4 (d:aw) (p0 p1 p2 p5 p6:ae) (q b:Int) (h:Heap) (bn:(dw p0 p1 p2 p5 p6 q b).all Am.one=true) (hd:ej h p0 p1 p2 p5 p6 d) (hn:d.aU.length<=70) (K:aG) (hk:∀ c h',Ext h h'->K (.int .i64 c) h'):Ok prog aA ov 101 [gC p0 p1 p2 p5 p6 q b] h K:=by
 rw [ao h]
 have z:=Ext.refl h
 have dn:∀ (h:Heap) (K:aG),aD (some p2) h K=K p2 h:=λ_ _=>rfl
 have cO:=λ(hh:Heap)=>hd.s2.bt kl hh
 refine Ok.aq 49 (bm Km) ?_
 repeat' (simp only [aa,seval,lI,jG])
 refine lg (λh' x hq=>?_)
 have q0:=hq 0 _ rfl
 clear hq
 (replace z:=z.aj x;rw [ao h'])
 obtain ⟨A0,dK⟩:∃ A0,A0=h.size+0:=⟨_,rfl⟩
 rw [<- dK] at q0
 rw [<- dK]
 obtain ⟨I1,aO⟩:∃ I:Nat->Env->Heap->Prop,I=(λn e h'=>∃ (i:Nat) (h1:Heap),h'=h1.lay [] h1.low/\Ext h h1/\(n=d.aU.length - i/\i<=d.aU.length/\Holds h1 A0 (.row (dw p0 p1 p2 p5 p6 q b) 28 false))/\∃ J:Nat->ae,e=(J 0::.pointer (some ⟨A0,0,none⟩)::J 2::.int .i64 i::jr J 4 46 ([]))):=⟨_,rfl⟩
 refine cK I1 _ (by rw [aO];exact ⟨0,_,rfl,z,⟨rfl,by omega,q0⟩,bc⟩) ?_
 intro n e h' aK
 rw [aO] at aK
 obtain ⟨i,bD,rfl,z,hinv,J,rfl⟩:=aK
 clear q0
 obtain ⟨rfl,hi,q0⟩:=hinv
 have hw:=dE i (by omega)
 simp only [aa,seval,lI,q0.lay,oO,dn,cO]
 refine bg (λaP=>?_) (λaP=>?_)
 rotate_left
 .repeat' ( simp only [aa,seval,lI])
  exact hk _ _ z.au
 obtain ⟨r,hr,bM⟩:=eb (l:=d.aU) (i:=i) (by omega)
 repeat' (first|simp only [aa,seval,lI,q0.lay,↓fN,fw,eU,oO,dn]|with_reducible refine cZ (by simp only [lI]) z.au ?_|with_reducible refine CU (hd.s2.mono z.inc) kl kB (by omega) hr (λp bv hb hp=>?_)|with_reducible refine xO hp CZ (λqq hq=>?_)|with_reducible refine fo hq gU ?_)
 refine CM d.ah r.who _ _ _ _ _ _ _ _ ((hd.s0.mono z.inc).lay _ _) _ (λh' x=>?_)
 (((with_reducible refine di ?_ ?_ ?_);(· exact (by (simp only [dp]);have:=z.size;omega));(· exact x));replace z:=z.aj x;replace q0:=q0.over x;rw [ao h'])
 cases hh:fR d.ah r.who
 .repeat' (first|simp only [aa,seval,lI]|((with_reducible apply bI);(· rfl))|((with_reducible refine ⟨z.bZ.lay _ _,?_⟩);(intro _ h' zz x _);( simp only [bG,bu] at x );( replace q0:=q0.over x );(replace z:=zz);(clear zz);rw [ao h']))
  exact hk _ _ z.au
 repeat' (first|simp only [aa,seval,lI]|((with_reducible apply bI);(· rfl))|((with_reducible refine ⟨z.bZ.lay _ _,?_⟩);(intro _ h' zz x _);(simp only [bG,bu] at x);replace q0:=q0.over x;(replace z:=zz);(clear zz);rw [ao h']))
 obtain ⟨I2,ey⟩:∃ I:Nat->Env->Heap->Prop,I=(λn e h'=>∃ (k:Nat) (h1:Heap),h'=h1.lay [] h1.low/\Ext h h1/\(n=i - k/\k<=i/\Holds h1 A0 (.row (dw p0 p1 p2 p5 p6 q b) 28 false))/\∃ J:Nat->ae,e=(J 0::.pointer (some ⟨A0,0,none⟩)::J 2::.int .i64 i::.int .i64 k::jr J 5 45 ([]))):=⟨_,rfl⟩
 refine cK I2 _ (by rw [ey];exact ⟨0,_,rfl,z,⟨rfl,by omega,q0⟩,bc⟩) ?_
 intro n e h' aK
 rw [ey] at aK
 obtain ⟨k,bD,rfl,z,hinv,J,rfl⟩:=aK
 clear q0
 obtain ⟨rfl,yp,q0⟩:=hinv
 have qG:=dE k (by omega)
 simp only [aa,seval,lI]
 refine bg (λiZ=>?_) (λiZ=>?_)
 .obtain ⟨e,he,wH⟩:=eb (l:=d.aU) (i:=k) (by omega)
  repeat' (first|simp only [aa,seval,lI,q0.lay,oO,dn]|with_reducible refine cZ (by simp only [lI]) z.au ?_|((with_reducible apply bg) <;> intro _)|with_reducible refine CU (hd.s2.mono z.inc) kl kB (by omega) hr (λp bv hb hp=>?_)|with_reducible refine CU (hd.s2.mono z.inc) kl kB (by omega) he (λp bv hb hp=>?_)|with_reducible refine xO hp CZ (λqq hq=>?_)|with_reducible refine fo hq gU ?_|((with_reducible refine ⟨z.bZ.lay _ _,?_⟩);(intro _ h' zz x _);(simp only [bG,bu] at x);replace q0:=q0.over x;(replace z:=zz);(clear zz);rw [ao h']))
  .exact hk _ _ z.au
  .rw [qG]
   (rw [ey];with_reducible refine bS (m:=_) ?_ ⟨k+1,_,rfl,z,⟨rfl,by omega,q0⟩,bc⟩;omega)
 have qB:k=i:=by omega
 subst qB
 repeat' (first|simp only [aa,seval,lI,q0.lay,↓fN,fw,eU,oO,dn]|with_reducible refine cZ (by simp only [lI]) z.au ?_|with_reducible refine CU (hd.s2.mono z.inc) kl kB (by omega) hr (λp bv hb hp=>?_)|with_reducible refine G7 hp xq kB ?_)
 have qw:Sl aJ.str bD bv r.reads:=by assumption
 refine zu2 d.ah r bv _ _ _ _ _ _ _ _ bn ((hd.s0.mono z.inc).lay _ _) (qw.lay _ _) _ (λc h' x=>?_)
 (((with_reducible refine di ?_ ?_ ?_);(· exact (by (simp only [dp]);have:=z.size;omega));(· exact x));replace z:=z.aj x;replace q0:=q0.over x;rw [ao h'])
 repeat' (first|simp only [aa,seval,lI]|((with_reducible apply im) <;> intro _)|((with_reducible refine ⟨z.bZ.lay _ _,?_⟩);(intro _ h' zz x _);(simp only [bG,bu] at x);replace q0:=q0.over x;(replace z:=zz);(clear zz);rw [ao h']))
 .exact hk _ _ z.au
 .rw [hw]
  (rw [aO];with_reducible refine bS (m:=_) ?_ ⟨k+1,_,rfl,z,⟨rfl,by omega,q0⟩,bc⟩;omega)
end Go.Proofs.YtkgojconmeeegaaGreatDoor
