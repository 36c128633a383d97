/- The code of some functions, node by node, for simp. Written by a program (mkcode.py). No condition. -/
import Derived.Test.YtmamldleclamjaaGreatDoorG31
import Derived.Test.YtmamldleclamjaaGreatDoorG38
set_option linter.unusedSimpArgs false
set_option linter.unusedVariables false
set_option maxRecDepth 100000
set_option maxHeartbeats 0
noncomputable section
namespace Go.Proofs.YtmamldleclamjaaGreatDoor
open Go.Am Tryz
def JT:=bB f101
def NX:=PLift.up (by have c:=bD JT f101;simp only [aL,f101,seval] at c;exact nd c <| nd @qH <| nd @iM <| nd @b8 <| nd @gl <| @zDX)
theorem dA:type_of% NX.down:=NX.down
def N67:=bB f67
def x67:=PLift.up (by have c:=bD N67 f67;simp only [aL,f67,seval] at c;exact nd c <| nd @qH <| nd @b8 <| @V2)
theorem HU:type_of% x67.down:=x67.down
def JU:=bB f102
def NY:=PLift.up (by have c:=bD JU f102;simp only [aL,f102,seval] at c;exact nd c <| nd @qH <| nd @iM <| nd @b8 <| nd @gl <| @zDY)
theorem mU:type_of% NY.down:=NY.down
def N68:=bB f68
def x68:=PLift.up (by have c:=bD N68 f68;simp only [aL,f68,seval] at c;exact nd c <| nd @qH <| nd @b8 <| @V3)
theorem HV:type_of% x68.down:=x68.down
theorem Qb (l:aN) (a:aj) (v:ah) (h:Heap) (hl:Sl aK.atom h v l) (hn:l.length<=100000) (aW:∀ x∈l,x.aY=true) (ha:a.aY=true) (K:aI)
 (hk:∀ h',Ext h h'->K (.bool (bL l a)) h'):Ok prog aG ov 66 [v,a.val] h K:=by
 rw [ao h]
 have z:=Ext.refl h
 have gv:=λ(hh:Heap)=>hl.bn bF hh
 refine Ok.aw 17 (bu N66) ?_
 simp only [aa,seval,zp,gI]
 refine lZ (λh' x hq=>?_)
 have q0:=hq 0 _ rfl
 clear hq
 (replace z:=z.an x;rw [ao h'])
 obtain ⟨I1,aX⟩:∃ I:Nat->Env->Heap->Prop,I=(λn e h'=>∃ (i:Nat) (h1:Heap),h'=h1.lay [] h1.low/\Ext h h1/\(n=l.length - i/\i<=l.length/\(∀ x∈l.take i,¬ cM x=cM a)/\Holds h1 (h.size+0) (.row a.cells 47 false))/\∃ J:Nat->ah,e=(v::jr J 1 2 (.pointer (some ⟨h.size+0,0,none⟩)::J 4::.int .i64 i::jr J 6 13 ([])))):=⟨_,rfl⟩
 refine du I1 _ (by rw [aX];exact ⟨0,_,rfl,z,⟨rfl,by omega,by simp,q0⟩,bm⟩) ?_
 intro n e h' aP
 rw [aX] at aP
 obtain ⟨i,bx,rfl,z,hinv,J,rfl⟩:=aP
 clear q0
 obtain ⟨rfl,hi,kZ,q0⟩:=hinv
 have gk:=ei i (by omega)
 simp only [aa,seval,zp,gv]
 refine bq (λkr=>?_) (λkr=>?_)
 rotate_left
 .rw [gA (by omega)] at kZ
  have e:bL l a=false:=by
   cases e:bL l a
   .rfl
   .obtain ⟨x,hx,e2⟩:=dh.1 e
    exact absurd e2 (kZ x hx)
  rw [e] at hk
  repeat' (simp only [aa,seval,zp])
  exact hk _ z.aC
 have hr:l[(i:Int).toNat]? = some (l.getD i ae):=jJ (by omega)
 have bY:l.getD i ae∈l:=fW hr
 simp only [aa,seval,zp]
 with_reducible first|refine dL (by simp only [zp]) z.aC ?_
 simp only [aa,seval,zp]
 repeat' ((first|with_reducible refine oG (hl.mono z.inc) bF bN (by omega) hr (λp hp=>?_)|with_reducible refine mw hp fD bN ?_) <;> simp only [aa,seval,zp,q0.lay,↓eP,ef,dy])
 refine zw2 _ a (aW _ bY) ha _ _ (λh' x=>?_)
 (((with_reducible refine cW ?_ ?_ ?_);(· exact (by (simp only [cV]);have:=z.size;omega));(· exact x));replace z:=z.an x;replace q0:=q0.over x;rw [ao h'])
 simp only [aa,seval,zp]
 refine qh (λhc=>?_) (λhc=>?_)
 .have e:bL l a=true:=dh.2 ⟨_,bY,ck.1 hc⟩
  rw [e] at hk
  repeat' (first|simp only [aa,seval,zp]|((with_reducible refine ⟨z.cK.lay _ _,?_⟩);(intro _ h' zz x _);(simp only [b9,bG] at x);replace q0:=q0.over x;(replace z:=zz);(clear zz);rw [ao h']))
  exact hk _ z.aC
 .have lu:¬ cM (l.getD i ae)=cM a:=λe=>absurd (ck.2 e) hc
  have ta:=oE (i:=i) (P:=λx:aj=>¬ cM x=cM a) (jJ (l:=l) (i:=i) (by omega)) kZ lu
  repeat' (first|simp only [aa,seval,zp]|((with_reducible refine ⟨z.cK.lay _ _,?_⟩);(intro _ h' zz x _);(simp only [b9,bG] at x);replace q0:=q0.over x;(replace z:=zz);(clear zz);rw [ao h']))
  rw [gk]
  (rw [aX];with_reducible refine cy (m:=_) ?_ ⟨i+1,_,rfl,z,⟨rfl,by omega,ta,q0⟩,bm⟩;omega)
theorem PE {a b d:Heap} {A:Nat} (i:bH a b) (c:eX A b d) (hA:a.size<=A):bH a d:=⟨hY i.size c.size,λB hB hd=>(c.get B (dJ hB i.size) (by omega)).trans (i.get B hB hd)⟩
theorem zBB {n:Nat} (h:2<=n):n / 2 < n/\0 < n / 2/\n - n / 2 < n:=by omega
theorem PG:∀ (k:Nat) (l:aN) (v:ah) (h:Heap),l.length<=k->Sl aK.atom h v l->l.length<=100000->(∀ x∈l,x.aY=true)->∀ (K:aI),
 (∀ h' w,Ext h h'->kN h h' 47 w (eW l)->K w h')->Ok prog aG ov 101 [v] h K
 |k,l,v,h,kX,hl,hn,aW,K,hk=>by
  rw [ao h]
  have z:=Ext.refl h
  have gv:=λ(hh:Heap)=>hl.bn bF hh
  refine Ok.aw 68 (bu JT) ?_
  simp only [aa,seval,dA,gv]
  refine bq (λjc=>?_) (λjc=>?_)
  .repeat' ( simp only [aa,seval,dA])
   simp only [dx,seval,ly,zi]
   obtain ⟨news,hs,mI⟩:=vT (A:=h.size+1) (r:=aK.atom) (by decide) (hl.lay [.row [] 47 false] h.low) (λcs y hr=>hr)
   have f:Ow aK.atom h (h.lay [.row [] 47 false] h.low) 47 (h.size+1) (.slice (some ⟨h.size+0,0,none⟩) 0 0) [] :=
    .inl ⟨by omega,rfl,.inr ⟨h.size+0,0,rfl,by omega,by rw [bd];simp,[],47,false,by rw [iB];rfl⟩⟩
   obtain ⟨w,h',A',e1,e2,e3,e4,e5⟩:=uy (t:=51) bF r6 rfl (by decide) (by rw [bd];omega) f hs mI (by simp only [dK];omega) (by simp only [dK];omega)
   rw [e1]
   replace z:=(Ext.refl h).cw e3 (by omega) (by omega)
   rw [ao h']
   repeat' (simp only [aa,seval,dA])
   rw [zxO (by omega)] at hk
   exact hk _ _ z.aC (S8 ((by simpa using e2:Ow aK.atom h h' 47 A' w l).mono (bH.lay _ _ _)))
  match k,kX with
  |0,kX=>exact absurd kX (by omega)
  |k+1,kX =>
   have hq:IntKind.i64.wrap (((l.length:Nat):Int).tdiv 2)=((l.length / 2:Nat):Int):=by
    rw [Int.tdiv_eq_ediv_of_nonneg (by omega),wrap_i64 (by omega) (by omega)]
    omega
   obtain ⟨g1,g2,g3⟩:=zBB (n:=l.length) (by omega)
   simp only [aa,seval,dA,gv]
   rw [zvL (by decide),hq]
   repeat' (simp only [aa,seval,dA])
   with_reducible first|refine dL (by simp only [dA]) z.aC ?_
   simp only [aa,seval,dA]
   repeat' ((with_reducible refine zya (hl.mono z.inc) (by decide) bF bN (show l.length / 2<=l.length by omega) (λv1 oq=>?_)) <;> simp only [aa,seval,dA])
   have tl1:(l.take (l.length / 2)).length=l.length / 2:=by rw [fw];omega
   have tl2:(l.drop (l.length / 2)).length=l.length - l.length / 2:=by rw [jM]
   have lt1:∀ x∈l.take (l.length / 2),x.aY=true:=λx hx=>aW x (List.mem_of_mem_take hx)
   have lt2:∀ x∈l.drop (l.length / 2),x.aY=true:=λx hx=>aW x (List.mem_of_mem_drop hx)
   refine PG k (l.take (l.length / 2)) v1 _ (by omega) (oq.lay _ _) (by omega) lt1 _ (λh' w1 x o1=>?_)
   replace o1:=(o1.own (by have:=BO (l.take (l.length / 2));omega)).sl
   (((with_reducible refine cW ?_ ?_ ?_);(· exact (by (simp only [cV]);have:=z.size;omega));(· exact x));replace z:=z.an x;rw [ao h'])
   simp only [aa,seval,dA]
   repeat' ((with_reducible refine zoO (hl.mono z.inc) (by decide) bF bN (show l.length / 2<=l.length by omega) (λv2 mK=>?_)) <;> simp only [aa,seval,dA])
   refine PG k (l.drop (l.length / 2)) v2 _ (by omega) ((by assumption:Sl aK.atom _ v2 _).lay _ _) (by omega) lt2 _ (λh' w2 x o2=>?_)
   replace o2:=(o2.own (by have:=BO (l.drop (l.length / 2));omega)).sl
   (((with_reducible refine cW ?_ ?_ ?_);(· exact (by (simp only [cV]);have:=z.size;omega));(· exact x));replace z:=z.an x;replace o1:=o1.over x;rw [ao h'])
   repeat' (first|simp only [aa,seval,dA]|((with_reducible refine ⟨z.cK.lay _ _,?_⟩);(intro _ h' zz x _);(simp only [b9,bG] at x);replace o1:=o1.over x;replace o2:=o2.over x;(replace z:=zz);(clear zz);rw [ao h']))
   have anp:=BO (l.take (l.length / 2))
   have anq:=BO (l.drop (l.length / 2))
   have RO:=zxN (l.take (l.length / 2)) (l.drop (l.length / 2))
   rw [pj] at RO
   have XP:=ID lt1
   have XQ:=ID lt2
   generalize eW (l.take (l.length / 2))=s1 at *
   generalize eW (l.drop (l.length / 2))=s2 at *
   have rU:=z.size
   obtain ⟨H0,sM⟩:∃ H0,H0=h':=⟨_,rfl⟩
   rw [<- sM] at o1 o2 rU
   obtain ⟨I1,aX⟩:∃ I:Nat->Env->Heap->Prop,I=(λn e h'=>∃ (va vb wo:ah) (xs ys out:aN) (A:Nat) (h1:Heap),h'=h1.lay [] h1.low/\Ext h h1/\(n=xs.length+ys.length/\out++ny xs ys=eW l/\Sl aK.atom H0 va xs/\Sl aK.atom H0 vb ys/\Ow aK.atom H0 h1 47 A wo out/\bH H0 h1/\(∀ x∈xs,x.aY=true)/\(∀ x∈ys,x.aY=true)/\out.length+xs.length+ys.length<=l.length)/\∃ J:Nat->ah,e=(jr J 0 4 (va::vb::wo::jr J 7 62 ([])))):=⟨_,rfl⟩
   refine du I1 _ (by rw [aX];exact ⟨w1,w2,.slice none 0 0,s1,s2,[],H0.size,_,rfl,z,⟨rfl,by simpa using RO,o1,o2,Ow.nil (bo _),by rw [sM];exact bH.refl _,XP,XQ,by simp only [dK];omega⟩,bm⟩) ?_
   intro n e h' aP
   rw [aX] at aP
   obtain ⟨va,vb,wo,xs,ys,out,A,bx,rfl,z,hinv,J,rfl⟩:=aP
   clear o1 o2
   obtain ⟨rfl,dN,sa,sb,ow,i1,la,lb,F6⟩:=hinv
   have hlA:=λ(hh:Heap)=>sa.bn bF hh
   have hlB:=λ(hh:Heap)=>sb.bn bF hh
   have qu:=z.size
   have Bq:0 < xs.length->0 < ys.length->∃ x GL y GM,xs=x::GL/\ys=y::GM:=λh1 h2=>by
    match xs,ys,h1,h2 with
    |x::xs,y::ys,_,_=>exact ⟨x,xs,y,ys,rfl,rfl⟩
   have Mn:¬ (0 < xs.length/\0 < ys.length)->ny xs ys=xs++ys:=λhh=>by
    cases xs with
    |nil=>rw [ZX];rfl
    |cons x xs=>cases ys with
     |nil=>rw [Z0];simp
     |cons y ys=>exact absurd ⟨by simp,by simp⟩ hh
   simp only [aa,seval,dA,hlA]
   refine bq (λf1=>?_) (λf1=>?_)
   rotate_left
   .repeat' ( simp only [aa,seval,dA])
    simp only [dx,seval,ly,zi]
    rw [Mn (by omega)] at dN
    have gr:=i1.size
    have hlen:(out++xs).length=out.length+xs.length:=dI
    obtain ⟨C9,jV,jx⟩:=vT (A:=A) (r:=aK.atom) (by decide) ((sa.mono i1).lay [] bx.low) (λcs y hr=>hr)
    have Mr:=ow.fresh
    refine G9 (r:=aK.atom) bF r6 rfl (by decide) gr ow jV jx (by omega) (by omega) (λw5 h5 A5 o5 c5 hA5=>?_)
    have i5:=PE (i1.trans (bH.lay _ _ _)) c5 Mr
    replace z:=z.aC.step c5 (by omega)
    rw [ao h5]
    have tf:∀ (h:Heap) (K:aI),aH (some w5) h K=K w5 h:=λ_ _=>rfl
    simp only [aa,seval,dA,ly,zi]
    have XE:=i5.size
    have hz5:=z.size
    obtain ⟨Ny,gG,yu⟩:=vT (A:=A5) (r:=aK.atom) (by decide) ((sb.mono i5).lay [] h5.low) (λcs y hr=>hr)
    have hf5:=o5.fresh
    refine G9 (r:=aK.atom) bF r6 rfl (by decide) XE o5 gG yu (by omega) (by omega) (λw6 h6 A6 o6 c6 hA6=>?_)
    replace z:=z.aC.step c6 (by omega)
    rw [ao h6]
    have uh:∀ (h:Heap) (K:aI),aH (some w6) h K=K w6 h:=λ_ _=>rfl
    repeat' (simp only [aa,seval,dA])
    rw [ka,dN] at o6
    exact hk _ _ z.aC (S7 (S8 (o6.mono (bH.lay _ _ _))) rU)
   simp only [aa,seval,dA,hlB]
   refine bq (λf2=>?_) (λf2=>?_)
   rotate_left
   .repeat' ( simp only [aa,seval,dA])
    simp only [dx,seval,ly,zi]
    rw [Mn (by omega)] at dN
    have gr:=i1.size
    have hlen:(out++xs).length=out.length+xs.length:=dI
    obtain ⟨C9,jV,jx⟩:=vT (A:=A) (r:=aK.atom) (by decide) ((sa.mono i1).lay [] bx.low) (λcs y hr=>hr)
    have Mr:=ow.fresh
    refine G9 (r:=aK.atom) bF r6 rfl (by decide) gr ow jV jx (by omega) (by omega) (λw5 h5 A5 o5 c5 hA5=>?_)
    have i5:=PE (i1.trans (bH.lay _ _ _)) c5 Mr
    replace z:=z.aC.step c5 (by omega)
    rw [ao h5]
    have tf:∀ (h:Heap) (K:aI),aH (some w5) h K=K w5 h:=λ_ _=>rfl
    simp only [aa,seval,dA,ly,zi]
    have XE:=i5.size
    have hz5:=z.size
    obtain ⟨Ny,gG,yu⟩:=vT (A:=A5) (r:=aK.atom) (by decide) ((sb.mono i5).lay [] h5.low) (λcs y hr=>hr)
    have hf5:=o5.fresh
    refine G9 (r:=aK.atom) bF r6 rfl (by decide) XE o5 gG yu (by omega) (by omega) (λw6 h6 A6 o6 c6 hA6=>?_)
    replace z:=z.aC.step c6 (by omega)
    rw [ao h6]
    have uh:∀ (h:Heap) (K:aI),aH (some w6) h K=K w6 h:=λ_ _=>rfl
    repeat' (simp only [aa,seval,dA])
    rw [ka,dN] at o6
    exact hk _ _ z.aC (S7 (S8 (o6.mono (bH.lay _ _ _))) rU)
   obtain ⟨ax,GL,ay,GM,rfl,rfl⟩:=Bq (by omega) (by omega)
   have uW:=la ax (fZ ..)
   have hay:=lb ay (fZ ..)
   obtain ⟨Zy,ga,sa'⟩:=sa.sub (T:=aG) (t:=51) (by decide) bF bN (ea.num .i64 0 1) (ea.no _) (show 1<=(ax::GL).length by simp) (bo _)
   obtain ⟨Sf,gb,Zm⟩:=sb.sub (T:=aG) (t:=51) (by decide) bF bN (ea.num .i64 0 1) (ea.no _) (show 1<=(ay::GM).length by simp) (bo _)
   rw [JK,List.drop_succ_cons,As] at sa' Zm
   rw [show ((1:Nat):Int)=1 from rfl] at ga gb
   have Yv:∀ (h:Heap) (K:aI),aH (some Zy) h K=K Zy h:=λ_ _=>rfl
   have Nd:∀ (h:Heap) (K:aI),aH (some Sf) h K=K Sf h:=λ_ _=>rfl
   repeat' (simp only [aa,seval,dA])
   with_reducible first|refine dL (by simp only [dA]) z.aC ?_
   have hra:(ax::GL)[(0:Int).toNat]? = some ax:=rfl
   have hrb:(ay::GM)[(0:Int).toNat]? = some ay:=rfl
   simp only [aa,seval,dA]
   repeat' ((first|with_reducible refine oG (sa.mono i1) bF bN (by omega) hra (λp hp=>?_)|with_reducible refine oG (sb.mono i1) bF bN (by omega) hrb (λp hp=>?_)|with_reducible refine mw hp fD bN ?_) <;> simp only [aa,seval,dA])
   refine zw2 ax ay uW hay _ _ (λh' x=>?_)
   (((with_reducible refine cW ?_ ?_ ?_);(· exact (by (simp only [cV]);have:=z.size;omega));(· exact x));replace z:=z.an x;replace ow:=ow.over x;replace i1:=i1.over x;rw [ao h'])
   simp only [aa,seval,dA]
   ((with_reducible refine ⟨z.cK.lay _ _,?_⟩);(intro _ h' zz x _);(simp only [b9,bG] at x);replace ow:=ow.over x;replace i1:=i1.over x;(replace z:=zz);(clear zz);rw [ao h'])
   simp only [aa,seval,dA]
   refine bq (λwt=>?_) (λwt=>?_)
   .simp only [aa,seval,dA]
    with_reducible first|refine dL (by simp only [dA]) z.aC ?_
    simp only [aa,seval,dA]
    repeat' ((first|with_reducible refine oG (sa.mono i1) bF bN (by omega) hra (λp hp=>?_)|with_reducible refine mw hp fD bN ?_) <;> simp only [aa,seval,dA,IU])
    have mN:=z.size
    refine vN (by omega) (by omega) ?_
    simp only [dx,seval,dA,ly,zi]
    have Bb:=ow.fresh
    have gr:=i1.size
    have MW:out.length<=100000:=by omega
    obtain ⟨jV,jx⟩:=Jc (A:=A) (B:=h'.size+0) (r:=aK.atom) (c:=1) (y:=ax) (by decide) (show (h'.lay [ba.row ax.cells 47 false] (h'.size+1)).get (h'.size+0)=some (.row ax.cells 47 false) by rw [iB];rfl) rfl
    obtain ⟨w3,h3,A3,e1,o3,c3,e4,e5⟩:=uy (t:=51) bF r6 rfl (by decide) (by rw [bd];omega) (ow.mono (bH.lay _ _ _)) jV jx (by omega) (by omega)
    rw [e1]
    simp only [syms,seval]
    refine nM (A:=A) (by kernel_rfl) (by rw [bd];omega) (by omega) (by simpa only [b9,bd,bG,dY,dK,j3] using c3) ?_
    have i3:=PE (i1.trans (bH.lay _ _ _)) c3 Bb
    replace z:=(z.lk [ba.row ax.cells 47 false] (h'.size+1) (by omega)).step c3 (by omega)
    clear i1 ow e1 e4 e5 c3 jV jx
    have hv3:∀ (h:Heap) (K:aI),aH (some w3) h K=K w3 h:=λ_ _=>rfl
    rw [ao h3]
    repeat' (first|simp only [aa,seval,dA,ga,Yv]|((with_reducible refine ⟨z.cK.lay _ _,?_⟩);(intro _ h' zz x _);(simp only [b9,bG] at x);replace o3:=o3.over x;replace i3:=i3.over x;(replace z:=zz);(clear zz);rw [ao h']))
    rw [zjU wt] at dN
    (rw [aX];with_reducible refine cy (m:=_) ?_ ⟨Zy,vb,w3,GL,ay::GM,out++[ax],A3,_,rfl,z,⟨rfl,by rw [<- dN,ka,w8,pk],sa',sb,o3,i3,λx hx=>la x (eQ _ hx),lb,by simp only [dY,dI,dK] at F6 ⊢;omega⟩,bm⟩;(simp only [dY];omega))
   repeat' (first|simp only [aa,seval,dA]|((with_reducible apply bq) <;> intro _))
   .have lu:0 < aU ax ay:=by assumption
    with_reducible first|refine dL (by simp only [dA]) z.aC ?_
    simp only [aa,seval,dA]
    repeat' ((first|with_reducible refine oG (sb.mono i1) bF bN (by omega) hrb (λp hp=>?_)|with_reducible refine mw hp fD bN ?_) <;> simp only [aa,seval,dA,IU])
    have mN:=z.size
    refine vN (by omega) (by omega) ?_
    simp only [dx,seval,dA,ly,zi]
    have Bb:=ow.fresh
    have gr:=i1.size
    have MW:out.length<=100000:=by omega
    obtain ⟨jV,jx⟩:=Jc (A:=A) (B:=h'.size+0) (r:=aK.atom) (c:=1) (y:=ay) (by decide) (show (h'.lay [ba.row ay.cells 47 false] (h'.size+1)).get (h'.size+0)=some (.row ay.cells 47 false) by rw [iB];rfl) rfl
    obtain ⟨w3,h3,A3,e1,o3,c3,e4,e5⟩:=uy (t:=51) bF r6 rfl (by decide) (by rw [bd];omega) (ow.mono (bH.lay _ _ _)) jV jx (by omega) (by omega)
    rw [e1]
    simp only [syms,seval]
    refine nM (A:=A) (by kernel_rfl) (by rw [bd];omega) (by omega) (by simpa only [b9,bd,bG,dY,dK,j3] using c3) ?_
    have i3:=PE (i1.trans (bH.lay _ _ _)) c3 Bb
    replace z:=(z.lk [ba.row ay.cells 47 false] (h'.size+1) (by omega)).step c3 (by omega)
    clear i1 ow e1 e4 e5 c3 jV jx
    have hv3:∀ (h:Heap) (K:aI),aH (some w3) h K=K w3 h:=λ_ _=>rfl
    rw [ao h3]
    repeat' (first|simp only [aa,seval,dA,gb,Nd]|((with_reducible refine ⟨z.cK.lay _ _,?_⟩);(intro _ h' zz x _);(simp only [b9,bG] at x);replace o3:=o3.over x;replace i3:=i3.over x;(replace z:=zz);(clear zz);rw [ao h']))
    rw [zjT lu] at dN
    (rw [aX];with_reducible refine cy (m:=_) ?_ ⟨va,Sf,w3,ax::GL,GM,out++[ay],A3,_,rfl,z,⟨rfl,by rw [<- dN,ka,w8,pk],sa,Zm,o3,i3,la,λx hx=>lb x (eQ _ hx),by simp only [dY,dI,dK] at F6 ⊢;omega⟩,bm⟩;(simp only [dY];omega))
   .have pJ:aU ax ay=0:=by omega
    rw [gb]
    repeat' (simp only [aa,seval,dA,Nd])
    rw [zjS pJ] at dN
    (rw [aX];with_reducible refine cy (m:=_) ?_ ⟨va,Sf,wo,ax::GL,GM,out,A,_,rfl,z,⟨rfl,dN,sa,Zm,ow,i1,la,λx hx=>lb x (eQ _ hx),by simp only [dY] at F6 ⊢;omega⟩,bm⟩;(simp only [dY];omega))
end Go.Proofs.YtmamldleclamjaaGreatDoor
