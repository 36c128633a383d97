/- The code of some functions, node by node, for simp. Written by a program (mkcode.py). No condition. -/
import Derived.Test.YtnkmeidmdaidhaaGreatDoorG36
set_option linter.unusedSimpArgs false
set_option linter.unusedVariables false
set_option maxRecDepth 100000
set_option maxHeartbeats 0
noncomputable section
namespace Go.Proofs.YtnkmeidmdaidhaaGreatDoor
open Go.Am Tryz
def ZK:=bI f29
def x29:=PLift.up (by have c:=bM ZK f29;simp only [aO,f29,seval] at c;exact nd c <| nd @kH <| nd @vG <| nd @vd <| nd @Zo <| nd @zCL <| nd @QQ <| nd @pj <| nd @ig <| nd @Fc <| nd @iX <| nd @cq <| nd @qA <| nd @AM <| nd @rR <| nd @ij <| @Sj)
theorem kK:type_of% x29.down:=x29.down
def Z9:=bI f63
def x63:=PLift.up (by have c:=bM Z9 f63;simp only [aO,f63,seval] at c;exact nd c <| nd @kH <| nd @vG <| nd @Je <| nd @rB <| nd @zwo <| nd @zwp <| nd @zwq <| nd @vd <| nd @ve <| nd @Zo <| nd @zAp <| nd @pj <| nd @ig <| nd @Fc <| nd @iX <| nd @cq <| nd @ng <| nd @qA <| nd @Fe <| nd @qB <| nd @ij <| nd @SQ <| @TA)
theorem ka:type_of% x63.down:=x63.down
def Ol:=bI f32
def x32:=PLift.up (by have c:=bM Ol f32;simp only [aO,f32,seval] at c;exact nd c <| nd @vG <| nd @zwo <| nd @zwp <| nd @zBl <| nd @zwq <| nd @zwr <| nd @zBm <| nd @zBn <| nd @ve <| nd @Zo <| nd @QQ <| nd @zAm <| nd @pj <| nd @ig <| nd @Wa <| nd @Fc <| nd @iX <| nd @cq <| nd @ng <| nd @qA <| nd @AM <| nd @Lf <| nd @qB <| nd @Wf <| nd @ij <| nd @Sp <| @Tw)
theorem eN:type_of% x32.down:=x32.down
def ye:=bI f14
def Mo:=PLift.up (by have c:=bM ye f14;simp only [aO,f14,seval] at c;exact nd c <| nd @vH <| nd @QP <| nd @QQ <| nd @Zp <| nd @zAn <| nd @Ld <| nd @cq <| nd @ng <| nd @AL <| nd @AM <| nd @xo <| nd @Li <| nd @R1 <| @Le)
theorem iR:type_of% Mo.down:=Mo.down
theorem X5 (l:List au) (v:ai) (a:ae) (h:Heap) (hl:Sl aC.bind h v l) (hs:l.length<=1000) (K:aJ)
 (hk:∀ h',Ext h h'->K (cN l a).val h'):Ok prog aH ov 65 [v,a.val] h K:=by
 rw [aw h]
 have z:=Ext.refl h
 have m9:a.bx<=4:=by unfold ae.bx;omega
 refine Ok.aA 22 (bH N65) ?_
 repeat' (first|simp only [aa,seval,DI,gV,Od]|((with_reducible apply Nt);(· rfl);(· rfl))|((with_reducible apply Ns);(· rfl);(· rfl)))
 have hc:(if (4:Int) < (if a.n < 0 then 0 else a.n) then (4:Int) else (if a.n < 0 then 0 else a.n))=(a.bx:Int):=by
  unfold ae.bx
  split <;> split <;> omega
 try rw [hc]
 refine uB (λh' x hq=>?_)
 have q0:=hq 0 _ rfl
 have q1:=hq 1 _ rfl
 clear hq
 (replace z:=z.ao x;rw [aw h'])
 have sS:=z.size
 obtain ⟨A0,fI⟩:∃ A0,A0=h.size+0:=⟨_,rfl⟩
 obtain ⟨A1,nR⟩:∃ A1,A1=h.size+1:=⟨_,rfl⟩
 rw [<- fI] at q0
 rw [<- nR] at q1
 rw [<- fI,<- nR]
 obtain ⟨I1,aX⟩:∃ I:Nat->Env->Heap->Prop,I=(λn e h'=>∃ (i:Nat) (h1:Heap),h'=h1.lay [] h1.low/\Ext h h1/\(n=a.bx - i/\i<=a.bx/\Holds h1 A0 (.row (H9 l a i).cells 28 false)/\Holds h1 A1 (.row ah.cells 28 false))/\∃ J:Nat->ai,e=(v::jr J 1 2 (.pointer (some ⟨A0,0,none⟩)::.pointer (some ⟨A1,0,none⟩)::jr J 5 4 (.int .i64 a.bx::.int .i64 i::jr J 11 13 ([]))))):=⟨_,rfl⟩
 refine dN I1 _ (by rw [aX];exact ⟨0,_,rfl,z,⟨rfl,by omega,q0,q1⟩,bo⟩) ?_
 intro n e h' aP
 rw [aX] at aP
 obtain ⟨i,bU,rfl,z,hinv,J,rfl⟩:=aP
 clear q0 q1
 obtain ⟨rfl,hi,q0,q1⟩:=hinv
 have hw:=eE i (by omega)
 have hz:=z.size
 simp only [aa,seval,DI]
 refine bS (λaT=>?_) (λaT=>?_)
 rotate_left
 .have he:i=a.bx:=by omega
  subst he
  rw [ztC] at q0
  repeat' (simp only [aa,seval,DI,q0.lay,↓fe,dU,dq])
  refine FQ q1 ck rfl rfl rfl (λdc qG c=>?_)
  replace z:=z.av.step c (by omega)
  rw [aw dc]
  have xz:Holds dc A1 (.row (cN l a).cells 28 false):=qG
  simp only [aa,seval,DI,xz.lay,↓fe,dU,dq]
  exact hk _ z.av
 have iK:(0:Int)<=(i:Int)/\(i:Int) < 4:=by omega
 have jq:=NC (H9 l a i) i (by omega)
 rw [ztD l a (by omega)] at jq
 repeat' (simp only [aa,seval,DI,q0.lay,iK,↓jq,FT,xO])
 refine FW l v (a.arg i) _ ((hl.mono z.inc).lay _ _) hs _ (λh' x=>?_)
 (replace z:=z.ao x;replace q0:=q0.over x;replace q1:=q1.over x;rw [aw h'])
 repeat' (simp only [aa,seval,DI,iK])
 refine j4 (o:=3+i*2) q0 i4 (MT _) rfl (by show _<=11;omega) rfl (λdc nh c=>?_)
 rw [ztE l a (by omega)] at nh
 have qG:=q1.br c (by omega)
 replace z:=z.av.step c (by omega)
 rw [aw dc]
 clear q0 q1
 repeat' (simp only [aa,seval,DI])
 rw [hw]
 (rw [aX];with_reducible refine cF (m:=_) ?_ ⟨i+1,_,rfl,z,⟨rfl,by omega,nh,qG⟩,bo⟩;omega)
end Go.Proofs.YtnkmeidmdaidhaaGreatDoor
namespace Go.Am
def rf (c:ak) (s:dy):bc:=⟨cN s.l c.head,s.clause,c.body.map (cN s.l)⟩
end Go.Am
namespace Go.Proofs.YtnkmeidmdaidhaaGreatDoor
open Go.Am Tryz
theorem nH {b h:Heap} {E:List Nat} {y:cO} {cd vf:ai} {d:ba} (v:Am.Inv iD b E y cd vf d h) {k:Nat} {s:dy} (hs:d.ab[k]? = some s):Holds h (y.pl (.s k)) (.row ([.int .i64 (s.call:Int),.int .i64 s.clause,.int .i64 (s.taken:Int),y.vl (.s k)]++s.next.cells++[.int .i64 (s.src:Int),.int .i64 (s.seen:Int)]) 101 false):=v.dF (.s k) s hs
theorem zvW (a:ae) (n:Int):lL aH 71 [(0,a.val),(1,.int .i64 n)]=some (.agg ⟨a.cells++[.int .i64 n,.slice none 0 0]⟩):=by kernel_rfl
theorem zBE (a:ae) (u w:ai):(a.cells++[u,w]).length=13:=rfl
theorem zyE (a:ae) (u w:ai):(a.cells++[u,w])[12]? = some w:=rfl
theorem zu7 (a:ae) (u w w':ai):aI (a.cells++[u,w]) 12 [w']=a.cells++[u,w']:=rfl
theorem zBJ {h hc:Heap} {E:List Nat} {y:cO} {cd vf:ai} {d:ba} (dD:bl 1 h) (z:Ext h hc) (v:Am.Inv iD h E y cd vf d hc) {l:List ak} (jt:Sl aC.clause h cd l) {k:Nat} {s:dy} (hs:d.ab[k]? = some s) {j:Nat} (hj:s.clause=(j:Int)) {cc:ak} (kO:l[j]? = some cc) (jN:cc.body.length<=1000) (ia:s.l.length<=1000) {c:aY} (js:d.calls[s.call]? = some c)
 (KD:d.steps<=1000000000) (An:d.queue.length<=10000000000000) (U8:d.calls.length<=10000000) (Ck:c.answers.length<=10000000) (hn5:d.count<=1000000000) (hn6:c.waiters.length<=10000000) (hn7:d.aF.length<=10000000) (K:aJ)
 (hk:∀ h' E' y' u,Ext h h'->Am.Inv iD h E' y' cd vf (gA d s.call (rf cc s)) h'->eB d.ab.length E E' y y' hc h'->K u h'):Ok prog aH ov 63 [.pointer (some ⟨y.pl .w,0,none⟩),.pointer (some ⟨y.pl (.s k),0,none⟩)] hc K:=by
 rw [aw hc]
 have g:=aS.refl [] hc
 have qw:=iF v
 have qs:=nH v hs
 rw [hj] at qs
 have cX:∀ (u:ai) (h:Heap) (K:aJ),aK (some u) h K=K u h:=λ_ _ _=>rfl
 have D6:Sl aC.clause hc cd l:=jt.mono z.inc
 have Ae:=v.fz k s hs
 have hz:=z.size
 refine Ok.aA 54 (bH Z9) ?_
 repeat' (simp only [cm,seval,ka])
 with_reducible first|refine ez (by simp only [ka]) z.av ?_
 simp only [aa,seval,ka,qw.lay,qs.lay,cX]
 have hr:l[(j:Int).toNat]? = some cc:=by rw [uK];exact kO
 refine Db D6 fB iE (by omega) hr (λp bd gz hp=>?_)
 simp only [aa,seval,ka]
 refine G5 hp rz iE ?_
 clear hp
 simp only [aa,seval,ka]
 refine ni (by have:=z.size;omega) (by omega) ?_
 simp only [aa,seval,ka]
 rw [MO (n:=12) (v:=.agg ⟨cc.head.cells++[bd]⟩) (vs:=cc.head.cells++[bd]) (by kernel_rfl) rfl rfl rfl (Nu gz.one)]
 simp only [syms,seval]
 refine Fv (by kernel_rfl) (by simp) (by have:=z.size;omega) ?_
 simp only [cm,seval,ka]
 ((with_reducible refine ⟨z.cU.lay _ _,?_⟩);(intro _ h' zz x _);(simp only [bY,bC] at x);replace g:=g.over x;replace qw:=qw.over x;replace qs:=qs.over x;(replace z:=zz);(clear zz);rw [aw h'])
 have q0:=Holds.top (i:=0) x rfl
 have lg:=z.size
 obtain ⟨A0,fI⟩:∃ A0,A0=hc.size+0:=⟨_,rfl⟩
 rw [<- fI] at q0
 rw [<- fI]
 simp only [syms,seval,ka]
 with_reducible first|refine ez (by simp only [ka]) z.av ?_
 simp only [aa,seval,ka,qs.lay,q0.lay,↓YQ,dU,cX]
 refine X5 s.l _ cc.head _ (((Ae.mono (uX _ _)).mono g.all).lay _ _) ia _ (λh' x=>?_)
 (((with_reducible refine ix ?_ ?_ ?_);(· exact (by (simp only [iY]);have:=z.size;omega));(· exact x));replace z:=z.ao x;replace g:=g.over x;replace qw:=qw.over x;replace qs:=qs.over x;replace q0:=q0.over x;rw [aw h'])
 simp only [aa,seval,ka,qs.lay,cX,zvW]
 refine ni (by have:=z.size;omega) (by omega) ?_
 simp only [aa,seval,ka]
 rw [MO (n:=13) (v:=.agg ⟨(cN s.l cc.head).cells++[Value.int .i64 (j:Int),Value.slice none 0 0]⟩) (vs:=(cN s.l cc.head).cells++[Value.int .i64 (j:Int),Value.slice none 0 0]) (by kernel_rfl) rfl rfl rfl rfl]
 simp only [syms,seval]
 refine Fv (by kernel_rfl) (by simp) (by have:=z.size;omega) ?_
 simp only [cm,seval,ka]
 have AF:=z.size
 have UF:=g.size
 obtain ⟨AR,TR⟩:∃ AR,AR=h'.size+0:=⟨_,rfl⟩
 have ajG:hc.size<=AR:=by omega
 rw [<- TR]
 ((with_reducible refine ⟨z.cU.lay _ _,?_⟩);(intro _ h' zz x _);(simp only [bY,bC] at x);replace g:=g.over x;replace qw:=qw.over x;replace qs:=qs.over x;replace q0:=q0.over x;(replace z:=zz);(clear zz);rw [aw h'])
 have qr:=Holds.top (i:=0) x rfl
 rw [<- TR] at qr
 clear TR
 have UU:=λ(hh:Heap)=>gz.bQ bZ hh
 repeat' (simp only [aa,seval,ka,q0.lay,Nf,cX,UU])
 obtain ⟨hL,OZ⟩:∃ hL,hL=h':=⟨_,rfl⟩
 have ajF:AR < hL.size:=by rw [OZ];exact qr.lt
 have hLc:hc.size<=hL.size:=by rw [OZ];exact g.size
 have TY:hL.size<=h'.size:=by rw [OZ];exact aR _
 clear OZ qw qs q0
 obtain ⟨I1,aX⟩:∃ I:Nat->Env->Heap->Prop,I=(λn e h'=>∃ (i:Nat) (wb:ai) (B:Nat) (h1:Heap),h'=h1.lay [] h1.low/\Ext h h1/\(n=cc.body.length - i/\i<=cc.body.length/\aS [] hc h1/\Ow aC.atom hL h1 28 B wb ((cc.body.take i).map (cN s.l))/\hL.size<=h1.size/\Holds h1 AR (.row ((cN s.l cc.head).cells++[Value.int .i64 (j:Int),wb]) 71 false))/\∃ J:Nat->ai,e=(.pointer (some ⟨y.pl .w,0,none⟩)::.pointer (some ⟨y.pl (.s k),0,none⟩)::jr J 2 3 (.pointer (some ⟨AR,0,none⟩)::jr J 6 25 (bd::.int .i64 cc.body.length::.int .i64 i::jr J 34 22 ([]))))):=⟨_,rfl⟩
 refine dN I1 _ (by rw [aX];exact ⟨0,.slice none 0 0,hL.size,_,rfl,z,⟨rfl,by omega,g,Ow.nil (aR _),TY,qr⟩,bo⟩) ?_
 intro n e h' aP
 rw [aX] at aP
 obtain ⟨i,wb,B,bU,rfl,z,hinv,J,rfl⟩:=aP
 clear g qr TY
 obtain ⟨rfl,hi,g,ob,TY,qr⟩:=hinv
 have jB:=eE i (by omega)
 have uW:=z.size
 have hqr:=qr.lt
 have hfB:=ob.fresh
 have qs:=(nH v hs).JK g
 simp only [aa,seval,ka]
 refine bS (λaT=>?_) (λaT=>?_)
 rotate_left
 .rw [gb (by omega)] at ob
  have iu:rf cc s=⟨cN s.l cc.head,(j:Int),cc.body.map (cN s.l)⟩:=by unfold rf;rw [hj]
  repeat' (simp only [aa,seval,ka])
  with_reducible first|refine ez (by simp only [ka]) z.av ?_
  simp only [aa,seval,ka,qs.lay,qr.lay,↓zov,cX]
  refine zo1 dD z.av ((v.bf g).bf (aS.lay _ _ _ _)) js (r:=⟨cN s.l cc.head,(j:Int),cc.body.map (cN s.l)⟩) (bv:=wb) ((ob.lay _ _).bq (λ_ _ _ _ h=>h) (by decide) (λX hX=>by have:=v.eF X hX;omega)) KD An U8 Ck hn5 hn6 hn7 _ (λh2 E2 y2 u2 z2 v2 s2=>?_)
  have eQ:=s2.size
  rw [bh] at eQ
  simp only [db,gx] at eQ
  refine Hf (by kernel_rfl) z2.low (by rw [bh];simp only [db];omega) ?_
  have s3:=((eB.refl d.ab.length E y hc).bf (g.trans (aS.lay _ _ _ []) (by simp))).trans s2 (aR _)
  clear z
  have z:=z2
  have g2:=aS.refl [] h2
  rw [aw h2]
  simp only [cm,seval,ka]
  ((with_reducible refine ⟨z.cU.lay _ _,?_⟩);(intro _ h' zz x _);(simp only [bY,bC] at x);replace g2:=g2.over x;(replace z:=zz);(clear zz);rw [aw h'])
  simp only [seval,ka]
  rw [iu] at hk
  exact hk _ E2 y2 _ z.av (v2.bf (g2.trans (aS.lay _ _ _ []) (by simp))) (s3.bf (g2.trans (aS.lay _ _ _ []) (by simp)))
 obtain ⟨b2,iB,zM⟩:=gC (l:=cc.body) (i:=i) (by omega)
 repeat' (first|simp only [aa,seval,ka]|with_reducible refine r9 (gz.mono g.all) bZ ck (by omega) iB (λp hp=>?_)|with_reducible refine qV hp iQ ck ?_)
 repeat' (simp only [aa,seval,ka,iy,im,gd,lI,gV,FP,FN,HF])
 with_reducible first|refine ez (by simp only [ka]) z.av ?_
 simp only [aa,seval,ka,qs.lay,qr.lay,zyE,↓fe,dU,cX]
 have OM:aS [] bU bU:=aS.refl [] bU
 refine X5 s.l _ b2 _ (((Ae.mono (uX _ _)).mono g.all).lay _ _) ia _ (λh' x=>?_)
 (((with_reducible refine ix ?_ ?_ ?_);(· exact (by (simp only [iY]);have:=z.size;omega));(· exact x));replace z:=z.ao x;replace g:=g.over x;replace qs:=qs.over x;replace ob:=ob.over x;replace qr:=qr.over x;replace OM:=OM.over x;rw [aw h'])
 clear hp
 simp only [aa,seval,ka,gV,FP,FN]
 have tV:(cc.body.take i).length<=1000:=by rw [gR];omega
 refine ni (by have:=z.size;omega) (by omega) ?_
 simp only [cm,seval,ka,jF,Q5]
 have rQ:=z.size
 have hg5:=g.size
 have hLs:=OM.size
 have hBR:AR≠B:=by omega
 have ak8:=qr.lt
 refine te (i:=0) (cs:=(cN s.l b2).cells) (x:=cN s.l b2) bZ sV rfl (by decide) (by rfl) (by omega) ob rfl (by rw [gw];omega) (by rw [gw];omega) (λw3 h3 A3 jS eU jM=>?_)
 refine iL (A:=B) (by kernel_rfl) (by have:=z.size;rw [bh];omega) (by omega) (by simpa only [bY,bh,bC,ek,db,gx] using eU) ?_
 have qr3:=qr.br eU hBR
 have g3:aS [] hc h3:=g.eV eU (.inr (by omega))
 have z3:=z.bV eU (by omega) (by omega)
 have h3s:=eU.size
 rw [bh] at h3s
 clear z g qs ob qr OM
 have z:=z3
 rw [aw h3]
 simp only [aa,seval,ka]
 obtain ⟨a3,m3,tC,rfl⟩:=jS.slice
 refine j4 (n:=1) (o:=12) (vs:=[.slice a3 m3 tC]) qr3 (by kernel_rfl) rfl rfl (by rw [zBE];decide) rfl (λh4 q4 lC=>?_)
 have xi:=z.size
 refine iL (A:=AR) (by kernel_rfl) (by have:=z.size;rw [bh];omega) (by omega) lC ?_
 have AU:=Ow.eV (λ_ _ _ _ h=>h) (by simp) (jS.mono (bN.lay h3 [] _)) lC (by have:=jS.fresh;omega)
 have g4:aS [] hc h4:=g3.eV lC (.inr (by omega))
 have z4:=z3.bV lC (by omega) (by omega)
 have h4s:=lC.size
 rw [bh] at h4s
 have ajR:hL.size<=h4.size:=by omega
 rw [zu7] at q4
 have pg:(cc.body.take i).map (cN s.l)++[cN s.l b2]=(cc.body.take (i+1)).map (cN s.l):=by rw [lr,zM,sf];rfl
 rw [pg] at AU
 clear z z3 g3 qr3 jS
 have z:=z4
 have g:=g4
 have GS:=aS.refl [] h4
 rw [aw h4]
 simp only [cm,seval,ka]
 ((with_reducible refine ⟨z.cU.lay _ _,?_⟩);(intro _ h' zz x _);(simp only [bY,bC] at x);replace g:=g.over x;replace q4:=q4.over x;replace AU:=AU.over x;replace GS:=GS.over x;(replace z:=zz);(clear zz);rw [aw h'])
 simp only [aa,seval,ka]
 rw [jB]
 (rw [aX];with_reducible refine cF (m:=_) ?_ ⟨i+1,_,A3,_,rfl,z,⟨rfl,by omega,g,AU,by have:=GS.size;omega,q4⟩,bo⟩;omega)
end Go.Proofs.YtnkmeidmdaidhaaGreatDoor
namespace Go.Am
def j6 (d:ba) (i:Nat) (l:aN):ba:=l.foldl (λd f=>gA d i ⟨f,-1,[]⟩) d
def fY (d:ba) (i:Nat) (a:ae):Nat->List ak->ba
 |_,[]=>d
 |k,c::cl=>fY (match kD a c.head with|some l=>jV d ⟨i,(k:Int),0,l,ah,0,0⟩|none=>d) i a (k+1) cl
theorem PE (i:Nat) (a:ae) (c:ak):∀ (cl:List ak) (k:Nat) (d:ba),fY d i a k (cl++[c])=(match kD a c.head with|some l=>jV (fY d i a k cl) ⟨i,((k+cl.length:Nat):Int),0,l,ah,0,0⟩|none=>fY d i a k cl)
 | [],k,d=>rfl
 |x::cl,k,d=>by
  rw [rh,fY,PE i a c cl,fY,ek]
  have e:k+1+cl.length=k+(cl.length+1):=by omega
  rw [e]
theorem zu1 (d:ba) (i:Nat) (l:aN) (f:ae):j6 d i (l++[f])=gA (j6 d i l) i ⟨f,-1,[]⟩:=by
 unfold j6
 rw [List.foldl_append]
 rfl
def aW (facts:aN) (cl:List ak) (d:ba) (a:ae):ba × Nat :=
 if (de d (bB a)).2.2 then (fY (j6 (de d (bB a)).1 (de d (bB a)).2.1 (eT (bB (bB a)) facts)) (de d (bB a)).2.1 (bB (bB a)) 0 cl,(de d (bB a)).2.1)
 else ((de d (bB a)).1,(de d (bB a)).2.1)
structure qP (d:ba):Prop where
 steps:d.steps<=1000000000
 queue:d.queue.length<=10000000000000
 calls:d.calls.length<=10000000
 mY:∀ c∈d.calls,c.answers.length<=10000000
 pN:∀ c∈d.calls,c.waiters.length<=10000000
 count:d.count<=1000000000
 aF:d.aF.length<=10000000
 ab:d.ab.length<=100000000
theorem zn5 {d:ba} {i:Nat} {c:aY} (h:d.calls[i]? = some c) (r:bc):∃ c1,(gA d i r).calls[i]? = some c1/\c1.atom=c.atom:=by
 obtain ⟨c1,h1,_,h3⟩:=znY h r.atom
 refine ⟨c1,?_,h3⟩
 unfold gA
 split
 .unfold r6 mc
  dsimp only
  split
  .exact h1
  .exact h1
 .exact h1
theorem Hd (d:ba) (i:Nat) (r:bc):(gA d i r).ab=d.ab:=by
 have h:=(Hw d i r.atom).2.2.1
 unfold gA
 split
 .unfold r6 mc
  dsimp only
  split
  .exact h
  .exact h
 .exact h
theorem zlN (i:Nat):∀ (l:aN) {d:ba} {c:aY},d.calls[i]? = some c->∃ c1,(j6 d i l).calls[i]? = some c1/\c1.atom=c.atom
 | [],d,c,h=>⟨c,h,rfl⟩
 |f::l,d,c,h=>by
  obtain ⟨c1,h1,h2⟩:=zn5 h ⟨f,-1,[]⟩
  obtain ⟨c2,h3,h4⟩:=zlN i l h1
  exact ⟨c2,h3,h4.trans h2⟩
theorem MA (i:Nat):∀ (l:aN) (d:ba),(j6 d i l).ab=d.ab
 | [],d=>rfl
 |f::l,d=>(MA i l _).trans (Hd d i _)
theorem X9 {d:ba} {a:ae} (h:(de d a).2.2=true):(de d a).1={ d with calls:=d.calls++[⟨bB a,[],[]⟩] }/\(de d a).2.1=d.calls.length:=by
 unfold de at h ⊢
 split
 .rename_i hv;rw [aD hv] at h;cases h
 .rename_i hv
  rw [az hv] at h
  split
  .rename_i hm;rw [aD hm] at h;cases h
  .exact ⟨rfl,rfl⟩
theorem XX (i:Nat) (a:ae):∀ (cl:List ak) (k:Nat) (d:ba),d.ab.length<=(fY d i a k cl).ab.length
 | [],k,d=>aR _
 |c::cl,k,d=>by
  rw [fY]
  cases kD a c.head with
  |none=>exact XX i a cl (k+1) d
  |some l =>
   refine eA ?_ (XX i a cl (k+1) _)
   show d.ab.length<=(d.ab++[_]).length
   rw [cE]
   omega
end Go.Am
