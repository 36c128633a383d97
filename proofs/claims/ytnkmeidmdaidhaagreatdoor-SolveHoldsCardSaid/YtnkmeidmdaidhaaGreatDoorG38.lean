/- The code of some functions, node by node, for simp. Written by a program (mkcode.py). No condition. -/
import Derived.Test.YtnkmeidmdaidhaaGreatDoorG37
set_option linter.unusedSimpArgs false
set_option linter.unusedVariables false
set_option maxRecDepth 100000
set_option maxHeartbeats 0
noncomputable section
namespace Go.Proofs.YtnkmeidmdaidhaaGreatDoor
open Go.Am Tryz
def XM:=bR f29
def x29:=PLift.up (by have c:=bU XM f29;simp only [aS,f29,seval] at c;exact nd c <| nd @kc <| nd @uN <| nd @Ae <| nd @Xp <| nd @zBr <| nd @Pf <| nd @oG <| nd @iF <| nd @D3 <| nd @jx <| nd @cJ <| nd @ri <| nd @zx <| nd @rk <| nd @iG <| @QB)
theorem ke:type_of% x29.down:=x29.down
def X8:=bR f63
def x63:=PLift.up (by have c:=bU X8 f63;simp only [aS,f63,seval] at c;exact nd c <| nd @kc <| nd @uN <| nd @HH <| nd @qO <| nd @zvw <| nd @zvx <| nd @zvy <| nd @Ae <| nd @Af <| nd @Xp <| nd @zzj <| nd @oG <| nd @iF <| nd @D3 <| nd @jx <| nd @cJ <| nd @nH <| nd @ri <| nd @D4 <| nd @pP <| nd @iG <| nd @Q2 <| @RD)
theorem jP:type_of% x63.down:=x63.down
def MF:=bR f32
def x32:=PLift.up (by have c:=bU MF f32;simp only [aS,f32,seval] at c;exact nd c <| nd @uN <| nd @zvw <| nd @zvx <| nd @zz9 <| nd @zvy <| nd @zvz <| nd @zAa <| nd @zAb <| nd @Af <| nd @Xp <| nd @Pf <| nd @zzg <| nd @oG <| nd @iF <| nd @Uk <| nd @D3 <| nd @jx <| nd @cJ <| nd @nH <| nd @ri <| nd @zx <| nd @JX <| nd @pP <| nd @Up <| nd @iG <| nd @QE <| @Rz)
theorem eJ:type_of% x32.down:=x32.down
def xm:=bR f14
def KR:=PLift.up (by have c:=bU xm f14;simp only [aS,f14,seval] at c;exact nd c <| nd @uO <| nd @Pe <| nd @Pf <| nd @Xq <| nd @zzh <| nd @JV <| nd @cJ <| nd @nH <| nd @zw <| nd @zx <| nd @wG <| nd @J1 <| nd @Qp <| @JW)
theorem iA:type_of% KR.down:=KR.down
theorem Wa (l:List av) (v:ai) (a:ae) (h:Heap) (hl:Sl aG.bind h v l) (hs:l.length<=1000) (K:aO)
 (hk:∀ h',Ext h h'->K (cB l a).val h'):Ok prog aJ ov 65 [v,a.val] h K:=by
 rw [az h]
 have z:=Ext.refl h
 have ny:a.bt<=4:=by unfold ae.bt;omega
 refine Ok.aF 22 (bY Ya) ?_
 repeat' (first|simp only [aa,seval,CF,js,Mz]|((with_reducible apply O1);(· rfl);(· rfl))|((with_reducible apply O8);(· rfl);(· rfl)))
 have hc:(if (4:Int) < (if a.n < 0 then 0 else a.n) then (4:Int) else (if a.n < 0 then 0 else a.n))=(a.bt:Int):=by
  unfold ae.bt
  split <;> split <;> omega
 try rw [hc]
 refine uw (λh' x hq=>?_)
 have q0:=hq 0 _ rfl
 have q1:=hq 1 _ rfl
 clear hq
 (replace z:=z.au x;rw [az h'])
 have tu:=z.size
 obtain ⟨A0,iX⟩:∃ A0,A0=h.size+0:=⟨_,rfl⟩
 obtain ⟨A1,nq⟩:∃ A1,A1=h.size+1:=⟨_,rfl⟩
 rw [<- iX] at q0
 rw [<- nq] at q1
 rw [<- iX,<- nq]
 obtain ⟨I1,bo⟩:∃ I:Nat->Env->Heap->Prop,I=(λn e h'=>∃ (i:Nat) (h1:Heap),h'=h1.lay [] h1.low/\Ext h h1/\(n=a.bt - i/\i<=a.bt/\ak h1 A0 (.row (GQ l a i).cells 28 false)/\ak h1 A1 (.row ah.cells 28 false))/\∃ J:Nat->ai,e=(v::jr J 1 2 (.pointer (some ⟨A0,0,none⟩)::.pointer (some ⟨A1,0,none⟩)::jr J 5 4 (.int .i64 a.bt::.int .i64 i::jr J 11 13 ([]))))):=⟨_,rfl⟩
 refine fh I1 _ (by rw [bo];exact ⟨0,_,rfl,z,⟨rfl,by omega,q0,q1⟩,bO⟩) ?_
 intro n e h' aU
 rw [bo] at aU
 obtain ⟨i,cF,rfl,z,hinv,J,rfl⟩:=aU
 clear q0 q1
 obtain ⟨rfl,hi,q0,q1⟩:=hinv
 have hw:=gE i (by omega)
 have hz:=z.size
 simp only [aa,seval,CF]
 refine cm (λbc=>?_) (λbc=>?_)
 rotate_left
 .have he:i=a.bt:=by omega
  subst he
  rw [zsV] at q0
  repeat' (simp only [aa,seval,CF,q0.lay,↓fU,eG,dS])
  refine EG q1 cw rfl rfl rfl (λda pU c=>?_)
  replace z:=z.aw.step c (by omega)
  rw [az da]
  have wM:ak da A1 (.row (cB l a).cells 28 false):=pU
  simp only [aa,seval,CF,wM.lay,↓fU,eG,dS]
  exact hk _ z.aw
 have jH:(0:Int)<=(i:Int)/\(i:Int) < 4:=by omega
 have kP:=LR (GQ l a i) i (by omega)
 rw [zsW l a (by omega)] at kP
 repeat' (simp only [aa,seval,CF,q0.lay,jH,↓kP,EL,BM])
 refine ES l v (a.arg i) _ ((hl.mono z.inc).lay _ _) hs _ (λh' x=>?_)
 (replace z:=z.au x;replace q0:=q0.over x;replace q1:=q1.over x;rw [az h'])
 repeat' (simp only [aa,seval,CF,jH])
 refine jL (o:=3+i*2) q0 iK (K8 _) rfl (by show _<=11;omega) rfl (λda mH c=>?_)
 rw [zsX l a (by omega)] at mH
 have pU:=q1.bB c (by omega)
 replace z:=z.aw.step c (by omega)
 rw [az da]
 clear q0 q1
 repeat' (simp only [aa,seval,CF])
 rw [hw]
 (rw [bo];with_reducible refine dA (m:=_) ?_ ⟨i+1,_,rfl,z,⟨rfl,by omega,mH,pU⟩,bO⟩;omega)
end Go.Proofs.YtnkmeidmdaidhaaGreatDoor
namespace Go.Am
def qD (c:aq) (s:dv):ba:=⟨cB s.l c.head,s.clause,c.body.map (cB s.l)⟩
end Go.Am
namespace Go.Proofs.YtnkmeidmdaidhaaGreatDoor
open Go.Am Tryz
theorem na {b h:Heap} {E:List Nat} {y:cG} {bZ vf:ai} {d:aY} (v:Am.Inv il b E y bZ vf d h) {k:Nat} {s:dv} (hs:d.ab[k]? = some s):ak h (y.pl (.s k)) (.row ([.int .i64 (s.call:Int),.int .i64 s.clause,.int .i64 (s.taken:Int),y.vl (.s k)]++s.next.cells++[.int .i64 (s.src:Int),.int .i64 (s.seen:Int)]) 101 false):=v.dB (.s k) s hs
theorem zu8 (a:ae) (n:Int):nP aJ 71 [(0,a.val),(1,.int .i64 n)]=some (.agg ⟨a.cells++[.int .i64 n,.slice none 0 0]⟩):=by kernel_rfl
theorem zAo (a:ae) (u w:ai):(a.cells++[u,w]).length=13:=rfl
theorem zxE (a:ae) (u w:ai):(a.cells++[u,w])[12]? = some w:=rfl
theorem zuj (a:ae) (u w w':ai):aI (a.cells++[u,w]) 12 [w']=a.cells++[u,w']:=rfl
theorem zAt {h hc:Heap} {E:List Nat} {y:cG} {bZ vf:ai} {d:aY} (dq:bh 1 h) (z:Ext h hc) (v:Am.Inv il h E y bZ vf d hc) {l:List aq} (jd:Sl aG.clause h bZ l) {k:Nat} {s:dv} (hs:d.ab[k]? = some s) {j:Nat} (hj:s.clause=(j:Int)) {cc:aq} (lC:l[j]? = some cc) (kQ:cc.body.length<=1000) (gO:s.l.length<=1000) {c:aX} (jc:d.calls[s.call]? = some c)
 (xz:d.steps<=1000000000) (ze:d.queue.length<=10000000000000) (Tn:d.calls.length<=10000000) (Dw:c.answers.length<=10000000) (Zr:d.count<=1000000000) (Zs:c.waiters.length<=10000000) (Zt:d.aC.length<=10000000) (K:aO)
 (hk:∀ h' E' y' u,Ext h h'->Am.Inv il h E' y' bZ vf (gj d s.call (qD cc s)) h'->ec d.ab.length E E' y y' hc h'->K u h'):Ok prog aJ ov 63 [.pointer (some ⟨y.pl .w,0,none⟩),.pointer (some ⟨y.pl (.s k),0,none⟩)] hc K:=by
 rw [az hc]
 have g:=aR.refl [] hc
 have qw:=im v
 have qs:=na v hs
 rw [hj] at qs
 have dg:∀ (u:ai) (h:Heap) (K:aO),aM (some u) h K=K u h:=λ_ _ _=>rfl
 have C8:Sl aG.clause hc bZ l:=jd.mono z.inc
 have yX:=v.fz k s hs
 have hz:=z.size
 refine Ok.aF 54 (bY X8) ?_
 repeat' (simp only [cv,seval,jP])
 with_reducible first|refine eF (by simp only [jP]) z.aw ?_
 simp only [aa,seval,jP,qw.lay,qs.lay,dg]
 have hr:l[(j:Int).toNat]? = some cc:=by rw [uG];exact lC
 refine GX C8 jv kx (by omega) hr (λp bd gV hp=>?_)
 simp only [aa,seval,jP]
 refine JZ hp sK kx ?_
 clear hp
 simp only [aa,seval,jP]
 refine nL (by have:=z.size;omega) (by omega) ?_
 simp only [aa,seval,jP]
 rw [Lk (n:=12) (v:=.agg ⟨cc.head.cells++[bd]⟩) (vs:=cc.head.cells++[bd]) (by kernel_rfl) rfl rfl rfl (LI gV.one)]
 simp only [syms,seval]
 refine Eo (by kernel_rfl) (by simp) (by have:=z.size;omega) ?_
 simp only [cv,seval,jP]
 ((with_reducible refine ⟨z.cS.lay _ _,?_⟩);(intro _ h' zz x _);(simp only [bS,bD] at x);replace g:=g.over x;replace qw:=qw.over x;replace qs:=qs.over x;(replace z:=zz);(clear zz);rw [az h'])
 have q0:=ak.top (i:=0) x rfl
 have mi:=z.size
 obtain ⟨A0,iX⟩:∃ A0,A0=hc.size+0:=⟨_,rfl⟩
 rw [<- iX] at q0
 rw [<- iX]
 simp only [syms,seval,jP]
 with_reducible first|refine eF (by simp only [jP]) z.aw ?_
 simp only [aa,seval,jP,qs.lay,q0.lay,↓W9,eG,dg]
 refine Wa s.l _ cc.head _ (((yX.mono (ui _ _)).mono g.all).lay _ _) gO _ (λh' x=>?_)
 (((with_reducible refine fP ?_ ?_ ?_);(· exact (by (simp only [gh]);have:=z.size;omega));(· exact x));replace z:=z.au x;replace g:=g.over x;replace qw:=qw.over x;replace qs:=qs.over x;replace q0:=q0.over x;rw [az h'])
 simp only [aa,seval,jP,qs.lay,dg,zu8]
 refine nL (by have:=z.size;omega) (by omega) ?_
 simp only [aa,seval,jP]
 rw [Lk (n:=13) (v:=.agg ⟨(cB s.l cc.head).cells++[Value.int .i64 (j:Int),Value.slice none 0 0]⟩) (vs:=(cB s.l cc.head).cells++[Value.int .i64 (j:Int),Value.slice none 0 0]) (by kernel_rfl) rfl rfl rfl rfl]
 simp only [syms,seval]
 refine Eo (by kernel_rfl) (by simp) (by have:=z.size;omega) ?_
 simp only [cv,seval,jP]
 have ue:=z.size
 have SM:=g.size
 obtain ⟨AR,RT⟩:∃ AR,AR=h'.size+0:=⟨_,rfl⟩
 have agZ:hc.size<=AR:=by omega
 rw [<- RT]
 ((with_reducible refine ⟨z.cS.lay _ _,?_⟩);(intro _ h' zz x _);(simp only [bS,bD] at x);replace g:=g.over x;replace qw:=qw.over x;replace qs:=qs.over x;replace q0:=q0.over x;(replace z:=zz);(clear zz);rw [az h'])
 have qr:=ak.top (i:=0) x rfl
 rw [<- RT] at qr
 clear RT
 have Ta:=λ(hh:Heap)=>gV.bW cM hh
 repeat' (simp only [aa,seval,jP,q0.lay,Lx,dg,Ta])
 obtain ⟨hL,Nf⟩:∃ hL,hL=h':=⟨_,rfl⟩
 have agY:AR < hL.size:=by rw [Nf];exact qr.lt
 have hLc:hc.size<=hL.size:=by rw [Nf];exact g.size
 have RZ:hL.size<=h'.size:=by rw [Nf];exact aQ _
 clear Nf qw qs q0
 obtain ⟨I1,bo⟩:∃ I:Nat->Env->Heap->Prop,I=(λn e h'=>∃ (i:Nat) (wb:ai) (B:Nat) (h1:Heap),h'=h1.lay [] h1.low/\Ext h h1/\(n=cc.body.length - i/\i<=cc.body.length/\aR [] hc h1/\Ow aG.atom hL h1 28 B wb ((cc.body.take i).map (cB s.l))/\hL.size<=h1.size/\ak h1 AR (.row ((cB s.l cc.head).cells++[Value.int .i64 (j:Int),wb]) 71 false))/\∃ J:Nat->ai,e=(.pointer (some ⟨y.pl .w,0,none⟩)::.pointer (some ⟨y.pl (.s k),0,none⟩)::jr J 2 3 (.pointer (some ⟨AR,0,none⟩)::jr J 6 25 (bd::.int .i64 cc.body.length::.int .i64 i::jr J 34 22 ([]))))):=⟨_,rfl⟩
 refine fh I1 _ (by rw [bo];exact ⟨0,.slice none 0 0,hL.size,_,rfl,z,⟨rfl,by omega,g,Ow.nil (aQ _),RZ,qr⟩,bO⟩) ?_
 intro n e h' aU
 rw [bo] at aU
 obtain ⟨i,wb,B,cF,rfl,z,hinv,J,rfl⟩:=aU
 clear g qr RZ
 obtain ⟨rfl,hi,g,ob,RZ,qr⟩:=hinv
 have mF:=gE i (by omega)
 have xG:=z.size
 have hqr:=qr.lt
 have Zg:=ob.fresh
 have qs:=(na v hs).H9 g
 simp only [aa,seval,jP]
 refine cm (λbc=>?_) (λbc=>?_)
 rotate_left
 .rw [iR (by omega)] at ob
  have fo:qD cc s=⟨cB s.l cc.head,(j:Int),cc.body.map (cB s.l)⟩:=by unfold qD;rw [hj]
  repeat' (simp only [aa,seval,jP])
  with_reducible first|refine eF (by simp only [jP]) z.aw ?_
  simp only [aa,seval,jP,qs.lay,qr.lay,↓zoc,dg]
  refine zoM dq z.aw ((v.bf g).bf (aR.lay _ _ _ _)) jc (r:=⟨cB s.l cc.head,(j:Int),cc.body.map (cB s.l)⟩) (bv:=wb) ((ob.lay _ _).bp (λ_ _ _ _ h=>h) (by decide) (λX hX=>by have:=v.eA X hX;omega)) xz ze Tn Dw Zr Zs Zt _ (λh2 E2 y2 u2 z2 v2 s2=>?_)
  have eE:=s2.size
  rw [br] at eE
  simp only [dK,gS] at eE
  refine F6 (by kernel_rfl) z2.low (by rw [br];simp only [dK];omega) ?_
  have s3:=((ec.refl d.ab.length E y hc).bf (g.trans (aR.lay _ _ _ []) (by simp))).trans s2 (aQ _)
  clear z
  have z:=z2
  have g2:=aR.refl [] h2
  rw [az h2]
  simp only [cv,seval,jP]
  ((with_reducible refine ⟨z.cS.lay _ _,?_⟩);(intro _ h' zz x _);(simp only [bS,bD] at x);replace g2:=g2.over x;(replace z:=zz);(clear zz);rw [az h'])
  simp only [seval,jP]
  rw [fo] at hk
  exact hk _ E2 y2 _ z.aw (v2.bf (g2.trans (aR.lay _ _ _ []) (by simp))) (s3.bf (g2.trans (aR.lay _ _ _ []) (by simp)))
 obtain ⟨b2,ic,yG⟩:=i4 (l:=cc.body) (i:=i) (by omega)
 repeat' (first|simp only [aa,seval,jP]|with_reducible refine tH (gV.mono g.all) cM cw (by omega) ic (λp hp=>?_)|with_reducible refine rj hp jb cw ?_)
 repeat' (simp only [aa,seval,jP,iw,iv,fW,nb,js,EF,ED,Gv])
 with_reducible first|refine eF (by simp only [jP]) z.aw ?_
 simp only [aa,seval,jP,qs.lay,qr.lay,zxE,↓fU,eG,dg]
 have MZ:aR [] cF cF:=aR.refl [] cF
 refine Wa s.l _ b2 _ (((yX.mono (ui _ _)).mono g.all).lay _ _) gO _ (λh' x=>?_)
 (((with_reducible refine fP ?_ ?_ ?_);(· exact (by (simp only [gh]);have:=z.size;omega));(· exact x));replace z:=z.au x;replace g:=g.over x;replace qs:=qs.over x;replace ob:=ob.over x;replace qr:=qr.over x;replace MZ:=MZ.over x;rw [az h'])
 clear hp
 simp only [aa,seval,jP,js,EF,ED]
 have yZ:(cc.body.take i).length<=1000:=by rw [gR];omega
 refine nL (by have:=z.size;omega) (by omega) ?_
 simp only [cv,seval,jP,lF,Px]
 have rh:=z.size
 have hg5:=g.size
 have hLs:=MZ.size
 have hBR:AR≠B:=by omega
 have ail:=qr.lt
 refine xb (i:=0) (cs:=(cB s.l b2).cells) (x:=cB s.l b2) cM zS rfl (by decide) (by rfl) (by omega) ob rfl (by rw [gq];omega) (by rw [gq];omega) (λw3 h3 A3 jz gg kO=>?_)
 refine i3 (A:=B) (by kernel_rfl) (by have:=z.size;rw [br];omega) (by omega) (by simpa only [bS,br,bD,eB,dK,gS] using gg) ?_
 have Z7:=qr.bB gg hBR
 have g3:aR [] hc h3:=g.eN gg (.inr (by omega))
 have z3:=z.cp gg (by omega) (by omega)
 have h3s:=gg.size
 rw [br] at h3s
 clear z g qs ob qr MZ
 have z:=z3
 rw [az h3]
 simp only [aa,seval,jP]
 obtain ⟨a3,m3,uT,rfl⟩:=jz.slice
 refine jL (n:=1) (o:=12) (vs:=[.slice a3 m3 uT]) Z7 (by kernel_rfl) rfl rfl (by rw [zAo];decide) rfl (λh4 q4 mR=>?_)
 have wC:=z.size
 refine i3 (A:=AR) (by kernel_rfl) (by have:=z.size;rw [br];omega) (by omega) mR ?_
 have zB:=Ow.eN (λ_ _ _ _ h=>h) (by simp) (jz.mono (bP.lay h3 [] _)) mR (by have:=jz.fresh;omega)
 have g4:aR [] hc h4:=g3.eN mR (.inr (by omega))
 have z4:=z3.cp mR (by omega) (by omega)
 have h4s:=mR.size
 rw [br] at h4s
 have ahc:hL.size<=h4.size:=by omega
 rw [zuj] at q4
 have oF:(cc.body.take i).map (cB s.l)++[cB s.l b2]=(cc.body.take (i+1)).map (cB s.l):=by rw [oT,yG,sG];rfl
 rw [oF] at zB
 clear z z3 g3 Z7 jz
 have z:=z4
 have g:=g4
 have SN:=aR.refl [] h4
 rw [az h4]
 simp only [cv,seval,jP]
 ((with_reducible refine ⟨z.cS.lay _ _,?_⟩);(intro _ h' zz x _);(simp only [bS,bD] at x);replace g:=g.over x;replace q4:=q4.over x;replace zB:=zB.over x;replace SN:=SN.over x;(replace z:=zz);(clear zz);rw [az h'])
 simp only [aa,seval,jP]
 rw [mF]
 (rw [bo];with_reducible refine dA (m:=_) ?_ ⟨i+1,_,A3,_,rfl,z,⟨rfl,by omega,g,zB,by have:=SN.size;omega,q4⟩,bO⟩;omega)
end Go.Proofs.YtnkmeidmdaidhaaGreatDoor
namespace Go.Am
def jM (d:aY) (i:Nat) (l:aN):aY:=l.foldl (λd f=>gj d i ⟨f,-1,[]⟩) d
def gk (d:aY) (i:Nat) (a:ae):Nat->List aq->aY
 |_,[]=>d
 |k,c::cl=>gk (match j8 a c.head with|some l=>jB d ⟨i,(k:Int),0,l,ah,0,0⟩|none=>d) i a (k+1) cl
theorem Vx (i:Nat) (a:ae) (c:aq):∀ (cl:List aq) (k:Nat) (d:aY),gk d i a k (cl++[c])=(match j8 a c.head with|some l=>jB (gk d i a k cl) ⟨i,((k+cl.length:Nat):Int),0,l,ah,0,0⟩|none=>gk d i a k cl)
 | [],k,d=>rfl
 |x::cl,k,d=>by
  rw [rO,gk,Vx i a c cl,gk,eB]
  have e:k+1+cl.length=k+(cl.length+1):=by omega
  rw [e]
theorem zud (d:aY) (i:Nat) (l:aN) (f:ae):jM d i (l++[f])=gj (jM d i l) i ⟨f,-1,[]⟩:=by
 unfold jM
 rw [List.foldl_append]
 rfl
def aT (facts:aN) (cl:List aq) (d:aY) (a:ae):aY × Nat :=
 if (cY d (bC a)).2.2 then (gk (jM (cY d (bC a)).1 (cY d (bC a)).2.1 (fB (bC (bC a)) facts)) (cY d (bC a)).2.1 (bC (bC a)) 0 cl,(cY d (bC a)).2.1)
 else ((cY d (bC a)).1,(cY d (bC a)).2.1)
structure qb (d:aY):Prop where
 steps:d.steps<=1000000000
 queue:d.queue.length<=10000000000000
 calls:d.calls.length<=10000000
 lq:∀ c∈d.calls,c.answers.length<=10000000
 pf:∀ c∈d.calls,c.waiters.length<=10000000
 count:d.count<=1000000000
 aC:d.aC.length<=10000000
 ab:d.ab.length<=100000000
theorem znN {d:aY} {i:Nat} {c:aX} (h:d.calls[i]? = some c) (r:ba):∃ c1,(gj d i r).calls[i]? = some c1/\c1.atom=c.atom:=by
 obtain ⟨c1,h1,_,h3⟩:=znI h r.atom
 refine ⟨c1,?_,h3⟩
 unfold gj
 split
 .unfold rD lI
  dsimp only
  split
  .exact h1
  .exact h1
 .exact h1
theorem F4 (d:aY) (i:Nat) (r:ba):(gj d i r).ab=d.ab:=by
 have h:=(Gj d i r.atom).2.2.1
 unfold gj
 split
 .unfold rD lI
  dsimp only
  split
  .exact h
  .exact h
 .exact h
theorem zlA (i:Nat):∀ (l:aN) {d:aY} {c:aX},d.calls[i]? = some c->∃ c1,(jM d i l).calls[i]? = some c1/\c1.atom=c.atom
 | [],d,c,h=>⟨c,h,rfl⟩
 |f::l,d,c,h=>by
  obtain ⟨c1,h1,h2⟩:=znN h ⟨f,-1,[]⟩
  obtain ⟨c2,h3,h4⟩:=zlA i l h1
  exact ⟨c2,h3,h4.trans h2⟩
theorem KZ (i:Nat):∀ (l:aN) (d:aY),(jM d i l).ab=d.ab
 | [],d=>rfl
 |f::l,d=>(KZ i l _).trans (F4 d i _)
theorem Wd {d:aY} {a:ae} (h:(cY d a).2.2=true):(cY d a).1={ d with calls:=d.calls++[⟨bC a,[],[]⟩] }/\(cY d a).2.1=d.calls.length:=by
 unfold cY at h ⊢
 split
 .rename_i hv;rw [aB hv] at h;cases h
 .rename_i hv
  rw [aA hv] at h
  split
  .rename_i hm;rw [aB hm] at h;cases h
  .exact ⟨rfl,rfl⟩
theorem VQ (i:Nat) (a:ae):∀ (cl:List aq) (k:Nat) (d:aY),d.ab.length<=(gk d i a k cl).ab.length
 | [],k,d=>aQ _
 |c::cl,k,d=>by
  rw [gk]
  cases j8 a c.head with
  |none=>exact VQ i a cl (k+1) d
  |some l =>
   refine dZ ?_ (VQ i a cl (k+1) _)
   show d.ab.length<=(d.ab++[_]).length
   rw [cT]
   omega
end Go.Am
