/- The code of some functions, node by node, for simp. Written by a program (mkcode.py). No condition. -/
import Derived.Test.YtnkmeidmdaidhaaGreatDoorG37
set_option linter.unusedSimpArgs false
set_option linter.unusedVariables false
set_option maxRecDepth 100000
set_option maxHeartbeats 0
noncomputable section
namespace Go.Proofs.YtnkmeidmdaidhaaGreatDoor
open Go.Am Tryz
def Vs:=bD f29
def Ya:=PLift.up (by have c:=bG Vs f29;simp only [aQ,f29,seval] at c;exact nd c <| nd @jb <| nd @sH <| nd @yi <| nd @UW <| nd @zAj <| nd @M4 <| nd @mV <| nd @fJ <| nd @Ch <| nd @ix <| nd @cj <| nd @pw <| nd @xF <| nd @px <| nd @fK <| @Oo)
theorem jc:type_of% Ya.down:=Ya.down
def VS:=bD f63
def YE:=PLift.up (by have c:=bG VS f63;simp only [aQ,f63,seval] at c;exact nd c <| nd @jb <| nd @sH <| nd @Ao <| nd @oO <| nd @zuB <| nd @zuC <| nd @zuD <| nd @yi <| nd @yj <| nd @UW <| nd @zx9 <| nd @mV <| nd @fJ <| nd @Ch <| nd @ix <| nd @cj <| nd @mh <| nd @pw <| nd @xG <| nd @nP <| nd @fK <| nd @OY <| @Py)
theorem iN:type_of% YE.down:=YE.down
def KE:=bD f32
def Yd:=PLift.up (by have c:=bG KE f32;simp only [aQ,f32,seval] at c;exact nd c <| nd @sH <| nd @zuB <| nd @zuC <| nd @zy2 <| nd @zuD <| nd @zuE <| nd @zy3 <| nd @zy4 <| nd @yj <| nd @UW <| nd @M4 <| nd @zx6 <| nd @mV <| nd @fJ <| nd @R3 <| nd @Ch <| nd @ix <| nd @cj <| nd @mh <| nd @pw <| nd @xF <| nd @HV <| nd @nP <| nd @Sb <| nd @fK <| nd @Ou <| @Pu)
theorem dQ:type_of% Yd.down:=Yd.down
def u7:=bD f14
def IZ:=PLift.up (by have c:=bG u7 f14;simp only [aQ,f14,seval] at c;exact nd c <| nd @sI <| nd @M3 <| nd @M4 <| nd @UX <| nd @zx7 <| nd @HT <| nd @cj <| nd @mh <| nd @xE <| nd @xF <| nd @um <| nd @H2 <| nd @Ob <| @HU)
theorem gC:type_of% IZ.down:=IZ.down
theorem T2 (l:List av) (v:ai) (a:ae) (h:Heap) (hl:Sl aF.bind h v l) (hs:l.length<=1000) (K:aL)
 (hk:∀ h',Ext h h'->K (dA l a).val h'):Ok prog aH ov 65 [v,a.val] h K:=by
 rw [aq h]
 have z:=Ext.refl h
 have oZ:a.cH<=4:=by unfold ae.cH;omega
 refine Ok.aC 22 (bH VU) ?_
 repeat' (first|simp only [aa,seval,AF,iB,Kw]|((with_reducible apply MQ);(· rfl);(· rfl))|((with_reducible apply MO);(· rfl);(· rfl)))
 have hc:(if (4:Int) < (if a.n < 0 then 0 else a.n) then (4:Int) else (if a.n < 0 then 0 else a.n))=(a.cH:Int):=by
  unfold ae.cH
  split <;> split <;> omega
 try rw [hc]
 refine r6 (λh' x hq=>?_)
 have q0:=hq 0 _ rfl
 have q1:=hq 1 _ rfl
 clear hq
 (replace z:=z.ao x;rw [aq h'])
 have po:=z.size
 obtain ⟨A0,gO⟩:∃ A0,A0=h.size+0:=⟨_,rfl⟩
 obtain ⟨A1,lS⟩:∃ A1,A1=h.size+1:=⟨_,rfl⟩
 rw [<- gO] at q0
 rw [<- lS] at q1
 rw [<- gO,<- lS]
 obtain ⟨I1,aY⟩:∃ I:Nat->Env->Heap->Prop,I=(λn e h'=>∃ (i:Nat) (h1:Heap),h'=h1.lay [] h1.low/\Ext h h1/\(n=a.cH - i/\i<=a.cH/\ak h1 A0 (.row (EZ l a i).cells 28 false)/\ak h1 A1 (.row ah.cells 28 false))/\∃ J:Nat->ai,e=(v::jr J 1 2 (.pointer (some ⟨A0,0,none⟩)::.pointer (some ⟨A1,0,none⟩)::jr J 5 4 (.int .i64 a.cH::.int .i64 i::jr J 11 13 ([]))))):=⟨_,rfl⟩
 refine dV I1 _ (by rw [aY];exact ⟨0,_,rfl,z,⟨rfl,by omega,q0,q1⟩,bw⟩) ?_
 intro n e h' aT
 rw [aY] at aT
 obtain ⟨i,bW,rfl,z,hinv,J,rfl⟩:=aT
 clear q0 q1
 obtain ⟨rfl,hi,q0,q1⟩:=hinv
 have hw:=fe i (by omega)
 have hz:=z.size
 simp only [aa,seval,AF]
 refine b9 (λaW=>?_) (λaW=>?_)
 rotate_left
 .have he:i=a.cH:=by omega
  subst he
  rw [zrX] at q0
  repeat' (simp only [aa,seval,AF,q0.lay,↓eH,dJ,dt])
  refine CT q1 cw rfl rfl rfl (λcK nU c=>?_)
  replace z:=z.aw.step c (by omega)
  rw [aq cK]
  have ux:ak cK A1 (.row (dA l a).cells 28 false):=nU
  simp only [aa,seval,AF,ux.lay,↓eH,dJ,dt]
  exact hk _ z.aw
 have lY:(0:Int)<=(i:Int)/\(i:Int) < 4:=by omega
 have kj:=JN (EZ l a i) i (by omega)
 rw [zrY l a (by omega)] at kj
 repeat' (simp only [aa,seval,AF,q0.lay,lY,↓kj,CM,zF])
 refine C0 l v (a.arg i) _ ((hl.mono z.inc).lay _ _) hs _ (λh' x=>?_)
 (replace z:=z.ao x;replace q0:=q0.over x;replace q1:=q1.over x;rw [aq h'])
 repeat' (simp only [aa,seval,AF,lY])
 refine iH (o:=3+i*2) q0 gL (Jn _) rfl (by show _<=11;omega) rfl (λcK lf c=>?_)
 rw [zrZ l a (by omega)] at lf
 have nU:=q1.bC c (by omega)
 replace z:=z.aw.step c (by omega)
 rw [aq cK]
 clear q0 q1
 repeat' (simp only [aa,seval,AF])
 rw [hw]
 (rw [aY];with_reducible refine cR (m:=_) ?_ ⟨i+1,_,rfl,z,⟨rfl,by omega,lf,nU⟩,bw⟩;omega)
end Go.Proofs.YtnkmeidmdaidhaaGreatDoor
namespace Go.Am
def Dn (c:ay) (s:eu):aV:=⟨dA s.l c.head,s.clause,c.body.map (dA s.l)⟩
end Go.Am
namespace Go.Proofs.YtnkmeidmdaidhaaGreatDoor
open Go.Am Tryz
theorem lH {b h:Heap} {E:List Nat} {y:cp} {bN vf:ai} {d:bg} (v:Am.Inv gj b E y bN vf d h) {k:Nat} {s:eu} (hs:d.ab[k]? = some s):ak h (y.pl (.s k)) (.row ([.int .i64 (s.call:Int),.int .i64 s.clause,.int .i64 (s.taken:Int),y.vl (.s k)]++s.next.cells++[.int .i64 (s.src:Int),.int .i64 (s.seen:Int)]) 101 false):=v.cZ (.s k) s hs
theorem zub (a:ae) (n:Int):mu aH 71 [(0,a.val),(1,.int .i64 n)]=some (.agg ⟨a.cells++[.int .i64 n,.slice none 0 0]⟩):=by kernel_rfl
theorem zzj (a:ae) (u w:ai):(a.cells++[u,w]).length=13:=rfl
theorem zwv (a:ae) (u w:ai):(a.cells++[u,w])[12]? = some w:=rfl
theorem ztl (a:ae) (u w w':ai):aJ (a.cells++[u,w]) 12 [w']=a.cells++[u,w']:=rfl
theorem zzp {h hc:Heap} {E:List Nat} {y:cp} {bN vf:ai} {d:bg} (cY:bj 1 h) (z:Ext h hc) (v:Am.Inv gj h E y bN vf d hc) {l:List ay} (kn:Sl aF.clause h bN l) {k:Nat} {s:eu} (hs:d.ab[k]? = some s) {j:Nat} (hj:s.clause=(j:Int)) {cc:ay} (qR:l[j]? = some cc) (nh:cc.body.length<=1000) (gx:s.l.length<=1000) {c:ba} (gX:d.calls[s.call]? = some c)
 (Hg:d.steps<=1000000000) (BE:d.queue.length<=10000000000000) (Q4:d.calls.length<=10000000) (BF:c.answers.length<=10000000) (Xg:d.count<=1000000000) (Xh:c.waiters.length<=10000000) (Xi:d.aB.length<=10000000) (K:aL)
 (hk:∀ h' E' y' u,Ext h h'->Am.Inv gj h E' y' bN vf (gm d s.call (Dn cc s)) h'->dK d.ab.length E E' y y' hc h'->K u h'):Ok prog aH ov 63 [.pointer (some ⟨y.pl .w,0,none⟩),.pointer (some ⟨y.pl (.s k),0,none⟩)] hc K:=by
 rw [aq hc]
 have g:=aP.refl [] hc
 have qw:=gk v
 have qs:=lH v hs
 rw [hj] at qs
 have cu:∀ (u:ai) (h:Heap) (K:aL),aK (some u) h K=K u h:=λ_ _ _=>rfl
 have Bf:Sl aF.clause hc bN l:=kn.mono z.inc
 have xf:=v.fz k s hs
 have hz:=z.size
 refine Ok.aC 54 (bH VS) ?_
 repeat' (simp only [bM,seval,iN])
 with_reducible first|refine dO (by simp only [iN]) z.aw ?_
 simp only [aa,seval,iN,qw.lay,qs.lay,cu]
 have hr:l[(j:Int).toNat]? = some cc:=by rw [wj];exact qR
 refine EW Bf iv jo (by omega) hr (λp bd fO hp=>?_)
 simp only [aa,seval,iN]
 refine HX hp qJ jo ?_
 clear hp
 simp only [aa,seval,iN]
 refine kO (by have:=z.size;omega) (by omega) ?_
 simp only [aa,seval,iN]
 rw [Jk (n:=12) (v:=.agg ⟨cc.head.cells++[bd]⟩) (vs:=cc.head.cells++[bd]) (by kernel_rfl) rfl rfl rfl (JY fO.one)]
 simp only [syms,seval]
 refine vJ (by kernel_rfl) (by simp) (by have:=z.size;omega) ?_
 simp only [bM,seval,iN]
 ((with_reducible refine ⟨z.cI.lay _ _,?_⟩);(intro _ h' zz x _);(simp only [bK,bu] at x);replace g:=g.over x;replace qw:=qw.over x;replace qs:=qs.over x;(replace z:=zz);(clear zz);rw [aq h'])
 have q0:=ak.top (i:=0) x rfl
 have kD:=z.size
 obtain ⟨A0,gO⟩:∃ A0,A0=hc.size+0:=⟨_,rfl⟩
 rw [<- gO] at q0
 rw [<- gO]
 simp only [syms,seval,iN]
 with_reducible first|refine dO (by simp only [iN]) z.aw ?_
 simp only [aa,seval,iN,qs.lay,q0.lay,↓UG,dJ,cu]
 refine T2 s.l _ cc.head _ (((xf.mono (rY _ _)).mono g.all).lay _ _) gx _ (λh' x=>?_)
 (((with_reducible refine fC ?_ ?_ ?_);(· exact (by (simp only [fT]);have:=z.size;omega));(· exact x));replace z:=z.ao x;replace g:=g.over x;replace qw:=qw.over x;replace qs:=qs.over x;replace q0:=q0.over x;rw [aq h'])
 simp only [aa,seval,iN,qs.lay,cu,zub]
 refine kO (by have:=z.size;omega) (by omega) ?_
 simp only [aa,seval,iN]
 rw [Jk (n:=13) (v:=.agg ⟨(dA s.l cc.head).cells++[Value.int .i64 (j:Int),Value.slice none 0 0]⟩) (vs:=(dA s.l cc.head).cells++[Value.int .i64 (j:Int),Value.slice none 0 0]) (by kernel_rfl) rfl rfl rfl rfl]
 simp only [syms,seval]
 refine vJ (by kernel_rfl) (by simp) (by have:=z.size;omega) ?_
 simp only [bM,seval,iN]
 have Cc:=z.size
 have Qz:=g.size
 obtain ⟨AR,PO⟩:∃ AR,AR=h'.size+0:=⟨_,rfl⟩
 have aew:hc.size<=AR:=by omega
 rw [<- PO]
 ((with_reducible refine ⟨z.cI.lay _ _,?_⟩);(intro _ h' zz x _);(simp only [bK,bu] at x);replace g:=g.over x;replace qw:=qw.over x;replace qs:=qs.over x;replace q0:=q0.over x;(replace z:=zz);(clear zz);rw [aq h'])
 have qr:=ak.top (i:=0) x rfl
 rw [<- PO] at qr
 clear PO
 have QR:=λ(hh:Heap)=>fO.bP cF hh
 repeat' (simp only [aa,seval,iN,q0.lay,JH,cu,QR])
 obtain ⟨hL,Lb⟩:∃ hL,hL=h':=⟨_,rfl⟩
 have aev:AR < hL.size:=by rw [Lb];exact qr.lt
 have hLc:hc.size<=hL.size:=by rw [Lb];exact g.size
 have PW:hL.size<=h'.size:=by rw [Lb];exact aS _
 clear Lb qw qs q0
 obtain ⟨I1,aY⟩:∃ I:Nat->Env->Heap->Prop,I=(λn e h'=>∃ (i:Nat) (wb:ai) (B:Nat) (h1:Heap),h'=h1.lay [] h1.low/\Ext h h1/\(n=cc.body.length - i/\i<=cc.body.length/\aP [] hc h1/\Ow aF.atom hL h1 28 B wb ((cc.body.take i).map (dA s.l))/\hL.size<=h1.size/\ak h1 AR (.row ((dA s.l cc.head).cells++[Value.int .i64 (j:Int),wb]) 71 false))/\∃ J:Nat->ai,e=(.pointer (some ⟨y.pl .w,0,none⟩)::.pointer (some ⟨y.pl (.s k),0,none⟩)::jr J 2 3 (.pointer (some ⟨AR,0,none⟩)::jr J 6 25 (bd::.int .i64 cc.body.length::.int .i64 i::jr J 34 22 ([]))))):=⟨_,rfl⟩
 refine dV I1 _ (by rw [aY];exact ⟨0,.slice none 0 0,hL.size,_,rfl,z,⟨rfl,by omega,g,Ow.nil (aS _),PW,qr⟩,bw⟩) ?_
 intro n e h' aT
 rw [aY] at aT
 obtain ⟨i,wb,B,bW,rfl,z,hinv,J,rfl⟩:=aT
 clear g qr PW
 obtain ⟨rfl,hi,g,ob,PW,qr⟩:=hinv
 have jx:=fe i (by omega)
 have vC:=z.size
 have hqr:=qr.lt
 have W5:=ob.fresh
 have qs:=(lH v hs).Gj g
 simp only [aa,seval,iN]
 refine b9 (λaW=>?_) (λaW=>?_)
 rotate_left
 .rw [iK (by omega)] at ob
  have eQ:Dn cc s=⟨dA s.l cc.head,(j:Int),cc.body.map (dA s.l)⟩:=by unfold Dn;rw [hj]
  repeat' (simp only [aa,seval,iN])
  with_reducible first|refine dO (by simp only [iN]) z.aw ?_
  simp only [aa,seval,iN,qs.lay,qr.lay,↓zne,cu]
  refine znO cY z.aw ((v.aX g).aX (aP.lay _ _ _ _)) gX (r:=⟨dA s.l cc.head,(j:Int),cc.body.map (dA s.l)⟩) (bv:=wb) ((ob.lay _ _).bm (λ_ _ _ _ h=>h) (by decide) (λX hX=>by have:=v.eh X hX;omega)) Hg BE Q4 BF Xg Xh Xi _ (λh2 E2 y2 u2 z2 v2 s2=>?_)
  have eX:=s2.size
  rw [bo] at eX
  simp only [cW,gw] at eX
  refine Eg (by kernel_rfl) z2.low (by rw [bo];simp only [cW];omega) ?_
  have s3:=((dK.refl d.ab.length E y hc).aX (g.trans (aP.lay _ _ _ []) (by simp))).trans s2 (aS _)
  clear z
  have z:=z2
  have g2:=aP.refl [] h2
  rw [aq h2]
  simp only [bM,seval,iN]
  ((with_reducible refine ⟨z.cI.lay _ _,?_⟩);(intro _ h' zz x _);(simp only [bK,bu] at x);replace g2:=g2.over x;(replace z:=zz);(clear zz);rw [aq h'])
  simp only [seval,iN]
  rw [eQ] at hk
  exact hk _ E2 y2 _ z.aw (v2.aX (g2.trans (aP.lay _ _ _ []) (by simp))) (s3.aX (g2.trans (aP.lay _ _ _ []) (by simp)))
 obtain ⟨b2,jg,wL⟩:=ig (l:=cc.body) (i:=i) (by omega)
 repeat' (first|simp only [aa,seval,iN]|with_reducible refine uQ (fO.mono g.all) cF cw (by omega) jg (λp hp=>?_)|with_reducible refine rq hp iM cw ?_)
 repeat' (simp only [aa,seval,iN,gy,gv,eA,lJ,iB,CR,CP,Eo])
 with_reducible first|refine dO (by simp only [iN]) z.aw ?_
 simp only [aa,seval,iN,qs.lay,qr.lay,zwv,↓eH,dJ,cu]
 have K0:aP [] bW bW:=aP.refl [] bW
 refine T2 s.l _ b2 _ (((xf.mono (rY _ _)).mono g.all).lay _ _) gx _ (λh' x=>?_)
 (((with_reducible refine fC ?_ ?_ ?_);(· exact (by (simp only [fT]);have:=z.size;omega));(· exact x));replace z:=z.ao x;replace g:=g.over x;replace qs:=qs.over x;replace ob:=ob.over x;replace qr:=qr.over x;replace K0:=K0.over x;rw [aq h'])
 clear hp
 simp only [aa,seval,iN,iB,CR,CP]
 have xh:(cc.body.take i).length<=1000:=by rw [hZ];omega
 refine kO (by have:=z.size;omega) (by omega) ?_
 simp only [bM,seval,iN,j4,Nh]
 have pq:=z.size
 have hg5:=g.size
 have hLs:=K0.size
 have hBR:AR≠B:=by omega
 have afV:=qr.lt
 refine uR (i:=0) (cs:=(dA s.l b2).cells) (x:=dA s.l b2) cF xU rfl (by decide) (by rfl) (by omega) ob rfl (by rw [fN];omega) (by rw [fN];omega) (λw3 h3 A3 iy ff jH=>?_)
 refine gR (A:=B) (by kernel_rfl) (by have:=z.size;rw [bo];omega) (by omega) (by simpa only [bK,bo,bu,dB,cW,gw] using ff) ?_
 have XP:=qr.bC ff hBR
 have g3:aP [] hc h3:=g.ec ff (.inr (by omega))
 have z3:=z.bY ff (by omega) (by omega)
 have h3s:=ff.size
 rw [bo] at h3s
 clear z g qs ob qr K0
 have z:=z3
 rw [aq h3]
 simp only [aa,seval,iN]
 obtain ⟨a3,m3,sN,rfl⟩:=iy.slice
 refine iH (n:=1) (o:=12) (vs:=[.slice a3 m3 sN]) XP (by kernel_rfl) rfl rfl (by rw [zzj];decide) rfl (λh4 q4 lr=>?_)
 have uh:=z.size
 refine gR (A:=AR) (by kernel_rfl) (by have:=z.size;rw [bo];omega) (by omega) lr ?_
 have xK:=Ow.ec (λ_ _ _ _ h=>h) (by simp) (iy.mono (bQ.lay h3 [] _)) lr (by have:=iy.fresh;omega)
 have g4:aP [] hc h4:=g3.ec lr (.inr (by omega))
 have z4:=z3.bY lr (by omega) (by omega)
 have h4s:=lr.size
 rw [bo] at h4s
 have aeG:hL.size<=h4.size:=by omega
 rw [ztl] at q4
 have mR:(cc.body.take i).map (dA s.l)++[dA s.l b2]=(cc.body.take (i+1)).map (dA s.l):=by rw [od,wL,rM];rfl
 rw [mR] at xK
 clear z z3 g3 XP iy
 have z:=z4
 have g:=g4
 have GY:=aP.refl [] h4
 rw [aq h4]
 simp only [bM,seval,iN]
 ((with_reducible refine ⟨z.cI.lay _ _,?_⟩);(intro _ h' zz x _);(simp only [bK,bu] at x);replace g:=g.over x;replace q4:=q4.over x;replace xK:=xK.over x;replace GY:=GY.over x;(replace z:=zz);(clear zz);rw [aq h'])
 simp only [aa,seval,iN]
 rw [jx]
 (rw [aY];with_reducible refine cR (m:=_) ?_ ⟨i+1,_,A3,_,rfl,z,⟨rfl,by omega,g,xK,by have:=GY.size;omega,q4⟩,bw⟩;omega)
end Go.Proofs.YtnkmeidmdaidhaaGreatDoor
namespace Go.Am
def jR (d:bg) (i:Nat) (l:aU):bg:=l.foldl (λd f=>gm d i ⟨f,-1,[]⟩) d
def gQ (d:bg) (i:Nat) (a:ae):Nat->List ay->bg
 |_,[]=>d
 |k,c::cl=>gQ (match nZ a c.head with|some l=>kT d ⟨i,(k:Int),0,l,ah,0,0⟩|none=>d) i a (k+1) cl
theorem SX (i:Nat) (a:ae) (c:ay):∀ (cl:List ay) (k:Nat) (d:bg),gQ d i a k (cl++[c])=(match nZ a c.head with|some l=>kT (gQ d i a k cl) ⟨i,((k+cl.length:Nat):Int),0,l,ah,0,0⟩|none=>gQ d i a k cl)
 | [],k,d=>rfl
 |x::cl,k,d=>by
  rw [qG,gQ,SX i a c cl,gQ,dB]
  have e:k+1+cl.length=k+(cl.length+1):=by omega
  rw [e]
theorem ztf (d:bg) (i:Nat) (l:aU) (f:ae):jR d i (l++[f])=gm (jR d i l) i ⟨f,-1,[]⟩:=by
 unfold jR
 rw [List.foldl_append]
 rfl
def bp (facts:aU) (cl:List ay) (d:bg) (a:ae):bg × Nat :=
 if (dr d (b8 a)).2.2 then (gQ (jR (dr d (b8 a)).1 (dr d (b8 a)).2.1 (fX (b8 (b8 a)) facts)) (dr d (b8 a)).2.1 (b8 (b8 a)) 0 cl,(dr d (b8 a)).2.1)
 else ((dr d (b8 a)).1,(dr d (b8 a)).2.1)
structure og (d:bg):Prop where
 steps:d.steps<=1000000000
 queue:d.queue.length<=10000000000000
 calls:d.calls.length<=10000000
 lP:∀ c∈d.calls,c.answers.length<=10000000
 nk:∀ c∈d.calls,c.waiters.length<=10000000
 count:d.count<=1000000000
 aB:d.aB.length<=10000000
 ab:d.ab.length<=100000000
theorem zmT {d:bg} {i:Nat} {c:ba} (h:d.calls[i]? = some c) (r:aV):∃ c1,(gm d i r).calls[i]? = some c1/\c1.atom=c.atom:=by
 obtain ⟨c1,h1,_,h3⟩:=zmM h r.atom
 refine ⟨c1,?_,h3⟩
 unfold gm
 split
 .unfold pE j7
  dsimp only
  split
  .exact h1
  .exact h1
 .exact h1
theorem Zr (d:bg) (i:Nat) (r:aV):(gm d i r).ab=d.ab:=by
 have h:=(JF d i r.atom).2.2.1
 unfold gm
 split
 .unfold pE j7
  dsimp only
  split
  .exact h
  .exact h
 .exact h
theorem zkU (i:Nat):∀ (l:aU) {d:bg} {c:ba},d.calls[i]? = some c->∃ c1,(jR d i l).calls[i]? = some c1/\c1.atom=c.atom
 | [],d,c,h=>⟨c,h,rfl⟩
 |f::l,d,c,h=>by
  obtain ⟨c1,h1,h2⟩:=zmT h ⟨f,-1,[]⟩
  obtain ⟨c2,h3,h4⟩:=zkU i l h1
  exact ⟨c2,h3,h4.trans h2⟩
theorem Jf (i:Nat):∀ (l:aU) (d:bg),(jR d i l).ab=d.ab
 | [],d=>rfl
 |f::l,d=>(Jf i l _).trans (Zr d i _)
theorem zn1 {d:bg} {a:ae} (h:(dr d a).2.2=true):(dr d a).1={ d with calls:=d.calls++[⟨b8 a,[],[]⟩] }/\(dr d a).2.1=d.calls.length:=by
 unfold dr at h ⊢
 split
 .rename_i hv;rw [aG hv] at h;cases h
 .rename_i hv
  rw [aA hv] at h
  split
  .rename_i hm;rw [aG hm] at h;cases h
  .exact ⟨rfl,rfl⟩
theorem TF (i:Nat) (a:ae):∀ (cl:List ay) (k:Nat) (d:bg),d.ab.length<=(gQ d i a k cl).ab.length
 | [],k,d=>aS _
 |c::cl,k,d=>by
  rw [gQ]
  cases nZ a c.head with
  |none=>exact TF i a cl (k+1) d
  |some l =>
   refine dZ ?_ (TF i a cl (k+1) _)
   show d.ab.length<=(d.ab++[_]).length
   rw [dx]
   omega
end Go.Am
