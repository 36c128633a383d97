/- Walks: a call is opened, its facts and clauses. Written out by fill2.py. No condition. -/
import Derived.Test.YtnkmeidmdaidhaaGreatDoorG37
set_option linter.unusedSimpArgs false
set_option linter.unusedVariables false
set_option maxRecDepth 100000
set_option maxHeartbeats 0
noncomputable section
namespace Go.Proofs.YtnkmeidmdaidhaaGreatDoor
open Go.Am Tryz
theorem zz0 (x:ai) (h:Heap) (K:aJ):aK (some x) h K=K x h:=rfl
theorem zCy (a b:Int) (wa:Option Addr) (wn wc:Nat):lL aH 101 [(0,.int .i64 a),(1,.int .i64 b),(3,.slice wa wn wc)]=some (.agg ⟨[.int .i64 a,.int .i64 b,.int .i64 0,.slice wa wn wc]++ah.cells++[.int .i64 0,.int .i64 0]⟩):=by kernel_rfl
theorem zsI {h hc:Heap} {E:List Nat} {y:cO} {cd vf:ai} {d:ba} (dD:bl 1 h) (z:Ext h hc) (v:Am.Inv iD h E y cd vf d hc) {cl:List ak} {facts:aN} (jt:Sl aC.clause h cd cl) (kS:Sl aC.atom h vf facts) (m9:cl.length<=1000) (lf:facts.length<=1000) (a:ae) (hn:d.calls.length<=10000000)
 (zJ:∀ i,qP (j6 (de d (bB a)).1 (de d (bB a)).2.1 ((eT (bB (bB a)) facts).take i)))
 (tF:∀ j,qP (fY (j6 (de d (bB a)).1 (de d (bB a)).2.1 (eT (bB (bB a)) facts)) (de d (bB a)).2.1 (bB (bB a)) 0 (cl.take j))) (K:aJ)
 (hk:∀ h' E' y',Ext h h'->Am.Inv iD h E' y' cd vf (aW facts cl d a).1 h'->eB d.ab.length E E' y y' hc h'->K (.int .i64 ((aW facts cl d a).2:Int)) h'):Ok prog aH ov 29 [.pointer (some ⟨y.pl .w,0,none⟩),a.val] hc K:=by
 rw [aw hc]
 have g:=aS.refl [] hc
 have qw:=iF v
 refine Ok.aA 81 (bH ZK) ?_
 repeat' (simp only [aa,seval,kK,gV])
 refine uB (λh' x hq=>?_)
 have q0:=hq 0 _ rfl
 clear hq
 (replace z:=z.ao x;replace g:=g.over x;replace qw:=qw.over x;rw [aw h'])
 obtain ⟨A0,fI⟩:∃ A0,A0=hc.size+0:=⟨_,rfl⟩
 rw [<- fI] at q0
 rw [<- fI]
 have hz:=z.size
 with_reducible first|refine ez (by simp only [kK]) z.av ?_
 simp only [aa,seval,kK,qw.lay,q0.lay,↓fe,dU,dq]
 refine Qs a _ _ (λh' x=>?_)
 (((with_reducible refine ix ?_ ?_ ?_);(· exact (by (simp only [iY]);have:=z.size;omega));(· exact x));replace z:=z.ao x;replace g:=g.over x;replace qw:=qw.over x;replace q0:=q0.over x;rw [aw h'])
 simp only [aa,seval,kK]
 refine zBP dD z.av ((v.bf g).bf (aS.lay _ _ _ _)) (bB a) hn _ (λh2 E1 y1 e1 z2 v2 s2=>?_)
 have eQ:=s2.size
 rw [bh] at eQ
 simp only [db,gx] at eQ
 refine Hf (by kernel_rfl) z2.low (by rw [bh];simp only [db];omega) ?_
 rw [<- s2.w,<- s2.t]
 have G9:=((eB.refl d.ab.length E y hc).bf (g.trans (aS.lay _ _ _ []) (by simp))).trans s2 (aR _)
 obtain ⟨d1,jh⟩:∃ d1,d1=(de d (bB a)).1:=⟨_,rfl⟩
 obtain ⟨id,hid⟩:∃ id,id=(de d (bB a)).2.1:=⟨_,rfl⟩
 rw [<- jh] at v2 zJ tF
 rw [<- hid] at zJ tF ⊢
 clear z q0 qw g
 have z:=z2
 have g:=aS.refl [] h2
 rw [aw h2]
 cases hf:(de d (bB a)).2.2
 .have hd:aW facts cl d a=(d1,id):=by unfold aW;rw [hf,jh,hid];rfl
  rw [hd] at hk
  simp only [aa,seval,kK]
  ((with_reducible refine ⟨z.cU.lay _ _,?_⟩);(intro _ h' zz x _);(simp only [bY,bC] at x);replace g:=g.over x;(replace z:=zz);(clear zz);rw [aw h'])
  repeat' (first|simp only [aa,seval,kK]|((with_reducible apply cf);(· rfl)))
  exact hk _ E1 y1 z.av (v2.bf (g.trans (aS.lay _ _ _ []) (by simp))) (G9.bf (g.trans (aS.lay _ _ _ []) (by simp)))
 obtain ⟨Cm,O8⟩:=X9 hf
 rw [<- jh] at Cm
 rw [<- hid] at O8
 obtain ⟨q,hq⟩:∃ q,q=bB (bB a):=⟨_,rfl⟩
 have hd:aW facts cl d a=(fY (j6 d1 id (eT q facts)) id q 0 cl,id):=by unfold aW;rw [hf,<- jh,<- hid,<- hq];rfl
 rw [hd] at hk
 rw [<- hq] at zJ tF Cm
 have js:d1.calls[id]? = some ⟨q,[],[]⟩:=by rw [Cm,O8,lp (aR _),tp];rfl
 have wZ:d1.ab=d.ab:=by rw [Cm]
 have Uj:qP d1:=zJ 0
 have oC:=iF v2
 simp only [aa,seval,kK]
 ((with_reducible refine ⟨z.cU.lay _ _,?_⟩);(intro _ h' zz x _);(simp only [bY,bC] at x);replace g:=g.over x;replace oC:=oC.over x;(replace z:=zz);(clear zz);rw [aw h'])
 simp only [aa,seval,kK]
 repeat' (((with_reducible apply cf);(· rfl)) <;> simp only [aa,seval,kK,oC.lay])
 refine zBI ((v2.bf g).bf (aS.lay _ _ _ _)) js (by have:=Uj.calls;omega) _ (λh' x=>?_)
 (replace z:=z.ao x;replace g:=g.over x;replace oC:=oC.over x;rw [aw h'])
 have lg:=z.size
 repeat' (simp only [aa,seval,kK,iy,im,gd,lI,gV,FP,FN,HF,dq])
 obtain ⟨A8,hA8⟩:∃ A8,A8=h'.size+0:=⟨_,rfl⟩
 have mB:=g.size
 have TN:A8 ∉ E1:=λhh=>by have:=v2.eF _ hh;omega
 have hE8:∀ X∈E1,X < h'.size:=λX hX=>by have:=v2.eF X hX;omega
 refine uB (λh' x hq=>?_)
 have q8:=hq 0 _ rfl
 clear hq
 (replace z:=z.ao x;replace g:=g.over x;replace oC:=oC.over x;rw [aw h'])
 rw [<- hA8] at q8
 rw [<- hA8]
 have AF:=z.size
 have UF:=g.size
 with_reducible first|refine ez (by simp only [kK]) z.av ?_
 simp only [aa,seval,kK,oC.lay,q8.lay,↓fe,dU,zz0]
 refine zC0 q facts _ _ ((kS.mono z.inc).lay _ _) lf _ (λh' mv mA x om=>?_)
 (((with_reducible refine ix ?_ ?_ ?_);(· exact (by (simp only [iY]);have:=z.size;omega));(· exact x));replace z:=z.ao x;replace g:=g.over x;replace oC:=oC.over x;replace q8:=q8.over x;rw [aw h'])
 obtain ⟨ml,yu⟩:∃ ml,ml=eT q facts:=⟨_,rfl⟩
 rw [<- yu] at om zJ tF hk
 have hm:Sl aC.atom (bq E1 h') mv ml:=om.bq (λ_ _ _ _ h=>h) (by decide) (λX hX=>by rw [bh];have:=v2.eF X hX;omega)
 have U7:ml.length<=1000:=by rw [yu];exact eA (Qh q facts) lf
 have G0:=λ(hh:Heap)=>(hm.mono (uX _ _)).bQ bZ hh
 have Eh:aS [] h' h':=aS.refl [] h'
 simp only [aa,seval,kK,G0]
 ((with_reducible refine ⟨z.cU.lay _ _,?_⟩);(intro _ h' zz x _);(simp only [bY,bC] at x);replace g:=g.over x;replace q8:=q8.over x;replace Eh:=Eh.over x;(replace z:=zz);(clear zz);rw [aw h'])
 have eX:Sl aC.atom (bq E1 h') mv ml:=hm.mono ((Eh.wide (D':=E1) (by simp)).inc (λB hB=>.inl hB))
 have vB:=v2.bf g
 have sB:=G9.bf g
 obtain ⟨hX,tQ⟩:∃ hX,hX=h':=⟨_,rfl⟩
 have sX:eB d1.ab.length E1 E1 y1 y1 hX h':=by rw [tQ];exact eB.refl _ _ _ _
 rw [<- tQ] at sB
 have U4:Sl aC.atom (bq E1 hX) mv ml:=by rw [tQ];exact eX
 have q8X:Holds hX A8 (.row q.cells 28 false):=by rw [tQ];exact q8
 clear tQ
 simp only [syms,seval,kK]
 obtain ⟨I1,aX⟩:∃ I:Nat->Env->Heap->Prop,I=(λn e h'=>∃ (i:Nat) (E2:List Nat) (y2:cO) (h1:Heap),h'=h1.lay [] h1.low/\Ext h h1/\(n=ml.length - i/\i<=ml.length/\Am.Inv iD h E2 y2 cd vf (j6 d1 id (ml.take i)) h1/\eB d1.ab.length E1 E2 y1 y2 hX h1)/\∃ J:Nat->ai,e=(.pointer (some ⟨y1.pl .w,0,none⟩)::jr J 1 4 (.int .i64 (id:Int)::jr J 6 2 (.pointer (some ⟨A8,0,none⟩)::jr J 9 35 (mv::.int .i64 ml.length::.int .i64 i::jr J 47 36 ([])))))):=⟨_,rfl⟩
 refine dN I1 _ (by rw [aX];exact ⟨0,E1,y1,_,rfl,z,⟨rfl,by omega,vB,sX⟩,bo⟩) ?_
 intro n e h' aP
 rw [aX] at aP
 obtain ⟨i,E2,y2,bU,rfl,z,hinv,J,rfl⟩:=aP
 clear vB sX
 obtain ⟨rfl,hi,vi,si⟩:=hinv
 have jB:=eE i (by omega)
 have hzi:=z.size
 have O5:Sl aC.atom bU mv ml:=(U4.mono si.inc).mono (uX _ _)
 simp only [aa,seval,kK]
 refine bS (λaT=>?_) (λaT=>?_)
 rotate_left
 .rw [gb (by omega)] at vi
  have xA:=iF vi
  have GZ:=λ(hh:Heap)=>jt.bQ fB hh
  have Pa:∀ (h:Heap) (K:aJ),aK (some cd) h K=K cd h:=λ_ _=>rfl
  rw [si.w] at xA
  repeat' (simp only [aa,seval,kK])
  have Vk:=xA.lay [] bU.low
  rw [Vk]
  simp only [aa,seval,kK,Pa,GZ]
  obtain ⟨d2,ld⟩:∃ d2,d2=j6 d1 id ml:=⟨_,rfl⟩
  have w8:d2.ab=d1.ab:=by rw [ld,MA]
  rw [<- ld] at vi tF hk
  clear zJ xA Vk
  obtain ⟨I2,eu⟩:∃ I:Nat->Env->Heap->Prop,I=(λn e h'=>∃ (j:Nat) (E3:List Nat) (y3:cO) (h1:Heap),h'=h1.lay [] h1.low/\Ext h h1/\(n=cl.length - j/\j<=cl.length/\Am.Inv iD h E3 y3 cd vf (fY d2 id q 0 (cl.take j)) h1/\eB d1.ab.length E1 E3 y1 y3 hX h1)/\∃ J:Nat->ai,e=(.pointer (some ⟨y1.pl .w,0,none⟩)::jr J 1 4 (.int .i64 (id:Int)::jr J 6 2 (.pointer (some ⟨A8,0,none⟩)::jr J 9 50 (cd::.int .i64 cl.length::.int .i64 j::jr J 62 21 ([])))))):=⟨_,rfl⟩
  refine dN I2 _ (by rw [eu];exact ⟨0,E2,y2,_,rfl,z,⟨rfl,by omega,vi,si⟩,bo⟩) ?_
  intro n e h' aP
  rw [eu] at aP
  obtain ⟨j,E3,y3,dc,rfl,z,hinv,J,rfl⟩:=aP
  clear vi si
  obtain ⟨rfl,hj,vj,sj⟩:=hinv
  have yC:=eE j (by omega)
  have hzj:=z.size
  have Lu:=(sj.box q8X TN).1
  have hcj:=jt.mono z.inc
  have GO:=tF j
  simp only [aa,seval,kK]
  refine bS (λey=>?_) (λey=>?_)
  rotate_left
  .rw [gb (by omega)] at vj
   repeat' (simp only [aa,seval,kK])
   exact hk _ E3 y3 z.av (vj.bf (aS.lay _ _ _ _)) ((sB.trans sj (by rw [wZ];exact aR _)).bf (aS.lay _ _ _ _))
  obtain ⟨c,kO,oW⟩:=gC (l:=cl) (i:=j) ey
  have g4:=aS.refl [] dc
  repeat' (first|simp only [aa,seval,kK]|with_reducible refine Db hcj fB iE (by omega) kO (λp bd gz hp=>?_)|with_reducible refine G5 hp rz iE ?_)
  have aB:=Nu (a:=c.head) gz.one
  repeat' (simp only [aa,seval,kK,iy,im,gd,rV,QC,aB,↓YQ,dU,dq,Lu.lay,↓fe])
  clear hp
  refine zzo q c.head _ _ (λjO h' w x=>?_) (λl xh h' w x ow=>?_)
  ·(replace z:=z.ao x;( replace g4:=g4.over x );( replace Lu:=Lu.over x );rw [aw h'])
   have ic:cl.take (j+1)=cl.take j++[c]:=by rw [lr,oW];rfl
   have pg:fY d2 id q 0 (cl.take (j+1))=fY d2 id q 0 (cl.take j):=by rw [ic,PE,jO]
   have xf:∀ (h:Heap) (K:aJ),aK (some w) h K=K w h:=λ_ _=>rfl
   repeat' (simp only [aa,seval,kK,xf])
   rw [yC]
   (rw [eu];with_reducible refine cF (m:=_) ?_ ⟨j+1,E3,y3,_,rfl,z,⟨rfl,by omega,by rw [pg];exact vj.bf g4,sj.bf g4⟩,bo⟩;omega)
  obtain ⟨Aw,Lq⟩:=ow
  obtain ⟨wa,wn,wc,rfl⟩:=Lq.slice
  have sK:Sl aC.bind (bq E3 h') (.slice wa wn wc) l:=Lq.bq (λ_ _ _ _ h=>h) (by decide) (λX hX=>by rw [bh];have:=vj.eF X hX;omega)
  (replace z:=z.ao x;replace g4:=g4.over x;replace Lu:=Lu.over x;rw [aw h'])
  have ic:cl.take (j+1)=cl.take j++[c]:=by rw [lr,oW];rfl
  have GV:(cl.take j).length=j:=by rw [gR];omega
  have pg:fY d2 id q 0 (cl.take (j+1))=jV (fY d2 id q 0 (cl.take j)) ⟨id,(j:Int),0,l,ah,0,0⟩:=by rw [ic,PE,xh,GV,iA]
  have hzw:=z.size
  have vq:=vj.bf g4
  have sq:=sj.bf g4
  repeat' (simp only [aa,seval,kK,zCy])
  rw [<- sj.w]
  refine zsD hzw z.av vq (aS.lay _ _ _ _) (As:=h'.size+0) (s:=⟨id,(j:Int),0,l,ah,0,0⟩) (lv:=.slice wa wn wc) (by omega) ⟨by rw [bh];simp,by rw [jG];rfl⟩ sK GO.steps GO.queue GO.ab _ (λh5 E5 y5 u5 _ z5 v5 s5=>?_)
  rw [sj.w]
  rw [<- pg] at v5
  have s6:=sq.trans s5 (by rw [<- w8];exact XX _ _ _ _ _)
  rw [aw h5]
  repeat' (simp only [aa,seval,kK])
  rw [yC]
  have z:=z5
  (rw [eu];with_reducible refine cF (m:=_) ?_ ⟨j+1,E5,y5,_,rfl,z,⟨rfl,by omega,v5,s6⟩,bo⟩;omega)
 obtain ⟨f,zW,Eb⟩:=gC (l:=ml) (i:=i) aT
 repeat' (first|simp only [aa,seval,kK]|with_reducible refine r9 O5 bZ ck (by omega) zW (λp hp=>?_)|with_reducible refine qV hp iQ ck ?_)
 repeat' (simp only [aa,seval,kK,iy,im,gd,lI,gV,FP,FN,HF,↓fe,dU,dq,zvW])
 clear hp
 have ym:=zJ i
 obtain ⟨c1,uR,_⟩:=zlN id (ml.take i) js
 have J8:=en uR
 rw [<- si.w]
 refine zo1 dD z.av (vi.bf (aS.lay _ _ _ _)) uR (r:=⟨f,-1,[]⟩) (bv:=.slice none 0 0) (.inl ⟨rfl,rfl⟩) ym.steps ym.queue ym.calls (ym.mY _ J8) ym.count (ym.pN _ J8) ym.aF _ (λh3 E3 y3 u3 z3 v3 s3=>?_)
 rw [si.w]
 have ic:ml.take (i+1)=ml.take i++[f]:=by rw [lr,Eb];rfl
 rw [<- zu1,<- ic] at v3
 have s4:=(si.bf (aS.lay bU [aZ.row f.cells 28 false] _ [])).trans s3 (by rw [MA];exact aR _)
 rw [aw h3]
 repeat' (simp only [aa,seval,kK])
 rw [jB]
 have z:=z3
 (rw [aX];with_reducible refine cF (m:=_) ?_ ⟨i+1,E3,y3,_,rfl,z,⟨rfl,by omega,v3,s4⟩,bo⟩;omega)
theorem zA8 (v w:ai) (n:ae):(n.cells++[v,w])[1]? = some (.string n.pred):=rfl
theorem zzd {b h:Heap} {E:List Nat} {y:cO} {cd vf:ai} {d:ba} (v:Am.Inv iD b E y cd vf d h) {k:Nat} {s:dy} (hs:d.ab[k]? = some s) (K:aJ)
 (hk:∀ h',Ext h h'->K (.bool (decide (s.next.pred≠⟨#[]⟩))) h'):Ok prog aH ov 64 [.pointer (some ⟨y.pl (.s k),0,none⟩)] h K:=by
 rw [aw h]
 have z:=Ext.refl h
 have qs:=nH v hs
 refine Ok.aA 8 (bH N64) ?_
 have iw:∀ (s:aU) (h:Heap) (K:aJ),aK (some (.string s)) h K=K (.string s) h:=λ_ _ _=>rfl
 simp only [aa,seval,c64,qs.lay,zA8,iw]
 refine tj (λhh=>?_) (λhh=>?_)
 all_goals
  rw [hh] at hk
  simp only [aa,seval,c64]
  exact hk _ z.av
end Go.Proofs.YtnkmeidmdaidhaaGreatDoor
namespace Go.Am
def dE (facts:aN) (cl:List ak) (d:ba) (k:Nat) (s:dy) (c:ak):ba :=
 if s.next.pred≠⟨#[]⟩ then d
 else
  let s1:dy:={ s with next:=cN s.l ((c.body[s.taken]?).getD ah) }
  let o:=aW facts cl { d with ab:=d.ab.set k s1 } s1.next
  i9 { o.1 with ab:=o.1.ab.set k { s1 with src:=o.2 } } o.2 k
def fO (k:Nat):aN->ba->ba
 | [],d=>d
 |a::l,d =>
  if d.aE < (d.steps:Int) then d
  else match d.ab[k]? with
   |some s =>
    let d1:=match bG [] s.next a with
     |some m=>jV d ⟨s.call,s.clause,s.taken+1,jE s.l m,ah,0,0⟩
     |none=>d
    fO k l { d1 with ab:=d1.ab.set k { s with seen:=s.seen+1 } }
   |none=>d
def N1 (facts:aN) (cl:List ak) (d:ba) (a:ae):Prop :=
 (∀ i,qP (j6 (de d (bB a)).1 (de d (bB a)).2.1 ((eT (bB (bB a)) facts).take i))) /\
 ∀ j,qP (fY (j6 (de d (bB a)).1 (de d (bB a)).2.1 (eT (bB (bB a)) facts)) (de d (bB a)).2.1 (bB (bB a)) 0 (cl.take j))
def gU (facts:aN) (cl:List ak) (d:ba) (k:Nat):ba :=
 match d.ab[k]? with
 |some s=>match cl[s.clause.toNat]? with
  |some c =>
   if s.taken=c.body.length then gA d s.call (rf c s)
   else
    let d4:=dE facts cl d k s c
    match d4.ab[k]? with
    |some s4=>fO k (((d4.calls[s4.src]?).map aY.answers).getD [] |>.drop s4.seen) d4
    |none=>d4
  |none=>d
 |none=>d
theorem zpk (d:ba) (a:ae):(de d a).1.ab=d.ab:=by
 unfold de
 split
 .rfl
 .split <;> rfl
theorem Xy (i:Nat) (a:ae) (k:Nat):∀ (cl:List ak) (j:Nat) (d:ba),k < d.ab.length->(fY d i a j cl).ab[k]? = d.ab[k]?
 | [],j,d,h=>rfl
 |c::cl,j,d,h=>by
  rw [fY]
  cases kD a c.head with
  |none=>exact Xy i a k cl (j+1) d h
  |some l =>
   have h2:k < (jV d ⟨i,(j:Int),0,l,ah,0,0⟩).ab.length:=by
    show k < (d.ab++[_]).length
    rw [cE]
    omega
   refine (Xy i a k cl (j+1) _ h2).trans ?_
   show (d.ab++[_])[k]? = _
   rw [jz h]
theorem P6 {facts:aN} {cl:List ak} {d:ba} {a:ae} {k:Nat} (h:k < d.ab.length):(aW facts cl d a).1.ab[k]? = d.ab[k]? := by
 have h2:=zpk d (bB a)
 unfold aW
 split
 .refine (Xy _ _ k _ _ _ (by rw [MA,h2];exact h)).trans ?_
  rw [MA,h2]
 .show (de d (bB a)).1.ab[k]? = _
  rw [h2]
end Go.Am
namespace Go.Am
variable {k:Nat} {a:ae} {l m:List au}
theorem xN {d:ba} (h:d.aE < (d.steps:Int)):∀ l,fO k l d=d
 | []=>rfl
 |a::l=>by rw [fO,aD h]
theorem yM {d:ba} (h:d.ab[k]? = none):∀ l,fO k l d=d
 | []=>rfl
 |a::l=>by rw [fO,h];split <;> rfl
def bL (k:Nat) (s:dy) (a:ae) (d:ba):ba :=
 let d1:=match bG [] s.next a with
  |some m=>jV d ⟨s.call,s.clause,s.taken+1,jE s.l m,ah,0,0⟩
  |none=>d
 { d1 with ab:=d1.ab.set k { s with seen:=s.seen+1 } }
theorem ur {s:dy} {d:ba} (hb:¬ d.aE < (d.steps:Int)) (hs:d.ab[k]? = some s) (l:aN):fO k (a::l) d=fO k l (bL k s a d):=by
 rw [fO,az hb,hs]
 rfl
theorem Xi (k:Nat):∀ (l m:aN) (d:ba),fO k (l++m) d=fO k m (fO k l d)
 | [],m,d=>rfl
 |a::l,m,d=>by
  by_cases hb:d.aE < (d.steps:Int)
  .rw [xN hb,xN hb,xN hb]
  .cases hs:d.ab[k]? with
   |none=>rw [yM hs,yM hs,yM hs]
   |some s=>rw [rh,ur hb hs,ur hb hs,Xi k l m]
theorem Qc {s:dy} {d:ba} (hs:d.ab[k]? = some s):(bL k s a d).ab[k]? = some { s with seen:=s.seen+1 }:=by
 have hl:=aq hs
 unfold bL
 dsimp only
 refine mV ?_
 split
 .show k < (d.ab++[_]).length
  rw [cE]
  omega
 .exact hl
theorem PV (k:Nat) (s:dy) (a:ae) (d:ba):(bL k s a d).calls=d.calls/\(bL k s a d).aE=d.aE/\(bL k s a d).count=d.count/\(bL k s a d).aF=d.aF/\(bL k s a d).known=d.known/\d.steps<=(bL k s a d).steps/\(bL k s a d).steps<=d.steps+1:=by
 unfold bL
 dsimp only
 split
 .exact ⟨rfl,rfl,rfl,rfl,rfl,nq _,aR _⟩
 .exact ⟨rfl,rfl,rfl,rfl,rfl,aR _,nq _⟩
theorem zpN (k:Nat) (s:dy) (a:ae) (d:ba):d.ab.length<=(bL k s a d).ab.length:=by
 unfold bL
 dsimp only
 rw [ja]
 split
 .show d.ab.length<=(d.ab++[_]).length
  rw [cE];omega
 .exact aR _
theorem Qe (k:Nat):∀ (l:aN) (d:ba),d.ab.length<=(fO k l d).ab.length
 | [],d=>aR _
 |a::l,d=>by
  by_cases hb:d.aE < (d.steps:Int)
  .rw [xN hb];exact aR _
  .cases hs:d.ab[k]? with
   |none=>rw [yM hs];exact aR _
   |some s=>rw [ur hb hs];exact eA (zpN k s a d) (Qe k l _)
theorem zyj (l:List au) (b:au):(kE l b).length=l.length+1:=by
 unfold kE
 rw [cE,ek,<- pB,<- cE,Xz]
theorem Hy {v:aU} {t:ay} (h:jW l v t=some m):m.length=l.length+1:=by
 unfold jW at h
 split at h
 .cases h
 split at h
 .cases h
 split at h
 .cases h
 split at h
 .cases h
 cases h
 rw [zyj]
 unfold gE
 rw [gw]
theorem zxP {x y:ay} (h:y4 l x y=some m):m.length<=l.length+1:=by
 unfold y4 at h
 split at h
 .cases h;omega
 split at h
 .exact vy (Hy h)
 split at h
 .exact vy (Hy h)
 .cases h
theorem zlU {a b:ae}:∀ {k:Nat} {l:List au},nL a b k=some l->l.length<=k
 |0,l,h=>by cases h;exact aR _
 |k+1,l,h=>by
  cases ho:nL a b k with
  |none=>rw [Hj (nq k) ho] at h;cases h
  |some o =>
   rw [MJ ho] at h
   have:=zxP h
   have:=zlU ho
   omega
theorem zvn {b:ae} (h:kD a b=some l):l.length<=4:=by
 unfold kD at h
 split at h
 .rename_i ha
  obtain ⟨_,_,_,e4,e5⟩:=cp.1 ha
  have:=zlU h
  omega
 .cases h
theorem zuQ {x y:ay} (h:tb l x y=some m):m.length<=l.length+1:=by
 unfold tb at h
 split at h
 .split at h <;> cases h
  omega
 split at h
 .split at h <;> cases h
  omega
 .exact vy (Hy h)
theorem zj0 {p g:ae}:∀ {k:Nat} {l m:List au},r8 p g k l=some m->m.length<=l.length+k
 |0,l,m,h=>by cases h;exact aR _
 |k+1,l,m,h=>by
  unfold r8 at h
  cases ho:r8 p g k l with
  |none=>rw [ho] at h;cases h
  |some o =>
   rw [ho] at h
   have:=zuQ (show tb o (p.arg k) (g.arg k)=some m from h)
   have:=zj0 ho
   omega
theorem zsm {p g:ae} (h:bG l p g=some m):m.length<=l.length+4:=by
 unfold bG at h
 split at h
 .cases h
 rename_i hc
 split at h
 .cases h
 have ha:mP p g=true:=by
  cases hq:mP p g
  .exact absurd (.inr (.inl hq)) hc
  .rfl
 obtain ⟨_,_,_,e4,e5⟩:=cp.1 ha
 have:=zj0 h
 omega
theorem zor (a b:List au):(jE a b).length<=a.length+b.length:=by
 unfold jE
 split
 .split
  .exact YF b.length
  .exact iN _
 .exact iN _
theorem X3:∀ (l:List Nat) (n:Nat),l.Nodup->(∀ k∈l,k < n)->l.length<=n
 | [],n,_,_=>iN _
 |x::l,0,_,h=>absurd (h x (by simp)) (vx _)
 |x::l,n+1,hn,h=>by
  obtain ⟨h1,h2⟩:=List.nodup_cons.1 hn
  have:=X3 (l.map λk=>if k=n then x else k) n (by
   rw [List.Nodup,List.pairwise_map]
   refine List.Pairwise.imp_of_mem (λ{a b} ha hb vY=>?_) h2
   have hxa:a≠x:=λe=>h1 (e ▸ ha)
   have V1:b≠x:=λe=>h1 (e ▸ hb)
   by_cases e1:a=n <;> by_cases e2:b=n
   .omega
   .rw [aD e1,az e2];exact λe=>V1 e.symm
   .rw [az e1,aD e2];exact hxa
   .rw [az e1,az e2];exact vY) (λk hk=>by
   obtain ⟨a,ha,rfl⟩:=pC.1 hk
   have hxa:a≠x:=λe=>h1 (e ▸ ha)
   have h3:=h a (pS _ ha)
   have h4:=h x (by simp)
   split <;> omega)
  rw [gw] at this
  rw [ek]
  omega
structure dz (S W C:Nat) (d:ba):Prop where
 steps:d.steps<=S
 ab:d.ab.length<=d.steps
 aF:d.aF.length<=d.steps
 count:d.count<=d.steps
 mY:∀ c∈d.calls,c.answers.length<=d.steps
 pN:∀ c∈d.calls,c.waiters.length<=W
 queue:d.queue.length<=d.steps*(W+1)
 calls:d.calls.length<=C
theorem dz.Jg {S W C:Nat} {d:ba} (h:dz S W C d) (hS:S<=2000000) (hW:W<=2000000) (hC:C<=4000000):qP d:=by
 have h1:=h.steps
 have h2:d.steps*(W+1)<=2000000*2000001:=Nat.mul_le_mul (by omega) (by omega)
 have h3:=h.queue
 exact ⟨by omega,by omega,by have:=h.calls;omega,λc hc=>by have:=h.mY c hc;omega,λc hc=>by have:=h.pN c hc;omega,by have:=h.count;omega,by have:=h.aF;omega,by have:=h.ab;omega⟩
section
variable {S W C:Nat} {d:ba}
theorem dz.mono {S' C':Nat} (h:dz S W C d) (hS:S<=S') (hC:C<=C'):dz S' W C' d :=
 ⟨eA h.steps hS,h.ab,h.aF,h.count,h.mY,h.pN,h.queue,eA h.calls hC⟩
theorem dz.begin (h:dz S W C d) (s:dy):dz (S+1) W C (jV d s):=by
 have h1:=h.steps;have h2:=h.ab;have h3:=h.aF;have h4:=h.count;have h5:=h.queue
 refine ⟨?_,?_,?_,?_,λc hc=>?_,h.pN,?_,h.calls⟩
 .show d.steps+1<=_;omega
 .show (d.ab++[s]).length<=d.steps+1
  rw [cE,gF];omega
 .show d.aF.length<=d.steps+1;omega
 .show d.count<=d.steps+1;omega
 .show c.answers.length<=d.steps+1
  have:=h.mY c hc;omega
 .show (d.queue++[d.ab.length]).length<=(d.steps+1)*(W+1)
  rw [cE,gF,rk];omega
theorem dz.add (h:dz S W C d) (i:Nat) (a:ae):dz (S+1) W C { (bn d i a).1 with steps:=d.steps+1 }:=by
 obtain ⟨k1,k2,k3,k4,k5,k6,k7⟩:=Hw d i a
 have h1:=h.steps;have h2:=h.ab;have h3:=h.aF;have h4:=h.count;have h5:=h.queue
 have hc:(bn d i a).1.count<=d.count+1:=by
  unfold bn
  split
  .split
   .exact nq _
   .exact aR _
  .exact nq _
 have hm:∀ c∈(bn d i a).1.calls,c.answers.length<=d.steps+1/\c.waiters.length<=W:=by
  intro c hc
  unfold bn at hc
  split at hc
  .rename_i c0 kf
   split at hc
   .exact ⟨Nat.le_succ_of_le (h.mY c hc),h.pN c hc⟩
   .rcases yZ hc with hc|rfl
    .exact ⟨Nat.le_succ_of_le (h.mY c hc),h.pN c hc⟩
    .have Ai:=en kf
     refine ⟨?_,h.pN c0 Ai⟩
     show (c0.answers++[a]).length<=_
     have:=h.mY c0 Ai
     rw [cE,gF];omega
  .exact ⟨Nat.le_succ_of_le (h.mY c hc),h.pN c hc⟩
 refine ⟨?_,?_,?_,?_,λc hc=>(hm c hc).1,λc hc=>(hm c hc).2,?_,?_⟩
 .show d.steps+1<=_;omega
 .show (bn d i a).1.ab.length<=d.steps+1;rw [k3];omega
 .show (bn d i a).1.aF.length<=d.steps+1;rw [k4];omega
 .show (bn d i a).1.count<=d.steps+1;omega
 .show (bn d i a).1.queue.length<=(d.steps+1)*(W+1)
  rw [k2,rk];omega
 .show (bn d i a).1.calls.length<=C;rw [k7];exact h.calls
theorem dz.Rh (h:dz S W C d) (i:Nat) (a:ae) (hn:(bn d i a).2=false):(bn d i a).1=d:=by
 unfold bn at hn ⊢
 split
 .rename_i c hc
  rw [hc] at hn
  dsimp only at hn
  split
  .rfl
  .rename_i h2
   rw [az h2] at hn
   cases hn
 .rfl
theorem dz.answer (h:dz S W C d) (i:Nat) (r:bc):dz (S+1) W C (gA d i r):=by
 cases hn:(bn d i r.atom).2
 .have:gA d i r=d:=by
   unfold gA
   rw [hn,az (by decide)]
   exact h.Rh i r.atom hn
  rw [this]
  exact h.mono (nq _) (aR _)
 .have e:gA d i r=r6 (mc { (bn d i r.atom).1 with steps:=d.steps+1 } r) i:=by
   unfold gA
   rw [hn,aD rfl]
  obtain ⟨k1,k2,k3,k4,k5,k6,k7⟩:=Hw d i r.atom
  have h0:=h.add i r.atom
  have hr:=h.aF
  have hq:=h.queue
  have hw:((((bn d i r.atom).1.calls[i]?).map aY.waiters).getD []).length<=W:=by
   cases hc:(bn d i r.atom).1.calls[i]? with
   |none=>exact iN _
   |some c=>exact h0.pN c (en hc)
  have hk:mc { (bn d i r.atom).1 with steps:=d.steps+1 } r={ (bn d i r.atom).1 with steps:=d.steps+1,known:=(mc { (bn d i r.atom).1 with steps:=d.steps+1 } r).known,aF:=(mc { (bn d i r.atom).1 with steps:=d.steps+1 } r).aF }/\(mc { (bn d i r.atom).1 with steps:=d.steps+1 } r).aF.length<=d.steps+1:=by
   unfold mc
   dsimp only
   split
   .exact ⟨rfl,by show (bn d i r.atom).1.aF.length<=_;rw [k4];omega⟩
   .refine ⟨rfl,?_⟩
    show ((bn d i r.atom).1.aF++[r]).length<=_
    rw [cE,gF,k4];omega
  rw [e,hk.1]
  refine ⟨h0.steps,h0.ab,hk.2,h0.count,h0.mY,h0.pN,?_,h0.calls⟩
  show ((bn d i r.atom).1.queue++(((bn d i r.atom).1.calls[i]?).map aY.waiters).getD []).length<=(d.steps+1)*(W+1)
  rw [cE,k2,rk];omega
theorem dz.open (h:dz S W C d) (a:ae):dz S W (C+1) (de d a).1:=by
 unfold de
 split
 .exact h.mono (aR _) (nq _)
 split
 .exact h.mono (aR _) (nq _)
 .refine ⟨h.steps,h.ab,h.aF,h.count,λc hc=>?_,λc hc=>?_,h.queue,?_⟩
  .rcases gg.1 hc with hc|hc
   .exact h.mY c hc
   .rw [ep.1 hc];exact iN _
  .rcases gg.1 hc with hc|hc
   .exact h.pN c hc
   .rw [ep.1 hc];exact iN _
  .show (d.calls++[_]).length<=_
   have:=h.calls
   rw [cE,gF];omega
theorem dz.i0 (i:Nat):∀ (l:aN) {S:Nat} {d:ba},dz S W C d->dz (S+l.length) W C (j6 d i l)
 | [],S,d,h=>h
 |f::l,S,d,h=>by
  have:=dz.i0 i l (h.answer i ⟨f,-1,[]⟩)
  rw [ek,show S+(l.length+1)=S+1+l.length by omega]
  exact this
theorem dz.dw (i:Nat) (a:ae):∀ (cl:List ak) {k S:Nat} {d:ba},dz S W C d->dz (S+cl.length) W C (fY d i a k cl)
 | [],k,S,d,h=>h
 |c::cl,k,S,d,h=>by
  rw [ek,show S+(cl.length+1)=S+1+cl.length by omega,fY]
  refine dz.dw i a cl ?_
  split
  .exact h.begin _
  .exact h.mono (nq _) (aR _)
theorem dz.Cz (h:dz S W C d) {facts:aN} {cl:List ak} (a:ae) (hS:S+facts.length+cl.length<=2000000) (hW:W<=2000000) (hC:C+1<=4000000):N1 facts cl d a:=by
 have ho:=h.open (bB a)
 have pH:(eT (bB (bB a)) facts).length<=facts.length:=Qh _ _
 refine ⟨λi=>?_,λj=>?_⟩
 .refine (dz.i0 _ _ ho).Jg ?_ hW hC
  rw [gR];omega
 .refine (dz.dw _ _ _ (dz.i0 _ _ ho)).Jg ?_ hW hC
  rw [gR];omega
theorem dz.aW (h:dz S W C d) (facts:aN) (cl:List ak) (a:ae):dz (S+facts.length+cl.length) W (C+1) (aW facts cl d a).1:=by
 have ho:=h.open (bB a)
 have pH:(eT (bB (bB a)) facts).length<=facts.length:=Qh _ _
 unfold Am.aW
 split
 .exact (dz.dw _ _ _ (dz.i0 _ _ ho)).mono (by omega) (aR _)
 .exact ho.mono (by omega) (aR _)
theorem dz.state (h:dz S W C d) (k:Nat) (s:dy):dz S W C { d with ab:=d.ab.set k s } :=
 ⟨h.steps,by show (d.ab.set k s).length<=_;rw [ja];exact h.ab,h.aF,h.count,h.mY,h.pN,h.queue,h.calls⟩
theorem dz.bL (h:dz S W C d) (k:Nat) (s:dy) (a:ae):dz (S+1) W C (bL k s a d):=by
 unfold Am.bL
 dsimp only
 split
 .exact (h.begin _).state k _
 .exact (h.mono (nq _) (aR _)).state k _
theorem dz.turns (k:Nat) {B:Nat}:∀ (l:aN) {S:Nat} {d:ba},dz S W C d->d.aE=(B:Int)->B+1<=S->dz S W C (fO k l d)
 | [],S,d,h,hb,hS=>h
 |a::l,S,d,h,hb,hS=>by
  by_cases ho:d.aE < (d.steps:Int)
  .rw [xN ho];exact h
  .cases hs:d.ab[k]? with
   |none=>rw [yM hs];exact h
   |some s =>
    rw [ur ho hs]
    obtain ⟨k1,k2,k3,k4,k5,k6,k7⟩:=PV k s a d
    have h2:=h.bL k s a
    refine dz.turns k l ⟨by omega,h2.ab,h2.aF,h2.count,h2.mY,h2.pN,h2.queue,h2.calls⟩ (k2.trans hb) hS
end
theorem zxu {facts:aN} {cl:List ak} {d:ba} (h:N1 facts cl d a):qP (aW facts cl d a).1:=by
 unfold aW
 split
 .have:=h.2 cl.length
  rw [Ge] at this
  exact this
 .have:=h.1 0
  rw [Dp] at this
  exact this
theorem zsS {d:ba} (h:0 < d.calls.length) (a:ae):(de d a).2.1 < (de d a).1.calls.length:=by
 unfold de
 split
 .exact h
 split
 .rename_i hm
  show xl _ _ < d.calls.length
  have:=List.findIdx_lt_length_of_exists (p:=λx=>decide (bB a=x)) ⟨_,hm,by simp⟩
  rw [gw] at this
  exact this
 .show d.calls.length < (d.calls++[_]).length
  rw [cE,gF];omega
end Go.Am
