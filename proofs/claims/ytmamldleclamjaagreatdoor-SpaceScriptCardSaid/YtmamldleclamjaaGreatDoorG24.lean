/- Walks: bindings: may they be Written out by fill2.py. No condition. -/
import Derived.Test.YtmamldleclamjaaGreatDoorG22
set_option linter.unusedSimpArgs false
set_option linter.unusedVariables false
set_option maxRecDepth 100000
set_option maxHeartbeats 0
noncomputable section
namespace Go.Proofs.YtmamldleclamjaaGreatDoor
open Go.Am
theorem SN {I:Nat->Env->Heap->Prop} {m:Nat} {Q:Ex->Env->Heap->Prop} {x:Ex} {e:Env} {h0 h1:Heap} {bs:List ba} {w:Nat} (z:Ext h0 (h1.lay bs w)) (hk:∀ H,Ext h0 H->(∀ A b,Holds h1 A b->Holds H A b)->bH h1 H->JM I m Q x e (H.lay [] H.low)):JM I m Q x e (h1.lay bs w):=by
 have:=hk _ z (λA b q=>q.on bs w) (bH.lay _ _ _)
 rwa [<- ao] at this
theorem zBl (a:aj) (k:Nat) (hk:k < 4):cut a.cells (3+k*2) 2=some (a.arg k).cells:=by
 have:k=0\/k=1\/k=2\/k=3:=by omega
 rcases this with rfl|rfl|rfl|rfl <;> rfl
end Go.Proofs.YtmamldleclamjaaGreatDoor
namespace Go.Proofs.YtmamldleclamjaaGreatDoor
open Go.Am Tryz
def Ku:=bB f141
def OQ:=PLift.up (by have c:=bD Ku f141;simp only [aL,f141,seval] at c;exact nd c <| nd @Ek <| nd @uK <| nd @Hr <| nd @vV <| nd @Hs <| nd @T6 <| nd @q9 <| nd @b8 <| nd @gH <| nd @TZ <| @zEy)
theorem kP:type_of% OQ.down:=OQ.down
def J3:=bB f110
def Oe:=PLift.up (by have c:=bD J3 f110;simp only [aL,f110,seval] at c;exact nd c <| nd @b8 <| @zD6)
theorem uN:type_of% Oe.down:=Oe.down
def Ec:=bB f165
def Pb:=PLift.up (by have c:=bD Ec f165;simp only [aL,f165,seval] at c;exact nd c <| nd @iM <| nd @b8 <| nd @zER <| @zE7)
theorem iJ:type_of% Pb.down:=Pb.down
def KP:=bB f181
def Pl:=PLift.up (by have c:=bD KP f181;simp only [aL,f181,seval] at c;exact nd c <| nd @iM <| nd @b8 <| nd @zEY <| @zFa)
theorem qJ:type_of% Pl.down:=Pl.down
def KO:=bB f177
def Pj:=PLift.up (by have c:=bD KO f177;simp only [aL,f177,seval] at c;exact nd c <| nd @zEX <| @zE9)
theorem pz:type_of% Pj.down:=Pj.down
def jP:=bB f166
def Pc:=PLift.up (by have c:=bD jP f166;simp only [aL,f166,seval] at c;exact nd c <| nd @iM <| nd @b8 <| nd @zES <| @zE8)
theorem bX:type_of% Pc.down:=Pc.down
def Eb:=bB f155
def O4:=PLift.up (by have c:=bD Eb f155;simp only [aL,f155,seval] at c;exact nd c <| nd @zEL <| @zE6)
theorem iI:type_of% O4.down:=O4.down
def D7:=bB f137
def OM:=PLift.up (by have c:=bD D7 f137;simp only [aL,f137,seval] at c;exact nd c <| nd @gl <| nd @zEv <| @zE4)
theorem AH:type_of% OM.down:=OM.down
def Ub:=bB f34
def x34:=PLift.up (by have c:=bD Ub f34;simp only [aL,f34,seval] at c;exact nd c <| nd @qH <| @Vv)
theorem Cq:type_of% x34.down:=x34.down
def D8:=bB f138
def ON:=PLift.up (by have c:=bD D8 f138;simp only [aL,f138,seval] at c;exact nd c <| nd @iM <| nd @b8 <| nd @gl <| @zEw)
theorem gE:type_of% ON.down:=ON.down
def Kt:=bB f139
def OO:=PLift.up (by have c:=bD Kt f139;simp only [aL,f139,seval] at c;exact nd c <| nd @b8 <| @zEx)
theorem AJ:type_of% OO.down:=OO.down
def J0:=bB f108
def Ob:=PLift.up (by have c:=bD J0 f108;simp only [aL,f108,seval] at c;exact nd c <| @zD4)
theorem sE:type_of% Ob.down:=Ob.down
def JZ:=bB f107
def Oa:=PLift.up (by have c:=bD JZ f107;simp only [aL,f107,seval] at c;exact nd c <| nd @iM <| nd @b8 <| nd @gl <| @zD3)
theorem mf:type_of% Oa.down:=Oa.down
def N72:=bB f72
def x72:=PLift.up (by have c:=bD N72 f72;simp only [aL,f72,seval] at c;exact nd c <| @V7)
theorem Lp:type_of% x72.down:=x72.down
def J1:=bB f109
def Oc:=PLift.up (by have c:=bD J1 f109;simp only [aL,f109,seval] at c;exact nd c <| nd @iM <| nd @b8 <| nd @gl <| @zD5)
theorem gS:type_of% Oc.down:=Oc.down
def N73:=bB f73
def x73:=PLift.up (by have c:=bD N73 f73;simp only [aL,f73,seval] at c;exact nd c <| nd @b8 <| @V8)
theorem c73:type_of% x73.down:=x73.down
theorem T8:uB aG 22 22=true:=by kernel_rfl
theorem zvT (a:aj):a.cells[0]? = some (.string a.says):=rfl
theorem zvU (a:aj):a.cells[1]? = some (.string a.pred):=rfl
theorem zxp (a:aj) (ha:a.aY=true) (h:Heap) (K:aI)
 (hk:∀ h',Ext h h'->K (.string ⟨(cM a).toArray⟩) h'):Ok prog aG ov 141 [a.val] h K:=by
 rw [ao h]
 have z:=Ext.refl h
 obtain ⟨jV,gG⟩:=zhu ha
 refine Ok.aw 37 (bu Ku) ?_
 simp only [aa,seval,kP,gI,zvT]
 refine wI ?_ (λS1 zx qu=>?_)
 .show a.says.size+6<=_
  omega
 simp only [aa,seval,kP,zvU]
 refine wI ?_ (λS hS mN=>?_)
 .rw [qu]
  show a.says.size+6+_<=_
  omega
 have W0:S.data.toList=a.says.data.toList++JP++a.pred.data.toList:=by rw [hS,zx,wU,wU];rfl
 have hSz:S.size<=700:=by
  rw [mN,qu]
  show a.says.size+6+_<=_
  omega
 clear hS zx qu mN
 simp only [aa,seval,kP,↓eP,ef,dy]
 refine Qf a _ _ (λv H0 x hv=>?_)
 (replace z:=z.an x;rw [ao H0])
 have rU:=z.size
 simp only [aa,seval,kP]
 repeat' ((first|((with_reducible apply qh) <;> intro _)|with_reducible refine Qe hv zf ?_) <;> simp only [aa,seval,kP])
 .have zy:S=⟨(cM a).toArray⟩:=ZH (by rw [W0,zx5 (by omega)])
  rw [zy]
  exact hk _ z.aC
 obtain ⟨I1,aX⟩:∃ I:Nat->Env->Heap->Prop,I=(λn e h'=>∃ (i:Nat) (w:ah) (A:Nat) (h1:Heap),h'=h1.lay [] h1.low/\Ext h h1/\(n=a.args.length - i/\i<=a.args.length/\Ow aK.str H0 h1 9 A w ((a.args.take i).map (·.s))/\bH H0 h1)/\∃ J:Nat->ah,e=(jr J 0 3 (.string S::J 4::w::jr J 6 14 (v::.int .i64 a.args.length::.int .i64 i::jr J 23 15 ([]))))):=⟨_,rfl⟩
 refine du I1 _ (by rw [aX];exact ⟨0,.slice none 0 0,H0.size,_,rfl,z,⟨rfl,by omega,Ow.nil (bo _),bH.refl _⟩,bm⟩) ?_
 intro n e h' aP
 rw [aX] at aP
 obtain ⟨i,w,A,bx,rfl,z,hinv,J,rfl⟩:=aP
 obtain ⟨rfl,hi,ho,i1⟩:=hinv
 have W5:a.args.length<=4:=by rw [wO];unfold aj.bQ;omega
 have hw:=ei i (by omega)
 have hz:=z.size
 simp only [aa,seval,kP]
 refine bq (λaW=>?_) (λaW=>?_)
 rotate_left
 .simp only [aa,seval,kP]
  rw [gA (by omega)] at ho
  have hJ:=ztV ha
  have yh:(a.args.map (·.s)).map (·.data.toList)=jK a:=by rw [List.map_map];rfl
  have Yw:∀ (h:Heap) (K:aI),aH (some w) h K=K w h:=λ_ _=>rfl
  refine wI ?_ (λS3 zA zO=>?_)
  .show S.size+1<=_
   omega
  have aog:S3.size<=701:=by
   rw [zO]
   show S.size+1<=_
   omega
  have WY:S3.data.toList=S.data.toList++[40]:=by rw [zA,wU]
  simp only [aa,seval,kP]
  refine Ok.over (g:=HE) rfl (zBJ ((ho.sl (by decide)).lay _ _) (λe=>by have:=congrArg List.length e;rw [nA,dK] at this;omega) (by rw [nA];omega) (by rw [yh];exact hY hJ (by decide))) ?_
  rw [yh]
  obtain ⟨J2,hJ2⟩:∃ J2:au,J2=⟨(Lib.join (jK a) (ByteArray.mk #[44,32]).data.toList).toArray⟩:=⟨_,rfl⟩
  rw [<- hJ2]
  have hJl:J2.data.toList=Lib.join (jK a) dv:=by rw [hJ2];rfl
  have hJz:J2.size<=1300:=by rw [<- Eo,hJl];exact hJ
  simp only [aa,seval,kP]
  refine wI ?_ (λS4 hS4 YN=>?_)
  .omega
  simp only [aa,seval,kP]
  refine wI ?_ (λS5 hS5 hz5=>?_)
  .rw [YN]
   show S3.size+J2.size+1<=_
   omega
  repeat' (simp only [aa,seval,kP])
  have hS6:S5=⟨(cM a).toArray⟩:=ZH (by rw [hS5,wU,hS4,wU,WY,W0,hJl,zx7 (by omega)])
  rw [hS6]
  exact hk _ z.aC
 obtain ⟨r,hr,bT⟩:=fo (l:=a.args) (i:=i) aW
 simp only [aa,seval,kP]
 repeat' ((first|with_reducible refine QJ (hv.mono i1) zf kC (by omega) hr (λp hp=>?_)|with_reducible refine Ix hp sC kC ?_) <;> simp only [aa,seval,kP,r5,nC,po,Am.one,tG,nR,BK,aZ.val,aZ.cells])
 simp only [dx,seval,ly,T8]
 obtain ⟨Ye,jx⟩:=Jc (A:=A) (B:=bx.size+1) (r:=aK.str) (c:=1) (y:=r.s) (by decide) (show (bx.lay [ba.row [Value.bool r.v,Value.string r.s] 44 false,ba.row [Value.string r.s] 9 false] (min bx.low (bx.size+0))).get (bx.size+1)=some (.row [Value.string r.s] 9 false) by rw [iB];rfl) rfl
 have cQ:=ho.fresh
 have gv:((a.args.take i).map (·.s)).length<=4:=by rw [nA,fw];omega
 refine G9 (r:=aK.str) cG zV rfl (by decide) i1.size ho Ye jx (by omega) (by omega) (λw' h2 A' o2 c2 LO=>?_)
 replace z:=z.aC.step c2 (by omega)
 have i2:=zBE (i1.trans (bH.lay _ _ _)) c2 cQ
 have lW:(a.args.take (i+1)).map (·.s)=(a.args.take i).map (·.s)++[r.s]:=by rw [nS,bT,Ar];rfl
 rw [<- lW] at o2
 rw [ao h2]
 have Yw:∀ (h:Heap) (K:aI),aH (some w') h K=K w' h:=λ_ _=>rfl
 repeat' (simp only [aa,seval,kP])
 rw [hw]
 (rw [aX];with_reducible refine cy (m:=_) ?_ ⟨i+1,w',A',_,rfl,z,⟨rfl,by omega,o2,i2⟩,bm⟩;omega)
 trace_state
theorem DB (a b:aj) (ha:a.aY=true) (hb:b.aY=true) (h:Heap) (K:aI)
 (hk:∀ h',Ext h h'->K (.int .i64 (aU a b)) h'):Ok prog aG ov 110 [a.val,b.val] h K:=by
 rw [ao h]
 have z:=Ext.refl h
 refine Ok.aw 8 (bu J3) ?_
 repeat' (simp only [aa,seval,uN,gI])
 refine (dL (by simp only [uN])) z.aC ?_
 simp only [aa,seval,uN,↓eP,ef,dy]
 refine zxp a ha _ _ (λh' x=>?_)
 have q1:=Holds.top (i:=1) x rfl
 (((with_reducible refine cW ?_ ?_ ?_);(· exact (by (simp only [cV]);have:=z.size;omega));(· exact x));replace z:=z.an x;rw [ao h'])
 repeat' (simp only [aa,seval,uN,q1.lay,↓eP,ef,dy])
 refine zxp b hb _ _ (λh' x=>?_)
 (((with_reducible refine cW ?_ ?_ ?_);(· exact (by (simp only [cV]);have:=z.size;omega));(· exact x));replace z:=z.an x;rw [ao h'])
 repeat' (simp only [aa,seval,uN])
 refine Ok.over (g:=PV) rfl rfl ?_
 refine cW (by have:=z.size;rw [bd];omega) (by simpa only [b9,bd,bG,dK,i0] using Ext.refl (h'.lay [] h'.size)) ?_
 repeat' (first|simp only [aa,seval,uN]|((with_reducible refine ⟨z.cK.lay _ _,?_⟩);(intro _ h' zz x _);(simp only [b9,bG] at x);(replace z:=zz);(clear zz);rw [ao h']))
 exact hk _ z.aC
end Go.Proofs.YtmamldleclamjaaGreatDoor
namespace Go.Am
variable {cs:List ah} {ro:Bool} {u:TypeId} {h:Heap}
section
variable {Z:Type} {r:aK Z} {h0 h1:Heap} {v:ah} {l:List Z} {t e:TypeId} {A k bytes:Nat} {z:List ah} {T:bO} {bs:List ba} {w:Nat} {K:aI}
theorem zvB (hd:T.desc t=some (.slice e)) (hi:T.info e=some (k,bytes,z)) (Iq:r.k=k) (hk:0 < k) {i c:Nat} {x:Z} (hg:bs[i]? = some (.row cs u ro)) (hz:h0.size<=h1.size) (f:Ow r h0 h1 e A v l) (hr:r.R (kill A (h1.lay bs w)) cs x)
 (hb:(l.length+1)*bytes<=140737488355328) (hl:l.length+1<=1152921504606846976)
 (hK:∀ v' h' A',Ow r h0 h' e A' v' (l++[x])->eX A (h1.lay bs w) h'->(A'=A\/h1.size<=A')->K v' h'):dw (iy T t v (.slice (some ⟨h1.size+i,0,none⟩) 1 c) (h1.lay bs w)) K:=by
 have sS:(h1.lay bs w).get (h1.size+i)=some (.row cs u ro):=by rw [iB];exact hg
 obtain ⟨hs,mI⟩:=Jc (r:=r) (A:=A) (c:=c) (y:=x) (by omega) sS hr
 exact G9 hd hi Iq hk hz f (by rw [<- Iq];exact hs) mI hb hl hK
theorem GQ {n o:Nat} {vs:List ah} {v:ah} (q:Holds h1 A (.row cs u false)) (hs:di T t=some n) (hv:v.cells.toList=vs) (hl:vs.length=n) (hb:o+n<=cs.length) (bx:vs.all one=true)
 (hK:∀ h',Holds h' A (.row (aF cs o vs) u false)->eX A (h1.lay bs w) h'->K undef h'):iq (iO T t (.pointer (some ⟨A,o,none⟩)) v (h1.lay bs w)) K:=by
 have hg:(h1.lay bs w).get A=some (.row cs u false):=q.lay bs w
 have hA:A < (h1.lay bs w).size:=(q.on bs w).lt
 have dF:v.cells.size=n:=by rw [<- hl,<- hv];simp
 have he:iO T t (.pointer (some ⟨A,o,none⟩)) v (h1.lay bs w)=some ((h1.lay bs w).set A (.row (aF cs o vs) u false)):=by
  unfold iO
  simp only [hs,dX]
  rw [aB dF,hv]
  unfold lY
  rw [hg]
  simp only
  rw [aB (by simp only [eo,jl];exact ⟨by omega,bx⟩)]
 rw [he]
 refine hK _ ⟨by rw [Heap.size_set];exact hA,by rw [Heap.aJ _ _ _ _ hA,aB rfl]⟩ ⟨by rw [Heap.size_set];exact bo _,λB hB aS=>by rw [Heap.aJ _ _ _ _ hA,aA aS],by rw [Heap.cd];omega⟩
end
section
variable {P:Program} {T:bO} {ov:Ov}
theorem zhN {b:Nat} {ops:Array Oper} {l:List Oper} {j:Nat} {d:Option Tmp} {Q:Env->Heap->Prop} {e:Env} {hh:Heap} {UC bs:List ba} {w s:Nat} {v:ah} (hl:UC.length<=bs.length) (hb:b<=s) (hs:hh.size+UC.length<=s)
 (hk:cu P T ov b ops l (j+1) (put e d v) (hh.lay bs s) Q):Ce P T ov b ops l j d Q e (hh.lay UC w) v (hh.lay bs s):=by
 refine ⟨⟨⟨.inl ?_,?_,?_⟩,hk⟩⟩
 .rw [bd];exact hs
 .exact hb
 .rw [bd,bd];omega
end
theorem vP {A B:Nat} (aS:B≠A):(kill A h).get B=h.get B:=by
 unfold kill
 split
 .rename_i hA
  rw [Heap.aJ _ _ _ _ hA,aA aS]
 .rfl
theorem G2 {A:Nat} (hA:A < h.size):(kill A h).get A=some .dead:=by
 unfold kill
 rw [aB hA,Heap.aJ _ _ _ _ hA,aB rfl]
structure mE (B:Heap) (A:Nat) (h:Heap):Prop where
 lt:A < h.size
 inc:bH B (kill A h)
section
variable {B h1 h2:Heap} {A A':Nat} {bs:List ba} {w:Nat}
theorem mE.start (hA:A < h1.size):mE (kill A h1) A h1:=⟨hA,bH.refl _⟩
theorem mE.all (k:mE B A h1):bH B h1:=k.inc.trans (I7 _ _)
theorem PY {a b:Heap} (i:bH a b):bH (kill A a) (kill A b):=⟨by rw [r7,r7];exact i.size,λC hC hd=>by
 by_cases EV:C=A
 .subst EV
  rw [r7] at hC
  exact absurd (G2 hC) hd
 .rw [r7] at hC
  rw [vP EV] at hd ⊢
  rw [vP EV]
  exact i.get C hC hd⟩
theorem mE.mono (k:mE B A h1) (i:bH h1 h2):mE B A h2:=⟨dJ k.lt i.size,k.inc.trans (PY i)⟩
theorem mE.over (k:mE B A h1) (x:Ext (h1.lay bs w) h2):mE B A h2:=k.mono ((bH.lay _ _ _).trans x.inc)
theorem mE.lay (k:mE B A h1) (bs:List ba) (w:Nat):mE B A (h1.lay bs w):=k.mono (bH.lay _ _ _)
theorem mE.step (k:mE B A h1) (c:eX A (h1.lay bs w) h2) (hA:A'=A\/h1.size<=A') (hl:A' < h2.size):mE B A' h2:=by
 have hs:h1.size<=(h1.lay bs w).size:=by rw [bd];omega
 refine ⟨hl,⟨by rw [r7];exact hY k.all.size (hY hs c.size),λC hC hd=>?_⟩⟩
 have h3:=k.inc.get C hC hd
 have EV:C≠A:=by
  intro e
  subst e
  rw [G2 k.lt] at h3
  exact hd h3.symm
 have Rq:C < h1.size:=dJ hC k.all.size
 rw [vP EV] at h3
 rw [vP (by rcases hA with e|e <;> omega),c.get C (by omega) EV,uo _ _ _ Rq]
 exact h3
theorem mE.trans (k:mE B A h1) (k2:mE (kill A (h1.lay bs w)) A' h2):mE B A' h2:=⟨k2.lt,(k.lay bs w).inc.trans k2.inc⟩
theorem mE.holds {C:Nat} (k:mE B A h1) (q:Holds B C (.row cs u ro)):Holds h1 C (.row cs u ro)/\C≠A:=by
 refine ⟨q.mono k.all,λe=>?_⟩
 have:=k.inc.get C q.lt (by rw [q.get];nofun)
 rw [e,G2 k.lt,<- e,q.get] at this
 cases this
theorem mE.keep {C:Nat} (k:mE (kill A (h1.lay bs w)) A' h2) (q:Holds h1 C (.row cs u ro)) (aS:C≠A):Holds h2 C (.row cs u ro)/\C≠A' :=
 k.holds ⟨by rw [r7];exact (q.on bs w).lt,(vP aS).trans (q.on bs w).get⟩
end
section
variable {T:bO} {t e:TypeId} {v:ah} {B h1:Heap} {bs:List ba} {w:Nat} {K:aI} {kd:IntKind} {i:Int}
end
theorem bH.ji {a b d:Heap} {A:Nat} (i:bH a b) (c:eX A b d) (hA:a.size<=A):bH a d:=⟨hY i.size c.size,λB hB hd=>(c.get B (dJ hB i.size) (by omega)).trans (i.get B hB hd)⟩
theorem zoR {h2:Heap} {A:Nat} (i:bH h h2) (hA:h.size<=A):bH h (kill A h2):=⟨by rw [r7];exact i.size,λC hC hd=>by rw [vP (by omega)];exact i.get C hC hd⟩
theorem znk {s:au} (h:BH s):s.size<=300:=by have:=h.len;omega
theorem dt.size {t:aZ} (h:dt t):t.s.size<=300:=by
 unfold dt at h
 split at h
 .have:=h.len;omega
 .exact znk h.1
theorem zvD {a:aj} (h0:a.says.size<=300) (h1:a.pred.size<=300) (h:∀ i,i < 4->(a.arg i).s.size<=300):a.aY=true:=by
 unfold aj.aY
 simp only [eo,jl]
 exact ⟨h0,h1,h 0 (by omega),h 1 (by omega),h 2 (by omega),h 3 (by omega)⟩
theorem gR.aY {a:aj} (h:gR a):a.aY=true:=by
 refine zvD (znk h.says.1.1) (znk h.pred.1.1) (λi hi=>?_)
 by_cases hn:(i:Int) < a.n
 .exact (h.iW i hn).size
 .rw [h.rest i (by omega) hi]
  decide
end Go.Am
namespace Go.Am
variable {h h0 h1:Heap} {s xs ys:aN} {v:ah} {u:TypeId} {x y:aj}
theorem bH.over {a h2:Heap} {l:List ba} {w:Nat} (i:bH a h1) (x:Ext (h1.lay l w) h2):bH a h2:=(i.trans (bH.lay _ _ _)).trans x.inc
theorem S7 (f:kN h1 h u v s) (i:h0.size<=h1.size):kN h0 h u v s:=by
 rcases f with f|⟨A,e1,e2,e3,e4⟩
 .exact .inl f
 .exact .inr ⟨A,e1,e2,by omega,e4⟩
theorem zj8 {h':Heap} (f:kN h0 h u v s) (i:bH h h'):kN h0 h' u v s:=by
 rcases f with ⟨e,f⟩|⟨A,e1,e2,e3,e4⟩
 .exact .inl ⟨e,f.mono i⟩
 .exact .inr ⟨A,e1,e2.mono i,e3,e4⟩
theorem zxy {Z:Type} {r:aK Z} {e A:Nat} {l:List Z} (f:Ow r h1 h e A v l) (i:h0.size<=h1.size):Ow r h0 h e A v l:=by
 rcases f with ⟨f1,f2,f3⟩|⟨row,e1,e2,e3,e4⟩
 .refine .inl ⟨by omega,f2,f3.imp id ?_⟩
  rintro ⟨B,o,g1,g2,g3⟩
  exact ⟨B,o,g1,by omega,g3⟩
 .exact .inr ⟨row,e1,e2,by omega,e4⟩
def ny:aN->aN->aN
 | [],ys=>ys
 |x::xs,[]=>x::xs
 |x::xs,y::ys=>if aU x y < 0 then x::ny xs (y::ys) else if 0 < aU x y then y::ny (x::xs) ys else ny (x::xs) ys
termination_by l m=>l.length+m.length
theorem ZX (ys:aN):ny [] ys=ys:=by unfold ny;rfl
theorem Z0 (xs:aN):ny xs []=xs:=by
 cases xs with
 |nil=>unfold ny;rfl
 |cons x xs=>unfold ny;rfl
theorem zjU (h:aU x y < 0):ny (x::xs) (y::ys)=x::ny xs (y::ys):=by
 rw [ny,aB h]
theorem zjT (h:0 < aU x y):ny (x::xs) (y::ys)=y::ny (x::xs) ys:=by
 rw [ny,aA (by omega),aB h]
theorem zjS (h:aU x y=0):ny (x::xs) (y::ys)=ny (x::xs) ys:=by
 rw [ny,aA (by omega),aA (by omega)]
theorem IJ:∀ (n:Nat) (xs ys:aN),xs.length+ys.length<=n->dG xs->dG ys->∀ z,z∈ny xs ys↔z∈xs\/(z∈ys/\∀ x∈xs,aU x z≠0)
 |n,[],ys,_,_,_,z=>by rw [ZX];simp
 |n,x::xs,[],_,_,_,z=>by rw [Z0];simp
 |0,x::xs,y::ys,hn,_,_,z=>by simp at hn
 |n+1,x::xs,y::ys,hn,hx,hy,z=>by
  have gx:=nQ.1 hx
  have gy:=nQ.1 hy
  simp only [dY] at hn
  by_cases h1:aU x y < 0
  .rw [zjU h1,cJ,IJ n xs (y::ys) (by simp only [dY];omega) gx.2 hy z]
   constructor
   .rintro (rfl|h|⟨h,h2⟩)
    .exact .inl (fZ ..)
    .exact .inl (eQ _ h)
    .refine .inr ⟨h,λw hw=>?_⟩
     rcases cJ.1 hw with rfl|hw
     .have:aU w z < 0:=by
       rcases cJ.1 h with rfl|h
       .exact h1
       .exact BP h1 (gy.1 z h)
      omega
     .exact h2 w hw
   .rintro (h|⟨h,h2⟩)
    .rcases cJ.1 h with rfl|h
     .exact .inl rfl
     .exact .inr (.inl h)
    .exact .inr (.inr ⟨h,λw hw=>h2 w (eQ _ hw)⟩)
  .by_cases h2:0 < aU x y
   .rw [zjT h2,cJ,IJ n (x::xs) ys (by simp only [dY];omega) hx gy.2 z]
    have th:aU y x < 0:=by
     have:=wJ x y
     omega
    constructor
    .rintro (rfl|h|⟨h,h3⟩)
     .refine .inr ⟨fZ ..,λw hw=>?_⟩
      have:aU z w < 0:=by
       rcases cJ.1 hw with rfl|hw
       .exact th
       .exact BP th (gx.1 w hw)
      have:=wJ w z
      omega
     .exact .inl h
     .exact .inr ⟨eQ _ h,h3⟩
    .rintro (h|⟨h,h3⟩)
     .exact .inr (.inl h)
     .rcases cJ.1 h with rfl|h
      .exact .inl rfl
      .exact .inr (.inr ⟨h,h3⟩)
   .have h3:aU x y=0:=by omega
    rw [zjS h3,IJ n (x::xs) ys (by simp only [dY];omega) hx gy.2 z]
    constructor
    .rintro (h|⟨h,h4⟩)
     .exact .inl h
     .exact .inr ⟨eQ _ h,h4⟩
    .rintro (h|⟨h,h4⟩)
     .exact .inl h
     .rcases cJ.1 h with rfl|h
      .exact absurd h3 (h4 x (fZ ..))
      .exact .inr ⟨h,h4⟩
theorem SE:∀ (n:Nat) (xs ys:aN),xs.length+ys.length<=n->dG xs->dG ys->dG (ny xs ys)
 |n,[],ys,_,_,hy=>by rw [ZX];exact hy
 |n,x::xs,[],_,hx,_=>by rw [Z0];exact hx
 |0,x::xs,y::ys,hn,_,_=>by simp at hn
 |n+1,x::xs,y::ys,hn,hx,hy=>by
  have gx:=nQ.1 hx
  have gy:=nQ.1 hy
  simp only [dY] at hn
  by_cases h1:aU x y < 0
  .rw [zjU h1]
   refine nQ.2 ⟨λz hz=>?_,SE n xs (y::ys) (by simp only [dY];omega) gx.2 hy⟩
   rcases (IJ _ xs (y::ys) (bo _) gx.2 hy z).1 hz with h|⟨h,_⟩
   .exact gx.1 z h
   .rcases cJ.1 h with rfl|h
    .exact h1
    .exact BP h1 (gy.1 z h)
  .by_cases h2:0 < aU x y
   .rw [zjT h2]
    have th:aU y x < 0:=by
     have:=wJ x y
     omega
    refine nQ.2 ⟨λz hz=>?_,SE n (x::xs) ys (by simp only [dY];omega) hx gy.2⟩
    rcases (IJ _ (x::xs) ys (bo _) hx gy.2 z).1 hz with h|⟨h,_⟩
    .rcases cJ.1 h with rfl|h
     .exact th
     .exact BP th (gx.1 z h)
    .exact gy.1 z h
   .rw [zjS (by omega)]
    exact SE n (x::xs) ys (by simp only [dY];omega) hx gy.2
theorem zpL {l1 l2 s1 s2:aN} (f:br l1 s1) (g:br l2 s2):br (l1++l2) (ny s1 s2):=by
 have hm:=IJ _ s1 s2 (bo _) f.gK g.gK
 refine ⟨SE _ s1 s2 (bo _) f.gK g.gK,λy hy=>?_,λx hx=>?_⟩
 .rw [Ao,List.head?_append]
  rcases (hm y).1 hy with h|⟨h,h2⟩
  .rw [f.first y h]
   rfl
  .have e:l1.filter (λx=>cM x == cM y)=[]:=by
    rw [Jj]
    intro x hx dm
    have dm:cM x=cM y:=by simpa using dm
    obtain ⟨w,hw,e⟩:=f.wk x hx
    exact h2 w hw (ck.2 (e.trans dm))
   rw [e,g.first y h]
   rfl
 .rcases iA.1 hx with hx|hx
  .obtain ⟨y,hy,e⟩:=f.wk x hx
   exact ⟨y,(hm y).2 (.inl hy),e⟩
  .obtain ⟨y,hy,e⟩:=g.wk x hx
   by_cases h:∃ w∈s1,aU w y=0
   .obtain ⟨w,hw,e2⟩:=h
    exact ⟨w,(hm w).2 (.inl hw),(ck.1 e2).trans e⟩
   .exact ⟨y,(hm y).2 (.inr ⟨hy,λw hw e2=>h ⟨w,hw,e2⟩⟩),e⟩
theorem zxN (l1 l2:aN):ny (eW l1) (eW l2)=eW (l1++l2):=(zpL (pe l1) (pe l2)).is
theorem zxO {l:aN} (h:l.length < 2):eW l=l:=by
 refine SV ?_
 match l,h with
 | [],_=>exact List.Pairwise.nil
 | [x],_=>exact Tm ..
theorem zAO {T:bO} {t:TypeId} {bytes:Nat} {z:List ah} (hd:T.desc t=some (.slice u)) (hi:T.info u=some (11,bytes,z)) (hu:u≠QS) (uX:bytes<=1000) {w:ah} {a:aj} {lw:Nat}
 (hz:h0.size<=h1.size) (ho:eF h0 h1 u w s) (hn:s.length<=10000) :
 ∃ w' H',iy T t w (.slice (some ⟨h1.size+0,0,none⟩) 1 1) (h1.lay [.row a.cells u false] lw)=some (w',H')/\eF h0 H' u w' (s++[a])/\∃ A,h0.size<=A/\eX A (h1.lay [.row a.cells u false] lw) H':=by
 obtain ⟨w',H',e,o,c⟩:=zwC (a:=a) (i:=s.length) (lw:=lw) hd hi hu uX hz ho hn (bo _)
 have lI:s.take s.length++a::s.drop s.length=s++[a]:=by rw [JK,List.drop_length]
 rw [lI] at o
 refine ⟨w',H',?_,o,c⟩
 rcases ho with ⟨rfl,xN⟩|⟨A,tl,rfl,hq,hA,hle⟩
 .rcases xN.no with rfl|⟨B,o,rfl⟩
  .simpa [ru,hd] using e
  .simpa [ru,hd] using e
 .unfold ru at e
  simp only [hd] at e
  rw [aB trivial] at e
  exact e
theorem zxP (l:aN) (a:aj):eW (eW l++[a])=cz a (eW l):=by rw [zuT,SV (pe l).gK]
theorem zwa (s:aN) (a:aj):s.filter (λx => !bL [a] x)=eR a s:=by
 unfold eR
 congr 1
 funext x
 show (!(cM a == cM x || false)) = !(cM x == cM a)
 rw [Bool.or_false,BEq.comm]
end Go.Am
