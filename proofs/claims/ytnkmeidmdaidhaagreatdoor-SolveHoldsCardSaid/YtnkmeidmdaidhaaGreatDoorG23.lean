/- The code of some functions, node by node, for simp. Written by a program (mkcode.py). No condition. -/
import Derived.Test.YtnkmeidmdaidhaaGreatDoorG22
set_option linter.unusedSimpArgs false
set_option linter.unusedVariables false
set_option maxRecDepth 100000
set_option maxHeartbeats 0
noncomputable section
namespace Go.Proofs.YtnkmeidmdaidhaaGreatDoor
open Go.Am Tryz
variable {t:TypeId}
def Ht:=bR f126
def KI:=PLift.up (by have c:=bU Ht f126;simp only [aS,f126,seval] at c;exact nd c <| nd @wZ <| nd @oH <| nd @lD <| nd @pQ <| @zCi)
theorem qP:type_of% KI.down:=KI.down
def Hv:=bR f128
def KK:=PLift.up (by have c:=bU Hv f128;simp only [aS,f128,seval] at c;exact nd c <| @zCk)
theorem n7:type_of% KK.down:=KK.down
def Hw:=bR f129
def KL:=PLift.up (by have c:=bU Hw f129;simp only [aS,f129,seval] at c;exact nd c <| nd @wZ <| nd @oH <| nd @lD <| nd @pP <| @zCl)
theorem Cz:type_of% KL.down:=KL.down
def He:=bR f102
def Kr:=PLift.up (by have c:=bU He f102;simp only [aS,f102,seval] at c;exact nd c <| nd @mQ <| nd @wZ <| nd @LU <| nd @oH <| nd @kr <| nd @lD <| nd @pP <| nd @pQ <| @zB0)
theorem kM:type_of% Kr.down:=Kr.down
def Yz:=bR f98
def x98:=PLift.up (by have c:=bU Yz f98;simp only [aS,f98,seval] at c;exact nd c <| nd @Mw <| nd @mQ <| nd @LU <| nd @xX <| nd @uA <| nd @oH <| nd @Fp <| nd @xH <| nd @lD <| nd @pQ <| @Rx)
theorem xp:type_of% x98.down:=x98.down
def Yv:=bR f94
def x94:=PLift.up (by have c:=bU Yv f94;simp only [aS,f94,seval] at c;exact nd c <| nd @mQ <| nd @xX <| nd @uA <| nd @kr <| nd @xH <| nd @lD <| @Rt)
theorem HY:type_of% x94.down:=x94.down
def Hd:=bR f101
def Kq:=PLift.up (by have c:=bU Hd f101;simp only [aS,f101,seval] at c;exact nd c <| nd @wZ <| nd @LU <| nd @xX <| nd @uA <| nd @xH <| nd @lD <| @zBZ)
theorem HL:type_of% Kq.down:=Kq.down
def Cr:=bR f103
def Ks:=PLift.up (by have c:=bU Cr f103;simp only [aS,f103,seval] at c;exact nd c <| nd @yp <| nd @Fp <| nd @pP <| nd @pQ <| @zB1)
theorem gu:type_of% Ks.down:=Ks.down
def Hx:=bR f130
def KN:=PLift.up (by have c:=bU Hx f130;simp only [aS,f130,seval] at c;exact nd c <| nd @wZ <| nd @oH <| nd @lD <| nd @pP <| @zCm)
theorem CA:type_of% KN.down:=KN.down
def Cq:=bR f100
def Kp:=PLift.up (by have c:=bU Cq f100;simp only [aS,f100,seval] at c;exact nd c <| nd @Mw <| nd @yp <| nd @wZ <| nd @LU <| nd @oH <| nd @Fp <| nd @kr <| nd @lD <| nd @pQ <| @zBY)
theorem fI:type_of% Kp.down:=Kp.down
def PF:=bR f93
def x93:=PLift.up (by have c:=bU PF f93;simp only [aS,f93,seval] at c;exact nd c <| nd @Mw <| nd @mQ <| nd @yp <| nd @uA <| nd @Fp <| nd @kr <| nd @lD <| @Rs)
theorem jm:type_of% x93.down:=x93.down
def Hr:=bR f124
def KG:=PLift.up (by have c:=bU Hr f124;simp only [aS,f124,seval] at c;exact nd c <| nd @Mk <| nd @E0 <| nd @B7 <| nd @nH <| nd @lD <| @zCg)
theorem HS:type_of% KG.down:=KG.down
def Yy:=bR f97
def x97:=PLift.up (by have c:=bU Yy f97;simp only [aS,f97,seval] at c;exact nd c <| nd @mQ <| nd @xX <| nd @uA <| nd @B7 <| nd @xY <| nd @pO <| nd @kr <| nd @Un <| nd @cJ <| nd @nH <| nd @xH <| nd @lD <| @Rw)
theorem kN:type_of% x97.down:=x97.down
def Hs:=bR f125
def KH:=PLift.up (by have c:=bU Hs f125;simp only [aS,f125,seval] at c;exact nd c <| nd @yp <| @zCh)
theorem yw:type_of% KH.down:=KH.down
theorem LK (a:Int):gd prog (Next.value <$> convert 3 159 (.int .i64 a))=some (Next.value (.int .u64 (IntKind.u64.wrap a))):=by rfl
theorem LL (a:Int):gd prog (Next.value <$> convert 159 3 (.int .u64 a))=some (Next.value (.int .i64 (IntKind.i64.wrap a))):=by rfl
theorem LC {T:bN} {k kd:IntKind} {a b:Int} (hb:¬ b < 0):cE prog T .shr t (.int k a) (.int kd b)=some (.int k (a.fdiv (2 ^ (min b.toNat k.bits)))):=by
 have h1:((T.desc t).bind λd=>Cn d (.int k a) (.int kd b))=none:=by
  cases T.desc t with
  |none=>rfl
  |some d=>cases d <;> rfl
 have h2:gd prog (binOp .shr t (.int k a) (.int kd b))=some (.int k (a.fdiv (2 ^ (min b.toNat k.bits)))):=by
  simp [binOp,Op.shift,hb,B0]
 unfold cE
 have hf:qy .shr (.int k a) (.int kd b)=none:=rfl
 rw [hf]
 simp [h1,h2]
 exact ⟨⟨rfl,rfl⟩,rfl⟩
theorem yb {d} {s ty:TypeId} {x:Operand} {pos af g} {kk:IntKind} {a:Int} {v:ai} {e:Env} {h:Heap} {K:aO} (hs:sg aJ s=false) (ht:sg aJ t=false) (hx:bE e x=.int kk a) (hc:gd prog (Next.value <$> convert s t (.int kk a))=some (Next.value v)) (hv:plain v=true):cO prog aJ ov ⟨d,.convert s t x,ty,pos,af,g⟩ e h K=K v h:=by
 rw [zpx d ty pos af g e h K s t x hs ht]
 have hp:gD prog e ⟨d,.convert s t x,ty,pos,af,g⟩ h=some (v,h):=by
  unfold gD
  simp [Op.operands,hx,execOp]
  refine ⟨rfl,?_⟩
  rw [hc]
  simp [hv]
 rw [hp]
 rfl
theorem Wb (w:Nat) (hn:w<=1000) (fv:ai) (pr:Nat->Bool) (h:Heap) (vU:∀ (i:Nat) (hc:Heap) (K:aO),i < w->Ext h hc->(∀ h',Ext hc h'->K (.bool (pr i)) h')->xg prog aJ ov [.int .i64 i] hc K fv) (K:aO)
 (hk:∀ (h':Heap) (i:Nat),Ext h h'->i<=w->(0 < i->pr (i - 1)=false)->(i < w->pr i=true)->K (.int .i64 i) h'):Ok prog aJ ov 128 [.int .i64 w,fv] h K:=by
 rw [az h]
 have z:=Ext.refl h
 refine Ok.aF 24 (bY Hv) ?_
 simp only [aa,seval,n7]
 obtain ⟨I1,bo⟩:∃ I:Nat->Env->Heap->Prop,I=(λn e h'=>∃ (lo hi:Nat) (h1:Heap),h'=h1.lay [] h1.low/\Ext h h1/\(n=hi - lo/\lo<=hi/\hi<=w/\(0 < lo->pr (lo - 1)=false)/\(hi < w->pr hi=true))/\∃ J:Nat->ai,e=(.int .i64 w::fv::jr J 2 3 (.int .i64 lo::.int .i64 hi::jr J 7 19 ([])))):=⟨_,rfl⟩
 refine fh I1 _ (by rw [bo];exact ⟨0,w,_,rfl,z,⟨rfl,by omega,by omega,by omega,by omega⟩,bO⟩) ?_
 intro n e h' aU
 rw [bo] at aU
 obtain ⟨lo,hi,cF,rfl,z,hinv,J,rfl⟩:=aU
 obtain ⟨rfl,h1,h2,h3,h4⟩:=hinv
 simp only [aa,seval,n7]
 refine cm (λbc=>?_) (λbc=>?_)
 rotate_left
 .simp only [aa,seval,n7]
  obtain rfl:lo=hi:=by omega
  exact hk _ lo z.aw h2 h3 h4
 have e1:IntKind.i64.wrap ((lo:Int)+(hi:Int))=((lo+hi:Nat):Int):=by rw [fQ (by omega) (by omega)];omega
 have e2:IntKind.u64.wrap ((lo+hi:Nat):Int)=((lo+hi:Nat):Int):=by unfold IntKind.wrap;simp [IntKind.bits];omega
 have e3:IntKind.i64.wrap (((lo+hi) / 2:Nat):Int)=(((lo+hi) / 2:Nat):Int):=fQ (by omega) (by omega)
 have e4:Int.fdiv ((lo+hi:Nat):Int) (2 ^ (min (1:Int).toNat (IntKind.bits .u64)))=(((lo+hi) / 2:Nat):Int):=by
  show Int.fdiv ((lo+hi:Nat):Int) 2=_
  rw [Int.fdiv_eq_ediv_of_nonneg _ (by omega)]
  omega
 repeat' (simp only [aa,seval,n7,e1])
 rw [yb rfl rfl rfl (LK _) rfl,e2]
 repeat' (simp only [aa,seval,n7])
 rw [LC (by decide),e4]
 repeat' (simp only [aa,seval,n7])
 rw [yb rfl rfl rfl (LL _) rfl,e3]
 repeat' (simp only [aa,seval,n7])
 refine vU ((lo+hi) / 2) _ _ (by omega) z.aw (λh' x=>?_)
 (replace z:=z.au x;rw [az h'])
 have e5:IntKind.i64.wrap ((((lo+hi) / 2:Nat):Int)+1)=(((lo+hi) / 2+1:Nat):Int):=by rw [fQ (by omega) (by omega)];omega
 cases hx:pr ((lo+hi) / 2)
 .repeat' (first|simp only [aa,seval,n7]|((with_reducible apply cK);(· rfl)))
  rw [e5]
  (rw [bo];with_reducible refine dA (m:=_) ?_ ⟨(lo+hi) / 2+1,hi,_,rfl,z,⟨rfl,by omega,by omega,by intro _;simpa using hx,h4⟩,bO⟩;omega)
 .repeat' (first|simp only [aa,seval,n7]|((with_reducible apply cK);(· rfl)))
  (rw [bo];with_reducible refine dA (m:=_) ?_ ⟨lo,(lo+hi) / 2,_,rfl,z,⟨rfl,by omega,by omega,h3,by intro _;exact hx⟩,bO⟩;omega)
theorem zu3 {P:Program} {T:bN} {a b:aV}:cE P T .geq t (.string a) (.string b)=some (.bool (!slt a b)):=by
 refine LD rfl ?_ rfl
 unfold Op.stringOp
 simp only [BG]
 rfl
theorem zr5 (l:List av) (v:ai) (h:Heap) (hl:Sl aG.bind h v l) (hs:l.length<=1000) (K:aO)
 (hk:∀ (h':Heap) (b:Bool),Ext h h'->(b=true↔lG l l.length)->K (.bool b) h'):Ok prog aJ ov 126 [v] h K:=by
 rw [az h]
 have z:=Ext.refl h
 refine Ok.aF 25 (bY Ht) ?_
 simp only [aa,seval,qP]
 repeat' ((with_reducible refine rF hl dx ?_) <;> simp only [aa,seval,qP])
 obtain ⟨I1,bo⟩:∃ I:Nat->Env->Heap->Prop,I=(λn e h'=>∃ (i:Nat) (h1:Heap),h'=h1.lay [] h1.low/\Ext h h1/\(n=l.length - i/\i<=l.length/\lG l i)/\∃ J:Nat->ai,e=(v::jr J 1 4 (.int .i64 l.length::.int .i64 i::jr J 7 19 ([])))):=⟨_,rfl⟩
 refine fh I1 _ (by rw [bo];exact ⟨0,_,rfl,z,⟨rfl,by omega,by intro k x y hk;omega⟩,bO⟩) ?_
 intro n e h' aU
 rw [bo] at aU
 obtain ⟨i,cF,rfl,z,hinv,J,rfl⟩:=aU
 obtain ⟨rfl,hi,aE⟩:=hinv
 have hw:=gE i (by omega)
 have pe:IntKind.i64.wrap ((i:Int) - 1)=(i:Int) - 1:=fQ (by omega) (by omega)
 simp only [aa,seval,qP]
 refine cm (λbc=>?_) (λbc=>?_)
 rotate_left
 .simp only [aa,seval,qP]
  obtain rfl:i=l.length:=by omega
  exact hk _ true z.aw ⟨λ_=>aE,λ_=>rfl⟩
 repeat' (first|simp only [aa,seval,qP]|((with_reducible apply cm) <;> intro _)|with_reducible refine eF (by simp only [qP]) z.aw ?_|((with_reducible refine ⟨z.cS.lay _ _,?_⟩);(intro _ h' zz x _);(simp only [bS,bD] at x);(replace z:=zz);(clear zz);rw [az h']))
 rotate_left
 .rw [hw]
  (rw [bo];with_reducible refine dA (m:=_) ?_ ⟨i+1,_,rfl,z,⟨rfl,by omega,zlw (by omega)⟩,bO⟩;omega)
 have TZ:IntKind.i64.wrap ((i:Int) - 1)=((i - 1:Nat):Int):=by rw [pe];omega
 rw [TZ]
 obtain ⟨r0,xC,Jr⟩:=i4 (l:=l) (i:=i - 1) (by omega)
 obtain ⟨r1,r6,vZ⟩:=i4 (l:=l) (i:=i) (by omega)
 repeat' ((first|((with_reducible apply zW) <;> intro _)|with_reducible refine ya (hl.mono z.inc) dx mx (by omega) xC (λp hp=>?_)|with_reducible refine ya (hl.mono z.inc) dx mx (by omega) r6 (λp hp=>?_)|with_reducible refine yD hp wZ (λq hq=>?_)|with_reducible refine uB hq Ay ?_|((with_reducible refine ⟨z.cS.lay _ _,?_⟩);(intro _ h' zz x _);(simp only [bS,bD] at x);(replace z:=zz);(clear zz);rw [az h'])) <;> simp only [aa,seval,qP,zu3])
 rotate_left
 .rw [hw]
  (rw [bo];with_reducible refine dA (m:=_) ?_ ⟨i+1,_,rfl,z,⟨rfl,by omega,zqP aE (by omega) Jr vZ (by assumption)⟩,bO⟩;omega)
 .refine hk _ false z.aw ⟨nofun,λhR=>absurd hR (zt8 (by omega) Jr vZ (by simp [*]))⟩
theorem zAu (l:List av) (v:ai) (s:aV) (i:Nat) (A B:Nat) (h:Heap) (hl:Sl aG.bind h v l) (hs:l.length<=1000) (hi:i < l.length) (q0:ak h A (.row [v] 95 false)) (q1:ak h B (.row [.string s] 9 false)) (K:aO)
 (hk:∀ h',Ext h h'->K (.bool (match l[i]? with|some x => !slt x.var s|none=>false)) h'):Ok prog aJ ov 129 [.int .i64 i,.pointer (some ⟨A,0,none⟩),.pointer (some ⟨B,0,none⟩)] h K:=by
 rw [az h]
 have z:=Ext.refl h
 obtain ⟨r,hr,cI⟩:=i4 (l:=l) (i:=i) (by omega)
 rw [cI] at hk
 refine Ok.aF 9 (bY Hw) ?_
 simp only [aa,seval,Cz]
 repeat' ((first|with_reducible refine ya (hl.mono z.inc) dx mx (by omega) hr (λp hp=>?_)|with_reducible refine yD hp wZ (λq hq=>?_)|with_reducible refine uB hq Ay ?_|with_reducible refine eF (by simp only [Cz]) z.aw ?_|((with_reducible refine ⟨z.cS.lay _ _,?_⟩);(intro _ h' zz x _);(simp only [bS,bD] at x);(replace z:=zz);(clear zz);rw [az h'])) <;> simp only [aa,seval,Cz,q0.lay,q1.lay,zu3,zsB])
 exact hk _ z.aw
theorem zs6:nP aJ 25 []=some bX.val:=by kernel_rfl
theorem WN (a:ay):cut a.cells 0 2=some a.cells:=rfl
theorem EL (a:ay):Value.agg a.cells.toArray=a.val:=rfl
theorem EX (l:List av) (v:ai) (s:aV) (h:Heap) (hl:Sl aG.bind h v l) (hs:l.length<=1000) (K:aO)
 (hk:∀ h',Ext h h'->K (.tuple #[(bx l s).1.val,.bool (bx l s).2]) h'):Ok prog aJ ov 102 [v,.string s] h K:=by
 rw [az h]
 have z:=Ext.refl h
 refine Ok.aF 30 (bY He) ?_
 have hc:v.cells.toList=[v]:=OU hl
 have dg:∀ (h:Heap) (K:aO),aM (some v) h K=K v h:=λ_ _=>rfl
 repeat' (simp only [aa,seval,kM,hc,dg])
 refine zr5 l _ _ (hl.lay _ _) hs _ (λh' b x hb=>?_)
 have q0:=ak.top (i:=0) x rfl
 have q1:=ak.top (i:=1) x rfl
 have q2:=ak.top (i:=2) x rfl
 (replace z:=z.au x;rw [az h'])
 cases b
 rotate_left
 focus
  simp only [aa,seval,kM,q0.lay,dg]
  repeat' ((with_reducible refine rF (hl.mono z.inc) dx ?_) <;> simp only [aa,seval,kM])
  refine Wb l.length hs _ (λi=>match l[i]? with|some x => !slt x.var s|none=>false) _ (λi dO K' hi xe je=>?_) _ (λda i x hi gx oC=>?_)
  .rw [Eu]
   have KX:=z.au xe
   exact zAu l v s i _ _ dO (hl.mono KX.inc) hs hi (q0.over xe) (q1.over xe) K' je
  have q0:=q0.over x
  have q1:=q1.over x
  have q2:=q2.over x
  (replace z:=z.au x;rw [az da])
  have jT:=zuc (hb.1 rfl) hi gx
  clear gx oC
  simp only [aa,seval,kM]
 rotate_left
 focus
  simp only [aa,seval,kM]
  have hi:0<=l.length:=jl _
  have jT:∀ y∈l.take 0,y.var≠s:=by simp
 all_goals
  obtain ⟨I1,bo⟩:∃ I:Nat->Env->Heap->Prop,I=(λn e h'=>∃ (i:Nat) (h1:Heap),h'=h1.lay [] h1.low/\Ext h h1/\(n=l.length - i/\i<=l.length/\(∀ y∈l.take i,y.var≠s)/\ak h1 (h.size+0) (.row [v] 95 false)/\ak h1 (h.size+1) (.row [.string s] 9 false)/\ak h1 (h.size+2) (.row [.bool false,.string ⟨#[]⟩] 25 false))/\∃ J:Nat->ai,e=(jr J 0 2 (.pointer (some ⟨h.size+0,0,none⟩)::.pointer (some ⟨h.size+1,0,none⟩)::.pointer (some ⟨h.size+2,0,none⟩)::.bool false::.int .i64 i::jr J 7 25 ([])))):=⟨_,rfl⟩
  refine fh I1 _ (by rw [bo];exact ⟨_,_,rfl,z,⟨rfl,hi,jT,q0,q1,q2⟩,bO⟩) ?_
  intro n e h' aU
  rw [bo] at aU
  obtain ⟨i,uY,rfl,z,hinv,J,rfl⟩:=aU
  clear hi jT q0 q1 q2
  obtain ⟨rfl,hi,jT,q0,q1,q2⟩:=hinv
  have hw:i < l.length->IntKind.i64.wrap ((i:Int)+1)=((i+1:Nat):Int):=λ_=>by rw [fQ (by omega) (by omega)];omega
  have hz:=z.size
  simp only [aa,seval,kM,q0.lay,dg]
  repeat' ((first|((with_reducible apply cm) <;> intro _)|with_reducible refine rF (hl.mono z.inc) dx ?_) <;> simp only [aa,seval,kM])
  rotate_left
  .simp only [aa,seval,kM,zs6,BM]
   refine EG q2 iK rfl rfl rfl (λh' oL c=>?_)
   replace z:=z.aw.step c (by omega)
   rw [az h']
   simp only [aa,seval,kM,oL.lay,K8,↓WN,EL,BM]
   have jU:=zwU (l:=l) (s:=s) (λy hy=>jT y (by rw [iR (by omega)];exact hy))
   rw [jU] at hk
   exact hk _ z.aw
  obtain ⟨r,hr,cI⟩:=i4 (l:=l) (i:=i) (by assumption)
  repeat' ((first|((with_reducible apply cm) <;> intro _)|with_reducible refine ya (hl.mono z.inc) dx mx (by omega) hr (λp hp=>?_)|with_reducible refine yD hp wZ (λq hq=>?_)|with_reducible refine Qi hp LU (λp hp=>?_)|with_reducible refine uB hq Ay ?_|with_reducible refine J0 hp sJ iK ?_|with_reducible refine eF (by simp only [kM]) z.aw ?_|((with_reducible refine ⟨z.cS.lay _ _,?_⟩);(intro _ h' zz x _);(simp only [bS,bD] at x);replace q0:=q0.over x;replace q1:=q1.over x;replace q2:=q2.over x;(replace z:=zz);(clear zz);rw [az h'])) <;> simp only [aa,seval,kM,q0.lay,q1.lay,dg])
  .have hz:=z.size
   refine EG q2 iK rfl rfl rfl (λh' oL c=>?_)
   replace z:=z.aw.step c (by omega)
   rw [az h']
   simp only [aa,seval,kM,oL.lay,K8,↓WN,EL,BM]
   have lS:=zwT cI jT (by assumption)
   rw [lS] at hk
   exact hk _ z.aw
  .rw [hw (by omega)]
   (rw [bo];with_reducible refine dA (m:=_) ?_ ⟨i+1,_,rfl,z,⟨rfl,by omega,wY (i:=i) (P:=λy:av=>y.var≠s) cI jT (by assumption),q0,q1,q2⟩,bO⟩;omega)
end Go.Proofs.YtnkmeidmdaidhaaGreatDoor
