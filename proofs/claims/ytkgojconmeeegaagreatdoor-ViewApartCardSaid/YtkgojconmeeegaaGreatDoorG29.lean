/- The code of some functions, node by node, for simp. Written by a program (mkcode.py). No condition. -/
import Derived.Test.YtkgojconmeeegaaGreatDoorG22
import Derived.Test.YtkgojconmeeegaaGreatDoorG21
set_option linter.unusedSimpArgs false
set_option linter.unusedVariables false
set_option maxRecDepth 100000
set_option maxHeartbeats 0
namespace Go.Proofs.YtkgojconmeeegaaGreatDoor
open Go.Am
noncomputable def KM:=bA Tryz.f115
noncomputable def PO:=PLift.up (by have c:=bB KM Tryz.f115;simp only [aK,Tryz.f115,seval] at c;exact nd c <| nd @ct <| @zL5)
theorem zt:type_of% PO.down:=PO.down
noncomputable def Lf:=bA Tryz.f163
noncomputable def Qq:=PLift.up (by have c:=bB Lf Tryz.f163;simp only [aK,Tryz.f163,seval] at c;exact nd c <| @zMz)
theorem Fj:type_of% Qq.down:=Qq.down
noncomputable def Lx:=bA Tryz.f199
noncomputable def QO:=PLift.up (by have c:=bB Lx Tryz.f199;simp only [aK,Tryz.f199,seval] at c;exact nd c <| nd @XP <| nd @qI <| nd @Yk <| @zMV)
theorem tE:type_of% QO.down:=QO.down
noncomputable def Lh:=bA Tryz.f165
noncomputable def Qs:=PLift.up (by have c:=bB Lh Tryz.f165;simp only [aK,Tryz.f165,seval] at c;exact nd c <| nd @Kg <| nd @G9 <| @zMB)
theorem Mt:type_of% Qs.down:=Qs.down
noncomputable def Lg:=bA Tryz.f164
noncomputable def Qr:=PLift.up (by have c:=bB Lg Tryz.f164;simp only [aK,Tryz.f164,seval] at c;exact nd c <| nd @EC <| nd @Da <| nd @mi <| @zMA)
theorem zA:type_of% Qr.down:=Qr.down
theorem zot (l:List aX) (v fv:Value) (pr:aX→Bool) (h:Heap) (hl:Sl aJ.term h v l) (hs:l.length≤1000) (Aq:∀ (x:aX) (hc:Heap) (K:Value→Heap→Prop),Ext h hc→(∀ h',Ext hc h'→K (.bool (pr x)) h')→nW Tryz.prog ae ov [x.val] hc K fv) (K:Value→Heap→Prop)
 (hk:∀ h',Ext h h'→K (.int .i64 (j4 pr l)) h'):Ok Tryz.prog ae ov 199 [v,fv] h K:=by
 rw [ao h]
 have z:=Ext.refl h
 refine Ok.aH rfl zxG (br Lx) rfl (m:=17) rfl ?_
 simp only [syms,aa,seval,tE]
 repeat' ((with_reducible_and_instances refine HH hl ye ?_) <;> simp only [syms,aa,seval,tE])
 obtain ⟨I1,aS⟩:∃ I:Nat→Env→Heap→Prop,I=(fun n e h'=>∃ (i:Nat) (h1:Heap),h'=h1.lay [] h1.low∧Ext h h1∧(n=l.length - i∧i≤l.length∧∀ x∈l.take i,pr x=false)∧∃ J:Nat→Value,e=(v::fv::jr J 2 5 (.int .i64 l.length::.int .i64 i::jr J 9 10 ([])))):=⟨_,rfl⟩
 refine dj I1 _ (by rw [aS];exact ⟨0,_,rfl,z,⟨rfl,by omega,by simp⟩,aE (by kernel_rfl)⟩) ?_
 intro n e h' aL
 rw [aS] at aL
 obtain ⟨i,bH,rfl,z,hinv,J,rfl⟩:=aL
 obtain ⟨rfl,hi,aB⟩:=hinv
 have hw:=eb i (by omega)
 repeat' (first|simp only [syms,aa,seval,tE]|((with_reducible apply bt) <;> intro _))
 rotate_left
 ·rw [List.take_of_length_le (by omega)] at aB
  have:=JX aB
  rw [this] at hk
  exact hk _ (z.aw _ _ (by omega))
 obtain ⟨r,hr,bz⟩:=eU (l:=l) (i:=i) (by assumption)
 repeat' ((first|with_reducible_and_instances refine Sj (hl.mono z.inc) ye jC (by omega) hr (fun p hp=>?_)|with_reducible_and_instances refine I8 hp pY jC ?_) <;> simp only [syms,aa,seval,tE])
 refine Aq _ _ _ (z.aw _ _ (by omega)) (fun h' x=>?_)
 (replace z:=z.an x (by omega);rw [ao h'])
 cases hx:pr r
 rotate_left
 ·simp only [syms,aa,seval,tE]
  have:=JQ bz aB hx
  rw [this] at hk
  exact hk _ (z.aw _ _ (by omega))
 ·simp only [syms,aa,seval,tE]
  rw [hw]
  (rw [aS];with_reducible refine cB (m:=_) ?_ ⟨i+1,_,rfl,z,⟨rfl,by omega,oC (i:=i) (P:=fun x:aX=>pr x=false) bz aB hx⟩,aE (by kernel_rfl)⟩;omega)
theorem OY (l:List aX) (v fv:Value) (pr:aX→Bool) (h:Heap) (hl:Sl aJ.term h v l) (hs:l.length≤1000) (Aq:∀ (x:aX) (hc:Heap) (K:Value→Heap→Prop),Ext h hc→(∀ h',Ext hc h'→K (.bool (pr x)) h')→nW Tryz.prog ae ov [x.val] hc K fv) (K:Value→Heap→Prop)
 (hk:∀ h',Ext h h'→K (.bool (l.any pr)) h'):Ok Tryz.prog ae ov 163 [v,fv] h K:=by
 refine Ok.aH rfl zxn (br Lf) rfl (m:=7) rfl ?_
 simp only [syms,aa,seval,Fj]
 refine zot l v fv pr h hl hs Aq _ (fun h' x=>?_)
 simp only [syms,aa,seval,Fj,Xz]
 refine SI (fun hh=>?_) (fun hh=>?_)
 all_goals
  simp only [syms,aa,seval,Fj]
  rw [hh] at hk
  exact hk _ x
theorem zte (x:aX) (h:Heap) (K:Value→Heap→Prop) (hk:∀ h',Ext h h'→K (.bool x.v) h'):Ok Tryz.prog ae ov 165 [x.val] h K:=by
 rw [ao h]
 unfold aX.val aX.cells
 refine Ok.aH rfl zxp (br Lh) rfl (m:=4) rfl ?_
 simp only [syms,aa,seval,Mt]
 refine SI (fun hh=>?_) (fun hh=>?_)
 all_goals
  simp only [syms,aa,seval,Mt]
  rw [hh] at hk
  exact hk _ ((Ext.refl h).aw _ _ (by omega))
theorem adY (A o:Nat) (k:Int) (h0:0≤k) (h4:k≤4):ki ae 32 (.pointer (some ⟨A,o,none⟩)) none (some (.int .i64 k)) none=some (.slice (some ⟨A,o,none⟩) k.toNat 4):=by
 have hG:4 < G:=by decide
 simp only [ki,FB,rq,yf,if_pos hG,Option.bind_some]
 rw [if_pos ⟨h0,by omega⟩]
 simp [jC]
theorem R3 (a:ab) (h:Heap) (K:Value→Heap→Prop) (hk:∀ w h',Ext h h'→Sl aJ.term h' w a.args→K w h'):Ok Tryz.prog ae ov 164 [a.val] h K:=by
 rw [ao h]
 have z:=Ext.refl h
 unfold ab.val ab.cells
 refine Ok.aH rfl zxo (br Lg) rfl (m:=8) rfl ?_
 simp only [syms,aa,seval,zA]
 refine zvw rfl rfl ?_
 simp only [syms,aa,seval,zA]
 refine zvA rfl rfl ?_
 simp only [syms,aa,seval,zA]
 rw [adY _ _ _ (by split <;> split <;> omega) (by split <;> split <;> omega)]
 simp only [syms,aa,seval,zA]
 have hc:(if 4 < (if a.n < 0 then 0 else a.n) then 4 else (if a.n < 0 then 0 else a.n)).toNat=a.cL:=by
  unfold ab.cL
  split <;> split <;> omega
 rw [hc]
 exact hk _ _ (z.aw _ _ (by omega)) (zGI (a:=a) ⟨by rw [bm];simp,by rw [iR];rfl⟩ rfl)
theorem zvO (a:ab) (h:Heap) (K:Value→Heap→Prop) (hk:∀ h',Ext h h'→K (.bool a.ground) h'):Ok Tryz.prog ae ov 115 [a.val] h K:=by
 rw [ao h]
 have z:=Ext.refl h
 unfold ab.val ab.cells
 refine Ok.aH rfl zwV (br KM) rfl (m:=6) rfl ?_
 simp only [syms,aa,seval,zt]
 refine R3 a _ _ (fun w h' x ha=>?_)
 (replace z:=z.an x (by omega);rw [ao h'])
 simp only [syms,aa,seval,zt]
 have wI:a.args.length≤1000:=by rw [vB];unfold ab.cL;omega
 refine OY _ _ _ (fun t=>t.v) _ (ha.lay _ _) wI (fun t hc K' _ hK=>by rw [rj];exact zte t hc K' hK) _ (fun h' x=>?_)
 (replace z:=z.an x (by omega);(replace ha:=ha.over x);rw [ao h'])
 simp only [syms,aa,seval,zt]
 refine b8 rfl ?_
 simp only [syms,aa,seval,zt]
 exact hk _ (z.aw _ _ (by omega))
theorem R9 (a:Int):iH Tryz.prog (Next.value <$> convert 3 142 (.int .i64 a))=some (Next.value (.int .u64 (IntKind.u64.wrap a))):=by rfl
theorem Sa (a:Int):iH Tryz.prog (Next.value <$> convert 142 3 (.int .u64 a))=some (Next.value (.int .i64 (IntKind.i64.wrap a))):=by rfl
theorem RY {T:bK} {t:TypeId} {k kd:IntKind} {a b:Int} (hb:¬ b < 0):cw Tryz.prog T .shr t (.int k a) (.int kd b)=some (.int k (a.fdiv (2 ^ (min b.toNat k.bits)))):=by
 have h1:((T.desc t).bind fun d=>EO d (.int k a) (.int kd b))=none:=by
  cases T.desc t with
  |none=>rfl
  |some d=>cases d <;> rfl
 have h2:iH Tryz.prog (binOp .shr t (.int k a) (.int kd b))=some (.int k (a.fdiv (2 ^ (min b.toNat k.bits)))):=by
  simp [binOp,Op.shift,hb,za]
 unfold cw
 have hf:rp .shr (.int k a) (.int kd b)=none:=rfl
 rw [hf]
 simp [h1,h2]
 exact ⟨⟨rfl,rfl⟩,rfl⟩
theorem zg {d} {s t ty:TypeId} {x:Operand} {pos af g} {kk:IntKind} {a:Int} {v:Value} {e:Env} {h:Heap} {K:Value→Heap→Prop} (hs:pS ae s=false) (ht:pS ae t=false) (hx:bn e x=.int kk a) (hc:iH Tryz.prog (Next.value <$> convert s t (.int kk a))=some (Next.value v)) (hv:plain v=true):cu Tryz.prog ae ov ⟨d,.convert s t x,ty,pos,af,g⟩ e h K=K v h:=by
 rw [zpk d ty pos af g e h K s t x hs ht]
 have hp:gX Tryz.prog e ⟨d,.convert s t x,ty,pos,af,g⟩ h=some (v,h):=by
  unfold gX
  simp [Op.operands,hx,execOp]
  refine ⟨rfl,?_⟩
  rw [hc]
  simp [hv]
 rw [hp]
 rfl
theorem zyL (a:aX):cut a.cells 0 2=some a.cells:=rfl
theorem zyA (a:aX):Value.agg a.cells.toArray=a.val:=rfl
end Go.Proofs.YtkgojconmeeegaaGreatDoor
