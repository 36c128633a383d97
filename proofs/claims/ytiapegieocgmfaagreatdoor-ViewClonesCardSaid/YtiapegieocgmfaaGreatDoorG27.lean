/- The code of some functions, node by node, for simp. Written by a program (mkcode.py). No condition. -/
import Derived.Test.YtiapegieocgmfaaGreatDoorG22
import Derived.Test.YtiapegieocgmfaaGreatDoorG21
set_option linter.unusedSimpArgs false
set_option linter.unusedVariables false
set_option maxRecDepth 100000
set_option maxHeartbeats 0
noncomputable section
namespace Go.Proofs.YtiapegieocgmfaaGreatDoor
open Go.Am Tryz
def N98:=bA f98
def x98:=PLift.up (by have c:=bB N98 f98;simp only [aN,f98,seval] at c;exact nd c <| nd @cq <| @WD)
theorem RM:type_of% x98.down:=x98.down
def KA:=bA f143
def O1:=PLift.up (by have c:=bB KA f143;simp only [aN,f143,seval] at c;exact nd c <| @zDU)
theorem E7:type_of% O1.down:=O1.down
def KR:=bA f173
def Pp:=PLift.up (by have c:=bB KR f173;simp only [aN,f173,seval] at c;exact nd c <| nd @Um <| nd @rp <| nd @Ug <| @zEf)
theorem uT:type_of% Pp.down:=Pp.down
def KB:=bA f144
def O2:=PLift.up (by have c:=bB KB f144;simp only [aN,f144,seval] at c;exact nd c <| nd @JO <| nd @GV <| @zDV)
theorem Lw:type_of% O2.down:=O2.down
def Kt:=bA f134
def OS:=PLift.up (by have c:=bB Kt f134;simp only [aN,f134,seval] at c;exact nd c <| nd @En <| nd @CA <| nd @mZ <| @zDM)
theorem Ba:type_of% OS.down:=OS.down
theorem zo8 (l:List aZ) (v fv:ab) (pr:aZ->Bool) (h:Heap) (hl:Sl aM.term h v l) (hs:l.length<=1000) (BK:∀ (x:aZ) (hc:Heap) (K:aF),Ext h hc->(∀ h',Ext hc h'->K (.bool (pr x)) h')->oU prog aD ov [x.val] hc K fv) (K:aF)
 (hk:∀ h',Ext h h'->K (.int .i64 (kE pr l)) h'):Ok prog aD ov 173 [v,fv] h K:=by
 rw [ao h]
 have z:=Ext.refl h
 refine Ok.aw 17 (bq KR) ?_
 simp only [aa,seval,uT]
 repeat' ((with_reducible refine HE hl zF ?_) <;> simp only [aa,seval,uT])
 obtain ⟨I1,aU⟩:∃ I:Nat->Env->Heap->Prop,I=(λn e h'=>∃ (i:Nat) (h1:Heap),h'=h1.lay [] h1.low/\Ext h h1/\(n=l.length - i/\i<=l.length/\∀ x∈l.take i,pr x=false)/\∃ J:Nat->ab,e=(v::fv::jr J 2 5 (.int .i64 l.length::.int .i64 i::jr J 9 10 ([])))):=⟨_,rfl⟩
 refine dA I1 _ (by rw [aU];exact ⟨0,_,rfl,z,⟨rfl,by omega,by simp⟩,bl⟩) ?_
 intro n e h' aO
 rw [aU] at aO
 obtain ⟨i,bC,rfl,z,hinv,J,rfl⟩:=aO
 obtain ⟨rfl,hi,aH⟩:=hinv
 have hw:=ei i (by omega)
 repeat' (first|simp only [aa,seval,uT]|((with_reducible apply bn) <;> intro _))
 rotate_left
 .rw [gE (by omega)] at aH
  have:=Jp aH
  rw [this] at hk
  exact hk _ z.aA
 obtain ⟨r,hr,cw⟩:=eW (l:=l) (i:=i) (by assumption)
 repeat' ((first|with_reducible refine Q6 (hl.mono z.inc) zF kL (by omega) hr (λp hp=>?_)|with_reducible refine IV hp sJ kL ?_) <;> simp only [aa,seval,uT])
 refine BK _ _ _ z.aA (λh' x=>?_)
 (replace z:=z.an x;rw [ao h'])
 cases hx:pr r
 rotate_left
 .simp only [aa,seval,uT]
  have:=Jj cw aH hx
  rw [this] at hk
  exact hk _ z.aA
 .simp only [aa,seval,uT]
  rw [hw]
  (rw [aU];with_reducible refine cy (m:=_) ?_ ⟨i+1,_,rfl,z,⟨rfl,by omega,qH (i:=i) (P:=λx:aZ=>pr x=false) cw aH hx⟩,bl⟩;omega)
theorem zfo (l:List aZ) (v fv:ab) (pr:aZ->Bool) (h:Heap) (hl:Sl aM.term h v l) (hs:l.length<=1000) (BK:∀ (x:aZ) (hc:Heap) (K:aF),Ext h hc->(∀ h',Ext hc h'->K (.bool (pr x)) h')->oU prog aD ov [x.val] hc K fv) (K:aF)
 (hk:∀ h',Ext h h'->K (.bool (l.any pr)) h'):Ok prog aD ov 143 [v,fv] h K:=by
 refine Ok.aw 7 (bq KA) ?_
 simp only [aa,seval,E7]
 refine zo8 l v fv pr h hl hs BK _ (λh' x=>?_)
 simp only [aa,seval,E7,TR]
 refine Ru (λhh=>?_) (λhh=>?_)
 all_goals
  simp only [aa,seval,E7]
  rw [hh] at hk
  exact hk _ x
theorem zue (x:aZ) (h:Heap) (K:aF) (hk:∀ h',Ext h h'->K (.bool x.v) h'):Ok prog aD ov 144 [x.val] h K:=by
 rw [ao h]
 unfold aZ.val aZ.cells
 refine Ok.aw 4 (bq KB) ?_
 simp only [aa,seval,Lw]
 refine Ru (λhh=>?_) (λhh=>?_)
 all_goals
  simp only [aa,seval,Lw]
  rw [hh] at hk
  exact hk _ ((Ext.refl h).kN _ _ (by omega))
theorem Zz (A o:Nat) (k:Int) (h0:0<=k) (h4:k<=4):kV aD 45 (.pointer (some ⟨A,o,none⟩)) none (some (.int .i64 k)) none=some (.slice (some ⟨A,o,none⟩) k.toNat 4):=by
 have hG:4 < G:=by decide
 simp only [kV,Fp,rF,xm,aE hG,dM]
 rw [aE ⟨h0,by omega⟩]
 simp [kL]
theorem QN (a:ak) (h:Heap) (K:aF) (hk:∀ w h',Ext h h'->Sl aM.term h' w a.args->K w h'):Ok prog aD ov 134 [a.val] h K:=by
 rw [ao h]
 have z:=Ext.refl h
 unfold ak.val ak.cells
 refine Ok.aw 8 (bq Kt) ?_
 simp only [aa,seval,Ba]
 refine zwt rfl rfl ?_
 simp only [aa,seval,Ba]
 refine zww rfl rfl ?_
 simp only [aa,seval,Ba]
 rw [Zz _ _ _ (by split <;> split <;> omega) (by split <;> split <;> omega)]
 simp only [aa,seval,Ba]
 have hc:(if 4 < (if a.n < 0 then 0 else a.n) then 4 else (if a.n < 0 then 0 else a.n)).toNat=a.cO:=by
  unfold ak.cO
  split <;> split <;> omega
 rw [hc]
 exact hk _ _ z.aA (zBz (a:=a) ⟨by rw [bc];simp,by rw [iB];rfl⟩ rfl)
theorem zwL (a:ak) (h:Heap) (K:aF) (hk:∀ h',Ext h h'->K (.bool a.ground) h'):Ok prog aD ov 98 [a.val] h K:=by
 rw [ao h]
 have z:=Ext.refl h
 unfold ak.val ak.cells
 refine Ok.aw 6 (bq N98) ?_
 simp only [aa,seval,RM]
 refine QN a _ _ (λw h' x ha=>?_)
 (replace z:=z.an x;rw [ao h'])
 simp only [aa,seval,RM]
 have Ab:a.args.length<=1000:=by rw [w9];unfold ak.cO;omega
 refine zfo _ _ _ (λt=>t.v) _ (ha.lay _ _) Ab (λt hc K' _ hK=>by rw [r9];exact zue t hc K' hK) _ (λh' x=>?_)
 (replace z:=z.an x;replace ha:=ha.over x;rw [ao h'])
 simp only [aa,seval,RM]
 refine bX rfl ?_
 simp only [aa,seval,RM]
 exact hk _ z.aA
end Go.Proofs.YtiapegieocgmfaaGreatDoor

namespace Go.Proofs.YtiapegieocgmfaaGreatDoor
open Go.Am Tryz
theorem QG (a:Int):jh prog (Next.value <$> convert 3 131 (.int .i64 a))=some (Next.value (.int .u64 (IntKind.u64.wrap a))):=by rfl
theorem QH (a:Int):jh prog (Next.value <$> convert 131 3 (.int .u64 a))=some (Next.value (.int .i64 (IntKind.i64.wrap a))):=by rfl
theorem QA {T:bI} {t:TypeId} {k kd:IntKind} {a b:Int} (hb:¬ b < 0):cz prog T .shr t (.int k a) (.int kd b)=some (.int k (a.fdiv (2 ^ (min b.toNat k.bits)))):=by
 have h1:((T.desc t).bind λd=>EB d (.int k a) (.int kd b))=none:=by
  cases T.desc t with
  |none=>rfl
  |some d=>cases d <;> rfl
 have h2:jh prog (binOp .shr t (.int k a) (.int kd b))=some (.int k (a.fdiv (2 ^ (min b.toNat k.bits)))):=by
  simp [binOp,Op.shift,hb,AE]
 unfold cz
 have hf:sk .shr (.int k a) (.int kd b)=none:=rfl
 rw [hf]
 simp [h1,h2]
 exact ⟨⟨rfl,rfl⟩,rfl⟩
theorem AH {d} {s t ty:TypeId} {x:Operand} {pos af g} {kk:IntKind} {a:Int} {v:ab} {e:Env} {h:Heap} {K:aF} (hs:uE aD s=false) (ht:uE aD t=false) (hx:bt e x=.int kk a) (hc:jh prog (Next.value <$> convert s t (.int kk a))=some (Next.value v)) (hv:plain v=true):cS prog aD ov ⟨d,.convert s t x,ty,pos,af,g⟩ e h K=K v h:=by
 rw [zpU d ty pos af g e h K s t x hs ht]
 have hp:i7 prog e ⟨d,.convert s t x,ty,pos,af,g⟩ h=some (v,h):=by
  unfold i7
  simp [Op.operands,hx,execOp]
  refine ⟨rfl,?_⟩
  rw [hc]
  simp [hv]
 rw [hp]
 rfl
end Go.Proofs.YtiapegieocgmfaaGreatDoor
namespace Go.Proofs.YtiapegieocgmfaaGreatDoor
open Go.Am
theorem zyi (a:aZ):cut a.cells 0 2=some a.cells:=rfl
theorem zx8 (a:aZ):Value.agg a.cells.toArray=a.val:=rfl
end Go.Proofs.YtiapegieocgmfaaGreatDoor
namespace Go.Proofs.YtiapegieocgmfaaGreatDoor
open Go.Am Tryz
def KE:=bA f154
def O6:=PLift.up (by have c:=bB KE f154;simp only [aN,f154,seval] at c;exact nd c <| @zDY)
theorem Lx:type_of% O6.down:=O6.down
def K6:=bA f196
def PE:=PLift.up (by have c:=bB K6 f196;simp only [aN,f196,seval] at c;exact nd c <| @zEt)
theorem LH:type_of% PE.down:=PE.down
def KS:=bA f176
def Pq:=PLift.up (by have c:=bB KS f176;simp only [aN,f176,seval] at c;exact nd c <| @zEg)
theorem LC:type_of% Pq.down:=Pq.down
def KF:=bA f155
def O7:=PLift.up (by have c:=bB KF f155;simp only [aN,f155,seval] at c;exact nd c <| @zDZ)
theorem sN:type_of% O7.down:=O7.down
def KD:=bA f153
def O5:=PLift.up (by have c:=bB KD f153;simp only [aN,f153,seval] at c;exact nd c <| nd @Ca <| @zDX)
theorem k5:type_of% O5.down:=O5.down
def KT:=bA f177
def Pr:=PLift.up (by have c:=bB KT f177;simp only [aN,f177,seval] at c;exact nd c <| @zEh)
theorem LD:type_of% Pr.down:=Pr.down
def KG:=bA f156
def O8:=PLift.up (by have c:=bB KG f156;simp only [aN,f156,seval] at c;exact nd c <| @zD0)
theorem Bc:type_of% O8.down:=O8.down
def Kb:=bA f117
def Oy:=PLift.up (by have c:=bB Kb f117;simp only [aN,f117,seval] at c;exact nd c <| @zDv)
theorem xI:type_of% Oy.down:=Oy.down
def Kc:=bA f118
def Oz:=PLift.up (by have c:=bB Kc f118;simp only [aN,f118,seval] at c;exact nd c <| @zDw)
theorem E6:type_of% Oz.down:=Oz.down
def K0:=bA f188
def Py:=PLift.up (by have c:=bB K0 f188;simp only [aN,f188,seval] at c;exact nd c <| @zEo)
theorem xK:type_of% Py.down:=Py.down
def K8:=bA f198
def PG:=PLift.up (by have c:=bB K8 f198;simp only [aN,f198,seval] at c;exact nd c <| @zEv)
theorem xM:type_of% PG.down:=PG.down
def KZ:=bA f187
def Px:=PLift.up (by have c:=bB KZ f187;simp only [aN,f187,seval] at c;exact nd c <| @zEn)
theorem Fc:type_of% Px.down:=Px.down
def K7:=bA f197
def PF:=PLift.up (by have c:=bB K7 f197;simp only [aN,f197,seval] at c;exact nd c <| @zEu)
theorem xL:type_of% PF.down:=PF.down
def Uw:=bA f65
def x65:=PLift.up (by have c:=bB Uw f65;simp only [aN,f65,seval] at c;exact nd c <| @V9)
theorem Ip:type_of% x65.down:=x65.down
def EK:=bA f105
def Ou:=PLift.up (by have c:=bB EK f105;simp only [aN,f105,seval] at c;exact nd c <| nd @kF <| nd @gA <| nd @kG <| @zDu)
theorem pJ:type_of% Ou.down:=Ou.down
def EO:=bA f172
def Po:=PLift.up (by have c:=bB EO f172;simp only [aN,f172,seval] at c;exact nd c <| nd @JO <| nd @HK <| nd @GV <| nd @gA <| @zEe)
theorem Bf:type_of% Po.down:=Po.down
def Kz:=bA f142
def O0:=PLift.up (by have c:=bB Kz f142;simp only [aN,f142,seval] at c;exact nd c <| nd @EW <| nd @zB <| nd @HL <| nd @En <| nd @CA <| nd @Um <| nd @mZ <| nd @rp <| nd @cq <| nd @gA <| nd @Ug <| @zDT)
theorem np:type_of% O0.down:=O0.down
def KQ:=bA f171
def Pn:=PLift.up (by have c:=bB KQ f171;simp only [aN,f171,seval] at c;exact nd c <| nd @rp <| @zEd)
theorem Fa:type_of% Pn.down:=Pn.down
def KJ:=bA f159
def Pb:=PLift.up (by have c:=bB KJ f159;simp only [aN,f159,seval] at c;exact nd c <| nd @cq <| @zD3)
theorem Lz:type_of% Pb.down:=Pb.down
def Ux:=bA f87
def x87:=PLift.up (by have c:=bB Ux f87;simp only [aN,f87,seval] at c;exact nd c <| nd @EW <| nd @sL <| nd @JO <| nd @HK <| nd @Um <| nd @GV <| nd @rp <| nd @cq <| nd @gA <| nd @Ug <| @Ws)
theorem qy:type_of% x87.down:=x87.down
end Go.Proofs.YtiapegieocgmfaaGreatDoor
