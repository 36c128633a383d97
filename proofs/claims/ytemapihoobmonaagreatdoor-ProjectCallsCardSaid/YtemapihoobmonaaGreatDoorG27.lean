/- The code of some functions, node by node, for simp. Written by a program (mkcode.py). No condition. -/
import Derived.Test.YtemapihoobmonaaGreatDoorG21
import Derived.Test.YtemapihoobmonaaGreatDoorG25
import Derived.KernelRfl
import Derived.Test.YtemapihoobmonaaGreatDoorG26
import Derived.Test.YtemapihoobmonaaGreatDoorG13
import Derived.Test.YtemapihoobmonaaGreatDoorG18
namespace Go.Proofs.YtemapihoobmonaaGreatDoor
open Go.Am
set_option linter.unusedVariables false
set_option linter.unusedSimpArgs false
set_option maxRecDepth 100000
set_option maxHeartbeats 0
noncomputable def N161:=zaA Tryz.f161
noncomputable def x161:=PLift.up (by have c:=zai N161 Tryz.f161; simp only [zao,Tryz.f161,Option.getD_some,zam,opsF,opsX,zaf,zax,dstL,zal,List.append_eq,List.cons_append,List.nil_append,seval] at c; exact nd c <| @zBT)
theorem c161:type_of% x161.down:=x161.down
noncomputable def N189:=zaA Tryz.f189
noncomputable def x189:=PLift.up (by have c:=zai N189 Tryz.f189; simp only [zao,Tryz.f189,Option.getD_some,zam,opsF,opsX,zaf,zax,dstL,zal,List.append_eq,List.cons_append,List.nil_append,seval] at c; exact nd c <| nd @zBr <| nd @ld23 <| nd @zBi <| @zCQ)
theorem c189:type_of% x189.down:=x189.down
noncomputable def N162:=zaA Tryz.f162
noncomputable def x162:=PLift.up (by have c:=zai N162 Tryz.f162; simp only [zao,Tryz.f162,Option.getD_some,zam,opsF,opsX,zaf,zax,dstL,zal,List.append_eq,List.cons_append,List.nil_append,seval] at c; exact nd c <| nd @zkR <| nd @zhJ <| nd @ld3 <| @zCD)
theorem c162:type_of% x162.down:=x162.down
end Go.Proofs.YtemapihoobmonaaGreatDoor
namespace Go.Proofs.YtemapihoobmonaaGreatDoor
open Go.Am
set_option linter.unusedSimpArgs false
set_option linter.unusedVariables false
set_option maxRecDepth 100000
set_option maxHeartbeats 0
theorem zm2 (l:List TermD) (v fv:Value) (pr:TermD→Bool) (h:Heap) (hl:Sl Rep.term h v l) (hs:l.length≤1000) (hpf:∀ (x:TermD) (hc:Heap) (K:Value→Heap→Prop),Ext h hc→(∀ h',Ext hc h'→K (.bool (pr x)) h')→zil Tryz.prog tab ov [x.val] hc K fv) (K:Value→Heap→Prop)
    (hk:∀ h',Ext h h'→K (.int .i64 (idxP pr l)) h'):Ok Tryz.prog tab ov 189 [v,fv] h K:=by
  rw [zaa h]
  have z:=Ext.refl h
  refine Ok.into rfl zwg (zaD N189) rfl (m:=17) rfl ?_
  simp -implicitDefEqProofs only [syms,symx,seval,c189]
  repeat' (( with_reducible_and_instances refine zhy hl zvr ?_) <;> simp -implicitDefEqProofs only [syms,symx,seval,c189])
  obtain ⟨I1,hI1⟩:∃ I:Nat→Env→Heap→Prop,I=(fun n e h'=>∃ (i:Nat) (h1:Heap),h'=h1.lay [] h1.low∧Ext h h1∧(n=l.length - i∧i≤l.length∧∀ x∈l.take i,pr x=false)∧∃ J:Nat→Value,e=(v::fv::jr J 2 5 (.int .i64 l.length::.int .i64 i::jr J 9 10 ([])))):=⟨_,rfl⟩
  refine zaC I1 _ (by rw [hI1]; exact ⟨0,_,rfl,z,⟨rfl,by omega,by simp⟩,junk (by kernel_rfl)⟩) ?_
  intro n e h' hin
  rw [hI1] at hin
  obtain ⟨i,h1',rfl,z,hinv,J,rfl⟩:=hin
  obtain ⟨rfl,hi,hall⟩:=hinv
  have hw:IntKind.i64.wrap ((i:Int)+1)=((i+1:Nat):Int):=by rw [zad (by omega) (by omega)]; omega
  repeat' (first | simp -implicitDefEqProofs only [syms,symx,seval,c189] | ((with_reducible  apply zar ) <;> intro _))
  rotate_left
  · rw [List.take_of_length_le (by omega)] at hall
    have:=zeA hall
    rw [this] at hk
    exact hk _ (z.upW _ _ (by omega))
  obtain ⟨r,hr,hr'⟩:=zaY (l:=l) (i:=i) (by assumption)
  repeat' ((first | with_reducible_and_instances refine zyC (hl.mono z.inc) zvr sz23 (by omega) hr (fun p hp=>?_) | with_reducible_and_instances refine ldt hp ag23 sz23 ?_) <;> simp -implicitDefEqProofs only [syms,symx,seval,c189])
  refine hpf _ _ _ (z.upW _ _ (by omega)) (fun h' x=>?_)
  ((skip); replace z:=z.overW x (by (try simp only [lsz]); omega); rw [zaa h'])
  cases hx:pr r
  rotate_left
  · simp -implicitDefEqProofs only [syms,symx,seval,c189]
    have:=zd6 hr' hall hx
    rw [this] at hk
    exact hk _ (z.upW _ _ (by omega))
  · simp -implicitDefEqProofs only [syms,symx,seval,c189]
    rw [hw]
    (rw [hI1]; with_reducible refine zac (m:=_) ?_ ⟨i+1,_,rfl,z,⟨rfl,by omega,zci (i:=i) (P:=fun x:TermD=>pr x=false) hr' hall hx⟩,junk (by kernel_rfl)⟩; omega)
theorem zkc (l:List TermD) (v fv:Value) (pr:TermD→Bool) (h:Heap) (hl:Sl Rep.term h v l) (hs:l.length≤1000) (hpf:∀ (x:TermD) (hc:Heap) (K:Value→Heap→Prop),Ext h hc→(∀ h',Ext hc h'→K (.bool (pr x)) h')→zil Tryz.prog tab ov [x.val] hc K fv) (K:Value→Heap→Prop)
    (hk:∀ h',Ext h h'→K (.bool (l.any pr)) h'):Ok Tryz.prog tab ov 161 [v,fv] h K:=by
  refine Ok.into rfl zuM (zaD N161) rfl (m:=7) rfl ?_
  simp -implicitDefEqProofs only [syms,symx,seval,c161]
  refine zm2 l v fv pr h hl hs hpf _ (fun h' x=>?_)
  simp -implicitDefEqProofs only [syms,symx,seval,c161,zpZ]
  refine zAm (fun hh=>?_) (fun hh=>?_)
  all_goals
    simp -implicitDefEqProofs only [syms,symx,seval,c161]
    rw [hh] at hk
    exact hk _ x
theorem sl24 (A o:Nat) (k:Int) (h0:0≤k) (h4:k≤4):zba tab 24 (.pointer (some ⟨A,o,none⟩)) none (some (.int .i64 k)) none=some (.slice (some ⟨A,o,none⟩) k.toNat 4):=by
  have hG:4 < G:=by decide
  simp only [zba,ds24,zbM,zfG,if_pos hG,Option.bind_some]
  rw [if_pos ⟨h0,by omega⟩]
  simp [sz23]
theorem zAc (a:AtomD) (h:Heap) (K:Value→Heap→Prop) (hk:∀ w h',Ext h h'→Sl Rep.term h' w a.args→K w h'):Ok Tryz.prog tab ov 162 [a.val] h K:=by
  rw [zaa h]
  have z:=Ext.refl h
  unfold AtomD.val AtomD.cells
  refine Ok.into rfl zvp (zaD N162) rfl (m:=8) rfl ?_
  simp -implicitDefEqProofs only [syms,symx,seval,c162]
  refine zzT rfl rfl ?_
  simp -implicitDefEqProofs only [syms,symx,seval,c162]
  refine zp0 rfl rfl ?_
  simp -implicitDefEqProofs only [syms,symx,seval,c162]
  rw [sl24 _ _ _ (by split <;> split <;> omega) (by split <;> split <;> omega)]
  simp -implicitDefEqProofs only [syms,symx,seval,c162]
  have hc:(if 4 < (if a.n < 0 then 0 else a.n) then 4 else (if a.n < 0 then 0 else a.n)).toNat=a.cnt:=by
    unfold AtomD.cnt
    split <;> split <;> omega
  rw [hc]
  exact hk _ _ (z.upW _ _ (by omega)) (zz7 (a:=a) ⟨by rw [zag]; simp,by rw [zbc]; rfl⟩ rfl)
end Go.Proofs.YtemapihoobmonaaGreatDoor
namespace Go.Proofs.YtemapihoobmonaaGreatDoor
open Go.Am
set_option linter.unusedSimpArgs false
set_option linter.unusedVariables false
set_option maxRecDepth 100000
theorem zmm (a:Int):zaF Tryz.prog (Next.value <$> convert 3 200 (.int .i64 a))=some (Next.value (.int .u64 (IntKind.u64.wrap a))):=by rfl
theorem zlq (a:Int):zaF Tryz.prog (Next.value <$> convert 200 3 (.int .u64 a))=some (Next.value (.int .i64 (IntKind.i64.wrap a))):=by rfl
theorem zlp {T:Tab} {t:TypeId} {k kd:IntKind} {a b:Int} (hb:¬ b < 0):binA Tryz.prog T .shr t (.int k a) (.int kd b)=some (.int k (a.fdiv (2 ^ (min b.toNat k.bits)))):=by
  have h1:((T.desc t).bind fun d=>zlD d (.int k a) (.int kd b))=none:=by
    cases T.desc t with
    | none=>rfl
    | some d=>cases d <;> rfl
  have h2:zaF Tryz.prog (binOp .shr t (.int k a) (.int kd b))=some (.int k (a.fdiv (2 ^ (min b.toNat k.bits)))):=by
    simp [binOp,Op.shift,hb,zco]
  unfold binA
  have hf:zb5 .shr (.int k a) (.int kd b)=none:=rfl
  rw [hf]
  simp [h1,h2]
  exact ⟨⟨rfl,rfl⟩,rfl⟩
theorem zbb {d} {s t ty:TypeId} {x:Operand} {pos af g} {kk:IntKind} {a:Int} {v:Value} {e:Env} {h:Heap} {K:Value→Heap→Prop} (hs:zbB tab s=false) (ht:zbB tab t=false) (hx:zab e x=.int kk a) (hc:zaF Tryz.prog (Next.value <$> convert s t (.int kk a))=some (Next.value v)) (hv:plain v=true):WOp Tryz.prog tab ov ⟨d,.convert s t x,ty,pos,af,g⟩ e h K=K v h:=by
  rw [zmO d ty pos af g e h K s t x hs ht]
  have hp:zaW Tryz.prog e ⟨d,.convert s t x,ty,pos,af,g⟩ h=some (v,h):=by
    unfold zaW
    simp [Op.operands,hx,execOp]
    refine ⟨rfl,?_⟩
    rw [hc]
    simp [hv]
  rw [hp]
  rfl
end Go.Proofs.YtemapihoobmonaaGreatDoor
namespace Go.Proofs.YtemapihoobmonaaGreatDoor
open Go.Am
set_option linter.unusedVariables false
set_option linter.unusedSimpArgs false
set_option maxRecDepth 100000
set_option maxHeartbeats 0
noncomputable def N223:=zaA Tryz.f223
noncomputable def x223:=PLift.up (by have c:=zai N223 Tryz.f223; simp only [zao,Tryz.f223,Option.getD_some,zam,opsF,opsX,zaf,zax,dstL,zal,List.append_eq,List.cons_append,List.nil_append,seval] at c; exact nd c <| nd @ln9 <| @zCJ)
theorem c223:type_of% x223.down:=x223.down
noncomputable def N200:=zaA Tryz.f200
noncomputable def x200:=PLift.up (by have c:=zai N200 Tryz.f200; simp only [zao,Tryz.f200,Option.getD_some,zam,opsF,opsX,zaf,zax,dstL,zal,List.append_eq,List.cons_append,List.nil_append,seval] at c; exact nd c <| nd @zqv <| nd @zlo <| nd @zj4 <| nd @ld3 <| nd @ld4 <| nd @ld9 <| @zCS)
theorem c200:type_of% x200.down:=x200.down
noncomputable def N199:=zaA Tryz.f199
noncomputable def x199:=PLift.up (by have c:=zai N199 Tryz.f199; simp only [zao,Tryz.f199,Option.getD_some,zam,opsF,opsX,zaf,zax,dstL,zal,List.append_eq,List.cons_append,List.nil_append,seval] at c; exact nd c <| nd @zqv <| nd @zlo <| nd @zj4 <| nd @ld3 <| nd @ld4 <| nd @ld9 <| nd @ln9 <| @zBJ)
theorem c199:type_of% x199.down:=x199.down
noncomputable def N201:=zaA Tryz.f201
noncomputable def x201:=PLift.up (by have c:=zai N201 Tryz.f201; simp only [zao,Tryz.f201,Option.getD_some,zam,opsF,opsX,zaf,zax,dstL,zal,List.append_eq,List.cons_append,List.nil_append,seval] at c; exact nd c <| nd @zqv <| nd @zlo <| nd @zj4 <| nd @ld3 <| nd @ld4 <| nd @ld9 <| nd @ln9 <| @zBX)
theorem c201:type_of% x201.down:=x201.down
noncomputable def N177:=zaA Tryz.f177
noncomputable def x177:=PLift.up (by have c:=zai N177 Tryz.f177; simp only [zao,Tryz.f177,Option.getD_some,zam,opsF,opsX,zaf,zax,dstL,zal,List.append_eq,List.cons_append,List.nil_append,seval] at c; exact nd c <| nd @al26 <| nd @zj4 <| nd @zuD <| nd @zqB <| nd @zou <| nd @zqJ <| nd @zqY <| nd @zkR <| nd @zhJ <| nd @ix24 <| nd @ld26 <| nd @ld4 <| @zCe)
theorem c177:type_of% x177.down:=x177.down
noncomputable def N139:=zaA Tryz.f139
noncomputable def x139:=PLift.up (by have c:=zai N139 Tryz.f139; simp only [zao,Tryz.f139,Option.getD_some,zam,opsF,opsX,zaf,zax,dstL,zal,List.append_eq,List.cons_append,List.nil_append,seval] at c; exact nd c <| nd @al26 <| nd @zlo <| nd @zj4 <| nd @zuD <| nd @ld26 <| nd @ld3 <| @ld4)
theorem c139:type_of% x139.down:=x139.down
noncomputable def N138:=zaA Tryz.f138
noncomputable def x138:=PLift.up (by have c:=zai N138 Tryz.f138; simp only [zao,Tryz.f138,Option.getD_some,zam,opsF,opsX,zaf,zax,dstL,zal,List.append_eq,List.cons_append,List.nil_append,seval] at c; exact nd c <| nd @zo2 <| nd @zme <| nd @ld44 <| nd @ld9 <| nd @ln9 <| @zBW)
theorem c138:type_of% x138.down:=x138.down
noncomputable def N104:=zaA Tryz.f104
noncomputable def x104:=PLift.up (by have c:=zai N104 Tryz.f104; simp only [zao,Tryz.f104,Option.getD_some,zam,opsF,opsX,zaf,zax,dstL,zal,List.append_eq,List.cons_append,List.nil_append,seval] at c; exact nd c <| @zBZ)
theorem c104:type_of% x104.down:=x104.down
noncomputable def N105:=zaA Tryz.f105
noncomputable def x105:=PLift.up (by have c:=zai N105 Tryz.f105; simp only [zao,Tryz.f105,Option.getD_some,zam,opsF,opsX,zaf,zax,dstL,zal,List.append_eq,List.cons_append,List.nil_append,seval] at c; exact nd c <| nd @al26 <| nd @zo2 <| nd @zme <| nd @ld26 <| nd @ld44 <| nd @ld9 <| @zCF)
theorem c105:type_of% x105.down:=x105.down
noncomputable def N106:=zaA Tryz.f106
noncomputable def x106:=PLift.up (by have c:=zai N106 Tryz.f106; simp only [zao,Tryz.f106,Option.getD_some,zam,opsF,opsX,zaf,zax,dstL,zal,List.append_eq,List.cons_append,List.nil_append,seval] at c; exact nd c <| nd @zo2 <| nd @zme <| nd @ld44 <| nd @ld9 <| nd @zCV <| @zB3)
theorem c106:type_of% x106.down:=x106.down
noncomputable def N107:=zaA Tryz.f107
noncomputable def x107:=PLift.up (by have c:=zai N107 Tryz.f107; simp only [zao,Tryz.f107,Option.getD_some,zam,opsF,opsX,zaf,zax,dstL,zal,List.append_eq,List.cons_append,List.nil_append,seval] at c; exact nd c <| nd @zlg <| nd @zvR <| nd @ld26 <| nd @ld3 <| @zCf)
theorem c107:type_of% x107.down:=x107.down
noncomputable def N70:=zaA Tryz.f70
noncomputable def x70:=PLift.up (by have c:=zai N70 Tryz.f70; simp only [zao,Tryz.f70,Option.getD_some,zam,opsF,opsX,zaf,zax,dstL,zal,List.append_eq,List.cons_append,List.nil_append,seval] at c; exact nd c <| nd @al57 <| nd @zme <| nd @ld44 <| nd @ld57 <| nd @ln9 <| @fi70)
theorem c70:type_of% x70.down:=x70.down
end Go.Proofs.YtemapihoobmonaaGreatDoor
namespace Go.Proofs.YtemapihoobmonaaGreatDoor
open Go.Am
set_option linter.unusedSimpArgs false
set_option linter.unusedVariables false
set_option maxRecDepth 100000
set_option maxHeartbeats 0
theorem zmG (a:Int):zaF Tryz.prog (Next.value <$> convert 5 201 (.int .u8 a))=some (Next.value (.int .u64 (IntKind.u64.wrap a))):=by rfl
theorem zfx (a:Int):zaF Tryz.prog (Next.value <$> convert 201 151 (.int .u64 a))=some (Next.value (.int .u32 (IntKind.u32.wrap a))):=by rfl
theorem zdL (s:ByteArray) (i:Nat):zbr s ((i:Int).toNat)=(zaP s i:Int):=by rw [Int.toNat_natCast]; rfl
theorem zqj (s:ByteArray) (h:Heap) (hs:s.size≤100000) (K:Value→Heap→Prop) (h1k:numD s=none→∀ h',Ext h h'→K (.tuple #[.int .u32 0,.int .i64 0,.int .i64 15]) h') (h2k:∀ n k:Nat,numD s=some (n,k)→∀ h',Ext h h'→K (.tuple #[.int .u32 n,.int .i64 k,.int .i64 0]) h'):Ok Tryz.prog tab ov 223 [.string s] h K:=by
  rw [zaa h]
  have z:=Ext.refl h
  have hva:∀ (h:Heap) (K:Value→Heap→Prop),valE (some (.string s)) h K=K (.string s) h:=fun _ _=>rfl
  refine Ok.into rfl ztn (zaD N223) rfl (m:=44) rfl ?_
  simp -implicitDefEqProofs only [syms,symx,seval,c223,hva]
  refine zp0 rfl rfl ?_
  have hmn:(if (5:Int) < (s.size:Int) then (5:Int) else (s.size:Int))=((min s.size 5:Nat):Int):=by split <;> omega
  rw [hmn]
  simp -implicitDefEqProofs only [syms,symx,seval,c223,hva]
  obtain ⟨I1,hI1⟩:∃ I:Nat→Env→Heap→Prop,I=(fun n e h'=>∃ (i:Nat) (h1:Heap),h'=h1.lay [] h1.low∧Ext h h1∧(n=min s.size 5 - i∧i≤min s.size 5∧(∀ j,j < i→128≤zaP s j))∧∃ J:Nat→Value,e=(.string s::jr J 1 4 (.int .u64 (accN s i)::jr J 6 3 (.int .i64 (min s.size 5:Nat)::.int .i64 i::jr J 11 34 ([]))))):=⟨_,rfl⟩
  refine zaC I1 _ (by rw [hI1]; exact ⟨0,_,rfl,z,⟨rfl,by omega,by simp⟩,junk (by kernel_rfl)⟩) ?_
  intro n e h' hin
  rw [hI1] at hin
  obtain ⟨i,h1',rfl,z,hinv,J,rfl⟩:=hin
  obtain ⟨rfl,hi,hb⟩:=hinv
  have hwi:IntKind.i64.wrap ((i:Int)+1)=((i+1:Nat):Int):=by rw [zad (by omega) (by omega)]; omega
  have hw7:IntKind.i64.wrap (7*(i:Int))=((7*i:Nat):Int):=by rw [zad (by omega) (by omega)]; omega
  have hbl:=zdG s i
  simp -implicitDefEqProofs only [syms,symx,seval,c223]
  refine zar (fun hlt=>?_) (fun hlt=>?_)
  rotate_left
  · repeat' ( simp -implicitDefEqProofs only [syms,symx,seval,c223])
    exact h1k (by unfold numD; rw [zj0 (fun j hj=>hb j (by omega))]) _ (z.upW _ _ (by omega))
  have hp28:2 ^ (7*i)≤2 ^ 28:=Nat.pow_le_pow_right (by decide) (by omega)
  rw [show (2:Nat) ^ 28=268435456 by decide] at hp28
  have hpr:zaP s i % 128*2 ^ (7*i)≤127*268435456:=Nat.mul_le_mul (by omega) hp28
  have hac:=zhc s i
  have hac1:=zhc s (i+1)
  have hshl:=zos (P:=Tryz.prog) (T:=tab) (t:=201) (k2:=.i64) (a:=zaP s i % 128) (n:=7*i) (by omega) (by omega)
  have hor:binA Tryz.prog tab .or 201 (.int .u64 (accN s i:Nat)) (.int .u64 (zaP s i % 128*2 ^ (7*i):Nat))=some (.int .u64 ((accN s (i+1):Nat):Int)):=zrf (by omega) (by omega)
  have hand:=zq9 (P:=Tryz.prog) (T:=tab) (t:=5) (a:=zaP s i) (b:=128) hbl (by decide)
  rw [zyW hbl] at hand
  have hnz:(((128:Nat):Int) != 0)=true:=rfl
  simp -implicitDefEqProofs only [syms,symx,seval,c223]
  refine zbm Tryz.underlying9 rfl rfl (by omega) (by omega) ?_
  rw [zdL]
  simp -implicitDefEqProofs only [syms,symx,seval,c223,zpA hbl]
  rw [zbb rfl rfl rfl (zmG _) rfl,zgN (by omega) (by omega)]
  simp -implicitDefEqProofs only [syms,symx,seval,c223,zgX,hw7,hshl,hor]
  refine zbm Tryz.underlying9 rfl rfl (by omega) (by omega) ?_
  rw [zdL]
  by_cases hb1:zaP s i < 128
  · rw [if_pos hb1] at hand
    replace hand:binA Tryz.prog tab .and 5 (.int .u8 (zaP s i:Nat)) (.int .u8 128)=some (.int .u8 0):=hand
    have hb10:∀ (Q:Ex→Env→Heap→Prop) (e:Env) (h:Heap),zeX 1 Q (.exit 0) e h=Q (.exit 0) e h:=fun Q e h=>rfl
    have hend:=zon (s:=s) (i:=i) (by omega) hb hb1
    have hw1:IntKind.i64.wrap ((i:Int)+1)=((i+1:Nat):Int):=hwi
    simp -implicitDefEqProofs only [syms,symx,seval,c223,hand,bne_self_eq_false]
    refine zar (fun hgt=>?_) (fun hgt=>?_)
    · repeat' ( simp -implicitDefEqProofs only [syms,symx,seval,c223,hb10])
      exact h1k (by unfold numD; rw [hend]; exact if_pos (.inl (by omega))) _ (z.upW _ _ (by omega))
    simp -implicitDefEqProofs only [syms,symx,seval,c223]
    refine zar (fun hi0=>?_) (fun hi0=>?_)
    · simp -implicitDefEqProofs only [syms,symx,seval,c223]
      refine zbm Tryz.underlying9 rfl rfl (by omega) (by omega) ?_
      rw [zdL]
      simp -implicitDefEqProofs only [syms,symx,seval,c223]
      refine zd9 (fun hz=>?_) (fun hz=>?_)
      · repeat' ( simp -implicitDefEqProofs only [syms,symx,seval,c223,hb10])
        exact h1k (by unfold numD; rw [hend]; exact if_pos (.inr ⟨by omega,by omega⟩)) _ (z.upW _ _ (by omega))
      · simp -implicitDefEqProofs only [syms,symx,seval,c223]
        rw [zbb rfl rfl rfl (zfx _) rfl,zgO (by omega) (by omega)]
        repeat' ( simp -implicitDefEqProofs only [syms,symx,seval,c223,hw1])
        exact h2k _ _ (by unfold numD; rw [hend]; exact if_neg (by omega)) _ (z.upW _ _ (by omega))
    · simp -implicitDefEqProofs only [syms,symx,seval,c223]
      rw [zbb rfl rfl rfl (zfx _) rfl,zgO (by omega) (by omega)]
      repeat' ( simp -implicitDefEqProofs only [syms,symx,seval,c223,hw1])
      exact h2k _ _ (by unfold numD; rw [hend]; exact if_neg (by omega)) _ (z.upW _ _ (by omega))
  · rw [if_neg hb1] at hand
    replace hand:binA Tryz.prog tab .and 5 (.int .u8 (zaP s i:Nat)) (.int .u8 128)=some (.int .u8 128):=hand
    simp -implicitDefEqProofs only [syms,symx,seval,c223,hand,show ((128:Int) != 0)=true from rfl]
    rw [hwi]
    (rw [hI1]; with_reducible refine zac (m:=_) ?_ ⟨i+1,_,rfl,z,⟨rfl,by omega,fun j hj=>by
      by_cases e:j=i
      · subst e; omega
      · exact hb j (by omega)⟩,junk (by kernel_rfl)⟩; omega)
end Go.Proofs.YtemapihoobmonaaGreatDoor
namespace Go.Proofs.YtemapihoobmonaaGreatDoor
open Go.Am
set_option linter.unusedVariables false
set_option linter.unusedSimpArgs false
set_option maxRecDepth 100000
set_option maxHeartbeats 0
noncomputable def N147:=zaA Tryz.f147
noncomputable def x147:=PLift.up (by have c:=zai N147 Tryz.f147; simp only [zao,Tryz.f147,Option.getD_some,zam,opsF,opsX,zaf,zax,dstL,zal,List.append_eq,List.cons_append,List.nil_append,seval] at c; exact nd c <| nd @zCZ <| @zCs)
theorem c147:type_of% x147.down:=x147.down
noncomputable def N148:=zaA Tryz.f148
noncomputable def x148:=PLift.up (by have c:=zai N148 Tryz.f148; simp only [zao,Tryz.f148,Option.getD_some,zam,opsF,opsX,zaf,zax,dstL,zal,List.append_eq,List.cons_append,List.nil_append,seval] at c; exact nd c <| nd @ln9 <| @zBS)
theorem c148:type_of% x148.down:=x148.down
noncomputable def N76:=zaA Tryz.f76
noncomputable def x76:=PLift.up (by have c:=zai N76 Tryz.f76; simp only [zao,Tryz.f76,Option.getD_some,zam,opsF,opsX,zaf,zax,dstL,zal,List.append_eq,List.cons_append,List.nil_append,seval] at c; exact nd c <| nd @zpo <| nd @zlr <| nd @zjF <| nd @ld3 <| nd @ld44 <| nd @ld9 <| nd @ln9 <| @fi76)
theorem c76:type_of% x76.down:=x76.down
noncomputable def N112:=zaA Tryz.f112
noncomputable def x112:=PLift.up (by have c:=zai N112 Tryz.f112; simp only [zao,Tryz.f112,Option.getD_some,zam,opsF,opsX,zaf,zax,dstL,zal,List.append_eq,List.cons_append,List.nil_append,seval] at c; exact nd c <| nd @zpo <| nd @zlr <| nd @zjF <| nd @ld3 <| nd @ld44 <| nd @ld9 <| @zCj)
theorem c112:type_of% x112.down:=x112.down
noncomputable def N111:=zaA Tryz.f111
noncomputable def x111:=PLift.up (by have c:=zai N111 Tryz.f111; simp only [zao,Tryz.f111,Option.getD_some,zam,opsF,opsX,zaf,zax,dstL,zal,List.append_eq,List.cons_append,List.nil_append,seval] at c; exact nd c <| nd @zpo <| nd @zlr <| nd @zjF <| nd @ld3 <| nd @ld44 <| nd @ld9 <| nd @ln9 <| @zC2)
theorem c111:type_of% x111.down:=x111.down
noncomputable def N77:=zaA Tryz.f77
noncomputable def x77:=PLift.up (by have c:=zai N77 Tryz.f77; simp only [zao,Tryz.f77,Option.getD_some,zam,opsF,opsX,zaf,zax,dstL,zal,List.append_eq,List.cons_append,List.nil_append,seval] at c; exact nd c <| nd @al26 <| nd @zjF <| nd @zkR <| nd @zhJ <| nd @ix24 <| nd @ld26 <| nd @ld44 <| @fi77)
theorem c77:type_of% x77.down:=x77.down
noncomputable def N72:=zaA Tryz.f72
noncomputable def x72:=PLift.up (by have c:=zai N72 Tryz.f72; simp only [zao,Tryz.f72,Option.getD_some,zam,opsF,opsX,zaf,zax,dstL,zal,List.append_eq,List.cons_append,List.nil_append,seval] at c; exact nd c <| nd @zlg <| nd @zvR <| nd @ld26 <| nd @ld3 <| @fi72)
theorem c72:type_of% x72.down:=x72.down
noncomputable def N28:=zaA Tryz.f28
noncomputable def x28:=PLift.up (by have c:=zai N28 Tryz.f28; simp only [zao,Tryz.f28,Option.getD_some,zam,opsF,opsX,zaf,zax,dstL,zal,List.append_eq,List.cons_append,List.nil_append,seval] at c; exact nd c <| nd @al57 <| nd @zlr <| nd @zjF <| nd @ld3 <| nd @ld44 <| nd @ld57 <| nd @ln9 <| @fi28)
theorem c28:type_of% x28.down:=x28.down
end Go.Proofs.YtemapihoobmonaaGreatDoor
