/- Walks: requests read, by the document. Written out by fill2.py. No condition. -/
import Derived.Test.YtemapihoobmonaaGreatDoorZN12
import Derived.Test.YtemapihoobmonaaGreatDoorG36
import Derived.Test.YtemapihoobmonaaGreatDoorG21
import Derived.Test.YtemapihoobmonaaGreatDoorG25
import Derived.KernelRfl
import Derived.Test.YtemapihoobmonaaGreatDoorG26
namespace Go.Proofs.YtemapihoobmonaaGreatDoor
open Go.Am
set_option linter.unusedSimpArgs false
set_option linter.unusedVariables false
set_option maxRecDepth 100000
set_option maxHeartbeats 0
theorem zBx (s:ByteArray):zcv tab 123 [(0,.string s)]=some (.agg ⟨[.string s,.int .i64 0,.int .i64 0]⟩):=by kernel_rfl
theorem zsJ (k:Int) (a:AtomD) (h:Heap) (K:Value→Heap→Prop)
    (h1k:1≤k→k≤3→ValidX a→∀ h',Ext h h'→K (.bool true) h') (h0k:¬ (1≤k∧k≤3∧ValidX a)→∀ h',Ext h h'→K (.bool false) h'):Ok Tryz.prog tab ov 72 [zdu k a] h K:=by
  rw [zaa h]
  have z:=Ext.refl h
  unfold zdu zaV AtomD.cells
  refine Ok.into rfl zxV (zaD N72) rfl (m:=16) rfl ?_
  simp -implicitDefEqProofs only [syms,symx,seval,c72]
  refine zar (fun h1=>?_) (fun h1=>?_)
  · simp -implicitDefEqProofs only [syms,symx,seval,c72]
    refine zar (fun h2=>?_) (fun h2=>?_)
    · simp -implicitDefEqProofs only [syms,symx,seval,c72]
      refine zok a _ _ (fun hv h' x=>?_) (fun hv c h' hc x=>?_)
      · ((skip); replace z:=z.overW x (by (try simp only [lsz]); omega); rw [zaa h'])
        simp -implicitDefEqProofs only [syms,symx,seval,c72,beq_self_eq_true]
        exact h1k (by omega) (by omega) hv _ (z.upW _ _ (by omega))
      · ((skip); replace z:=z.overW x (by (try simp only [lsz]); omega); rw [zaa h'])
        simp -implicitDefEqProofs only [syms,symx,seval,c72,show (c == 0)=false by simpa using hc]
        exact h0k (fun g=>hv g.2.2) _ (z.upW _ _ (by omega))
    · simp -implicitDefEqProofs only [syms,symx,seval,c72]
      exact h0k (fun g=>h2 (by omega)) _ (z.upW _ _ (by omega))
  · simp -implicitDefEqProofs only [syms,symx,seval,c72]
    exact h0k (fun g=>h1 (by omega)) _ (z.upW _ _ (by omega))
theorem zqf (s:ByteArray) (hs:s.size≤100000) (h:Heap) (K:Value→Heap→Prop)
    (h1k:∀ (k:Nat) (a:AtomD),reqO s=some (k,a)→∀ h',Ext h h'→K (.tuple #[zdu k a,.int .i64 0]) h')
    (h0k:reqO s=none→∀ h' c,c≠0→Ext h h'→K (.tuple #[zdu 0 noAtomD,.int .i64 c]) h'):Ok Tryz.prog tab ov 28 [.string s] h K:=by
  rw [zaa h]
  have z:=Ext.refl h
  have hva:∀ (s:ByteArray) (h:Heap) (K:Value→Heap→Prop),valE (some (.string s)) h K=K (.string s) h:=fun _ _ _=>rfl
  have hvg:∀ (c:List Value) (h:Heap) (K:Value→Heap→Prop),valE (some (.agg ⟨c⟩)) h K=K (.agg ⟨c⟩) h:=fun _ _ _=>rfl
  refine Ok.into rfl zwB (zaD N28) rfl (m:=39) rfl ?_
  simp -implicitDefEqProofs only [syms,symx,seval,c28,hva]
  refine zar (fun hgt=>?_) (fun hgt=>?_)
  · repeat' ( simp -implicitDefEqProofs only [syms,symx,seval,c28,zd0,zbw,zaS,List.all_cons,List.all_nil,Am.one,Bool.and_true,Bool.true_and,Bool.and_self,List.set_cons_zero,List.set_cons_succ,st4,st3,st9,st23,st26,st29,zeo,st57,za7,zeG,zeQ,zeI,zc5,zeM,List.append_nil,if_true,↓zbL,zbK,zaT,zhL])
    exact h0k (by unfold reqO; rw [if_neg (by omega)]) _ 4 (by decide) (z.upW _ _ (by omega))
  repeat' ( simp -implicitDefEqProofs only [syms,symx,seval,c28,hva,hvg,zBx])
  refine zkx s hs (some 0) (h.size+1) h _ (z.upW _ _ (by omega)) (by omega) (.at (Nat.zero_le _) ⟨by rw [zag]; simp,by rw [zbc]; rfl⟩) _ (fun h2 z2 s2 q2=>?_)
  have qD:Holds h2 (h.size+0) (.row (zaV 0 noAtomD) 57 false):=Holds.sm (h:=h.lay _ _) ⟨by rw [zag]; simp,by rw [zbc]; rfl⟩ s2 (by omega)
  obtain ⟨C,hC⟩:∃ C,C=h.size+1:=⟨_,rfl⟩
  obtain ⟨D,hD⟩:∃ D,D=h.size+0:=⟨_,rfl⟩
  rw [← hC] at q2 ⊢
  rw [← hD] at qD ⊢
  have hDC:D≠C:=by omega
  clear z
  have z:=z2
  rw [Option.bind_some] at q2 ⊢
  rw [zaa h2]
  by_cases hpos:0 < s.size
  · have hby:zoq s 0=some (zaP s 0,1):=if_pos hpos
    have hbl:=zdG s 0
    rw [hby] at q2 ⊢
    replace q2:CurR 123 h2 C s (some 1):=q2
    show KOps _ _ _ _ _ _ _ _ (.int .u8 ((zaP s 0:Nat):Int)) _
    simp -implicitDefEqProofs only [syms,symx,seval,c28]
    rw [zbb rfl rfl rfl (zhg _) rfl,zad (by omega) (by omega)]
    simp -implicitDefEqProofs only [syms,symx,seval,c28]
    refine zk9 s hs (some 1) C h _ (z.upW _ _ (by omega)) (by omega) (q2.lay _ _) _ (fun a o2 ha h3 z3 s3 q3=>?_) (fun ha h3 z3 s3 q3=>?_)
    all_goals rw [Option.bind_some] at ha
    · have hrq:reqO s=if o2=s.size∧1≤zaP s 0∧zaP s 0≤3 then some (zaP s 0,a) else none:=by
        unfold reqO
        rw [if_pos (by omega),ha]
        rfl
      have hav:=(zmw (by omega) ha).2
      obtain ⟨ho3,qq⟩:=q3.get_some
      replace qD:=qD.smL s3 hDC
      clear z
      have z:=z3
      have hz3:=z.size
      have hqq:=qq.lt
      rw [zaa h3]
      simp -implicitDefEqProofs only [syms,symx,seval,c28,zbw,zaS,List.all_cons,List.all_nil,Am.one,Bool.and_true,Bool.true_and,Bool.and_self,List.set_cons_zero,List.set_cons_succ,st4,st3,st9,st23,st26,st29,zeo,st57,za7,zeG,zeQ,zeI,zc5,zeM,List.append_nil,if_true,↓zbL,zbK,zaT,zhL,qq.lay,bne_self_eq_false,hva]
      refine ze2 (fun hne=>?_) (fun heq=>?_)
      · repeat' ( simp -implicitDefEqProofs only [syms,symx,seval,c28,zd0,zaT])
        refine zae (o:=0) qD sz57 (za7 _ _) rfl (Nat.le_refl 12) rfl (fun h9 qD' c=>?_)
        replace qD':Holds h9 D (.row (zaV 0 noAtomD) 57 false):=qD'
        replace z:=z.stepW c (by omega) (by omega)
        rw [zaa h9]
        simp -implicitDefEqProofs only [syms,symx,seval,c28,qD'.lay,↓zbL,zbK,zaT]
        exact h0k (by rw [hrq,if_neg (fun g=>hne (by omega))]) _ 15 (by decide) (z.upW _ _ (by omega))
      · repeat' ( simp -implicitDefEqProofs only [syms,symx,seval,c28,↓zbL,zbK,zaT])
        refine zsJ _ _ _ _ (fun g1 g2 g3 h' x=>?_) (fun g h' x=>?_)
        · have qX:=Holds.top (i:=0) x rfl
          ((skip); replace z:=z.overW x (by (try simp only [lsz]); omega); (try replace qD:=qD.over x); rw [zaa h'])
          simp -implicitDefEqProofs only [syms,symx,seval,c28,Bool.not_true]
          (with_reducible_and_instances apply zap); (· rfl)
          repeat' ( simp -implicitDefEqProofs only [syms,symx,seval,c28,Bool.not_true,qX.lay,↓zbL,zbK,zaT])
          refine zae (o:=0) qD sz57 (za7 _ _) rfl (Nat.le_refl 12) rfl (fun h9 qD' c=>?_)
          replace qD':Holds h9 D (.row (zaV (zaP s 0) a) 57 false):=qD'
          replace z:=z.stepW c (by omega) (by omega)
          rw [zaa h9]
          simp -implicitDefEqProofs only [syms,symx,seval,c28,qD'.lay,↓zbL,zbK,zaT]
          exact h1k _ _ (by rw [hrq,if_pos (by omega)]) _ (z.upW _ _ (by omega))
        · ((skip); replace z:=z.overW x (by (try simp only [lsz]); omega); (try replace qD:=qD.over x); rw [zaa h'])
          simp -implicitDefEqProofs only [syms,symx,seval,c28,Bool.not_false]
          (with_reducible_and_instances apply zap); (· rfl)
          repeat' ( simp -implicitDefEqProofs only [syms,symx,seval,c28,Bool.not_false,zd0,zaT])
          refine zae (o:=0) qD sz57 (za7 _ _) rfl (Nat.le_refl 12) rfl (fun h9 qD' c=>?_)
          replace qD':Holds h9 D (.row (zaV 0 noAtomD) 57 false):=qD'
          replace z:=z.stepW c (by omega) (by omega)
          rw [zaa h9]
          simp -implicitDefEqProofs only [syms,symx,seval,c28,qD'.lay,↓zbL,zbK,zaT]
          exact h0k (by rw [hrq,if_neg (fun g4=>g ⟨by omega,by omega,hav⟩)]) _ 15 (by decide) (z.upW _ _ (by omega))
    · have hrq:reqO s=none:=by
        unfold reqO
        rw [if_pos (by omega),ha]
        rfl
      obtain ⟨o3,e3,ho3,he3,qq⟩:=q3.get_none
      have hne3:(e3 != 0)=true:=by simpa using he3
      replace qD:=qD.smL s3 hDC
      clear z
      have z:=z3
      have hz3:=z.size
      have hqq:=qq.lt
      rw [zaa h3]
      repeat' ( simp -implicitDefEqProofs only [syms,symx,seval,c28,zbw,zaS,List.all_cons,List.all_nil,Am.one,Bool.and_true,Bool.true_and,Bool.and_self,List.set_cons_zero,List.set_cons_succ,st4,st3,st9,st23,st26,st29,zeo,st57,za7,zeG,zeQ,zeI,zc5,zeM,List.append_nil,if_true,↓zbL,zbK,zaT,zhL,qq.lay,hne3,zd0,zaT])
      refine zae (o:=0) qD sz57 (za7 _ _) rfl (Nat.le_refl 12) rfl (fun h9 qD' c=>?_)
      replace qD':Holds h9 D (.row (zaV 0 noAtomD) 57 false):=qD'
      replace z:=z.stepW c (by omega) (by omega)
      rw [zaa h9]
      simp -implicitDefEqProofs only [syms,symx,seval,c28,qD'.lay,↓zbL,zbK,zaT]
      exact h0k hrq _ 15 (by decide) (z.upW _ _ (by omega))
  · have hrq:reqO s=none:=by
      unfold reqO
      rw [if_neg (by omega)]
    have hby:zoq s 0=none:=if_neg hpos
    rw [hby] at q2 ⊢
    replace q2:CurR 123 h2 C s none:=q2
    show KOps _ _ _ _ _ _ _ _ (.int .u8 ((0:Nat):Int)) _
    simp -implicitDefEqProofs only [syms,symx,seval,c28]
    rw [zbb rfl rfl rfl (zhg _) rfl,zad (by omega) (by omega)]
    simp -implicitDefEqProofs only [syms,symx,seval,c28]
    refine zk9 s hs none C h _ (z.upW _ _ (by omega)) (by omega) (q2.lay _ _) _ (fun a o2 ha=>by cases ha) (fun _ h3 z3 s3 q3=>?_)
    obtain ⟨o3,e3,ho3,he3,qq⟩:=q3.get_none
    have hne3:(e3 != 0)=true:=by simpa using he3
    replace qD:=qD.smL s3 hDC
    clear z
    have z:=z3
    have hz3:=z.size
    have hqq:=qq.lt
    rw [zaa h3]
    repeat' ( simp -implicitDefEqProofs only [syms,symx,seval,c28,zbw,zaS,List.all_cons,List.all_nil,Am.one,Bool.and_true,Bool.true_and,Bool.and_self,List.set_cons_zero,List.set_cons_succ,st4,st3,st9,st23,st26,st29,zeo,st57,za7,zeG,zeQ,zeI,zc5,zeM,List.append_nil,if_true,↓zbL,zbK,zaT,zhL,qq.lay,hne3,zd0,zaT])
    refine zae (o:=0) qD sz57 (za7 _ _) rfl (Nat.le_refl 12) rfl (fun h9 qD' c=>?_)
    replace qD':Holds h9 D (.row (zaV 0 noAtomD) 57 false):=qD'
    replace z:=z.stepW c (by omega) (by omega)
    rw [zaa h9]
    simp -implicitDefEqProofs only [syms,symx,seval,c28,qD'.lay,↓zbL,zbK,zaT]
    exact h0k hrq _ 15 (by decide) (z.upW _ _ (by omega))
end Go.Proofs.YtemapihoobmonaaGreatDoor
namespace Go.Proofs.YtemapihoobmonaaGreatDoor
open Go.Am
set_option linter.unusedVariables false
set_option linter.unusedSimpArgs false
set_option maxRecDepth 100000
set_option maxHeartbeats 0
noncomputable def N24:=zaA Tryz.f24
noncomputable def x24:=PLift.up (by have c:=zai N24 Tryz.f24; simp only [zao,Tryz.f24,Option.getD_some,zam,opsF,opsX,zaf,zax,dstL,zal,List.append_eq,List.cons_append,List.nil_append,seval] at c; exact nd c <| nd @zou <| nd @zqJ <| nd @zqY <| nd @zhJ <| nd @ix24 <| nd @ld9 <| nd @ln9 <| @fi24)
theorem c24:type_of% x24.down:=x24.down
noncomputable def N12:=zaA Tryz.f12
noncomputable def x12:=PLift.up (by have c:=zai N12 Tryz.f12; simp only [zao,Tryz.f12,Option.getD_some,zam,opsF,opsX,zaf,zax,dstL,zal,List.append_eq,List.cons_append,List.nil_append,seval] at c; exact nd c <| nd @ix27 <| nd @ld26 <| nd @ln27 <| @fi12)
theorem c12:type_of% x12.down:=x12.down
noncomputable def N11:=zaA Tryz.f11
noncomputable def x11:=PLift.up (by have c:=zai N11 Tryz.f11; simp only [zao,Tryz.f11,Option.getD_some,zam,opsF,opsX,zaf,zax,dstL,zal,List.append_eq,List.cons_append,List.nil_append,seval] at c; exact nd c <| nd @zyI <| nd @zyH <| nd @ix32 <| nd @ld26 <| nd @ld27 <| nd @ln32 <| @fi11)
noncomputable def N16:=zaA Tryz.f16
noncomputable def x16:=PLift.up (by have c:=zai N16 Tryz.f16; simp only [zao,Tryz.f16,Option.getD_some,zam,opsF,opsX,zaf,zax,dstL,zal,List.append_eq,List.cons_append,List.nil_append,seval] at c; exact nd c <| @fi16)
noncomputable def N19:=zaA Tryz.f19
noncomputable def x19:=PLift.up (by have c:=zai N19 Tryz.f19; simp only [zao,Tryz.f19,Option.getD_some,zam,opsF,opsX,zaf,zax,dstL,zal,List.append_eq,List.cons_append,List.nil_append,seval] at c; exact nd c <| nd @bs32 <| nd @zyI <| nd @zyH <| nd @ix32 <| nd @ld26 <| nd @ld27 <| nd @ln32 <| @fi19)
end Go.Proofs.YtemapihoobmonaaGreatDoor
namespace Go.Proofs.YtemapihoobmonaaGreatDoor
open Go.Am
set_option linter.unusedSimpArgs false
set_option linter.unusedVariables false
set_option maxRecDepth 100000
set_option maxHeartbeats 0
/-! ### Light -/
theorem zma (a:AtomD) (h:Heap) (K:Value→Heap→Prop) (h1:a.light=true→∀ h',Ext h h'→K (.bool true) h') (h2:a.light=false→∀ h',Ext h h'→K (.bool false) h'):Ok Tryz.prog tab ov 24 [a.val] h K:=by
  rw [zaa h]
  have z:=Ext.refl h
  unfold AtomD.val AtomD.cells
  refine Ok.into rfl zwH (zaD N24) rfl (m:=29) rfl ?_
  simp -implicitDefEqProofs only [syms,symx,seval,c24]
  repeat' ((first | ((with_reducible  apply zar ) <;> intro _) | with_reducible_and_instances refine zde ?_) <;> simp -implicitDefEqProofs only [syms,symx,seval,c24])
  all_goals first
    | with_reducible exact h2 (by simp [AtomD.light]; omega) _ (z.upW _ _ (by omega))
    | with_reducible exact h1 (by simp [AtomD.light]; omega) _ (z.upW _ _ (by omega))
theorem znB (l:List AtomD) (v:Value) (m:Int) (h:Heap) (hl:Sl Rep.atom h v l) (K:Value→Heap→Prop) (h1:(l.length:Int)≤m→(∀ a∈l,a.light=true)→∀ h',Ext h h'→K (.bool true) h') (h2:∀ h',Ext h h'→K (.bool false) h'):Ok Tryz.prog tab ov 12 [v,.int .i64 m] h K:=by
  rw [zaa h]
  have z:=Ext.refl h
  have hle:=hl.le
  refine Ok.into rfl zxL (zaD N12) rfl (m:=20) rfl ?_
  simp -implicitDefEqProofs only [syms,symx,seval,c12]
  repeat' ((first | ((with_reducible  apply zar ) <;> intro _) | with_reducible_and_instances refine zhy hl ds27 ?_) <;> simp -implicitDefEqProofs only [syms,symx,seval,c12])
  · exact h2 _ (z.upW _ _ (by omega))
  refine zAY (fun e h'=>∃ (i:Nat) (h1:Heap) (x1 x2 x3 x4 x6 x7 x8 x9 x10 x11 x12 x13 x14 x15 x16 x17 x18 x19 x20 x21:Value),h'=h1.lay [] h1.low∧Ext h h1∧i≤l.length∧(∀ a∈l.take i,a.light=true)∧e=[v,x1,x2,x3,x4,.int .i64 i,x6,x7,x8,x9,x10,x11,x12,x13,x14,x15,x16,x17,x18,x19,x20,x21]) (fun e _=>match e.get 5 with | .int _ i=>l.length - i.toNat | _=>0) ?_ ?_
  · exact ⟨0,h,_,_,_,_,_,_,_,_,_,_,_,_,_,_,_,_,_,_,_,_,rfl,z,by omega,by simp,rfl⟩
  rintro e h' ⟨i,h1',x1,x2,x3,x4,x6,x7,x8,x9,x10,x11,x12,x13,x14,x15,x16,x17,x18,x19,x20,x21,rfl,z,hi,hall,rfl⟩
  have hw:i < l.length→IntKind.i64.wrap ((i:Int)+1)=((i+1:Nat):Int):=fun hh=>by unfold maxLen at hle; rw [zad (by omega) (by omega)]; omega
  simp -implicitDefEqProofs only [syms,symx,seval,c12]
  repeat' ((first | ((with_reducible  apply zar ) <;> intro _) | with_reducible_and_instances refine zhy hl ds27 ?_ | with_reducible_and_instances refine ixa (hl.mono z.inc) ds27 sz26 (by omega) (by omega) (fun a p ha hp=>?_) | with_reducible_and_instances refine lda hp ag26 sz26 ?_ | ((with_reducible_and_instances refine zma _ _ _ (fun hlx h' x=>?_) (fun hlx h' x=>?_)) <;> ((skip); replace z:=z.overW x (by (try simp only [lsz]); omega); rw [zaa h'])) | ((with_reducible_and_instances apply zap); (· rfl))) <;> simp -implicitDefEqProofs only [syms,symx,seval,c12])
  all_goals first
    | with_reducible exact h2 _ (z.upW _ _ (by omega))
    | with_reducible exact h1 (by omega) (by rw [List.take_of_length_le (by omega)] at hall; exact hall) _ (z.upW _ _ (by omega))
    | (rw [hw (by omega)]
       with_reducible refine zn7 ?_ ?_
       · exact ⟨i+1,h',_,_,_,_,_,_,_,_,_,_,_,_,_,_,_,_,_,_,_,_,rfl,z,by omega,zci ha hall hlx,rfl⟩
       · show l.length - ((i+1:Nat):Int).toNat < l.length - (i:Int).toNat
         omega)
end Go.Proofs.YtemapihoobmonaaGreatDoor
