/- Walks: the document's cursor: numbers, texts, bytes. Written out by fill2.py. No condition. -/
import Derived.Test.YtemapihoobmonaaGreatDoorG28
import Derived.Test.YtemapihoobmonaaGreatDoorZN2
import Derived.Test.YtemapihoobmonaaGreatDoorG21
import Derived.Test.YtemapihoobmonaaGreatDoorG25
import Derived.KernelRfl
import Derived.Test.YtemapihoobmonaaGreatDoorG27
import Derived.Test.YtemapihoobmonaaGreatDoorG17
namespace Go.Proofs.YtemapihoobmonaaGreatDoor
open Go.Am
set_option linter.unusedSimpArgs false
set_option linter.unusedVariables false
set_option maxRecDepth 100000
set_option maxHeartbeats 0
theorem zn3 (s:ByteArray) (hs:s.size≤100000) (st:Option Nat) (C:Nat) (h hc:Heap) (z:Ext h hc) (hC:h.size≤C) (q:CurR 123 hc C s st) (K:Value→Heap→Prop)
    (hk:∀ h',Ext h h'→Sm C hc h'→CurR 123 h' C s ((st.bind (numO s)).map (·.2))→K (.int .u32 (((st.bind (numO s)).map (·.1)).getD 0:Nat)) h'):Ok Tryz.prog tab ov 112 [.pointer (some ⟨C,0,none⟩)] hc K:=by
  have cg:=Sm.refl C hc
  rw [zaa hc]
  have hva:∀ (s:ByteArray) (h:Heap) (K:Value→Heap→Prop),valE (some (.string s)) h K=K (.string s) h:=fun _ _ _=>rfl
  refine Ok.into rfl zvZ (zaD N112) rfl (m:=38) rfl ?_
  cases st with
  | none =>
    obtain ⟨o,e,ho,he,q0⟩:=q.get_none
    simp -implicitDefEqProofs only [syms,symx,seval,c112,q0.lay,show (e != 0)=true by simpa using he]
    exact hk _ (z.upW _ _ (by omega)) (cg.lay _ _) (.bad ho he (q0.on _ _))
  | some o =>
    obtain ⟨ho,q0⟩:=q.get_some
    have hsl:=zl0 s o ho
    simp -implicitDefEqProofs only [syms,symx,seval,c112,q0.lay,bne_self_eq_false]
    with_reducible first | refine zcb (by simp only [c112]) (z.upW _ _ (by omega)) ?_
    repeat' ( simp -implicitDefEqProofs only [syms,symx,seval,c112,q0.lay,hva,hsl])
    refine zpR (s.extract o s.size) _ (by rw [ByteArray.size_extract]; omega) _ (fun hd h' x=>?_) (fun n k hd h' x=>?_)
    · have hno:numO s o=none:=by unfold numO; rw [hd]; rfl
      (( ((with_reducible refine zav ?_ ?_ ?_); (· exact (by (try simp only [lsz]); have:=z.size; omega)); (·  exact x )) ); replace z:=z.overW x (by (try simp only [lsz]); omega); (try replace q0:=q0.over x); (try replace cg:=cg.over x); rw [zaa h'])
      have hw0:IntKind.i64.wrap ((o:Int)+0)=((o:Nat):Int):=by rw [zad (by omega) (by omega)]; omega
      repeat' (first | simp -implicitDefEqProofs only [syms,symx,seval,c112,q0.lay,hw0] | ((with_reducible refine ⟨z.grw.lay _ _,?_⟩); (intro _ h' zz x _); (try simp only [zat,List.append_nil] at x); (try replace q0:=q0.over x); (try replace cg:=cg.over x); (replace z:=zz); (clear zz); rw [zaa h']))
      refine zae (o:=1) q0 sz3 rfl rfl (by simp) rfl (fun h2' q1 c=>?_)
      replace q1:Holds h2' C (.row [.string s,.int .i64 o,.int .i64 0] 123 false):=q1
      replace cg:=cg.stepC c
      replace z:=z.stepW c hC (by omega)
      rw [zaa h2']
      simp -implicitDefEqProofs only [syms,symx,seval,c112]
      refine zae (o:=2) q1 sz44 rfl rfl (by simp) rfl (fun h3' q2 c=>?_)
      replace q2:Holds h3' C (.row [.string s,.int .i64 o,.int .i64 15] 123 false):=q2
      replace cg:=cg.stepC c
      replace z:=z.stepW c hC (by omega)
      rw [zaa h3']
      simp -implicitDefEqProofs only [syms,symx,seval,c112]
      rw [Option.bind_some,hno] at hk
      exact hk _ (z.upW _ _ (by omega)) (cg.lay _ _) (.bad ho (by decide) (q2.on _ _))
    · have hno:numO s o=some (n,o+k):=by unfold numO; rw [hd]; rfl
      have hle:=zhA ho hno
      (( ((with_reducible refine zav ?_ ?_ ?_); (· exact (by (try simp only [lsz]); have:=z.size; omega)); (·  exact x )) ); replace z:=z.overW x (by (try simp only [lsz]); omega); (try replace q0:=q0.over x); (try replace cg:=cg.over x); rw [zaa h'])
      have hw0:IntKind.i64.wrap ((o:Int)+(k:Int))=((o+k:Nat):Int):=by rw [zad (by omega) (by omega)]; omega
      repeat' (first | simp -implicitDefEqProofs only [syms,symx,seval,c112,q0.lay,hw0] | ((with_reducible refine ⟨z.grw.lay _ _,?_⟩); (intro _ h' zz x _); (try simp only [zat,List.append_nil] at x); (try replace q0:=q0.over x); (try replace cg:=cg.over x); (replace z:=zz); (clear zz); rw [zaa h']))
      refine zae (o:=1) q0 sz3 rfl rfl (by simp) rfl (fun h2' q1 c=>?_)
      replace q1:Holds h2' C (.row [.string s,.int .i64 (o+k:Nat),.int .i64 0] 123 false):=q1
      replace cg:=cg.stepC c
      replace z:=z.stepW c hC (by omega)
      rw [zaa h2']
      simp -implicitDefEqProofs only [syms,symx,seval,c112]
      refine zae (o:=2) q1 sz44 rfl rfl (by simp) rfl (fun h3' q2 c=>?_)
      replace q2:Holds h3' C (.row [.string s,.int .i64 (o+k:Nat),.int .i64 0] 123 false):=q2
      replace cg:=cg.stepC c
      replace z:=z.stepW c hC (by omega)
      rw [zaa h3']
      simp -implicitDefEqProofs only [syms,symx,seval,c112]
      rw [Option.bind_some,hno] at hk
      exact hk _ (z.upW _ _ (by omega)) (cg.lay _ _) (.at hle.1 (q2.on _ _))
theorem zct (a:Int):zaF Tryz.prog (Next.value <$> convert 151 3 (.int .u32 a))=some (Next.value (.int .i64 (IntKind.i64.wrap a))):=by rfl
theorem zdo (s:ByteArray) (hs:s.size≤100000) (st:Option Nat) (C:Nat) (h hc:Heap) (z:Ext h hc) (hC:h.size≤C) (q:CurR 123 hc C s st) (K:Value→Heap→Prop)
    (hk:∀ h',Ext h h'→Sm C hc h'→CurR 123 h' C s ((st.bind (zbg s)).map (·.2))→K (.string (((st.bind (zbg s)).map (·.1)).getD ⟨#[]⟩)) h'):Ok Tryz.prog tab ov 111 [.pointer (some ⟨C,0,none⟩)] hc K:=by
  have hst:∀ p,st=some p→p≤s.size:=fun p hp=>by subst hp; exact q.get_some.1
  have cg:=Sm.refl C hc
  rw [zaa hc]
  have hva:∀ (s:ByteArray) (h:Heap) (K:Value→Heap→Prop),valE (some (.string s)) h K=K (.string s) h:=fun _ _ _=>rfl
  refine Ok.into rfl zvS (zaD N111) rfl (m:=59) rfl ?_
  simp -implicitDefEqProofs only [syms,symx,seval,c111]
  refine zn3 s hs st C h _ (z.upW _ _ (by omega)) hC (q.lay _ _) _ (fun h' z2 s2 q2=>?_)
  replace cg:=cg.onto s2
  clear z
  have z:=z2
  rw [zaa h']
  rcases hno:st.bind (numO s) with _ | ⟨n,o⟩
  · have htx:=zkF hno
    rw [htx] at hk
    rw [hno] at q2
    obtain ⟨o,e,ho,he,q0⟩:=q2.get_none
    simp -implicitDefEqProofs only [syms,symx,seval,c111]
    with_reducible first | refine zcb (by simp only [c111]) (z.upW _ _ (by omega)) ?_
    repeat' (first | simp -implicitDefEqProofs only [syms,symx,seval,c111,q0.lay,hva,show (e == 0)=false by simpa using he,show (e != 0)=true by simpa using he] | ((with_reducible refine ⟨z.grw.lay _ _,?_⟩); (intro _ h' zz x _); (try simp only [zat,List.append_nil] at x); (try replace q0:=q0.over x); (try replace cg:=cg.over x); (replace z:=zz); (clear zz); rw [zaa h']))
    (try simp -implicitDefEqProofs only [syms,symx,seval,c111,q0.lay,hva,show (e != 0)=true by simpa using he])
    exact hk _ (z.upW _ _ (by omega)) (cg.lay _ _) (.bad ho he (q0.on _ _))
  · obtain ⟨ho0,hn⟩:=znn hst hno
    have htx:=zlf hno
    rw [htx] at hk
    rw [hno] at q2
    obtain ⟨ho,q0⟩:=q2.get_some
    clear q2
    have hsub:IntKind.i64.wrap ((s.size:Int) - (o:Int))=((s.size - o:Nat):Int):=by rw [zad (by omega) (by omega)]; omega
    have hadd:IntKind.i64.wrap ((o:Int)+(n:Int))=((o+n:Nat):Int):=by rw [zad (by omega) (by omega)]; omega
    have hbk:IntKind.i64.wrap (((o+n:Nat):Int) - (n:Int))=((o:Nat):Int):=by rw [zad (by omega) (by omega)]; omega
    show KOps _ _ _ _ _ _ _ _ (.int .u32 ((n:Nat):Int)) _
    simp -implicitDefEqProofs only [syms,symx,seval,c111]
    with_reducible first | refine zcb (by simp only [c111]) (z.upW _ _ (by omega)) ?_
    repeat' ( simp -implicitDefEqProofs only [syms,symx,seval,c111,q0.lay,hva,beq_self_eq_true])
    rw [zbb rfl rfl rfl (zfN _) rfl,zad (by omega) (by omega)]
    refine zf5 (by have:=z.size; omega) (by omega) ?_
    repeat' (first | simp -implicitDefEqProofs only [syms,symx,seval,c111,q0.lay,hva,hsub] | ((with_reducible  apply zar ) <;> intro _) | ((with_reducible refine ⟨z.grw.lay _ _,?_⟩); (intro _ h' zz x _); (try simp only [zat,List.append_nil] at x); (try replace q0:=q0.over x); (try replace cg:=cg.over x); (replace z:=zz); (clear zz); rw [zaa h']))
    · have hgt:(n:Int) > ((s.size - o:Nat):Int):=by assumption
      refine zae (o:=2) q0 sz44 rfl rfl (by simp) rfl (fun h3' q2 c=>?_)
      replace q2:Holds h3' C (.row [.string s,.int .i64 o,.int .i64 15] 123 false):=q2
      replace cg:=cg.stepC c
      replace z:=z.stepW c hC (by omega)
      rw [zaa h3']
      simp -implicitDefEqProofs only [syms,symx,seval,c111,q2.lay,show ((15:Int) != 0)=true from rfl]
      rw [if_neg (by omega)] at hk
      exact hk _ (z.upW _ _ (by omega)) (cg.lay _ _) (.bad ho (by decide) (q2.on _ _))
    · have hgt:¬ (n:Int) > ((s.size - o:Nat):Int):=by assumption
      have hcut:=zuO s o (o+n) (by omega) (by omega)
      rw [if_pos (by omega)] at hk
      replace hk:∀ h',Ext h h'→Sm C hc h'→CurR 123 h' C s (some (o+n))→K (.string (s.extract o (o+n))) h':=hk
      rw [zbb rfl rfl rfl (zct _) rfl,zad (by omega) (by omega)]
      repeat' ( simp -implicitDefEqProofs only [syms,symx,seval,c111,q0.lay,hadd])
      refine zae (o:=1) q0 sz3 rfl rfl (by simp) rfl (fun h3' q2 c=>?_)
      replace q2:Holds h3' C (.row [.string s,.int .i64 (o+n:Nat),.int .i64 0] 123 false):=q2
      replace cg:=cg.stepC c
      replace z:=z.stepW c hC (by omega)
      clear q0
      have q0:=q2
      clear q2
      rw [zaa h3']
      simp -implicitDefEqProofs only [syms,symx,seval,c111]
      with_reducible first | refine zcb (by simp only [c111]) (z.upW _ _ (by omega)) ?_
      repeat' ( simp -implicitDefEqProofs only [syms,symx,seval,c111,q0.lay,hva])
      rw [zbb rfl rfl rfl (zct _) rfl,zad (by omega) (by omega)]
      refine zf5 (by have:=z.size; omega) (by omega) ?_
      repeat' (first | simp -implicitDefEqProofs only [syms,symx,seval,c111,q0.lay,hva,hbk,hcut] | ((with_reducible refine ⟨z.grw.lay _ _,?_⟩); (intro _ h' zz x _); (try simp only [zat,List.append_nil] at x); (try replace q0:=q0.over x); (try replace cg:=cg.over x); (replace z:=zz); (clear zz); rw [zaa h']))
      exact hk _ (z.upW _ _ (by omega)) (cg.lay _ _) (.at (by omega) (q0.on _ _))
theorem zkx (s:ByteArray) (hs:s.size≤100000) (st:Option Nat) (C:Nat) (h hc:Heap) (z:Ext h hc) (hC:h.size≤C) (q:CurR 123 hc C s st) (K:Value→Heap→Prop)
    (hk:∀ h',Ext h h'→Sm C hc h'→CurR 123 h' C s ((st.bind (zoq s)).map (·.2))→K (.int .u8 (((st.bind (zoq s)).map (·.1)).getD 0:Nat)) h'):Ok Tryz.prog tab ov 76 [.pointer (some ⟨C,0,none⟩)] hc K:=by
  have cg:=Sm.refl C hc
  rw [zaa hc]
  have hva:∀ (s:ByteArray) (h:Heap) (K:Value→Heap→Prop),valE (some (.string s)) h K=K (.string s) h:=fun _ _ _=>rfl
  refine Ok.into rfl zxX (zaD N76) rfl (m:=44) rfl ?_
  cases st with
  | none =>
    obtain ⟨o,e,ho,he,q0⟩:=q.get_none
    simp -implicitDefEqProofs only [syms,symx,seval,c76]
    with_reducible first | refine zcb (by simp only [c76]) (z.upW _ _ (by omega)) ?_
    repeat' (first | simp -implicitDefEqProofs only [syms,symx,seval,c76,q0.lay,show (e == 0)=false by simpa using he,show (e != 0)=true by simpa using he] | ((with_reducible refine ⟨z.grw.lay _ _,?_⟩); (intro _ h' zz x _); (try simp only [zat,List.append_nil] at x); (try replace q0:=q0.over x); (try replace cg:=cg.over x); (replace z:=zz); (clear zz); rw [zaa h']))
    exact hk _ (z.upW _ _ (by omega)) (cg.lay _ _) (.bad ho he (q0.on _ _))
  | some o =>
    obtain ⟨ho,q0⟩:=q.get_some
    by_cases hlt:o < s.size
    · have hb:zoq s o=some (zaP s o,o+1):=if_pos hlt
      rw [Option.bind_some,hb] at hk
      replace hk:∀ h',Ext h h'→Sm C hc h'→CurR 123 h' C s (some (o+1))→K (.int .u8 (zaP s o:Nat)) h':=hk
      have hw1:IntKind.i64.wrap ((o:Int)+1)=((o+1:Nat):Int):=by rw [zad (by omega) (by omega)]; omega
      have hw2:IntKind.i64.wrap (((o+1:Nat):Int) - 1)=((o:Nat):Int):=by rw [zad (by omega) (by omega)]; omega
      simp -implicitDefEqProofs only [syms,symx,seval,c76]
      with_reducible first | refine zcb (by simp only [c76]) (z.upW _ _ (by omega)) ?_
      repeat' (first | simp -implicitDefEqProofs only [syms,symx,seval,c76,q0.lay,hva,beq_self_eq_true,bne_self_eq_false,hw1] | ((with_reducible  apply zar ) <;> intro _) | ((with_reducible refine ⟨z.grw.lay _ _,?_⟩); (intro _ h' zz x _); (try simp only [zat,List.append_nil] at x); (try replace q0:=q0.over x); (try replace cg:=cg.over x); (replace z:=zz); (clear zz); rw [zaa h']))
      · exfalso
        have:(o:Int) ≥ (s.size:Int):=by assumption
        omega
      · refine zae (o:=1) q0 sz3 rfl rfl (by simp) rfl (fun h3' q2 c=>?_)
        replace q2:Holds h3' C (.row [.string s,.int .i64 (o+1:Nat),.int .i64 0] 123 false):=q2
        replace cg:=cg.stepC c
        replace z:=z.stepW c hC (by omega)
        clear q0
        rw [zaa h3']
        simp -implicitDefEqProofs only [syms,symx,seval,c76]
        with_reducible first | refine zcb (by simp only [c76]) (z.upW _ _ (by omega)) ?_
        repeat' (first | simp -implicitDefEqProofs only [syms,symx,seval,c76,q2.lay,hva,hw2,zdL] | ((with_reducible_and_instances apply zbm); (· exact Tryz.underlying9); (· rfl); (· rfl); (· omega); (·  omega )) | ((with_reducible refine ⟨z.grw.lay _ _,?_⟩); (intro _ h' zz x _); (try simp only [zat,List.append_nil] at x); (try replace q2:=q2.over x); (try replace cg:=cg.over x); (replace z:=zz); (clear zz); rw [zaa h']))
        rw [zfw]
        exact hk _ (z.upW _ _ (by omega)) (cg.lay _ _) (.at (by omega) (q2.on _ _))
    · have hb:zoq s o=none:=if_neg hlt
      rw [Option.bind_some,hb] at hk
      simp -implicitDefEqProofs only [syms,symx,seval,c76]
      with_reducible first | refine zcb (by simp only [c76]) (z.upW _ _ (by omega)) ?_
      repeat' (first | simp -implicitDefEqProofs only [syms,symx,seval,c76,q0.lay,hva,beq_self_eq_true,bne_self_eq_false] | ((with_reducible  apply zar ) <;> intro _) | ((with_reducible refine ⟨z.grw.lay _ _,?_⟩); (intro _ h' zz x _); (try simp only [zat,List.append_nil] at x); (try replace q0:=q0.over x); (try replace cg:=cg.over x); (replace z:=zz); (clear zz); rw [zaa h']))
      · refine zae (o:=2) q0 sz44 rfl rfl (by simp) rfl (fun h3' q2 c=>?_)
        replace q2:Holds h3' C (.row [.string s,.int .i64 o,.int .i64 15] 123 false):=q2
        replace cg:=cg.stepC c
        replace z:=z.stepW c hC (by omega)
        rw [zaa h3']
        simp -implicitDefEqProofs only [syms,symx,seval,c76,q2.lay,show ((15:Int) != 0)=true from rfl]
        exact hk _ (z.upW _ _ (by omega)) (cg.lay _ _) (.bad ho (by decide) (q2.on _ _))
      · exfalso
        have:¬ (o:Int) ≥ (s.size:Int):=by assumption
        omega
end Go.Proofs.YtemapihoobmonaaGreatDoor
namespace Go.Proofs.YtemapihoobmonaaGreatDoor
open Go.Am
set_option linter.unusedVariables false
set_option linter.unusedSimpArgs false
set_option maxRecDepth 100000
set_option maxHeartbeats 0
noncomputable def N21:=zaA Tryz.f21
noncomputable def x21:=PLift.up (by have c:=zai N21 Tryz.f21; simp only [zao,Tryz.f21,Option.getD_some,zam,opsF,opsX,zaf,zax,dstL,zal,List.append_eq,List.cons_append,List.nil_append,seval] at c; exact nd c <| nd @ix27 <| nd @ld26 <| nd @ln27 <| @fi21)
noncomputable def N156:=zaA Tryz.f156
noncomputable def x156:=PLift.up (by have c:=zai N156 Tryz.f156; simp only [zao,Tryz.f156,Option.getD_some,zam,opsF,opsX,zaf,zax,dstL,zal,List.append_eq,List.cons_append,List.nil_append,seval] at c; exact nd c <| @zCu)
theorem c156:type_of% x156.down:=x156.down
noncomputable def N183:=zaA Tryz.f183
noncomputable def x183:=PLift.up (by have c:=zai N183 Tryz.f183; simp only [zao,Tryz.f183,Option.getD_some,zam,opsF,opsX,zaf,zax,dstL,zal,List.append_eq,List.cons_append,List.nil_append,seval] at c; exact nd c <| @zCy)
theorem c183:type_of% x183.down:=x183.down
noncomputable def N184:=zaA Tryz.f184
noncomputable def x184:=PLift.up (by have c:=zai N184 Tryz.f184; simp only [zao,Tryz.f184,Option.getD_some,zam,opsF,opsX,zaf,zax,dstL,zal,List.append_eq,List.cons_append,List.nil_append,seval] at c; exact nd c <| @zCk)
theorem c184:type_of% x184.down:=x184.down
noncomputable def N181:=zaA Tryz.f181
noncomputable def x181:=PLift.up (by have c:=zai N181 Tryz.f181; simp only [zao,Tryz.f181,Option.getD_some,zam,opsF,opsX,zaf,zax,dstL,zal,List.append_eq,List.cons_append,List.nil_append,seval] at c; exact nd c <| nd @ln9 <| @zCH)
theorem c181:type_of% x181.down:=x181.down
noncomputable def N157:=zaA Tryz.f157
noncomputable def x157:=PLift.up (by have c:=zai N157 Tryz.f157; simp only [zao,Tryz.f157,Option.getD_some,zam,opsF,opsX,zaf,zax,dstL,zal,List.append_eq,List.cons_append,List.nil_append,seval] at c; exact nd c <| nd @ln9 <| @zCN)
theorem c157:type_of% x157.down:=x157.down
noncomputable def N182:=zaA Tryz.f182
noncomputable def x182:=PLift.up (by have c:=zai N182 Tryz.f182; simp only [zao,Tryz.f182,Option.getD_some,zam,opsF,opsX,zaf,zax,dstL,zal,List.append_eq,List.cons_append,List.nil_append,seval] at c; exact nd c <| nd @ix49 <| nd @ld9 <| nd @ln49 <| @zCg)
theorem c182:type_of% x182.down:=x182.down
noncomputable def N214:=zaA Tryz.f214
noncomputable def x214:=PLift.up (by have c:=zai N214 Tryz.f214; simp only [zao,Tryz.f214,Option.getD_some,zam,opsF,opsX,zaf,zax,dstL,zal,List.append_eq,List.cons_append,List.nil_append,seval] at c; exact nd c <| nd @bs49 <| @zCd)
theorem c214:type_of% x214.down:=x214.down
noncomputable def N155:=zaA Tryz.f155
noncomputable def x155:=PLift.up (by have c:=zai N155 Tryz.f155; simp only [zao,Tryz.f155,Option.getD_some,zam,opsF,opsX,zaf,zax,dstL,zal,List.append_eq,List.cons_append,List.nil_append,seval] at c; exact nd c <| @zCq)
theorem c155:type_of% x155.down:=x155.down
noncomputable def N120:=zaA Tryz.f120
noncomputable def x120:=PLift.up (by have c:=zai N120 Tryz.f120; simp only [zao,Tryz.f120,Option.getD_some,zam,opsF,opsX,zaf,zax,dstL,zal,List.append_eq,List.cons_append,List.nil_append,seval] at c; exact nd c <| @zCX)
theorem c120:type_of% x120.down:=x120.down
noncomputable def N121:=zaA Tryz.f121
noncomputable def x121:=PLift.up (by have c:=zai N121 Tryz.f121; simp only [zao,Tryz.f121,Option.getD_some,zam,opsF,opsX,zaf,zax,dstL,zal,List.append_eq,List.cons_append,List.nil_append,seval] at c; exact nd c <| @zCb)
theorem c121:type_of% x121.down:=x121.down
noncomputable def N122:=zaA Tryz.f122
noncomputable def x122:=PLift.up (by have c:=zai N122 Tryz.f122; simp only [zao,Tryz.f122,Option.getD_some,zam,opsF,opsX,zaf,zax,dstL,zal,List.append_eq,List.cons_append,List.nil_append,seval] at c; exact nd c <| nd @zqB <| nd @zou <| nd @ld4 <| nd @ld9 <| @zBU)
theorem c122:type_of% x122.down:=x122.down
noncomputable def N90:=zaA Tryz.f90
noncomputable def x90:=PLift.up (by have c:=zai N90 Tryz.f90; simp only [zao,Tryz.f90,Option.getD_some,zam,opsF,opsX,zaf,zax,dstL,zal,List.append_eq,List.cons_append,List.nil_append,seval] at c; exact nd c <| nd @zqJ <| nd @zqY <| nd @zkR <| nd @zhJ <| nd @ix24 <| nd @ld23 <| nd @ld3 <| nd @ld9 <| @fi90)
theorem c90:type_of% x90.down:=x90.down
end Go.Proofs.YtemapihoobmonaaGreatDoor
namespace Go.Proofs.YtemapihoobmonaaGreatDoor
open Go.Am
set_option linter.unusedSimpArgs false
set_option linter.unusedVariables false
set_option maxRecDepth 100000
set_option maxHeartbeats 0
theorem zl5 (c:Int) (h:Heap) (K:Value→Heap→Prop) (h1:(97≤c∧c≤122)→K (.bool true) h) (h2:¬ (97≤c∧c≤122)→K (.bool false) h):Ok Tryz.prog tab ov 156 [.int .u8 c] h K:=by
  refine Ok.into rfl zt5 (zaD N156) rfl (m:=8) rfl ?_
  simp -implicitDefEqProofs only [syms,symx,seval,c156]
  repeat' (refine zar (fun c=>?_) (fun c=>?_) <;> simp -implicitDefEqProofs only [syms,symx,seval,c156])
  all_goals first | exact h1 (by omega) | exact h2 (by omega)
theorem zrc (c:Int) (h:Heap) (K:Value→Heap→Prop) (h1:(65≤c∧c≤90)→K (.bool true) h) (h2:¬ (65≤c∧c≤90)→K (.bool false) h):Ok Tryz.prog tab ov 183 [.int .u8 c] h K:=by
  refine Ok.into rfl zvz (zaD N183) rfl (m:=8) rfl ?_
  simp -implicitDefEqProofs only [syms,symx,seval,c183]
  repeat' (refine zar (fun c=>?_) (fun c=>?_) <;> simp -implicitDefEqProofs only [syms,symx,seval,c183])
  all_goals first | exact h1 (by omega) | exact h2 (by omega)
theorem zqV (c:Int) (h:Heap) (K:Value→Heap→Prop) (h1:(48≤c∧c≤57)→K (.bool true) h) (h2:¬ (48≤c∧c≤57)→K (.bool false) h):Ok Tryz.prog tab ov 184 [.int .u8 c] h K:=by
  refine Ok.into rfl zt0 (zaD N184) rfl (m:=8) rfl ?_
  simp -implicitDefEqProofs only [syms,symx,seval,c184]
  repeat' (refine zar (fun c=>?_) (fun c=>?_) <;> simp -implicitDefEqProofs only [syms,symx,seval,c184])
  all_goals first | exact h1 (by omega) | exact h2 (by omega)
theorem zza:zcv tab 23 []=some noTermD.val:=by kernel_rfl
theorem zrk (a:AtomD) (k:Nat) (hk:k < 4):cut a.cells (3+k*2) 2=some (a.arg k).cells:=by
  have:k=0∨k=1∨k=2∨k=3:=by omega
  rcases this with rfl | rfl | rfl | rfl <;> rfl
theorem zoE (a:TermD):Value.agg a.cells.toArray=a.val:=rfl
theorem zpT (a:AtomD):a.cells[0]? = some (.string a.says):=rfl
theorem zpw (a:AtomD):a.cells[1]? = some (.string a.pred):=rfl
theorem ziG (a:AtomD):a.cells[2]? = some (.int .i64 a.n):=rfl
end Go.Proofs.YtemapihoobmonaaGreatDoor
