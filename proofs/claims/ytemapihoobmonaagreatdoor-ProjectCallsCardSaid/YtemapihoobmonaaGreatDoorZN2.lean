/- Walks: a cursor over bytes: numbers, texts, flags. Written out by fill2.py. No condition. -/
import Derived.Test.YtemapihoobmonaaGreatDoorG27
import Derived.Test.YtemapihoobmonaaGreatDoorG22
namespace Go.Proofs.YtemapihoobmonaaGreatDoor
open Go.Am
set_option linter.unusedSimpArgs false
set_option linter.unusedVariables false
set_option maxRecDepth 100000
set_option maxHeartbeats 0
theorem zl0 (s:ByteArray) (o:Nat) (ho:o≤s.size):zba tab 9 (.string s) (some (.int .i64 o)) none none=some (.string (s.extract o s.size)):=by
  unfold zba
  rw [ds9]
  simp only [Option.isSome_none,Bool.false_eq_true,if_false,zbM,zfG,Option.bind_some]
  rw [if_pos (by omega)]
  simp
theorem zuO (s:ByteArray) (o p:Nat) (ho:o≤p) (hp:p≤s.size):zba tab 9 (.string s) (some (.int .i64 o)) (some (.int .i64 p)) none=some (.string (s.extract o p)):=by
  unfold zba
  rw [ds9]
  simp only [Option.isSome_none,Bool.false_eq_true,if_false,zbM,zfG,Option.bind_some]
  rw [if_pos (by omega)]
  simp only [Option.bind_some]
  rw [if_pos (by omega)]
  simp
theorem zfN (a:Int):zaF Tryz.prog (Next.value <$> convert 151 2 (.int .u32 a))=some (Next.value (.int .i64 (IntKind.i64.wrap a))):=by rfl
theorem zky (s:ByteArray) (hs:s.size≤100000) (st:Option Nat) (C:Nat) (h hc:Heap) (z:Ext h hc) (hC:h.size≤C) (q:CurH 197 hc C s st) (K:Value→Heap→Prop)
    (h1k:∀ n o2:Nat,st.bind (numO s)=some (n,o2)→∀ h',Ext h h'→Sm C hc h'→CurH 197 h' C s (some o2)→K (.int .u32 n) h')
    (h0k:st.bind (numO s)=none→∀ h',Ext h h'→Sm C hc h'→CurH 197 h' C s none→K (.int .u32 0) h'):Ok Tryz.prog tab ov 200 [.pointer (some ⟨C,0,none⟩)] hc K:=by
  obtain ⟨o,ho,hst,q0⟩:=q
  have cg:=Sm.refl C hc
  rw [zaa hc]
  have hva:∀ (s:ByteArray) (h:Heap) (K:Value→Heap→Prop),valE (some (.string s)) h K=K (.string s) h:=fun _ _ _=>rfl
  have hsl:=zl0 s o ho
  refine Ok.into rfl zwd (zaD N200) rfl (m:=43) rfl ?_
  simp -implicitDefEqProofs only [syms,symx,seval,c200]
  with_reducible first | refine zcb (by simp only [c200]) (z.upW _ _ (by omega)) ?_
  repeat' ( simp -implicitDefEqProofs only [syms,symx,seval,c200,q0.lay,hva,hsl])
  refine zqj (s.extract o s.size) _ (by rw [ByteArray.size_extract]; omega) _ (fun hd h' x=>?_) (fun n k hd h' x=>?_)
  · have hno:numO s o=none:=by unfold numO; rw [hd]; rfl
    have hbn:st.bind (numO s)=none:=by
      cases st with
      | none=>rfl
      | some p=>rw [hst p rfl]; exact hno
    (( ((with_reducible refine zav ?_ ?_ ?_); (· exact (by (try simp only [lsz]); have:=z.size; omega)); (·  exact x )) ); replace z:=z.overW x (by (try simp only [lsz]); omega); (try replace q0:=q0.over x); (try replace cg:=cg.over x); rw [zaa h'])
    cases hsn:st.isNone
    all_goals
      rw [hsn] at q0
      repeat' (first | simp -implicitDefEqProofs only [syms,symx,seval,c200,q0.lay,show ((15:Int) != 0)=true from rfl] | ((with_reducible refine ⟨z.grw.lay _ _,?_⟩); (intro _ h' zz x _); (try simp only [zat,List.append_nil] at x); (try replace q0:=q0.over x); (try replace cg:=cg.over x); (replace z:=zz); (clear zz); rw [zaa h']))
      refine zae (o:=2) q0 sz4 rfl rfl (by simp) rfl (fun h2' q0' c=>?_)
      replace q0':Holds h2' C (.row [.string s,.int .i64 o,.bool true] 197 false):=q0'
      replace cg:=cg.stepC c
      replace z:=(z.upW _ _ (by omega)).step c hC
      rw [zaa h2']
      repeat' ( simp -implicitDefEqProofs only [syms,symx,seval,c200,q0'.lay])
      exact h0k hbn _ (z.upW _ _ (by omega)) (cg.lay _ _) ⟨o,ho,nofun,q0'.on _ _⟩
  · have hno:numO s o=some (n,o+k):=by unfold numO; rw [hd]; rfl
    have hle:=zhA ho hno
    (( ((with_reducible refine zav ?_ ?_ ?_); (· exact (by (try simp only [lsz]); have:=z.size; omega)); (·  exact x )) ); replace z:=z.overW x (by (try simp only [lsz]); omega); (try replace q0:=q0.over x); (try replace cg:=cg.over x); rw [zaa h'])
    cases st with
    | none =>
      replace q0:Holds h' C (.row [.string s,.int .i64 o,.bool true] 197 false):=q0
      repeat' (first | simp -implicitDefEqProofs only [syms,symx,seval,c200,q0.lay] | ((with_reducible refine ⟨z.grw.lay _ _,?_⟩); (intro _ h' zz x _); (try simp only [zat,List.append_nil] at x); (try replace q0:=q0.over x); (try replace cg:=cg.over x); (replace z:=zz); (clear zz); rw [zaa h']))
      refine zae (o:=2) q0 sz4 rfl rfl (by simp) rfl (fun h2' q0' c=>?_)
      replace q0':Holds h2' C (.row [.string s,.int .i64 o,.bool true] 197 false):=q0'
      replace cg:=cg.stepC c
      replace z:=(z.upW _ _ (by omega)).step c hC
      rw [zaa h2']
      repeat' ( simp -implicitDefEqProofs only [syms,symx,seval,c200,q0'.lay])
      exact h0k rfl _ (z.upW _ _ (by omega)) (cg.lay _ _) ⟨o,ho,nofun,q0'.on _ _⟩
    | some p =>
      obtain rfl:=hst p rfl
      replace q0:Holds h' C (.row [.string s,.int .i64 p,.bool false] 197 false):=q0
      have hw:IntKind.i64.wrap ((p:Int)+(k:Int))=((p+k:Nat):Int):=by rw [zad (by omega) (by omega)]; omega
      repeat' (first | simp -implicitDefEqProofs only [syms,symx,seval,c200,q0.lay,bne_self_eq_false] | ((with_reducible refine ⟨z.grw.lay _ _,?_⟩); (intro _ h' zz x _); (try simp only [zat,List.append_nil] at x); (try replace q0:=q0.over x); (try replace cg:=cg.over x); (replace z:=zz); (clear zz); rw [zaa h']))
      refine zae (o:=2) q0 sz4 rfl rfl (by simp) rfl (fun h2' q0' c=>?_)
      replace q0':Holds h2' C (.row [.string s,.int .i64 p,.bool false] 197 false):=q0'
      replace cg:=cg.stepC c
      replace z:=(z.upW _ _ (by omega)).step c hC
      rw [zaa h2']
      repeat' ( simp -implicitDefEqProofs only [syms,symx,seval,c200,q0'.lay,hw])
      refine zae (o:=1) q0' sz3 rfl rfl (by simp) rfl (fun h3' q0'' c=>?_)
      replace q0'':Holds h3' C (.row [.string s,.int .i64 (p+k:Nat),.bool false] 197 false):=q0''
      replace cg:=cg.stepC c
      replace z:=(z.upW _ _ (by omega)).step c hC
      rw [zaa h3']
      repeat' ( simp -implicitDefEqProofs only [syms,symx,seval,c200])
      exact h1k n (p+k) hno _ (z.upW _ _ (by omega)) (cg.lay _ _) ⟨p+k,hle.1,fun _ e=>(Option.some.inj e).symm,q0''.on _ _⟩
theorem zxc (s:ByteArray) (hs:s.size≤100000) (st:Option Nat) (C:Nat) (h hc:Heap) (z:Ext h hc) (hC:h.size≤C) (q:CurH 197 hc C s st) (K:Value→Heap→Prop)
    (h1k:∀ (x:ByteArray) (o2:Nat),st.bind (zbg s)=some (x,o2)→∀ h',Ext h h'→Sm C hc h'→CurH 197 h' C s (some o2)→K (.string x) h')
    (h0k:st.bind (zbg s)=none→∀ h',Ext h h'→Sm C hc h'→CurH 197 h' C s none→K (.string ⟨#[]⟩) h'):Ok Tryz.prog tab ov 199 [.pointer (some ⟨C,0,none⟩)] hc K:=by
  have hst:∀ p,st=some p→p≤s.size:=fun p hp=>q.elim fun o x=>by rw [x.2.1 p hp]; exact x.1
  have cg:=Sm.refl C hc
  rw [zaa hc]
  have hva:∀ (s:ByteArray) (h:Heap) (K:Value→Heap→Prop),valE (some (.string s)) h K=K (.string s) h:=fun _ _ _=>rfl
  refine Ok.into rfl zuW (zaD N199) rfl (m:=54) rfl ?_
  repeat' ( simp -implicitDefEqProofs only [syms,symx,seval,c199])
  refine zky s hs st C h _ (z.upW _ _ (by omega)) hC (q.lay _ _) _ (fun n o2 hno h' z2 s2 q2=>?_) (fun hno h' z2 s2 q2=>?_)
  · obtain ⟨ho,hn⟩:=znn hst hno
    have htx:=zlf hno
    obtain ⟨o',ho',he,q0⟩:=q2
    obtain rfl:=he o2 rfl
    replace q0:Holds h' C (.row [.string s,.int .i64 o2,.bool false] 197 false):=q0
    replace z:=z2
    replace cg:=cg.onto s2
    rw [zaa h']
    simp -implicitDefEqProofs only [syms,symx,seval,c199]
    rw [zbb rfl rfl rfl (zfN _) rfl,zad (by omega) (by omega)]
    simp -implicitDefEqProofs only [syms,symx,seval,c199]
    have hsub:IntKind.i64.wrap ((s.size:Int) - (o2:Int))=((s.size - o2:Nat):Int):=by rw [zad (by omega) (by omega)]; omega
    have hadd:IntKind.i64.wrap ((o2:Int)+(n:Int))=((o2+n:Nat):Int):=by rw [zad (by omega) (by omega)]; omega
    with_reducible first | refine zcb (by simp only [c199]) (z.upW _ _ (by omega)) ?_
    repeat' (first | simp -implicitDefEqProofs only [syms,symx,seval,c199,q0.lay,hva,hsub] | ((with_reducible  apply zar ) <;> intro _))
    · rename_i hgt
      refine zae (o:=2) q0 sz4 rfl rfl (by simp) rfl (fun h2' q0' c=>?_)
      replace q0':Holds h2' C (.row [.string s,.int .i64 o2,.bool true] 197 false):=q0'
      refine zbi (A:=C) (by kernel_rfl) (by rw [zag]; have:=z.size; omega) (by omega) (by simpa only [zat,zag,List.append_nil,List.length_nil,Nat.add_zero] using c) ?_
      replace cg:=cg.stepC c
      replace z:=(z.upW [] (h'.size+0) (by have:=z.size; omega)).step c hC
      clear q0
      rw [zaa h2']
      simp -implicitDefEqProofs only [syms,symx,seval,c199]
      ((with_reducible refine ⟨z.grw.lay _ _,?_⟩); (intro _ h' zz x _); (try simp only [zat,List.append_nil] at x); (try replace q0':=q0'.over x); (try replace cg:=cg.over x); (replace z:=zz); (clear zz); rw [zaa h'])
      repeat' ( simp -implicitDefEqProofs only [syms,symx,seval,c199,q0'.lay])
      exact h0k (by rw [htx,if_neg (by omega)]) _ (z.upW _ _ (by omega)) (cg.lay _ _) ⟨o2,ho,nofun,q0'.on _ _⟩
    · rename_i hgt
      have hle:n≤s.size - o2:=by omega
      rw [if_pos hle] at htx
      refine zae (o:=2) q0 sz4 rfl rfl (by simp) rfl (fun h2' q0' c=>?_)
      replace q0':Holds h2' C (.row [.string s,.int .i64 o2,.bool false] 197 false):=q0'
      refine zbi (A:=C) (by kernel_rfl) (by rw [zag]; have:=z.size; omega) (by omega) (by simpa only [zat,zag,List.append_nil,List.length_nil,Nat.add_zero] using c) ?_
      replace cg:=cg.stepC c
      replace z:=(z.upW [] (h'.size+0) (by have:=z.size; omega)).step c hC
      clear q0
      rw [zaa h2']
      simp -implicitDefEqProofs only [syms,symx,seval,c199]
      ((with_reducible refine ⟨z.grw.lay _ _,?_⟩); (intro _ h' zz x _); (try simp only [zat,List.append_nil] at x); (try replace q0':=q0'.over x); (try replace cg:=cg.over x); (replace z:=zz); (clear zz); rw [zaa h'])
      repeat' ( simp -implicitDefEqProofs only [syms,symx,seval,c199,q0'.lay,hadd])
      have hcut:=zuO s o2 (o2+n) (by omega) (by omega)
      refine zae (o:=1) q0' sz3 rfl rfl (by simp) rfl (fun h3' q0'' c=>?_)
      replace q0'':Holds h3' C (.row [.string s,.int .i64 (o2+n:Nat),.bool false] 197 false):=q0''
      replace cg:=cg.stepC c
      replace z:=(z.upW _ _ (by omega)).step c hC
      clear q0'
      rw [zaa h3']
      simp -implicitDefEqProofs only [syms,symx,seval,c199]
      with_reducible first | refine zcb (by simp only [c199]) (z.upW _ _ (by omega)) ?_
      repeat' (first | simp -implicitDefEqProofs only [syms,symx,seval,c199,q0''.lay,hva,hcut] | ((with_reducible refine ⟨z.grw.lay _ _,?_⟩); (intro _ h' zz x _); (try simp only [zat,List.append_nil] at x); (try replace q0'':=q0''.over x); (try replace cg:=cg.over x); (replace z:=zz); (clear zz); rw [zaa h']))
      exact h1k _ _ htx _ (z.upW _ _ (by omega)) (cg.lay _ _) ⟨o2+n,by omega,fun _ e=>(Option.some.inj e).symm,q0''.on _ _⟩
  · have htx:=zkF hno
    obtain ⟨o',ho',he,q0⟩:=q2
    replace q0:Holds h' C (.row [.string s,.int .i64 o',.bool true] 197 false):=q0
    replace z:=z2
    replace cg:=cg.onto s2
    rw [zaa h']
    simp -implicitDefEqProofs only [syms,symx,seval,c199]
    rw [zbb rfl rfl rfl (zfN _) rfl,zad (by omega) (by omega)]
    simp -implicitDefEqProofs only [syms,symx,seval,c199]
    with_reducible first | refine zcb (by simp only [c199]) (z.upW _ _ (by omega)) ?_
    repeat' ( simp -implicitDefEqProofs only [syms,symx,seval,c199,q0.lay])
    refine zae (o:=2) q0 sz4 rfl rfl (by simp) rfl (fun h2' q0' c=>?_)
    replace q0':Holds h2' C (.row [.string s,.int .i64 o',.bool true] 197 false):=q0'
    refine zbi (A:=C) (by kernel_rfl) (by rw [zag]; have:=z.size; omega) (by omega) (by simpa only [zat,zag,List.append_nil,List.length_nil,Nat.add_zero] using c) ?_
    replace cg:=cg.stepC c
    replace z:=(z.upW [] (h'.size+0) (by have:=z.size; omega)).step c hC
    clear q0
    rw [zaa h2']
    simp -implicitDefEqProofs only [syms,symx,seval,c199]
    ((with_reducible refine ⟨z.grw.lay _ _,?_⟩); (intro _ h' zz x _); (try simp only [zat,List.append_nil] at x); (try replace q0':=q0'.over x); (try replace cg:=cg.over x); (replace z:=zz); (clear zz); rw [zaa h'])
    repeat' ( simp -implicitDefEqProofs only [syms,symx,seval,c199,q0'.lay])
    exact h0k htx _ (z.upW _ _ (by omega)) (cg.lay _ _) ⟨o',ho',nofun,q0'.on _ _⟩
theorem zwI (s:ByteArray) (hs:s.size≤100000) (st:Option Nat) (C:Nat) (h hc:Heap) (z:Ext h hc) (hC:h.size≤C) (q:CurH 197 hc C s st) (K:Value→Heap→Prop)
    (h1k:∀ (b:Bool) (o2:Nat),st.bind (zbP s)=some (b,o2)→∀ h',Ext h h'→Sm C hc h'→CurH 197 h' C s (some o2)→K (.bool b) h')
    (h0k:st.bind (zbP s)=none→∀ h',Ext h h'→Sm C hc h'→CurH 197 h' C s none→K (.bool false) h'):Ok Tryz.prog tab ov 201 [.pointer (some ⟨C,0,none⟩)] hc K:=by
  obtain ⟨o,ho,hst,q0⟩:=q
  have cg:=Sm.refl C hc
  rw [zaa hc]
  have hva:∀ (s:ByteArray) (h:Heap) (K:Value→Heap→Prop),valE (some (.string s)) h K=K (.string s) h:=fun _ _ _=>rfl
  refine Ok.into rfl zui (zaD N201) rfl (m:=55) rfl ?_
  simp -implicitDefEqProofs only [syms,symx,seval,c201]
  with_reducible first | refine zcb (by simp only [c201]) (z.upW _ _ (by omega)) ?_
  cases st with
  | none =>
    replace q0:Holds hc C (.row [.string s,.int .i64 o,.bool true] 197 false):=q0
    repeat' ( simp -implicitDefEqProofs only [syms,symx,seval,c201,q0.lay])
    refine zae (o:=2) q0 sz4 rfl rfl (by simp) rfl (fun h2' q0' c=>?_)
    replace q0':Holds h2' C (.row [.string s,.int .i64 o,.bool true] 197 false):=q0'
    refine zbi (A:=C) (by kernel_rfl) (by rw [zag]; have:=z.size; omega) (by omega) (by simpa only [zat,zag,List.append_nil,List.length_nil,Nat.add_zero] using c) ?_
    replace cg:=cg.stepC c
    replace z:=(z.upW [] (hc.size+0) (by have:=z.size; omega)).step c hC
    clear q0
    rw [zaa h2']
    simp -implicitDefEqProofs only [syms,symx,seval,c201]
    ((with_reducible refine ⟨z.grw.lay _ _,?_⟩); (intro _ h' zz x _); (try simp only [zat,List.append_nil] at x); (try replace q0':=q0'.over x); (try replace cg:=cg.over x); (replace z:=zz); (clear zz); rw [zaa h'])
    repeat' ( simp -implicitDefEqProofs only [syms,symx,seval,c201,q0'.lay])
    exact h0k rfl _ (z.upW _ _ (by omega)) (cg.lay _ _) ⟨o,ho,nofun,q0'.on _ _⟩
  | some p =>
    obtain rfl:=hst p rfl
    replace q0:Holds hc C (.row [.string s,.int .i64 p,.bool false] 197 false):=q0
    have hbl:=zdG s p
    repeat' (first | simp -implicitDefEqProofs only [syms,symx,seval,c201,q0.lay,hva,zdL] | ((with_reducible first | apply zar | apply zd9 ) <;> intro _) | ((with_reducible_and_instances apply zbm); (· exact Tryz.underlying9); (· rfl); (· rfl); (· omega); (·  omega )))
    · rename_i he
      refine zae (o:=2) q0 sz4 rfl rfl (by simp) rfl (fun h2' q0' c=>?_)
      replace q0':Holds h2' C (.row [.string s,.int .i64 p,.bool true] 197 false):=q0'
      refine zbi (A:=C) (by kernel_rfl) (by rw [zag]; have:=z.size; omega) (by omega) (by simpa only [zat,zag,List.append_nil,List.length_nil,Nat.add_zero] using c) ?_
      replace cg:=cg.stepC c
      replace z:=(z.upW [] (hc.size+0) (by have:=z.size; omega)).step c hC
      clear q0
      rw [zaa h2']
      simp -implicitDefEqProofs only [syms,symx,seval,c201]
      ((with_reducible refine ⟨z.grw.lay _ _,?_⟩); (intro _ h' zz x _); (try simp only [zat,List.append_nil] at x); (try replace q0':=q0'.over x); (try replace cg:=cg.over x); (replace z:=zz); (clear zz); rw [zaa h'])
      repeat' ( simp -implicitDefEqProofs only [syms,symx,seval,c201,q0'.lay])
      exact h0k (by show zbP s p=none; unfold zbP; exact if_neg (by omega)) _ (z.upW _ _ (by omega)) (cg.lay _ _) ⟨p,ho,nofun,q0'.on _ _⟩
    · rename_i he hg
      rw [zfw] at hg
      refine zae (o:=2) q0 sz4 rfl rfl (by simp) rfl (fun h2' q0' c=>?_)
      replace q0':Holds h2' C (.row [.string s,.int .i64 p,.bool true] 197 false):=q0'
      refine zbi (A:=C) (by kernel_rfl) (by rw [zag]; have:=z.size; omega) (by omega) (by simpa only [zat,zag,List.append_nil,List.length_nil,Nat.add_zero] using c) ?_
      replace cg:=cg.stepC c
      replace z:=(z.upW [] (hc.size+0) (by have:=z.size; omega)).step c hC
      clear q0
      rw [zaa h2']
      simp -implicitDefEqProofs only [syms,symx,seval,c201]
      ((with_reducible refine ⟨z.grw.lay _ _,?_⟩); (intro _ h' zz x _); (try simp only [zat,List.append_nil] at x); (try replace q0':=q0'.over x); (try replace cg:=cg.over x); (replace z:=zz); (clear zz); rw [zaa h'])
      repeat' ( simp -implicitDefEqProofs only [syms,symx,seval,c201,q0'.lay])
      exact h0k (by show zbP s p=none; unfold zbP; exact if_neg (by omega)) _ (z.upW _ _ (by omega)) (cg.lay _ _) ⟨p,ho,nofun,q0'.on _ _⟩
    · rename_i he hg
      rw [zfw] at hg
      have hw1:IntKind.i64.wrap ((p:Int)+1)=((p+1:Nat):Int):=by rw [zad (by omega) (by omega)]; omega
      have hw2:IntKind.i64.wrap (((p+1:Nat):Int) - 1)=((p:Nat):Int):=by rw [zad (by omega) (by omega)]; omega
      refine zae (o:=2) q0 sz4 rfl rfl (by simp) rfl (fun h2' q0' c=>?_)
      replace q0':Holds h2' C (.row [.string s,.int .i64 p,.bool false] 197 false):=q0'
      refine zbi (A:=C) (by kernel_rfl) (by rw [zag]; have:=z.size; omega) (by omega) (by simpa only [zat,zag,List.append_nil,List.length_nil,Nat.add_zero] using c) ?_
      replace cg:=cg.stepC c
      replace z:=(z.upW [] (hc.size+0) (by have:=z.size; omega)).step c hC
      clear q0
      rw [zaa h2']
      simp -implicitDefEqProofs only [syms,symx,seval,c201]
      ((with_reducible refine ⟨z.grw.lay _ _,?_⟩); (intro _ h' zz x _); (try simp only [zat,List.append_nil] at x); (try replace q0':=q0'.over x); (try replace cg:=cg.over x); (replace z:=zz); (clear zz); rw [zaa h'])
      repeat' ( simp -implicitDefEqProofs only [syms,symx,seval,c201,q0'.lay,hw1])
      refine zae (o:=1) q0' sz3 rfl rfl (by simp) rfl (fun h3' q0'' c=>?_)
      replace q0'':Holds h3' C (.row [.string s,.int .i64 (p+1:Nat),.bool false] 197 false):=q0''
      replace cg:=cg.stepC c
      replace z:=(z.upW _ _ (by omega)).step c hC
      clear q0'
      rw [zaa h3']
      simp -implicitDefEqProofs only [syms,symx,seval,c201]
      with_reducible first | refine zcb (by simp only [c201]) (z.upW _ _ (by omega)) ?_
      repeat' (first | simp -implicitDefEqProofs only [syms,symx,seval,c201,q0''.lay,hva,hw2,zdL] | ((with_reducible  apply zd9 ) <;> intro _) | ((with_reducible_and_instances apply zbm); (· exact Tryz.underlying9); (· rfl); (· rfl); (· omega); (·  omega )) | ((with_reducible refine ⟨z.grw.lay _ _,?_⟩); (intro _ h' zz x _); (try simp only [zat,List.append_nil] at x); (try replace q0'':=q0''.over x); (try replace cg:=cg.over x); (replace z:=zz); (clear zz); rw [zaa h']))
      all_goals first
        | (have hq:zbr s p=1:=by assumption
           rw [zfw] at hq
           exact h1k true (p+1) (by show zbP s p=_; unfold zbP; rw [if_pos (by omega),decide_eq_true (show zaP s p=1 by omega)]) _ (z.upW _ _ (by omega)) (cg.lay _ _) ⟨p+1,by omega,fun _ e=>(Option.some.inj e).symm,q0''.on _ _⟩)
        | (have hq:¬ zbr s p=1:=by assumption
           rw [zfw] at hq
           exact h1k false (p+1) (by show zbP s p=_; unfold zbP; rw [if_pos (by omega),decide_eq_false (show ¬ zaP s p=1 by omega)]) _ (z.upW _ _ (by omega)) (cg.lay _ _) ⟨p+1,by omega,fun _ e=>(Option.some.inj e).symm,q0''.on _ _⟩)
end Go.Proofs.YtemapihoobmonaaGreatDoor
