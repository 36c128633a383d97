/- Walks: an atom read, requests read. Written out by fill2.py. No condition. -/
import Derived.Test.YtemapihoobmonaaGreatDoorG34
import Derived.Test.YtemapihoobmonaaGreatDoorG22
import Derived.Test.YtemapihoobmonaaGreatDoorGCodec3
namespace Go.Proofs.YtemapihoobmonaaGreatDoor
open Go.Am
set_option linter.unusedSimpArgs false
set_option linter.unusedVariables false
set_option maxRecDepth 100000
set_option maxHeartbeats 0
theorem zzA (s:ByteArray):zcv tab 195 [(0,.string s)]=some (.agg ⟨[.string s,.int .i64 0,.bool false]⟩):=by kernel_rfl
theorem zBB (s:ByteArray):zcv tab 197 [(0,.agg ⟨[.string s,.int .i64 0,.bool false]⟩)]=some (.agg ⟨[.string s,.int .i64 0,.bool false]⟩):=by kernel_rfl
noncomputable def xG4:=PLift.up (by have c:=zys N139 15 Tryz.f139; simp only [zao,Tryz.f139,Option.getD_some,zeN,opsG,zaf,zax,dstL,zal,kcOf,List.append_eq,List.cons_append,List.nil_append,Nat.zero_add,Nat.reduceAdd,Nat.reduceEqDiff,false_implies,true_implies,and_true,true_and] at c; exact c)
theorem cG4:type_of% xG4.down:=xG4.down
theorem zA1 (K:Value→Heap→Prop) (e:Env) (h:Heap):finE tab Tryz.f139 K .ret e h=valE (zaX tab 26 (e.get 2) h) h (fun x h'=>K (.tuple #[x,e.get 3,e.get 4]) h'):=by
  have hr:Tryz.f139.results=#[.cell 2 26,.tmp 3,.tmp 4]:=rfl
  cases hl:zaX tab 26 (e.get 2) h with
  | none=>simp [finE,zaQ,hr,zbN,valE,hl]
  | some x=>simp [finE,zaQ,hr,zbN,valE,hl]
theorem zne (s:ByteArray) (hs:s.size≤100000) (h:Heap) (hsp:SpaceAt 1 h) (K:Value→Heap→Prop)
    (h1k:∀ (a:AtomD) (k:Nat),zcd s 0=some (a,k)→∀ h',Ext h h'→K (.tuple #[a.val,.int .i64 k,.int .i64 0]) h')
    (h0k:zcd s 0=none→∀ h',Ext h h'→K (.tuple #[noAtomD.val,.int .i64 0,.int .i64 15]) h'):Ok Tryz.prog tab ov 139 [.string s] h K:=by
  rw [zaa h]
  have z:=Ext.refl h
  have hva:∀ (s:ByteArray) (h:Heap) (K:Value→Heap→Prop),valE (some (.string s)) h K=K (.string s) h:=fun _ _ _=>rfl
  have hvg:∀ (c:List Value) (h:Heap) (K:Value→Heap→Prop),valE (some (.agg ⟨c⟩)) h K=K (.agg ⟨c⟩) h:=fun _ _ _=>rfl
  refine Ok.into rfl zuw (zaD N139) rfl (m:=23) rfl ?_
  repeat' ( simp -implicitDefEqProofs only [syms,symx,seval,c139,hva,hvg,zzA,zBB])
  refine zkp s hs 0 (h.size+1) h _ hsp (z.upW _ _ (by omega)) (by omega) ⟨0,Nat.zero_le _,fun _ e=>(Option.some.inj e).symm,⟨by rw [zag]; simp,by rw [zbc]; rfl⟩⟩ _ (fun a o2 ha h' z2 s2 q2=>?_) (fun ha h' z2 s2 q2=>?_)
  all_goals
    have q0:Holds h' (h.size+0) (.row noAtomD.cells 26 false):=Holds.sm (h:=h.lay _ _) ⟨by rw [zag]; simp,by rw [zbc]; rfl⟩ s2 (by omega)
    clear z
    have z:=z2
    obtain ⟨C,hC⟩:∃ C,C=h.size+1:=⟨_,rfl⟩
    obtain ⟨B,hB⟩:∃ B,B=h.size+0:=⟨_,rfl⟩
    rw [← hC] at q2 ⊢
    rw [← hB] at q0 ⊢
    have hCB:C≠B:=by omega
    have hz0:=z.size
    clear z2 s2
    obtain ⟨o5,ho5,he5,qq⟩:=q2
    rw [zaa h']
  · obtain rfl:=he5 o2 rfl
    replace qq:Holds h' C (.row [.string s,.int .i64 o2,.bool false] 197 false):=qq
    simp -implicitDefEqProofs only [syms,symx,seval,c139]
    refine zae (o:=0) q0 sz26 (zaG _) rfl (by show 0+11≤11; decide) rfl (fun h10 q0' c=>?_)
    replace q0':Holds h10 B (.row a.cells 26 false):=q0'
    replace qq:=qq.stepL c hCB
    replace z:=(z.upW _ _ (by omega)).step c (by omega)
    clear q0
    rw [zaa h10]
    simp -implicitDefEqProofs only [syms,symx,seval,c139,qq.lay,q0'.lay,↓zaN,zaO,zas]
    refine zz0 (K:=(N139 15)) (by simp only [c139]) (ps:=[(0,5),(5,6)]) (by kernel_rfl) (z.upW _ _ (by omega)) ?_
    repeat' ( simp -implicitDefEqProofs only [syms,symx,seval,c139,symg,cG4,qq.lay,q0'.lay,↓zaN,zaO,zas])
    have hq0l:=q0'.lt
    refine zur (o:=0) q0' sz26 (zaG _) rfl (by show 0+11≤11; decide) rfl (fun h11 q0'' c hlow=>?_)
    replace q0'':Holds h11 B (.row a.cells 26 false):=q0''
    refine zvK (A:=B) (by rw [zag]; have:=z.size; omega) (by omega) (by rw [zag]; omega) (by simpa only [zat,zag,List.append_nil,List.length_nil,Nat.add_zero] using c) hlow ?_
    replace z:=(z.upW [] (h10.size+0) (by have:=z.size; omega)).step c (by omega)
    clear q0' qq
    rw [zaa h11]
    simp -implicitDefEqProofs only [syms,symx,seval,c139,symg,cG4]
    refine ⟨by (simp only [zdx,List.getD_cons_zero,List.getD_cons_succ,Bool.and_true,Bool.and_eq_true]; (repeat' apply And.intro) <;> first | exact zBs (by omega) (by omega) | exact zBh (by omega)),?_⟩
    ((with_reducible refine ⟨z.grw.lay _ _,?_⟩); (intro _ h' zz x _); (try simp only [zat,List.append_nil] at x); (try replace q0'':=q0''.over x); (replace z:=zz); (clear zz); rw [zaa h'])
    simp -implicitDefEqProofs only [syms,symx,seval,c139,zA1,q0''.lay,↓zaN,zaO,zas]
    exact h1k _ _ ha _ (z.upW _ _ (by omega))
  · replace qq:Holds h' C (.row [.string s,.int .i64 o5,.bool true] 197 false):=qq
    simp -implicitDefEqProofs only [syms,symx,seval,c139]
    refine zae (o:=0) q0 sz26 (zaG _) rfl (by show 0+11≤11; decide) rfl (fun h10 q0' c=>?_)
    replace q0':Holds h10 B (.row noAtomD.cells 26 false):=q0'
    replace qq:=qq.stepL c hCB
    replace z:=(z.upW _ _ (by omega)).step c (by omega)
    clear q0
    rw [zaa h10]
    repeat' ( simp -implicitDefEqProofs only [syms,symx,seval,c139,qq.lay,zfZ,zas])
    refine zae (o:=0) q0' sz26 (zaG _) rfl (by show 0+11≤11; decide) rfl (fun h11 q0'' c=>?_)
    replace q0'':Holds h11 B (.row noAtomD.cells 26 false):=q0''
    replace z:=(z.upW _ _ (by omega)).step c (by omega)
    rw [zaa h11]
    simp -implicitDefEqProofs only [syms,symx,seval,c139,zA1,q0''.lay,↓zaN,zaO,zas]
    exact h0k ha _ (z.upW _ _ (by omega))
theorem zA9 (s:ByteArray) (o:Nat) (ho:o≤s.size):zba tab 9 (.string s) none (some (.int .i64 o)) none=some (.string (s.extract 0 o)):=by
  unfold zba
  rw [ds9]
  simp only [Option.isSome_none,Bool.false_eq_true,if_false,zbM,zfG,Option.bind_some]
  rw [if_pos (by omega)]
  simp
theorem zj7 (a:AtomD):a.val.cells.size=11:=rfl
theorem zkb (a:AtomD):a.cells.length=11:=rfl
theorem zjB (a:AtomD):a.cells.all Am.one=true:=rfl
theorem zjE (z0 z1 z2 z3 z4 z5 z6 z7 z8 z9 z10:Value):List.drop 11 [z0,z1,z2,z3,z4,z5,z6,z7,z8,z9,z10]=[]:=rfl
theorem zop:decide (11≤11)=true:=rfl
theorem zls (s:ByteArray) (hs:s.size≤100000) (e:Int) (n C:Nat) (hn:n≤100000) (h hc:Heap) (z:Ext h hc) (hC:h.size≤C) (q:Holds hc C (.row [.string s,.int .i64 e] 147 false)) (K:Value→Heap→Prop)
    (h1k:e=0→n≤s.size→∀ h',Ext h h'→Sm C hc h'→Holds h' C (.row [.string (s.extract n s.size),.int .i64 0] 147 false)→K (.string (s.extract 0 n)) h')
    (h0k:¬ (e=0∧n≤s.size)→∀ h' e',e'≠0→Ext h h'→Sm C hc h'→Holds h' C (.row [.string s,.int .i64 e'] 147 false)→K (.string ⟨#[]⟩) h'):Ok Tryz.prog tab ov 138 [.pointer (some ⟨C,0,none⟩),.int .i64 n] hc K:=by
  have cg:=Sm.refl C hc
  rw [zaa hc]
  have hva:∀ (s:ByteArray) (h:Heap) (K:Value→Heap→Prop),valE (some (.string s)) h K=K (.string s) h:=fun _ _ _=>rfl
  refine Ok.into rfl ztY (zaD N138) rfl (m:=42) rfl ?_
  by_cases he:e=0
  · subst he
    by_cases hle:n≤s.size
    · have h1:=zA9 s n hle
      have h2:=zl0 s n hle
      simp -implicitDefEqProofs only [syms,symx,seval,c138,q.lay,hva,beq_self_eq_true]
      refine zar (fun hx=>absurd hx (by omega)) (fun _=>?_)
      simp -implicitDefEqProofs only [syms,symx,seval,c138,q.lay,hva,bne_self_eq_false,h1,h2]
      refine zae (o:=0) q sz9 rfl rfl (by simp) rfl (fun h9 q' c=>?_)
      replace q':Holds h9 C (.row [.string (s.extract n s.size),.int .i64 0] 147 false):=q'
      replace cg:=cg.stepC c
      replace z:=z.stepW c hC (by omega)
      rw [zaa h9]
      simp -implicitDefEqProofs only [syms,symx,seval,c138,hva]
      exact h1k rfl hle _ (z.upW _ _ (by omega)) (cg.lay _ _) (q'.on _ _)
    · simp -implicitDefEqProofs only [syms,symx,seval,c138,q.lay,hva,beq_self_eq_true]
      refine zar (fun _=>?_) (fun hx=>absurd hx (by omega))
      simp -implicitDefEqProofs only [syms,symx,seval,c138,q.lay,hva]
      refine zae (o:=1) q sz44 rfl rfl (by simp) rfl (fun h9 q' c=>?_)
      replace q':Holds h9 C (.row [.string s,.int .i64 15] 147 false):=q'
      replace cg:=cg.stepC c
      replace z:=z.stepW c hC (by omega)
      rw [zaa h9]
      simp -implicitDefEqProofs only [syms,symx,seval,c138,q'.lay,show ((15:Int) != 0)=true from rfl]
      exact h0k (by omega) _ 15 (by decide) (z.upW _ _ (by omega)) (cg.lay _ _) (q'.on _ _)
  · simp -implicitDefEqProofs only [syms,symx,seval,c138,q.lay,hva,show (e == 0)=false by simpa using he,show (e != 0)=true by simpa using he]
    exact h0k (fun hx=>he hx.1) _ e he (z.upW _ _ (by omega)) (cg.lay _ _) (q.on _ _)
theorem zhg (a:Int):zaF Tryz.prog (Next.value <$> convert 5 3 (.int .u8 a))=some (Next.value (.int .i64 (IntKind.i64.wrap a))):=by rfl
theorem zAn (s:ByteArray) (hs:s.size≤100000) (C:Nat) (h hc:Heap) (z:Ext h hc) (hC:h.size≤C) (q:Holds hc C (.row [.string s,.int .i64 0] 147 false)) (K:Value→Heap→Prop)
    (h1k:0 < s.size→∀ h',Ext h h'→Sm C hc h'→Holds h' C (.row [.string (s.extract 1 s.size),.int .i64 0] 147 false)→K (.int .i64 (zaP s 0)) h')
    (h0k:s.size=0→∀ h' e',e'≠0→Ext h h'→Sm C hc h'→Holds h' C (.row [.string s,.int .i64 e'] 147 false)→K (.int .i64 0) h'):Ok Tryz.prog tab ov 104 [.pointer (some ⟨C,0,none⟩)] hc K:=by
  have cg:=Sm.refl C hc
  rw [zaa hc]
  have hva:∀ (s:ByteArray) (h:Heap) (K:Value→Heap→Prop),valE (some (.string s)) h K=K (.string s) h:=fun _ _ _=>rfl
  refine Ok.into rfl zuy (zaD N104) rfl (m:=10) rfl ?_
  simp -implicitDefEqProofs only [syms,symx,seval,c104]
  refine zls s hs 0 1 C (by decide) h _ (z.upW _ _ (by omega)) hC (q.on _ _) _ (fun _ hle h' z2 s2 q2=>?_) (fun hle h' e' he z2 s2 q2=>?_)
  · replace cg:=cg.onto s2
    rw [zaa h']
    have hsz:(s.extract 0 1).size=1:=by rw [ByteArray.size_extract]; omega
    have hne:¬ s.extract 0 1=⟨#[]⟩:=fun e=>by rw [e] at hsz; cases hsz
    have hb0:zbr (s.extract 0 1) 0=(zaP s 0:Int):=by rw [zfw,zgn (by omega)]
    have hbl:=zdG s 0
    simp -implicitDefEqProofs only [syms,symx,seval,c104,hva]
    refine zar (fun _=>?_) (fun hx=>absurd hne (by simpa using hx))
    simp -implicitDefEqProofs only [syms,symx,seval,c104]
    refine zbm Tryz.underlying9 rfl rfl (by omega) (by omega) ?_
    rw [show ((0:Int).toNat)=0 from rfl,hb0]
    simp -implicitDefEqProofs only [syms,symx,seval,c104]
    rw [zbb rfl rfl rfl (zhg _) rfl,zad (by omega) (by omega)]
    simp -implicitDefEqProofs only [syms,symx,seval,c104]
    exact h1k (by omega) _ (z2.upW _ _ (by omega)) (cg.lay _ _) (q2.on _ _)
  · replace cg:=cg.onto s2
    rw [zaa h']
    simp -implicitDefEqProofs only [syms,symx,seval,c104,hva]
    refine zar (fun hx=>absurd rfl hx) (fun _=>?_)
    simp -implicitDefEqProofs only [syms,symx,seval,c104]
    exact h0k (by omega) _ e' he (z2.upW _ _ (by omega)) (cg.lay _ _) (q2.on _ _)
theorem zgG (s:ByteArray) (hs:s.size≤100000) (e:Int) (C:Nat) (h hc:Heap) (hsp:SpaceAt 1 h) (z:Ext h hc) (hC:h.size≤C) (q:Holds hc C (.row [.string s,.int .i64 e] 147 false)) (K:Value→Heap→Prop)
    (h1k:e=0→∀ a k,zcd s 0=some (a,k)→∀ h',Ext h h'→Sm C hc h'→Holds h' C (.row [.string (s.extract k s.size),.int .i64 0] 147 false)→K a.val h')
    (h0k:¬ (e=0∧zcd s 0≠none)→∀ h' e',e'≠0→Ext h h'→Sm C hc h'→Holds h' C (.row [.string s,.int .i64 e'] 147 false)→K noAtomD.val h'):Ok Tryz.prog tab ov 105 [.pointer (some ⟨C,0,none⟩)] hc K:=by
  have cg:=Sm.refl C hc
  have hzc:=z.size
  have hql:=q.lt
  rw [zaa hc]
  have hva:∀ (s:ByteArray) (h:Heap) (K:Value→Heap→Prop),valE (some (.string s)) h K=K (.string s) h:=fun _ _ _=>rfl
  refine Ok.into rfl ztz (zaD N105) rfl (m:=28) rfl ?_
  by_cases he:e=0
  · subst he
    repeat' ( simp -implicitDefEqProofs only [syms,symx,seval,c105,q.lay,hva,bne_self_eq_false])
    refine zne s hs _ ((hsp.ext z).lay _ _) _ (fun a k ha h' x=>?_) (fun ha h' x=>?_)
    all_goals
      have qA:Holds h' (hc.size+0) (.row noAtomD.cells 26 false):=Holds.top (i:=0) x rfl
      ((skip); replace z:=z.overW x (by (try simp only [lsz]); omega); (try replace q:=q.over x); (try replace cg:=cg.over x); rw [zaa h'])
      obtain ⟨A,hA⟩:∃ A,A=hc.size+0:=⟨_,rfl⟩
      rw [← hA] at qA ⊢
      have hAC:A≠C:=by omega
      have hz0:=z.size
    · simp -implicitDefEqProofs only [syms,symx,seval,c105,zbw,zaS,List.all_cons,List.all_nil,Am.one,Bool.and_true,Bool.true_and,Bool.and_self,List.set_cons_zero,List.set_cons_succ,st4,st3,st9,st23,st26,st29,zeo,zaG,zj7,zkb,zjB,zjE,zop,List.append_nil,if_true,↓zaN,zaO,zas]
      have hak:=zmw (Nat.zero_le _) ha
      refine zae (o:=1) q sz44 rfl rfl (by simp) rfl (fun h9 q' c=>?_)
      replace q':Holds h9 C (.row [.string s,.int .i64 0] 147 false):=q'
      have qT:Holds h9 (h'.size+0) (.row a.cells 26 false):=Holds.topC c q.lt rfl
      obtain ⟨X,hX⟩:∃ X,X=h'.size+0:=⟨_,rfl⟩
      rw [← hX] at qT ⊢
      have hXC:X≠C:=by have:=q.lt; omega
      have hXA:X≠A:=by have:=qA.lt; omega
      replace qA:=qA.stepL c hAC
      replace cg:=cg.stepC c
      replace z:=z.stepW c hC (by omega)
      clear q
      rw [zaa h9]
      simp -implicitDefEqProofs only [syms,symx,seval,c105]
      refine zls s hs 0 k C (by omega) h _ (z.upW _ _ (by omega)) hC (q'.on _ _) _ (fun _ _ h'' z2 s2 q2=>?_) (fun hx=>absurd ⟨rfl,hak.1⟩ hx)
      · have hz3:=z2.size
        replace cg:=cg.onto s2
        replace qA:=qA.smL s2 hAC
        replace qT:=qT.smL s2 hXC
        clear z
        have z:=z2
        rw [zaa h'']
        simp -implicitDefEqProofs only [syms,symx,seval,c105,qT.lay,zbw,zaS,List.all_cons,List.all_nil,Am.one,Bool.and_true,Bool.true_and,Bool.and_self,List.set_cons_zero,List.set_cons_succ,st4,st3,st9,st23,st26,st29,zeo,zaG,zj7,zkb,zjB,zjE,zop,List.append_nil,if_true,↓zaN,zaO,zas]
        refine zae (o:=0) qA sz26 (zaG _) rfl (by show 0+11≤11; decide) rfl (fun h10 qA' c=>?_)
        replace qA':Holds h10 A (.row a.cells 26 false):=qA'
        have q9:=q2.stepL c (Ne.symm hAC)
        replace cg:=cg.fresh c (by omega)
        replace z:=z.stepW c (by omega) (by omega)
        rw [zaa h10]
        simp -implicitDefEqProofs only [syms,symx,seval,c105,qA'.lay,↓zaN,zaO,zas]
        exact h1k rfl a k ha _ (z.upW _ _ (by omega)) (cg.lay _ _) (q9.on _ _)
    · simp -implicitDefEqProofs only [syms,symx,seval,c105,zbw,zaS,List.all_cons,List.all_nil,Am.one,Bool.and_true,Bool.true_and,Bool.and_self,List.set_cons_zero,List.set_cons_succ,st4,st3,st9,st23,st26,st29,zeo,zaG,zj7,zkb,zjB,zjE,zop,List.append_nil,if_true,↓zaN,zaO,zas]
      refine zae (o:=1) q sz44 rfl rfl (by simp) rfl (fun h9 q' c=>?_)
      replace q':Holds h9 C (.row [.string s,.int .i64 15] 147 false):=q'
      have qT:Holds h9 (h'.size+0) (.row noAtomD.cells 26 false):=Holds.topC c q.lt rfl
      obtain ⟨X,hX⟩:∃ X,X=h'.size+0:=⟨_,rfl⟩
      rw [← hX] at qT ⊢
      have hXC:X≠C:=by have:=q.lt; omega
      have hXA:X≠A:=by have:=qA.lt; omega
      replace qA:=qA.stepL c hAC
      replace cg:=cg.stepC c
      replace z:=z.stepW c hC (by omega)
      clear q
      rw [zaa h9]
      simp -implicitDefEqProofs only [syms,symx,seval,c105]
      refine zls s hs 15 0 C (by omega) h _ (z.upW _ _ (by omega)) hC (q'.on _ _) _ (fun hx=>absurd hx (by decide)) (fun _ h'' e' he' z2 s2 q2=>?_)
      · have hz3:=z2.size
        replace cg:=cg.onto s2
        replace qA:=qA.smL s2 hAC
        replace qT:=qT.smL s2 hXC
        clear z
        have z:=z2
        rw [zaa h'']
        simp -implicitDefEqProofs only [syms,symx,seval,c105,qT.lay,zbw,zaS,List.all_cons,List.all_nil,Am.one,Bool.and_true,Bool.true_and,Bool.and_self,List.set_cons_zero,List.set_cons_succ,st4,st3,st9,st23,st26,st29,zeo,zaG,zj7,zkb,zjB,zjE,zop,List.append_nil,if_true,↓zaN,zaO,zas]
        refine zae (o:=0) qA sz26 (zaG _) rfl (by show 0+11≤11; decide) rfl (fun h10 qA' c=>?_)
        replace qA':Holds h10 A (.row noAtomD.cells 26 false):=qA'
        have q9:=q2.stepL c (Ne.symm hAC)
        replace cg:=cg.fresh c (by omega)
        replace z:=z.stepW c (by omega) (by omega)
        rw [zaa h10]
        simp -implicitDefEqProofs only [syms,symx,seval,c105,qA'.lay,↓zaN,zaO,zas]
        exact h0k (fun hx=>hx.2 ha) _ e' he' (z.upW _ _ (by omega)) (cg.lay _ _) (q9.on _ _)
  · repeat' ( simp -implicitDefEqProofs only [syms,symx,seval,c105,q.lay,hva,show (e != 0)=true by simpa using he,zfZ,zbw,zaS,List.all_cons,List.all_nil,Am.one,Bool.and_true,Bool.true_and,Bool.and_self,List.set_cons_zero,List.set_cons_succ,st4,st3,st9,st23,st26,st29,zeo,zaG,zj7,zkb,zjB,zjE,zop,List.append_nil,if_true,↓zaN,zaO,zas])
    exact h0k (fun hx=>he hx.1) _ e he (z.upW _ _ (by omega)) (cg.lay _ _) (q.on _ _)
theorem zpz (s:ByteArray) (e:Int) (C:Nat) (h hc:Heap) (z:Ext h hc) (hC:h.size≤C) (q:Holds hc C (.row [.string s,.int .i64 e] 147 false)) (K:Value→Heap→Prop)
    (hk:∀ h' e',(e'=0↔e=0∧s.size=0)→Ext h h'→Sm C hc h'→Holds h' C (.row [.string s,.int .i64 e'] 147 false)→K undef h'):Ok Tryz.prog tab ov 106 [.pointer (some ⟨C,0,none⟩)] hc K:=by
  have cg:=Sm.refl C hc
  rw [zaa hc]
  have hva:∀ (s:ByteArray) (h:Heap) (K:Value→Heap→Prop),valE (some (.string s)) h K=K (.string s) h:=fun _ _ _=>rfl
  refine Ok.into rfl zux (zaD N106) rfl (m:=16) rfl ?_
  by_cases he:e=0
  · subst he
    simp -implicitDefEqProofs only [syms,symx,seval,c106,q.lay,hva,beq_self_eq_true]
    refine zar (fun hx=>?_) (fun hx=>?_)
    · simp -implicitDefEqProofs only [syms,symx,seval,c106]
      refine zae (o:=1) q sz44 rfl rfl (by simp) rfl (fun h9 q' c=>?_)
      replace q':Holds h9 C (.row [.string s,.int .i64 15] 147 false):=q'
      replace cg:=cg.stepC c
      replace z:=z.stepW c hC (by omega)
      rw [zaa h9]
      simp -implicitDefEqProofs only [syms,symx,seval,c106]
      exact hk _ 15 ⟨fun h=>absurd h (by decide),fun h=>absurd (ByteArray.size_eq_zero_iff.1 h.2) hx⟩ (z.upW _ _ (by omega)) (cg.lay _ _) (q'.on _ _)
    · simp -implicitDefEqProofs only [syms,symx,seval,c106]
      exact hk _ 0 ⟨fun _=>⟨rfl,by rw [show s=⟨#[]⟩ by simpa using hx]; rfl⟩,fun _=>rfl⟩ (z.upW _ _ (by omega)) (cg.lay _ _) (q.on _ _)
  · simp -implicitDefEqProofs only [syms,symx,seval,c106,q.lay,hva,show (e == 0)=false by simpa using he]
    exact hk _ e ⟨fun h=>absurd h he,fun h=>h.1⟩ (z.upW _ _ (by omega)) (cg.lay _ _) (q.on _ _)
theorem ztd (k:Int) (a:AtomD) (h:Heap) (hsp:SpaceAt 1 h) (K:Value→Heap→Prop)
    (h1k:1≤k→k≤3→ValidX a→∀ h',Ext h h'→K (.bool true) h') (h0k:¬ (1≤k∧k≤3∧ValidX a)→∀ h',Ext h h'→K (.bool false) h'):Ok Tryz.prog tab ov 107 [zdu k a] h K:=by
  rw [zaa h]
  have z:=Ext.refl h
  unfold zdu zaV AtomD.cells
  refine Ok.into rfl ztl (zaD N107) rfl (m:=16) rfl ?_
  simp -implicitDefEqProofs only [syms,symx,seval,c107]
  refine zar (fun h1=>?_) (fun h1=>?_)
  · simp -implicitDefEqProofs only [syms,symx,seval,c107]
    refine zar (fun h2=>?_) (fun h2=>?_)
    · simp -implicitDefEqProofs only [syms,symx,seval,c107]
      refine zm6 a _ (hsp.lay _ _) _ (fun hv h' x=>?_) (fun hv c h' hc x=>?_)
      · ((skip); replace z:=z.overW x (by (try simp only [lsz]); omega); rw [zaa h'])
        simp -implicitDefEqProofs only [syms,symx,seval,c107,beq_self_eq_true]
        exact h1k (by omega) (by omega) hv _ (z.upW _ _ (by omega))
      · ((skip); replace z:=z.overW x (by (try simp only [lsz]); omega); rw [zaa h'])
        simp -implicitDefEqProofs only [syms,symx,seval,c107,show (c == 0)=false by simpa using hc]
        exact h0k (fun g=>hv g.2.2) _ (z.upW _ _ (by omega))
    · simp -implicitDefEqProofs only [syms,symx,seval,c107]
      exact h0k (fun g=>h2 (by omega)) _ (z.upW _ _ (by omega))
  · simp -implicitDefEqProofs only [syms,symx,seval,c107]
    exact h0k (fun g=>h1 (by omega)) _ (z.upW _ _ (by omega))
/-! ### Requests -/
theorem st57 (h:Heap) (l:List Blk) (w i o:Nat) (v:Value) (hi:i < l.length):zbd tab 57 (.pointer (some ⟨h.size+i,o,none⟩)) v (h.lay l w)=if v.cells.size=12 then ze4 l[i]? i o v.cells.toList h l w else none:=zhQ sz57 h l w i o v hi
theorem zBG (s:ByteArray):zcv tab 147 [(0,.string s)]=some (.agg ⟨[.string s,.int .i64 0]⟩):=by kernel_rfl
theorem zhL (k:Int) (a:AtomD):zcv tab 57 [(0,.int .i64 k),(1,a.val)]=some (zdu k a):=by kernel_rfl
theorem zd0:zcv tab 57 []=some (zdu 0 noAtomD):=by kernel_rfl
theorem za7 (k:Int) (a:AtomD):(zdu k a).cells.toList=zaV k a:=rfl
theorem zeG (k:Int) (a:AtomD):(zdu k a).cells.size=12:=rfl
theorem zeQ (k:Int) (a:AtomD):(zaV k a).length=12:=rfl
theorem zeI (k:Int) (a:AtomD):(zaV k a).all Am.one=true:=rfl
theorem zbL (k:Int) (a:AtomD):cut (zaV k a) 0 12=some (zaV k a):=rfl
theorem zbK (k:Int) (a:AtomD):Value.agg (zaV k a).toArray=zdu k a:=rfl
theorem zaT (k:Int) (a:AtomD) (h:Heap) (K:Value→Heap→Prop):valE (some (zdu k a)) h K=K (zdu k a) h:=rfl
theorem zc5 (z0 z1 z2 z3 z4 z5 z6 z7 z8 z9 z10 z11:Value):List.drop 12 [z0,z1,z2,z3,z4,z5,z6,z7,z8,z9,z10,z11]=[]:=rfl
theorem zeM:decide (12≤12)=true:=rfl
theorem zp6 (s:ByteArray) (hs:s.size≤100000) (h:Heap) (hsp:SpaceAt 1 h) (K:Value→Heap→Prop)
    (h1k:∀ (k:Nat) (a:AtomD),reqO s=some (k,a)→∀ h',Ext h h'→K (.tuple #[zdu k a,.int .i64 0]) h')
    (h0k:reqO s=none→∀ h' c,c≠0→Ext h h'→K (.tuple #[zdu 0 noAtomD,.int .i64 c]) h'):Ok Tryz.prog tab ov 70 [.string s] h K:=by
  rw [zaa h]
  have z:=Ext.refl h
  have hva:∀ (s:ByteArray) (h:Heap) (K:Value→Heap→Prop),valE (some (.string s)) h K=K (.string s) h:=fun _ _ _=>rfl
  have hvg:∀ (c:List Value) (h:Heap) (K:Value→Heap→Prop),valE (some (.agg ⟨c⟩)) h K=K (.agg ⟨c⟩) h:=fun _ _ _=>rfl
  refine Ok.into rfl zxl (zaD N70) rfl (m:=31) rfl ?_
  simp -implicitDefEqProofs only [syms,symx,seval,c70,hva]
  refine zar (fun hgt=>?_) (fun hgt=>?_)
  · repeat' ( simp -implicitDefEqProofs only [syms,symx,seval,c70,zd0,zbw,zaS,List.all_cons,List.all_nil,Am.one,Bool.and_true,Bool.true_and,Bool.and_self,List.set_cons_zero,List.set_cons_succ,st4,st3,st9,st23,st26,st29,zeo,st57,za7,zeG,zeQ,zeI,zc5,zeM,List.append_nil,if_true,↓zbL,zbK,zaT,zhL])
    exact h0k (by unfold reqO; rw [if_neg (by omega)]) _ 4 (by decide) (z.upW _ _ (by omega))
  repeat' ( simp -implicitDefEqProofs only [syms,symx,seval,c70,hva,hvg,zBG])
  refine zAn s (by omega) (h.size+1) h _ (z.upW _ _ (by omega)) (by omega) ⟨by rw [zag]; simp,by rw [zbc]; rfl⟩ _ (fun hpos h2 z2 s2 q2=>?_) (fun h0 h2 e2 he2 z2 s2 q2=>?_)
  all_goals
    have qD:Holds h2 (h.size+0) (.row (zaV 0 noAtomD) 57 false):=Holds.sm (h:=h.lay _ _) ⟨by rw [zag]; simp,by rw [zbc]; rfl⟩ s2 (by omega)
    obtain ⟨C,hC⟩:∃ C,C=h.size+1:=⟨_,rfl⟩
    obtain ⟨D,hD⟩:∃ D,D=h.size+0:=⟨_,rfl⟩
    rw [← hC] at q2 ⊢
    rw [← hD] at qD ⊢
    have hDC:D≠C:=by omega
    clear z
    have z:=z2
    rw [zaa h2]
    simp -implicitDefEqProofs only [syms,symx,seval,c70]
  · have hs1:(s.extract 1 s.size).size=s.size - 1:=zgm (by omega)
    have hsh:=zpl (s:=s) (d:=1) (by omega) 0 (by omega)
    refine zgG _ (by omega) 0 C h _ hsp (z.upW _ _ (by omega)) (by omega) (q2.on _ _) _ (fun _ a k ha h3 z3 s3 q3=>?_) (fun hna h3 e3 he3 z3 s3 q3=>?_)
    · rw [ha] at hsh
      obtain ⟨w,hw1,hw2⟩:=Option.map_eq_some_iff.1 hsh.symm
      have hak:=zmw (Nat.zero_le _) ha
      have hwk:w.2=k+1∧w.1=a:=by
        have h1:=congrArg Prod.fst hw2
        have h2:=congrArg Prod.snd hw2
        have h3:=(zxJ (a:=w.1) (k:=w.2) hw1)
        simp only at h1 h2
        exact ⟨by omega,h1⟩
      have hrq:reqO s=if w.2=s.size∧1≤zaP s 0∧zaP s 0≤3 then some (zaP s 0,w.1) else none:=by
        unfold reqO
        rw [if_pos (by omega),show zcd s 1=some w from hw1]
        rfl
      rw [hwk.1,hwk.2] at hrq
      have hsk:((s.extract 1 s.size).extract k (s.extract 1 s.size).size).size=s.size - 1 - k:=by rw [zgm hak.1,hs1]
      replace qD:=qD.smL s3 hDC
      clear z
      have z:=z3
      have hz3:=z.size
      rw [zaa h3]
      repeat' ( simp -implicitDefEqProofs only [syms,symx,seval,c70,zbw,zaS,List.all_cons,List.all_nil,Am.one,Bool.and_true,Bool.true_and,Bool.and_self,List.set_cons_zero,List.set_cons_succ,st4,st3,st9,st23,st26,st29,zeo,st57,za7,zeG,zeQ,zeI,zc5,zeM,List.append_nil,if_true,↓zbL,zbK,zaT,zhL])
      refine zpz _ 0 C h _ (z.upW _ _ (by omega)) (by omega) (q3.on _ _) _ (fun h4 e4 he4 z4 s4 q4=>?_)
      have qX:Holds h4 (h3.size+0) (.row (zaV (zaP s 0) a) 57 false):=Holds.sm (h:=h3.lay _ _) ⟨by rw [zag]; simp,by rw [zbc]; rfl⟩ s4 (by have:=q3.lt; omega)
      replace qD:=qD.smL s4 hDC
      clear z
      have z:=z4
      have hz4:=z.size
      obtain ⟨X,hX⟩:∃ X,X=h3.size+0:=⟨_,rfl⟩
      rw [← hX] at qX ⊢
      rw [zaa h4]
      by_cases h40:e4=0
      · subst h40
        have hok:=he4.1 rfl
        simp -implicitDefEqProofs only [syms,symx,seval,c70,q4.lay,bne_self_eq_false,qX.lay,↓zbL,zbK,zaT]
        refine ztd _ _ _ ((hsp.ext z).lay _ _) _ (fun g1 g2 g3 h' x=>?_) (fun g h' x=>?_)
        · ((skip); replace z:=z.overW x (by (try simp only [lsz]); omega); (try replace qX:=qX.over x); (try replace qD:=qD.over x); rw [zaa h'])
          simp -implicitDefEqProofs only [syms,symx,seval,c70,Bool.not_true]
          (with_reducible_and_instances apply zap); (· rfl)
          repeat' ( simp -implicitDefEqProofs only [syms,symx,seval,c70,Bool.not_true,qX.lay,↓zbL,zbK,zaT])
          refine zae (o:=0) qD sz57 (za7 _ _) rfl (Nat.le_refl 12) rfl (fun h9 qD' c=>?_)
          replace qD':Holds h9 D (.row (zaV (zaP s 0) a) 57 false):=qD'
          replace z:=z.stepW c (by omega) (by omega)
          rw [zaa h9]
          simp -implicitDefEqProofs only [syms,symx,seval,c70,qD'.lay,↓zbL,zbK,zaT]
          exact h1k _ _ (by rw [hrq,if_pos (by omega)]) _ (z.upW _ _ (by omega))
        · ((skip); replace z:=z.overW x (by (try simp only [lsz]); omega); (try replace qX:=qX.over x); (try replace qD:=qD.over x); rw [zaa h'])
          simp -implicitDefEqProofs only [syms,symx,seval,c70,Bool.not_false]
          (with_reducible_and_instances apply zap); (· rfl)
          repeat' ( simp -implicitDefEqProofs only [syms,symx,seval,c70,Bool.not_false,zd0,zaT])
          refine zae (o:=0) qD sz57 (za7 _ _) rfl (Nat.le_refl 12) rfl (fun h9 qD' c=>?_)
          replace qD':Holds h9 D (.row (zaV 0 noAtomD) 57 false):=qD'
          replace z:=z.stepW c (by omega) (by omega)
          rw [zaa h9]
          simp -implicitDefEqProofs only [syms,symx,seval,c70,qD'.lay,↓zbL,zbK,zaT]
          exact h0k (by rw [hrq,if_neg (fun g4=>g ⟨by omega,by omega,hak.2⟩)]) _ 15 (by decide) (z.upW _ _ (by omega))
      · repeat' ( simp -implicitDefEqProofs only [syms,symx,seval,c70,q4.lay,show (e4 != 0)=true by simpa using h40,zd0,zaT])
        refine zae (o:=0) qD sz57 (za7 _ _) rfl (Nat.le_refl 12) rfl (fun h9 qD' c=>?_)
        replace qD':Holds h9 D (.row (zaV 0 noAtomD) 57 false):=qD'
        replace z:=z.stepW c (by omega) (by omega)
        rw [zaa h9]
        simp -implicitDefEqProofs only [syms,symx,seval,c70,qD'.lay,↓zbL,zbK,zaT]
        exact h0k (by rw [hrq,if_neg (fun g4=>h40 (he4.2 ⟨rfl,by omega⟩))]) _ 15 (by decide) (z.upW _ _ (by omega))
    · have hrq:reqO s=none:=by
        have hn:zcd (s.extract 1 s.size) 0=none:=Classical.byContradiction fun g=>hna ⟨rfl,g⟩
        rw [hn] at hsh
        unfold reqO
        rw [if_pos (by omega),Option.map_eq_none_iff.1 hsh.symm]
        rfl
      replace qD:=qD.smL s3 hDC
      clear z
      have z:=z3
      have hz3:=z.size
      rw [zaa h3]
      repeat' ( simp -implicitDefEqProofs only [syms,symx,seval,c70,zbw,zaS,List.all_cons,List.all_nil,Am.one,Bool.and_true,Bool.true_and,Bool.and_self,List.set_cons_zero,List.set_cons_succ,st4,st3,st9,st23,st26,st29,zeo,st57,za7,zeG,zeQ,zeI,zc5,zeM,List.append_nil,if_true,↓zbL,zbK,zaT,zhL])
      refine zpz _ e3 C h _ (z.upW _ _ (by omega)) (by omega) (q3.on _ _) _ (fun h4 e4 he4 z4 s4 q4=>?_)
      have qX:Holds h4 (h3.size+0) (.row (zaV (zaP s 0) noAtomD) 57 false):=Holds.sm (h:=h3.lay _ _) ⟨by rw [zag]; simp,by rw [zbc]; rfl⟩ s4 (by have:=q3.lt; omega)
      replace qD:=qD.smL s4 hDC
      clear z
      have z:=z4
      have hz4:=z.size
      obtain ⟨X,hX⟩:∃ X,X=h3.size+0:=⟨_,rfl⟩
      rw [← hX] at qX ⊢
      rw [zaa h4]
      have h40:e4≠0:=fun g=>he3 (he4.1 g).1
      repeat' ( simp -implicitDefEqProofs only [syms,symx,seval,c70,q4.lay,show (e4 != 0)=true by simpa using h40,zd0,zaT])
      refine zae (o:=0) qD sz57 (za7 _ _) rfl (Nat.le_refl 12) rfl (fun h9 qD' c=>?_)
      replace qD':Holds h9 D (.row (zaV 0 noAtomD) 57 false):=qD'
      replace z:=z.stepW c (by omega) (by omega)
      rw [zaa h9]
      simp -implicitDefEqProofs only [syms,symx,seval,c70,qD'.lay,↓zbL,zbK,zaT]
      exact h0k hrq _ 15 (by decide) (z.upW _ _ (by omega))
  · have hrq:reqO s=none:=by
      unfold reqO
      rw [if_neg (by omega)]
    refine zgG s (by omega) e2 C h _ hsp (z.upW _ _ (by omega)) (by omega) (q2.on _ _) _ (fun g=>absurd g he2) (fun hna h3 e3 he3 z3 s3 q3=>?_)
    replace qD:=qD.smL s3 hDC
    clear z
    have z:=z3
    have hz3:=z.size
    rw [zaa h3]
    repeat' ( simp -implicitDefEqProofs only [syms,symx,seval,c70,zbw,zaS,List.all_cons,List.all_nil,Am.one,Bool.and_true,Bool.true_and,Bool.and_self,List.set_cons_zero,List.set_cons_succ,st4,st3,st9,st23,st26,st29,zeo,st57,za7,zeG,zeQ,zeI,zc5,zeM,List.append_nil,if_true,↓zbL,zbK,zaT,zhL])
    refine zpz _ e3 C h _ (z.upW _ _ (by omega)) (by omega) (q3.on _ _) _ (fun h4 e4 he4 z4 s4 q4=>?_)
    have qX:Holds h4 (h3.size+0) (.row (zaV 0 noAtomD) 57 false):=Holds.sm (h:=h3.lay _ _) ⟨by rw [zag]; simp,by rw [zbc]; rfl⟩ s4 (by have:=q3.lt; omega)
    replace qD:=qD.smL s4 hDC
    clear z
    have z:=z4
    have hz4:=z.size
    obtain ⟨X,hX⟩:∃ X,X=h3.size+0:=⟨_,rfl⟩
    rw [← hX] at qX ⊢
    rw [zaa h4]
    have h40:e4≠0:=fun g=>he3 (he4.1 g).1
    repeat' ( simp -implicitDefEqProofs only [syms,symx,seval,c70,q4.lay,show (e4 != 0)=true by simpa using h40,zd0,zaT])
    refine zae (o:=0) qD sz57 (za7 _ _) rfl (Nat.le_refl 12) rfl (fun h9 qD' c=>?_)
    replace qD':Holds h9 D (.row (zaV 0 noAtomD) 57 false):=qD'
    replace z:=z.stepW c (by omega) (by omega)
    rw [zaa h9]
    simp -implicitDefEqProofs only [syms,symx,seval,c70,qD'.lay,↓zbL,zbK,zaT]
    exact h0k hrq _ 15 (by decide) (z.upW _ _ (by omega))
end Go.Proofs.YtemapihoobmonaaGreatDoor
