/- Walks: an atom read, by the document. Written out by fill2.py. No condition. -/
import Derived.Test.YtemapihoobmonaaGreatDoorG30
import Derived.Test.YtemapihoobmonaaGreatDoorG31
import Derived.Test.YtemapihoobmonaaGreatDoorG34
namespace Go.Proofs.YtemapihoobmonaaGreatDoor
open Go.Am
set_option linter.unusedSimpArgs false
set_option linter.unusedVariables false
set_option maxRecDepth 100000
set_option maxHeartbeats 0
theorem zBz (x y:ByteArray):zcv tab 26 [(0,.string x),(1,.string y)]=some ({ noAtomD with says:=x,pred:=y }:AtomD).val:=by kernel_rfl
theorem zcj:zcv tab 26 []=some noAtomD.val:=by kernel_rfl
theorem zl6 (b:Bool) (y:ByteArray):zcv tab 23 [(0,.bool b),(1,.string y)]=some (⟨b,y⟩:TermD).val:=by kernel_rfl
theorem zz5 (a:AtomD):a.val.cells.size=11:=rfl
theorem zz9 (a:AtomD):a.cells.length=11:=rfl
theorem zzP (a:AtomD):a.cells.all Am.one=true:=rfl
theorem zxx (z0 z1 z2 z3 z4 z5 z6 z7 z8 z9 z10:Value):List.drop 11 [z0,z1,z2,z3,z4,z5,z6,z7,z8,z9,z10]=[]:=rfl
theorem zzu:decide (11≤11)=true:=rfl
theorem zgd (t:TermD):t.val.cells.toList=t.cells:=rfl
theorem ziE (a:TermD) (h:Heap) (K:Value→Heap→Prop):valE (some a.val) h K=K a.val h:=rfl
theorem zk9 (s:ByteArray) (hs:s.size≤100000) (st:Option Nat) (C:Nat) (h hc:Heap) (z:Ext h hc) (hC:h.size≤C) (q:CurR 123 hc C s st) (K:Value→Heap→Prop)
    (h1k:∀ (a:AtomD) (o2:Nat),st.bind (zcd s)=some (a,o2)→∀ h',Ext h h'→Sm C hc h'→CurR 123 h' C s (some o2)→K a.val h')
    (h0k:st.bind (zcd s)=none→∀ h',Ext h h'→Sm C hc h'→CurR 123 h' C s none→K noAtomD.val h'):Ok Tryz.prog tab ov 77 [.pointer (some ⟨C,0,none⟩)] hc K:=by
  have cg:=Sm.refl C hc
  have hClt:=q.lt
  have hzs:=z.size
  rw [zaa hc]
  have hva:∀ (s:ByteArray) (h:Heap) (K:Value→Heap→Prop),valE (some (.string s)) h K=K (.string s) h:=fun _ _ _=>rfl
  refine Ok.into rfl zxd (zaD N77) rfl (m:=63) rfl ?_
  simp -implicitDefEqProofs only [syms,symx,seval,c77]
  refine zdo s hs st C h _ (z.upW _ _ (by omega)) hC (q.lay _ _) _ (fun h2 z2 s2 q2=>?_)
  have qA:Holds h2 (hc.size+0) (.row noAtomD.cells 26 false):=Holds.sm (h:=hc.lay _ _) ⟨by rw [zag]; simp,by rw [zbc]; rfl⟩ s2 (by omega)
  obtain ⟨A,hA⟩:∃ A,A=hc.size+0:=⟨_,rfl⟩
  rw [← hA] at qA ⊢
  have hAC:A≠C:=by omega
  have hAh:h.size≤A:=by omega
  replace cg:=cg.onto s2
  clear q z
  have z:=z2
  have q:=q2
  clear z2 s2 q2
  have hzh:=z.size
  obtain ⟨r1,hr1⟩:∃ r1,r1=st.bind (zbg s):=⟨_,rfl⟩
  rw [← hr1] at q ⊢
  obtain ⟨st1,hst1⟩:∃ st1,st1=r1.map (·.2):=⟨_,rfl⟩
  obtain ⟨x1,hx1⟩:∃ x1,x1=(r1.map (·.1)).getD ⟨#[]⟩:=⟨_,rfl⟩
  rw [← hst1] at q
  rw [← hx1]
  rw [zaa h2]
  simp -implicitDefEqProofs only [syms,symx,seval,c77]
  refine zdo s hs st1 C h _ (z.upW _ _ (by omega)) hC (q.lay _ _) _ (fun h3 z2 s2 q2=>?_)
  replace qA:=qA.smL s2 hAC
  replace cg:=cg.onto s2
  clear q z
  have z:=z2
  have q:=q2
  clear z2 s2 q2
  have hzh:=z.size
  obtain ⟨r2,hr2⟩:∃ r2,r2=st1.bind (zbg s):=⟨_,rfl⟩
  rw [← hr2] at q ⊢
  obtain ⟨st2,hst2⟩:∃ st2,st2=r2.map (·.2):=⟨_,rfl⟩
  obtain ⟨x2,hx2⟩:∃ x2,x2=(r2.map (·.1)).getD ⟨#[]⟩:=⟨_,rfl⟩
  rw [← hst2] at q
  rw [← hx2]
  have hqC:=q.lt
  have hqA:=qA.lt
  rw [zaa h3]
  repeat' ( simp -implicitDefEqProofs only [syms,symx,seval,c77,zBz,zbw,zaS,List.all_cons,List.all_nil,Am.one,Bool.and_true,Bool.true_and,Bool.and_self,List.set_cons_zero,List.set_cons_succ,st4,st3,st9,st23,st26,st29,zeo,zaG,zz5,zz9,zzP,zxx,zzu,List.append_nil,if_true,↓zaN,zaO,zas])
  refine zn3 s hs st2 C h _ (z.upW _ _ (by omega)) hC (q.lay _ _) _ (fun h6 z2 s2 q2=>?_)
  have qX:Holds h6 (h3.size+0) (.row ({ noAtomD with says:=x1,pred:=x2 }:AtomD).cells 26 false):=Holds.sm (h:=h3.lay _ _) ⟨by rw [zag]; simp,by rw [zbc]; rfl⟩ s2 (by omega)
  obtain ⟨X,hX⟩:∃ X,X=h3.size+0:=⟨_,rfl⟩
  rw [← hX] at qX ⊢
  have hXC:X≠C:=by omega
  have hXA:X≠A:=by omega
  have hXh:h.size≤X:=by omega
  have hXc:hc.size≤X:=by have:=cg.size; omega
  replace qA:=qA.smL s2 hAC
  replace cg:=cg.onto s2
  clear q z
  have z:=z2
  have q:=q2
  clear z2 s2 q2
  have hzh6:=z.size
  obtain ⟨r3,hr3⟩:∃ r3,r3=st2.bind (numO s):=⟨_,rfl⟩
  rw [← hr3] at q ⊢
  rw [zaa h6]
  rcases r3 with _ | ⟨k,o3⟩
  · have hat:st.bind (zcd s)=none:=by
      cases st with
      | none=>rfl
      | some o=>exact zkM (by rw [Option.bind_some] at hr1; rw [← hr1,← hst1,← hr2,← hst2]; exact hr3.symm)
    obtain ⟨o9,e9,ho9,he9,qq⟩:=q.get_none
    have hne9:(e9 != 0)=true:=by simpa using he9
    show KOps _ _ _ _ _ _ _ _ (.int .u32 ((0:Nat):Int)) _
    simp -implicitDefEqProofs only [syms,symx,seval,c77]
    refine zde ?_
    simp -implicitDefEqProofs only [syms,symx,seval,c77]
    rw [zbb rfl rfl rfl (zct _) rfl,zad (by omega) (by omega)]
    simp -implicitDefEqProofs only [syms,symx,seval,c77]
    (try simp -implicitDefEqProofs only [syms,symx,seval,c77,qq.lay,hne9,zcj,zas])
    repeat' ((first | ((with_reducible first | apply zar | apply zd9 | apply ze2 | apply zeP | apply zf0) <;> intro _)) <;> simp -implicitDefEqProofs only [syms,symx,seval,c77,qq.lay,hne9,zcj,zas])
    refine zae (o:=0) qA sz26 (zaG _) rfl (by show 0+11≤11; decide) rfl (fun h10 qA3 c=>?_)
    replace qA3:Holds h10 A (.row noAtomD.cells 26 false):=qA3
    have qC:=qq.stepL c (Ne.symm hAC)
    replace cg:=cg.fresh c (by omega)
    replace z:=z.stepW c (by omega) (by omega)
    rw [zaa h10]
    simp -implicitDefEqProofs only [syms,symx,seval,c77,qA3.lay,↓zaN,zaO,zas]
    exact h0k hat _ (z.upW _ _ (by omega)) (cg.lay _ _) (.bad ho9 he9 (qC.on _ _))
  · have hk4:k≤4294967295:=by
      rcases st2 with _ | p2
      · cases hr3
      · exact zyE hr3.symm
    have hat0:=zwM hr1 hst1 hr2 hst2 hr3 hx1 hx2
    obtain ⟨a0,ha0⟩:∃ a0:AtomD,a0={ noAtomD with says:=x1,pred:=x2 }:=⟨_,rfl⟩
    rw [← ha0] at hat0 qX
    replace q:CurR 123 h6 C s (some o3):=q
    show KOps _ _ _ _ _ _ _ _ (.int .u32 ((k:Nat):Int)) _
    simp -implicitDefEqProofs only [syms,symx,seval,c77]
    refine zar (fun hgt=>?_) (fun hgt=>?_)
    · have hat:st.bind (zcd s)=none:=by rw [hat0,if_neg (by omega)]
      obtain ⟨ho9,qq⟩:=q.get_some
      simp -implicitDefEqProofs only [syms,symx,seval,c77]
      refine zae (o:=2) qq sz44 rfl rfl (by simp) rfl (fun h7 qq' c=>?_)
      replace qq':Holds h7 C (.row [.string s,.int .i64 o3,.int .i64 15] 123 false):=qq'
      replace qA:=qA.stepL c hAC
      replace qX:=qX.stepL c hXC
      replace cg:=cg.stepC c
      replace z:=z.stepW c hC (by omega)
      clear qq q
      have qq:=qq'
      clear qq'
      have he9:(15:Int)≠0:=by decide
      have hne9:((15:Int) != 0)=true:=rfl
      rw [zaa h7]
      repeat' ( simp -implicitDefEqProofs only [syms,symx,seval,c77])
      refine zde ?_
      simp -implicitDefEqProofs only [syms,symx,seval,c77]
      rw [zbb rfl rfl rfl (zct _) rfl,zad (by omega) (by omega)]
      simp -implicitDefEqProofs only [syms,symx,seval,c77]
      refine zar (fun _=>?_) (fun hx=>absurd hx (by omega))
      repeat' ( simp -implicitDefEqProofs only [syms,symx,seval,c77,qq.lay,show ((15:Int) == 0)=false from rfl,hne9,zcj,zas])
      (try simp -implicitDefEqProofs only [syms,symx,seval,c77,qq.lay,hne9,zcj,zas])
      repeat' ((first | ((with_reducible first | apply zar | apply zd9 | apply ze2 | apply zeP | apply zf0) <;> intro _)) <;> simp -implicitDefEqProofs only [syms,symx,seval,c77,qq.lay,hne9,zcj,zas])
      refine zae (o:=0) qA sz26 (zaG _) rfl (by show 0+11≤11; decide) rfl (fun h10 qA3 c=>?_)
      replace qA3:Holds h10 A (.row noAtomD.cells 26 false):=qA3
      have qC:=qq.stepL c (Ne.symm hAC)
      replace cg:=cg.fresh c (by omega)
      replace z:=z.stepW c (by omega) (by omega)
      rw [zaa h10]
      simp -implicitDefEqProofs only [syms,symx,seval,c77,qA3.lay,↓zaN,zaO,zas]
      exact h0k hat _ (z.upW _ _ (by omega)) (cg.lay _ _) (.bad ho9 he9 (qC.on _ _))
    · have hk4':k≤4:=by omega
      rw [if_pos hk4'] at hat0
      repeat' ( simp -implicitDefEqProofs only [syms,symx,seval,c77])
      obtain ⟨I1,hI1⟩:∃ I:Nat→Env→Heap→Prop,I=(fun n e h'=>∃ (i:Nat) (a:AtomD) (h1:Heap),h'=h1.lay [] h1.low∧Ext h h1∧(n=k - i∧i≤k∧CurR 123 h1 C s ((zch s a0 o3 i).map (·.2))∧(∀ x,zch s a0 o3 i=some x→x.1=a)∧Sm C hc h1∧Holds h1 A (.row noAtomD.cells 26 false)∧Holds h1 X (.row a.cells 26 false))∧∃ J:Nat→Value,e=(.pointer (some ⟨C,0,none⟩)::J 1::.pointer (some ⟨A,0,none⟩)::.pointer (some ⟨X,0,none⟩)::.int .u32 k::.int .i64 i::jr J 6 58 ([]))):=⟨_,rfl⟩
      refine zaC I1 _ (by rw [hI1]; exact ⟨0,a0,_,rfl,z,⟨rfl,by omega,q,fun x hx=>by cases hx; rfl,cg,qA,qX⟩,junk (by kernel_rfl)⟩) ?_
      intro n e h' hin
      rw [hI1] at hin
      obtain ⟨i,a,h1',rfl,z,hinv,J,rfl⟩:=hin
      clear q cg qA qX
      obtain ⟨rfl,hi,q,hax,cg,qA,qX⟩:=hinv
      have hwi:IntKind.i64.wrap ((i:Int)+1)=((i+1:Nat):Int):=by rw [zad (by omega) (by omega)]; omega
      have hzh1:=z.size
      simp -implicitDefEqProofs only [syms,symx,seval,c77]
      rw [zbb rfl rfl rfl (zct _) rfl,zad (by omega) (by omega)]
      simp -implicitDefEqProofs only [syms,symx,seval,c77]
      rcases hst:zch s a0 o3 i with _ | ⟨a',o4⟩
      · rw [hst] at q
        have hat:st.bind (zcd s)=none:=by
          have:=zht hst (k - i)
          rw [show i+(k - i)=k by omega] at this
          rw [hat0,this]
          rfl
        obtain ⟨o9,e9,ho9,he9,qq⟩:=q.get_none
        have hne9:(e9 != 0)=true:=by simpa using he9
        have heq9:(e9 == 0)=false:=by simpa using he9
        refine zar (fun hlt=>?_) (fun hlt=>?_)
        · repeat' ( simp -implicitDefEqProofs only [syms,symx,seval,c77,qq.lay,heq9,hne9,zcj,zas])
          (try simp -implicitDefEqProofs only [syms,symx,seval,c77,qq.lay,hne9,zcj,zas])
          repeat' ((first | ((with_reducible first | apply zar | apply zd9 | apply ze2 | apply zeP | apply zf0) <;> intro _)) <;> simp -implicitDefEqProofs only [syms,symx,seval,c77,qq.lay,hne9,zcj,zas])
          refine zae (o:=0) qA sz26 (zaG _) rfl (by show 0+11≤11; decide) rfl (fun h10 qA3 c=>?_)
          replace qA3:Holds h10 A (.row noAtomD.cells 26 false):=qA3
          have qC:=qq.stepL c (Ne.symm hAC)
          replace cg:=cg.fresh c (by omega)
          replace z:=z.stepW c (by omega) (by omega)
          rw [zaa h10]
          simp -implicitDefEqProofs only [syms,symx,seval,c77,qA3.lay,↓zaN,zaO,zas]
          exact h0k hat _ (z.upW _ _ (by omega)) (cg.lay _ _) (.bad ho9 he9 (qC.on _ _))
        · repeat' ( simp -implicitDefEqProofs only [syms,symx,seval,c77,qq.lay,heq9,hne9,zcj,zas])
          (try simp -implicitDefEqProofs only [syms,symx,seval,c77,qq.lay,hne9,zcj,zas])
          repeat' ((first | ((with_reducible first | apply zar | apply zd9 | apply ze2 | apply zeP | apply zf0) <;> intro _)) <;> simp -implicitDefEqProofs only [syms,symx,seval,c77,qq.lay,hne9,zcj,zas])
          refine zae (o:=0) qA sz26 (zaG _) rfl (by show 0+11≤11; decide) rfl (fun h10 qA3 c=>?_)
          replace qA3:Holds h10 A (.row noAtomD.cells 26 false):=qA3
          have qC:=qq.stepL c (Ne.symm hAC)
          replace cg:=cg.fresh c (by omega)
          replace z:=z.stepW c (by omega) (by omega)
          rw [zaa h10]
          simp -implicitDefEqProofs only [syms,symx,seval,c77,qA3.lay,↓zaN,zaO,zas]
          exact h0k hat _ (z.upW _ _ (by omega)) (cg.lay _ _) (.bad ho9 he9 (qC.on _ _))
      · obtain rfl:a=a':=(hax _ hst).symm
        rw [hst] at q
        replace q:CurR 123 h1' C s (some o4):=q
        obtain ⟨ho10,qq⟩:=q.get_some
        refine zar (fun hlt=>?_) (fun hlt=>?_)
        · have hi4:(0:Int)≤(i:Int)∧(i:Int) < 4:=by omega
          repeat' ( simp -implicitDefEqProofs only [syms,symx,seval,c77,qq.lay,beq_self_eq_true])
          refine zkx s hs (some o4) C h _ (z.upW _ _ (by omega)) hC (q.lay _ _) _ (fun h7 z2 s2 q2=>?_)
          replace cg:=cg.onto s2
          replace qA:=qA.smL s2 hAC
          replace qX:=qX.smL s2 hXC
          clear q z qq
          have z:=z2
          have q:=q2
          clear z2 s2 q2
          have hzh7:=z.size
          rw [Option.bind_some] at q ⊢
          rw [zaa h7]
          by_cases hlo:o4 < s.size
          · have hby:zoq s o4=some (zaP s o4,o4+1):=if_pos hlo
            rw [hby] at q ⊢
            replace q:CurR 123 h7 C s (some (o4+1)):=q
            have hbl:=zdG s o4
            show KOps _ _ _ _ _ _ _ _ (.int .u8 ((zaP s o4:Nat):Int)) _
            simp -implicitDefEqProofs only [syms,symx,seval,c77]
            refine zar (fun hg1=>?_) (fun hg1=>?_)
            · have hff:=zlF (s:=s) (o:=o4) (by omega)
              obtain ⟨ho11,qq⟩:=q.get_some
              simp -implicitDefEqProofs only [syms,symx,seval,c77]
              refine zae (o:=2) qq sz44 rfl rfl (by simp) rfl (fun h8 qq' c=>?_)
              replace qq':Holds h8 C (.row [.string s,.int .i64 (o4+1:Nat),.int .i64 15] 123 false):=qq'
              clear q
              have q:CurR 123 h8 C s none:=.bad ho11 (by decide) qq'
              replace qA:=qA.stepL c hAC
              replace qX:=qX.stepL c hXC
              replace cg:=cg.stepC c
              replace z:=z.stepW c hC (by omega)
              rw [zaa h8]
              simp -implicitDefEqProofs only [syms,symx,seval,c77]
              refine zd9 (fun hx=>absurd hx (by omega)) (fun _=>?_)
              simp -implicitDefEqProofs only [syms,symx,seval,c77]
              refine zdo s hs _ C h _ (z.upW _ _ (by omega)) hC (q.lay _ _) _ (fun h9 z2 s2 q2=>?_)
              replace cg:=cg.onto s2
              replace qA:=qA.smL s2 hAC
              replace qX:=qX.smL s2 hXC
              clear q z
              have z:=z2
              have q:=q2
              clear z2 s2 q2
              have hzh9:=z.size
              obtain ⟨st5,hst5⟩:∃ st5,st5=(zbP s o4).map (·.2):=⟨_,rfl⟩
              obtain ⟨bv,hbv⟩:∃ bv,bv=((zbP s o4).map (·.1)).getD false:=⟨_,rfl⟩
              have hs5:st5=none:=by rw [hst5,hff]; rfl
              have hb5:bv=false:=by rw [hbv,hff]; rfl
              replace q:CurR 123 h9 C s ((st5.bind (zbg s)).map (·.2)):=by rw [hs5]; exact q
              obtain ⟨xv,hxv⟩:∃ xv,xv=((st5.bind (zbg s)).map (·.1)).getD ⟨#[]⟩:=⟨_,rfl⟩
              have hxg:=hxv
              rw [hs5] at hxg
              rw [← hxg]
              rw [zaa h9]
              repeat' ( simp -implicitDefEqProofs only [syms,symx,seval,c77,hi4,and_self,if_true,zl6,ziE])
              refine zae (o:=3+i*2) qX sz23 (zgd _) rfl (by show _≤11; omega) rfl (fun h10 qX' c=>?_)
              rw [zgj a (by omega)] at qX'
              replace q:=q.stepL c (Ne.symm hXC)
              replace qA:=qA.stepL c (Ne.symm hXA)
              replace cg:=cg.fresh c hXc
              replace z:=z.stepW c hXh (by omega)
              clear qX
              rw [zaa h10]
              repeat' ( simp -implicitDefEqProofs only [syms,symx,seval,c77])
              rw [hwi]
              (rw [hI1]; with_reducible refine zac (m:=_) ?_ ⟨i+1,a.put i ⟨false,xv⟩,_,rfl,z,⟨rfl,by omega,by rw [zgH hst,ziT,← hst5]; exact q,fun x hx=>by
                obtain ⟨y,hy,e⟩:=zfh hst hx
                rw [e,zgc hy,← hbv,← hst5,← hxv,hb5],cg,qA,qX'⟩,junk (by kernel_rfl)⟩; omega)
            · simp -implicitDefEqProofs only [syms,symx,seval,c77]
              refine zd9 (fun hm1=>?_) (fun hm1=>?_)
              · have hff:=znR (s:=s) (o:=o4) hlo (by omega)
                rw [decide_eq_true (show zaP s o4=1 by omega)] at hff
                simp -implicitDefEqProofs only [syms,symx,seval,c77]
                refine zdo s hs _ C h _ (z.upW _ _ (by omega)) hC (q.lay _ _) _ (fun h9 z2 s2 q2=>?_)
                replace cg:=cg.onto s2
                replace qA:=qA.smL s2 hAC
                replace qX:=qX.smL s2 hXC
                clear q z
                have z:=z2
                have q:=q2
                clear z2 s2 q2
                have hzh9:=z.size
                obtain ⟨st5,hst5⟩:∃ st5,st5=(zbP s o4).map (·.2):=⟨_,rfl⟩
                obtain ⟨bv,hbv⟩:∃ bv,bv=((zbP s o4).map (·.1)).getD false:=⟨_,rfl⟩
                have hs5:st5=some (o4+1):=by rw [hst5,hff]; rfl
                have hb5:bv=true:=by rw [hbv,hff]; rfl
                replace q:CurR 123 h9 C s ((st5.bind (zbg s)).map (·.2)):=by rw [hs5]; exact q
                obtain ⟨xv,hxv⟩:∃ xv,xv=((st5.bind (zbg s)).map (·.1)).getD ⟨#[]⟩:=⟨_,rfl⟩
                have hxg:=hxv
                rw [hs5] at hxg
                rw [← hxg]
                rw [zaa h9]
                repeat' ( simp -implicitDefEqProofs only [syms,symx,seval,c77,hi4,and_self,if_true,zl6,ziE])
                refine zae (o:=3+i*2) qX sz23 (zgd _) rfl (by show _≤11; omega) rfl (fun h10 qX' c=>?_)
                rw [zgj a (by omega)] at qX'
                replace q:=q.stepL c (Ne.symm hXC)
                replace qA:=qA.stepL c (Ne.symm hXA)
                replace cg:=cg.fresh c hXc
                replace z:=z.stepW c hXh (by omega)
                clear qX
                rw [zaa h10]
                repeat' ( simp -implicitDefEqProofs only [syms,symx,seval,c77])
                rw [hwi]
                (rw [hI1]; with_reducible refine zac (m:=_) ?_ ⟨i+1,a.put i ⟨true,xv⟩,_,rfl,z,⟨rfl,by omega,by rw [zgH hst,ziT,← hst5]; exact q,fun x hx=>by
                  obtain ⟨y,hy,e⟩:=zfh hst hx
                  rw [e,zgc hy,← hbv,← hst5,← hxv,hb5],cg,qA,qX'⟩,junk (by kernel_rfl)⟩; omega)
              · have hff:=znR (s:=s) (o:=o4) hlo (by omega)
                rw [decide_eq_false (show ¬ zaP s o4=1 by omega)] at hff
                simp -implicitDefEqProofs only [syms,symx,seval,c77]
                refine zdo s hs _ C h _ (z.upW _ _ (by omega)) hC (q.lay _ _) _ (fun h9 z2 s2 q2=>?_)
                replace cg:=cg.onto s2
                replace qA:=qA.smL s2 hAC
                replace qX:=qX.smL s2 hXC
                clear q z
                have z:=z2
                have q:=q2
                clear z2 s2 q2
                have hzh9:=z.size
                obtain ⟨st5,hst5⟩:∃ st5,st5=(zbP s o4).map (·.2):=⟨_,rfl⟩
                obtain ⟨bv,hbv⟩:∃ bv,bv=((zbP s o4).map (·.1)).getD false:=⟨_,rfl⟩
                have hs5:st5=some (o4+1):=by rw [hst5,hff]; rfl
                have hb5:bv=false:=by rw [hbv,hff]; rfl
                replace q:CurR 123 h9 C s ((st5.bind (zbg s)).map (·.2)):=by rw [hs5]; exact q
                obtain ⟨xv,hxv⟩:∃ xv,xv=((st5.bind (zbg s)).map (·.1)).getD ⟨#[]⟩:=⟨_,rfl⟩
                have hxg:=hxv
                rw [hs5] at hxg
                rw [← hxg]
                rw [zaa h9]
                repeat' ( simp -implicitDefEqProofs only [syms,symx,seval,c77,hi4,and_self,if_true,zl6,ziE])
                refine zae (o:=3+i*2) qX sz23 (zgd _) rfl (by show _≤11; omega) rfl (fun h10 qX' c=>?_)
                rw [zgj a (by omega)] at qX'
                replace q:=q.stepL c (Ne.symm hXC)
                replace qA:=qA.stepL c (Ne.symm hXA)
                replace cg:=cg.fresh c hXc
                replace z:=z.stepW c hXh (by omega)
                clear qX
                rw [zaa h10]
                repeat' ( simp -implicitDefEqProofs only [syms,symx,seval,c77])
                rw [hwi]
                (rw [hI1]; with_reducible refine zac (m:=_) ?_ ⟨i+1,a.put i ⟨false,xv⟩,_,rfl,z,⟨rfl,by omega,by rw [zgH hst,ziT,← hst5]; exact q,fun x hx=>by
                  obtain ⟨y,hy,e⟩:=zfh hst hx
                  rw [e,zgc hy,← hbv,← hst5,← hxv,hb5],cg,qA,qX'⟩,junk (by kernel_rfl)⟩; omega)
          · have hff:=zkg (s:=s) (o:=o4) hlo
            have hby:zoq s o4=none:=if_neg hlo
            rw [hby] at q ⊢
            replace q:CurR 123 h7 C s none:=q
            show KOps _ _ _ _ _ _ _ _ (.int .u8 ((0:Nat):Int)) _
            simp -implicitDefEqProofs only [syms,symx,seval,c77]
            refine zdo s hs _ C h _ (z.upW _ _ (by omega)) hC (q.lay _ _) _ (fun h9 z2 s2 q2=>?_)
            replace cg:=cg.onto s2
            replace qA:=qA.smL s2 hAC
            replace qX:=qX.smL s2 hXC
            clear q z
            have z:=z2
            have q:=q2
            clear z2 s2 q2
            have hzh9:=z.size
            obtain ⟨st5,hst5⟩:∃ st5,st5=(zbP s o4).map (·.2):=⟨_,rfl⟩
            obtain ⟨bv,hbv⟩:∃ bv,bv=((zbP s o4).map (·.1)).getD false:=⟨_,rfl⟩
            have hs5:st5=none:=by rw [hst5,hff]; rfl
            have hb5:bv=false:=by rw [hbv,hff]; rfl
            replace q:CurR 123 h9 C s ((st5.bind (zbg s)).map (·.2)):=by rw [hs5]; exact q
            obtain ⟨xv,hxv⟩:∃ xv,xv=((st5.bind (zbg s)).map (·.1)).getD ⟨#[]⟩:=⟨_,rfl⟩
            have hxg:=hxv
            rw [hs5] at hxg
            rw [← hxg]
            rw [zaa h9]
            repeat' ( simp -implicitDefEqProofs only [syms,symx,seval,c77,hi4,and_self,if_true,zl6,ziE])
            refine zae (o:=3+i*2) qX sz23 (zgd _) rfl (by show _≤11; omega) rfl (fun h10 qX' c=>?_)
            rw [zgj a (by omega)] at qX'
            replace q:=q.stepL c (Ne.symm hXC)
            replace qA:=qA.stepL c (Ne.symm hXA)
            replace cg:=cg.fresh c hXc
            replace z:=z.stepW c hXh (by omega)
            clear qX
            rw [zaa h10]
            repeat' ( simp -implicitDefEqProofs only [syms,symx,seval,c77])
            rw [hwi]
            (rw [hI1]; with_reducible refine zac (m:=_) ?_ ⟨i+1,a.put i ⟨false,xv⟩,_,rfl,z,⟨rfl,by omega,by rw [zgH hst,ziT,← hst5]; exact q,fun x hx=>by
              obtain ⟨y,hy,e⟩:=zfh hst hx
              rw [e,zgc hy,← hbv,← hst5,← hxv,hb5],cg,qA,qX'⟩,junk (by kernel_rfl)⟩; omega)
        · obtain rfl:i=k:=by omega
          rw [hst] at hat0
          simp only [Option.bind_some] at hat0
          repeat' ( simp -implicitDefEqProofs only [syms,symx,seval,c77,qq.lay,bne_self_eq_false])
          rw [zbb rfl rfl rfl (zct _) rfl,zad (by omega) (by omega)]
          simp -implicitDefEqProofs only [syms,symx,seval,c77]
          refine zae (o:=2) qX sz3 rfl rfl (by show 2+1≤11; decide) rfl (fun h8 qX' c=>?_)
          replace qX':Holds h8 X (.row ({ a with n:=i }:AtomD).cells 26 false):=qX'
          replace qA:=qA.stepL c (Ne.symm hXA)
          replace qq:=qq.stepL c (Ne.symm hXC)
          replace cg:=cg.fresh c hXc
          replace z:=z.stepW c hXh (by omega)
          clear q
          rw [zaa h8]
          repeat' ( simp -implicitDefEqProofs only [syms,symx,seval,c77,qX'.lay,↓zaN,zaO,zas])
          refine zok { a with n:=i } _ _ (fun hv h' x=>?_) (fun hv cc h' hcc x=>?_)
          · ((skip); replace z:=z.overW x (by (try simp only [lsz]); omega); (try replace cg:=cg.over x); (try replace qq:=qq.over x); (try replace qA:=qA.over x); (try replace qX':=qX'.over x); rw [zaa h'])
            have hat:st.bind (zcd s)=some ({ a with n:=i },o4):=by rw [hat0,if_pos hv]
            repeat' ( simp -implicitDefEqProofs only [syms,symx,seval,c77,bne_self_eq_false,qX'.lay,↓zaN,zaO,zas])
            refine zae (o:=0) qA sz26 (zaG _) rfl (by show 0+11≤11; decide) rfl (fun h10 qA3 c=>?_)
            replace qA3:Holds h10 A (.row ({ a with n:=i }:AtomD).cells 26 false):=qA3
            have qC:=qq.stepL c (Ne.symm hAC)
            replace cg:=cg.fresh c (by omega)
            replace z:=z.stepW c (by omega) (by omega)
            rw [zaa h10]
            simp -implicitDefEqProofs only [syms,symx,seval,c77,qA3.lay,↓zaN,zaO,zas]
            exact h1k _ _ hat _ (z.upW _ _ (by omega)) (cg.lay _ _) (.at ho10 (qC.on _ _))
          · ((skip); replace z:=z.overW x (by (try simp only [lsz]); omega); (try replace cg:=cg.over x); (try replace qq:=qq.over x); (try replace qA:=qA.over x); (try replace qX':=qX'.over x); rw [zaa h'])
            have hat:st.bind (zcd s)=none:=by rw [hat0,if_neg hv]
            have hcn:(cc != 0)=true:=by simpa using hcc
            repeat' ( simp -implicitDefEqProofs only [syms,symx,seval,c77,hcn])
            refine zae (o:=2) qq sz44 rfl rfl (by simp) rfl (fun h9 qq' c=>?_)
            replace qq':Holds h9 C (.row [.string s,.int .i64 o4,.int .i64 15] 123 false):=qq'
            replace qA:=qA.stepL c hAC
            replace cg:=cg.stepC c
            replace z:=z.stepW c hC (by omega)
            rw [zaa h9]
            repeat' ( simp -implicitDefEqProofs only [syms,symx,seval,c77,zcj,zas])
            refine zae (o:=0) qA sz26 (zaG _) rfl (by show 0+11≤11; decide) rfl (fun h10 qA3 c=>?_)
            replace qA3:Holds h10 A (.row noAtomD.cells 26 false):=qA3
            have qC:=qq'.stepL c (Ne.symm hAC)
            replace cg:=cg.fresh c (by omega)
            replace z:=z.stepW c (by omega) (by omega)
            rw [zaa h10]
            simp -implicitDefEqProofs only [syms,symx,seval,c77,qA3.lay,↓zaN,zaO,zas]
            exact h0k hat _ (z.upW _ _ (by omega)) (cg.lay _ _) (.bad ho10 (by decide) (qC.on _ _))
end Go.Proofs.YtemapihoobmonaaGreatDoor
