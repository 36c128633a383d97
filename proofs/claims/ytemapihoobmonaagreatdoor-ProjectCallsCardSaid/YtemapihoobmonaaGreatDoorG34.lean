/- The code of some functions, node by node, for simp. Written by a program (mkcode.py). No condition. -/
import Derived.Test.YtemapihoobmonaaGreatDoorG21
import Derived.Test.YtemapihoobmonaaGreatDoorG25
import Derived.KernelRfl
import Derived.Test.YtemapihoobmonaaGreatDoorG27
import Derived.Test.YtemapihoobmonaaGreatDoorG14
import Derived.Test.YtemapihoobmonaaGreatDoorG33
import Derived.Test.YtemapihoobmonaaGreatDoorG20
import Derived.Test.YtemapihoobmonaaGreatDoorG18
import Derived.Test.YtemapihoobmonaaGreatDoorZN2
namespace Go.Proofs.YtemapihoobmonaaGreatDoor
open Go.Am
set_option linter.unusedSimpArgs false
set_option linter.unusedVariables false
set_option maxRecDepth 100000
set_option maxHeartbeats 0
theorem zyP (A o:Nat) (k:Int) (h0:0≤k) (h4:k≤4):zba tab 24 (.pointer (some ⟨A,o,none⟩)) (some (.int .i64 k)) none none=some (.slice (some ⟨A,if 4=k.toNat then o else o+k.toNat*2,none⟩) (4 - k.toNat) (4 - k.toNat)):=by
  have hG:4 < G:=by decide
  simp only [zba,ds24,zbM,zfG,if_pos hG,Option.bind_some]
  rw [if_pos ⟨h0,by omega⟩]
  simp [sz23]
theorem zej (a:AtomD) (k:Nat):(a.all.drop k).length=4 - k:=by rw [List.length_drop]; rfl
theorem zv3 (a:AtomD) {k i:Nat} (h:k+i < 4):(a.all.drop k)[i]? = some (a.arg (k+i)):=by
  rw [List.getElem?_drop]
  have:k+i=0∨k+i=1∨k+i=2∨k+i=3:=by omega
  rcases this with e | e | e | e <;> rw [e] <;> rfl
theorem zyX {H:Heap} {A:Nat} {a:AtomD} {u:TypeId} {ro:Bool} (q:Holds H A (.row a.cells u ro)) (k:Nat) (hk:k≤4):Sl Rep.term H (.slice (some ⟨A,if 4=k then 3 else 3+k*2,none⟩) (4 - k) (4 - k)) (a.all.drop k):=by
  refine .inr ⟨A,_,4 - k,a.cells,u,ro,by rw [zej],by rw [zej]; unfold maxLen; omega,.inl ⟨by unfold G; omega,by rw [zej]; exact Nat.le_refl _⟩,q.lt,q.get,fun i x hx=>?_⟩
  have hi:i < 4 - k:=by have:=(List.getElem?_eq_some_iff.1 hx).1; rw [zej] at this; exact this
  rw [zv3 a (by omega)] at hx
  cases hx
  have hc:=zzl a (k+i) (by omega)
  rw [if_neg (by omega)]
  refine ⟨_,?_,rfl⟩
  show cut a.cells (3+k*2+i*2) 2=_
  rw [← hc]
  congr 1
  omega
theorem zuZ (a:AtomD):a.cells[0]? = some (.string a.says):=rfl
theorem zty (a:AtomD):a.cells[1]? = some (.string a.pred):=rfl
theorem zqL (a:AtomD):a.cells[2]? = some (.int .i64 a.n):=rfl
theorem zm6 (a:AtomD) (h:Heap) (hsp:SpaceAt 1 h) (K:Value→Heap→Prop) (h1:ValidX a→∀ h',Ext h h'→K (.int .i64 0) h') (h2:¬ ValidX a→∀ c h',c≠0→Ext h h'→K (.int .i64 c) h'):Ok Tryz.prog tab ov 125 [a.val] h K:=by
  rw [zaa h]
  have z:=Ext.refl h
  refine Ok.into rfl zvO (zaD N125) rfl (m:=40) rfl ?_
  repeat' ( simp -implicitDefEqProofs only [syms,symx,seval,c125,zaG,zuZ,zty,zqL])
  refine zra _ _ (hsp.lay _ _) _ (fun hs h' x=>?_) (fun hs h' x=>?_)
  rotate_left
  · ((skip); replace z:=z.overW x (by (try simp only [lsz]); omega); rw [zaa h'])
    repeat' (first | simp -implicitDefEqProofs only [syms,symx,seval,c125] | ((with_reducible_and_instances apply zap); (· rfl)))
    exact h2 (fun x=>hs x.says) _ _ (by decide) (z.upW _ _ (by omega))
  have q0:=Holds.top (i:=0) x rfl
  ((skip); replace z:=z.overW x (by (try simp only [lsz]); omega); rw [zaa h'])
  repeat' (first | simp -implicitDefEqProofs only [syms,symx,seval,c125,q0.lay,zuZ,zty,zqL] | ((with_reducible_and_instances apply zap); (· rfl)))
  refine zw0 _ _ ((hsp.ext z).lay _ _) _ (fun hp h' x=>?_) (fun hp h' x=>?_)
  rotate_left
  · ((skip); replace z:=z.overW x (by (try simp only [lsz]); omega); (try replace q0:=q0.over x); rw [zaa h'])
    repeat' (first | simp -implicitDefEqProofs only [syms,symx,seval,c125] | ((with_reducible_and_instances apply zap); (· rfl)))
    exact h2 (fun x=>hp x.pred) _ _ (by decide) (z.upW _ _ (by omega))
  ((skip); replace z:=z.overW x (by (try simp only [lsz]); omega); (try replace q0:=q0.over x); rw [zaa h'])
  repeat' (first | simp -implicitDefEqProofs only [syms,symx,seval,c125,q0.lay,zuZ,zty,zqL,↓zaN,zaO,zas] | ((with_reducible  apply zar ) <;> intro _) | ((with_reducible_and_instances apply zap); (· rfl)))
  all_goals try exact h2 (fun x=>by have:=x.lo; have:=x.hi; omega) _ _ (by decide) (z.upW _ _ (by omega))
  have hn0:0≤a.n:=by omega
  have hn4:a.n≤4:=by omega
  have hcnt:a.cnt=a.n.toNat:=zyJ hn0 hn4
  refine zAc a _ _ (fun w h' x sw=>?_)
  ((skip); replace z:=z.overW x (by (try simp only [lsz]); omega); (try replace q0:=q0.over x); rw [zaa h'])
  have hvw:=zaR w
  repeat' ( simp -implicitDefEqProofs only [syms,symx,seval,c125,hvw])
  refine zkc a.args w _ badT _ (sw.lay _ _) (by rw [zdy]; have:=zri a; omega) (fun t hc K' xe hK=>by rw [zcs]; exact zsM t hc ((hsp.ext z).lay _ _ |>.ext xe) K' hK) _ (fun h' x=>?_)
  ((skip); replace z:=z.overW x (by (try simp only [lsz]); omega); (try replace q0:=q0.over x); rw [zaa h'])
  cases hany:a.args.any badT
  rotate_left
  · repeat' ( simp -implicitDefEqProofs only [syms,symx,seval,c125])
    refine h2 (fun x=>?_) _ _ (by decide) (z.upW _ _ (by omega))
    obtain ⟨t,ht,hb⟩:=List.any_eq_true.1 hany
    obtain ⟨i,hi,rfl⟩:=arg_mem.1 ht
    have:=x.terms i (cnt_lt.1 hi).2
    unfold badT at hb
    simp [this] at hb
  have hterms:∀ i:Nat,(i:Int) < a.n→termX (a.arg i):=fun i hi=>by
    have:=List.any_eq_false.1 hany (a.arg i) (arg_mem.2 ⟨i,by omega,rfl⟩)
    unfold badT at this
    simpa using this
  obtain ⟨k,hk⟩:=Int.eq_ofNat_of_zero_le hn0
  have hk4:k≤4:=by omega
  have hsl:=zyP
  have hrest:=zyX q0 k hk4
  have hin4:(0:Int)≤a.n∧a.n≤4:=⟨hn0,hn4⟩
  repeat' ( simp -implicitDefEqProofs only [syms,symx,seval,c125,q0.lay,zqL,zyP _ _ _ hn0 hn4])
  have hkn:a.n.toNat=k:=by omega
  rw [hkn]
  obtain ⟨sv,hsv⟩:∃ sv,sv=Value.slice (some ⟨h.size+0,if 4=k then 3 else 3+k*2,none⟩) (4 - k) (4 - k):=⟨_,rfl⟩
  rw [← hsv] at hrest ⊢
  clear hsl
  obtain ⟨I1,hI1⟩:∃ I:Nat→Env→Heap→Prop,I=(fun n e h'=>∃ (i:Nat) (h1:Heap),h'=h1.lay [] h1.low∧Ext h h1∧(n=4 - k - i∧i≤4 - k∧(∀ t∈(a.all.drop k).take i,t=noTermD)∧Sl Rep.term h1 sv (a.all.drop k))∧∃ J:Nat→Value,e=(jr J 0 31 (sv::.int .i64 ((4 - k:Nat):Int)::.int .i64 i::jr J 34 7 ([])))):=⟨_,rfl⟩
  refine zaC I1 _ (by rw [hI1]; exact ⟨0,_,rfl,z,⟨rfl,by omega,by simp,hrest⟩,junk (by kernel_rfl)⟩) ?_
  intro n e h' hin
  rw [hI1] at hin
  obtain ⟨i,h1',rfl,z,hinv,J,rfl⟩:=hin
  clear hrest q0
  obtain ⟨rfl,hi,hall,hrest⟩:=hinv
  have hwi:IntKind.i64.wrap ((i:Int)+1)=((i+1:Nat):Int):=by rw [zad (by omega) (by omega)]; omega
  have hal:=zej a k
  simp -implicitDefEqProofs only [syms,symx,seval,c125]
  refine zar (fun hlt=>?_) (fun hlt=>?_)
  rotate_left
  · rw [List.take_of_length_le (by omega)] at hall
    repeat' ( simp -implicitDefEqProofs only [syms,symx,seval,c125])
    refine h1 ⟨hs,hp,hn0,hn4,hterms,fun j hj hj4=>?_⟩ _ (z.upW _ _ (by omega))
    have hat:=zv3 a (k:=k) (i:=j - k) (by omega)
    have e:k+(j - k)=j:=by omega
    rw [e] at hat
    exact hall _ (List.mem_of_getElem? hat)
  obtain ⟨⟨rv,rs⟩,hr,hr'⟩:=zaY (l:=a.all.drop k) (i:=i) (by omega)
  have hri:a.arg (k+i)=⟨rv,rs⟩:=Option.some.inj ((zv3 a (by omega)).symm.trans hr')
  repeat' (first | simp -implicitDefEqProofs only [syms,symx,seval,c125,zbw,zaS,List.all_cons,List.all_nil,Am.one,Bool.and_true,Bool.true_and,Bool.and_self,List.set_cons_zero,List.set_cons_succ,st4,st3,st9,st23,st26,st29,zeo,TermD.val,TermD.cells,zr4,zps] | ((with_reducible  apply zeP ) <;> intro _) | with_reducible_and_instances refine zyC hrest zvr sz23 (by omega) hr (fun p hp=>?_) | with_reducible_and_instances refine ldt hp ag23 sz23 ?_)
  · refine h2 (fun x=>?_) _ _ (by decide) (z.upW _ _ (by omega))
    have:=x.rest (k+i) (by omega) (by omega)
    rw [hri] at this
    exact absurd this (by assumption)
  · have heq9:(⟨rv,rs⟩:TermD)=noTermD:=‹(⟨rv,rs⟩:TermD)=⟨false,⟨#[]⟩⟩›
    rw [hwi]
    refine zsp (z.upW _ _ (by omega)) (fun H z hO hI=>?_)
    (rw [hI1]; with_reducible refine zac (m:=_) ?_ ⟨i+1,_,rfl,z,⟨rfl,by omega,zci (i:=i) (P:=fun t:TermD=>t=noTermD) hr' hall heq9,hrest.mono hI⟩,junk (by kernel_rfl)⟩; omega)
theorem zr5 (s:ByteArray) (hs:s.size≤100000) (st:Option Nat) (C:Nat) (h hc:Heap) (z:Ext h hc) (hC:h.size≤C) (q:CurH 197 hc C s st) (K:Value→Heap→Prop)
    (hk:∀ h',Ext h h'→Sm C hc h'→CurH 197 h' C s ((st.bind (numO s)).map (·.2))→K (.int .u32 (((st.bind (numO s)).map (·.1)).getD 0:Nat)) h'):Ok Tryz.prog tab ov 200 [.pointer (some ⟨C,0,none⟩)] hc K :=
  zky s hs st C h hc z hC q K (fun n o2 e h' z s q=>by have:=hk h' z s; rw [e] at this; exact this q) (fun e h' z s q=>by have:=hk h' z s; rw [e] at this; exact this q)
theorem zli (s:ByteArray) (hs:s.size≤100000) (st:Option Nat) (C:Nat) (h hc:Heap) (z:Ext h hc) (hC:h.size≤C) (q:CurH 197 hc C s st) (K:Value→Heap→Prop)
    (hk:∀ h',Ext h h'→Sm C hc h'→CurH 197 h' C s ((st.bind (zbg s)).map (·.2))→K (.string (((st.bind (zbg s)).map (·.1)).getD ⟨#[]⟩)) h'):Ok Tryz.prog tab ov 199 [.pointer (some ⟨C,0,none⟩)] hc K :=
  zxc s hs st C h hc z hC q K (fun n o2 e h' z s q=>by have:=hk h' z s; rw [e] at this; exact this q) (fun e h' z s q=>by have:=hk h' z s; rw [e] at this; exact this q)
theorem zwU (s:ByteArray) (hs:s.size≤100000) (st:Option Nat) (C:Nat) (h hc:Heap) (z:Ext h hc) (hC:h.size≤C) (q:CurH 197 hc C s st) (K:Value→Heap→Prop)
    (hk:∀ h',Ext h h'→Sm C hc h'→CurH 197 h' C s ((st.bind (zbP s)).map (·.2))→K (.bool (((st.bind (zbP s)).map (·.1)).getD false)) h'):Ok Tryz.prog tab ov 201 [.pointer (some ⟨C,0,none⟩)] hc K :=
  zwI s hs st C h hc z hC q K (fun n o2 e h' z s q=>by have:=hk h' z s; rw [e] at this; exact this q) (fun e h' z s q=>by have:=hk h' z s; rw [e] at this; exact this q)
theorem zbY (a:Int):zaF Tryz.prog (Next.value <$> convert 151 3 (.int .u32 a))=some (Next.value (.int .i64 (IntKind.i64.wrap a))):=by rfl
theorem zfZ:zcv tab 26 []=some noAtomD.val:=by kernel_rfl
theorem zkp (s:ByteArray) (hs:s.size≤100000) (o:Nat) (C:Nat) (h hc:Heap) (hsp:SpaceAt 1 h) (z:Ext h hc) (hC:h.size≤C) (q:CurH 197 hc C s (some o)) (K:Value→Heap→Prop)
    (h1k:∀ (a:AtomD) (o2:Nat),zcd s o=some (a,o2)→∀ h',Ext h h'→Sm C hc h'→CurH 197 h' C s (some o2)→K a.val h')
    (h0k:zcd s o=none→∀ h',Ext h h'→Sm C hc h'→CurH 197 h' C s none→K noAtomD.val h'):Ok Tryz.prog tab ov 177 [.pointer (some ⟨C,0,none⟩)] hc K:=by
  have cg:=Sm.refl C hc
  have hClt:=q.lt
  have hzs:=z.size
  rw [zaa hc]
  refine Ok.into rfl zvm (zaD N177) rfl (m:=78) rfl ?_
  simp -implicitDefEqProofs only [syms,symx,seval,c177]
  refine zjc (fun h' x hq=>?_)
  have qA:=hq 0 _ rfl
  clear hq
  (replace z:=z.overW x (by (try simp only [lsz]); omega); (try replace q:=q.over x); (try replace cg:=cg.over x); rw [zaa h'])
  obtain ⟨A,hA⟩:∃ A,A=hc.size+0:=⟨_,rfl⟩
  rw [← hA] at qA
  rw [← hA]
  replace qA:Holds h' A (.row noAtomD.cells 26 false):=qA
  with_reducible first | refine zcb (by simp only [c177]) (z.upW _ _ (by omega)) ?_
  repeat' ( simp -implicitDefEqProofs only [syms,symx,seval,c177])
  have hAC:A≠C:=by omega
  have hzh:=z.size
  have hAh:h.size≤A:=by omega
  refine zli s hs (some o) C h _ (z.upW _ _ (by omega)) hC (q.lay _ _) _ (fun h2 z2 s2 q2=>?_)
  refine zji (by kernel_rfl) z2.low (by have:=s2.size; rw [zag] at this ⊢; simpa using this) ?_
  replace cg:=cg.onto s2
  replace qA:=qA.smL s2 hAC
  clear q z
  have z:=z2
  have q:=q2
  clear z2 s2 q2
  obtain ⟨r1,hr1⟩:∃ r1,r1=zbg s o:=⟨_,rfl⟩
  rw [Option.bind_some,← hr1] at q
  rw [Option.bind_some,← hr1]
  rw [zaa h2]
  obtain ⟨st1,hst1⟩:∃ st1,st1=r1.map (·.2):=⟨_,rfl⟩
  obtain ⟨x1,hx1⟩:∃ x1,x1=(r1.map (·.1)).getD ⟨#[]⟩:=⟨_,rfl⟩
  rw [← hst1] at q
  rw [← hx1]
  repeat' ( simp -implicitDefEqProofs only [syms,symx,seval,c177])
  refine zli s hs _ C h _ (z.upW _ _ (by omega)) hC (q.lay _ _) _ (fun h3 z2 s2 q2=>?_)
  refine zji (by kernel_rfl) z2.low (by have:=s2.size; rw [zag] at this ⊢; simpa using this) ?_
  replace cg:=cg.onto s2
  replace qA:=qA.smL s2 hAC
  clear q z
  have z:=z2
  have q:=q2
  clear z2 s2 q2
  have hzh:=z.size
  obtain ⟨r2,hr2⟩:∃ r2,r2=st1.bind (zbg s):=⟨_,rfl⟩
  rw [← hr2] at q
  rw [← hr2]
  rw [zaa h3]
  obtain ⟨st2,hst2⟩:∃ st2,st2=r2.map (·.2):=⟨_,rfl⟩
  obtain ⟨x2,hx2⟩:∃ x2,x2=(r2.map (·.1)).getD ⟨#[]⟩:=⟨_,rfl⟩
  rw [← hst2] at q
  rw [← hx2]
  repeat' ( simp -implicitDefEqProofs only [syms,symx,seval,c177])
  refine zae (o:=0) qA sz9 rfl rfl (by show 0+1≤11; decide) rfl (fun h4 qA' c=>?_)
  replace qA':Holds h4 A (.row ({ noAtomD with says:=x1 }:AtomD).cells 26 false):=qA'
  refine zbi (A:=A) (by kernel_rfl) (by rw [zag]; have:=z.size; omega) (by omega) (by simpa only [zat,zag,List.append_nil,List.length_nil,Nat.add_zero] using c) ?_
  replace cg:=cg.fresh c (by omega)
  replace q:=q.stepL c (Ne.symm hAC)
  replace z:=(z.upW [] (h3.size+0) (by have:=z.size; omega)).step c hAh
  clear qA
  have qA:=qA'
  clear qA'
  rw [zaa h4]
  repeat' ( simp -implicitDefEqProofs only [syms,symx,seval,c177])
  refine zae (o:=1) qA sz9 rfl rfl (by show 1+1≤11; decide) rfl (fun h5 qA' c=>?_)
  replace qA':Holds h5 A (.row ({ noAtomD with says:=x1,pred:=x2 }:AtomD).cells 26 false):=qA'
  refine zbi (A:=A) (by kernel_rfl) (by rw [zag]; have:=z.size; omega) (by omega) (by simpa only [zat,zag,List.append_nil,List.length_nil,Nat.add_zero] using c) ?_
  replace cg:=cg.fresh c (by omega)
  replace q:=q.stepL c (Ne.symm hAC)
  replace z:=(z.upW [] (h4.size+0) (by have:=z.size; omega)).step c hAh
  clear qA
  have qA:=qA'
  clear qA'
  rw [zaa h5]
  simp -implicitDefEqProofs only [syms,symx,seval,c177]
  ((with_reducible refine ⟨z.grw.lay _ _,?_⟩); (intro _ h' zz x _); (try simp only [zat,List.append_nil] at x); (try replace q:=q.over x); (try replace cg:=cg.over x); (try replace qA:=qA.over x); (replace z:=zz); (clear zz); rw [zaa h'])
  repeat' ( simp -implicitDefEqProofs only [syms,symx,seval,c177])
  refine zr5 s hs _ C h _ (z.upW _ _ (by omega)) hC (q.lay _ _) _ (fun h6 z2 s2 q2=>?_)
  replace cg:=cg.onto s2
  replace qA:=qA.smL s2 hAC
  clear q z
  have z:=z2
  have q:=q2
  clear z2 s2 q2
  have hzh6:=z.size
  obtain ⟨r3,hr3⟩:∃ r3,r3=st2.bind (numO s):=⟨_,rfl⟩
  rw [← hr3] at q
  rw [← hr3]
  rw [zaa h6]
  rcases r3 with _ | ⟨k,o3⟩
  · have hat:zcd s o=none:=zkM (by rw [← hr1,← hst1,← hr2,← hst2]; exact hr3.symm)
    replace q:CurH 197 h6 C s none:=q
    show KOps _ _ _ _ _ _ _ _ (.int .u32 ((0:Nat):Int)) _
    repeat' ( simp -implicitDefEqProofs only [syms,symx,seval,c177])
    refine zde ?_
    simp -implicitDefEqProofs only [syms,symx,seval,c177]
    rw [zbb rfl rfl rfl (zbY _) rfl,zad (by omega) (by omega)]
    simp -implicitDefEqProofs only [syms,symx,seval,c177]
    rw [zbb rfl rfl rfl (zbY _) rfl,zad (by omega) (by omega)]
    simp -implicitDefEqProofs only [syms,symx,seval,c177]
    refine zae (o:=2) qA sz3 rfl rfl (by show 2+1≤11; decide) rfl (fun h8 qA' c=>?_)
    have qB:=q.stepL c (Ne.symm hAC)
    replace cg:=cg.fresh c (by omega)
    replace z:=(z.upW _ _ (by omega)).step c hAh
    clear qA q
    obtain ⟨o8,ho8,_,qq⟩:=qB
    replace qq:Holds h8 C (.row [.string s,.int .i64 o8,.bool true] 197 false):=qq
    rw [zaa h8]
    repeat' ( simp -implicitDefEqProofs only [syms,symx,seval,c177,qq.lay])
    refine zae (o:=2) qq sz4 rfl rfl (by simp) rfl (fun h9 qq' c=>?_)
    replace qq':Holds h9 C (.row [.string s,.int .i64 o8,.bool true] 197 false):=qq'
    have qA'':=qA'.stepL c hAC
    replace cg:=cg.stepC c
    replace z:=(z.upW _ _ (by omega)).step c hC
    clear qq qA'
    rw [zaa h9]
    repeat' ( simp -implicitDefEqProofs only [syms,symx,seval,c177,qq'.lay,zfZ,zas])
    refine zae (o:=0) qA'' sz26 (zaG _) rfl (by show 0+11≤11; decide) rfl (fun h10 qA3 c=>?_)
    replace qA3:Holds h10 A (.row noAtomD.cells 26 false):=qA3
    have qC:=qq'.stepL c (Ne.symm hAC)
    replace cg:=cg.fresh c (by omega)
    replace z:=(z.upW _ _ (by omega)).step c hAh
    clear qA'' qq'
    rw [zaa h10]
    repeat' ( simp -implicitDefEqProofs only [syms,symx,seval,c177,qA3.lay,↓zaN,zaO,zas])
    exact h0k hat _ (z.upW _ _ (by omega)) (cg.lay _ _) ⟨o8,ho8,nofun,qC.on _ _⟩
  · skip
    have hk4:k≤4294967295:=by
      rcases st2 with _ | p2
      · cases hr3
      · exact zyE hr3.symm
    have hat0:=zkT hr1 hst1 hr2 hst2 hr3 hx1 hx2
    obtain ⟨a0,ha0⟩:∃ a0:AtomD,a0={ noAtomD with says:=x1,pred:=x2 }:=⟨_,rfl⟩
    rw [← ha0] at hat0 qA
    replace q:CurH 197 h6 C s (some o3):=q
    show KOps _ _ _ _ _ _ _ _ (.int .u32 ((k:Nat):Int)) _
    simp -implicitDefEqProofs only [syms,symx,seval,c177]
    refine zar (fun hgt=>?_) (fun hgt=>?_)
    · have hat:zcd s o=none:=by rw [hat0,if_neg (by omega)]
      obtain ⟨o9,ho9,_,qq⟩:=q
      replace qq:Holds h6 C (.row [.string s,.int .i64 o9,.bool false] 197 false):=qq
      repeat' ( simp -implicitDefEqProofs only [syms,symx,seval,c177,qq.lay])
      refine zae (o:=2) qq sz4 rfl rfl (by simp) rfl (fun h7 qq' c=>?_)
      have q:CurH 197 h7 C s none:=⟨o9,ho9,nofun,qq'⟩
      replace qA:=qA.stepL c hAC
      replace cg:=cg.stepC c
      replace z:=(z.upW _ _ (by omega)).step c hC
      clear qq
      rw [zaa h7]
      repeat' ( simp -implicitDefEqProofs only [syms,symx,seval,c177])
      refine zde ?_
      simp -implicitDefEqProofs only [syms,symx,seval,c177]
      rw [zbb rfl rfl rfl (zbY _) rfl,zad (by omega) (by omega)]
      simp -implicitDefEqProofs only [syms,symx,seval,c177]
      refine zar (fun _=>?_) (fun hx=>absurd hx (by omega))
      obtain ⟨o10,ho10,_,qq⟩:=q
      replace qq:Holds h7 C (.row [.string s,.int .i64 o10,.bool true] 197 false):=qq
      have q:CurH 197 h7 C s none:=⟨o10,ho10,nofun,qq⟩
      repeat' (first | simp -implicitDefEqProofs only [syms,symx,seval,c177,qq.lay,Bool.not_true] | ((with_reducible_and_instances apply zap); (· rfl)))
      clear qq
      rw [zbb rfl rfl rfl (zbY _) rfl,zad (by omega) (by omega)]
      simp -implicitDefEqProofs only [syms,symx,seval,c177]
      refine zae (o:=2) qA sz3 rfl rfl (by show 2+1≤11; decide) rfl (fun h8 qA' c=>?_)
      have qB:=q.stepL c (Ne.symm hAC)
      replace cg:=cg.fresh c (by omega)
      replace z:=(z.upW _ _ (by omega)).step c hAh
      clear qA q
      obtain ⟨o8,ho8,_,qq⟩:=qB
      replace qq:Holds h8 C (.row [.string s,.int .i64 o8,.bool true] 197 false):=qq
      rw [zaa h8]
      repeat' ( simp -implicitDefEqProofs only [syms,symx,seval,c177,qq.lay])
      refine zae (o:=2) qq sz4 rfl rfl (by simp) rfl (fun h9 qq' c=>?_)
      replace qq':Holds h9 C (.row [.string s,.int .i64 o8,.bool true] 197 false):=qq'
      have qA'':=qA'.stepL c hAC
      replace cg:=cg.stepC c
      replace z:=(z.upW _ _ (by omega)).step c hC
      clear qq qA'
      rw [zaa h9]
      repeat' ( simp -implicitDefEqProofs only [syms,symx,seval,c177,qq'.lay,zfZ,zas])
      refine zae (o:=0) qA'' sz26 (zaG _) rfl (by show 0+11≤11; decide) rfl (fun h10 qA3 c=>?_)
      replace qA3:Holds h10 A (.row noAtomD.cells 26 false):=qA3
      have qC:=qq'.stepL c (Ne.symm hAC)
      replace cg:=cg.fresh c (by omega)
      replace z:=(z.upW _ _ (by omega)).step c hAh
      clear qA'' qq'
      rw [zaa h10]
      repeat' ( simp -implicitDefEqProofs only [syms,symx,seval,c177,qA3.lay,↓zaN,zaO,zas])
      exact h0k hat _ (z.upW _ _ (by omega)) (cg.lay _ _) ⟨o8,ho8,nofun,qC.on _ _⟩

    · have hk4':k≤4:=by omega
      rw [if_pos hk4'] at hat0
      repeat' ( simp -implicitDefEqProofs only [syms,symx,seval,c177])
      obtain ⟨I1,hI1⟩:∃ I:Nat→Env→Heap→Prop,I=(fun n e h'=>∃ (i:Nat) (a:AtomD) (h1:Heap),h'=h1.lay [] h1.low∧Ext h h1∧(n=k - i∧i≤k∧CurH 197 h1 C s ((zch s a0 o3 i).map (·.2))∧(∀ x,zch s a0 o3 i=some x→x.1=a)∧Sm C hc h1∧Holds h1 A (.row a.cells 26 false))∧∃ J:Nat→Value,e=(.pointer (some ⟨C,0,none⟩)::J 1::.pointer (some ⟨A,0,none⟩)::.int .u32 k::.int .i64 i::jr J 5 74 ([]))):=⟨_,rfl⟩
      refine zaC I1 _ (by rw [hI1]; exact ⟨0,a0,_,rfl,z,⟨rfl,by omega,q,fun x hx=>by cases hx; rfl,cg,qA⟩,junk (by kernel_rfl)⟩) ?_
      intro n e h' hin
      rw [hI1] at hin
      obtain ⟨i,a,h1',rfl,z,hinv,J,rfl⟩:=hin
      clear q cg qA
      obtain ⟨rfl,hi,q,hax,cg,qA⟩:=hinv
      have hwi:IntKind.i64.wrap ((i:Int)+1)=((i+1:Nat):Int):=by rw [zad (by omega) (by omega)]; omega
      have hzh1:=z.size
      simp -implicitDefEqProofs only [syms,symx,seval,c177]
      rw [zbb rfl rfl rfl (zbY _) rfl,zad (by omega) (by omega)]
      simp -implicitDefEqProofs only [syms,symx,seval,c177]
      rcases hst:zch s a0 o3 i with _ | ⟨a',o4⟩
      · rw [hst] at q
        have hat:zcd s o=none:=by
          have:=zht hst (k - i)
          rw [show i+(k - i)=k by omega] at this
          rw [hat0,this]
          rfl
        obtain ⟨o10,ho10,_,qq⟩:=q
        replace qq:Holds h1' C (.row [.string s,.int .i64 o10,.bool true] 197 false):=qq
        have q:CurH 197 h1' C s none:=⟨o10,ho10,nofun,qq⟩
        refine zar (fun hlt=>?_) (fun hlt=>?_)
        · repeat' (first | simp -implicitDefEqProofs only [syms,symx,seval,c177,qq.lay,Bool.not_true] | ((with_reducible_and_instances apply zap); (· rfl)))
          clear qq
          rw [zbb rfl rfl rfl (zbY _) rfl,zad (by omega) (by omega)]
          simp -implicitDefEqProofs only [syms,symx,seval,c177]
          refine zae (o:=2) qA sz3 rfl rfl (by show 2+1≤11; decide) rfl (fun h8 qA' c=>?_)
          have qB:=q.stepL c (Ne.symm hAC)
          replace cg:=cg.fresh c (by omega)
          replace z:=(z.upW _ _ (by omega)).step c hAh
          clear qA q
          obtain ⟨o8,ho8,_,qq⟩:=qB
          replace qq:Holds h8 C (.row [.string s,.int .i64 o8,.bool true] 197 false):=qq
          rw [zaa h8]
          repeat' ( simp -implicitDefEqProofs only [syms,symx,seval,c177,qq.lay])
          refine zae (o:=2) qq sz4 rfl rfl (by simp) rfl (fun h9 qq' c=>?_)
          replace qq':Holds h9 C (.row [.string s,.int .i64 o8,.bool true] 197 false):=qq'
          have qA'':=qA'.stepL c hAC
          replace cg:=cg.stepC c
          replace z:=(z.upW _ _ (by omega)).step c hC
          clear qq qA'
          rw [zaa h9]
          repeat' ( simp -implicitDefEqProofs only [syms,symx,seval,c177,qq'.lay,zfZ,zas])
          refine zae (o:=0) qA'' sz26 (zaG _) rfl (by show 0+11≤11; decide) rfl (fun h10 qA3 c=>?_)
          replace qA3:Holds h10 A (.row noAtomD.cells 26 false):=qA3
          have qC:=qq'.stepL c (Ne.symm hAC)
          replace cg:=cg.fresh c (by omega)
          replace z:=(z.upW _ _ (by omega)).step c hAh
          clear qA'' qq'
          rw [zaa h10]
          repeat' ( simp -implicitDefEqProofs only [syms,symx,seval,c177,qA3.lay,↓zaN,zaO,zas])
          exact h0k hat _ (z.upW _ _ (by omega)) (cg.lay _ _) ⟨o8,ho8,nofun,qC.on _ _⟩
        · repeat' ( simp -implicitDefEqProofs only [syms,symx,seval,c177,qq.lay,Bool.not_true])
          clear qq
          rw [zbb rfl rfl rfl (zbY _) rfl,zad (by omega) (by omega)]
          simp -implicitDefEqProofs only [syms,symx,seval,c177]
          refine zae (o:=2) qA sz3 rfl rfl (by show 2+1≤11; decide) rfl (fun h8 qA' c=>?_)
          have qB:=q.stepL c (Ne.symm hAC)
          replace cg:=cg.fresh c (by omega)
          replace z:=(z.upW _ _ (by omega)).step c hAh
          clear qA q
          obtain ⟨o8,ho8,_,qq⟩:=qB
          replace qq:Holds h8 C (.row [.string s,.int .i64 o8,.bool true] 197 false):=qq
          rw [zaa h8]
          repeat' ( simp -implicitDefEqProofs only [syms,symx,seval,c177,qq.lay])
          refine zae (o:=2) qq sz4 rfl rfl (by simp) rfl (fun h9 qq' c=>?_)
          replace qq':Holds h9 C (.row [.string s,.int .i64 o8,.bool true] 197 false):=qq'
          have qA'':=qA'.stepL c hAC
          replace cg:=cg.stepC c
          replace z:=(z.upW _ _ (by omega)).step c hC
          clear qq qA'
          rw [zaa h9]
          repeat' ( simp -implicitDefEqProofs only [syms,symx,seval,c177,qq'.lay,zfZ,zas])
          refine zae (o:=0) qA'' sz26 (zaG _) rfl (by show 0+11≤11; decide) rfl (fun h10 qA3 c=>?_)
          replace qA3:Holds h10 A (.row noAtomD.cells 26 false):=qA3
          have qC:=qq'.stepL c (Ne.symm hAC)
          replace cg:=cg.fresh c (by omega)
          replace z:=(z.upW _ _ (by omega)).step c hAh
          clear qA'' qq'
          rw [zaa h10]
          repeat' ( simp -implicitDefEqProofs only [syms,symx,seval,c177,qA3.lay,↓zaN,zaO,zas])
          exact h0k hat _ (z.upW _ _ (by omega)) (cg.lay _ _) ⟨o8,ho8,nofun,qC.on _ _⟩
      · obtain rfl:a=a':=(hax _ hst).symm
        rw [hst] at q
        replace q:CurH 197 h1' C s (some o4):=q
        obtain ⟨o10,ho10,he10,qq⟩:=q
        obtain rfl:=he10 o4 rfl
        replace qq:Holds h1' C (.row [.string s,.int .i64 o4,.bool false] 197 false):=qq
        have q:CurH 197 h1' C s (some o4):=⟨o4,ho10,fun _ e=>(Option.some.inj e).symm,qq⟩
        refine zar (fun hlt=>?_) (fun hlt=>?_)
        · simp -implicitDefEqProofs only [syms,symx,seval,c177,qq.lay]
          (with_reducible_and_instances apply zap); (· rfl)
          repeat' ( simp -implicitDefEqProofs only [syms,symx,seval,c177,qq.lay,Bool.not_false])
          clear qq
          refine zwU s hs _ C h _ (z.upW _ _ (by omega)) hC (q.lay _ _) _ (fun h7 z2 s2 q2=>?_)
          replace cg:=cg.onto s2
          replace qA:=qA.smL s2 hAC
          clear q z
          have z:=z2
          have q:=q2
          clear z2 s2 q2
          have hzh7:=z.size
          rw [Option.bind_some] at q
          rw [Option.bind_some]
          obtain ⟨bv,hbv⟩:∃ bv,bv=((zbP s o4).map (·.1)).getD false:=⟨_,rfl⟩
          rw [← hbv]
          obtain ⟨st5,hst5⟩:∃ st5,st5=(zbP s o4).map (·.2):=⟨_,rfl⟩
          rw [← hst5] at q
          rw [zaa h7]
          have hi4:(0:Int)≤(i:Int)∧(i:Int) < 4:=by omega
          repeat' ( simp -implicitDefEqProofs only [syms,symx,seval,c177,hi4,and_self,if_true])
          refine zae (o:=3+i*2+0) qA sz4 rfl rfl (by show _≤11; omega) rfl (fun h8 qA' c=>?_)
          replace qA':Holds h8 A (.row (splice a.cells (3+i*2+0) [.bool bv]) 26 false):=qA'
          rw [zsN a (by omega)] at qA'
          replace q:=q.stepL c (Ne.symm hAC)
          replace cg:=cg.fresh c (by omega)
          replace z:=(z.upW _ _ (by omega)).step c hAh
          clear qA
          have qA:=qA'
          clear qA'
          rw [zaa h8]
          repeat' ( simp -implicitDefEqProofs only [syms,symx,seval,c177])
          refine zli s hs _ C h _ (z.upW _ _ (by omega)) hC (q.lay _ _) _ (fun h9 z2 s2 q2=>?_)
          replace cg:=cg.onto s2
          replace qA:=qA.smL s2 hAC
          clear q z
          have z:=z2
          have q:=q2
          clear z2 s2 q2
          have hzh9:=z.size
          obtain ⟨xv,hxv⟩:∃ xv,xv=((st5.bind (zbg s)).map (·.1)).getD ⟨#[]⟩:=⟨_,rfl⟩
          rw [← hxv]
          rw [zaa h9]
          repeat' ( simp -implicitDefEqProofs only [syms,symx,seval,c177,hi4,and_self,if_true])
          refine zae (o:=3+i*2+1) qA sz9 rfl rfl (by show _≤11; omega) rfl (fun h10 qA' c=>?_)
          replace qA':Holds h10 A (.row (splice (a.put i ⟨bv,(a.arg i).s⟩).cells (3+i*2+1) [.string xv]) 26 false):=qA'
          rw [zr1 a (by omega)] at qA'
          replace q:=q.stepL c (Ne.symm hAC)
          replace cg:=cg.fresh c (by omega)
          replace z:=(z.upW _ _ (by omega)).step c hAh
          clear qA
          have qA:=qA'
          clear qA'
          rw [zaa h10]
          repeat' ( simp -implicitDefEqProofs only [syms,symx,seval,c177])
          rw [hwi]
          (rw [hI1]; with_reducible refine zac (m:=_) ?_ ⟨i+1,a.put i ⟨bv,xv⟩,_,rfl,z,⟨rfl,by omega,by rw [zgH hst,ziT,← hst5]; exact q,fun x hx=>by
            obtain ⟨y,hy,e⟩:=zfh hst hx
            rw [e,zgc hy,← hbv,← hst5,← hxv],cg,qA⟩,junk (by kernel_rfl)⟩; omega)
        · obtain rfl:i=k:=by omega
          rw [hst] at hat0
          simp only [Option.bind_some] at hat0
          simp -implicitDefEqProofs only [syms,symx,seval,c177]
          rw [zbb rfl rfl rfl (zbY _) rfl,zad (by omega) (by omega)]
          simp -implicitDefEqProofs only [syms,symx,seval,c177]
          refine zae (o:=2) qA sz3 rfl rfl (by show 2+1≤11; decide) rfl (fun h8 qA' c=>?_)
          replace qA':Holds h8 A (.row ({ a with n:=i }:AtomD).cells 26 false):=qA'
          replace qq:=qq.stepL c (Ne.symm hAC)
          replace cg:=cg.fresh c (by omega)
          replace z:=(z.upW _ _ (by omega)).step c hAh
          clear qA q
          rw [zaa h8]
          repeat' ( simp -implicitDefEqProofs only [syms,symx,seval,c177,qq.lay,qA'.lay,↓zaN,zaO,zas])
          refine zm6 { a with n:=i } _ ((hsp.ext z).lay _ _) _ (fun hv h' x=>?_) (fun hv cc h' hcc x=>?_)
          · (( skip); replace z:=z.overW x (by (try simp only [lsz]); omega); (try replace qq:=qq.over x); (try replace cg:=cg.over x); (try replace qA':=qA'.over x); rw [zaa h'])
            have hat:zcd s o=some ({ a with n:=i },o4):=by rw [hat0,if_pos hv]
            repeat' ( simp -implicitDefEqProofs only [syms,symx,seval,c177,bne_self_eq_false])
            refine zae (o:=2) qq sz4 rfl rfl (by simp) rfl (fun h9 qq' c=>?_)
            replace qq':Holds h9 C (.row [.string s,.int .i64 o4,.bool false] 197 false):=qq'
            have qA'':=qA'.stepL c hAC
            replace cg:=cg.stepC c
            replace z:=(z.upW _ _ (by omega)).step c hC
            clear qq qA'
            rw [zaa h9]
            repeat' ( simp -implicitDefEqProofs only [syms,symx,seval,c177,qq'.lay,qA''.lay,↓zaN,zaO,zas])
            refine zae (o:=0) qA'' sz26 (zaG _) rfl (by show 0+11≤11; decide) rfl (fun h10 qA3 c=>?_)
            replace qA3:Holds h10 A (.row ({ a with n:=i }:AtomD).cells 26 false):=qA3
            have qC:=qq'.stepL c (Ne.symm hAC)
            replace cg:=cg.fresh c (by omega)
            replace z:=(z.upW _ _ (by omega)).step c hAh
            clear qA'' qq'
            rw [zaa h10]
            repeat' ( simp -implicitDefEqProofs only [syms,symx,seval,c177,qA3.lay,↓zaN,zaO,zas])
            exact h1k _ _ hat _ (z.upW _ _ (by omega)) (cg.lay _ _) ⟨o4,ho10,fun _ e=>(Option.some.inj e).symm,qC.on _ _⟩
          · (( skip); replace z:=z.overW x (by (try simp only [lsz]); omega); (try replace qq:=qq.over x); (try replace cg:=cg.over x); (try replace qA':=qA'.over x); rw [zaa h'])
            have hat:zcd s o=none:=by rw [hat0,if_neg hv]
            have hcn:(cc != 0)=true:=by simpa using hcc
            repeat' ( simp -implicitDefEqProofs only [syms,symx,seval,c177,hcn])
            refine zae (o:=2) qq sz4 rfl rfl (by simp) rfl (fun h9 qq' c=>?_)
            replace qq':Holds h9 C (.row [.string s,.int .i64 o4,.bool true] 197 false):=qq'
            have qA'':=qA'.stepL c hAC
            replace cg:=cg.stepC c
            replace z:=(z.upW _ _ (by omega)).step c hC
            clear qq qA'
            rw [zaa h9]
            repeat' ( simp -implicitDefEqProofs only [syms,symx,seval,c177,qq'.lay,zfZ,zas])
            refine zae (o:=0) qA'' sz26 (zaG _) rfl (by show 0+11≤11; decide) rfl (fun h10 qA3 c=>?_)
            replace qA3:Holds h10 A (.row noAtomD.cells 26 false):=qA3
            have qC:=qq'.stepL c (Ne.symm hAC)
            replace cg:=cg.fresh c (by omega)
            replace z:=(z.upW _ _ (by omega)).step c hAh
            clear qA'' qq'
            rw [zaa h10]
            repeat' ( simp -implicitDefEqProofs only [syms,symx,seval,c177,qA3.lay,↓zaN,zaO,zas])
            exact h0k hat _ (z.upW _ _ (by omega)) (cg.lay _ _) ⟨o4,ho10,nofun,qC.on _ _⟩
end Go.Proofs.YtemapihoobmonaaGreatDoor
