/- The code of some functions, node by node, for simp. Written by a program (mkcode.py). No condition. -/
import Derived.Test.YtemapihoobmonaaGreatDoorG21
import Derived.Test.YtemapihoobmonaaGreatDoorG25
import Derived.KernelRfl
import Derived.Test.YtemapihoobmonaaGreatDoorG30
import Derived.Test.YtemapihoobmonaaGreatDoorG17
namespace Go.Proofs.YtemapihoobmonaaGreatDoor
open Go.Am
set_option linter.unusedVariables false
set_option linter.unusedSimpArgs false
set_option maxRecDepth 100000
set_option maxHeartbeats 0
noncomputable def N13:=zaA Tryz.f13
noncomputable def x13:=PLift.up (by have c:=zai N13 Tryz.f13; simp only [zao,Tryz.f13,Option.getD_some,zam,opsF,opsX,zaf,zax,dstL,zal,List.append_eq,List.cons_append,List.nil_append,seval] at c; exact nd c <| nd @ix27 <| nd @ix32 <| nd @ld26 <| nd @ld29 <| nd @ln27 <| nd @ln32 <| @fi13)
noncomputable def N18:=zaA Tryz.f18
noncomputable def x18:=PLift.up (by have c:=zai N18 Tryz.f18; simp only [zao,Tryz.f18,Option.getD_some,zam,opsF,opsX,zaf,zax,dstL,zal,List.append_eq,List.cons_append,List.nil_append,seval] at c; exact nd c <| nd @al26 <| nd @zhJ <| nd @ix24 <| nd @ld23 <| nd @ld26 <| @fi18)
noncomputable def N15:=zaA Tryz.f15
noncomputable def x15:=PLift.up (by have c:=zai N15 Tryz.f15; simp only [zao,Tryz.f15,Option.getD_some,zam,opsF,opsX,zaf,zax,dstL,zal,List.append_eq,List.cons_append,List.nil_append,seval] at c; exact nd c <| nd @al23 <| nd @bs36 <| nd @zqB <| nd @zou <| nd @zkR <| nd @zhJ <| nd @ix24 <| nd @ld23 <| nd @ld26 <| nd @ld3 <| nd @ld4 <| nd @ld9 <| @fi15)
end Go.Proofs.YtemapihoobmonaaGreatDoor
namespace Go.Proofs.YtemapihoobmonaaGreatDoor
open Go.Am
set_option linter.unusedSimpArgs false
set_option linter.unusedVariables false
set_option maxRecDepth 100000
set_option maxHeartbeats 0
theorem zox (s:ByteArray) (h:Heap) (K:Value→Heap→Prop) (h1:lowX s→∀ h',Ext h h'→K (.bool true) h') (h2:¬ lowX s→∀ h',Ext h h'→K (.bool false) h'):Ok Tryz.prog tab ov 181 [.string s] h K:=by
  rw [zaa h]
  have z:=Ext.refl h
  refine Ok.into rfl zvb (zaD N181) rfl (m:=40) rfl ?_
  simp -implicitDefEqProofs only [syms,symx,seval,c181]
  refine zar (fun c=>?_) (fun c1=>?_)
  · simp -implicitDefEqProofs only [syms,symx,seval,c181]
    exact h2 (fun x=>by have:=x.pos; omega) _ (z.upW _ _ (by omega))
  simp -implicitDefEqProofs only [syms,symx,seval,c181]
  refine zar (fun c=>?_) (fun c2=>?_)
  · simp -implicitDefEqProofs only [syms,symx,seval,c181]
    exact h2 (fun x=>by have:=x.len; omega) _ (z.upW _ _ (by omega))
  simp -implicitDefEqProofs only [syms,symx,seval,c181]
  refine zbm Tryz.underlying9 rfl rfl (by omega) (by omega) ?_
  simp -implicitDefEqProofs only [syms,symx,seval,c181]
  refine zd9 (fun c=>?_) (fun c3=>?_)
  · simp -implicitDefEqProofs only [syms,symx,seval,c181]
    exact h2 (fun x=>x.first (by simpa using c)) _ (z.upW _ _ (by omega))
  repeat' ( simp -implicitDefEqProofs only [syms,symx,seval,c181])
  obtain ⟨I1,hI1⟩:∃ I:Nat→Env→Heap→Prop,I=(fun n e h'=>∃ (i:Nat) (h1:Heap),h'=h1.lay [] h1.low∧Ext h h1∧(n=s.size - i∧i≤s.size∧∀ j,j < i→zeR (zbr s j))∧∃ J:Nat→Value,e=(.string s::jr J 1 2 (.int .i64 i::jr J 4 37 ([])))):=⟨_,rfl⟩
  refine zaC I1 _ (by rw [hI1]; exact ⟨0,_,rfl,z,⟨rfl,by omega,fun j hj=>by omega⟩,junk (by kernel_rfl)⟩) ?_
  intro n e h' hin
  rw [hI1] at hin
  obtain ⟨i,h1',rfl,z,hinv,J,rfl⟩:=hin
  obtain ⟨rfl,hi,hall⟩:=hinv
  have hw:IntKind.i64.wrap ((i:Int)+1)=((i+1:Nat):Int):=by rw [zad (by omega) (by omega)]; omega
  simp -implicitDefEqProofs only [syms,symx,seval,c181,hw]
  repeat' ((first | ((with_reducible first | apply zar | apply ze2 ) <;> intro _) | with_reducible_and_instances refine zl5 _ _ _ (fun _=>?_) (fun _=>?_) | with_reducible_and_instances refine zqV _ _ _ (fun _=>?_) (fun _=>?_) | ((with_reducible_and_instances apply zbm); (· exact Tryz.underlying9); (· rfl); (· rfl); (· omega); (·  omega )) | ((with_reducible_and_instances apply zap); (· rfl))) <;> simp -implicitDefEqProofs only [syms,symx,seval,c181,hw])
  all_goals first
    | (with_reducible refine h2 (fun x=>?_) _ (z.upW _ _ (by omega))
       have hx:=x.all i (by omega)
       unfold zeR at hx
       omega)
    | (with_reducible refine h1 ?_ _ (z.upW _ _ (by omega))
       exact ⟨by omega,by omega,by simpa using c3,fun j hj=>hall j (by omega)⟩)
    | (have hnx:∀ j,j < i+1→zeR (zbr s j):=by
         intro j hj
         by_cases hji:j < i
         · exact hall j hji
         · have:j=i:=by omega
           subst this
           unfold zeR
           omega
       (rw [hI1]; with_reducible refine zac (m:=_) ?_ ⟨i+1,_,rfl,z,⟨rfl,by omega,hnx⟩,junk (by kernel_rfl)⟩; omega))
theorem znx (s:ByteArray) (h:Heap) (K:Value→Heap→Prop) (h1:varX s→∀ h',Ext h h'→K (.bool true) h') (h2:¬ varX s→∀ h',Ext h h'→K (.bool false) h'):Ok Tryz.prog tab ov 157 [.string s] h K:=by
  rw [zaa h]
  have z:=Ext.refl h
  refine Ok.into rfl zu1 (zaD N157) rfl (m:=48) rfl ?_
  simp -implicitDefEqProofs only [syms,symx,seval,c157]
  refine zar (fun c=>?_) (fun c1=>?_)
  · simp -implicitDefEqProofs only [syms,symx,seval,c157]
    exact h2 (fun x=>by have:=x.pos; omega) _ (z.upW _ _ (by omega))
  simp -implicitDefEqProofs only [syms,symx,seval,c157]
  refine zar (fun c=>?_) (fun c2=>?_)
  · simp -implicitDefEqProofs only [syms,symx,seval,c157]
    exact h2 (fun x=>by have:=x.len; omega) _ (z.upW _ _ (by omega))
  simp -implicitDefEqProofs only [syms,symx,seval,c157]
  refine zbm Tryz.underlying9 rfl rfl (by omega) (by omega) ?_
  simp -implicitDefEqProofs only [syms,symx,seval,c157]
  refine zrc _ _ _ (fun cg=>?_) (fun cg=>?_)
  rotate_left
  · repeat' (first | simp -implicitDefEqProofs only [syms,symx,seval,c157] | ((with_reducible_and_instances apply zap); (· rfl)))
    exact h2 (fun x=>cg (by simpa using x.first)) _ (z.upW _ _ (by omega))
  repeat' (first | simp -implicitDefEqProofs only [syms,symx,seval,c157] | ((with_reducible_and_instances apply zap); (· rfl)))
  obtain ⟨I1,hI1⟩:∃ I:Nat→Env→Heap→Prop,I=(fun n e h'=>∃ (i:Nat) (h1:Heap),h'=h1.lay [] h1.low∧Ext h h1∧(n=s.size - i∧i≤s.size∧∀ j,j < i→okCh (zbr s j))∧∃ J:Nat→Value,e=(.string s::jr J 1 2 (.int .i64 i::jr J 4 45 ([])))):=⟨_,rfl⟩
  refine zaC I1 _ (by rw [hI1]; exact ⟨0,_,rfl,z,⟨rfl,by omega,fun j hj=>by omega⟩,junk (by kernel_rfl)⟩) ?_
  intro n e h' hin
  rw [hI1] at hin
  obtain ⟨i,h1',rfl,z,hinv,J,rfl⟩:=hin
  obtain ⟨rfl,hi,hall⟩:=hinv
  have hw:IntKind.i64.wrap ((i:Int)+1)=((i+1:Nat):Int):=by rw [zad (by omega) (by omega)]; omega
  simp -implicitDefEqProofs only [syms,symx,seval,c157,hw]
  repeat' ((first | ((with_reducible first | apply zar | apply ze2 ) <;> intro _) | with_reducible_and_instances refine zl5 _ _ _ (fun _=>?_) (fun _=>?_) | with_reducible_and_instances refine zqV _ _ _ (fun _=>?_) (fun _=>?_) | with_reducible_and_instances refine zrc _ _ _ (fun _=>?_) (fun _=>?_) | ((with_reducible_and_instances apply zbm); (· exact Tryz.underlying9); (· rfl); (· rfl); (· omega); (·  omega )) | ((with_reducible_and_instances apply zap); (· rfl))) <;> simp -implicitDefEqProofs only [syms,symx,seval,c157,hw])
  all_goals first
    | (with_reducible refine h2 (fun x=>?_) _ (z.upW _ _ (by omega))
       have hx:=x.all i (by omega)
       unfold okCh at hx
       omega)
    | (with_reducible refine h1 ?_ _ (z.upW _ _ (by omega))
       exact ⟨by omega,by omega,by simpa using cg,fun j hj=>hall j (by omega)⟩)
    | (have hnx:∀ j,j < i+1→okCh (zbr s j):=by
         intro j hj
         by_cases hji:j < i
         · exact hall j hji
         · have:j=i:=by omega
           subst this
           unfold okCh
           omega
       (rw [hI1]; with_reducible refine zac (m:=_) ?_ ⟨i+1,_,rfl,z,⟨rfl,by omega,hnx⟩,junk (by kernel_rfl)⟩; omega))
theorem zn9 (s:ByteArray) (h:Heap) (K:Value→Heap→Prop) (h1:resP s→∀ h',Ext h h'→K (.bool true) h') (h2:¬ resP s→∀ h',Ext h h'→K (.bool false) h'):Ok Tryz.prog tab ov 182 [.string s] h K:=by
  rw [zaa h]
  have z:=Ext.refl h
  unfold resP at h1 h2
  refine Ok.into rfl zuT (zaD N182) rfl (m:=17) rfl ?_
  simp -implicitDefEqProofs only [syms,symx,seval,c182,c214]
  refine Ok.into rfl zuB (zaD N214) rfl (m:=2) rfl ?_
  simp -implicitDefEqProofs only [syms,symx,seval,c182,c214]
  repeat' ((first | ((with_reducible  apply zar ) <;> intro _) | with_reducible_and_instances refine zde ?_) <;> simp -implicitDefEqProofs only [syms,symx,seval,c182,c214])
  all_goals first
    | (with_reducible refine h1 ?_ _ (z.upW _ _ (by omega))
       first
         | exact .inl (by assumption)
         | exact .inr (.inl (by assumption))
         | exact .inr (.inr (.inl (by assumption)))
         | exact .inr (.inr (.inr (.inl (by assumption))))
         | exact .inr (.inr (.inr (.inr (.inl (by assumption)))))
         | exact .inr (.inr (.inr (.inr (.inr (.inl (by assumption))))))
         | exact .inr (.inr (.inr (.inr (.inr (.inr (.inl (by assumption)))))))
         | exact .inr (.inr (.inr (.inr (.inr (.inr (.inr (by assumption))))))))
    | (with_reducible refine h2 ?_ _ (z.upW _ _ (by omega))
       rintro (e | e | e | e | e | e | e | e) <;> exact absurd e (by assumption))
theorem zoz (s:ByteArray) (h:Heap) (K:Value→Heap→Prop) (h1:constX s→∀ h',Ext h h'→K (.bool true) h') (h2:¬ constX s→∀ h',Ext h h'→K (.bool false) h'):Ok Tryz.prog tab ov 155 [.string s] h K:=by
  rw [zaa h]
  have z:=Ext.refl h
  refine Ok.into rfl ztS (zaD N155) rfl (m:=9) rfl ?_
  simp -implicitDefEqProofs only [syms,symx,seval,c155]
  refine zox _ _ _ (fun hs h' x=>?_) (fun hs h' x=>?_)
  · ((skip); replace z:=z.overW x (by (try simp only [lsz]); omega); rw [zaa h'])
    simp -implicitDefEqProofs only [syms,symx,seval,c155]
    refine zn9 _ _ _ (fun hr h' x=>?_) (fun hr h' x=>?_)
    · ((skip); replace z:=z.overW x (by (try simp only [lsz]); omega); rw [zaa h'])
      repeat' (first | simp -implicitDefEqProofs only [syms,symx,seval,c155] | ((with_reducible_and_instances apply zap); (· rfl)))
      exact h2 (fun x=>x.2 hr) _ (z.upW _ _ (by omega))
    · ((skip); replace z:=z.overW x (by (try simp only [lsz]); omega); rw [zaa h'])
      repeat' (first | simp -implicitDefEqProofs only [syms,symx,seval,c155] | ((with_reducible_and_instances apply zap); (· rfl)))
      exact h1 ⟨hs,hr⟩ _ (z.upW _ _ (by omega))
  · ((skip); replace z:=z.overW x (by (try simp only [lsz]); omega); rw [zaa h'])
    simp -implicitDefEqProofs only [syms,symx,seval,c155]
    exact h2 (fun x=>hs x.1) _ (z.upW _ _ (by omega))
theorem zqX (s:ByteArray) (h:Heap) (K:Value→Heap→Prop) (h1:zjk s→∀ h',Ext h h'→K (.bool true) h') (h2:¬ zjk s→∀ h',Ext h h'→K (.bool false) h'):Ok Tryz.prog tab ov 120 [.string s] h K:=by
  rw [zaa h]
  have z:=Ext.refl h
  refine Ok.into rfl zvG (zaD N120) rfl (m:=9) rfl ?_
  simp -implicitDefEqProofs only [syms,symx,seval,c120]
  refine zoz _ _ _ (fun hs h' x=>?_) (fun hs h' x=>?_)
  · ((skip); replace z:=z.overW x (by (try simp only [lsz]); omega); rw [zaa h'])
    have:=hs.1.pos
    simp -implicitDefEqProofs only [syms,symx,seval,c120]
    refine zbm Tryz.underlying9 rfl rfl (by omega) (by omega) ?_
    simp -implicitDefEqProofs only [syms,symx,seval,c120]
    refine zl5 _ _ _ (fun cg=>?_) (fun cg=>?_)
    · repeat' ( simp -implicitDefEqProofs only [syms,symx,seval,c120])
      exact h1 ⟨hs,by simpa using cg⟩ _ (z.upW _ _ (by omega))
    · repeat' ( simp -implicitDefEqProofs only [syms,symx,seval,c120])
      exact h2 (fun x=>cg (by simpa using x.2)) _ (z.upW _ _ (by omega))
  · ((skip); replace z:=z.overW x (by (try simp only [lsz]); omega); rw [zaa h'])
    simp -implicitDefEqProofs only [syms,symx,seval,c120]
    exact h2 (fun x=>hs x.1) _ (z.upW _ _ (by omega))
theorem zxr (s:ByteArray) (h:Heap) (K:Value→Heap→Prop) (h1:zjk s→∀ h',Ext h h'→K (.bool true) h') (h2:¬ zjk s→∀ h',Ext h h'→K (.bool false) h'):Ok Tryz.prog tab ov 121 [.string s] h K:=by
  rw [zaa h]
  have z:=Ext.refl h
  refine Ok.into rfl zvW (zaD N121) rfl (m:=4) rfl ?_
  simp -implicitDefEqProofs only [syms,symx,seval,c121]
  refine zqX _ _ _ (fun hs h' x=>?_) (fun hs h' x=>?_)
  · ((skip); replace z:=z.overW x (by (try simp only [lsz]); omega); rw [zaa h'])
    simp -implicitDefEqProofs only [syms,symx,seval,c121]
    exact h1 hs _ (z.upW _ _ (by omega))
  · ((skip); replace z:=z.overW x (by (try simp only [lsz]); omega); rw [zaa h'])
    simp -implicitDefEqProofs only [syms,symx,seval,c121]
    exact h2 hs _ (z.upW _ _ (by omega))
theorem zxa (t:TermD) (h:Heap) (K:Value→Heap→Prop) (h1:termX t→∀ h',Ext h h'→K (.bool true) h') (h2:¬ termX t→∀ h',Ext h h'→K (.bool false) h'):Ok Tryz.prog tab ov 122 [t.val] h K:=by
  rw [zaa h]
  have z:=Ext.refl h
  rcases t with ⟨tv,ts⟩
  unfold termX at h1 h2
  cases tv
  · refine Ok.into rfl zmQ (zaD N122) rfl (m:=10) rfl ?_
    simp -implicitDefEqProofs only [syms,symx,seval,c122,TermD.val,TermD.cells]
    refine zoz _ _ _ (fun hs h' x=>?_) (fun hs h' x=>?_)
    all_goals
      ((skip); replace z:=z.overW x (by (try simp only [lsz]); omega); rw [zaa h'])
      simp -implicitDefEqProofs only [syms,symx,seval,c122]
      first
        | exact h1 hs _ (z.upW _ _ (by omega))
        | exact h2 hs _ (z.upW _ _ (by omega))
  · refine Ok.into rfl zmQ (zaD N122) rfl (m:=10) rfl ?_
    simp -implicitDefEqProofs only [syms,symx,seval,c122,TermD.val,TermD.cells]
    refine znx _ _ _ (fun hs h' x=>?_) (fun hs h' x=>?_)
    all_goals
      ((skip); replace z:=z.overW x (by (try simp only [lsz]); omega); rw [zaa h'])
      simp -implicitDefEqProofs only [syms,symx,seval,c122]
      first
        | exact h1 hs _ (z.upW _ _ (by omega))
        | exact h2 hs _ (z.upW _ _ (by omega))
theorem zok (a:AtomD) (h:Heap) (K:Value→Heap→Prop) (h1:ValidX a→∀ h',Ext h h'→K (.int .i64 0) h') (h2:¬ ValidX a→∀ c h',c≠0→Ext h h'→K (.int .i64 c) h'):Ok Tryz.prog tab ov 90 [a.val] h K:=by
  rw [zaa h]
  have z:=Ext.refl h
  refine Ok.into rfl zyh (zaD N90) rfl (m:=46) rfl ?_
  repeat' ( simp -implicitDefEqProofs only [syms,symx,seval,c90,zaG,zpT,zpw,ziG])
  refine zqX _ _ _ (fun hs h' x=>?_) (fun hs h' x=>?_)
  rotate_left
  · ((skip); replace z:=z.overW x (by (try simp only [lsz]); omega); rw [zaa h'])
    repeat' (first | simp -implicitDefEqProofs only [syms,symx,seval,c90] | ((with_reducible_and_instances apply zap); (· rfl)))
    exact h2 (fun x=>hs x.says) _ _ (by decide) (z.upW _ _ (by omega))
  have q0:=Holds.top (i:=0) x rfl
  (replace z:=z.overW x (by (try simp only [zag,List.length_cons,List.length_nil]); omega); rw [zaa h'])
  repeat' (first | simp -implicitDefEqProofs only [syms,symx,seval,c90,q0.lay,zpT,zpw,ziG] | ((with_reducible_and_instances apply zap); (· rfl)))
  refine zxr _ _ _ (fun hp h' x=>?_) (fun hp h' x=>?_)
  rotate_left
  · ((skip); replace z:=z.overW x (by (try simp only [lsz]); omega); (try replace q0:=q0.over x); rw [zaa h'])
    repeat' (first | simp -implicitDefEqProofs only [syms,symx,seval,c90] | ((with_reducible_and_instances apply zap); (· rfl)))
    exact h2 (fun x=>hp x.pred) _ _ (by decide) (z.upW _ _ (by omega))
  ((skip); replace z:=z.overW x (by (try simp only [lsz]); omega); (try replace q0:=q0.over x); rw [zaa h'])
  repeat' (first | simp -implicitDefEqProofs only [syms,symx,seval,c90,q0.lay,zpT,zpw,ziG] | ((with_reducible  apply zar ) <;> intro _) | ((with_reducible_and_instances apply zap); (· rfl)))
  all_goals try exact h2 (fun x=>by have:=x.lo; have:=x.hi; omega) _ _ (by decide) (z.upW _ _ (by omega))
  have hn0:0≤a.n:=by omega
  have hn4:a.n≤4:=by omega
  obtain ⟨I1,hI1⟩:∃ I:Nat→Env→Heap→Prop,I=(fun n e h'=>∃ (i:Nat) (h1:Heap),h'=h1.lay [] h1.low∧Ext h h1∧(n=4 - i∧(i:Int)≤a.n∧(∀ j,j < i→termX (a.arg j))∧Holds h1 (h.size+0) (.row a.cells 26 false))∧∃ J:Nat→Value,e=(J 0::.pointer (some ⟨h.size+0,0,none⟩)::J 2::.int .i64 i::jr J 4 43 ([]))):=⟨_,rfl⟩
  refine zaC I1 _ (by rw [hI1]; exact ⟨0,_,rfl,z,⟨rfl,by omega,fun j hj=>by omega,q0⟩,junk (by kernel_rfl)⟩) ?_
  intro n e h' hin
  rw [hI1] at hin
  obtain ⟨i,h1',rfl,z,hinv,J,rfl⟩:=hin
  clear q0
  obtain ⟨rfl,hi,hall,q0⟩:=hinv
  have hwi:IntKind.i64.wrap ((i:Int)+1)=((i+1:Nat):Int):=by rw [zad (by omega) (by omega)]; omega
  simp -implicitDefEqProofs only [syms,symx,seval,c90,q0.lay,ziG]
  refine zar (fun hlt=>?_) (fun hlt=>?_)
  · have hin4:(0:Int)≤(i:Int)∧(i:Int) < 4:=by omega
    have hca:=zrk a i (by omega)
    repeat' ( simp -implicitDefEqProofs only [syms,symx,seval,c90,q0.lay,hin4,↓hca,zoE,zjy,and_self,if_true])
    refine zxa _ _ _ (fun ht h' x=>?_) (fun ht h' x=>?_)
    · ((skip); replace z:=z.overW x (by (try simp only [lsz]); omega); (try replace q0:=q0.over x); rw [zaa h'])
      have hnx:∀ j,j < i+1→termX (a.arg j):=by
        intro j hj
        by_cases hji:j < i
        · exact hall j hji
        · have:j=i:=by omega
          subst this
          exact ht
      repeat' (first | simp -implicitDefEqProofs only [syms,symx,seval,c90] | ((with_reducible_and_instances apply zap); (· rfl)))
      rw [hwi]
      (rw [hI1]; with_reducible refine zac (m:=_) ?_ ⟨i+1,_,rfl,z,⟨rfl,by omega,hnx,q0⟩,junk (by kernel_rfl)⟩; omega)
    · ((skip); replace z:=z.overW x (by (try simp only [lsz]); omega); (try replace q0:=q0.over x); rw [zaa h'])
      repeat' (first | simp -implicitDefEqProofs only [syms,symx,seval,c90] | ((with_reducible_and_instances apply zap); (· rfl)))
      exact h2 (fun x=>ht (x.terms i (by omega))) _ _ (by decide) (z.upW _ _ (by omega))
  have hin:a.n=(i:Int):=by omega
  repeat' ( simp -implicitDefEqProofs only [syms,symx,seval,c90,q0.lay,ziG])
  rw [hin]
  obtain ⟨I2,hI2⟩:∃ I:Nat→Env→Heap→Prop,I=(fun n e h'=>∃ (k:Nat) (h1:Heap),h'=h1.lay [] h1.low∧Ext h h1∧(n=4 - k∧i≤k∧k≤4∧(∀ j,i≤j→j < k→a.arg j=noTermD)∧Holds h1 (h.size+0) (.row a.cells 26 false))∧∃ J:Nat→Value,e=(J 0::.pointer (some ⟨h.size+0,0,none⟩)::jr J 2 2 (.int .i64 k::jr J 5 42 ([])))):=⟨_,rfl⟩
  refine zaC I2 _ (by rw [hI2]; exact ⟨i,_,rfl,z,⟨rfl,by omega,by omega,fun j h1 h2=>by omega,q0⟩,junk (by kernel_rfl)⟩) ?_
  intro n e h' hin
  rw [hI2] at hin
  obtain ⟨k,h2',rfl,z,hinv,J,rfl⟩:=hin
  clear q0
  obtain ⟨rfl,hik,hk4,hrest,q0⟩:=hinv
  have hwk:IntKind.i64.wrap ((k:Int)+1)=((k+1:Nat):Int):=by rw [zad (by omega) (by omega)]; omega
  simp -implicitDefEqProofs only [syms,symx,seval,c90]
  refine zar (fun hlt=>?_) (fun hlt=>?_)
  rotate_left
  · repeat' ( simp -implicitDefEqProofs only [syms,symx,seval,c90])
    exact h1 ⟨hs,hp,by omega,by omega,fun j hj=>hall j (by omega),fun j h1 h2=>hrest j (by omega) (by omega)⟩ _ (z.upW _ _ (by omega))
  have hin4:(0:Int)≤(k:Int)∧(k:Int) < 4:=by omega
  have hca:=zrk a k (by omega)
  simp -implicitDefEqProofs only [syms,symx,seval,c90,q0.lay,hin4,↓hca,zoE,zjy,and_self,if_true,zza,zoI]
  refine zeP (fun hne=>?_) (fun heq=>?_)
  · repeat' ( simp -implicitDefEqProofs only [syms,symx,seval,c90])
    exact h2 (fun x=>hne (x.rest k (by omega) (by omega))) _ _ (by decide) (z.upW _ _ (by omega))
  · have hnx:∀ j,i≤j→j < k+1→a.arg j=noTermD:=by
      intro j h1 h2
      by_cases hji:j < k
      · exact hrest j h1 hji
      · have:j=k:=by omega
        subst this
        exact heq
    repeat' ( simp -implicitDefEqProofs only [syms,symx,seval,c90])
    rw [hwk]
    (rw [hI2]; with_reducible refine zac (m:=_) ?_ ⟨k+1,_,rfl,z,⟨rfl,by omega,by omega,hnx,q0⟩,junk (by kernel_rfl)⟩; omega)
end Go.Proofs.YtemapihoobmonaaGreatDoor
