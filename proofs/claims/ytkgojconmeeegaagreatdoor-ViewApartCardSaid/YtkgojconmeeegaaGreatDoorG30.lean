/- Words by the program's own rules: as the document's. No condition. -/
import Derived.Test.YtkgojconmeeegaaGreatDoorG29
import Derived.Test.YtkgojconmeeegaaGreatDoorG27
set_option linter.unusedSimpArgs false
set_option linter.unusedVariables false
namespace Go.Am
theorem bj.ext {g:Nat} {h h':Heap} (s:bj g h) (x:Ext h h'):bj g h':=Holds.ext s x
theorem bj.lay {g:Nat} {h:Heap} (s:bj g h) (bs:List bh) (w:Nat):bj g (h.lay bs w):=Holds.on s bs w
def eF:List ByteArray:=[⟨#[115,97,121,115]⟩,⟨#[105,102]⟩,⟨#[99,97,110,115,97,121]⟩,⟨#[112,114,105,110,99,105,112,97,108]⟩,⟨#[112,114,101,100]⟩,⟨#[99,108,101,97,114]⟩,⟨#[113,117,111,116,97]⟩,⟨#[98,117,100,103,101,116]⟩]
theorem zCO {s:ByteArray}:nO s↔s∈eF:=by
 unfold nO eF
 simp only [List.mem_cons,List.not_mem_nil,or_false,eq_comm (a:=s)]
def fR:ByteArray:=⟨#[115,97,121,115,32,105,102,32,99,97,110,115,97,121,32,112,114,105,110,99,105,112,97,108,32,112,114,101,100,32,99,108,101,97,114,32,113,117,111,116,97,32,98,117,100,103,101,116]⟩
theorem ziw:s9 fR.data.toList=eF.map Value.string:=by kernel_rfl
theorem zu9 {g st:Nat} {h:Heap} (hs:bj g h):HG g st [.string fR] h=some (.slice (some ⟨h.size,0,none⟩) 8 8,h.push (.row (eF.map Value.string) st false)):=by
 unfold HG
 simp only
 rw [hs.get]
 simp only
 have e1:(s9 fR.data.toList).length=8:=by rw [ziw];rfl
 rw [if_pos (by
  rw [e1]
  have h1:fR.data.toList.all (fun b=>Nat.blt b.toNat 128)=true:=by kernel_rfl
  have h2:Nat.blt fR.size 4294967281=true:=by kernel_rfl
  have h3:Nat.beq vz vz=true:=Nat.beq_refl _
  rw [h1,h2,h3]
  rfl),e1,ziw]
theorem zCZ {h:Heap} {st:TypeId} {w:Nat}:Sl aJ.str (h.push (.row (eF.map Value.string) st false)) (.slice (some ⟨h.size,0,none⟩) 8 8) eF:=by
 refine .inr ⟨h.size,0,8,eF.map Value.string,st,false,rfl,(by show 8≤maxLen;decide),.inl ⟨by decide,Nat.le_refl _⟩,by rw [Heap.size_push];omega,by rw [Heap.bu,if_pos rfl],fun i x hx=>?_⟩
 refine ⟨[.string x],?_,rfl⟩
 have hi:i < 8:=(List.getElem?_eq_some_iff.1 hx).1
 have:i=0∨i=1∨i=2∨i=3∨i=4∨i=5∨i=6∨i=7:=by omega
 rcases this with rfl|rfl|rfl|rfl|rfl|rfl|rfl|rfl <;> (cases hx;rfl)
structure iU (first more:Int→Prop) (s:ByteArray):Prop where
 pos:1≤s.size
 len:s.size≤255
 first:first (lu s 0)
 more:∀ i,1≤i→i < s.size→more (lu s i)
def xY (c:Int):Prop:=97≤c∧c≤122
def H4 (c:Int):Prop:=65≤c∧c≤90
def EB (c:Int):Prop:=48≤c∧c≤57
theorem zwk {s:ByteArray}:jE s↔iU xY pW s∧¬ nO s:=by
 constructor
 ·rintro ⟨⟨h,hr⟩,hs⟩
  exact ⟨⟨h.pos,h.len,hs,fun i _ hi=>h.all i hi⟩,hr⟩
 ·rintro ⟨h,hr⟩
  have hf:=h.first
  unfold xY at hf
  refine ⟨⟨⟨h.pos,h.len,by omega,fun i hi=>?_⟩,hr⟩,hf⟩
  by_cases rP:i=0
  ·subst rP
   exact .inl hf
  ·exact h.more i (by omega) hi
theorem zsy {s:ByteArray}:il s↔iU (fun c=>xY c∨EB c) pW s∧¬ nO s:=by
 constructor
 ·rintro ⟨h,hr⟩
  refine ⟨⟨h.pos,h.len,?_,fun i _ hi=>h.all i hi⟩,hr⟩
  have h0:=h.all 0 h.pos
  have h1:=h.first
  unfold pW at h0
  rcases h0 with h0|h0|h0
  ·exact .inl h0
  ·exact .inr h0
  ·exact absurd h0 h1
 ·rintro ⟨h,hr⟩
  have hf:=h.first
  unfold xY EB at hf
  refine ⟨⟨h.pos,h.len,by omega,fun i hi=>?_⟩,hr⟩
  by_cases rP:i=0
  ·subst rP
   rcases hf with hf|hf
   ·exact .inl hf
   ·exact .inr (.inl hf)
  ·exact h.more i (by omega) hi
theorem zEo {s:ByteArray}:uB s↔iU H4 kJ s:=by
 constructor
 ·intro h
  exact ⟨h.pos,h.len,h.first,fun i _ hi=>h.all i hi⟩
 ·intro h
  refine ⟨h.pos,h.len,h.first,fun i hi=>?_⟩
  by_cases rP:i=0
  ·subst rP
   exact .inr (.inl h.first)
  ·exact h.more i (by omega) hi
end Go.Am
namespace Go.Proofs.YtkgojconmeeegaaGreatDoor
open Go.Am
set_option maxRecDepth 100000
set_option maxHeartbeats 0
theorem TY (c:Int) (h:Heap) (K:Value→Heap→Prop) (h1:xY c→K (.bool true) h) (h2:¬ xY c→K (.bool false) h):Ok Tryz.prog ae ov 181 [.int .u8 c] h K:=by
 unfold xY at h1 h2
 refine Ok.aH rfl zxt (br Ll) rfl (m:=8) rfl ?_
 simp only [syms,aa,seval,Mu]
 repeat' (refine bt (fun c=>?_) (fun c=>?_) <;> simp only [syms,aa,seval,Mu])
 all_goals first|exact h1 (by omega)|exact h2 (by omega)
theorem zor (c:Int) (h:Heap) (K:Value→Heap→Prop) (h1:H4 c→K (.bool true) h) (h2:¬ H4 c→K (.bool false) h):Ok Tryz.prog ae ov 230 [.int .u8 c] h K:=by
 unfold H4 at h1 h2
 refine Ok.aH rfl zxU (br LN) rfl (m:=8) rfl ?_
 simp only [syms,aa,seval,MD]
 repeat' (refine bt (fun c=>?_) (fun c=>?_) <;> simp only [syms,aa,seval,MD])
 all_goals first|exact h1 (by omega)|exact h2 (by omega)
theorem zoq (c:Int) (h:Heap) (K:Value→Heap→Prop) (h1:EB c→K (.bool true) h) (h2:¬ EB c→K (.bool false) h):Ok Tryz.prog ae ov 209 [.int .u8 c] h K:=by
 unfold EB at h1 h2
 refine Ok.aH rfl zxH (br Ly) rfl (m:=8) rfl ?_
 simp only [syms,aa,seval,Mz]
 repeat' (refine bt (fun c=>?_) (fun c=>?_) <;> simp only [syms,aa,seval,Mz])
 all_goals first|exact h1 (by omega)|exact h2 (by omega)
theorem U0 (c:Int) (h:Heap) (K:Value→Heap→Prop) (h1:pW c→K (.bool true) h) (h2:¬ pW c→K (.bool false) h):Ok Tryz.prog ae ov 182 [.int .u8 c] h K:=by
 unfold pW at h1 h2
 refine Ok.aH rfl zxu (br Lm) rfl (m:=12) rfl ?_
 simp only [syms,aa,seval,rI]
 refine TY c _ _ (fun g1=>?_) (fun g1=>?_)
 ·simp only [syms,aa,seval,rI]
  exact h1 (.inl g1)
 simp only [syms,aa,seval,rI]
 refine zoq c _ _ (fun g2=>?_) (fun g2=>?_)
 ·simp only [syms,aa,seval,rI]
  exact h1 (.inr (.inl g2))
 simp only [syms,aa,seval,rI]
 refine nX (fun g3=>?_) (fun g3=>?_)
 ·simp only [syms,aa,seval,rI]
  exact h1 (.inr (.inr g3))
 ·simp only [syms,aa,seval,rI]
  exact h2 (fun g=>g.elim g1 (fun g=>g.elim g2 g3))
theorem ztc (c:Int) (h:Heap) (K:Value→Heap→Prop) (h1:(xY c∨EB c)→K (.bool true) h) (h2:¬ (xY c∨EB c)→K (.bool false) h):Ok Tryz.prog ae ov 232 [.int .u8 c] h K:=by
 refine Ok.aH rfl zxW (br LP) rfl (m:=8) rfl ?_
 simp only [syms,aa,seval,vZ]
 refine TY c _ _ (fun g1=>?_) (fun g1=>?_)
 ·simp only [syms,aa,seval,vZ]
  exact h1 (.inl g1)
 simp only [syms,aa,seval,vZ]
 refine zoq c _ _ (fun g2=>?_) (fun g2=>?_)
 ·simp only [syms,aa,seval,vZ]
  exact h1 (.inr g2)
 ·simp only [syms,aa,seval,vZ]
  exact h2 (fun g=>g.elim g1 g2)
theorem zzF (c:Int) (h:Heap) (K:Value→Heap→Prop) (h1:kJ c→K (.bool true) h) (h2:¬ kJ c→K (.bool false) h):Ok Tryz.prog ae ov 231 [.int .u8 c] h K:=by
 refine Ok.aH rfl zxV (br LO) rfl (m:=8) rfl ?_
 simp only [syms,aa,seval,vY]
 refine U0 c _ _ (fun g1=>?_) (fun g1=>?_)
 ·simp only [syms,aa,seval,vY]
  exact h1 (by unfold pW at g1;unfold kJ;omega)
 simp only [syms,aa,seval,vY]
 refine zor c _ _ (fun g2=>?_) (fun g2=>?_)
 ·simp only [syms,aa,seval,vY]
  exact h1 (by unfold H4 at g2;unfold kJ;omega)
 ·simp only [syms,aa,seval,vY]
  exact h2 (by unfold pW at g1;unfold H4 at g2;unfold kJ;omega)
theorem NK (s:ByteArray) (f1 f2:Value) (p1 p2:Int→Prop) (h:Heap) (ND:∀ (c:Int) (hc:Heap) (K:Value→Heap→Prop),(p1 c→K (.bool true) hc)→(¬ p1 c→K (.bool false) hc)→nW Tryz.prog ae ov [.int .u8 c] hc K f1) (hf2:∀ (c:Int) (hc:Heap) (K:Value→Heap→Prop),(p2 c→K (.bool true) hc)→(¬ p2 c→K (.bool false) hc)→nW Tryz.prog ae ov [.int .u8 c] hc K f2)
 (K:Value→Heap→Prop) (qh:iU p1 p2 s→∀ h',Ext h h'→K (.bool true) h') (jU:¬ iU p1 p2 s→∀ h',Ext h h'→K (.bool false) h'):Ok Tryz.prog ae ov 180 [.string s,f1,f2] h K:=by
 rw [ao h]
 have z:=Ext.refl h
 refine Ok.aH rfl zxs (br Lk) rfl (m:=31) rfl ?_
 simp only [syms,aa,seval,kr]
 refine bt (fun he=>?_) (fun he=>?_)
 ·simp only [syms,aa,seval,kr]
  exact jU (fun x=>by have:=x.pos;rw [he] at this;exact absurd this (by decide)) _ (z.aw _ _ (by omega))
 have kC:1≤s.size:=by
  apply Nat.lt_of_not_le
  intro hh
  apply he
  apply Dd
  have h0:s.size=0:=by omega
  have:s.data.toList.length=0:=by rw [Array.length_toList];exact h0
  rw [List.length_eq_zero_iff.1 this]
 simp only [syms,aa,seval,kr]
 refine bt (fun hl=>?_) (fun hl=>?_)
 ·simp only [syms,aa,seval,kr]
  exact jU (fun x=>by have:=x.len;omega) _ (z.aw _ _ (by omega))
 simp only [syms,aa,seval,kr]
 refine Hy Tryz.underlying9 rfl rfl (by omega) (by omega) ?_
 simp only [syms,aa,seval,kr]
 refine ND _ _ _ (fun g1=>?_) (fun g1=>?_)
 rotate_left
 ·repeat' (first|simp only [syms,aa,seval,kr]|((with_reducible_and_instances apply b8);(· rfl)))
  exact jU (fun x=>g1 (by simpa using x.first)) _ (z.aw _ _ (by omega))
 repeat' (first|simp only [syms,aa,seval,kr]|((with_reducible_and_instances apply b8);(· rfl)))
 obtain ⟨I1,aS⟩:∃ I:Nat→Env→Heap→Prop,I=(fun n e h'=>∃ (i:Nat) (h1:Heap),h'=h1.lay [] h1.low∧Ext h h1∧(n=s.size - i∧1≤i∧i≤s.size∧∀ j,1≤j→j < i→p2 (lu s j))∧∃ J:Nat→Value,e=(.string s::J 1::f2::jr J 3 4 (.int .i64 i::jr J 8 26 ([])))):=⟨_,rfl⟩
 refine dj I1 _ (by rw [aS];exact ⟨1,_,rfl,z,⟨rfl,by omega,by omega,fun j hj Ae=>by omega⟩,aE (by kernel_rfl)⟩) ?_
 intro n e h' aL
 rw [aS] at aL
 obtain ⟨i,bH,rfl,z,hinv,J,rfl⟩:=aL
 obtain ⟨rfl,gZ,hi,aB⟩:=hinv
 have hw:=eb i (by omega)
 simp only [syms,aa,seval,kr]
 refine bt (fun aR=>?_) (fun aR=>?_)
 rotate_left
 ·simp only [syms,aa,seval,kr]
  exact qh ⟨kC,by omega,by simpa using g1,fun j hj Ae=>aB j hj (by omega)⟩ _ (z.aw _ _ (by omega))
 simp only [syms,aa,seval,kr]
 refine Hy Tryz.underlying9 rfl rfl (by omega) (by omega) ?_
 simp only [syms,aa,seval,kr]
 refine hf2 _ _ _ (fun g2=>?_) (fun g2=>?_)
 ·repeat' (first|simp only [syms,aa,seval,kr]|((with_reducible_and_instances apply b8);(· rfl)))
  rw [hw]
  have w9:∀ j,1≤j→j < i+1→p2 (lu s j):=by
   intro j ra hj
   by_cases ke:j < i
   ·exact aB j ra ke
   ·have:j=i:=by omega
    subst this
    simpa using g2
  (rw [aS];with_reducible refine cB (m:=_) ?_ ⟨i+1,_,rfl,z,⟨rfl,by omega,by omega,w9⟩,aE (by kernel_rfl)⟩;omega)
 ·repeat' (first|simp only [syms,aa,seval,kr]|((with_reducible_and_instances apply b8);(· rfl)))
  exact jU (fun x=>g2 (by simpa using x.more i gZ (by omega))) _ (z.aw _ _ (by omega))
theorem zwa (h:Heap) (cF:bj 1 h) (K:Value→Heap→Prop) (hk:∀ h' w,Ext h h'→Sl aJ.str h' w eF→K w h'):Ok Tryz.prog ae ov 210 [] h K:=by
 rw [ao h]
 have z:=Ext.refl h
 refine Ok.aH rfl zxI (br Lz) rfl (m:=2) rfl ?_
 simp only [syms,aa,seval,MA]
 refine Ok.over (g:=HG 1 9) rfl (zu9 (cF.lay _ _)) ?_
 have hx:Ext (h.lay [] h.low) ((h.lay [] h.low).push (.row (eF.map Value.string) 9 false)):=Ext.push _ _
 have xm:Sl aJ.str ((h.lay [] h.low).push (.row (eF.map Value.string) 9 false)) (.slice (some ⟨(h.lay [] h.low).size,0,none⟩) 8 8) eF:=zCZ (w:=0)
 generalize (h.lay [] h.low).push (.row (eF.map Value.string) 9 false)=h2 at hx xm ⊢
 replace z:=z.an hx (by omega)
 rw [ao h2]
 simp only [syms,aa,seval,MA]
 exact hk _ _ (z.aw _ _ (by omega)) (xm.lay _ _)
theorem zth (l:List ByteArray) (v:Value) (s:ByteArray) (h:Heap) (hl:Sl aJ.str h v l) (hs:l.length≤1000) (K:Value→Heap→Prop)
 (hk:∀ h',Ext h h'→K (.int .i64 (j4 (fun x=>decide (s=x)) l)) h'):Ok Tryz.prog ae ov 77 [v,.string s] h K:=by
 rw [ao h]
 have z:=Ext.refl h
 have bx:=bY v
 have cz:=fun (hh:Heap)=>hl.bc cY hh
 refine Ok.aH rfl zr6 (br Ys) rfl (m:=17) rfl ?_
 simp only [syms,aa,seval,zJ,bx,cz]
 obtain ⟨I1,aS⟩:∃ I:Nat→Env→Heap→Prop,I=(fun n e h'=>∃ (i:Nat) (h1:Heap),h'=h1.lay [] h1.low∧Ext h h1∧(n=l.length - i∧i≤l.length∧∀ x∈l.take i,decide (s=x)=false)∧∃ J:Nat→Value,e=(v::.string s::jr J 2 5 (.int .i64 l.length::.int .i64 i::jr J 9 10 ([])))):=⟨_,rfl⟩
 refine dj I1 _ (by rw [aS];exact ⟨0,_,rfl,z,⟨rfl,by omega,by simp⟩,aE (by kernel_rfl)⟩) ?_
 intro n e h' aL
 rw [aS] at aL
 obtain ⟨i,bH,rfl,z,hinv,J,rfl⟩:=aL
 obtain ⟨rfl,hi,aB⟩:=hinv
 have hw:=eb i (by omega)
 simp only [syms,aa,seval,zJ]
 refine bt (fun aR=>?_) (fun aR=>?_)
 rotate_left
 ·rw [List.take_of_length_le (by omega)] at aB
  rw [JX aB] at hk
  repeat' (simp only [syms,aa,seval,zJ])
  exact hk _ (z.aw _ _ (by omega))
 obtain ⟨r,hr,bz⟩:=eU (l:=l) (i:=i) (by omega)
 repeat' (first|simp only [syms,aa,seval,zJ,bx]|((with_reducible apply bt) <;> intro _)|with_reducible_and_instances refine qV (hl.mono z.inc) cY oq (by omega) hr (fun p hp=>?_)|with_reducible_and_instances refine hY hp kc ?_)
 ·rw [JQ bz aB (by simpa using (by assumption))] at hk
  exact hk _ (z.aw _ _ (by omega))
 ·rw [hw]
  (rw [aS];with_reducible refine cB (m:=_) ?_ ⟨i+1,_,rfl,z,⟨rfl,by omega,oC (i:=i) (P:=fun x:ByteArray=>decide (s=x)=false) bz aB (by simpa using (by assumption))⟩,aE (by kernel_rfl)⟩;omega)
theorem Jx (l:List ByteArray) (v:Value) (s:ByteArray) (h:Heap) (hl:Sl aJ.str h v l) (hs:l.length≤1000) (K:Value→Heap→Prop)
 (hk:∀ h',Ext h h'→K (.bool (l.any fun x=>decide (s=x))) h'):Ok Tryz.prog ae ov 44 [v,.string s] h K:=by
 refine Ok.aH rfl zr3 (br Yp) rfl (m:=7) rfl ?_
 simp only [syms,aa,seval,Is]
 refine zth l v s h hl hs _ (fun h' x=>?_)
 simp only [syms,aa,seval,Is,Xz]
 refine SI (fun hh=>?_) (fun hh=>?_)
 all_goals
  simp only [syms,aa,seval,Is]
  rw [hh] at hk
  exact hk _ x
theorem zih (s:ByteArray) (h:Heap) (cF:bj 1 h) (K:Value→Heap→Prop) (h1:nO s→∀ h',Ext h h'→K (.bool true) h') (h2:¬ nO s→∀ h',Ext h h'→K (.bool false) h'):Ok Tryz.prog ae ov 183 [.string s] h K:=by
 rw [ao h]
 have z:=Ext.refl h
 refine Ok.aH rfl zxv (br Ln) rfl (m:=5) rfl ?_
 simp only [syms,aa,seval,zB]
 refine zwa _ (cF.lay _ _) _ (fun h' w x sw=>?_)
 (replace z:=z.an x (by omega);rw [ao h'])
 have eR:=bY w
 simp only [syms,aa,seval,zB,eR]
 refine Jx eF w s _ (sw.lay _ _) (by decide) _ (fun h' x=>?_)
 (replace z:=z.an x (by omega);rw [ao h'])
 rw [zCO] at h1 h2
 cases hd:eF.any fun x=>decide (s=x)
 ·simp only [syms,aa,seval,zB]
  exact h2 (fun hm=>by rw [List.any_eq_false] at hd;exact hd s hm (by simp)) _ (z.aw _ _ (by omega))
 ·simp only [syms,aa,seval,zB]
  exact h1 (by obtain ⟨x,hx,e⟩:=List.any_eq_true.1 hd;rw [of_decide_eq_true e];exact hx) _ (z.aw _ _ (by omega))
theorem UD (s:ByteArray) (h:Heap) (cF:bj 1 h) (K:Value→Heap→Prop) (h1:jE s→∀ h',Ext h h'→K (.bool true) h') (h2:¬ jE s→∀ h',Ext h h'→K (.bool false) h'):Ok Tryz.prog ae ov 141 [.string s] h K:=by
 rw [ao h]
 have z:=Ext.refl h
 rw [zwk] at h1 h2
 refine Ok.aH rfl zw3 (br KU) rfl (m:=9) rfl ?_
 simp only [syms,aa,seval,vU]
 refine NK s _ _ xY pW _ (fun c hc K' a b=>by rw [rj];exact TY c hc K' a b) (fun c hc K' a b=>by rw [rj];exact U0 c hc K' a b) _ (fun g h' x=>?_) (fun g h' x=>?_)
 ·(replace z:=z.an x (by omega);rw [ao h'])
  repeat' (simp only [syms,aa,seval,vU])
  refine zih s _ ((cF.ext z).lay _ _) _ (fun r h' x=>?_) (fun r h' x=>?_)
  ·(replace z:=z.an x (by omega);rw [ao h'])
   repeat' (first|simp only [syms,aa,seval,vU]|((with_reducible_and_instances apply b8);(· rfl)))
   exact h2 (fun q=>q.2 r) _ (z.aw _ _ (by omega))
  ·(replace z:=z.an x (by omega);rw [ao h'])
   repeat' (first|simp only [syms,aa,seval,vU]|((with_reducible_and_instances apply b8);(· rfl)))
   exact h1 ⟨g,r⟩ _ (z.aw _ _ (by omega))
 ·(replace z:=z.an x (by omega);rw [ao h'])
  repeat' (simp only [syms,aa,seval,vU])
  exact h2 (fun q=>g q.1) _ (z.aw _ _ (by omega))
theorem zrJ (s:ByteArray) (h:Heap) (cF:bj 1 h) (K:Value→Heap→Prop) (h1:jE s→∀ h',Ext h h'→K (.bool true) h') (h2:¬ jE s→∀ h',Ext h h'→K (.bool false) h'):Ok Tryz.prog ae ov 142 [.string s] h K:=by
 rw [ao h]
 have z:=Ext.refl h
 refine Ok.aH rfl zw4 (br KV) rfl (m:=4) rfl ?_
 simp only [syms,aa,seval,Fh]
 refine UD s _ (cF.lay _ _) _ (fun g h' x=>?_) (fun g h' x=>?_)
 ·(replace z:=z.an x (by omega);rw [ao h'])
  simp only [syms,aa,seval,Fh]
  exact h1 g _ (z.aw _ _ (by omega))
 ·(replace z:=z.an x (by omega);rw [ao h'])
  simp only [syms,aa,seval,Fh]
  exact h2 g _ (z.aw _ _ (by omega))
theorem zvK (s:ByteArray) (h:Heap) (cF:bj 1 h) (K:Value→Heap→Prop) (h1:il s→∀ h',Ext h h'→K (.bool true) h') (h2:¬ il s→∀ h',Ext h h'→K (.bool false) h'):Ok Tryz.prog ae ov 221 [.string s] h K:=by
 rw [ao h]
 have z:=Ext.refl h
 rw [zsy] at h1 h2
 refine Ok.aH rfl zxP (br LI) rfl (m:=9) rfl ?_
 simp only [syms,aa,seval,vX]
 refine NK s _ _ (fun c=>xY c∨EB c) pW _ (fun c hc K' a b=>by rw [rj];exact ztc c hc K' a b) (fun c hc K' a b=>by rw [rj];exact U0 c hc K' a b) _ (fun g h' x=>?_) (fun g h' x=>?_)
 ·(replace z:=z.an x (by omega);rw [ao h'])
  repeat' (simp only [syms,aa,seval,vX])
  refine zih s _ ((cF.ext z).lay _ _) _ (fun r h' x=>?_) (fun r h' x=>?_)
  ·(replace z:=z.an x (by omega);rw [ao h'])
   repeat' (first|simp only [syms,aa,seval,vX]|((with_reducible_and_instances apply b8);(· rfl)))
   exact h2 (fun q=>q.2 r) _ (z.aw _ _ (by omega))
  ·(replace z:=z.an x (by omega);rw [ao h'])
   repeat' (first|simp only [syms,aa,seval,vX]|((with_reducible_and_instances apply b8);(· rfl)))
   exact h1 ⟨g,r⟩ _ (z.aw _ _ (by omega))
 ·(replace z:=z.an x (by omega);rw [ao h'])
  repeat' (simp only [syms,aa,seval,vX])
  exact h2 (fun q=>g q.1) _ (z.aw _ _ (by omega))
theorem zGD (s:ByteArray) (h:Heap) (K:Value→Heap→Prop) (h1:uB s→∀ h',Ext h h'→K (.bool true) h') (h2:¬ uB s→∀ h',Ext h h'→K (.bool false) h'):Ok Tryz.prog ae ov 220 [.string s] h K:=by
 rw [ao h]
 have z:=Ext.refl h
 rw [zEo] at h1 h2
 refine Ok.aH rfl zxO (br LH) rfl (m:=4) rfl ?_
 simp only [syms,aa,seval,Fp]
 refine NK s _ _ H4 kJ _ (fun c hc K' a b=>by rw [rj];exact zor c hc K' a b) (fun c hc K' a b=>by rw [rj];exact zzF c hc K' a b) _ (fun g h' x=>?_) (fun g h' x=>?_)
 ·(replace z:=z.an x (by omega);rw [ao h'])
  simp only [syms,aa,seval,Fp]
  exact h1 g _ (z.aw _ _ (by omega))
 ·(replace z:=z.an x (by omega);rw [ao h'])
  simp only [syms,aa,seval,Fp]
  exact h2 g _ (z.aw _ _ (by omega))
theorem zzD (t:aX) (h:Heap) (cF:bj 1 h) (K:Value→Heap→Prop) (h1:dO t→∀ h',Ext h h'→K (.bool true) h') (h2:¬ dO t→∀ h',Ext h h'→K (.bool false) h'):Ok Tryz.prog ae ov 198 [t.val] h K:=by
 rw [ao h]
 have z:=Ext.refl h
 rcases t with ⟨tv,ts⟩
 unfold dO at h1 h2
 cases tv
 ·refine Ok.aH rfl zpc (br E7) rfl (m:=10) rfl ?_
  repeat' (simp only [syms,aa,seval,zD,aX.val,aX.cells])
  refine zvK _ _ (cF.lay _ _) _ (fun hs h' x=>?_) (fun hs h' x=>?_)
  all_goals
   (replace z:=z.an x (by omega);rw [ao h'])
   simp only [syms,aa,seval,zD]
   first
    |exact h1 hs _ (z.aw _ _ (by omega))
    |exact h2 hs _ (z.aw _ _ (by omega))
 ·refine Ok.aH rfl zpc (br E7) rfl (m:=10) rfl ?_
  repeat' (simp only [syms,aa,seval,zD,aX.val,aX.cells])
  refine zGD _ _ _ (fun hs h' x=>?_) (fun hs h' x=>?_)
  all_goals
   (replace z:=z.an x (by omega);rw [ao h'])
   simp only [syms,aa,seval,zD]
   first
    |exact h1 hs _ (z.aw _ _ (by omega))
    |exact h2 hs _ (z.aw _ _ (by omega))
open Classical in
noncomputable def rH (t:aX):Bool := !decide (dO t)
theorem zs2 (t:aX) (h:Heap) (cF:bj 1 h) (K:Value→Heap→Prop) (hk:∀ h',Ext h h'→K (.bool (rH t)) h'):Ok Tryz.prog ae ov 197 [t.val] h K:=by
 rw [ao h]
 have z:=Ext.refl h
 refine Ok.aH rfl zxF (br Lw) rfl (m:=5) rfl ?_
 repeat' (simp only [syms,aa,seval,Fm,zsu,↓zyL,zyA,RF])
 refine zzD t _ (cF.lay _ _) _ (fun hs h' x=>?_) (fun hs h' x=>?_)
 ·have e:rH t=false:=by unfold rH;simp [hs]
  rw [e] at hk
  (replace z:=z.an x (by omega);rw [ao h'])
  repeat' (first|simp only [syms,aa,seval,Fm]|((with_reducible_and_instances apply b8);(· rfl)))
  exact hk _ (z.aw _ _ (by omega))
 ·have e:rH t=true:=by unfold rH;simp [hs]
  rw [e] at hk
  (replace z:=z.an x (by omega);rw [ao h'])
  repeat' (first|simp only [syms,aa,seval,Fm]|((with_reducible_and_instances apply b8);(· rfl)))
  exact hk _ (z.aw _ _ (by omega))
end Go.Proofs.YtkgojconmeeegaaGreatDoor
