/- Words by the program's own rules: as the document's. No condition. -/
import Derived.Test.YtdplfgoifjjniaaGreatDoorG31
set_option linter.unusedSimpArgs false
set_option linter.unusedVariables false
namespace Go.Am
theorem aY.ext {g:Nat} {h h':Heap} (s:aY g h) (x:Ext h h'):aY g h':=Holds.ext s x
theorem aY.lay {g:Nat} {h:Heap} (s:aY g h) (bs:List bh) (w:Nat):aY g (h.lay bs w):=Holds.on s bs w
def ef:List ByteArray:=[⟨#[115,97,121,115]⟩,⟨#[105,102]⟩,⟨#[99,97,110,115,97,121]⟩,⟨#[112,114,105,110,99,105,112,97,108]⟩,⟨#[112,114,101,100]⟩,⟨#[99,108,101,97,114]⟩,⟨#[113,117,111,116,97]⟩,⟨#[98,117,100,103,101,116]⟩]
theorem zzb {s:ByteArray}:mj s↔s∈ef:=by
 unfold mj ef
 simp only [List.mem_cons,List.not_mem_nil,or_false,eq_comm (a:=s)]
def lE:ByteArray:=⟨#[115,97,121,115,32,105,102,32,99,97,110,115,97,121,32,112,114,105,110,99,105,112,97,108,32,112,114,101,100,32,99,108,101,97,114,32,113,117,111,116,97,32,98,117,100,103,101,116]⟩
theorem zhT:ra lE.data.toList=ef.map Value.string:=by kernel_rfl
theorem ztv {g st:Nat} {h:Heap} (hs:aY g h):EF g st [.string lE] h=some (.slice (some ⟨h.size,0,none⟩) 8 8,h.push (.row (ef.map Value.string) st false)):=by
 unfold EF
 simp only
 rw [hs.get]
 simp only
 have e1:(ra lE.data.toList).length=8:=by rw [zhT];rfl
 rw [if_pos (by
  rw [e1]
  have h1:lE.data.toList.all (fun b=>Nat.blt b.toNat 128)=true:=by kernel_rfl
  have h2:Nat.blt lE.size 4294967281=true:=by kernel_rfl
  have h3:Nat.beq sR sR=true:=Nat.beq_refl _
  rw [h1,h2,h3]
  rfl),e1,zhT]
theorem zzl {h:Heap} {st:TypeId} {w:Nat}:Sl aK.str (h.push (.row (ef.map Value.string) st false)) (.slice (some ⟨h.size,0,none⟩) 8 8) ef:=by
 refine .inr ⟨h.size,0,8,ef.map Value.string,st,false,rfl,(by show 8≤maxLen;decide),.inl ⟨by decide,Nat.le_refl _⟩,by rw [Heap.size_push];omega,by rw [Heap.bL,if_pos rfl],fun i x hx=>?_⟩
 refine ⟨[.string x],?_,rfl⟩
 have hi:i < 8:=(List.getElem?_eq_some_iff.1 hx).1
 have:i=0∨i=1∨i=2∨i=3∨i=4∨i=5∨i=6∨i=7:=by omega
 rcases this with rfl|rfl|rfl|rfl|rfl|rfl|rfl|rfl <;> (cases hx;rfl)
structure gS (first more:Int→Prop) (s:ByteArray):Prop where
 pos:1≤s.size
 len:s.size≤255
 first:first (ke s 0)
 more:∀ i,1≤i→i < s.size→more (ke s i)
def vx (c:Int):Prop:=97≤c∧c≤122
def EP (c:Int):Prop:=65≤c∧c≤90
def BK (c:Int):Prop:=48≤c∧c≤57
theorem zuy {s:ByteArray}:iL s↔gS vx od s∧¬ mj s:=by
 constructor
 ·rintro ⟨⟨h,hr⟩,hs⟩
  exact ⟨⟨h.pos,h.len,hs,fun i _ hi=>h.all i hi⟩,hr⟩
 ·rintro ⟨h,hr⟩
  have hf:=h.first
  unfold vx at hf
  refine ⟨⟨⟨h.pos,h.len,by omega,fun i hi=>?_⟩,hr⟩,hf⟩
  by_cases qe:i=0
  ·subst qe
   exact .inl hf
  ·exact h.more i (by omega) hi
theorem zq6 {s:ByteArray}:gq s↔gS (fun c=>vx c∨BK c) od s∧¬ mj s:=by
 constructor
 ·rintro ⟨h,hr⟩
  refine ⟨⟨h.pos,h.len,?_,fun i _ hi=>h.all i hi⟩,hr⟩
  have h0:=h.all 0 h.pos
  have h1:=h.first
  unfold od at h0
  rcases h0 with h0|h0|h0
  ·exact .inl h0
  ·exact .inr h0
  ·exact absurd h0 h1
 ·rintro ⟨h,hr⟩
  have hf:=h.first
  unfold vx BK at hf
  refine ⟨⟨h.pos,h.len,by omega,fun i hi=>?_⟩,hr⟩
  by_cases qe:i=0
  ·subst qe
   rcases hf with hf|hf
   ·exact .inl hf
   ·exact .inr (.inl hf)
  ·exact h.more i (by omega) hi
theorem zA0 {s:ByteArray}:r8 s↔gS EP jH s:=by
 constructor
 ·intro h
  exact ⟨h.pos,h.len,h.first,fun i _ hi=>h.all i hi⟩
 ·intro h
  refine ⟨h.pos,h.len,h.first,fun i hi=>?_⟩
  by_cases qe:i=0
  ·subst qe
   exact .inr (.inl h.first)
  ·exact h.more i (by omega) hi
end Go.Am
namespace Go.Proofs.YtdplfgoifjjniaaGreatDoor
open Go.Am
set_option maxRecDepth 100000
set_option maxHeartbeats 0
theorem Zg (c:Int) (h:Heap) (K:Value→Heap→Prop) (h1:vx c→K (.bool true) h) (h2:¬ vx c→K (.bool false) h):Ok Tryz.prog ae ov 109 [.int .u8 c] h K:=by
 unfold vx at h1 h2
 refine Ok.aD rfl zu0 (br G9) rfl (m:=8) rfl ?_
 simp -implicitDefEqProofs only [syms,aa,seval,Ig]
 repeat' (refine bp (fun c=>?_) (fun c=>?_) <;> simp -implicitDefEqProofs only [syms,aa,seval,Ig])
 all_goals first|exact h1 (by omega)|exact h2 (by omega)
theorem znm (c:Int) (h:Heap) (K:Value→Heap→Prop) (h1:EP c→K (.bool true) h) (h2:¬ EP c→K (.bool false) h):Ok Tryz.prog ae ov 161 [.int .u8 c] h K:=by
 unfold EP at h1 h2
 refine Ok.aD rfl zvy (br HH) rfl (m:=8) rfl ?_
 simp -implicitDefEqProofs only [syms,aa,seval,Iq]
 repeat' (refine bp (fun c=>?_) (fun c=>?_) <;> simp -implicitDefEqProofs only [syms,aa,seval,Iq])
 all_goals first|exact h1 (by omega)|exact h2 (by omega)
theorem znl (c:Int) (h:Heap) (K:Value→Heap→Prop) (h1:BK c→K (.bool true) h) (h2:¬ BK c→K (.bool false) h):Ok Tryz.prog ae ov 135 [.int .u8 c] h K:=by
 unfold BK at h1 h2
 refine Ok.aD rfl zvl (br Hv) rfl (m:=8) rfl ?_
 simp -implicitDefEqProofs only [syms,aa,seval,Il]
 repeat' (refine bp (fun c=>?_) (fun c=>?_) <;> simp -implicitDefEqProofs only [syms,aa,seval,Il])
 all_goals first|exact h1 (by omega)|exact h2 (by omega)
theorem zpf (c:Int) (h:Heap) (K:Value→Heap→Prop) (h1:od c→K (.bool true) h) (h2:¬ od c→K (.bool false) h):Ok Tryz.prog ae ov 110 [.int .u8 c] h K:=by
 unfold od at h1 h2
 refine Ok.aD rfl zu1 (br Ha) rfl (m:=12) rfl ?_
 simp -implicitDefEqProofs only [syms,aa,seval,pR]
 refine Zg c _ _ (fun g1=>?_) (fun g1=>?_)
 ·simp -implicitDefEqProofs only [syms,aa,seval,pR]
  exact h1 (.inl g1)
 simp -implicitDefEqProofs only [syms,aa,seval,pR]
 refine znl c _ _ (fun g2=>?_) (fun g2=>?_)
 ·simp -implicitDefEqProofs only [syms,aa,seval,pR]
  exact h1 (.inr (.inl g2))
 simp -implicitDefEqProofs only [syms,aa,seval,pR]
 refine pK (fun g3=>?_) (fun g3=>?_)
 ·simp -implicitDefEqProofs only [syms,aa,seval,pR]
  exact h1 (.inr (.inr g3))
 ·simp -implicitDefEqProofs only [syms,aa,seval,pR]
  exact h2 (fun g=>g.elim g1 (fun g=>g.elim g2 g3))
theorem zrK (c:Int) (h:Heap) (K:Value→Heap→Prop) (h1:(vx c∨BK c)→K (.bool true) h) (h2:¬ (vx c∨BK c)→K (.bool false) h):Ok Tryz.prog ae ov 163 [.int .u8 c] h K:=by
 refine Ok.aD rfl zvA (br HJ) rfl (m:=8) rfl ?_
 simp -implicitDefEqProofs only [syms,aa,seval,tC]
 refine Zg c _ _ (fun g1=>?_) (fun g1=>?_)
 ·simp -implicitDefEqProofs only [syms,aa,seval,tC]
  exact h1 (.inl g1)
 simp -implicitDefEqProofs only [syms,aa,seval,tC]
 refine znl c _ _ (fun g2=>?_) (fun g2=>?_)
 ·simp -implicitDefEqProofs only [syms,aa,seval,tC]
  exact h1 (.inr g2)
 ·simp -implicitDefEqProofs only [syms,aa,seval,tC]
  exact h2 (fun g=>g.elim g1 g2)
theorem zxa (c:Int) (h:Heap) (K:Value→Heap→Prop) (h1:jH c→K (.bool true) h) (h2:¬ jH c→K (.bool false) h):Ok Tryz.prog ae ov 162 [.int .u8 c] h K:=by
 refine Ok.aD rfl zvz (br HI) rfl (m:=8) rfl ?_
 simp -implicitDefEqProofs only [syms,aa,seval,tB]
 refine zpf c _ _ (fun g1=>?_) (fun g1=>?_)
 ·simp -implicitDefEqProofs only [syms,aa,seval,tB]
  exact h1 (by unfold od at g1;unfold jH;omega)
 simp -implicitDefEqProofs only [syms,aa,seval,tB]
 refine znm c _ _ (fun g2=>?_) (fun g2=>?_)
 ·simp -implicitDefEqProofs only [syms,aa,seval,tB]
  exact h1 (by unfold EP at g2;unfold jH;omega)
 ·simp -implicitDefEqProofs only [syms,aa,seval,tB]
  exact h2 (by unfold od at g1;unfold EP at g2;unfold jH;omega)
theorem YU (s:ByteArray) (f1 f2:Value) (p1 p2:Int→Prop) (h:Heap) (hf1:∀ (c:Int) (hc:Heap) (K:Value→Heap→Prop),(p1 c→K (.bool true) hc)→(¬ p1 c→K (.bool false) hc)→so Tryz.prog ae ov [.int .u8 c] hc K f1) (hf2:∀ (c:Int) (hc:Heap) (K:Value→Heap→Prop),(p2 c→K (.bool true) hc)→(¬ p2 c→K (.bool false) hc)→so Tryz.prog ae ov [.int .u8 c] hc K f2)
 (K:Value→Heap→Prop) (tK:gS p1 p2 s→∀ h',Ext h h'→K (.bool true) h') (kB:¬ gS p1 p2 s→∀ h',Ext h h'→K (.bool false) h'):Ok Tryz.prog ae ov 108 [.string s,f1,f2] h K:=by
 rw [ao h]
 have z:=Ext.refl h
 refine Ok.aD rfl zuZ (br G8) rfl (m:=31) rfl ?_
 simp -implicitDefEqProofs only [syms,aa,seval,ju]
 refine bp (fun he=>?_) (fun he=>?_)
 ·simp -implicitDefEqProofs only [syms,aa,seval,ju]
  exact kB (fun x=>by have:=x.pos;rw [he] at this;exact absurd this (by decide)) _ (z.aw _ _ (by omega))
 have jB:1≤s.size:=by
  apply Nat.lt_of_not_le
  intro hh
  apply he
  apply GC
  have h0:s.size=0:=by omega
  have:s.data.toList.length=0:=by rw [Array.length_toList];exact h0
  rw [List.length_eq_zero_iff.1 this]
 simp -implicitDefEqProofs only [syms,aa,seval,ju]
 refine bp (fun hl=>?_) (fun hl=>?_)
 ·simp -implicitDefEqProofs only [syms,aa,seval,ju]
  exact kB (fun x=>by have:=x.len;omega) _ (z.aw _ _ (by omega))
 simp -implicitDefEqProofs only [syms,aa,seval,ju]
 refine Eu Tryz.underlying9 rfl rfl (by omega) (by omega) ?_
 simp -implicitDefEqProofs only [syms,aa,seval,ju]
 refine hf1 _ _ _ (fun g1=>?_) (fun g1=>?_)
 rotate_left
 ·repeat' (first|simp -implicitDefEqProofs only [syms,aa,seval,ju]|((with_reducible_and_instances apply cm);(· rfl)))
  exact kB (fun x=>g1 (by simpa using x.first)) _ (z.aw _ _ (by omega))
 repeat' (first|simp -implicitDefEqProofs only [syms,aa,seval,ju]|((with_reducible_and_instances apply cm);(· rfl)))
 obtain ⟨I1,aR⟩:∃ I:Nat→Env→Heap→Prop,I=(fun n e h'=>∃ (i:Nat) (h1:Heap),h'=h1.lay [] h1.low∧Ext h h1∧(n=s.size - i∧1≤i∧i≤s.size∧∀ j,1≤j→j < i→p2 (ke s j))∧∃ J:Nat→Value,e=(.string s::J 1::f2::jr J 3 4 (.int .i64 i::jr J 8 26 ([])))):=⟨_,rfl⟩
 refine dg I1 _ (by rw [aR];exact ⟨1,_,rfl,z,⟨rfl,by omega,by omega,fun j hj xi=>by omega⟩,aB (by kernel_rfl)⟩) ?_
 intro n e h' aH
 rw [aR] at aH
 obtain ⟨i,bE,rfl,z,hinv,J,rfl⟩:=aH
 obtain ⟨rfl,lM,hi,az⟩:=hinv
 have hw:=eg i (by omega)
 simp -implicitDefEqProofs only [syms,aa,seval,ju]
 refine bp (fun aS=>?_) (fun aS=>?_)
 rotate_left
 ·simp -implicitDefEqProofs only [syms,aa,seval,ju]
  exact tK ⟨jB,by omega,by simpa using g1,fun j hj xi=>az j hj (by omega)⟩ _ (z.aw _ _ (by omega))
 simp -implicitDefEqProofs only [syms,aa,seval,ju]
 refine Eu Tryz.underlying9 rfl rfl (by omega) (by omega) ?_
 simp -implicitDefEqProofs only [syms,aa,seval,ju]
 refine hf2 _ _ _ (fun g2=>?_) (fun g2=>?_)
 ·repeat' (first|simp -implicitDefEqProofs only [syms,aa,seval,ju]|((with_reducible_and_instances apply cm);(· rfl)))
  rw [hw]
  have uD:∀ j,1≤j→j < i+1→p2 (ke s j):=by
   intro j py hj
   by_cases jN:j < i
   ·exact az j py jN
   ·have:j=i:=by omega
    subst this
    simpa using g2
  (rw [aR];with_reducible refine cz (m:=_) ?_ ⟨i+1,_,rfl,z,⟨rfl,by omega,by omega,uD⟩,aB (by kernel_rfl)⟩;omega)
 ·repeat' (first|simp -implicitDefEqProofs only [syms,aa,seval,ju]|((with_reducible_and_instances apply cm);(· rfl)))
  exact kB (fun x=>g2 (by simpa using x.more i lM (by omega))) _ (z.aw _ _ (by omega))
theorem zuo (h:Heap) (cA:aY 1 h) (K:Value→Heap→Prop) (hk:∀ h' w,Ext h h'→Sl aK.str h' w ef→K w h'):Ok Tryz.prog ae ov 136 [] h K:=by
 rw [ao h]
 have z:=Ext.refl h
 refine Ok.aD rfl zvm (br Hw) rfl (m:=2) rfl ?_
 simp -implicitDefEqProofs only [syms,aa,seval,Im]
 refine Ok.over (g:=EF 1 9) rfl (ztv (cA.lay _ _)) ?_
 have hx:Ext (h.lay [] h.low) ((h.lay [] h.low).push (.row (ef.map Value.string) 9 false)):=Ext.push _ _
 have J5:Sl aK.str ((h.lay [] h.low).push (.row (ef.map Value.string) 9 false)) (.slice (some ⟨(h.lay [] h.low).size,0,none⟩) 8 8) ef:=zzl (w:=0)
 generalize (h.lay [] h.low).push (.row (ef.map Value.string) 9 false)=h2 at hx J5 ⊢
 replace z:=z.an hx (by omega)
 rw [ao h2]
 simp -implicitDefEqProofs only [syms,aa,seval,Im]
 exact hk _ _ (z.aw _ _ (by omega)) (J5.lay _ _)
theorem zrQ (l:List ByteArray) (v:Value) (s:ByteArray) (h:Heap) (hl:Sl aK.str h v l) (hs:l.length≤1000) (K:Value→Heap→Prop)
 (hk:∀ h',Ext h h'→K (.int .i64 (kK (fun x=>decide (s=x)) l)) h'):Ok Tryz.prog ae ov 137 [v,.string s] h K:=by
 rw [ao h]
 have z:=Ext.refl h
 have bC:=cJ v
 have cp:=fun (hh:Heap)=>hl.bd cM hh
 refine Ok.aD rfl zvn (br Hx) rfl (m:=17) rfl ?_
 simp -implicitDefEqProofs only [syms,aa,seval,wO,bC,cp]
 obtain ⟨I1,aR⟩:∃ I:Nat→Env→Heap→Prop,I=(fun n e h'=>∃ (i:Nat) (h1:Heap),h'=h1.lay [] h1.low∧Ext h h1∧(n=l.length - i∧i≤l.length∧∀ x∈l.take i,decide (s=x)=false)∧∃ J:Nat→Value,e=(v::.string s::jr J 2 5 (.int .i64 l.length::.int .i64 i::jr J 9 10 ([])))):=⟨_,rfl⟩
 refine dg I1 _ (by rw [aR];exact ⟨0,_,rfl,z,⟨rfl,by omega,by simp⟩,aB (by kernel_rfl)⟩) ?_
 intro n e h' aH
 rw [aR] at aH
 obtain ⟨i,bE,rfl,z,hinv,J,rfl⟩:=aH
 obtain ⟨rfl,hi,az⟩:=hinv
 have hw:=eg i (by omega)
 simp -implicitDefEqProofs only [syms,aa,seval,wO]
 refine bp (fun aS=>?_) (fun aS=>?_)
 rotate_left
 ·rw [List.take_of_length_le (by omega)] at az
  rw [Pa az] at hk
  repeat' (simp -implicitDefEqProofs only [syms,aa,seval,wO])
  exact hk _ (z.aw _ _ (by omega))
 obtain ⟨r,hr,bo⟩:=eP (l:=l) (i:=i) (by omega)
 repeat' (first|simp -implicitDefEqProofs only [syms,aa,seval,wO,bC]|((with_reducible apply bp) <;> intro _)|with_reducible_and_instances refine ph (hl.mono z.inc) cM mN (by omega) hr (fun p hp=>?_)|with_reducible_and_instances refine fX hp gU ?_)
 ·rw [OX bo az (by simpa using (by assumption))] at hk
  exact hk _ (z.aw _ _ (by omega))
 ·rw [hw]
  (rw [aR];with_reducible refine cz (m:=_) ?_ ⟨i+1,_,rfl,z,⟨rfl,by omega,pf (i:=i) (P:=fun x:ByteArray=>decide (s=x)=false) bo az (by simpa using (by assumption))⟩,aB (by kernel_rfl)⟩;omega)
theorem FZ (l:List ByteArray) (v:Value) (s:ByteArray) (h:Heap) (hl:Sl aK.str h v l) (hs:l.length≤1000) (K:Value→Heap→Prop)
 (hk:∀ h',Ext h h'→K (.bool (l.any fun x=>decide (s=x))) h'):Ok Tryz.prog ae ov 112 [v,.string s] h K:=by
 refine Ok.aD rfl zu3 (br Hd) rfl (m:=7) rfl ?_
 simp -implicitDefEqProofs only [syms,aa,seval,Cd]
 refine zrQ l v s h hl hs _ (fun h' x=>?_)
 simp -implicitDefEqProofs only [syms,aa,seval,Cd,Po]
 refine PK (fun hh=>?_) (fun hh=>?_)
 all_goals
  simp -implicitDefEqProofs only [syms,aa,seval,Cd]
  rw [hh] at hk
  exact hk _ x
theorem zhJ (s:ByteArray) (h:Heap) (cA:aY 1 h) (K:Value→Heap→Prop) (h1:mj s→∀ h',Ext h h'→K (.bool true) h') (h2:¬ mj s→∀ h',Ext h h'→K (.bool false) h'):Ok Tryz.prog ae ov 111 [.string s] h K:=by
 rw [ao h]
 have z:=Ext.refl h
 refine Ok.aD rfl zu2 (br Hc) rfl (m:=5) rfl ?_
 simp -implicitDefEqProofs only [syms,aa,seval,wK]
 refine zuo _ (cA.lay _ _) _ (fun h' w x sw=>?_)
 (replace z:=z.an x (by omega);rw [ao h'])
 have jm:=cJ w
 simp -implicitDefEqProofs only [syms,aa,seval,wK,jm]
 refine FZ ef w s _ (sw.lay _ _) (by decide) _ (fun h' x=>?_)
 (replace z:=z.an x (by omega);rw [ao h'])
 rw [zzb] at h1 h2
 cases hd:ef.any fun x=>decide (s=x)
 ·simp -implicitDefEqProofs only [syms,aa,seval,wK]
  exact h2 (fun hm=>by rw [List.any_eq_false] at hd;exact hd s hm (by simp)) _ (z.aw _ _ (by omega))
 ·simp -implicitDefEqProofs only [syms,aa,seval,wK]
  exact h1 (by obtain ⟨x,hx,e⟩:=List.any_eq_true.1 hd;rw [of_decide_eq_true e];exact hx) _ (z.aw _ _ (by omega))
theorem Zz (s:ByteArray) (h:Heap) (cA:aY 1 h) (K:Value→Heap→Prop) (h1:iL s→∀ h',Ext h h'→K (.bool true) h') (h2:¬ iL s→∀ h',Ext h h'→K (.bool false) h'):Ok Tryz.prog ae ov 79 [.string s] h K:=by
 rw [ao h]
 have z:=Ext.refl h
 rw [zuy] at h1 h2
 refine Ok.aD rfl zAw (br N79) rfl (m:=9) rfl ?_
 simp -implicitDefEqProofs only [syms,aa,seval,Iu]
 refine YU s _ _ vx od _ (fun c hc K' a b=>by rw [pA];exact Zg c hc K' a b) (fun c hc K' a b=>by rw [pA];exact zpf c hc K' a b) _ (fun g h' x=>?_) (fun g h' x=>?_)
 ·(replace z:=z.an x (by omega);rw [ao h'])
  repeat' (simp -implicitDefEqProofs only [syms,aa,seval,Iu])
  refine zhJ s _ ((cA.ext z).lay _ _) _ (fun r h' x=>?_) (fun r h' x=>?_)
  ·(replace z:=z.an x (by omega);rw [ao h'])
   repeat' (first|simp -implicitDefEqProofs only [syms,aa,seval,Iu]|((with_reducible_and_instances apply cm);(· rfl)))
   exact h2 (fun q=>q.2 r) _ (z.aw _ _ (by omega))
  ·(replace z:=z.an x (by omega);rw [ao h'])
   repeat' (first|simp -implicitDefEqProofs only [syms,aa,seval,Iu]|((with_reducible_and_instances apply cm);(· rfl)))
   exact h1 ⟨g,r⟩ _ (z.aw _ _ (by omega))
 ·(replace z:=z.an x (by omega);rw [ao h'])
  repeat' (simp -implicitDefEqProofs only [syms,aa,seval,Iu])
  exact h2 (fun q=>g q.1) _ (z.aw _ _ (by omega))
theorem zqm (s:ByteArray) (h:Heap) (cA:aY 1 h) (K:Value→Heap→Prop) (h1:iL s→∀ h',Ext h h'→K (.bool true) h') (h2:¬ iL s→∀ h',Ext h h'→K (.bool false) h'):Ok Tryz.prog ae ov 80 [.string s] h K:=by
 rw [ao h]
 have z:=Ext.refl h
 refine Ok.aD rfl zAx (br N80) rfl (m:=4) rfl ?_
 simp -implicitDefEqProofs only [syms,aa,seval,Tm]
 refine Zz s _ (cA.lay _ _) _ (fun g h' x=>?_) (fun g h' x=>?_)
 ·(replace z:=z.an x (by omega);rw [ao h'])
  simp -implicitDefEqProofs only [syms,aa,seval,Tm]
  exact h1 g _ (z.aw _ _ (by omega))
 ·(replace z:=z.an x (by omega);rw [ao h'])
  simp -implicitDefEqProofs only [syms,aa,seval,Tm]
  exact h2 g _ (z.aw _ _ (by omega))
theorem zt4 (s:ByteArray) (h:Heap) (cA:aY 1 h) (K:Value→Heap→Prop) (h1:gq s→∀ h',Ext h h'→K (.bool true) h') (h2:¬ gq s→∀ h',Ext h h'→K (.bool false) h'):Ok Tryz.prog ae ov 151 [.string s] h K:=by
 rw [ao h]
 have z:=Ext.refl h
 rw [zq6] at h1 h2
 refine Ok.aD rfl zvv (br HF) rfl (m:=9) rfl ?_
 simp -implicitDefEqProofs only [syms,aa,seval,tA]
 refine YU s _ _ (fun c=>vx c∨BK c) od _ (fun c hc K' a b=>by rw [pA];exact zrK c hc K' a b) (fun c hc K' a b=>by rw [pA];exact zpf c hc K' a b) _ (fun g h' x=>?_) (fun g h' x=>?_)
 ·(replace z:=z.an x (by omega);rw [ao h'])
  repeat' (simp -implicitDefEqProofs only [syms,aa,seval,tA])
  refine zhJ s _ ((cA.ext z).lay _ _) _ (fun r h' x=>?_) (fun r h' x=>?_)
  ·(replace z:=z.an x (by omega);rw [ao h'])
   repeat' (first|simp -implicitDefEqProofs only [syms,aa,seval,tA]|((with_reducible_and_instances apply cm);(· rfl)))
   exact h2 (fun q=>q.2 r) _ (z.aw _ _ (by omega))
  ·(replace z:=z.an x (by omega);rw [ao h'])
   repeat' (first|simp -implicitDefEqProofs only [syms,aa,seval,tA]|((with_reducible_and_instances apply cm);(· rfl)))
   exact h1 ⟨g,r⟩ _ (z.aw _ _ (by omega))
 ·(replace z:=z.an x (by omega);rw [ao h'])
  repeat' (simp -implicitDefEqProofs only [syms,aa,seval,tA])
  exact h2 (fun q=>g q.1) _ (z.aw _ _ (by omega))
theorem zCX (s:ByteArray) (h:Heap) (K:Value→Heap→Prop) (h1:r8 s→∀ h',Ext h h'→K (.bool true) h') (h2:¬ r8 s→∀ h',Ext h h'→K (.bool false) h'):Ok Tryz.prog ae ov 150 [.string s] h K:=by
 rw [ao h]
 have z:=Ext.refl h
 rw [zA0] at h1 h2
 refine Ok.aD rfl zvu (br HE) rfl (m:=4) rfl ?_
 simp -implicitDefEqProofs only [syms,aa,seval,Ck]
 refine YU s _ _ EP jH _ (fun c hc K' a b=>by rw [pA];exact znm c hc K' a b) (fun c hc K' a b=>by rw [pA];exact zxa c hc K' a b) _ (fun g h' x=>?_) (fun g h' x=>?_)
 ·(replace z:=z.an x (by omega);rw [ao h'])
  simp -implicitDefEqProofs only [syms,aa,seval,Ck]
  exact h1 g _ (z.aw _ _ (by omega))
 ·(replace z:=z.an x (by omega);rw [ao h'])
  simp -implicitDefEqProofs only [syms,aa,seval,Ck]
  exact h2 g _ (z.aw _ _ (by omega))
theorem zw8 (t:aQ) (h:Heap) (cA:aY 1 h) (K:Value→Heap→Prop) (h1:dv t→∀ h',Ext h h'→K (.bool true) h') (h2:¬ dv t→∀ h',Ext h h'→K (.bool false) h'):Ok Tryz.prog ae ov 140 [t.val] h K:=by
 rw [ao h]
 have z:=Ext.refl h
 rcases t with ⟨tv,ts⟩
 unfold dv at h1 h2
 cases tv
 ·refine Ok.aD rfl znZ (br BW) rfl (m:=10) rfl ?_
  repeat' (simp -implicitDefEqProofs only [syms,aa,seval,wP,aQ.val,aQ.cells])
  refine zt4 _ _ (cA.lay _ _) _ (fun hs h' x=>?_) (fun hs h' x=>?_)
  all_goals
   (replace z:=z.an x (by omega);rw [ao h'])
   simp -implicitDefEqProofs only [syms,aa,seval,wP]
   first
    |exact h1 hs _ (z.aw _ _ (by omega))
    |exact h2 hs _ (z.aw _ _ (by omega))
 ·refine Ok.aD rfl znZ (br BW) rfl (m:=10) rfl ?_
  repeat' (simp -implicitDefEqProofs only [syms,aa,seval,wP,aQ.val,aQ.cells])
  refine zCX _ _ _ (fun hs h' x=>?_) (fun hs h' x=>?_)
  all_goals
   (replace z:=z.an x (by omega);rw [ao h'])
   simp -implicitDefEqProofs only [syms,aa,seval,wP]
   first
    |exact h1 hs _ (z.aw _ _ (by omega))
    |exact h2 hs _ (z.aw _ _ (by omega))
open Classical in
noncomputable def pP (t:aQ):Bool := !decide (dv t)
theorem zrA (t:aQ) (h:Heap) (cA:aY 1 h) (K:Value→Heap→Prop) (hk:∀ h',Ext h h'→K (.bool (pP t)) h'):Ok Tryz.prog ae ov 139 [t.val] h K:=by
 rw [ao h]
 have z:=Ext.refl h
 refine Ok.aD rfl zvp (br Hz) rfl (m:=5) rfl ?_
 repeat' (simp -implicitDefEqProofs only [syms,aa,seval,Ci,zq1,↓zwq,zwf,Mj])
 refine zw8 t _ (cA.lay _ _) _ (fun hs h' x=>?_) (fun hs h' x=>?_)
 ·have e:pP t=false:=by unfold pP;simp [hs]
  rw [e] at hk
  (replace z:=z.an x (by omega);rw [ao h'])
  repeat' (first|simp -implicitDefEqProofs only [syms,aa,seval,Ci]|((with_reducible_and_instances apply cm);(· rfl)))
  exact hk _ (z.aw _ _ (by omega))
 ·have e:pP t=true:=by unfold pP;simp [hs]
  rw [e] at hk
  (replace z:=z.an x (by omega);rw [ao h'])
  repeat' (first|simp -implicitDefEqProofs only [syms,aa,seval,Ci]|((with_reducible_and_instances apply cm);(· rfl)))
  exact hk _ (z.aw _ _ (by omega))
end Go.Proofs.YtdplfgoifjjniaaGreatDoor
