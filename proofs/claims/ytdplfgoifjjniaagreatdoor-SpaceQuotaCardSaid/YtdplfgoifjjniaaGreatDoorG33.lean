/- Words by the program's own rules: as the document's. No condition. -/
import Derived.Test.YtdplfgoifjjniaaGreatDoorG29
import Derived.Test.YtdplfgoifjjniaaGreatDoorG32
set_option linter.unusedSimpArgs false
set_option linter.unusedVariables false
namespace Go.Am
theorem SpaceAt.ext {g:Nat} {h h':Heap} (s:SpaceAt g h) (x:Ext h h'):SpaceAt g h':=Holds.ext s x
theorem SpaceAt.lay {g:Nat} {h:Heap} (s:SpaceAt g h) (bs:List Blk) (w:Nat):SpaceAt g (h.lay bs w):=Holds.on s bs w
theorem SpaceAt.over {g:Nat} {h1 h2:Heap} {bs:List Blk} {w:Nat} (s:SpaceAt g h1) (x:Ext (h1.lay bs w) h2):SpaceAt g h2:=Holds.over s x
def wordsL:List ByteArray:=[⟨#[115,97,121,115]⟩,⟨#[105,102]⟩,⟨#[99,97,110,115,97,121]⟩,⟨#[112,114,105,110,99,105,112,97,108]⟩,⟨#[112,114,101,100]⟩,⟨#[99,108,101,97,114]⟩,⟨#[113,117,111,116,97]⟩,⟨#[98,117,100,103,101,116]⟩]
theorem zvT {s:ByteArray}:resP s↔s∈wordsL:=by
 unfold resP wordsL
 simp only [List.mem_cons,List.not_mem_nil,or_false,eq_comm (a:=s)]
def wordsT:ByteArray:=⟨#[115,97,121,115,32,105,102,32,99,97,110,115,97,121,32,112,114,105,110,99,105,112,97,108,32,112,114,101,100,32,99,108,101,97,114,32,113,117,111,116,97,32,98,117,100,103,101,116]⟩
theorem zhH:zcw wordsT.data.toList=wordsL.map Value.string:=by kernel_rfl
theorem zsm {g st:Nat} {h:Heap} (hs:SpaceAt g h):zf1 g st [.string wordsT] h=some (.slice (some ⟨h.size,0,none⟩) 8 8,h.push (.row (wordsL.map Value.string) st false)):=by
 unfold zf1
 simp only
 rw [hs.get]
 simp only
 have e1:(zcw wordsT.data.toList).length=8:=by rw [zhH];rfl
 rw [if_pos (by
  rw [e1]
  have h1:wordsT.data.toList.all (fun b=>Nat.blt b.toNat 128)=true:=by kernel_rfl
  have h2:Nat.blt wordsT.size 4294967281=true:=by kernel_rfl
  have h3:Nat.beq zbP zbP=true:=Nat.beq_refl _
  rw [h1,h2,h3]
  rfl),e1,zhH]
theorem zvZ {h:Heap} {st:TypeId} {w:Nat}:Sl Rep.str (h.push (.row (wordsL.map Value.string) st false)) (.slice (some ⟨h.size,0,none⟩) 8 8) wordsL:=by
 refine .inr ⟨h.size,0,8,wordsL.map Value.string,st,false,rfl,(by show 8≤maxLen;decide),.inl ⟨by decide,Nat.le_refl _⟩,by rw [Heap.size_push];omega,by rw [Heap.get_push,if_pos rfl],fun i x hx=>?_⟩
 refine ⟨[.string x],?_,rfl⟩
 have hi:i < 8:=(List.getElem?_eq_some_iff.1 hx).1
 have:i=0∨i=1∨i=2∨i=3∨i=4∨i=5∨i=6∨i=7:=by omega
 rcases this with rfl|rfl|rfl|rfl|rfl|rfl|rfl|rfl <;> (cases hx;rfl)
structure SpelledX (first more:Int→Prop) (s:ByteArray):Prop where
 pos:1≤s.size
 len:s.size≤255
 first:first (zbn s 0)
 more:∀ i,1≤i→i < s.size→more (zbn s i)
def zfi (c:Int):Prop:=97≤c∧c≤122
def zik (c:Int):Prop:=65≤c∧c≤90
def zho (c:Int):Prop:=48≤c∧c≤57
theorem ztk {s:ByteArray}:zbV s↔SpelledX zfi zgw s∧¬ resP s:=by
 constructor
 ·rintro ⟨⟨h,hr⟩,hs⟩
  exact ⟨⟨h.pos,h.len,hs,fun i _ hi=>h.all i hi⟩,hr⟩
 ·rintro ⟨h,hr⟩
  have hf:=h.first
  unfold zfi at hf
  refine ⟨⟨⟨h.pos,h.len,by omega,fun i hi=>?_⟩,hr⟩,hf⟩
  by_cases hi0:i=0
  ·subst hi0
   exact .inl hf
  ·exact h.more i (by omega) hi
theorem zp3 {s:ByteArray}:constX s↔SpelledX (fun c=>zfi c∨zho c) zgw s∧¬ resP s:=by
 constructor
 ·rintro ⟨h,hr⟩
  refine ⟨⟨h.pos,h.len,?_,fun i _ hi=>h.all i hi⟩,hr⟩
  have h0:=h.all 0 h.pos
  have h1:=h.first
  unfold zgw at h0
  rcases h0 with h0|h0|h0
  ·exact .inl h0
  ·exact .inr h0
  ·exact absurd h0 h1
 ·rintro ⟨h,hr⟩
  have hf:=h.first
  unfold zfi zho at hf
  refine ⟨⟨h.pos,h.len,by omega,fun i hi=>?_⟩,hr⟩
  by_cases hi0:i=0
  ·subst hi0
   rcases hf with hf|hf
   ·exact .inl hf
   ·exact .inr (.inl hf)
  ·exact h.more i (by omega) hi
theorem zxd {s:ByteArray}:varX s↔SpelledX zik okCh s:=by
 constructor
 ·intro h
  exact ⟨h.pos,h.len,h.first,fun i _ hi=>h.all i hi⟩
 ·intro h
  refine ⟨h.pos,h.len,h.first,fun i hi=>?_⟩
  by_cases hi0:i=0
  ·subst hi0
   exact .inr (.inl h.first)
  ·exact h.more i (by omega) hi
end Go.Am
namespace Go.Proofs.YtdplfgoifjjniaaGreatDoor
open Go.Am
set_option maxRecDepth 100000
set_option maxHeartbeats 0
theorem ziz (c:Int) (h:Heap) (K:Value→Heap→Prop) (h1:zfi c→K (.bool true) h) (h2:¬ zfi c→K (.bool false) h):Ok Tryz.prog tab ov 109 [.int .u8 c] h K:=by
 unfold zfi at h1 h2
 refine Ok.into rfl ztI (zaw N109) rfl (m:=8) rfl ?_
 simp -implicitDefEqProofs only [syms,symx,seval,c109]
 repeat' (refine zaD (fun c=>?_) (fun c=>?_) <;> simp -implicitDefEqProofs only [syms,symx,seval,c109])
 all_goals first|exact h1 (by omega)|exact h2 (by omega)
theorem zmB (c:Int) (h:Heap) (K:Value→Heap→Prop) (h1:zik c→K (.bool true) h) (h2:¬ zik c→K (.bool false) h):Ok Tryz.prog tab ov 161 [.int .u8 c] h K:=by
 unfold zik at h1 h2
 refine Ok.into rfl zua (zaw N161) rfl (m:=8) rfl ?_
 simp -implicitDefEqProofs only [syms,symx,seval,c161]
 repeat' (refine zaD (fun c=>?_) (fun c=>?_) <;> simp -implicitDefEqProofs only [syms,symx,seval,c161])
 all_goals first|exact h1 (by omega)|exact h2 (by omega)
theorem zmA (c:Int) (h:Heap) (K:Value→Heap→Prop) (h1:zho c→K (.bool true) h) (h2:¬ zho c→K (.bool false) h):Ok Tryz.prog tab ov 135 [.int .u8 c] h K:=by
 unfold zho at h1 h2
 refine Ok.into rfl zt1 (zaw N135) rfl (m:=8) rfl ?_
 simp -implicitDefEqProofs only [syms,symx,seval,c135]
 repeat' (refine zaD (fun c=>?_) (fun c=>?_) <;> simp -implicitDefEqProofs only [syms,symx,seval,c135])
 all_goals first|exact h1 (by omega)|exact h2 (by omega)
theorem zon (c:Int) (h:Heap) (K:Value→Heap→Prop) (h1:zgw c→K (.bool true) h) (h2:¬ zgw c→K (.bool false) h):Ok Tryz.prog tab ov 110 [.int .u8 c] h K:=by
 unfold zgw at h1 h2
 refine Ok.into rfl ztJ (zaw N110) rfl (m:=12) rfl ?_
 simp -implicitDefEqProofs only [syms,symx,seval,c110]
 refine ziz c _ _ (fun g1=>?_) (fun g1=>?_)
 ·simp -implicitDefEqProofs only [syms,symx,seval,c110]
  exact h1 (.inl g1)
 simp -implicitDefEqProofs only [syms,symx,seval,c110]
 refine zmA c _ _ (fun g2=>?_) (fun g2=>?_)
 ·simp -implicitDefEqProofs only [syms,symx,seval,c110]
  exact h1 (.inr (.inl g2))
 simp -implicitDefEqProofs only [syms,symx,seval,c110]
 refine zeR (fun g3=>?_) (fun g3=>?_)
 ·simp -implicitDefEqProofs only [syms,symx,seval,c110]
  exact h1 (.inr (.inr g3))
 ·simp -implicitDefEqProofs only [syms,symx,seval,c110]
  exact h2 (fun g=>g.elim g1 (fun g=>g.elim g2 g3))
theorem zqC (c:Int) (h:Heap) (K:Value→Heap→Prop) (h1:(zfi c∨zho c)→K (.bool true) h) (h2:¬ (zfi c∨zho c)→K (.bool false) h):Ok Tryz.prog tab ov 163 [.int .u8 c] h K:=by
 refine Ok.into rfl zuc (zaw N163) rfl (m:=8) rfl ?_
 simp -implicitDefEqProofs only [syms,symx,seval,c163]
 refine ziz c _ _ (fun g1=>?_) (fun g1=>?_)
 ·simp -implicitDefEqProofs only [syms,symx,seval,c163]
  exact h1 (.inl g1)
 simp -implicitDefEqProofs only [syms,symx,seval,c163]
 refine zmA c _ _ (fun g2=>?_) (fun g2=>?_)
 ·simp -implicitDefEqProofs only [syms,symx,seval,c163]
  exact h1 (.inr g2)
 ·simp -implicitDefEqProofs only [syms,symx,seval,c163]
  exact h2 (fun g=>g.elim g1 g2)
theorem zvL (c:Int) (h:Heap) (K:Value→Heap→Prop) (h1:okCh c→K (.bool true) h) (h2:¬ okCh c→K (.bool false) h):Ok Tryz.prog tab ov 162 [.int .u8 c] h K:=by
 refine Ok.into rfl zub (zaw N162) rfl (m:=8) rfl ?_
 simp -implicitDefEqProofs only [syms,symx,seval,c162]
 refine zon c _ _ (fun g1=>?_) (fun g1=>?_)
 ·simp -implicitDefEqProofs only [syms,symx,seval,c162]
  exact h1 (by unfold zgw at g1;unfold okCh;omega)
 simp -implicitDefEqProofs only [syms,symx,seval,c162]
 refine zmB c _ _ (fun g2=>?_) (fun g2=>?_)
 ·simp -implicitDefEqProofs only [syms,symx,seval,c162]
  exact h1 (by unfold zik at g2;unfold okCh;omega)
 ·simp -implicitDefEqProofs only [syms,symx,seval,c162]
  exact h2 (by unfold zgw at g1;unfold zik at g2;unfold okCh;omega)
theorem zf6 (s:ByteArray) (f1 f2:Value) (p1 p2:Int→Prop) (h:Heap) (hf1:∀ (c:Int) (hc:Heap) (K:Value→Heap→Prop),(p1 c→K (.bool true) hc)→(¬ p1 c→K (.bool false) hc)→zgS Tryz.prog tab ov [.int .u8 c] hc K f1) (hf2:∀ (c:Int) (hc:Heap) (K:Value→Heap→Prop),(p2 c→K (.bool true) hc)→(¬ p2 c→K (.bool false) hc)→zgS Tryz.prog tab ov [.int .u8 c] hc K f2)
 (K:Value→Heap→Prop) (h1k:SpelledX p1 p2 s→∀ h',Ext h h'→K (.bool true) h') (h2k:¬ SpelledX p1 p2 s→∀ h',Ext h h'→K (.bool false) h'):Ok Tryz.prog tab ov 108 [.string s,f1,f2] h K:=by
 rw [zaa h]
 have z:=Ext.refl h
 refine Ok.into rfl ztH (zaw N108) rfl (m:=31) rfl ?_
 simp -implicitDefEqProofs only [syms,symx,seval,c108]
 refine zaD (fun he=>?_) (fun he=>?_)
 ·simp -implicitDefEqProofs only [syms,symx,seval,c108]
  exact h2k (fun x=>by have:=x.pos;rw [he] at this;exact absurd this (by decide)) _ (z.upW _ _ (by omega))
 have hpos:1≤s.size:=by
  apply Nat.lt_of_not_le
  intro hh
  apply he
  apply zhZ
  have h0:s.size=0:=by omega
  have:s.data.toList.length=0:=by rw [Array.length_toList];exact h0
  rw [List.length_eq_zero_iff.1 this]
 simp -implicitDefEqProofs only [syms,symx,seval,c108]
 refine zaD (fun hl=>?_) (fun hl=>?_)
 ·simp -implicitDefEqProofs only [syms,symx,seval,c108]
  exact h2k (fun x=>by have:=x.len;omega) _ (z.upW _ _ (by omega))
 simp -implicitDefEqProofs only [syms,symx,seval,c108]
 refine zgs Tryz.underlying9 rfl rfl (by omega) (by omega) ?_
 simp -implicitDefEqProofs only [syms,symx,seval,c108]
 refine hf1 _ _ _ (fun g1=>?_) (fun g1=>?_)
 rotate_left
 ·repeat' (first|simp -implicitDefEqProofs only [syms,symx,seval,c108]|((with_reducible_and_instances apply zar);(· rfl)))
  exact h2k (fun x=>g1 (by simpa using x.first)) _ (z.upW _ _ (by omega))
 repeat' (first|simp -implicitDefEqProofs only [syms,symx,seval,c108]|((with_reducible_and_instances apply zar);(· rfl)))
 obtain ⟨I1,hI1⟩:∃ I:Nat→Env→Heap→Prop,I=(fun n e h'=>∃ (i:Nat) (h1:Heap),h'=h1.lay [] h1.low∧Ext h h1∧(n=s.size - i∧1≤i∧i≤s.size∧∀ j,1≤j→j < i→p2 (zbn s j))∧∃ J:Nat→Value,e=(.string s::J 1::f2::jr J 3 4 (.int .i64 i::jr J 8 26 ([])))):=⟨_,rfl⟩
 refine zaE I1 _ (by rw [hI1];exact ⟨1,_,rfl,z,⟨rfl,by omega,by omega,fun j hj hj2=>by omega⟩,junk (by kernel_rfl)⟩) ?_
 intro n e h' hin
 rw [hI1] at hin
 obtain ⟨i,h1',rfl,z,hinv,J,rfl⟩:=hin
 obtain ⟨rfl,hi1,hi,hall⟩:=hinv
 have hw:=zcl i (by omega)
 simp -implicitDefEqProofs only [syms,symx,seval,c108]
 refine zaD (fun hlt=>?_) (fun hlt=>?_)
 rotate_left
 ·simp -implicitDefEqProofs only [syms,symx,seval,c108]
  exact h1k ⟨hpos,by omega,by simpa using g1,fun j hj hj2=>hall j hj (by omega)⟩ _ (z.upW _ _ (by omega))
 simp -implicitDefEqProofs only [syms,symx,seval,c108]
 refine zgs Tryz.underlying9 rfl rfl (by omega) (by omega) ?_
 simp -implicitDefEqProofs only [syms,symx,seval,c108]
 refine hf2 _ _ _ (fun g2=>?_) (fun g2=>?_)
 ·repeat' (first|simp -implicitDefEqProofs only [syms,symx,seval,c108]|((with_reducible_and_instances apply zar);(· rfl)))
  rw [hw]
  have hnx:∀ j,1≤j→j < i+1→p2 (zbn s j):=by
   intro j hj1 hj
   by_cases hji:j < i
   ·exact hall j hj1 hji
   ·have:j=i:=by omega
    subst this
    simpa using g2
  (rw [hI1];with_reducible refine zae (m:=_) ?_ ⟨i+1,_,rfl,z,⟨rfl,by omega,by omega,hnx⟩,junk (by kernel_rfl)⟩;omega)
 ·repeat' (first|simp -implicitDefEqProofs only [syms,symx,seval,c108]|((with_reducible_and_instances apply zar);(· rfl)))
  exact h2k (fun x=>g2 (by simpa using x.more i hi1 (by omega))) _ (z.upW _ _ (by omega))
theorem zs8 (h:Heap) (hsp:SpaceAt 1 h) (K:Value→Heap→Prop) (hk:∀ h' w,Ext h h'→Sl Rep.str h' w wordsL→K w h'):Ok Tryz.prog tab ov 136 [] h K:=by
 rw [zaa h]
 have z:=Ext.refl h
 refine Ok.into rfl zt2 (zaw N136) rfl (m:=2) rfl ?_
 simp -implicitDefEqProofs only [syms,symx,seval,c136]
 refine Ok.over (g:=zf1 1 9) rfl (zsm (hsp.lay _ _)) ?_
 have hx:Ext (h.lay [] h.low) ((h.lay [] h.low).push (.row (wordsL.map Value.string) 9 false)):=Ext.push _ _
 have hsw:Sl Rep.str ((h.lay [] h.low).push (.row (wordsL.map Value.string) 9 false)) (.slice (some ⟨(h.lay [] h.low).size,0,none⟩) 8 8) wordsL:=zvZ (w:=0)
 generalize (h.lay [] h.low).push (.row (wordsL.map Value.string) 9 false)=h2 at hx hsw ⊢
 replace z:=z.overW hx (by omega)
 rw [zaa h2]
 simp -implicitDefEqProofs only [syms,symx,seval,c136]
 exact hk _ _ (z.upW _ _ (by omega)) (hsw.lay _ _)
theorem zqG (l:List ByteArray) (v:Value) (s:ByteArray) (h:Heap) (hl:Sl Rep.str h v l) (hs:l.length≤1000) (K:Value→Heap→Prop)
 (hk:∀ h',Ext h h'→K (.int .i64 (idxP (fun x=>decide (s=x)) l)) h'):Ok Tryz.prog tab ov 137 [v,.string s] h K:=by
 rw [zaa h]
 have z:=Ext.refl h
 have hva:=za3 v
 have hlv:=fun (hh:Heap)=>hl.lenA ds23 hh
 refine Ok.into rfl zt3 (zaw N137) rfl (m:=17) rfl ?_
 simp -implicitDefEqProofs only [syms,symx,seval,c137,hva,hlv]
 obtain ⟨I1,hI1⟩:∃ I:Nat→Env→Heap→Prop,I=(fun n e h'=>∃ (i:Nat) (h1:Heap),h'=h1.lay [] h1.low∧Ext h h1∧(n=l.length - i∧i≤l.length∧∀ x∈l.take i,decide (s=x)=false)∧∃ J:Nat→Value,e=(v::.string s::jr J 2 5 (.int .i64 l.length::.int .i64 i::jr J 9 10 ([])))):=⟨_,rfl⟩
 refine zaE I1 _ (by rw [hI1];exact ⟨0,_,rfl,z,⟨rfl,by omega,by simp⟩,junk (by kernel_rfl)⟩) ?_
 intro n e h' hin
 rw [hI1] at hin
 obtain ⟨i,h1',rfl,z,hinv,J,rfl⟩:=hin
 obtain ⟨rfl,hi,hall⟩:=hinv
 have hw:=zcl i (by omega)
 simp -implicitDefEqProofs only [syms,symx,seval,c137]
 refine zaD (fun hlt=>?_) (fun hlt=>?_)
 rotate_left
 ·rw [List.take_of_length_le (by omega)] at hall
  rw [zkX hall] at hk
  repeat' (simp -implicitDefEqProofs only [syms,symx,seval,c137])
  exact hk _ (z.upW _ _ (by omega))
 obtain ⟨r,hr,hr'⟩:=zbs (l:=l) (i:=i) (by omega)
 repeat' (first|simp -implicitDefEqProofs only [syms,symx,seval,c137,hva]|((with_reducible apply zaD) <;> intro _)|with_reducible_and_instances refine zhs (hl.mono z.inc) ds23 sz9 (by omega) hr (fun p hp=>?_)|with_reducible_and_instances refine zfO hp ag9 ?_)
 ·rw [zin hr' hall (by simpa using (by assumption))] at hk
  exact hk _ (z.upW _ _ (by omega))
 ·rw [hw]
  (rw [hI1];with_reducible refine zae (m:=_) ?_ ⟨i+1,_,rfl,z,⟨rfl,by omega,zeC (i:=i) (P:=fun x:ByteArray=>decide (s=x)=false) hr' hall (by simpa using (by assumption))⟩,junk (by kernel_rfl)⟩;omega)
theorem zb4 (l:List ByteArray) (v:Value) (s:ByteArray) (h:Heap) (hl:Sl Rep.str h v l) (hs:l.length≤1000) (K:Value→Heap→Prop)
 (hk:∀ h',Ext h h'→K (.bool (l.any fun x=>decide (s=x))) h'):Ok Tryz.prog tab ov 112 [v,.string s] h K:=by
 refine Ok.into rfl ztL (zaw N112) rfl (m:=7) rfl ?_
 simp -implicitDefEqProofs only [syms,symx,seval,c112]
 refine zqG l v s h hl hs _ (fun h' x=>?_)
 simp -implicitDefEqProofs only [syms,symx,seval,c112,zn9]
 refine zvb (fun hh=>?_) (fun hh=>?_)
 all_goals
  simp -implicitDefEqProofs only [syms,symx,seval,c112]
  rw [hh] at hk
  exact hk _ x
theorem zhw (s:ByteArray) (h:Heap) (hsp:SpaceAt 1 h) (K:Value→Heap→Prop) (h1:resP s→∀ h',Ext h h'→K (.bool true) h') (h2:¬ resP s→∀ h',Ext h h'→K (.bool false) h'):Ok Tryz.prog tab ov 111 [.string s] h K:=by
 rw [zaa h]
 have z:=Ext.refl h
 refine Ok.into rfl ztK (zaw N111) rfl (m:=5) rfl ?_
 simp -implicitDefEqProofs only [syms,symx,seval,c111]
 refine zs8 _ (hsp.lay _ _) _ (fun h' w x sw=>?_)
 (replace z:=z.overW x (by omega);rw [zaa h'])
 have hvw:=za3 w
 simp -implicitDefEqProofs only [syms,symx,seval,c111,hvw]
 refine zb4 wordsL w s _ (sw.lay _ _) (by decide) _ (fun h' x=>?_)
 (replace z:=z.overW x (by omega);rw [zaa h'])
 rw [zvT] at h1 h2
 cases hd:wordsL.any fun x=>decide (s=x)
 ·simp -implicitDefEqProofs only [syms,symx,seval,c111]
  exact h2 (fun hm=>by rw [List.any_eq_false] at hd;exact hd s hm (by simp)) _ (z.upW _ _ (by omega))
 ·simp -implicitDefEqProofs only [syms,symx,seval,c111]
  exact h1 (by obtain ⟨x,hx,e⟩:=List.any_eq_true.1 hd;rw [of_decide_eq_true e];exact hx) _ (z.upW _ _ (by omega))
theorem zlc (s:ByteArray) (h:Heap) (hsp:SpaceAt 1 h) (K:Value→Heap→Prop) (h1:zbV s→∀ h',Ext h h'→K (.bool true) h') (h2:¬ zbV s→∀ h',Ext h h'→K (.bool false) h'):Ok Tryz.prog tab ov 79 [.string s] h K:=by
 rw [zaa h]
 have z:=Ext.refl h
 rw [ztk] at h1 h2
 refine Ok.into rfl zwI (zaw N79) rfl (m:=9) rfl ?_
 simp -implicitDefEqProofs only [syms,symx,seval,c79]
 refine zf6 s _ _ zfi zgw _ (fun c hc K' a b=>by rw [za1];exact ziz c hc K' a b) (fun c hc K' a b=>by rw [za1];exact zon c hc K' a b) _ (fun g h' x=>?_) (fun g h' x=>?_)
 ·(replace z:=z.overW x (by omega);rw [zaa h'])
  repeat' (simp -implicitDefEqProofs only [syms,symx,seval,c79])
  refine zhw s _ ((hsp.ext z).lay _ _) _ (fun r h' x=>?_) (fun r h' x=>?_)
  ·(replace z:=z.overW x (by omega);rw [zaa h'])
   repeat' (first|simp -implicitDefEqProofs only [syms,symx,seval,c79]|((with_reducible_and_instances apply zar);(· rfl)))
   exact h2 (fun q=>q.2 r) _ (z.upW _ _ (by omega))
  ·(replace z:=z.overW x (by omega);rw [zaa h'])
   repeat' (first|simp -implicitDefEqProofs only [syms,symx,seval,c79]|((with_reducible_and_instances apply zar);(· rfl)))
   exact h1 ⟨g,r⟩ _ (z.upW _ _ (by omega))
 ·(replace z:=z.overW x (by omega);rw [zaa h'])
  repeat' (simp -implicitDefEqProofs only [syms,symx,seval,c79])
  exact h2 (fun q=>g q.1) _ (z.upW _ _ (by omega))
theorem zpp (s:ByteArray) (h:Heap) (hsp:SpaceAt 1 h) (K:Value→Heap→Prop) (h1:zbV s→∀ h',Ext h h'→K (.bool true) h') (h2:¬ zbV s→∀ h',Ext h h'→K (.bool false) h'):Ok Tryz.prog tab ov 80 [.string s] h K:=by
 rw [zaa h]
 have z:=Ext.refl h
 refine Ok.into rfl zwJ (zaw N80) rfl (m:=4) rfl ?_
 simp -implicitDefEqProofs only [syms,symx,seval,c80]
 refine zlc s _ (hsp.lay _ _) _ (fun g h' x=>?_) (fun g h' x=>?_)
 ·(replace z:=z.overW x (by omega);rw [zaa h'])
  simp -implicitDefEqProofs only [syms,symx,seval,c80]
  exact h1 g _ (z.upW _ _ (by omega))
 ·(replace z:=z.overW x (by omega);rw [zaa h'])
  simp -implicitDefEqProofs only [syms,symx,seval,c80]
  exact h2 g _ (z.upW _ _ (by omega))
theorem zsO (s:ByteArray) (h:Heap) (hsp:SpaceAt 1 h) (K:Value→Heap→Prop) (h1:constX s→∀ h',Ext h h'→K (.bool true) h') (h2:¬ constX s→∀ h',Ext h h'→K (.bool false) h'):Ok Tryz.prog tab ov 151 [.string s] h K:=by
 rw [zaa h]
 have z:=Ext.refl h
 rw [zp3] at h1 h2
 refine Ok.into rfl zt8 (zaw N151) rfl (m:=9) rfl ?_
 simp -implicitDefEqProofs only [syms,symx,seval,c151]
 refine zf6 s _ _ (fun c=>zfi c∨zho c) zgw _ (fun c hc K' a b=>by rw [za1];exact zqC c hc K' a b) (fun c hc K' a b=>by rw [za1];exact zon c hc K' a b) _ (fun g h' x=>?_) (fun g h' x=>?_)
 ·(replace z:=z.overW x (by omega);rw [zaa h'])
  repeat' (simp -implicitDefEqProofs only [syms,symx,seval,c151])
  refine zhw s _ ((hsp.ext z).lay _ _) _ (fun r h' x=>?_) (fun r h' x=>?_)
  ·(replace z:=z.overW x (by omega);rw [zaa h'])
   repeat' (first|simp -implicitDefEqProofs only [syms,symx,seval,c151]|((with_reducible_and_instances apply zar);(· rfl)))
   exact h2 (fun q=>q.2 r) _ (z.upW _ _ (by omega))
  ·(replace z:=z.overW x (by omega);rw [zaa h'])
   repeat' (first|simp -implicitDefEqProofs only [syms,symx,seval,c151]|((with_reducible_and_instances apply zar);(· rfl)))
   exact h1 ⟨g,r⟩ _ (z.upW _ _ (by omega))
 ·(replace z:=z.overW x (by omega);rw [zaa h'])
  repeat' (simp -implicitDefEqProofs only [syms,symx,seval,c151])
  exact h2 (fun q=>g q.1) _ (z.upW _ _ (by omega))
theorem zzd (s:ByteArray) (h:Heap) (K:Value→Heap→Prop) (h1:varX s→∀ h',Ext h h'→K (.bool true) h') (h2:¬ varX s→∀ h',Ext h h'→K (.bool false) h'):Ok Tryz.prog tab ov 150 [.string s] h K:=by
 rw [zaa h]
 have z:=Ext.refl h
 rw [zxd] at h1 h2
 refine Ok.into rfl zt7 (zaw N150) rfl (m:=4) rfl ?_
 simp -implicitDefEqProofs only [syms,symx,seval,c150]
 refine zf6 s _ _ zik okCh _ (fun c hc K' a b=>by rw [za1];exact zmB c hc K' a b) (fun c hc K' a b=>by rw [za1];exact zvL c hc K' a b) _ (fun g h' x=>?_) (fun g h' x=>?_)
 ·(replace z:=z.overW x (by omega);rw [zaa h'])
  simp -implicitDefEqProofs only [syms,symx,seval,c150]
  exact h1 g _ (z.upW _ _ (by omega))
 ·(replace z:=z.overW x (by omega);rw [zaa h'])
  simp -implicitDefEqProofs only [syms,symx,seval,c150]
  exact h2 g _ (z.upW _ _ (by omega))
theorem zvJ (t:TermD) (h:Heap) (hsp:SpaceAt 1 h) (K:Value→Heap→Prop) (h1:termX t→∀ h',Ext h h'→K (.bool true) h') (h2:¬ termX t→∀ h',Ext h h'→K (.bool false) h'):Ok Tryz.prog tab ov 140 [t.val] h K:=by
 rw [zaa h]
 have z:=Ext.refl h
 rcases t with ⟨tv,ts⟩
 unfold termX at h1 h2
 cases tv
 ·refine Ok.into rfl znb (zaw N140) rfl (m:=10) rfl ?_
  repeat' (simp -implicitDefEqProofs only [syms,symx,seval,c140,TermD.val,TermD.cells])
  refine zsO _ _ (hsp.lay _ _) _ (fun hs h' x=>?_) (fun hs h' x=>?_)
  all_goals
   (replace z:=z.overW x (by omega);rw [zaa h'])
   simp -implicitDefEqProofs only [syms,symx,seval,c140]
   first
    |exact h1 hs _ (z.upW _ _ (by omega))
    |exact h2 hs _ (z.upW _ _ (by omega))
 ·refine Ok.into rfl znb (zaw N140) rfl (m:=10) rfl ?_
  repeat' (simp -implicitDefEqProofs only [syms,symx,seval,c140,TermD.val,TermD.cells])
  refine zzd _ _ _ (fun hs h' x=>?_) (fun hs h' x=>?_)
  all_goals
   (replace z:=z.overW x (by omega);rw [zaa h'])
   simp -implicitDefEqProofs only [syms,symx,seval,c140]
   first
    |exact h1 hs _ (z.upW _ _ (by omega))
    |exact h2 hs _ (z.upW _ _ (by omega))
open Classical in
noncomputable def badT (t:TermD):Bool := !decide (termX t)
theorem zqu (t:TermD) (h:Heap) (hsp:SpaceAt 1 h) (K:Value→Heap→Prop) (hk:∀ h',Ext h h'→K (.bool (badT t)) h'):Ok Tryz.prog tab ov 139 [t.val] h K:=by
 rw [zaa h]
 have z:=Ext.refl h
 refine Ok.into rfl zt5 (zaw N139) rfl (m:=5) rfl ?_
 repeat' (simp -implicitDefEqProofs only [syms,symx,seval,c139,zpY,↓zuY,zuP,zni])
 refine zvJ t _ (hsp.lay _ _) _ (fun hs h' x=>?_) (fun hs h' x=>?_)
 ·have e:badT t=false:=by unfold badT;simp [hs]
  rw [e] at hk
  (replace z:=z.overW x (by omega);rw [zaa h'])
  repeat' (first|simp -implicitDefEqProofs only [syms,symx,seval,c139]|((with_reducible_and_instances apply zar);(· rfl)))
  exact hk _ (z.upW _ _ (by omega))
 ·have e:badT t=true:=by unfold badT;simp [hs]
  rw [e] at hk
  (replace z:=z.overW x (by omega);rw [zaa h'])
  repeat' (first|simp -implicitDefEqProofs only [syms,symx,seval,c139]|((with_reducible_and_instances apply zar);(· rfl)))
  exact hk _ (z.upW _ _ (by omega))
end Go.Proofs.YtdplfgoifjjniaaGreatDoor
