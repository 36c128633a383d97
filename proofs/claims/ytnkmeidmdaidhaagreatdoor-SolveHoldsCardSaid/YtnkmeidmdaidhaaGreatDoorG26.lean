/- Words by the program's own rules: as the document's. No condition. -/
import Derived.Test.YtnkmeidmdaidhaaGreatDoorG25
set_option linter.unusedSimpArgs false
set_option linter.unusedVariables false
namespace Go.Am
variable {s:aV}
theorem bh.ext {g:Nat} {h h':Heap} (s:bh g h) (x:Ext h h'):bh g h':=ak.ext s x
theorem bh.lay {g:Nat} {h:Heap} (s:bh g h) (bs:List aZ) (w:Nat):bh g (h.lay bs w):=ak.on s bs w
theorem bh.over {g:Nat} {h1 h2:Heap} {bs:List aZ} {w:Nat} (s:bh g h1) (x:Ext (h1.lay bs w) h2):bh g h2:=ak.over s x
def ej:List aV:=[⟨#[115,97,121,115]⟩,⟨#[105,102]⟩,⟨#[99,97,110,115,97,121]⟩,⟨#[112,114,105,110,99,105,112,97,108]⟩,⟨#[112,114,101,100]⟩,⟨#[99,108,101,97,114]⟩,⟨#[113,117,111,116,97]⟩,⟨#[98,117,100,103,101,116]⟩]
theorem zyv:ru s↔s∈ej:=by
 unfold ru ej
 simp only [db,hY,or_false,eq_comm (a:=s)]
def mr:aV:=⟨#[115,97,121,115,32,105,102,32,99,97,110,115,97,121,32,112,114,105,110,99,105,112,97,108,32,112,114,101,100,32,99,108,101,97,114,32,113,117,111,116,97,32,98,117,100,103,101,116]⟩
theorem zil:sf mr.data.toList=ej.map Value.string:=by kernel_rfl
theorem zvG {g st:Nat} {h:Heap} (hs:bh g h):ER g st [.string mr] h=some (.slice (some ⟨h.size,0,none⟩) 8 8,h.push (.row (ej.map Value.string) st false)):=by
 unfold ER
 simp only
 rw [hs.get]
 simp only
 have e1:(sf mr.data.toList).length=8:=by rw [zil];rfl
 rw [aB (by
  rw [e1]
  have h1:mr.data.toList.all (λb=>Nat.blt b.toNat 128)=true:=by kernel_rfl
  have h2:Nat.blt mr.size 4294967281=true:=by kernel_rfl
  have h3:Nat.beq uk uk=true:=Nat.beq_refl _
  rw [h1,h2,h3]
  rfl),e1,zil]
theorem zyC {h:Heap} {st:TypeId} {w:Nat}:Sl aG.str (h.push (.row (ej.map Value.string) st false)) (.slice (some ⟨h.size,0,none⟩) 8 8) ej:=by
 refine .inr ⟨h.size,0,8,ej.map Value.string,st,false,rfl,(by show 8<=maxLen;decide),.inl ⟨by decide,aQ _⟩,by rw [Heap.size_push];omega,by rw [Heap.bH,aB rfl],λi x hx=>?_⟩
 refine ⟨[.string x],?_,rfl⟩
 have hi:i < 8:=(fR.1 hx).1
 have:i=0\/i=1\/i=2\/i=3\/i=4\/i=5\/i=6\/i=7:=by omega
 rcases this with rfl|rfl|rfl|rfl|rfl|rfl|rfl|rfl <;> (cases hx;rfl)
structure iz (first more:Int->Prop) (s:aV):Prop where
 pos:1<=s.size
 len:s.size<=255
 first:first (kH s 0)
 more:∀ i,1<=i->i < s.size->more (kH s i)
def xd (c:Int):Prop:=97<=c/\c<=122
def E4 (c:Int):Prop:=65<=c/\c<=90
def B6 (c:Int):Prop:=48<=c/\c<=57
theorem zwB:Ao s↔iz xd sA s/\¬ ru s:=by
 constructor
 .rintro ⟨⟨h,hr⟩,hs⟩
  exact ⟨⟨h.pos,h.len,hs,λi _ hi=>h.all i hi⟩,hr⟩
 .rintro ⟨h,hr⟩
  have hf:=h.first
  unfold xd at hf
  refine ⟨⟨⟨h.pos,h.len,by omega,λi hi=>?_⟩,hr⟩,hf⟩
  by_cases yT:i=0
  .subst yT
   exact .inl hf
  .exact h.more i (by omega) hi
theorem ztl:cP s↔iz (λc=>xd c\/B6 c) sA s/\¬ ru s:=by
 constructor
 .rintro ⟨h,hr⟩
  refine ⟨⟨h.pos,h.len,?_,λi _ hi=>h.all i hi⟩,hr⟩
  have h0:=h.all 0 h.pos
  have h1:=h.first
  unfold sA at h0
  rcases h0 with h0|h0|h0
  .exact .inl h0
  .exact .inr h0
  .exact absurd h0 h1
 .rintro ⟨h,hr⟩
  have hf:=h.first
  unfold xd B6 at hf
  refine ⟨⟨h.pos,h.len,by omega,λi hi=>?_⟩,hr⟩
  by_cases yT:i=0
  .subst yT
   rcases hf with hf|hf
   .exact .inl hf
   .exact .inr (.inl hf)
  .exact h.more i (by omega) hi
theorem zyW:wS s↔iz E4 kY s:=by
 constructor
 .intro h
  exact ⟨h.pos,h.len,h.first,λi _ hi=>h.all i hi⟩
 .intro h
  refine ⟨h.pos,h.len,h.first,λi hi=>?_⟩
  by_cases yT:i=0
  .subst yT
   exact .inr (.inl h.first)
  .exact h.more i (by omega) hi
end Go.Am
namespace Go.Proofs.YtnkmeidmdaidhaaGreatDoor
open Go.Am Tryz
set_option maxRecDepth 100000
set_option maxHeartbeats 0
theorem Wc (c:Int) (h:Heap) (K:aO) (h1:xd c->K (.bool true) h) (h2:¬ xd c->K (.bool false) h):Ok prog aJ ov 80 [.int .u8 c] h K:=by
 unfold xd at h1 h2
 refine Ok.aF 8 (bY Yk) ?_
 simp only [aa,seval,YE]
 repeat' (refine cm (λc=>?_) (λc=>?_) <;> simp only [aa,seval,YE])
 all_goals first|exact h1 (by omega)|exact h2 (by omega)
theorem zoR (c:Int) (h:Heap) (K:aO) (h1:E4 c->K (.bool true) h) (h2:¬ E4 c->K (.bool false) h):Ok prog aJ ov 114 [.int .u8 c] h K:=by
 unfold E4 at h1 h2
 refine Ok.aF 8 (bY Hl) ?_
 simp only [aa,seval,HQ]
 repeat' (refine cm (λc=>?_) (λc=>?_) <;> simp only [aa,seval,HQ])
 all_goals first|exact h1 (by omega)|exact h2 (by omega)
theorem zoQ (c:Int) (h:Heap) (K:aO) (h1:B6 c->K (.bool true) h) (h2:¬ B6 c->K (.bool false) h):Ok prog aJ ov 111 [.int .u8 c] h K:=by
 unfold B6 at h1 h2
 refine Ok.aF 8 (bY Hi) ?_
 simp only [aa,seval,HO]
 repeat' (refine cm (λc=>?_) (λc=>?_) <;> simp only [aa,seval,HO])
 all_goals first|exact h1 (by omega)|exact h2 (by omega)
theorem W5 (c:Int) (h:Heap) (K:aO) (h1:sA c->K (.bool true) h) (h2:¬ sA c->K (.bool false) h):Ok prog aJ ov 81 [.int .u8 c] h K:=by
 unfold sA at h1 h2
 refine Ok.aF 12 (bY Yl) ?_
 simp only [aa,seval,CG]
 refine Wc c _ _ (λg1=>?_) (λg1=>?_)
 .simp only [aa,seval,CG]
  exact h1 (.inl g1)
 simp only [aa,seval,CG]
 refine zoQ c _ _ (λg2=>?_) (λg2=>?_)
 .simp only [aa,seval,CG]
  exact h1 (.inr (.inl g2))
 simp only [aa,seval,CG]
 refine oQ (λg3=>?_) (λg3=>?_)
 .simp only [aa,seval,CG]
  exact h1 (.inr (.inr g3))
 .simp only [aa,seval,CG]
  exact h2 (λg=>g.elim g1 (λg=>g.elim g2 g3))
theorem ztR (c:Int) (h:Heap) (K:aO) (h1:(xd c\/B6 c)->K (.bool true) h) (h2:¬ (xd c\/B6 c)->K (.bool false) h):Ok prog aJ ov 116 [.int .u8 c] h K:=by
 refine Ok.aF 8 (bY Hn) ?_
 simp only [aa,seval,uR]
 refine Wc c _ _ (λg1=>?_) (λg1=>?_)
 .simp only [aa,seval,uR]
  exact h1 (.inl g1)
 simp only [aa,seval,uR]
 refine zoQ c _ _ (λg2=>?_) (λg2=>?_)
 .simp only [aa,seval,uR]
  exact h1 (.inr g2)
 .simp only [aa,seval,uR]
  exact h2 (λg=>g.elim g1 g2)
theorem zyo (c:Int) (h:Heap) (K:aO) (h1:kY c->K (.bool true) h) (h2:¬ kY c->K (.bool false) h):Ok prog aJ ov 115 [.int .u8 c] h K:=by
 refine Ok.aF 8 (bY Hm) ?_
 simp only [aa,seval,uQ]
 refine W5 c _ _ (λg1=>?_) (λg1=>?_)
 .simp only [aa,seval,uQ]
  exact h1 (by unfold sA at g1;unfold kY;omega)
 simp only [aa,seval,uQ]
 refine zoR c _ _ (λg2=>?_) (λg2=>?_)
 .simp only [aa,seval,uQ]
  exact h1 (by unfold E4 at g2;unfold kY;omega)
 .simp only [aa,seval,uQ]
  exact h2 (by unfold sA at g1;unfold E4 at g2;unfold kY;omega)
theorem VF (s:aV) (f1 f2:ai) (p1 p2:Int->Prop) (h:Heap) (hf1:∀ (c:Int) (hc:Heap) (K:aO),(p1 c->K (.bool true) hc)->(¬ p1 c->K (.bool false) hc)->xg prog aJ ov [.int .u8 c] hc K f1) (hf2:∀ (c:Int) (hc:Heap) (K:aO),(p2 c->K (.bool true) hc)->(¬ p2 c->K (.bool false) hc)->xg prog aJ ov [.int .u8 c] hc K f2)
 (K:aO) (lR:iz p1 p2 s->∀ h',Ext h h'->K (.bool true) h') (lz:¬ iz p1 p2 s->∀ h',Ext h h'->K (.bool false) h'):Ok prog aJ ov 79 [.string s,f1,f2] h K:=by
 rw [az h]
 have z:=Ext.refl h
 refine Ok.aF 31 (bY Yj) ?_
 simp only [aa,seval,rV]
 refine cm (λhe=>?_) (λhe=>?_)
 .simp only [aa,seval,rV]
  exact lz (λx=>by have:=x.pos;rw [he] at this;exact absurd this (by decide)) _ z.aw
 have mf:1<=s.size:=by
  apply Nat.lt_of_not_le
  intro hh
  apply he
  apply EV
  have h0:s.size=0:=by omega
  have:s.data.toList.length=0:=by rw [uE];exact h0
  rw [Cc.1 this]
 simp only [aa,seval,rV]
 refine cm (λhl=>?_) (λhl=>?_)
 .simp only [aa,seval,rV]
  exact lz (λx=>by have:=x.len;omega) _ z.aw
 simp only [aa,seval,rV]
 refine zoA underlying9 rfl rfl (by omega) (by omega) ?_
 simp only [aa,seval,rV]
 refine hf1 _ _ _ (λg1=>?_) (λg1=>?_)
 rotate_left
 .repeat' (first|simp only [aa,seval,rV]|((with_reducible apply cK);(· rfl)))
  exact lz (λx=>g1 (by simpa using x.first)) _ z.aw
 repeat' (first|simp only [aa,seval,rV]|((with_reducible apply cK);(· rfl)))
 obtain ⟨I1,bo⟩:∃ I:Nat->Env->Heap->Prop,I=(λn e h'=>∃ (i:Nat) (h1:Heap),h'=h1.lay [] h1.low/\Ext h h1/\(n=s.size - i/\1<=i/\i<=s.size/\∀ j,1<=j->j < i->p2 (kH s j))/\∃ J:Nat->ai,e=(.string s::J 1::f2::jr J 3 4 (.int .i64 i::jr J 8 26 ([])))):=⟨_,rfl⟩
 refine fh I1 _ (by rw [bo];exact ⟨1,_,rfl,z,⟨rfl,by omega,by omega,λj hj Dn=>by omega⟩,bO⟩) ?_
 intro n e h' aU
 rw [bo] at aU
 obtain ⟨i,cF,rfl,z,hinv,J,rfl⟩:=aU
 obtain ⟨rfl,hi1,hi,aE⟩:=hinv
 have hw:=gE i (by omega)
 simp only [aa,seval,rV]
 refine cm (λbc=>?_) (λbc=>?_)
 rotate_left
 .simp only [aa,seval,rV]
  exact lR ⟨mf,by omega,by simpa using g1,λj hj Dn=>aE j hj (by omega)⟩ _ z.aw
 simp only [aa,seval,rV]
 refine zoA underlying9 rfl rfl (by omega) (by omega) ?_
 simp only [aa,seval,rV]
 refine hf2 _ _ _ (λg2=>?_) (λg2=>?_)
 .repeat' (first|simp only [aa,seval,rV]|((with_reducible apply cK);(· rfl)))
  rw [hw]
  have DB:∀ j,1<=j->j < i+1->p2 (kH s j):=by
   intro j yU hj
   by_cases tX:j < i
   .exact aE j yU tX
   .have:j=i:=by omega
    subst this
    simpa using g2
  (rw [bo];with_reducible refine dA (m:=_) ?_ ⟨i+1,_,rfl,z,⟨rfl,by omega,by omega,DB⟩,bO⟩;omega)
 .repeat' (first|simp only [aa,seval,rV]|((with_reducible apply cK);(· rfl)))
  exact lz (λx=>g2 (by simpa using x.more i hi1 (by omega))) _ z.aw
theorem zwr (h:Heap) (dq:bh 1 h) (K:aO) (hk:∀ h' w,Ext h h'->Sl aG.str h' w ej->K w h'):Ok prog aJ ov 113 [] h K:=by
 rw [az h]
 have z:=Ext.refl h
 refine Ok.aF 2 (bY Hk) ?_
 simp only [aa,seval,HP]
 refine Ok.over (g:=ER 1 9) rfl (zvG (dq.lay _ _)) ?_
 have hx:Ext (h.lay [] h.low) ((h.lay [] h.low).push (.row (ej.map Value.string) 9 false)):=Ext.push _ _
 have JH:Sl aG.str ((h.lay [] h.low).push (.row (ej.map Value.string) 9 false)) (.slice (some ⟨(h.lay [] h.low).size,0,none⟩) 8 8) ej:=zyC (w:=0)
 generalize (h.lay [] h.low).push (.row (ej.map Value.string) 9 false)=h2 at hx JH ⊢
 replace z:=z.au hx
 rw [az h2]
 simp only [aa,seval,HP]
 exact hk _ _ z.aw (JH.lay _ _)
theorem ztU (l:List aV) (v:ai) (s:aV) (h:Heap) (hl:Sl aG.str h v l) (hs:l.length<=1000) (K:aO)
 (hk:∀ h',Ext h h'->K (.int .i64 (mY (λx=>decide (s=x)) l)) h'):Ok prog aJ ov 136 [v,.string s] h K:=by
 rw [az h]
 have z:=Ext.refl h
 have eD:=λ(hh:Heap)=>hl.bW lQ hh
 refine Ok.aF 17 (bY Hz) ?_
 simp only [aa,seval,yx,eD]
 obtain ⟨I1,bo⟩:∃ I:Nat->Env->Heap->Prop,I=(λn e h'=>∃ (i:Nat) (h1:Heap),h'=h1.lay [] h1.low/\Ext h h1/\(n=l.length - i/\i<=l.length/\∀ x∈l.take i,decide (s=x)=false)/\∃ J:Nat->ai,e=(v::.string s::jr J 2 5 (.int .i64 l.length::.int .i64 i::jr J 9 10 ([])))):=⟨_,rfl⟩
 refine fh I1 _ (by rw [bo];exact ⟨0,_,rfl,z,⟨rfl,by omega,by simp⟩,bO⟩) ?_
 intro n e h' aU
 rw [bo] at aU
 obtain ⟨i,cF,rfl,z,hinv,J,rfl⟩:=aU
 obtain ⟨rfl,hi,aE⟩:=hinv
 have hw:=gE i (by omega)
 simp only [aa,seval,yx]
 refine cm (λbc=>?_) (λbc=>?_)
 rotate_left
 .rw [iR (by omega)] at aE
  rw [WV aE] at hk
  repeat' (simp only [aa,seval,yx])
  exact hk _ z.aw
 obtain ⟨r,hr,cI⟩:=i4 (l:=l) (i:=i) (by omega)
 repeat' (first|simp only [aa,seval,yx]|((with_reducible apply cm) <;> intro _)|with_reducible refine Xn (hl.mono z.inc) lQ Eh (by omega) hr (λp hp=>?_)|with_reducible refine uB hp Ay ?_)
 .rw [Wi cI aE (by simpa using (by assumption))] at hk
  exact hk _ z.aw
 .rw [hw]
  (rw [bo];with_reducible refine dA (m:=_) ?_ ⟨i+1,_,rfl,z,⟨rfl,by omega,wY (i:=i) (P:=λx:aV=>decide (s=x)=false) cI aE (by simpa using (by assumption))⟩,bO⟩;omega)
theorem zgX (l:List aV) (v:ai) (s:aV) (h:Heap) (hl:Sl aG.str h v l) (hs:l.length<=1000) (K:aO)
 (hk:∀ h',Ext h h'->K (.bool (l.any λx=>decide (s=x))) h'):Ok prog aJ ov 112 [v,.string s] h K:=by
 refine Ok.aF 7 (bY Hj) ?_
 simp only [aa,seval,Cy]
 refine ztU l v s h hl hs _ (λh' x=>?_)
 simp only [aa,seval,Cy,Xg]
 refine sx (λhh=>?_) (λhh=>?_)
 all_goals
  simp only [aa,seval,Cy]
  rw [hh] at hk
  exact hk _ x
theorem zia (s:aV) (h:Heap) (dq:bh 1 h) (K:aO) (h1:ru s->∀ h',Ext h h'->K (.bool true) h') (h2:¬ ru s->∀ h',Ext h h'->K (.bool false) h'):Ok prog aJ ov 82 [.string s] h K:=by
 rw [az h]
 have z:=Ext.refl h
 refine Ok.aF 5 (bY Ym) ?_
 simp only [aa,seval,MN]
 refine zwr _ (dq.lay _ _) _ (λh' w x sw=>?_)
 (replace z:=z.au x;rw [az h'])
 simp only [aa,seval,MN]
 refine zgX ej w s _ (sw.lay _ _) (by decide) _ (λh' x=>?_)
 (replace z:=z.au x;rw [az h'])
 rw [zyv] at h1 h2
 cases hd:ej.any λx=>decide (s=x)
 .simp only [aa,seval,MN]
  exact h2 (λhm=>by rw [L5] at hd;exact hd s hm (by simp)) _ z.aw
 .simp only [aa,seval,MN]
  exact h1 (by obtain ⟨x,hx,e⟩:=Fc.1 hd;rw [of_decide_eq_true e];exact hx) _ z.aw
theorem zr4 (s:aV) (h:Heap) (dq:bh 1 h) (K:aO) (h1:Ao s->∀ h',Ext h h'->K (.bool true) h') (h2:¬ Ao s->∀ h',Ext h h'->K (.bool false) h'):Ok prog aJ ov 44 [.string s] h K:=by
 rw [az h]
 have z:=Ext.refl h
 rw [zwB] at h1 h2
 refine Ok.aF 9 (bY XT) ?_
 simp only [aa,seval,HW]
 refine VF s _ _ xd sA _ (λc hc K' a b=>by rw [xN];exact Wc c hc K' a b) (λc hc K' a b=>by rw [xN];exact W5 c hc K' a b) _ (λg h' x=>?_) (λg h' x=>?_)
 ·(replace z:=z.au x;rw [az h'])
  repeat' (simp only [aa,seval,HW])
  refine zia s _ ((dq.ext z).lay _ _) _ (λr h' x=>?_) (λr h' x=>?_)
  ·(replace z:=z.au x;rw [az h'])
   repeat' (first|simp only [aa,seval,HW]|((with_reducible apply cK);(· rfl)))
   exact h2 (λq=>q.2 r) _ z.aw
  ·(replace z:=z.au x;rw [az h'])
   repeat' (first|simp only [aa,seval,HW]|((with_reducible apply cK);(· rfl)))
   exact h1 ⟨g,r⟩ _ z.aw
 ·(replace z:=z.au x;rw [az h'])
  repeat' (simp only [aa,seval,HW])
  exact h2 (λq=>g q.1) _ z.aw
theorem zyl (s:aV) (h:Heap) (dq:bh 1 h) (K:aO) (h1:Ao s->∀ h',Ext h h'->K (.bool true) h') (h2:¬ Ao s->∀ h',Ext h h'->K (.bool false) h'):Ok prog aJ ov 45 [.string s] h K:=by
 rw [az h]
 have z:=Ext.refl h
 refine Ok.aF 4 (bY XU) ?_
 simp only [aa,seval,P6]
 refine zr4 s _ (dq.lay _ _) _ (λg h' x=>?_) (λg h' x=>?_)
 ·(replace z:=z.au x;rw [az h'])
  simp only [aa,seval,P6]
  exact h1 g _ z.aw
 ·(replace z:=z.au x;rw [az h'])
  simp only [aa,seval,P6]
  exact h2 g _ z.aw
theorem zwi (s:aV) (h:Heap) (dq:bh 1 h) (K:aO) (h1:cP s->∀ h',Ext h h'->K (.bool true) h') (h2:¬ cP s->∀ h',Ext h h'->K (.bool false) h'):Ok prog aJ ov 85 [.string s] h K:=by
 rw [az h]
 have z:=Ext.refl h
 rw [ztl] at h1 h2
 refine Ok.aF 9 (bY Yp) ?_
 simp only [aa,seval,HX]
 refine VF s _ _ (λc=>xd c\/B6 c) sA _ (λc hc K' a b=>by rw [xN];exact ztR c hc K' a b) (λc hc K' a b=>by rw [xN];exact W5 c hc K' a b) _ (λg h' x=>?_) (λg h' x=>?_)
 ·(replace z:=z.au x;rw [az h'])
  repeat' (simp only [aa,seval,HX])
  refine zia s _ ((dq.ext z).lay _ _) _ (λr h' x=>?_) (λr h' x=>?_)
  ·(replace z:=z.au x;rw [az h'])
   repeat' (first|simp only [aa,seval,HX]|((with_reducible apply cK);(· rfl)))
   exact h2 (λq=>q.2 r) _ z.aw
  ·(replace z:=z.au x;rw [az h'])
   repeat' (first|simp only [aa,seval,HX]|((with_reducible apply cK);(· rfl)))
   exact h1 ⟨g,r⟩ _ z.aw
 ·(replace z:=z.au x;rw [az h'])
  repeat' (simp only [aa,seval,HX])
  exact h2 (λq=>g q.1) _ z.aw
theorem zAz (s:aV) (h:Heap) (K:aO) (h1:wS s->∀ h',Ext h h'->K (.bool true) h') (h2:¬ wS s->∀ h',Ext h h'->K (.bool false) h'):Ok prog aJ ov 84 [.string s] h K:=by
 rw [az h]
 have z:=Ext.refl h
 rw [zyW] at h1 h2
 refine Ok.aF 4 (bY Yo) ?_
 simp only [aa,seval,Qb]
 refine VF s _ _ E4 kY _ (λc hc K' a b=>by rw [xN];exact zoR c hc K' a b) (λc hc K' a b=>by rw [xN];exact zyo c hc K' a b) _ (λg h' x=>?_) (λg h' x=>?_)
 ·(replace z:=z.au x;rw [az h'])
  simp only [aa,seval,Qb]
  exact h1 g _ z.aw
 ·(replace z:=z.au x;rw [az h'])
  simp only [aa,seval,Qb]
  exact h2 g _ z.aw
theorem zym (t:ay) (h:Heap) (dq:bh 1 h) (K:aO) (h1:dQ t->∀ h',Ext h h'->K (.bool true) h') (h2:¬ dQ t->∀ h',Ext h h'->K (.bool false) h'):Ok prog aJ ov 49 [t.val] h K:=by
 rw [az h]
 have z:=Ext.refl h
 rcases t with ⟨tv,ts⟩
 unfold dQ at h1 h2
 cases tv
 .refine Ok.aF 10 (bY PA) ?_
  repeat' (simp only [aa,seval,MI,ay.val,ay.cells])
  refine zwi _ _ (dq.lay _ _) _ (λhs h' x=>?_) (λhs h' x=>?_)
  all_goals
   (replace z:=z.au x;rw [az h'])
   simp only [aa,seval,MI]
   first
    |exact h1 hs _ z.aw
    |exact h2 hs _ z.aw
 .refine Ok.aF 10 (bY PA) ?_
  repeat' (simp only [aa,seval,MI,ay.val,ay.cells])
  refine zAz _ _ _ (λhs h' x=>?_) (λhs h' x=>?_)
  all_goals
   (replace z:=z.au x;rw [az h'])
   simp only [aa,seval,MI]
   first
    |exact h1 hs _ z.aw
    |exact h2 hs _ z.aw
open Classical in
noncomputable def nZ (t:ay):Bool := !decide (dQ t)
theorem ztO (t:ay) (h:Heap) (dq:bh 1 h) (K:aO) (hk:∀ h',Ext h h'->K (.bool (nZ t)) h'):Ok prog aJ ov 48 [t.val] h K:=by
 rw [az h]
 have z:=Ext.refl h
 refine Ok.aF 5 (bY XX) ?_
 repeat' (simp only [aa,seval,P8,K8,↓WN,EL,BM])
 refine zym t _ (dq.lay _ _) _ (λhs h' x=>?_) (λhs h' x=>?_)
 .have e:nZ t=false:=by unfold nZ;simp [hs]
  rw [e] at hk
  (replace z:=z.au x;rw [az h'])
  repeat' (first|simp only [aa,seval,P8]|((with_reducible apply cK);(· rfl)))
  exact hk _ z.aw
 .have e:nZ t=true:=by unfold nZ;simp [hs]
  rw [e] at hk
  (replace z:=z.au x;rw [az h'])
  repeat' (first|simp only [aa,seval,P8]|((with_reducible apply cK);(· rfl)))
  exact hk _ z.aw
end Go.Proofs.YtnkmeidmdaidhaaGreatDoor
