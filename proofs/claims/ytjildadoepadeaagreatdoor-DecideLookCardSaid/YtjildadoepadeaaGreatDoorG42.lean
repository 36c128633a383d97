/- The code of some functions, node by node, for simp. Written by a program (mkcode.py). No condition. -/
import Derived.Test.YtjildadoepadeaaGreatDoorG41
set_option linter.unusedSimpArgs false
set_option linter.unusedVariables false
set_option maxRecDepth 100000
set_option maxHeartbeats 0
noncomputable section
namespace Go.Proofs.YtjildadoepadeaaGreatDoor
open Go.Am Tryz
def Pn:=bq f61
def Re:=PLift.up (by have c:=bw Pn f61;simp only [aJ,f61,seval] at c;exact nd c <| nd @wm <| nd @ta <| nd @mw <| nd @pk <| nd @cP <| @Kr)
theorem zH:type_of% Re.down:=Re.down
def BT:=bq f168
def E7:=PLift.up (by have c:=bw BT f168;simp only [aJ,f168,seval] at c;exact nd c <| nd @wU <| nd @wm <| nd @zc <| nd @ta <| nd @mw <| nd @nF <| nd @pk <| nd @cP <| nd @eO <| @zyg)
theorem iP:type_of% E7.down:=E7.down
def Bu:=bq f105
def EB:=PLift.up (by have c:=bw Bu f105;simp only [aJ,f105,seval] at c;exact nd c <| nd @cP <| @zxQ)
theorem Cx:type_of% EB.down:=EB.down
theorem YP (s:aA) (h:Heap) (K:aF) (h1:um s->∀ h',Ext h h'->K (.bool true) h') (h2:¬ um s->∀ h',Ext h h'->K (.bool false) h'):Ok prog az ov 213 [.string s] h K:=by
 rw [ak h]
 have z:=Ext.refl h
 refine Ok.au 40 (br B8) ?_
 simp only [aa,seval,j1]
 refine bp (λc=>?_) (λc1=>?_)
 .simp only [aa,seval,j1]
  exact h2 (λx=>by have:=x.pos;omega) _ z.ao
 simp only [aa,seval,j1]
 refine bp (λc=>?_) (λc2=>?_)
 .simp only [aa,seval,j1]
  exact h2 (λx=>by have:=x.len;omega) _ z.ao
 simp only [aa,seval,j1]
 refine pE underlying9 rfl rfl (by omega) (by omega) ?_
 simp only [aa,seval,j1]
 refine sj (λc=>?_) (λc3=>?_)
 .simp only [aa,seval,j1]
  exact h2 (λx=>x.first (by simpa using c)) _ z.ao
 repeat' (simp only [aa,seval,j1])
 obtain ⟨I1,aU⟩:∃ I:Nat->Env->Heap->Prop,I=(λn e h'=>∃ (i:Nat) (h1:Heap),h'=h1.lay [] h1.low/\Ext h h1/\(n=s.size - i/\i<=s.size/\∀ j,j < i->mV (gG s j))/\∃ J:Nat->ai,e=(.string s::jr J 1 2 (.int .i64 i::jr J 4 37 ([])))):=⟨_,rfl⟩
 refine dK I1 _ (by rw [aU];exact ⟨0,_,rfl,z,⟨rfl,by omega,λj hj=>by omega⟩,bx⟩) ?_
 intro n e h' aR
 rw [aU] at aR
 obtain ⟨i,b8,rfl,z,hinv,J,rfl⟩:=aR
 obtain ⟨rfl,hi,aq⟩:=hinv
 have hw:=ec i (by omega)
 simp only [aa,seval,j1]
 repeat' ((first|((with_reducible first|apply bp|apply gD) <;> intro _)|with_reducible refine NO _ _ _ (λ_=>?_) (λ_=>?_)|with_reducible refine TM _ _ _ (λ_=>?_) (λ_=>?_)|((with_reducible apply pE);(· exact underlying9);(· rfl);(· rfl);(· omega);(· omega))|((with_reducible apply bK);(· rfl))) <;> simp only [aa,seval,j1,hw])
 all_goals first
  |(with_reducible refine h2 (λx=>?_) _ z.ao
    have hx:=x.all i (by omega)
    unfold mV at hx
    omega)
  |(with_reducible refine h1 ?_ _ z.ao
    exact ⟨by omega,by omega,by simpa using c3,λj hj=>aq j (by omega)⟩)
  |(have nB:∀ j,j < i+1->mV (gG s j):=by
     intro j hj
     by_cases lh:j < i
     .exact aq j lh
     .have:j=i:=by omega
      subst this
      unfold mV
      omega
    (rw [aU];with_reducible refine db (m:=_) ?_ ⟨i+1,_,rfl,z,⟨rfl,by omega,nB⟩,bx⟩;omega))
theorem Zp (s:aA) (h:Heap) (K:aF) (h1:pq s->∀ h',Ext h h'->K (.bool true) h') (h2:¬ pq s->∀ h',Ext h h'->K (.bool false) h'):Ok prog az ov 210 [.string s] h K:=by
 rw [ak h]
 have z:=Ext.refl h
 refine Ok.au 48 (br B5) ?_
 simp only [aa,seval,j0]
 refine bp (λc=>?_) (λc1=>?_)
 .simp only [aa,seval,j0]
  exact h2 (λx=>by have:=x.pos;omega) _ z.ao
 simp only [aa,seval,j0]
 refine bp (λc=>?_) (λc2=>?_)
 .simp only [aa,seval,j0]
  exact h2 (λx=>by have:=x.len;omega) _ z.ao
 simp only [aa,seval,j0]
 refine pE underlying9 rfl rfl (by omega) (by omega) ?_
 simp only [aa,seval,j0]
 refine TN _ _ _ (λcg=>?_) (λcg=>?_)
 rotate_left
 .repeat' (first|simp only [aa,seval,j0]|((with_reducible apply bK);(· rfl)))
  exact h2 (λx=>cg (by simpa using x.first)) _ z.ao
 repeat' (first|simp only [aa,seval,j0]|((with_reducible apply bK);(· rfl)))
 obtain ⟨I1,aU⟩:∃ I:Nat->Env->Heap->Prop,I=(λn e h'=>∃ (i:Nat) (h1:Heap),h'=h1.lay [] h1.low/\Ext h h1/\(n=s.size - i/\i<=s.size/\∀ j,j < i->iB (gG s j))/\∃ J:Nat->ai,e=(.string s::jr J 1 2 (.int .i64 i::jr J 4 45 ([])))):=⟨_,rfl⟩
 refine dK I1 _ (by rw [aU];exact ⟨0,_,rfl,z,⟨rfl,by omega,λj hj=>by omega⟩,bx⟩) ?_
 intro n e h' aR
 rw [aU] at aR
 obtain ⟨i,b8,rfl,z,hinv,J,rfl⟩:=aR
 obtain ⟨rfl,hi,aq⟩:=hinv
 have hw:=ec i (by omega)
 simp only [aa,seval,j0]
 repeat' ((first|((with_reducible first|apply bp|apply gD) <;> intro _)|with_reducible refine NO _ _ _ (λ_=>?_) (λ_=>?_)|with_reducible refine TM _ _ _ (λ_=>?_) (λ_=>?_)|with_reducible refine TN _ _ _ (λ_=>?_) (λ_=>?_)|((with_reducible apply pE);(· exact underlying9);(· rfl);(· rfl);(· omega);(· omega))|((with_reducible apply bK);(· rfl))) <;> simp only [aa,seval,j0,hw])
 all_goals first
  |(with_reducible refine h2 (λx=>?_) _ z.ao
    have hx:=x.all i (by omega)
    unfold iB at hx
    omega)
  |(with_reducible refine h1 ?_ _ z.ao
    exact ⟨by omega,by omega,by simpa using cg,λj hj=>aq j (by omega)⟩)
  |(have nB:∀ j,j < i+1->iB (gG s j):=by
     intro j hj
     by_cases lh:j < i
     .exact aq j lh
     .have:j=i:=by omega
      subst this
      unfold iB
      omega
    (rw [aU];with_reducible refine db (m:=_) ?_ ⟨i+1,_,rfl,z,⟨rfl,by omega,nB⟩,bx⟩;omega))
theorem Zo (s:aA) (h:Heap) (K:aF) (h1:kl s->∀ h',Ext h h'->K (.bool true) h') (h2:¬ kl s->∀ h',Ext h h'->K (.bool false) h'):Ok prog az ov 214 [.string s] h K:=by
 rw [ak h]
 have z:=Ext.refl h
 unfold kl at h1 h2
 refine Ok.au 17 (br B9) ?_
 simp only [aa,seval,w7]
 refine Ok.au 2 (br Ck) ?_
 simp only [aa,seval,w7,Jy]
 repeat' ((first|((with_reducible apply bp) <;> intro _)|with_reducible refine H8 ?_) <;> simp only [aa,seval,w7])
 all_goals first
  |(with_reducible refine h1 ?_ _ z.ao
    first
     |exact .inl (by assumption)
     |exact .inr (.inl (by assumption))
     |exact .inr (.inr (.inl (by assumption)))
     |exact .inr (.inr (.inr (.inl (by assumption))))
     |exact .inr (.inr (.inr (.inr (.inl (by assumption)))))
     |exact .inr (.inr (.inr (.inr (.inr (.inl (by assumption))))))
     |exact .inr (.inr (.inr (.inr (.inr (.inr (.inl (by assumption)))))))
     |exact .inr (.inr (.inr (.inr (.inr (.inr (.inr (by assumption))))))))
  |(with_reducible refine h2 ?_ _ z.ao
    rintro (e|e|e|e|e|e|e|e) <;> exact absurd e (by assumption))
theorem S8 (s:aA) (h:Heap) (K:aF) (h1:eU s->∀ h',Ext h h'->K (.bool true) h') (h2:¬ eU s->∀ h',Ext h h'->K (.bool false) h'):Ok prog az ov 166 [.string s] h K:=by
 rw [ak h]
 have z:=Ext.refl h
 refine Ok.au 9 (br BR) ?_
 simp only [aa,seval,qu]
 refine YP _ _ _ (λhs h' x=>?_) (λhs h' x=>?_)
 ·(replace z:=z.aj x;rw [ak h'])
  simp only [aa,seval,qu]
  refine Zo _ _ _ (λhr h' x=>?_) (λhr h' x=>?_)
  ·(replace z:=z.aj x;rw [ak h'])
   repeat' (first|simp only [aa,seval,qu]|((with_reducible apply bK);(· rfl)))
   exact h2 (λx=>x.2 hr) _ z.ao
  ·(replace z:=z.aj x;rw [ak h'])
   repeat' (first|simp only [aa,seval,qu]|((with_reducible apply bK);(· rfl)))
   exact h1 ⟨hs,hr⟩ _ z.ao
 ·(replace z:=z.aj x;rw [ak h'])
  simp only [aa,seval,qu]
  exact h2 (λx=>hs x.1) _ z.ao
theorem Ij (s:aA) (h:Heap) (K:aF) (h1:gh s->∀ h',Ext h h'->K (.bool true) h') (h2:¬ gh s->∀ h',Ext h h'->K (.bool false) h'):Ok prog az ov 101 [.string s] h K:=by
 rw [ak h]
 have z:=Ext.refl h
 refine Ok.au 9 (br Bp) ?_
 simp only [aa,seval,oL]
 refine S8 _ _ _ (λhs h' x=>?_) (λhs h' x=>?_)
 ·(replace z:=z.aj x;rw [ak h'])
  have:=hs.1.pos
  simp only [aa,seval,oL]
  refine pE underlying9 rfl rfl (by omega) (by omega) ?_
  simp only [aa,seval,oL]
  refine NO _ _ _ (λcg=>?_) (λcg=>?_)
  .repeat' ( simp only [aa,seval,oL])
   exact h1 ⟨hs,by simpa using cg⟩ _ z.ao
  .repeat' ( simp only [aa,seval,oL])
   exact h2 (λx=>cg (by simpa using x.2)) _ z.ao
 ·(replace z:=z.aj x;rw [ak h'])
  simp only [aa,seval,oL]
  exact h2 (λx=>hs x.1) _ z.ao
theorem NN (s:aA) (h:Heap) (K:aF) (h1:gh s->∀ h',Ext h h'->K (.bool true) h') (h2:¬ gh s->∀ h',Ext h h'->K (.bool false) h'):Ok prog az ov 102 [.string s] h K:=by
 rw [ak h]
 have z:=Ext.refl h
 refine Ok.au 4 (br Bq) ?_
 simp only [aa,seval,wV]
 refine Ij _ _ _ (λhs h' x=>?_) (λhs h' x=>?_)
 ·(replace z:=z.aj x;rw [ak h'])
  simp only [aa,seval,wV]
  exact h1 hs _ z.ao
 ·(replace z:=z.aj x;rw [ak h'])
  simp only [aa,seval,wV]
  exact h2 hs _ z.ao
theorem TO (t:aH) (h:Heap) (K:aF) (h1:cC t->∀ h',Ext h h'->K (.bool true) h') (h2:¬ cC t->∀ h',Ext h h'->K (.bool false) h'):Ok prog az ov 155 [t.val] h K:=by
 rw [ak h]
 have z:=Ext.refl h
 rcases t with ⟨tv,ts⟩
 unfold cC at h1 h2
 cases tv
 .refine Ok.au 10 (br wI) ?_
  simp only [aa,seval,tm,aH.val,aH.cells]
  refine S8 _ _ _ (λhs h' x=>?_) (λhs h' x=>?_)
  all_goals
   (replace z:=z.aj x;rw [ak h'])
   simp only [aa,seval,tm]
   first
    |exact h1 hs _ z.ao
    |exact h2 hs _ z.ao
 .refine Ok.au 10 (br wI) ?_
  simp only [aa,seval,tm,aH.val,aH.cells]
  refine Zp _ _ _ (λhs h' x=>?_) (λhs h' x=>?_)
  all_goals
   (replace z:=z.aj x;rw [ak h'])
   simp only [aa,seval,tm]
   first
    |exact h1 hs _ z.ao
    |exact h2 hs _ z.ao
theorem S7 (a:ae) (h:Heap) (K:aF) (h1:bu a->∀ h',Ext h h'->K (.int .i64 0) h') (h2:¬ bu a->∀ c h',c≠0->Ext h h'->K (.int .i64 c) h'):Ok prog az ov 89 [a.val] h K:=by
 rw [ak h]
 have z:=Ext.refl h
 refine Ok.au 46 (br Jc) ?_
 repeat' (simp only [aa,seval,gE,e9,Iu])
 refine Ij _ _ _ (λhs h' x=>?_) (λhs h' x=>?_)
 rotate_left
 ·(replace z:=z.aj x;rw [ak h'])
  repeat' (first|simp only [aa,seval,gE]|((with_reducible apply bK);(· rfl)))
  exact h2 (λx=>hs x.says) _ _ (by decide) z.ao
 have q0:=Holds.top (i:=0) x rfl
 (replace z:=z.aj x;rw [ak h'])
 repeat' (first|simp only [aa,seval,gE,q0.lay,N7]|((with_reducible apply bK);(· rfl)))
 refine NN _ _ _ (λhp h' x=>?_) (λhp h' x=>?_)
 rotate_left
 ·(replace z:=z.aj x;( replace q0:=q0.over x );rw [ak h'])
  repeat' (first|simp only [aa,seval,gE]|((with_reducible apply bK);(· rfl)))
  exact h2 (λx=>hp x.pred) _ _ (by decide) z.ao
 (replace z:=z.aj x;replace q0:=q0.over x;rw [ak h'])
 repeat' (first|simp only [aa,seval,gE,q0.lay,y5]|((with_reducible apply bp) <;> intro _)|((with_reducible apply bK);(· rfl)))
 all_goals try exact h2 (λx=>by have:=x.lo;have:=x.hi;omega) _ _ (by decide) z.ao
 have pU:0<=a.n:=by omega
 have pV:a.n<=4:=by omega
 obtain ⟨I1,aU⟩:∃ I:Nat->Env->Heap->Prop,I=(λn e h'=>∃ (i:Nat) (h1:Heap),h'=h1.lay [] h1.low/\Ext h h1/\(n=4 - i/\(i:Int)<=a.n/\(∀ j,j < i->cC (a.arg j))/\Holds h1 (h.size+0) (.row a.cells 41 false))/\∃ J:Nat->ai,e=(J 0::.pointer (some ⟨h.size+0,0,none⟩)::J 2::.int .i64 i::jr J 4 43 ([]))):=⟨_,rfl⟩
 refine dK I1 _ (by rw [aU];exact ⟨0,_,rfl,z,⟨rfl,by omega,λj hj=>by omega,q0⟩,bx⟩) ?_
 intro n e h' aR
 rw [aU] at aR
 obtain ⟨i,b8,rfl,z,hinv,J,rfl⟩:=aR
 clear q0
 obtain ⟨rfl,hi,aq,q0⟩:=hinv
 have j9:=ec i (by omega)
 simp only [aa,seval,gE,q0.lay,y5]
 refine bp (λaS=>?_) (λaS=>?_)
 .have lg:(0:Int)<=(i:Int)/\(i:Int) < 4:=by omega
  have kF:=AF a i (by omega)
  repeat' (simp only [aa,seval,gE,q0.lay,lg,↓kF,FW,Az])
  refine TO _ _ _ (λht h' x=>?_) (λht h' x=>?_)
  ·(replace z:=z.aj x;( replace q0:=q0.over x );rw [ak h'])
   have nB:∀ j,j < i+1->cC (a.arg j):=by
    intro j hj
    by_cases lh:j < i
    .exact aq j lh
    .have:j=i:=by omega
     subst this
     exact ht
   repeat' (first|simp only [aa,seval,gE]|((with_reducible apply bK);(· rfl)))
   rw [j9]
   (rw [aU];with_reducible refine db (m:=_) ?_ ⟨i+1,_,rfl,z,⟨rfl,by omega,nB,q0⟩,bx⟩;omega)
  ·(replace z:=z.aj x;( replace q0:=q0.over x );rw [ak h'])
   repeat' (first|simp only [aa,seval,gE]|((with_reducible apply bK);(· rfl)))
   exact h2 (λx=>ht (x.gY i (by omega))) _ _ (by decide) z.ao
 have aR:a.n=(i:Int):=by omega
 repeat' (simp only [aa,seval,gE,q0.lay,y5])
 rw [aR]
 obtain ⟨I2,fV⟩:∃ I:Nat->Env->Heap->Prop,I=(λn e h'=>∃ (k:Nat) (h1:Heap),h'=h1.lay [] h1.low/\Ext h h1/\(n=4 - k/\i<=k/\k<=4/\(∀ j,i<=j->j < k->a.arg j=aZ)/\Holds h1 (h.size+0) (.row a.cells 41 false))/\∃ J:Nat->ai,e=(J 0::.pointer (some ⟨h.size+0,0,none⟩)::jr J 2 2 (.int .i64 k::jr J 5 42 ([])))):=⟨_,rfl⟩
 refine dK I2 _ (by rw [fV];exact ⟨i,_,rfl,z,⟨rfl,by omega,by omega,λj h1 h2=>by omega,q0⟩,bx⟩) ?_
 intro n e h' aR
 rw [fV] at aR
 obtain ⟨k,fU,rfl,z,hinv,J,rfl⟩:=aR
 clear q0
 obtain ⟨rfl,q8,tM,cq,q0⟩:=hinv
 have pd:=ec k (by omega)
 simp only [aa,seval,gE]
 refine bp (λaS=>?_) (λaS=>?_)
 rotate_left
 .repeat' ( simp only [aa,seval,gE])
  exact h1 ⟨hs,hp,by omega,by omega,λj hj=>aq j (by omega),λj h1 h2=>cq j (by omega) (by omega)⟩ _ z.ao
 have lg:(0:Int)<=(k:Int)/\(k:Int) < 4:=by omega
 have kF:=AF a k (by omega)
 simp only [aa,seval,gE,q0.lay,lg,↓kF,FW,Az,Ug,Nb]
 refine IQ (λaV=>?_) (λheq=>?_)
 .repeat' ( simp only [aa,seval,gE])
  exact h2 (λx=>aV (x.rest k (by omega) (by omega))) _ _ (by decide) z.ao
 .have nB:∀ j,i<=j->j < k+1->a.arg j=aZ:=by
   intro j h1 h2
   by_cases lh:j < k
   .exact cq j h1 lh
   .have:j=k:=by omega
    subst this
    exact heq
  repeat' (simp only [aa,seval,gE])
  rw [pd]
  (rw [fV];with_reducible refine db (m:=_) ?_ ⟨k+1,_,rfl,z,⟨rfl,by omega,by omega,nB,q0⟩,bx⟩;omega)
end Go.Proofs.YtjildadoepadeaaGreatDoor
