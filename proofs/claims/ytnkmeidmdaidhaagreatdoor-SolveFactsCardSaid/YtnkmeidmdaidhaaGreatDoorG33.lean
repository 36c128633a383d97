/- The code of some functions, node by node, for simp. Written by a program (mkcode.py). No condition. -/
import Derived.Test.YtnkmeidmdaidhaaGreatDoorG32
set_option linter.unusedSimpArgs false
set_option linter.unusedVariables false
set_option maxRecDepth 100000
set_option maxHeartbeats 0
noncomputable section
namespace Go.Proofs.YtnkmeidmdaidhaaGreatDoor
open Go.Am Tryz
def ZR:=bI f41
def x41:=PLift.up (by have c:=bM ZR f41;simp only [aO,f41,seval] at c;exact nd c <| nd @uD <| nd @uE <| nd @mJ <| nd @cq <| nd @ui <| @Su)
theorem Gz:type_of% x41.down:=x41.down
def Ix:=bI f107
def LP:=PLift.up (by have c:=bM Ix f107;simp only [aO,f107,seval] at c;exact nd c <| nd @zt <| nd @uD <| nd @ta <| nd @uE <| nd @mJ <| nd @jQ <| nd @cq <| nd @ui <| nd @kp <| @zDB)
theorem lA:type_of% LP.down:=LP.down
def N73:=bI f73
def x73:=PLift.up (by have c:=bM N73 f73;simp only [aO,f73,seval] at c;exact nd c <| nd @cq <| @S2)
theorem c73:type_of% x73.down:=x73.down
def ZQ:=bI f40
def x40:=PLift.up (by have c:=bM ZQ f40;simp only [aO,f40,seval] at c;exact nd c <| nd @vd <| nd @ve <| nd @ig <| nd @xm <| nd @iX <| nd @cq <| nd @kp <| nd @ij <| nd @xp <| @St)
theorem pX:type_of% x40.down:=x40.down
def ZD:=bI f22
def x22:=PLift.up (by have c:=bM ZD f22;simp only [aO,f22,seval] at c;exact nd c <| nd @vd <| nd @ve <| nd @ig <| nd @iX <| nd @cq <| nd @qA <| nd @ij <| @Sc)
theorem yh:type_of% x22.down:=x22.down
def ZE:=bI f23
def x23:=PLift.up (by have c:=bM ZE f23;simp only [aO,f23,seval] at c;exact nd c <| nd @cq <| @Sd)
theorem Jt:type_of% x23.down:=x23.down
def Zy:=bI f11
def LS:=PLift.up (by have c:=bM Zy f11;simp only [aO,f11,seval] at c;exact nd c <| nd @pj <| nd @ig <| nd @cq <| nd @qA <| nd @rR <| nd @ij <| @RX)
theorem vK:type_of% LS.down:=LS.down
theorem zo4 (s:aU) (h:Heap) (K:aJ) (h1:AO s->∀ h',Ext h h'->K (.bool true) h') (h2:¬ AO s->∀ h',Ext h h'->K (.bool false) h'):Ok prog aH ov 131 [.string s] h K:=by
 rw [aw h]
 have z:=Ext.refl h
 refine Ok.aA 40 (bH IW) ?_
 simp only [aa,seval,nx]
 refine bS (λc=>?_) (λc1=>?_)
 .simp only [aa,seval,nx]
  exact h2 (λx=>by have:=x.pos;omega) _ z.av
 simp only [aa,seval,nx]
 refine bS (λc=>?_) (λc2=>?_)
 .simp only [aa,seval,nx]
  exact h2 (λx=>by have:=x.len;omega) _ z.av
 simp only [aa,seval,nx]
 refine FJ underlying9 rfl rfl (by omega) (by omega) ?_
 simp only [aa,seval,nx]
 refine qL (λc=>?_) (λc3=>?_)
 .simp only [aa,seval,nx]
  exact h2 (λx=>x.first (by simpa using c)) _ z.av
 repeat' (simp only [aa,seval,nx])
 obtain ⟨I1,aX⟩:∃ I:Nat->Env->Heap->Prop,I=(λn e h'=>∃ (i:Nat) (h1:Heap),h'=h1.lay [] h1.low/\Ext h h1/\(n=s.size - i/\i<=s.size/\∀ j,j < i->pQ (j5 s j))/\∃ J:Nat->ai,e=(.string s::jr J 1 2 (.int .i64 i::jr J 4 37 ([])))):=⟨_,rfl⟩
 refine dN I1 _ (by rw [aX];exact ⟨0,_,rfl,z,⟨rfl,by omega,λj hj=>by omega⟩,bo⟩) ?_
 intro n e h' aP
 rw [aX] at aP
 obtain ⟨i,bU,rfl,z,hinv,J,rfl⟩:=aP
 obtain ⟨rfl,hi,aB⟩:=hinv
 have hw:=eE i (by omega)
 simp only [aa,seval,nx]
 repeat' ((first|((with_reducible first|apply bS|apply qM) <;> intro _)|with_reducible refine Yk _ _ _ (λ_=>?_) (λ_=>?_)|with_reducible refine zsF _ _ _ (λ_=>?_) (λ_=>?_)|((with_reducible apply FJ);(· exact underlying9);(· rfl);(· rfl);(· omega);(· omega))|((with_reducible apply cf);(· rfl))) <;> simp only [aa,seval,nx,hw])
 all_goals first
  |(with_reducible refine h2 (λx=>?_) _ z.av
    have hx:=x.all i (by omega)
    unfold pQ at hx
    omega)
  |(with_reducible refine h1 ?_ _ z.av
    exact ⟨by omega,by omega,by simpa using c3,λj hj=>aB j (by omega)⟩)
  |(have qp:∀ j,j < i+1->pQ (j5 s j):=by
     intro j hj
     by_cases na:j < i
     .exact aB j na
     .have:j=i:=by omega
      subst this
      unfold pQ
      omega
    (rw [aX];with_reducible refine cF (m:=_) ?_ ⟨i+1,_,rfl,z,⟨rfl,by omega,qp⟩,bo⟩;omega))
theorem zpg (s:aU) (h:Heap) (K:aJ) (h1:qH s->∀ h',Ext h h'->K (.bool true) h') (h2:¬ qH s->∀ h',Ext h h'->K (.bool false) h'):Ok prog aH ov 106 [.string s] h K:=by
 rw [aw h]
 have z:=Ext.refl h
 refine Ok.aA 48 (bH Iw) ?_
 simp only [aa,seval,nv]
 refine bS (λc=>?_) (λc1=>?_)
 .simp only [aa,seval,nv]
  exact h2 (λx=>by have:=x.pos;omega) _ z.av
 simp only [aa,seval,nv]
 refine bS (λc=>?_) (λc2=>?_)
 .simp only [aa,seval,nv]
  exact h2 (λx=>by have:=x.len;omega) _ z.av
 simp only [aa,seval,nv]
 refine FJ underlying9 rfl rfl (by omega) (by omega) ?_
 simp only [aa,seval,nv]
 refine zsG _ _ _ (λcg=>?_) (λcg=>?_)
 rotate_left
 .repeat' (first|simp only [aa,seval,nv]|((with_reducible apply cf);(· rfl)))
  exact h2 (λx=>cg (by simpa using x.first)) _ z.av
 repeat' (first|simp only [aa,seval,nv]|((with_reducible apply cf);(· rfl)))
 obtain ⟨I1,aX⟩:∃ I:Nat->Env->Heap->Prop,I=(λn e h'=>∃ (i:Nat) (h1:Heap),h'=h1.lay [] h1.low/\Ext h h1/\(n=s.size - i/\i<=s.size/\∀ j,j < i->jx (j5 s j))/\∃ J:Nat->ai,e=(.string s::jr J 1 2 (.int .i64 i::jr J 4 45 ([])))):=⟨_,rfl⟩
 refine dN I1 _ (by rw [aX];exact ⟨0,_,rfl,z,⟨rfl,by omega,λj hj=>by omega⟩,bo⟩) ?_
 intro n e h' aP
 rw [aX] at aP
 obtain ⟨i,bU,rfl,z,hinv,J,rfl⟩:=aP
 obtain ⟨rfl,hi,aB⟩:=hinv
 have hw:=eE i (by omega)
 simp only [aa,seval,nv]
 repeat' ((first|((with_reducible first|apply bS|apply qM) <;> intro _)|with_reducible refine Yk _ _ _ (λ_=>?_) (λ_=>?_)|with_reducible refine zsF _ _ _ (λ_=>?_) (λ_=>?_)|with_reducible refine zsG _ _ _ (λ_=>?_) (λ_=>?_)|((with_reducible apply FJ);(· exact underlying9);(· rfl);(· rfl);(· omega);(· omega))|((with_reducible apply cf);(· rfl))) <;> simp only [aa,seval,nv,hw])
 all_goals first
  |(with_reducible refine h2 (λx=>?_) _ z.av
    have hx:=x.all i (by omega)
    unfold jx at hx
    omega)
  |(with_reducible refine h1 ?_ _ z.av
    exact ⟨by omega,by omega,by simpa using cg,λj hj=>aB j (by omega)⟩)
  |(have qp:∀ j,j < i+1->jx (j5 s j):=by
     intro j hj
     by_cases na:j < i
     .exact aB j na
     .have:j=i:=by omega
      subst this
      unfold jx
      omega
    (rw [aX];with_reducible refine cF (m:=_) ?_ ⟨i+1,_,rfl,z,⟨rfl,by omega,qp⟩,bo⟩;omega))
theorem zpd (s:aU) (h:Heap) (K:aJ) (h1:kX s->∀ h',Ext h h'->K (.bool true) h') (h2:¬ kX s->∀ h',Ext h h'->K (.bool false) h'):Ok prog aH ov 132 [.string s] h K:=by
 rw [aw h]
 have z:=Ext.refl h
 unfold kX at h1 h2
 refine Ok.aA 17 (bH IX) ?_
 simp only [aa,seval,DD]
 refine Ok.aA 2 (bH I9) ?_
 simp only [aa,seval,DD,RG]
 repeat' ((first|((with_reducible apply bS) <;> intro _)|with_reducible refine Nd ?_) <;> simp only [aa,seval,DD])
 all_goals first
  |(with_reducible refine h1 ?_ _ z.av
    first
     |exact .inl (by assumption)
     |exact .inr (.inl (by assumption))
     |exact .inr (.inr (.inl (by assumption)))
     |exact .inr (.inr (.inr (.inl (by assumption))))
     |exact .inr (.inr (.inr (.inr (.inl (by assumption)))))
     |exact .inr (.inr (.inr (.inr (.inr (.inl (by assumption))))))
     |exact .inr (.inr (.inr (.inr (.inr (.inr (.inl (by assumption)))))))
     |exact .inr (.inr (.inr (.inr (.inr (.inr (.inr (by assumption))))))))
  |(with_reducible refine h2 ?_ _ z.av
    rintro (e|e|e|e|e|e|e|e) <;> exact absurd e (by assumption))
theorem zo3 (s:aU) (h:Heap) (K:aJ) (h1:cJ s->∀ h',Ext h h'->K (.bool true) h') (h2:¬ cJ s->∀ h',Ext h h'->K (.bool false) h'):Ok prog aH ov 104 [.string s] h K:=by
 rw [aw h]
 have z:=Ext.refl h
 refine Ok.aA 9 (bH Iu) ?_
 simp only [aa,seval,vJ]
 refine zo4 _ _ _ (λhs h' x=>?_) (λhs h' x=>?_)
 ·(replace z:=z.ao x;rw [aw h'])
  simp only [aa,seval,vJ]
  refine zpd _ _ _ (λhr h' x=>?_) (λhr h' x=>?_)
  ·(replace z:=z.ao x;rw [aw h'])
   repeat' (first|simp only [aa,seval,vJ]|((with_reducible apply cf);(· rfl)))
   exact h2 (λx=>x.2 hr) _ z.av
  ·(replace z:=z.ao x;rw [aw h'])
   repeat' (first|simp only [aa,seval,vJ]|((with_reducible apply cf);(· rfl)))
   exact h1 ⟨hs,hr⟩ _ z.av
 ·(replace z:=z.ao x;rw [aw h'])
  simp only [aa,seval,vJ]
  exact h2 (λx=>hs x.1) _ z.av
theorem zsK (s:aU) (h:Heap) (K:aJ) (h1:qK s->∀ h',Ext h h'->K (.bool true) h') (h2:¬ qK s->∀ h',Ext h h'->K (.bool false) h'):Ok prog aH ov 70 [.string s] h K:=by
 rw [aw h]
 have z:=Ext.refl h
 refine Ok.aA 9 (bH N70) ?_
 simp only [aa,seval,GC]
 refine zo3 _ _ _ (λhs h' x=>?_) (λhs h' x=>?_)
 ·(replace z:=z.ao x;rw [aw h'])
  have:=hs.1.pos
  simp only [aa,seval,GC]
  refine FJ underlying9 rfl rfl (by omega) (by omega) ?_
  simp only [aa,seval,GC]
  refine Yk _ _ _ (λcg=>?_) (λcg=>?_)
  .repeat' ( simp only [aa,seval,GC])
   exact h1 ⟨hs,by simpa using cg⟩ _ z.av
  .repeat' ( simp only [aa,seval,GC])
   exact h2 (λx=>cg (by simpa using x.2)) _ z.av
 ·(replace z:=z.ao x;rw [aw h'])
  simp only [aa,seval,GC]
  exact h2 (λx=>hs x.1) _ z.av
theorem zzl (s:aU) (h:Heap) (K:aJ) (h1:qK s->∀ h',Ext h h'->K (.bool true) h') (h2:¬ qK s->∀ h',Ext h h'->K (.bool false) h'):Ok prog aH ov 71 [.string s] h K:=by
 rw [aw h]
 have z:=Ext.refl h
 refine Ok.aA 4 (bH N71) ?_
 simp only [aa,seval,RO]
 refine zsK _ _ _ (λhs h' x=>?_) (λhs h' x=>?_)
 ·(replace z:=z.ao x;rw [aw h'])
  simp only [aa,seval,RO]
  exact h1 hs _ z.av
 ·(replace z:=z.ao x;rw [aw h'])
  simp only [aa,seval,RO]
  exact h2 hs _ z.av
theorem zzn (t:ay) (h:Heap) (K:aJ) (h1:dh t->∀ h',Ext h h'->K (.bool true) h') (h2:¬ dh t->∀ h',Ext h h'->K (.bool false) h'):Ok prog aH ov 72 [t.val] h K:=by
 rw [aw h]
 have z:=Ext.refl h
 rcases t with ⟨tv,ts⟩
 unfold dh at h1 h2
 cases tv
 .refine Ok.aA 10 (bH Rc) ?_
  simp only [aa,seval,Ou,ay.val,ay.cells]
  refine zo3 _ _ _ (λhs h' x=>?_) (λhs h' x=>?_)
  all_goals
   (replace z:=z.ao x;rw [aw h'])
   simp only [aa,seval,Ou]
   first
    |exact h1 hs _ z.av
    |exact h2 hs _ z.av
 .refine Ok.aA 10 (bH Rc) ?_
  simp only [aa,seval,Ou,ay.val,ay.cells]
  refine zpg _ _ _ (λhs h' x=>?_) (λhs h' x=>?_)
  all_goals
   (replace z:=z.ao x;rw [aw h'])
   simp only [aa,seval,Ou]
   first
    |exact h1 hs _ z.av
    |exact h2 hs _ z.av
theorem X6 (a:ae) (h:Heap) (K:aJ) (h1:bg a->∀ h',Ext h h'->K (.int .i64 0) h') (h2:¬ bg a->∀ c h',c≠0->Ext h h'->K (.int .i64 c) h'):Ok prog aH ov 39 [a.val] h K:=by
 rw [aw h]
 have z:=Ext.refl h
 refine Ok.aA 46 (bH ZP) ?_
 repeat' (simp only [aa,seval,rE,gV,zA9])
 refine zsK _ _ _ (λhs h' x=>?_) (λhs h' x=>?_)
 rotate_left
 ·(replace z:=z.ao x;rw [aw h'])
  repeat' (first|simp only [aa,seval,rE]|((with_reducible apply cf);(· rfl)))
  exact h2 (λx=>hs x.says) _ _ (by decide) z.av
 have q0:=Holds.top (i:=0) x rfl
 (replace z:=z.ao x;rw [aw h'])
 repeat' (first|simp only [aa,seval,rE,q0.lay,zBa]|((with_reducible apply cf);(· rfl)))
 refine zzl _ _ _ (λhp h' x=>?_) (λhp h' x=>?_)
 rotate_left
 ·(replace z:=z.ao x;( replace q0:=q0.over x );rw [aw h'])
  repeat' (first|simp only [aa,seval,rE]|((with_reducible apply cf);(· rfl)))
  exact h2 (λx=>hp x.pred) _ _ (by decide) z.av
 (replace z:=z.ao x;replace q0:=q0.over x;rw [aw h'])
 repeat' (first|simp only [aa,seval,rE,q0.lay,Y2]|((with_reducible apply bS) <;> intro _)|((with_reducible apply cf);(· rfl)))
 all_goals try exact h2 (λx=>by have:=x.lo;have:=x.hi;omega) _ _ (by decide) z.av
 have yw:0<=a.n:=by omega
 have Ck:a.n<=4:=by omega
 obtain ⟨I1,aX⟩:∃ I:Nat->Env->Heap->Prop,I=(λn e h'=>∃ (i:Nat) (h1:Heap),h'=h1.lay [] h1.low/\Ext h h1/\(n=4 - i/\(i:Int)<=a.n/\(∀ j,j < i->dh (a.arg j))/\Holds h1 (h.size+0) (.row a.cells 28 false))/\∃ J:Nat->ai,e=(J 0::.pointer (some ⟨h.size+0,0,none⟩)::J 2::.int .i64 i::jr J 4 43 ([]))):=⟨_,rfl⟩
 refine dN I1 _ (by rw [aX];exact ⟨0,_,rfl,z,⟨rfl,by omega,λj hj=>by omega,q0⟩,bo⟩) ?_
 intro n e h' aP
 rw [aX] at aP
 obtain ⟨i,bU,rfl,z,hinv,J,rfl⟩:=aP
 clear q0
 obtain ⟨rfl,hi,aB,q0⟩:=hinv
 have jB:=eE i (by omega)
 simp only [aa,seval,rE,q0.lay,Y2]
 refine bS (λaT=>?_) (λaT=>?_)
 .have tT:(0:Int)<=(i:Int)/\(i:Int) < 4:=by omega
  have jq:=Qn a i (by omega)
  repeat' (simp only [aa,seval,rE,q0.lay,tT,↓jq,XZ,xO])
  refine zzn _ _ _ (λht h' x=>?_) (λht h' x=>?_)
  ·(replace z:=z.ao x;( replace q0:=q0.over x );rw [aw h'])
   have qp:∀ j,j < i+1->dh (a.arg j):=by
    intro j hj
    by_cases na:j < i
    .exact aB j na
    .have:j=i:=by omega
     subst this
     exact ht
   repeat' (first|simp only [aa,seval,rE]|((with_reducible apply cf);(· rfl)))
   rw [jB]
   (rw [aX];with_reducible refine cF (m:=_) ?_ ⟨i+1,_,rfl,z,⟨rfl,by omega,qp,q0⟩,bo⟩;omega)
  ·(replace z:=z.ao x;( replace q0:=q0.over x );rw [aw h'])
   repeat' (first|simp only [aa,seval,rE]|((with_reducible apply cf);(· rfl)))
   exact h2 (λx=>ht (x.fx i (by omega))) _ _ (by decide) z.av
 have aP:a.n=(i:Int):=by omega
 repeat' (simp only [aa,seval,rE,q0.lay,Y2])
 rw [aP]
 obtain ⟨I2,eu⟩:∃ I:Nat->Env->Heap->Prop,I=(λn e h'=>∃ (k:Nat) (h1:Heap),h'=h1.lay [] h1.low/\Ext h h1/\(n=4 - k/\i<=k/\k<=4/\(∀ j,i<=j->j < k->a.arg j=bD)/\Holds h1 (h.size+0) (.row a.cells 28 false))/\∃ J:Nat->ai,e=(J 0::.pointer (some ⟨h.size+0,0,none⟩)::jr J 2 2 (.int .i64 k::jr J 5 42 ([])))):=⟨_,rfl⟩
 refine dN I2 _ (by rw [eu];exact ⟨i,_,rfl,z,⟨rfl,by omega,by omega,λj h1 h2=>by omega,q0⟩,bo⟩) ?_
 intro n e h' aP
 rw [eu] at aP
 obtain ⟨k,dc,rfl,z,hinv,J,rfl⟩:=aP
 clear q0
 obtain ⟨rfl,tR,Ch,fL,q0⟩:=hinv
 have pL:=eE k (by omega)
 simp only [aa,seval,rE]
 refine bS (λaT=>?_) (λaT=>?_)
 rotate_left
 .repeat' ( simp only [aa,seval,rE])
  exact h1 ⟨hs,hp,by omega,by omega,λj hj=>aB j (by omega),λj h1 h2=>fL j (by omega) (by omega)⟩ _ z.av
 have tT:(0:Int)<=(k:Int)/\(k:Int) < 4:=by omega
 have jq:=Qn a k (by omega)
 simp only [aa,seval,rE,q0.lay,tT,↓jq,XZ,xO,zA0,zob]
 refine Bv (λaM=>?_) (λheq=>?_)
 .repeat' ( simp only [aa,seval,rE])
  exact h2 (λx=>aM (x.rest k (by omega) (by omega))) _ _ (by decide) z.av
 .have qp:∀ j,i<=j->j < k+1->a.arg j=bD:=by
   intro j h1 h2
   by_cases na:j < k
   .exact fL j h1 na
   .have:j=k:=by omega
    subst this
    exact heq
  repeat' (simp only [aa,seval,rE])
  rw [pL]
  (rw [eu];with_reducible refine cF (m:=_) ?_ ⟨k+1,_,rfl,z,⟨rfl,by omega,by omega,qp,q0⟩,bo⟩;omega)
end Go.Proofs.YtnkmeidmdaidhaaGreatDoor
namespace Go.Am
open Classical in
def i9 (d:ba) (i k:Nat):ba :=
 match d.calls[i]? with
 |some c=>if k∈c.waiters then d else { d with calls:=d.calls.set i { c with waiters:=c.waiters++[k] } }
 |none=>d
open Classical in
def de (d:ba) (a:ae):ba × Nat × Bool :=
 if ¬ bg a then (d,0,false)
 else if bB a∈d.calls.map aY.atom then (d,xl (bB a) (d.calls.map aY.atom),false)
 else ({ d with calls:=d.calls++[⟨bB a,[],[]⟩] },d.calls.length,true)
open Classical in
def bn (d:ba) (i:Nat) (a:ae):ba × Bool :=
 match d.calls[i]? with
 |some c=>if (bG [] c.atom a).isSome=false\/¬ bg a\/a∈c.answers then (d,false) else ({ d with calls:=d.calls.set i { c with answers:=c.answers++[a] },count:=d.count+1 },true)
 |none=>(d,false)
theorem zv2 (x:cO) (i:Nat) (c:aY) (u:ai):NU { x with vl:=av x.vl (.wa i) u } i c=c.atom.cells++[x.vl (.an i),.map (some (x.pl (.th i))),u]:=by
 show c.atom.cells++[av x.vl (.wa i) u (.an i),.map (some (x.pl (.th i))),av x.vl (.wa i) u (.wa i)]=_
 rw [fF (by simp),kZ]
theorem zv1 (x:cO) (i:Nat) (c:aY) (u:ai):NU { x with vl:=av x.vl (.an i) u } i c=c.atom.cells++[u,.map (some (x.pl (.th i))),x.vl (.wa i)]:=by
 show c.atom.cells++[av x.vl (.an i) u (.an i),.map (some (x.pl (.th i))),av x.vl (.an i) u (.wa i)]=_
 rw [fF (show (Ro.wa i)≠.an i by simp),kZ]
end Go.Am
