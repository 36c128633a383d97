/- The code of some functions, node by node, for simp. Written by a program (mkcode.py). No condition. -/
import Derived.Test.YtmamldleclamjaaGreatDoorG21
set_option linter.unusedSimpArgs false
set_option linter.unusedVariables false
set_option maxRecDepth 100000
set_option maxHeartbeats 0
noncomputable section
namespace Go.Proofs.YtmamldleclamjaaGreatDoor
open Go.Am Tryz
def N99:=bB f99
def x99:=PLift.up (by have c:=bD N99 f99;simp only [aL,f99,seval] at c;exact nd c <| nd @Js <| nd @B6 <| nd @tj <| nd @Gn <| nd @b8 <| @Wx)
theorem HX:type_of% x99.down:=x99.down
def N70:=bB f70
def x70:=PLift.up (by have c:=bD N70 f70;simp only [aL,f70,seval] at c;exact nd c <| nd @uK <| nd @Js <| nd @Hr <| nd @B6 <| nd @tj <| nd @Gn <| nd @q9 <| nd @b8 <| nd @gH <| @V5)
theorem wi:type_of% x70.down:=x70.down
def N95:=bB f95
def x95:=PLift.up (by have c:=bD N95 f95;simp only [aL,f95,seval] at c;exact nd c <| nd @b8 <| @Wt)
theorem c95:type_of% x95.down:=x95.down
theorem zpd (s:au) (h:Heap) (K:aI) (h1:BH s->∀ h',Ext h h'->K (.bool true) h') (h2:¬ BH s->∀ h',Ext h h'->K (.bool false) h'):Ok prog aG ov 148 [.string s] h K:=by
 rw [ao h]
 have z:=Ext.refl h
 refine Ok.aw 40 (bu KA) ?_
 simp only [aa,seval,nV]
 refine bq (λc=>?_) (λc1=>?_)
 .simp only [aa,seval,nV]
  exact h2 (λx=>by have:=x.pos;omega) _ z.aC
 simp only [aa,seval,nV]
 refine bq (λc=>?_) (λc2=>?_)
 .simp only [aa,seval,nV]
  exact h2 (λx=>by have:=x.len;omega) _ z.aC
 simp only [aa,seval,nV]
 refine GZ underlying9 rfl rfl (by omega) (by omega) ?_
 simp only [aa,seval,nV]
 refine qh (λc=>?_) (λc3=>?_)
 .simp only [aa,seval,nV]
  exact h2 (λx=>x.first (by simpa using c)) _ z.aC
 repeat' (simp only [aa,seval,nV])
 obtain ⟨I1,aX⟩:∃ I:Nat->Env->Heap->Prop,I=(λn e h'=>∃ (i:Nat) (h1:Heap),h'=h1.lay [] h1.low/\Ext h h1/\(n=s.size - i/\i<=s.size/\∀ j,j < i->qB (lQ s j))/\∃ J:Nat->ah,e=(.string s::jr J 1 2 (.int .i64 i::jr J 4 37 ([])))):=⟨_,rfl⟩
 refine du I1 _ (by rw [aX];exact ⟨0,_,rfl,z,⟨rfl,by omega,λj hj=>by omega⟩,bm⟩) ?_
 intro n e h' aP
 rw [aX] at aP
 obtain ⟨i,bx,rfl,z,hinv,J,rfl⟩:=aP
 obtain ⟨rfl,hi,aE⟩:=hinv
 have hw:=ei i (by omega)
 simp only [aa,seval,nV]
 repeat' ((first|((with_reducible first|apply bq|apply iS) <;> intro _)|with_reducible refine znb _ _ _ (λ_=>?_) (λ_=>?_)|with_reducible refine zsB _ _ _ (λ_=>?_) (λ_=>?_)|((with_reducible apply GZ);(· exact underlying9);(· rfl);(· rfl);(· omega);(· omega))|((with_reducible apply ct);(· rfl))) <;> simp only [aa,seval,nV,hw])
 all_goals first
  |(with_reducible refine h2 (λx=>?_) _ z.aC
    have hx:=x.all i (by omega)
    unfold qB at hx
    omega)
  |(with_reducible refine h1 ?_ _ z.aC
    exact ⟨by omega,by omega,by simpa using c3,λj hj=>aE j (by omega)⟩)
  |(have yi:∀ j,j < i+1->qB (lQ s j):=by
     intro j hj
     by_cases lx:j < i
     .exact aE j lx
     .have:j=i:=by omega
      subst this
      unfold qB
      omega
    (rw [aX];with_reducible refine cy (m:=_) ?_ ⟨i+1,_,rfl,z,⟨rfl,by omega,yi⟩,bm⟩;omega))
theorem zpo (s:au) (h:Heap) (K:aI) (h1:vF s->∀ h',Ext h h'->K (.bool true) h') (h2:¬ vF s->∀ h',Ext h h'->K (.bool false) h'):Ok prog aG ov 162 [.string s] h K:=by
 rw [ao h]
 have z:=Ext.refl h
 refine Ok.aw 48 (bu KH) ?_
 simp only [aa,seval,nW]
 refine bq (λc=>?_) (λc1=>?_)
 .simp only [aa,seval,nW]
  exact h2 (λx=>by have:=x.pos;omega) _ z.aC
 simp only [aa,seval,nW]
 refine bq (λc=>?_) (λc2=>?_)
 .simp only [aa,seval,nW]
  exact h2 (λx=>by have:=x.len;omega) _ z.aC
 simp only [aa,seval,nW]
 refine GZ underlying9 rfl rfl (by omega) (by omega) ?_
 simp only [aa,seval,nW]
 refine zsD _ _ _ (λcg=>?_) (λcg=>?_)
 rotate_left
 .repeat' (first|simp only [aa,seval,nW]|((with_reducible apply ct);(· rfl)))
  exact h2 (λx=>cg (by simpa using x.first)) _ z.aC
 repeat' (first|simp only [aa,seval,nW]|((with_reducible apply ct);(· rfl)))
 obtain ⟨I1,aX⟩:∃ I:Nat->Env->Heap->Prop,I=(λn e h'=>∃ (i:Nat) (h1:Heap),h'=h1.lay [] h1.low/\Ext h h1/\(n=s.size - i/\i<=s.size/\∀ j,j < i->k9 (lQ s j))/\∃ J:Nat->ah,e=(.string s::jr J 1 2 (.int .i64 i::jr J 4 45 ([])))):=⟨_,rfl⟩
 refine du I1 _ (by rw [aX];exact ⟨0,_,rfl,z,⟨rfl,by omega,λj hj=>by omega⟩,bm⟩) ?_
 intro n e h' aP
 rw [aX] at aP
 obtain ⟨i,bx,rfl,z,hinv,J,rfl⟩:=aP
 obtain ⟨rfl,hi,aE⟩:=hinv
 have hw:=ei i (by omega)
 simp only [aa,seval,nW]
 repeat' ((first|((with_reducible first|apply bq|apply iS) <;> intro _)|with_reducible refine znb _ _ _ (λ_=>?_) (λ_=>?_)|with_reducible refine zsB _ _ _ (λ_=>?_) (λ_=>?_)|with_reducible refine zsD _ _ _ (λ_=>?_) (λ_=>?_)|((with_reducible apply GZ);(· exact underlying9);(· rfl);(· rfl);(· omega);(· omega))|((with_reducible apply ct);(· rfl))) <;> simp only [aa,seval,nW,hw])
 all_goals first
  |(with_reducible refine h2 (λx=>?_) _ z.aC
    have hx:=x.all i (by omega)
    unfold k9 at hx
    omega)
  |(with_reducible refine h1 ?_ _ z.aC
    exact ⟨by omega,by omega,by simpa using cg,λj hj=>aE j (by omega)⟩)
  |(have yi:∀ j,j < i+1->k9 (lQ s j):=by
     intro j hj
     by_cases lx:j < i
     .exact aE j lx
     .have:j=i:=by omega
      subst this
      unfold k9
      omega
    (rw [aX];with_reducible refine cy (m:=_) ?_ ⟨i+1,_,rfl,z,⟨rfl,by omega,yi⟩,bm⟩;omega))
theorem zpn (s:au) (h:Heap) (K:aI) (h1:oA s->∀ h',Ext h h'->K (.bool true) h') (h2:¬ oA s->∀ h',Ext h h'->K (.bool false) h'):Ok prog aG ov 149 [.string s] h K:=by
 rw [ao h]
 have z:=Ext.refl h
 unfold oA at h1 h2
 refine Ok.aw 17 (bu KB) ?_
 simp only [aa,seval,Eu]
 refine Ok.aw 2 (bu KG) ?_
 simp only [aa,seval,Eu,UI]
 repeat' ((first|((with_reducible apply bq) <;> intro _)|with_reducible refine P6 ?_) <;> simp only [aa,seval,Eu])
 all_goals first
  |(with_reducible refine h1 ?_ _ z.aC
    first
     |exact .inl (by assumption)
     |exact .inr (.inl (by assumption))
     |exact .inr (.inr (.inl (by assumption)))
     |exact .inr (.inr (.inr (.inl (by assumption))))
     |exact .inr (.inr (.inr (.inr (.inl (by assumption)))))
     |exact .inr (.inr (.inr (.inr (.inr (.inl (by assumption))))))
     |exact .inr (.inr (.inr (.inr (.inr (.inr (.inl (by assumption)))))))
     |exact .inr (.inr (.inr (.inr (.inr (.inr (.inr (by assumption))))))))
  |(with_reducible refine h2 ?_ _ z.aC
    rintro (e|e|e|e|e|e|e|e) <;> exact absurd e (by assumption))
theorem zpc (s:au) (h:Heap) (K:aI) (h1:gd s->∀ h',Ext h h'->K (.bool true) h') (h2:¬ gd s->∀ h',Ext h h'->K (.bool false) h'):Ok prog aG ov 126 [.string s] h K:=by
 rw [ao h]
 have z:=Ext.refl h
 refine Ok.aw 9 (bu Kh) ?_
 simp only [aa,seval,xj]
 refine zpd _ _ _ (λhs h' x=>?_) (λhs h' x=>?_)
 ·(replace z:=z.an x;rw [ao h'])
  simp only [aa,seval,xj]
  refine zpn _ _ _ (λhr h' x=>?_) (λhr h' x=>?_)
  ·(replace z:=z.an x;rw [ao h'])
   repeat' (first|simp only [aa,seval,xj]|((with_reducible apply ct);(· rfl)))
   exact h2 (λx=>x.2 hr) _ z.aC
  ·(replace z:=z.an x;rw [ao h'])
   repeat' (first|simp only [aa,seval,xj]|((with_reducible apply ct);(· rfl)))
   exact h1 ⟨hs,hr⟩ _ z.aC
 ·(replace z:=z.an x;rw [ao h'])
  simp only [aa,seval,xj]
  exact h2 (λx=>hs x.1) _ z.aC
theorem zna (s:au) (h:Heap) (K:aI) (h1:jZ s->∀ h',Ext h h'->K (.bool true) h') (h2:¬ jZ s->∀ h',Ext h h'->K (.bool false) h'):Ok prog aG ov 90 [.string s] h K:=by
 rw [ao h]
 have z:=Ext.refl h
 refine Ok.aw 9 (bu N90) ?_
 simp only [aa,seval,HW]
 refine zpc _ _ _ (λhs h' x=>?_) (λhs h' x=>?_)
 ·(replace z:=z.an x;rw [ao h'])
  have:=hs.1.pos
  simp only [aa,seval,HW]
  refine GZ underlying9 rfl rfl (by omega) (by omega) ?_
  simp only [aa,seval,HW]
  refine znb _ _ _ (λcg=>?_) (λcg=>?_)
  .repeat' ( simp only [aa,seval,HW])
   exact h1 ⟨hs,by simpa using cg⟩ _ z.aC
  .repeat' ( simp only [aa,seval,HW])
   exact h2 (λx=>cg (by simpa using x.2)) _ z.aC
 ·(replace z:=z.an x;rw [ao h'])
  simp only [aa,seval,HW]
  exact h2 (λx=>hs x.1) _ z.aC
theorem zsG (s:au) (h:Heap) (K:aI) (h1:jZ s->∀ h',Ext h h'->K (.bool true) h') (h2:¬ jZ s->∀ h',Ext h h'->K (.bool false) h'):Ok prog aG ov 91 [.string s] h K:=by
 rw [ao h]
 have z:=Ext.refl h
 refine Ok.aw 4 (bu N91) ?_
 simp only [aa,seval,UL]
 refine zna _ _ _ (λhs h' x=>?_) (λhs h' x=>?_)
 ·(replace z:=z.an x;rw [ao h'])
  simp only [aa,seval,UL]
  exact h1 hs _ z.aC
 ·(replace z:=z.an x;rw [ao h'])
  simp only [aa,seval,UL]
  exact h2 hs _ z.aC
theorem zzu (t:aZ) (h:Heap) (K:aI) (h1:dt t->∀ h',Ext h h'->K (.bool true) h') (h2:¬ dt t->∀ h',Ext h h'->K (.bool false) h'):Ok prog aG ov 150 [t.val] h K:=by
 rw [ao h]
 have z:=Ext.refl h
 rcases t with ⟨tv,ts⟩
 unfold dt at h1 h2
 cases tv
 .refine Ok.aw 10 (bu D9) ?_
  simp only [aa,seval,AL,aZ.val,aZ.cells]
  refine zpc _ _ _ (λhs h' x=>?_) (λhs h' x=>?_)
  all_goals
   (replace z:=z.an x;rw [ao h'])
   simp only [aa,seval,AL]
   first
    |exact h1 hs _ z.aC
    |exact h2 hs _ z.aC
 .refine Ok.aw 10 (bu D9) ?_
  simp only [aa,seval,AL,aZ.val,aZ.cells]
  refine zpo _ _ _ (λhs h' x=>?_) (λhs h' x=>?_)
  all_goals
   (replace z:=z.an x;rw [ao h'])
   simp only [aa,seval,AL]
   first
    |exact h1 hs _ z.aC
    |exact h2 hs _ z.aC
end Go.Proofs.YtmamldleclamjaaGreatDoor

namespace Go.Proofs.YtmamldleclamjaaGreatDoor
open Go.Am Tryz
theorem Qo (a:Int):jf prog (Next.value <$> convert 3 169 (.int .i64 a))=some (Next.value (.int .u64 (IntKind.u64.wrap a))):=by rfl
theorem Qp (a:Int):jf prog (Next.value <$> convert 169 3 (.int .u64 a))=some (Next.value (.int .i64 (IntKind.i64.wrap a))):=by rfl
theorem Qi {T:bO} {t:TypeId} {k kd:IntKind} {a b:Int} (hb:¬ b < 0):cm prog T .shr t (.int k a) (.int kd b)=some (.int k (a.fdiv (2 ^ (min b.toNat k.bits)))):=by
 have h1:((T.desc t).bind λd=>DV d (.int k a) (.int kd b))=none:=by
  cases T.desc t with
  |none=>rfl
  |some d=>cases d <;> rfl
 have h2:jf prog (binOp .shr t (.int k a) (.int kd b))=some (.int k (a.fdiv (2 ^ (min b.toNat k.bits)))):=by
  simp [binOp,Op.shift,hb,Ad]
 unfold cm
 have hf:r8 .shr (.int k a) (.int kd b)=none:=rfl
 rw [hf]
 simp [h1,h2]
 exact ⟨⟨rfl,rfl⟩,rfl⟩
theorem Ah {d} {s t ty:TypeId} {x:Operand} {pos af g} {kk:IntKind} {a:Int} {v:ah} {e:Env} {h:Heap} {K:aI} (hs:ur aG s=false) (ht:ur aG t=false) (hx:bz e x=.int kk a) (hc:jf prog (Next.value <$> convert s t (.int kk a))=some (Next.value v)) (hv:plain v=true):cS prog aG ov ⟨d,.convert s t x,ty,pos,af,g⟩ e h K=K v h:=by
 rw [zp0 d ty pos af g e h K s t x hs ht]
 have hp:iZ prog e ⟨d,.convert s t x,ty,pos,af,g⟩ h=some (v,h):=by
  unfold iZ
  simp [Op.operands,hx,execOp]
  refine ⟨rfl,?_⟩
  rw [hc]
  simp [hv]
 rw [hp]
 rfl
end Go.Proofs.YtmamldleclamjaaGreatDoor
namespace Go.Proofs.YtmamldleclamjaaGreatDoor
open Go.Am
theorem zyH (a:aZ):cut a.cells 0 2=some a.cells:=rfl
theorem zyx (a:aZ):Value.agg a.cells.toArray=a.val:=rfl
end Go.Proofs.YtmamldleclamjaaGreatDoor
namespace Go.Proofs.YtmamldleclamjaaGreatDoor
open Go.Am Tryz
def J8:=bB f117
def Oj:=PLift.up (by have c:=bD J8 f117;simp only [aL,f117,seval] at c;exact nd c <| @zEb)
theorem Lb:type_of% Oj.down:=Oj.down
def KL:=bB f174
def Pf:=PLift.up (by have c:=bD KL f174;simp only [aL,f174,seval] at c;exact nd c <| @zEU)
theorem Lm:type_of% Pf.down:=Pf.down
def Kw:=bB f144
def OS:=PLift.up (by have c:=bD Kw f144;simp only [aL,f144,seval] at c;exact nd c <| @zEA)
theorem Li:type_of% OS.down:=OS.down
def J9:=bB f118
def Ol:=PLift.up (by have c:=bD J9 f118;simp only [aL,f118,seval] at c;exact nd c <| @zEc)
theorem sF:type_of% Ol.down:=Ol.down
def J7:=bB f116
def Oi:=PLift.up (by have c:=bD J7 f116;simp only [aL,f116,seval] at c;exact nd c <| nd @BG <| @zEa)
theorem kO:type_of% Oi.down:=Oi.down
def Kx:=bB f145
def OT:=PLift.up (by have c:=bD Kx f145;simp only [aL,f145,seval] at c;exact nd c <| @zEB)
theorem Lj:type_of% OT.down:=OT.down
def Ka:=bB f119
def Om:=PLift.up (by have c:=bD Ka f119;simp only [aL,f119,seval] at c;exact nd c <| @zEd)
theorem AF:type_of% Om.down:=Om.down
def N80:=bB f80
def x80:=PLift.up (by have c:=bD N80 f80;simp only [aL,f80,seval] at c;exact nd c <| @We)
theorem Lq:type_of% x80.down:=x80.down
def N81:=bB f81
def x81:=PLift.up (by have c:=bD N81 f81;simp only [aL,f81,seval] at c;exact nd c <| @Wf)
theorem UK:type_of% x81.down:=x81.down
def KJ:=bB f164
def Pa:=PLift.up (by have c:=bD KJ f164;simp only [aL,f164,seval] at c;exact nd c <| @zEQ)
theorem xl:type_of% Pa.down:=Pa.down
def KN:=bB f176
def Ph:=PLift.up (by have c:=bD KN f176;simp only [aL,f176,seval] at c;exact nd c <| @zEW)
theorem xo:type_of% Ph.down:=Ph.down
def KI:=bB f163
def O9:=PLift.up (by have c:=bD KI f163;simp only [aL,f163,seval] at c;exact nd c <| @zEP)
theorem Ew:type_of% O9.down:=O9.down
def KM:=bB f175
def Pg:=PLift.up (by have c:=bD KM f175;simp only [aL,f175,seval] at c;exact nd c <| @zEV)
theorem xm:type_of% Pg.down:=Pg.down
def Kb:=bB f120
def Oo:=PLift.up (by have c:=bD Kb f120;simp only [aL,f120,seval] at c;exact nd c <| @zEe)
theorem Ep:type_of% Oo.down:=Oo.down
def Ky:=bB f146
def OU:=PLift.up (by have c:=bD Ky f146;simp only [aL,f146,seval] at c;exact nd c <| nd @kx <| nd @gH <| nd @ky <| @zEC)
theorem AK:type_of% OU.down:=OU.down
def Ea:=bB f153
def O2:=PLift.up (by have c:=bD Ea f153;simp only [aL,f153,seval] at c;exact nd c <| nd @Js <| nd @Hr <| nd @Gn <| nd @gH <| @zEJ)
theorem AM:type_of% O2.down:=O2.down
def Kq:=bB f134
def OJ:=PLift.up (by have c:=bD Kq f134;simp only [aL,f134,seval] at c;exact nd c <| nd @Ek <| nd @vV <| nd @Hs <| nd @DK <| nd @B6 <| nd @T6 <| nd @nj <| nd @q9 <| nd @b8 <| nd @gH <| nd @TZ <| @zEs)
theorem mV:type_of% OJ.down:=OJ.down
def KD:=bB f152
def O1:=PLift.up (by have c:=bD KD f152;simp only [aL,f152,seval] at c;exact nd c <| nd @q9 <| @zEI)
theorem Ev:type_of% O1.down:=O1.down
def Ke:=bB f123
def Ou:=PLift.up (by have c:=bD Ke f123;simp only [aL,f123,seval] at c;exact nd c <| nd @b8 <| @zEh)
theorem Ld:type_of% Ou.down:=Ou.down
def Ud:=bB f96
def x96:=PLift.up (by have c:=bD Ud f96;simp only [aL,f96,seval] at c;exact nd c <| nd @Ek <| nd @uK <| nd @Js <| nd @Hr <| nd @T6 <| nd @Gn <| nd @q9 <| nd @b8 <| nd @gH <| nd @TZ <| @Wu)
theorem ql:type_of% x96.down:=x96.down
end Go.Proofs.YtmamldleclamjaaGreatDoor
