/- The code of some functions, node by node, for simp. Written by a program (mkcode.py). No condition. -/
import Derived.Test.YtkgojconmeeegaaGreatDoorG22
set_option linter.unusedSimpArgs false
set_option linter.unusedVariables false
set_option maxRecDepth 100000
set_option maxHeartbeats 0
noncomputable section
namespace Go.Proofs.YtkgojconmeeegaaGreatDoor
open Go.Am Tryz
def Li:=bp f181
def Qc:=PLift.up (by have c:=bq Li f181;simp only [aI,f181,seval] at c;exact nd c <| @zFZ)
theorem Mj:type_of% Qc.down:=Qc.down
def LS:=bp f230
def QR:=PLift.up (by have c:=bq LS f230;simp only [aI,f230,seval] at c;exact nd c <| @zGG)
theorem Ms:type_of% QR.down:=QR.down
def LD:=bp f209
def QC:=PLift.up (by have c:=bq LD f209;simp only [aI,f209,seval] at c;exact nd c <| @zGs)
theorem Mo:type_of% QC.down:=QC.down
def Lj:=bp f182
def Qd:=PLift.up (by have c:=bq Lj f182;simp only [aI,f182,seval] at c;exact nd c <| @zF4)
theorem tj:type_of% Qd.down:=Qd.down
def Lh:=bp f180
def Qb:=PLift.up (by have c:=bq Lh f180;simp only [aI,f180,seval] at c;exact nd c <| nd @Al <| @zFY)
theorem kP:type_of% Qb.down:=Qb.down
def LF:=bp f210
def QE:=PLift.up (by have c:=bq LF f210;simp only [aI,f210,seval] at c;exact nd c <| @zGt)
theorem Mp:type_of% QE.down:=QE.down
def Lk:=bp f183
def Qe:=PLift.up (by have c:=bq Lk f183;simp only [aI,f183,seval] at c;exact nd c <| @zF5)
theorem Bj:type_of% Qe.down:=Qe.down
def KM:=bp f141
def PB:=PLift.up (by have c:=bq KM f141;simp only [aI,f141,seval] at c;exact nd c <| @zFr)
theorem xB:type_of% PB.down:=PB.down
def KN:=bp f142
def PC:=PLift.up (by have c:=bq KN f142;simp only [aI,f142,seval] at c;exact nd c <| @zFs)
theorem Fj:type_of% PC.down:=PC.down
def LM:=bp f221
def QL:=PLift.up (by have c:=bq LM f221;simp only [aI,f221,seval] at c;exact nd c <| @zGA)
theorem xF:type_of% QL.down:=QL.down
def LV:=bp f232
def QT:=PLift.up (by have c:=bq LV f232;simp only [aI,f232,seval] at c;exact nd c <| @zGI)
theorem xI:type_of% QT.down:=QT.down
def LL:=bp f220
def QK:=PLift.up (by have c:=bq LL f220;simp only [aI,f220,seval] at c;exact nd c <| @zGz)
theorem Fs:type_of% QK.down:=QK.down
def LU:=bp f231
def QS:=PLift.up (by have c:=bq LU f231;simp only [aI,f231,seval] at c;exact nd c <| @zGH)
theorem xH:type_of% QS.down:=QS.down
def Vl:=bp f44
def x44:=PLift.up (by have c:=bq Vl f44;simp only [aI,f44,seval] at c;exact nd c <| @WM)
theorem It:type_of% x44.down:=x44.down
def Vo:=bp f77
def x77:=PLift.up (by have c:=bq Vo f77;simp only [aI,f77,seval] at c;exact nd c <| nd @kx <| nd @eC <| nd @ky <| @Xg)
theorem Bq:type_of% x77.down:=x77.down
def E9:=bp f198
def Qs:=PLift.up (by have c:=bq E9 f198;simp only [aI,f198,seval] at c;exact nd c <| nd @tY <| nd @qM <| nd @sB <| nd @eC <| @zGj)
theorem Bn:type_of% Qs.down:=Qs.down
def K6:=bp f162
def PW:=PLift.up (by have c:=bq K6 f162;simp only [aI,f162,seval] at c;exact nd c <| nd @lG <| nd @sR <| nd @CY <| nd @w9 <| nd @zD <| nd @Vg <| nd @lx <| nd @jA <| nd @bP <| nd @eC <| nd @Vi <| @zFN)
theorem nc:type_of% PW.down:=PW.down
def Lt:=bp f197
def Qr:=PLift.up (by have c:=bq Lt f197;simp only [aI,f197,seval] at c;exact nd c <| nd @jA <| @zGi)
theorem Fo:type_of% Qr.down:=Qr.down
def Ln:=bp f186
def Qh:=PLift.up (by have c:=bq Ln f186;simp only [aI,f186,seval] at c;exact nd c <| nd @bP <| @zF8)
theorem Ml:type_of% Qh.down:=Qh.down
def E5:=bp f120
def Pp:=PLift.up (by have c:=bq E5 f120;simp only [aI,f120,seval] at c;exact nd c <| nd @lG <| nd @u9 <| nd @tY <| nd @qM <| nd @Vg <| nd @jA <| nd @bP <| nd @sB <| nd @eC <| nd @Vi <| @zFh)
theorem iV:type_of% Pp.down:=Pp.down
end Go.Proofs.YtkgojconmeeegaaGreatDoor
namespace Go.Am
variable {s:aB}
theorem bl.ext {g:Nat} {h h':Heap} (s:bl g h) (x:Ext h h'):bl g h':=Holds.ext s x
theorem bl.lay {g:Nat} {h:Heap} (s:bl g h) (bs:List bh) (w:Nat):bl g (h.lay bs w):=Holds.on s bs w
def eO:List aB:=[⟨#[115,97,121,115]⟩,⟨#[105,102]⟩,⟨#[99,97,110,115,97,121]⟩,⟨#[112,114,105,110,99,105,112,97,108]⟩,⟨#[112,114,101,100]⟩,⟨#[99,108,101,97,114]⟩,⟨#[113,117,111,116,97]⟩,⟨#[98,117,100,103,101,116]⟩]
theorem zAB:tN s↔s∈eO:=by
 unfold tN eO
 simp only [dG,xk,or_false,eq_comm (a:=s)]
def nK:aB:=⟨#[115,97,121,115,32,105,102,32,99,97,110,115,97,121,32,112,114,105,110,99,105,112,97,108,32,112,114,101,100,32,99,108,101,97,114,32,113,117,111,116,97,32,98,117,100,103,101,116]⟩
theorem ziA:uO nK.data.toList=eO.map Value.string:=by kernel_rfl
theorem zxd {g st:Nat} {h:Heap} (hs:bl g h):HH g st [.string nK] h=some (.slice (some ⟨h.size,0,none⟩) 8 8,h.push (.row (eO.map Value.string) st false)):=by
 unfold HH
 simp only
 rw [hs.get]
 simp only
 have e1:(uO nK.data.toList).length=8:=by rw [ziA];rfl
 rw [aE (by
  rw [e1]
  have h1:nK.data.toList.all (λb=>Nat.blt b.toNat 128)=true:=by kernel_rfl
  have h2:Nat.blt nK.size 4294967281=true:=by kernel_rfl
  have h3:Nat.beq wP wP=true:=Nat.beq_refl _
  rw [h1,h2,h3]
  rfl),e1,ziA]
theorem zAP {h:Heap} {st:TypeId} {w:Nat}:Sl aJ.str (h.push (.row (eO.map Value.string) st false)) (.slice (some ⟨h.size,0,none⟩) 8 8) eO:=by
 refine .inr ⟨h.size,0,8,eO.map Value.string,st,false,rfl,(by show 8<=maxLen;decide),.inl ⟨by decide,bo _⟩,by rw [Heap.size_push];omega,by rw [Heap.bx,aE rfl],λi x hx=>?_⟩
 refine ⟨[.string x],?_,rfl⟩
 have hi:i < 8:=(dz.1 hx).1
 have:i=0\/i=1\/i=2\/i=3\/i=4\/i=5\/i=6\/i=7:=by omega
 rcases this with rfl|rfl|rfl|rfl|rfl|rfl|rfl|rfl <;> (cases hx;rfl)
structure ji (first more:Int->Prop) (s:aB):Prop where
 pos:1<=s.size
 len:s.size<=255
 first:first (lW s 0)
 more:∀ i,1<=i->i < s.size->more (lW s i)
def zy (c:Int):Prop:=97<=c/\c<=122
def H3 (c:Int):Prop:=65<=c/\c<=90
def EG (c:Int):Prop:=48<=c/\c<=57
theorem zyx:qQ s↔ji zy rZ s/\¬ tN s:=by
 constructor
 .rintro ⟨⟨h,hr⟩,hs⟩
  exact ⟨⟨h.pos,h.len,hs,λi _ hi=>h.all i hi⟩,hr⟩
 .rintro ⟨h,hr⟩
  have hf:=h.first
  unfold zy at hf
  refine ⟨⟨⟨h.pos,h.len,by omega,λi hi=>?_⟩,hr⟩,hf⟩
  by_cases ru:i=0
  .subst ru
   exact .inl hf
  .exact h.more i (by omega) hi
theorem zur:ki s↔ji (λc=>zy c\/EG c) rZ s/\¬ tN s:=by
 constructor
 .rintro ⟨h,hr⟩
  refine ⟨⟨h.pos,h.len,?_,λi _ hi=>h.all i hi⟩,hr⟩
  have h0:=h.all 0 h.pos
  have h1:=h.first
  unfold rZ at h0
  rcases h0 with h0|h0|h0
  .exact .inl h0
  .exact .inr h0
  .exact absurd h0 h1
 .rintro ⟨h,hr⟩
  have hf:=h.first
  unfold zy EG at hf
  refine ⟨⟨h.pos,h.len,by omega,λi hi=>?_⟩,hr⟩
  by_cases ru:i=0
  .subst ru
   rcases hf with hf|hf
   .exact .inl hf
   .exact .inr (.inl hf)
  .exact h.more i (by omega) hi
theorem zBd:CB s↔ji H3 lT s:=by
 constructor
 .intro h
  exact ⟨h.pos,h.len,h.first,λi _ hi=>h.all i hi⟩
 .intro h
  refine ⟨h.pos,h.len,h.first,λi hi=>?_⟩
  by_cases ru:i=0
  .subst ru
   exact .inr (.inl h.first)
  .exact h.more i (by omega) hi
end Go.Am
namespace Go.Proofs.YtkgojconmeeegaaGreatDoor
open Go.Am Tryz
theorem zjN (c:Int) (h:Heap) (K:aG) (h1:zy c->K (.bool true) h) (h2:¬ zy c->K (.bool false) h):Ok prog aA ov 181 [.int .u8 c] h K:=by
 unfold zy at h1 h2
 refine Ok.aq 8 (bm Li) ?_
 simp only [aa,seval,Mj]
 repeat' (refine bg (λc=>?_) (λc=>?_) <;> simp only [aa,seval,Mj])
 all_goals first|exact h1 (by omega)|exact h2 (by omega)
theorem zpC (c:Int) (h:Heap) (K:aG) (h1:H3 c->K (.bool true) h) (h2:¬ H3 c->K (.bool false) h):Ok prog aA ov 230 [.int .u8 c] h K:=by
 unfold H3 at h1 h2
 refine Ok.aq 8 (bm LS) ?_
 simp only [aa,seval,Ms]
 repeat' (refine bg (λc=>?_) (λc=>?_) <;> simp only [aa,seval,Ms])
 all_goals first|exact h1 (by omega)|exact h2 (by omega)
theorem zpA (c:Int) (h:Heap) (K:aG) (h1:EG c->K (.bool true) h) (h2:¬ EG c->K (.bool false) h):Ok prog aA ov 209 [.int .u8 c] h K:=by
 unfold EG at h1 h2
 refine Ok.aq 8 (bm LD) ?_
 simp only [aa,seval,Mo]
 repeat' (refine bg (λc=>?_) (λc=>?_) <;> simp only [aa,seval,Mo])
 all_goals first|exact h1 (by omega)|exact h2 (by omega)
theorem zrW (c:Int) (h:Heap) (K:aG) (h1:rZ c->K (.bool true) h) (h2:¬ rZ c->K (.bool false) h):Ok prog aA ov 182 [.int .u8 c] h K:=by
 unfold rZ at h1 h2
 refine Ok.aq 12 (bm Lj) ?_
 simp only [aa,seval,tj]
 refine zjN c _ _ (λg1=>?_) (λg1=>?_)
 .simp only [aa,seval,tj]
  exact h1 (.inl g1)
 simp only [aa,seval,tj]
 refine zpA c _ _ (λg2=>?_) (λg2=>?_)
 .simp only [aa,seval,tj]
  exact h1 (.inr (.inl g2))
 simp only [aa,seval,tj]
 refine lz (λg3=>?_) (λg3=>?_)
 .simp only [aa,seval,tj]
  exact h1 (.inr (.inr g3))
 .simp only [aa,seval,tj]
  exact h2 (λg=>g.elim g1 (λg=>g.elim g2 g3))
theorem zva (c:Int) (h:Heap) (K:aG) (h1:(zy c\/EG c)->K (.bool true) h) (h2:¬ (zy c\/EG c)->K (.bool false) h):Ok prog aA ov 232 [.int .u8 c] h K:=by
 refine Ok.aq 8 (bm LV) ?_
 simp only [aa,seval,xI]
 refine zjN c _ _ (λg1=>?_) (λg1=>?_)
 .simp only [aa,seval,xI]
  exact h1 (.inl g1)
 simp only [aa,seval,xI]
 refine zpA c _ _ (λg2=>?_) (λg2=>?_)
 .simp only [aa,seval,xI]
  exact h1 (.inr g2)
 .simp only [aa,seval,xI]
  exact h2 (λg=>g.elim g1 g2)
theorem zAp (c:Int) (h:Heap) (K:aG) (h1:lT c->K (.bool true) h) (h2:¬ lT c->K (.bool false) h):Ok prog aA ov 231 [.int .u8 c] h K:=by
 refine Ok.aq 8 (bm LU) ?_
 simp only [aa,seval,xH]
 refine zrW c _ _ (λg1=>?_) (λg1=>?_)
 .simp only [aa,seval,xH]
  exact h1 (by unfold rZ at g1;unfold lT;omega)
 simp only [aa,seval,xH]
 refine zpC c _ _ (λg2=>?_) (λg2=>?_)
 .simp only [aa,seval,xH]
  exact h1 (by unfold H3 at g2;unfold lT;omega)
 .simp only [aa,seval,xH]
  exact h2 (by unfold rZ at g1;unfold H3 at g2;unfold lT;omega)
theorem zgE (s:aB) (f1 f2:ae) (p1 p2:Int->Prop) (h:Heap) (Nl:∀ (c:Int) (hc:Heap) (K:aG),(p1 c->K (.bool true) hc)->(¬ p1 c->K (.bool false) hc)->pw prog aA ov [.int .u8 c] hc K f1) (hf2:∀ (c:Int) (hc:Heap) (K:aG),(p2 c->K (.bool true) hc)->(¬ p2 c->K (.bool false) hc)->pw prog aA ov [.int .u8 c] hc K f2)
 (K:aG) (oZ:ji p1 p2 s->∀ h',Ext h h'->K (.bool true) h') (iJ:¬ ji p1 p2 s->∀ h',Ext h h'->K (.bool false) h'):Ok prog aA ov 180 [.string s,f1,f2] h K:=by
 rw [ao h]
 have z:=Ext.refl h
 refine Ok.aq 31 (bm Lh) ?_
 simp only [aa,seval,kP]
 refine bg (λhe=>?_) (λhe=>?_)
 .simp only [aa,seval,kP]
  exact iJ (λx=>by have:=x.pos;rw [he] at this;exact absurd this (by decide)) _ z.au
 have jS:1<=s.size:=by
  apply Nat.lt_of_not_le
  intro hh
  apply he
  apply AF
  have h0:s.size=0:=by omega
  have:s.data.toList.length=0:=by rw [qR];exact h0
  rw [zG.1 this]
 simp only [aa,seval,kP]
 refine bg (λhl=>?_) (λhl=>?_)
 .simp only [aa,seval,kP]
  exact iJ (λx=>by have:=x.len;omega) _ z.au
 simp only [aa,seval,kP]
 refine Hx underlying9 rfl rfl (by omega) (by omega) ?_
 simp only [aa,seval,kP]
 refine Nl _ _ _ (λg1=>?_) (λg1=>?_)
 rotate_left
 .repeat' (first|simp only [aa,seval,kP]|((with_reducible apply bI);(· rfl)))
  exact iJ (λx=>g1 (by simpa using x.first)) _ z.au
 repeat' (first|simp only [aa,seval,kP]|((with_reducible apply bI);(· rfl)))
 obtain ⟨I1,aO⟩:∃ I:Nat->Env->Heap->Prop,I=(λn e h'=>∃ (i:Nat) (h1:Heap),h'=h1.lay [] h1.low/\Ext h h1/\(n=s.size - i/\1<=i/\i<=s.size/\∀ j,1<=j->j < i->p2 (lW s j))/\∃ J:Nat->ae,e=(.string s::J 1::f2::jr J 3 4 (.int .i64 i::jr J 8 26 ([])))):=⟨_,rfl⟩
 refine cK I1 _ (by rw [aO];exact ⟨1,_,rfl,z,⟨rfl,by omega,by omega,λj hj YM=>by omega⟩,bc⟩) ?_
 intro n e h' aK
 rw [aO] at aK
 obtain ⟨i,bD,rfl,z,hinv,J,rfl⟩:=aK
 obtain ⟨rfl,iD,hi,aC⟩:=hinv
 have hw:=dE i (by omega)
 simp only [aa,seval,kP]
 refine bg (λaP=>?_) (λaP=>?_)
 rotate_left
 .simp only [aa,seval,kP]
  exact oZ ⟨jS,by omega,by simpa using g1,λj hj YM=>aC j hj (by omega)⟩ _ z.au
 simp only [aa,seval,kP]
 refine Hx underlying9 rfl rfl (by omega) (by omega) ?_
 simp only [aa,seval,kP]
 refine hf2 _ _ _ (λg2=>?_) (λg2=>?_)
 .repeat' (first|simp only [aa,seval,kP]|((with_reducible apply bI);(· rfl)))
  rw [hw]
  have oF:∀ j,1<=j->j < i+1->p2 (lW s j):=by
   intro j su hj
   by_cases j6:j < i
   .exact aC j su j6
   .have:j=i:=by omega
    subst this
    simpa using g2
  (rw [aO];with_reducible refine bS (m:=_) ?_ ⟨i+1,_,rfl,z,⟨rfl,by omega,by omega,oF⟩,bc⟩;omega)
 .repeat' (first|simp only [aa,seval,kP]|((with_reducible apply bI);(· rfl)))
  exact iJ (λx=>g2 (by simpa using x.more i iD (by omega))) _ z.au
theorem zyo (h:Heap) (cP:bl 1 h) (K:aG) (hk:∀ h' w,Ext h h'->Sl aJ.str h' w eO->K w h'):Ok prog aA ov 210 [] h K:=by
 rw [ao h]
 have z:=Ext.refl h
 refine Ok.aq 2 (bm LF) ?_
 simp only [aa,seval,Mp]
 refine Ok.over (g:=HH 1 9) rfl (zxd (cP.lay _ _)) ?_
 have hx:Ext (h.lay [] h.low) ((h.lay [] h.low).push (.row (eO.map Value.string) 9 false)):=Ext.push _ _
 have yP:Sl aJ.str ((h.lay [] h.low).push (.row (eO.map Value.string) 9 false)) (.slice (some ⟨(h.lay [] h.low).size,0,none⟩) 8 8) eO:=zAP (w:=0)
 generalize (h.lay [] h.low).push (.row (eO.map Value.string) 9 false)=h2 at hx yP ⊢
 replace z:=z.aj hx
 rw [ao h2]
 simp only [aa,seval,Mp]
 exact hk _ _ z.au (yP.lay _ _)
theorem zvg (l:List aB) (v:ae) (s:aB) (h:Heap) (hl:Sl aJ.str h v l) (hs:l.length<=1000) (K:aG)
 (hk:∀ h',Ext h h'->K (.int .i64 (jz (λx=>decide (s=x)) l)) h'):Ok prog aA ov 77 [v,.string s] h K:=by
 rw [ao h]
 have z:=Ext.refl h
 have cO:=λ(hh:Heap)=>hl.bt cQ hh
 refine Ok.aq 17 (bm Vo) ?_
 simp only [aa,seval,Bq,cO]
 obtain ⟨I1,aO⟩:∃ I:Nat->Env->Heap->Prop,I=(λn e h'=>∃ (i:Nat) (h1:Heap),h'=h1.lay [] h1.low/\Ext h h1/\(n=l.length - i/\i<=l.length/\∀ x∈l.take i,decide (s=x)=false)/\∃ J:Nat->ae,e=(v::.string s::jr J 2 5 (.int .i64 l.length::.int .i64 i::jr J 9 10 ([])))):=⟨_,rfl⟩
 refine cK I1 _ (by rw [aO];exact ⟨0,_,rfl,z,⟨rfl,by omega,by simp⟩,bc⟩) ?_
 intro n e h' aK
 rw [aO] at aK
 obtain ⟨i,bD,rfl,z,hinv,J,rfl⟩:=aK
 obtain ⟨rfl,hi,aC⟩:=hinv
 have hw:=dE i (by omega)
 simp only [aa,seval,Bq]
 refine bg (λaP=>?_) (λaP=>?_)
 rotate_left
 .rw [fX (by omega)] at aC
  rw [HC aC] at hk
  repeat' (simp only [aa,seval,Bq])
  exact hk _ z.au
 obtain ⟨r,hr,bM⟩:=eb (l:=l) (i:=i) (by omega)
 repeat' (first|simp only [aa,seval,Bq]|((with_reducible apply bg) <;> intro _)|with_reducible refine oT (hl.mono z.inc) cQ mU (by omega) hr (λp hp=>?_)|with_reducible refine fo hp gU ?_)
 .rw [Hw bM aC (by simpa using (by assumption))] at hk
  exact hk _ z.au
 .rw [hw]
  (rw [aO];with_reducible refine bS (m:=_) ?_ ⟨i+1,_,rfl,z,⟨rfl,by omega,mL (i:=i) (P:=λx:aB=>decide (s=x)=false) bM aC (by simpa using (by assumption))⟩,bc⟩;omega)
theorem Je (l:List aB) (v:ae) (s:aB) (h:Heap) (hl:Sl aJ.str h v l) (hs:l.length<=1000) (K:aG)
 (hk:∀ h',Ext h h'->K (.bool (l.any λx=>decide (s=x))) h'):Ok prog aA ov 44 [v,.string s] h K:=by
 refine Ok.aq 7 (bm Vl) ?_
 simp only [aa,seval,It]
 refine zvg l v s h hl hs _ (λh' x=>?_)
 simp only [aa,seval,It,RV]
 refine tZ (λhh=>?_) (λhh=>?_)
 all_goals
  simp only [aa,seval,It]
  rw [hh] at hk
  exact hk _ x
theorem ziq (s:aB) (h:Heap) (cP:bl 1 h) (K:aG) (h1:tN s->∀ h',Ext h h'->K (.bool true) h') (h2:¬ tN s->∀ h',Ext h h'->K (.bool false) h'):Ok prog aA ov 183 [.string s] h K:=by
 rw [ao h]
 have z:=Ext.refl h
 refine Ok.aq 5 (bm Lk) ?_
 simp only [aa,seval,Bj]
 refine zyo _ (cP.lay _ _) _ (λh' w x sw=>?_)
 (replace z:=z.aj x;rw [ao h'])
 simp only [aa,seval,Bj]
 refine Je eO w s _ (sw.lay _ _) (by decide) _ (λh' x=>?_)
 (replace z:=z.aj x;rw [ao h'])
 rw [zAB] at h1 h2
 cases hd:eO.any λx=>decide (s=x)
 .simp only [aa,seval,Bj]
  exact h2 (λhm=>by rw [EP] at hd;exact hd s hm (by simp)) _ z.au
 .simp only [aa,seval,Bj]
  exact h1 (by obtain ⟨x,hx,e⟩:=wq.1 hd;rw [of_decide_eq_true e];exact hx) _ z.au
theorem zm7 (s:aB) (h:Heap) (cP:bl 1 h) (K:aG) (h1:qQ s->∀ h',Ext h h'->K (.bool true) h') (h2:¬ qQ s->∀ h',Ext h h'->K (.bool false) h'):Ok prog aA ov 141 [.string s] h K:=by
 rw [ao h]
 have z:=Ext.refl h
 rw [zyx] at h1 h2
 refine Ok.aq 9 (bm KM) ?_
 simp only [aa,seval,xB]
 refine zgE s _ _ zy rZ _ (λc hc K' a b=>by rw [sE];exact zjN c hc K' a b) (λc hc K' a b=>by rw [sE];exact zrW c hc K' a b) _ (λg h' x=>?_) (λg h' x=>?_)
 ·(replace z:=z.aj x;rw [ao h'])
  repeat' (simp only [aa,seval,xB])
  refine ziq s _ ((cP.ext z).lay _ _) _ (λr h' x=>?_) (λr h' x=>?_)
  ·(replace z:=z.aj x;rw [ao h'])
   repeat' (first|simp only [aa,seval,xB]|((with_reducible apply bI);(· rfl)))
   exact h2 (λq=>q.2 r) _ z.au
  ·(replace z:=z.aj x;rw [ao h'])
   repeat' (first|simp only [aa,seval,xB]|((with_reducible apply bI);(· rfl)))
   exact h1 ⟨g,r⟩ _ z.au
 ·(replace z:=z.aj x;rw [ao h'])
  repeat' (simp only [aa,seval,xB])
  exact h2 (λq=>g q.1) _ z.au
theorem zto (s:aB) (h:Heap) (cP:bl 1 h) (K:aG) (h1:qQ s->∀ h',Ext h h'->K (.bool true) h') (h2:¬ qQ s->∀ h',Ext h h'->K (.bool false) h'):Ok prog aA ov 142 [.string s] h K:=by
 rw [ao h]
 have z:=Ext.refl h
 refine Ok.aq 4 (bm KN) ?_
 simp only [aa,seval,Fj]
 refine zm7 s _ (cP.lay _ _) _ (λg h' x=>?_) (λg h' x=>?_)
 ·(replace z:=z.aj x;rw [ao h'])
  simp only [aa,seval,Fj]
  exact h1 g _ z.au
 ·(replace z:=z.aj x;rw [ao h'])
  simp only [aa,seval,Fj]
  exact h2 g _ z.au
theorem zxU (s:aB) (h:Heap) (cP:bl 1 h) (K:aG) (h1:ki s->∀ h',Ext h h'->K (.bool true) h') (h2:¬ ki s->∀ h',Ext h h'->K (.bool false) h'):Ok prog aA ov 221 [.string s] h K:=by
 rw [ao h]
 have z:=Ext.refl h
 rw [zur] at h1 h2
 refine Ok.aq 9 (bm LM) ?_
 simp only [aa,seval,xF]
 refine zgE s _ _ (λc=>zy c\/EG c) rZ _ (λc hc K' a b=>by rw [sE];exact zva c hc K' a b) (λc hc K' a b=>by rw [sE];exact zrW c hc K' a b) _ (λg h' x=>?_) (λg h' x=>?_)
 ·(replace z:=z.aj x;rw [ao h'])
  repeat' (simp only [aa,seval,xF])
  refine ziq s _ ((cP.ext z).lay _ _) _ (λr h' x=>?_) (λr h' x=>?_)
  ·(replace z:=z.aj x;rw [ao h'])
   repeat' (first|simp only [aa,seval,xF]|((with_reducible apply bI);(· rfl)))
   exact h2 (λq=>q.2 r) _ z.au
  ·(replace z:=z.aj x;rw [ao h'])
   repeat' (first|simp only [aa,seval,xF]|((with_reducible apply bI);(· rfl)))
   exact h1 ⟨g,r⟩ _ z.au
 ·(replace z:=z.aj x;rw [ao h'])
  repeat' (simp only [aa,seval,xF])
  exact h2 (λq=>g q.1) _ z.au
theorem zC4 (s:aB) (h:Heap) (K:aG) (h1:CB s->∀ h',Ext h h'->K (.bool true) h') (h2:¬ CB s->∀ h',Ext h h'->K (.bool false) h'):Ok prog aA ov 220 [.string s] h K:=by
 rw [ao h]
 have z:=Ext.refl h
 rw [zBd] at h1 h2
 refine Ok.aq 4 (bm LL) ?_
 simp only [aa,seval,Fs]
 refine zgE s _ _ H3 lT _ (λc hc K' a b=>by rw [sE];exact zpC c hc K' a b) (λc hc K' a b=>by rw [sE];exact zAp c hc K' a b) _ (λg h' x=>?_) (λg h' x=>?_)
 ·(replace z:=z.aj x;rw [ao h'])
  simp only [aa,seval,Fs]
  exact h1 g _ z.au
 ·(replace z:=z.aj x;rw [ao h'])
  simp only [aa,seval,Fs]
  exact h2 g _ z.au
theorem zAn (t:aH) (h:Heap) (cP:bl 1 h) (K:aG) (h1:fM t->∀ h',Ext h h'->K (.bool true) h') (h2:¬ fM t->∀ h',Ext h h'->K (.bool false) h'):Ok prog aA ov 198 [t.val] h K:=by
 rw [ao h]
 have z:=Ext.refl h
 rcases t with ⟨tv,ts⟩
 unfold fM at h1 h2
 cases tv
 .refine Ok.aq 10 (bm E9) ?_
  repeat' (simp only [aa,seval,Bn,aH.val,aH.cells])
  refine zxU _ _ (cP.lay _ _) _ (λhs h' x=>?_) (λhs h' x=>?_)
  all_goals
   (replace z:=z.aj x;rw [ao h'])
   simp only [aa,seval,Bn]
   first
    |exact h1 hs _ z.au
    |exact h2 hs _ z.au
 .refine Ok.aq 10 (bm E9) ?_
  repeat' (simp only [aa,seval,Bn,aH.val,aH.cells])
  refine zC4 _ _ _ (λhs h' x=>?_) (λhs h' x=>?_)
  all_goals
   (replace z:=z.aj x;rw [ao h'])
   simp only [aa,seval,Bn]
   first
    |exact h1 hs _ z.au
    |exact h2 hs _ z.au
open Classical in
def tc (t:aH):Bool := !decide (fM t)
theorem zuZ (t:aH) (h:Heap) (cP:bl 1 h) (K:aG) (hk:∀ h',Ext h h'->K (.bool (tc t)) h'):Ok prog aA ov 197 [t.val] h K:=by
 rw [ao h]
 have z:=Ext.refl h
 refine Ok.aq 5 (bm Lt) ?_
 repeat' (simp only [aa,seval,Fo,En,↓Ju,Js,zq])
 refine zAn t _ (cP.lay _ _) _ (λhs h' x=>?_) (λhs h' x=>?_)
 .have e:tc t=false:=by unfold tc;simp [hs]
  rw [e] at hk
  (replace z:=z.aj x;rw [ao h'])
  repeat' (first|simp only [aa,seval,Fo]|((with_reducible apply bI);(· rfl)))
  exact hk _ z.au
 .have e:tc t=true:=by unfold tc;simp [hs]
  rw [e] at hk
  (replace z:=z.aj x;rw [ao h'])
  repeat' (first|simp only [aa,seval,Fo]|((with_reducible apply bI);(· rfl)))
  exact hk _ z.au
end Go.Proofs.YtkgojconmeeegaaGreatDoor
