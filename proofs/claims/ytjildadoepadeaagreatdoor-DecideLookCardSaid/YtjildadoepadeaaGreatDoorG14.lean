/- Strings in order, and the texts of atoms: plain facts about lists of bytes. No condition. -/
import Derived.Lib.Bytealg
import Derived.Test.YtjildadoepadeaaGreatDoorG13
set_option linter.unusedSimpArgs false
set_option linter.unusedVariables false
namespace Go.Am
open Go.Lib
abbrev Bs:=List UInt8
theorem Sd (a:UInt8):¬ a < a:=by rw [UInt8.lt_iff_toNat_lt];omega
theorem zuI {a b:UInt8} (h1:¬ a < b) (h2:¬ b < a):a=b:=by
 rw [UInt8.lt_iff_toNat_lt] at h1 h2
 exact UInt8.toNat_inj.1 (by omega)
theorem T0:∀ a:Bs,compareBytes a a=0
 | []=>rfl
 |a::al=>by rw [compareBytes,ay (Sd a),ay (Sd a)];exact T0 al
theorem Ny:∀ {a b:Bs},compareBytes a b=0->a=b
 | [],[],_=>rfl
 | [],_::_,h=>by simp [compareBytes] at h
 |_::_,[],h=>by simp [compareBytes] at h
 |a::al,b::bs,h=>by
  rw [compareBytes] at h
  split at h
  .simp at h
  .rename_i h1
   split at h
   .simp at h
   .rename_i h2
    rw [zuI h1 h2,Ny h]
theorem TZ:∀ a b:Bs,compareBytes a b = - compareBytes b a
 | [],[]=>rfl
 | [],_::_=>rfl
 |_::_,[]=>rfl
 |a::al,b::bs=>by
  rw [compareBytes,compareBytes]
  by_cases h1:a < b
  .have h2:¬ b < a:=by rw [UInt8.lt_iff_toNat_lt] at h1 ⊢;omega
   rw [aC h1,ay h2,aC h1]
  .rw [ay h1]
   by_cases h2:b < a
   .rw [aC h2,aC h2];rfl
   .rw [ay h2,ay h2,ay h1];exact TZ al bs
theorem Tp:∀ {a b c:Bs},compareBytes a b < 0->compareBytes b c < 0->compareBytes a c < 0
 | [],[],_,h,_=>by simp [compareBytes] at h
 | [],_::_,[],_,h=>by simp [compareBytes] at h
 | [],_::_,_::_,_,_=>by simp [compareBytes]
 |_::_,[],_,h,_=>by simp [compareBytes] at h
 |_::_,_::_,[],_,h=>by simp [compareBytes] at h
 |a::al,b::bs,c::cs,h,k=>by
  rw [compareBytes] at h k ⊢
  simp only [UInt8.lt_iff_toNat_lt] at h k ⊢
  by_cases h1:a.toNat < b.toNat
  .by_cases h2:b.toNat < c.toNat
   .rw [aC (by omega)];decide
   .rw [ay h2] at k
    split at k
    .simp at k
    .rw [aC (by omega)];decide
  .rw [ay h1] at h
   split at h
   .simp at h
   .by_cases h2:b.toNat < c.toNat
    .rw [aC (by omega)];decide
    .rw [ay h2] at k
     split at k
     .simp at k
     .rw [ay (by omega),ay (by omega)]
      exact Tp h k

def lQ (c:UInt8):Prop:=c.toNat≠32/\c.toNat≠40/\c.toNat≠41/\c.toNat≠44
def Word (s:Bs):Prop:=∀ c∈s,lQ c
theorem yW:∀ {s t x y:Bs} {c d:UInt8},Word s->Word t->¬ lQ c->¬ lQ d->s++c::x=t++d::y->s=t/\c=d/\x=y
 | [],[],x,y,c,d,_,_,_,_,h=>by simp at h;exact ⟨rfl,h.1,h.2⟩
 | [],b::t,x,y,c,d,_,ht,hc,_,h=>by
  simp at h
  exact (hc (by rw [h.1];exact ht b (by simp))).elim
 |a::s,[],x,y,c,d,hs,_,_,hd,h=>by
  simp at h
  exact (hd (by rw [<- h.1];exact hs a (by simp))).elim
 |a::s,b::t,x,y,c,d,hs,ht,hc,hd,h=>by
  simp at h
  obtain ⟨h1,h2,h3⟩:=yW (λq hq=>hs q (by simp [hq])) (λq hq=>ht q (by simp [hq])) hc hd h.2
  exact ⟨by rw [h.1,h1],h2,h3⟩
theorem NG:∀ {s t y:Bs} {d:UInt8},Word s->¬ lQ d->s≠t++d::y
 | [],t,y,d,_,_,h=>by cases t <;> simp at h
 |a::s,[],y,d,hs,hd,h=>by
  simp at h
  exact hd (by rw [<- h.1];exact hs a (by simp))
 |a::s,b::t,y,d,hs,hd,h=>by
  simp at h
  exact NG (λq hq=>hs q (by simp [hq])) hd h.2
def Bj (names:List Bs):Bs:=match names with
 | []=>[]
 |n::ns=>40::(join (n::ns) [44,32]++[41])
def GO (says pred:Bs) (names:List Bs):Bs:=says++[32,115,97,121,115,32]++pred++Bj names
theorem HO (n m:Bs) (ns:List Bs):join (n::m::ns) [44,32]=n++(44::32::join (m::ns) [44,32]):=by
 simp [join,List.intercalate]
theorem T5:∀ {l m:List Bs},(∀ n∈l,Word n)->(∀ n∈m,Word n)->l≠[]->m≠[]->join l [44,32]++[41]=join m [44,32]++[41]->l=m
 | [],_,_,_,h,_,_=>(h rfl).elim
 |_::_,[],_,_,_,h,_=>(h rfl).elim
 | [a],[b],ha,hb,_,_,h=>by
  rw [join_one,join_one] at h
  rw [(yW (ha a (by simp)) (hb b (by simp)) (by simp [lQ]) (by simp [lQ]) h).1]
 | [a],b::c::m,ha,hb,_,_,h=>by
  rw [join_one,HO] at h
  simp only [mY,Gn] at h
  have:=(yW (ha a (by simp)) (hb b (by simp)) (by simp [lQ]) (by simp [lQ]) h).2.1
  simp at this
 |a::c::l,[b],ha,hb,_,_,h=>by
  rw [join_one,HO] at h
  simp only [mY,Gn] at h
  have:=(yW (ha a (by simp)) (hb b (by simp)) (by simp [lQ]) (by simp [lQ]) h).2.1
  simp at this
 |a::c::l,b::d::m,ha,hb,_,_,h=>by
  rw [HO,HO] at h
  simp only [mY,Gn] at h
  obtain ⟨h1,_,h3⟩:=yW (ha a (by simp)) (hb b (by simp)) (by simp [lQ]) (by simp [lQ]) h
  simp only [List.cons.injEq,true_and] at h3
  have:=T5 (λn hn=>ha n (by simp at hn ⊢;exact .inr hn)) (λn hn=>hb n (by simp at hn ⊢;exact .inr hn)) (by simp) (by simp) h3
  rw [h1,this]
theorem zuG {s s' p p':Bs} {l l':List Bs} (hs:Word s) (Ac:Word s') (hp:Word p) (DO:Word p') (hl:∀ n∈l,Word n) (tO:∀ n∈l',Word n) (h:GO s p l=GO s' p' l'):s=s'/\p=p'/\l=l':=by
 unfold GO at h
 simp only [mY,Gn,List.nil_append] at h
 obtain ⟨h1,_,h2⟩:=yW hs Ac (by simp [lQ]) (by simp [lQ]) h
 simp only [List.cons.injEq,true_and] at h2
 cases l with
 |nil =>
  cases l' with
  |nil=>simp only [Bj,cU] at h2;exact ⟨h1,h2,rfl⟩
  |cons n' W8 =>
   simp only [Bj,cU] at h2
   exact (NG hp (by simp [lQ]) h2).elim
 |cons n ns =>
  cases l' with
  |nil =>
   simp only [Bj,cU] at h2
   exact (NG DO (by simp [lQ]) h2.symm).elim
  |cons n' W8 =>
   simp only [Bj] at h2
   obtain ⟨h3,_,h4⟩:=yW hp DO (by simp [lQ]) (by simp [lQ]) h2
   exact ⟨h1,h3,T5 hl tO (by simp) (by simp) h4⟩
end Go.Am
namespace Go.Am
variable {i:Nat} {l:cR}
def Er (l:cR):List ai:=l.flatMap ae.cells
theorem zzq (l:cR):(Er l).length=l.length*11:=by
 unfold Er
 induction l with
 |nil=>rfl
 |cons x l ih=>rw [List.flatMap_cons,hJ,ih,nW];show 11+_=_;omega
theorem zzE {x:ae} (h:l[i]? = some x):cut (Er l) (i*11) 11=some x.cells:=by
 have hi:=(fB.1 h).1
 unfold cut
 rw [aC (by rw [zzq];omega)]
 congr 1
 unfold Er
 induction l generalizing i with
 |nil=>simp at h
 |cons y l ih =>
  cases i with
  |zero =>
   simp at h
   subst h
   rfl
  |succ i =>
   rw [List.flatMap_cons,show (i+1)*11=y.cells.length+i*11 by show _=11+_;omega,List.drop_append]
   have h2:y.cells.drop (y.cells.length+i*11)=[]:=zzd (by omega)
   rw [h2,List.nil_append,Nat.add_sub_cancel_left]
   exact ih (by simpa using h) (by simpa using hi)
def zzw (l:cR) (i j:Nat):cR:=(l.set i (l.getD j aw)).set j (l.getD i aw)
theorem zwe (h:i < l.length):l[i]? = some (l.getD i aw):=by
 rw [wg,lD h]
 rfl
theorem zzC {j:Nat} (hi:i < l.length) (hj:j < l.length) (k:Nat):(zzw l i j).getD k aw=if k=j then l.getD i aw else if k=i then l.getD j aw else l.getD k aw:=by
 unfold zzw
 rw [wg,List.getElem?_set,List.length_set]
 by_cases h1:j=k
 .subst h1
  rw [aC rfl,aC hj,aC rfl]
  rfl
 .rw [ay h1,ay (λe=>h1 e.symm),List.getElem?_set]
  by_cases h2:i=k
  .subst h2
   rw [aC rfl,aC hi,aC rfl]
   rfl
  .rw [ay h2,ay (λe=>h2 e.symm),wg]
theorem zzx {j:Nat} (hi:i < l.length) (hj:j < l.length):(zzw l i j).Perm l:=by
 unfold zzw
 have e1:l.getD i aw=l[i]:=by rw [wg,lD hi];rfl
 have e2:l.getD j aw=l[j]:=by rw [wg,lD hj];rfl
 rw [e1,e2]
 exact List.set_set_perm hi hj
theorem HV (a b:ae):bZ a b = - bZ b a:=TZ _ _
theorem zvW {a b:ae} (h:¬ bZ a b < 0):bZ b a<=0:=by
 rw [HV b a]
 omega
theorem zpU {a b c:ae} (h1:bZ a b<=0) (h2:bZ b c<=0):bZ a c<=0:=by
 by_cases e1:bZ a b=0
 .have:=Ny e1
  unfold bZ at *
  rw [this]
  exact h2
 .by_cases e2:bZ b c=0
  .have:=Ny e2
   unfold bZ at *
   rw [<- this]
   exact h1
  .have h3:bZ a b < 0:=by omega
   have h4:bZ b c < 0:=by omega
   exact Int.le_of_lt (Tp h3 h4)
def Ui (l:cR) (a b:Nat):Prop:=∀ k,a < k->k < b->bZ (l.getD (k - 1) aw) (l.getD k aw)<=0
def zve (l l':cR) (a b:Nat):Prop:=∀ k,k < a\/b<=k->l'.getD k aw=l.getD k aw
def Jf (l l':cR):Prop:=∀ t:List UInt8,l'.filter (λx=>lR x == t)=l.filter (λx=>lR x == t)
theorem Jf.refl (l:cR):Jf l l:=λ_=>rfl
theorem Jf.trans {l l1 l2:cR} (x:Jf l l1) (y:Jf l1 l2):Jf l l2:=λt=>(y t).trans (x t)
end Go.Am
namespace Go.Am
theorem Nc (a:ae):bZ a a=0:=T0 _
theorem SJ {a b c:ae} (h1:bZ a b < 0) (h2:bZ b c<=0):bZ a c < 0:=by
 by_cases h:bZ a c < 0
 .exact h
 .have h3:=zpU h2 (zvW h)
  have h4:=HV a b
  omega
structure Mv (l l':cR) (a b:Nat):Prop where
 perm:l'.Perm l
 out:zve l l' a b
 wit:∀ i,a<=i->i < b->∃ j,a<=j/\j < b/\l'.getD i aw=l.getD j aw
 Xk:Jf l l'
theorem Mv.refl (l:cR) (a b:Nat):Mv l l a b:=⟨List.Perm.refl _,λ_ _=>rfl,λi h1 h2=>⟨i,h1,h2,rfl⟩,Jf.refl l⟩
theorem Mv.trans {l l1 l2:cR} {a b:Nat} (x:Mv l l1 a b) (y:Mv l1 l2 a b):Mv l l2 a b:=⟨y.perm.trans x.perm,λk hk=>(y.out k hk).trans (x.out k hk),λi h1 h2=>by
 obtain ⟨j,g1,g2,g3⟩:=y.wit i h1 h2
 obtain ⟨k,f1,f2,f3⟩:=x.wit j g1 g2
 exact ⟨k,f1,f2,g3.trans f3⟩,x.Xk.trans y.Xk⟩
theorem Mv.swap {l:cR} {a b i j:Nat} (hi:a<=i/\i < b) (hj:a<=j/\j < b) (hb:b<=l.length) (hs:Jf l (zzw l i j)):Mv l (zzw l i j) a b:=by
 have g:=λk=>zzC (l:=l) (i:=i) (j:=j) (by omega) (by omega) k
 refine ⟨zzx (by omega) (by omega),λk hk=>?_,λk h1 h2=>?_,hs⟩
 .rw [g,ay (by omega),ay (by omega)]
 .rw [g]
  split
  .exact ⟨i,by omega,by omega,rfl⟩
  .split
   .exact ⟨j,by omega,by omega,rfl⟩
   .exact ⟨k,h1,h2,rfl⟩
structure Je (l:cR) (a m b mid s:Nat):Prop where
 lo:a<=s
 hi:s<=m
 VX:s<=mid
 ge:m<=mid+m - s
 le:mid+m - s<=b
 cl:s=a\/mid+m - s=b\/bZ (l.getD (s - 1) aw) (l.getD (mid+m - s) aw)<=0
 cr:s=m\/s=mid\/bZ (l.getD (mid+m - 1 - s) aw) (l.getD s aw) < 0
structure Jg (l:cR) (a m b mid s r:Nat):Prop where
 sr:s<=r
 le1:m<=mid->a<=s/\r<=m
 le2:mid < m->mid+m - b<=s/\r<=mid
 cl:(s=a/\m<=mid)\/(mid < m/\s=mid+m - b)\/bZ (l.getD (s - 1) aw) (l.getD (mid+m - s) aw)<=0
 cr:(r=m/\m<=mid)\/(mid < m/\r=mid)\/bZ (l.getD (mid+m - 1 - r) aw) (l.getD r aw) < 0
end Go.Am
namespace Go.Am
theorem zvF {P:Program} {T:bm} {t:TypeId} {k:IntKind} {a b:Int}:bD P T .mul t (.int k a) (.int k b)=some (.int k (k.wrap (a*b))):=by
 have h1:((T.desc t).bind λd=>zw d (.int k a) (.int k b))=none:=by
  cases T.desc t with
  |none=>rfl
  |some d=>cases d <;> rfl
 have h2:dX P (binOp .mul t (.int k a) (.int k b))=some (.int k (k.wrap (a*b))):=by
  simp [binOp,Op.intArith,pF]
 unfold bD
 have hf:nL .mul (.int k a) (.int k b)=none:=rfl
 rw [hf]
 simp [h1,h2]
 exact ⟨⟨rfl,rfl⟩,rfl⟩
def Bl (l:cR) (w n a:Nat):Prop:=∀ s,s % w=0->s < a->Ui l s (min (s+w) n)
structure Dbl (l:cR) (w n a:Nat):Prop where
 lo:Bl l (2*w) n a
 hi:∀ s,s % w=0->a<=s->s < n->Ui l s (min (s+w) n)
end Go.Am
namespace Go.Am
variable {a b:ae} {l s:cR}
theorem kA:bZ a b=0↔lR a=lR b:=⟨λh=>Ny h,λh=>by unfold bZ;rw [h,T0]⟩
theorem MK {c:ae} (h1:bZ a b < 0) (h2:bZ b c < 0):bZ a c < 0:=SJ h1 (Int.le_of_lt h2)
theorem zpT (h1:bZ a b < 0) (h2:bZ b a < 0):False:=by
 have:=HV a b
 omega
def gK (s:cR):Prop:=s.Pairwise (λx y=>bZ x y < 0)
structure eL (l s:cR):Prop where
 ti:gK s
 first:∀ y∈s,(l.filter (λx=>lR x == lR y)).head? = some y
 U7:∀ x∈l,∃ y∈s,lR y=lR x
theorem eL.mem (f:eL l s) {y:ae} (h:y∈s):y∈l:=(List.mem_filter.1 (List.mem_of_mem_head? (f.first y h))).1
theorem UC:∀ {s1 s2:cR},gK s1->gK s2->(∀ x,x∈s1↔x∈s2)->s1=s2
 | [],[],_,_,_=>rfl
 | [],y::r,_,_,h=>absurd ((h y).2 (qj ..)) (by simp)
 |x::r,[],_,_,h=>absurd ((h x).1 (qj ..)) (by simp)
 |x::r1,y::r2,h1,h2,h=>by
  have g1:=A6.1 h1
  have g2:=A6.1 h2
  have e:x=y:=by
   rcases i0.1 ((h x).1 (qj ..)) with e|hx
   .exact e
   .rcases i0.1 ((h y).2 (qj ..)) with e|hy
    .exact e.symm
    .exact (zpT (g2.1 x hx) (g1.1 y hy)).elim
  subst e
  rw [UC (s1:=r1) (s2:=r2) g1.2 g2.2 (λz=>⟨λhz=>?_,λhz=>?_⟩)]
  .rcases i0.1 ((h z).1 (sq _ hz)) with e|pe
   .subst e
    have:=g1.1 z hz
    rw [Nc] at this
    omega
   .exact pe
  .rcases i0.1 ((h z).2 (sq _ hz)) with e|pe
   .subst e
    have:=g2.1 z hz
    rw [Nc] at this
    omega
   .exact pe
theorem eL.sub {s1 s2:cR} (f:eL l s1) (g:eL l s2) {y:ae} (h:y∈s1):y∈s2:=by
 obtain ⟨z,hz,e⟩:=g.U7 y (f.mem h)
 have h1:=f.first y h
 have h2:=g.first z hz
 rw [e] at h2
 rw [h1] at h2
 cases h2
 exact hz
def gd (a:ae):cR->cR
 | []=>[a]
 |x::r=>if bZ a x < 0 then a::x::r else if bZ a x=0 then x::r else x::gd a r
theorem NL {a y:ae}:∀ {s:cR},gK s->(y∈gd a s↔y∈s\/(y=a/\∀ x∈s,bZ a x≠0))
 | [],_=>by simp [gd]
 |x::r,h=>by
  have g:=A6.1 h
  unfold gd
  by_cases h1:bZ a x < 0
  .rw [aC h1,i0]
   constructor
   .rintro (e|e)
    .right
     refine ⟨e,λz hz=>?_⟩
     rcases i0.1 hz with e2|pe
     .subst e2;omega
     .have:=MK h1 (g.1 z pe);omega
    .exact .inl e
   .rintro (e|⟨e,_⟩)
    .exact .inr e
    .exact .inl e
  .rw [ay h1]
   by_cases h2:bZ a x=0
   .rw [aC h2]
    constructor
    .exact λe=>.inl e
    .rintro (e|⟨e,e2⟩)
     .exact e
     .exact absurd h2 (e2 x (qj ..))
   .rw [ay h2,i0,NL g.2,i0]
    constructor
    .rintro (e|e|⟨e,e2⟩)
     .exact .inl (.inl e)
     .exact .inl (.inr e)
     .refine .inr ⟨e,λz hz=>?_⟩
      rcases i0.1 hz with e3|pe
      .subst e3;exact h2
      .exact e2 z pe
    .rintro ((e|e)|⟨e,e2⟩)
     .exact .inl e
     .exact .inr (.inl e)
     .exact .inr (.inr ⟨e,λz hz=>e2 z (sq _ hz)⟩)
theorem TV {a:ae}:∀ {s:cR},gK s->gK (gd a s)
 | [],_=>by simp [gd,gK]
 |x::r,h=>by
  have g:=A6.1 h
  unfold gd
  by_cases h1:bZ a x < 0
  .rw [aC h1]
   refine A6.2 ⟨λz hz=>?_,h⟩
   rcases i0.1 hz with e|pe
   .subst e;exact h1
   .exact MK h1 (g.1 z pe)
  .rw [ay h1]
   by_cases h2:bZ a x=0
   .rw [aC h2];exact h
   .rw [ay h2]
    refine A6.2 ⟨λz hz=>?_,TV g.2⟩
    rcases (NL g.2).1 hz with e|⟨e,_⟩
    .exact g.1 z e
    .subst e
     have:=HV z x
     omega
theorem eL.put (f:eL l s) (a:ae):eL (l++[a]) (gd a s):=by
 refine ⟨TV f.ti,λy hy=>?_,λx hx=>?_⟩
 .rw [List.filter_append,List.head?_append]
  rcases (NL f.ti).1 hy with e|⟨e,e2⟩
  .rw [f.first y e]
   rfl
  .subst e
   have hn:l.filter (λx=>lR x == lR y)=[]:=by
    rw [List.filter_eq_nil_iff]
    intro x hx cz
    rw [beq_iff_eq] at cz
    obtain ⟨z,hz,e3⟩:=f.U7 x hx
    exact e2 z hz (kA.2 (e3.trans cz).symm)
   rw [hn]
   simp
 .rcases pM.1 hx with e|e
  .obtain ⟨y,hy,e2⟩:=f.U7 x e
   exact ⟨y,(NL f.ti).2 (.inl hy),e2⟩
  .have e:x=a:=by simpa using e
   subst e
   by_cases hex:∀ z∈s,bZ x z≠0
   .exact ⟨x,(NL f.ti).2 (.inr ⟨rfl,hex⟩),rfl⟩
   .have:∃ z,z∈s/\bZ x z=0:=by
     apply Classical.byContradiction
     intro hn
     exact hex (λz hz e=>hn ⟨z,hz,e⟩)
    obtain ⟨z,hz,e⟩:=this
    exact ⟨z,(NL f.ti).2 (.inl hz),(kA.1 e).symm⟩
theorem eL.nil:eL [] []:=⟨List.Pairwise.nil,nofun,nofun⟩
def zx (l:cR):cR:=l.foldl (λs a=>gd a s) []
theorem Td:∀ (m:cR) {l s:cR},eL l s->eL (l++m) (m.foldl (λs a=>gd a s) s)
 | [],l,s,f=>by rw [cU];exact f
 |a::m,l,s,f=>by
  have:=Td m (f.put a)
  rwa [mY] at this
theorem Im (l:cR):eL l (zx l):=Td l eL.nil
theorem eL.over {l':cR} (f:eL l' s) (hp:l'.Perm l) (dI:Jf l l'):eL l s:=⟨f.ti,λy hy=>by rw [<- dI];exact f.first y hy,λx hx=>f.U7 x (hp.mem_iff.2 hx)⟩
end Go.Am
namespace Go.Am
variable {l:cR}
structure OS (h:Heap) (v:ai):Prop where
 sl:Sl aQ.atom h v []
 no:v=.slice none 0 0\/∃ B o,v=.slice (some ⟨B,o,none⟩) 0 0
theorem OS.nil {h:Heap}:OS h (.slice none 0 0):=⟨Sl.nil,.inl rfl⟩
theorem OS.mono {h h':Heap} {v:ai} (f:OS h v) (i:dz h h'):OS h' v:=⟨f.sl.mono i,f.no⟩
theorem OS.lay {h:Heap} {v:ai} (f:OS h v) (bs:List bd) (w:Nat):OS (h.lay bs w) v:=⟨f.sl.lay bs w,f.no⟩
theorem OS.over {h1 h2:Heap} {v:ai} {bs:List bd} {w:Nat} (f:OS h1 v) (x:Ext (h1.lay bs w) h2):OS h2 v:=⟨f.sl.over x,f.no⟩
def wM (h0 h:Heap) (u:TypeId) (v:ai) (s:cR):Prop :=
 (s=[]/\OS h v)\/∃ A t,v=.slice (some ⟨A,0,none⟩) s.length (G*11+(s++t).length)/\Holds h A (.row (Er (s++t)) u false)/\h0.size<=A/\(s++t).length<=100000
theorem wM.mono {h0 h h':Heap} {u:TypeId} {v:ai} {s:cR} (f:wM h0 h u v s) (i:dz h h'):wM h0 h' u v s:=by
 rcases f with ⟨e,f⟩|⟨A,t,e1,e2,e3⟩
 .exact .inl ⟨e,f.mono i⟩
 .exact .inr ⟨A,t,e1,e2.mono i,e3⟩
theorem wM.down {h0 h1 h:Heap} {u:TypeId} {v:ai} {s:cR} (f:wM h1 h u v s) (i:h0.size<=h1.size):wM h0 h u v s:=by
 rcases f with f|⟨A,t,e1,e2,e3,e4⟩
 .exact .inl f
 .exact .inr ⟨A,t,e1,e2,by omega,e4⟩
theorem wM.lay {h0 h:Heap} {u:TypeId} {v:ai} {s:cR} (f:wM h0 h u v s) (bs:List bd) (w:Nat):wM h0 (h.lay bs w) u v s:=f.mono (dz.lay h bs w)
theorem zzH:100000 < G:=by unfold G;omega
theorem zzG {h:Heap} {A o:Nat} {s:cR} {u:TypeId} {c:Nat} {ro:Bool} (q:Holds h A (.row (Er l) u ro)) (hc:zxF 11 s.length c) (hn:s.length<=100000) (hs:∀ (i:Nat) (x:ae),s[i]? = some x->l[o+i]? = some x):Sl aQ.atom h (.slice (some ⟨A,o*11,none⟩) s.length c) s:=by
 refine .inr ⟨A,o*11,c,Er l,u,ro,rfl,(by have:(100000:Nat)<=maxLen:=by decide
                                         omega),hc,q.lt,q.get,λi x hx=>⟨x.cells,?_,rfl⟩⟩
 show cut (Er l) (o*11+i*11) 11=_
 rw [<- wF]
 exact zzE (hs i x hx)
theorem wM.sl {h0 h:Heap} {u:TypeId} {v:ai} {s:cR} (f:wM h0 h u v s):Sl aQ.atom h v s:=by
 rcases f with ⟨rfl,f⟩|⟨A,t,rfl,e2,e3,e4⟩
 .exact f.sl
 .have hG:=zzH
  obtain ⟨d1,d2,d3⟩:=zum (k:=11) (q:=(s++t).length) (by decide) (by omega)
  have hle:s.length<=(s++t).length:=by rw [hJ];omega
  have:=zzG (o:=0) (s:=s) e2 (.inr ⟨d1,d2,by rw [d3];omega⟩) (by omega) (λi x hx=>by rw [jX,kR (fB.1 hx).1];exact hx)
  simpa using this
section
variable {P:Program} {T:bm} {ov:Ov} {d:Option Tmp} {ty:TypeId} {pos:String} {af:Array Edge} {g:Option (Nat × Bool)} {e:Env} {h:Heap} {K:aF}
end
theorem zwX (h:∀ k,0 < k->k < l.length->bZ (l.getD (k - 1) aw) (l.getD k aw) < 0) {i j:Nat} (gj:i < j) (hj:j < l.length):bZ (l.getD i aw) (l.getD j aw) < 0:=by
 induction j with
 |zero=>omega
 |succ j ih =>
  have g:=h (j+1) (by omega) hj
  rw [Nat.add_sub_cancel] at g
  by_cases e:i=j
  .subst e
   exact g
  .exact MK (ih (by omega) (by omega)) g
theorem GQ:gK l↔∀ k,0 < k->k < l.length->bZ (l.getD (k - 1) aw) (l.getD k aw) < 0:=by
 constructor
 .intro h k h1 h2
  have:=List.pairwise_iff_getElem.1 h (k - 1) k (by omega) h2 (by omega)
  rw [wg,wg,lD h2,lD (show k - 1 < l.length by omega)]
  exact this
 .intro h
  refine List.pairwise_iff_getElem.2 (λi j hi hj gj=>?_)
  have:=zwX h gj hj
  rw [wg,wg,lD hj,lD hi] at this
  exact this
def qK (l:cR) (a:ae):Bool:=l.any (λx=>lR x == lR a)
theorem T4 {a:ae}:qK l a=true↔∃ x∈l,lR x=lR a:=by
 unfold qK
 rw [oI]
 simp only [beq_iff_eq]
theorem Sk (a:ae):∀ s:cR,(gd a s).length<=s.length+1
 | []=>by simp [gd]
 |x::r=>by
  have:=Sk a r
  unfold gd
  repeat' split
  all_goals simp only [nW]
  all_goals omega
theorem RB:∀ (m s:cR),(m.foldl (λs a=>gd a s) s).length<=s.length+m.length
 | [],s=>by simp
 |a::m,s=>by
  have h1:=RB m (gd a s)
  have h2:=Sk a s
  simp only [pL,nW]
  omega
theorem Zv (l:cR):(zx l).length<=l.length:=by
 have:=RB l []
 simpa [zx] using this
structure nZ (l:cR) (a:ae) (i:Nat):Prop where
 le:i<=l.length
 lo:∀ k,k < i->bZ (l.getD k aw) a < 0
 hi:∀ k,i<=k->k < l.length->¬ bZ (l.getD k aw) a < 0
theorem nZ.has {a:ae} {i:Nat} (p:nZ l a i) (hs:gK l):qK l a=true↔i < l.length/\bZ (l.getD i aw) a=0:=by
 rw [T4]
 constructor
 .rintro ⟨x,hx,e⟩
  obtain ⟨k,hk⟩:=zn hx
  have Lp:=(fB.1 hk).1
  have e2:l.getD k aw=x:=by rw [wg,hk];rfl
  have h0:bZ (l.getD k aw) a=0:=by rw [e2];exact kA.2 e
  have q8:i<=k:=by
   rcases kT k i with g|g
   .have:=p.lo k g;omega
   .exact g
  refine ⟨by omega,?_⟩
  rcases Nat.eq_or_lt_of_le q8 with g|g
  .rw [g];exact h0
  .have h1:=zwX (GQ.1 hs) g Lp
   have h2:=p.hi i (bg _) (by omega)
   have h3:=SJ h1 (Int.le_of_eq h0)
   exact absurd h3 h2
 .rintro ⟨h1,h2⟩
  exact ⟨_,ig (zwe h1),kA.1 h2⟩
abbrev aQ.atoms:aQ (cR) :=
 { k:=1,R:=λh cs x=>∃ v,cs=[v]/\Sl aQ.atom h v x
   len:=by rintro h cs x ⟨v,rfl,_⟩;rfl
   mono:=by rintro h h' cs x i ⟨v,e,f⟩;exact ⟨v,e,f.mono i⟩
   fk:=by rintro h cs x ⟨v,rfl,f⟩;have:=f.one;simp only [kS,mL,this];rfl }
end Go.Am
