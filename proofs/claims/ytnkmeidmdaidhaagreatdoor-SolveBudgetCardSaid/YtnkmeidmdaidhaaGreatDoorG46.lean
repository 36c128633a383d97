/- Regions whose order is drawn, with kinds told for each operation: a store to what the region laid, a load of what it did not lay. No condition. -/
import Derived.Test.YtnkmeidmdaidhaaGreatDoorG45
set_option linter.unusedSimpArgs false
set_option linter.unusedVariables false
namespace Go.Am
variable {h:Heap} {e:Env} {ks:List Nat} {ops:Array Oper} {b:Nat}
inductive KC where
 |plain
 |load (a:Operand)
 |build
 |store (a:Operand)
def lF (o:Oper):KC:=match o.op with
 | .load _ a=>.load a
 | .buildSlice _ _ _=>.build
 | .store _ a _=>.store a
 |_=>.plain
def Vg:ai->Nat
 | .pointer (some x)=>3+3*x.block
 |_=>1
def Vh:ai->Nat
 | .pointer (some x)=>5+3*x.block
 |_=>2
def sf (c:KC) (e:Env) (n:Nat):Nat:=match c with
 | .load a=>Vg (br e a)
 | .build=>4+3*n
 |_=>1
def Ff (c:KC) (e:Env):Nat:=match c with
 | .store a=>Vh (br e a)
 |_=>2
theorem zu1 (A o:Nat):Vg (.pointer (some ⟨A,o,none⟩))=3+3*A:=rfl
theorem zu2 (A o:Nat):Vh (.pointer (some ⟨A,o,none⟩))=5+3*A:=rfl
theorem zsz (a:Operand) (e:Env) (n:Nat):sf (.load a) e n=Vg (br e a):=rfl
theorem zpw (e:Env) (n:Nat):sf .build e n=4+3*n:=rfl
theorem zpx (e:Env) (n:Nat):sf .plain e n=1:=rfl
theorem zpy (a:Operand) (e:Env) (n:Nat):sf (.store a) e n=1:=rfl
theorem zpz (a:Operand) (e:Env):Ff (.store a) e=Vh (br e a):=rfl
section
variable {T:bx}
theorem zkI {o:Oper} {h':Heap} (hb:nV T o=false) (hl:h.size<=h'.low):iJ T o e h h'=sf (lF o) e h.size:=by
 unfold iJ
 rw [aA (by rw [hb];decide),aG hl]
 unfold sf lF
 obtain ⟨dst,op,ty,pos,after,guard⟩:=o
 cases op <;> rfl
theorem zsy {o:Oper} {h':Heap} (hb:nV T o=false) (hl:¬ h.size<=h'.low):iJ T o e h h'=Ff (lF o) e:=by
 unfold iJ
 rw [aA (by rw [hb];decide),aA hl]
 unfold Ff lF
 obtain ⟨dst,op,ty,pos,after,guard⟩:=o
 cases op <;> rfl
end
section
variable (P:Program) (T:bx) (ov:Ov)
def cL (b:Nat) (ops:Array Oper):List Oper->List Nat->Env->Heap->(List Nat->Env->Heap->Prop)->Prop
 | [],ks,e,h,Q=>Q ks e h
 |o::l,ks,e,h,Q=>oF (kU ops o e)
    (if dS o=true then bU P T ov o e h λv _=>cL b ops l (ks++[sf (lF o) e h.size]) (put e o.dst v) h Q
     else bU P T ov o e { h with low:=h.size } λv h'=>(b<=h'.low/\h.size<=h'.size)/\((h.size<=h'.low/\cL b ops l (ks++[sf (lF o) e h.size]) (put e o.dst v) h' Q)\/(¬ h.size<=h'.low/\cL b ops l (ks++[Ff (lF o) e]) (put e o.dst v) h' Q)))
    (cL b ops l (ks++[0]) (put e o.dst undef) h Q)
def US (b:Nat) (ops:Array Oper) (l:List Oper) (ks:List Nat) (d:Option Tmp) (Q:List Nat->Env->Heap->Prop) (e:Env) (h:Heap) (k:Nat):aL:=λv _=>Hid (cL P T ov b ops l (ks++[k]) (put e d v) h Q)
def Nb (b:Nat) (ops:Array Oper) (l:List Oper) (ks:List Nat) (d:Option Tmp) (Q:List Nat->Env->Heap->Prop) (e:Env) (h:Heap) (k1 k2:Nat):aL:=λv h' =>
 Hid ((b<=h'.low/\h.size<=h'.size)/\((h.size<=h'.low/\cL P T ov b ops l (ks++[k1]) (put e d v) h' Q)\/(¬ h.size<=h'.low/\cL P T ov b ops l (ks++[k2]) (put e d v) h' Q)))
def EF (b:Nat) (ops:Array Oper) (o:Oper) (l:List Oper) (ks:List Nat) (d:Option Tmp) (e:Env) (h:Heap) (Q:List Nat->Env->Heap->Prop) (c:KC) (w q:Bool):Prop :=
 if w=true then (if q=true then bU P T ov o e h (US P T ov b ops l ks d Q e h (sf c e h.size)) else bU P T ov o e (h.lay [] h.size) (Nb P T ov b ops l ks d Q e h (sf c e h.size) (Ff c e))) else cL P T ov b ops l (ks++[0]) (put e d undef) h Q
end
section
variable {P:Program} {T:bx} {ov:Ov}
theorem zoU (b:Nat) (ops:Array Oper) (o:Oper) (l:List Oper) (ks:List Nat) (e:Env) (h:Heap) (Q:List Nat->Env->Heap->Prop):cL P T ov b ops (o::l) ks e h Q=EF P T ov b ops o l ks o.dst e h Q (lF o) (kU ops o e) (dS o):=by
 simp only [cL,oF,EF]
 split
 .split
  .exact propext ⟨bU.mono λ_ _ hw=>⟨hw⟩,bU.mono λ_ _ hw=>hw.out⟩
  .exact propext ⟨bU.mono λ_ _ hw=>⟨hw⟩,bU.mono λ_ _ hw=>hw.out⟩
 .rfl
theorem zlh (b:Nat) (ops:Array Oper) (o:Oper) (l:List Oper) (ks:List Nat) (d:Option Tmp) (e:Env) (h:Heap) (Q:List Nat->Env->Heap->Prop) (c:KC):EF P T ov b ops o l ks d e h Q c true true=bU P T ov o e h (US P T ov b ops l ks d Q e h (sf c e h.size)):=rfl
theorem zmO (b:Nat) (ops:Array Oper) (o:Oper) (l:List Oper) (ks:List Nat) (d:Option Tmp) (e:Env) (h:Heap) (Q:List Nat->Env->Heap->Prop) (c:KC):EF P T ov b ops o l ks d e h Q c true false=bU P T ov o e (h.lay [] h.size) (Nb P T ov b ops l ks d Q e h (sf c e h.size) (Ff c e)):=rfl
theorem zmP (b:Nat) (ops:Array Oper) (o:Oper) (l:List Oper) (ks:List Nat) (d:Option Tmp) (e:Env) (h:Heap) (Q:List Nat->Env->Heap->Prop) (c:KC) (q:Bool):EF P T ov b ops o l ks d e h Q c false q=cL P T ov b ops l (ks++[0]) (put e d undef) h Q:=rfl
theorem zrT (b:Nat) (ops:Array Oper) (l:List Oper) (ks:List Nat) (d:Option Tmp) (Q:List Nat->Env->Heap->Prop) (e:Env) (h:Heap) (k:Nat) (v:ai) (h':Heap):US P T ov b ops l ks d Q e h k v h'=cL P T ov b ops l (ks++[k]) (put e d v) h Q:=UZ _
theorem Z0 {l:List Oper} {d:Option Tmp} {Q:List Nat->Env->Heap->Prop} {hh:Heap} {pZ bs:List bc} {w s k1 k2:Nat} {v:ai} (hl:pZ.length<=bs.length) (hb:b<=s) (hs:hh.size+pZ.length<=s)
 (hk:cL P T ov b ops l (ks++[k1]) (put e d v) (hh.lay bs s) Q):Nb P T ov b ops l ks d Q e (hh.lay pZ w) k1 k2 v (hh.lay bs s) :=
 ⟨⟨⟨hb,by rw [bo,bo];omega⟩,.inl ⟨by rw [bo];exact hs,hk⟩⟩⟩
theorem Z1 {l:List Oper} {d:Option Tmp} {Q:List Nat->Env->Heap->Prop} {hh:Heap} {pZ bs:List bc} {w s k1 k2:Nat} {v:ai} (hl:pZ.length=bs.length) (hb:b<=s) (hs:s < hh.size+pZ.length)
 (hk:cL P T ov b ops l (ks++[k2]) (put e d v) (hh.lay bs s) Q):Nb P T ov b ops l ks d Q e (hh.lay pZ w) k1 k2 v (hh.lay bs s) :=
 ⟨⟨⟨hb,by rw [bo,bo];omega⟩,.inr ⟨by rw [bo];show ¬ _<=s;omega,hk⟩⟩⟩
structure Told (T:bx) (ops:Array Oper) (k0 ks:List Nat):Prop where
 len:k0.length=ks.length
 blind:∀ i,i < k0.length->kK T ops i=true->k0.getD i 2=0
 same:∀ i,i < k0.length->kK T ops i=false->k0.getD i 2=ks.getD i 2
theorem Ml (l:List Nat) (c i:Nat) (hi:i < (l++[c]).length):(i < l.length/\(l++[c]).getD i 2=l.getD i 2)\/(i=l.length/\(l++[c]).getD i 2=c):=by
 rw [dx,j9] at hi
 by_cases aW:i < l.length
 .refine .inl ⟨aW,?_⟩
  rw [lk,lk,kY aW]
 .have:i=l.length:=by omega
  subst this
  refine .inr ⟨rfl,?_⟩
  rw [lk,n9 (by omega),DB]
  rfl
theorem Told.snoc {k0:List Nat} {c d:Nat} (h:Told T ops k0 ks) (hb:kK T ops k0.length=true->c=0) (hs:kK T ops k0.length=false->c=d):Told T ops (k0++[c]) (ks++[d]):=by
 refine ⟨by simp [h.len],λi hi jh=>?_,λi hi jh=>?_⟩
 .rcases Ml k0 c i hi with ⟨g1,g2⟩|⟨g1,g2⟩
  .rw [g2];exact h.blind i g1 jh
  .rw [g2];rw [g1] at jh;exact hb jh
 .rcases Ml k0 c i hi with ⟨g1,g2⟩|⟨g1,g2⟩
  .rcases Ml ks d i (by simp [<- h.len];omega) with ⟨f1,f2⟩|⟨f1,f2⟩
   .rw [g2,f2];exact h.same i g1 jh
   .have:=h.len;omega
  .rcases Ml ks d i (by simp [<- h.len];omega) with ⟨f1,f2⟩|⟨f1,f2⟩
   .have:=h.len;omega
   .rw [g2,f2];rw [g1] at jh;exact hs jh
theorem cL.vF {ops:Array Oper} {b:Nat}:∀ (l:List Oper) (k0 ks:List Nat) (e:Env) (h:Heap) (m:Nat) (Q:List Nat->Env->Heap->Prop),b<=h.size->b<=m->ops.toList.drop k0.length=l->Told T ops k0 ks->cL P T ov b ops l ks e h Q ->
 bF P T ov ops l k0 e { h with low:=m } λzj e' h'=>∃ dD h1 m',zj.length=k0.length+l.length/\Told T ops zj dD/\Q dD e' h1/\b<=m'/\h'={ h1 with low:=m' }
 | [],k0,ks,e,h,m,Q,hb,hm,hd,ou,hw=>⟨ks,h,m,rfl,ou,hw,hm,rfl⟩
 |o::l,k0,ks,e,h,m,Q,hb,hm,hd,ou,hw=>by
  have jh:kK T ops k0.length=nV T o:=by
   have:ops[k0.length]? = some o:=by
    have h1:(ops.toList.drop k0.length)[0]? = some o:=by rw [hd];rfl
    rw [ka] at h1
    simpa using h1
   simp only [kK,this]
  have ko:∀ c,ops.toList.drop (k0++[c]).length=l:=by
   intro c
   rw [dx,j9,<- yz,hd]
   rfl
  have fin:∀ (c:Nat) (zj:List Nat) (e':Env) (h':Heap),(∃ dD h1 m',zj.length=(k0++[c]).length+l.length/\Told T ops zj dD/\Q dD e' h1/\b<=m'/\h'={ h1 with low:=m' }) ->
   ∃ dD h1 m',zj.length=k0.length+(o::l).length/\Told T ops zj dD/\Q dD e' h1/\b<=m'/\h'={ h1 with low:=m' }:=by
   rintro c zj e' h' ⟨dD,h1,m',g1,g2⟩
   refine ⟨dD,h1,m',?_,g2⟩
   simp only [dx,dB,cW] at g1 ⊢
   omega
  have kz:∀ h1 h2:Heap,kK T ops k0.length=true->iJ T o e h1 h2=0:=by
   intro h1 h2 hb
   unfold iJ
   rw [aG (jh ▸ hb)]
  simp only [cL,bF,oF] at hw ⊢
  split at hw
  .rename_i eY
   rw [aG eY]
   split at hw
   .rename_i hq
    have h0:=bU.quiet hq hw h.size
    refine bU.mono (λv h' ⟨he,hw⟩=>?_) h0
    subst he
    refine bF.mono _ _ _ _ _ _ (λdD e' h' rf=>fin _ dD e' h' rf) (cL.vF l _ _ _ h (min m h.size) Q hb (by omega) (ko _) (ou.snoc (λhb=>kz _ _ hb) (λhb=>zkI (h:={ h with low:=m }) (by rw [<- jh];exact hb) (aS _))) hw)
   .refine bU.mono (λv h' ⟨⟨h2,h3⟩,hw⟩=>?_) hw
    rcases hw with ⟨h1,hw⟩|⟨h1,hw⟩
    .exact bF.mono _ _ _ _ _ _ (λdD e' h' rf=>fin _ dD e' h' rf) (cL.vF l _ _ _ h' (min m h'.low) Q (by omega) (by omega) (ko _) (ou.snoc (λhb=>kz _ _ hb) (λhb=>zkI (h:={ h with low:=m }) (by rw [<- jh];exact hb) h1)) hw)
    .exact bF.mono _ _ _ _ _ _ (λdD e' h' rf=>fin _ dD e' h' rf) (cL.vF l _ _ _ h' (min m h'.low) Q (by omega) (by omega) (ko _) (ou.snoc (λhb=>kz _ _ hb) (λhb=>zsy (h:={ h with low:=m }) (by rw [<- jh];exact hb) h1)) hw)
  .rename_i eY
   rw [aA eY]
   exact bF.mono _ _ _ _ _ _ (λdD e' h' rf=>fin 0 dD e' h' rf) (cL.vF l _ _ _ h m Q hb hm (ko _) (ou.snoc (λ_=>rfl) (λ_=>rfl)) hw)
theorem zu7 {ms:List Nat} {p:Nat × Nat} (h:p∈Fg T ops ms):p.1 < ops.size/\p.2 < ops.size/\kK T ops p.1=false/\kK T ops p.2=false:=by
 unfold Fg at h
 obtain ⟨j,hj,h⟩:=List.mem_flatMap.1 h
 obtain ⟨i,hi,h⟩:=List.mem_filterMap.1 h
 have hj:=pQ.1 hj
 have hi:=pQ.1 hi
 split at h
 .cases h
 .rename_i hc
  cases h
  simp only [qH,not_or,Bool.not_eq_true] at hc
  exact ⟨by omega,hj,hc.1.2,hc.2⟩
theorem zkK {ops:Array Oper} {k0 ks:List Nat} (h:Told T ops k0 ks) (hn:k0.length=ops.size):∀ {ps:List (Nat × Nat)},(∀ p∈ps,p.1 < ops.size/\p.2 < ops.size/\kK T ops p.1=false/\kK T ops p.2=false)->vT ks ps=true->vT k0 ps=true
 | [],_,_=>rfl
 |(i,j)::ps,hp,hl=>by
  obtain ⟨h1,h2,h3,h4⟩:=hp (i,j) pO
  unfold vT at hl ⊢
  rw [dj] at hl ⊢
  rw [h.same i (by rw [hn];exact h1) h3,h.same j (by rw [hn];exact h2) h4]
  exact ⟨hl.1,zkK h hn (λp hm=>hp p (sn _ hm)) hl.2⟩
theorem zyu {K:Code} (hd:EU K=true) {rd:Option Nat} {h0:Heap} {Q:Ex->Env->Heap->Prop} {ps:List (Nat × Nat)} (tK:Fg T (iY K) (kV (iY K).toList [])=ps) (z:Ext h0 h)
 (hw:cL P T ov (min h0.low h0.size) (iY K) (jA (iY K) 0) [] e h λks e' h1=>vT ks ps=true/\wo h0 h1/\wF h0 Q e' h1):W P T ov rd K e h Q:=by
 unfold EU at hd
 split at hd
 .rename_i i A
  have tK:Fg T A (kV A.toList [])=ps:=tK
  have hw:cL P T ov (min h0.low h0.size) A A.toList [] e h λks e' h1=>vT ks ps=true/\wo h0 h1/\wF h0 Q e' h1:=hw
  show bF P T ov A A.toList [] e h (zAQ A Q)
  have key:=cL.vF (T:=T) A.toList [] [] e h h.low _ (show min h0.low h0.size<=h.size by have:=z.size;omega) z.low rfl ⟨rfl,λi hi=>absurd hi (uZ _),λi hi=>absurd hi (uZ _)⟩ hw
  refine bF.mono _ _ _ _ _ _ (λk0 e' h' hq=>?_) key
  obtain ⟨ks,h1,m,hlen,ht,⟨hl,hi,hq⟩,hm,rfl⟩:=hq
  have hn:k0.length=A.size:=by simpa using hlen
  refine ⟨zup (T:=T) hd ?_ (λi hi hb=>ht.blind i (by rw [hn];exact hi) hb),?_⟩
  .rw [tK]
   refine zkK ht hn (λp hp=>?_) hl
   rw [<- tK] at hp
   exact zu7 hp
  .refine hq hi { h1 with low:=m } ⟨hi.size,hi.get,hm⟩ ⟨aS _,λ_ _=>rfl,?_⟩ rfl
   show min m h1.size<=m
   omega
 .cases hd
end
def xJ (A:Array Oper) (L:List Oper):List Oper->Nat->Prop
 | [],n=>∀ (P:Program) (T:bx) (ov:Ov) (b:Nat) (ks:List Nat) (e:Env) (h:Heap) (Q:List Nat->Env->Heap->Prop),cL P T ov b A (jA A n) ks e h Q=Q ks e h
 |o::l,n=>(∀ (P:Program) (T:bx) (ov:Ov) (b:Nat) (ks:List Nat) (e:Env) (h:Heap) (Q:List Nat->Env->Heap->Prop),cL P T ov b A (jA A n) ks e h Q=EF P T ov b A o (jA A (n+1)) ks o.dst e h Q (lF o) (kH L e o.guard) (dS o))/\xJ A L l (n+1)
theorem zrp (A:Array Oper) (h:∀ o∈A.toList,EK A.toList o=true):∀ (l:List Oper) (n:Nat),jA A n=l->(∀ o∈l,o∈A.toList)->xJ A A.toList l n
 | [],n,hl,_=>λP T ov b ks e h Q=>by rw [hl];rfl
 |o::l,n,hl,hm=>by
  have lZ:jA A (n+1)=l:=by
   unfold jA at hl ⊢
   have:=congrArg (List.drop 1) hl
   rw [yz] at this
   exact this
  refine ⟨λP T ov b ks e h' Q=>?_,zrp A h l (n+1) lZ (λx hx=>hm x (sn _ hx))⟩
  rw [hl,lZ,zoU,Uq (h o (hm o (pO ..)))]
def sb (N:Nat->Code) (m:Nat):Code->Nat->Prop
 | .seq a b,n=>sb N m a (n+1)/\sb N m b (n+1+aR a)
 | .cond _ a b,n=>sb N m a (n+1)/\sb N m b (n+1+aR a)
 | .rangeFunc _ _ a b,n=>sb N m a (n+1)/\sb N m b (n+1+aR a)
 | .block _ a,n=>sb N m a (n+1)
 | .loop a,n=>sb N m a (n+1)
 | .scope a,n=>sb N m a (n+1)
 | .region _ A true,n=>n=m->xJ (iY (N n)) A.toList A.toList 0
 |_,_=>True
theorem vN (N:Nat->Code) (m:Nat):∀ (c:Code) (n:Nat),lg c=true->(∀ k,k < aR c->N (n+k)=eN c k)->sb N m c n
 | .seq a b,n,hw,h=>by
  simp only [lg,dj] at hw
  obtain ⟨e1,e2,f1,f2⟩:=Ei (a:=a) (b:=b) h (λk h1 h2=>by simp only [eN];rw [aA (by omega),aG h2]) (λk h1=>by simp only [eN];rw [aA (by omega),aA (by omega)]) (jy _) (jy _)
  exact ⟨vN N m a _ hw.1 f1,vN N m b _ hw.2 f2⟩
 | .cond o a b,n,hw,h=>by
  simp only [lg,dj] at hw
  obtain ⟨e1,e2,f1,f2⟩:=Ei (a:=a) (b:=b) h (λk h1 h2=>by simp only [eN];rw [aA (by omega),aG h2]) (λk h1=>by simp only [eN];rw [aA (by omega),aA (by omega)]) (jy _) (jy _)
  exact ⟨vN N m a _ hw.1 f1,vN N m b _ hw.2 f2⟩
 | .rangeFunc g ps a b,n,hw,h=>by
  simp only [lg,dj] at hw
  obtain ⟨e1,e2,f1,f2⟩:=Ei (a:=a) (b:=b) h (λk h1 h2=>by simp only [eN];rw [aA (by omega),aG h2]) (λk h1=>by simp only [eN];rw [aA (by omega),aA (by omega)]) (jy _) (jy _)
  exact ⟨vN N m a _ hw.1 f1,vN N m b _ hw.2 f2⟩
 | .block i a,n,hw,h=>by
  obtain ⟨e1,f1⟩:=Ez (a:=a) h (λk h1=>by simp only [eN];rw [aA (by omega)])
  exact vN N m a _ hw f1
 | .loop a,n,hw,h=>by
  obtain ⟨e1,f1⟩:=Ez (a:=a) h (λk h1=>by simp only [eN];rw [aA (by omega)])
  exact vN N m a _ hw f1
 | .scope a,n,hw,h=>by
  obtain ⟨e1,f1⟩:=Ez (a:=a) h (λk h1=>by simp only [eN];rw [aA (by omega)])
  exact vN N m a _ hw f1
 | .region i A true,n,hw,h=>by
  have h0:N n=.region i A true:=h 0 (jy _)
  have hr:iY (N n)=A:=by rw [h0];rfl
  simp only [lg,dj,gz,Bool.not_true,DA] at hw
  intro _
  rw [hr]
  exact zrp A hw.1 _ 0 rfl (λo ho=>ho)
 | .region i A false,n,hw,h=>trivial
 | .exit i,n,hw,h=>trivial
 | .ret,n,hw,h=>trivial
 | .skip,n,hw,h=>trivial
 | .label l,n,hw,h=>trivial
 | .goto l,n,hw,h=>trivial
 | .refuse w,n,hw,h=>trivial
theorem zwD (N:Nat->Code) (m:Nat) (f:Func) (hN:N=bD f:=by rfl) (hw:lg (codeOf f)=true:=by kernel_rfl):sb N m (codeOf f) 0 :=
 vN N m _ 0 hw (λk _=>by rw [hN,ia];rfl)
theorem zAr {a:Nat} (ha:a % 3≠2) (hb:b % 3≠2):lE a b=true:=by
 unfold lE
 simp [ha,hb]
theorem zAq {x y:Nat} (h:x≠y):lE (3+3*x) (5+3*y)=true:=by
 unfold lE
 simp only [qH,dj,Nat.ble_eq,beq_iff_eq,bne_iff_ne]
 right
 refine ⟨⟨⟨by omega,by omega⟩,by omega⟩,.inl ⟨by omega,by omega⟩⟩
noncomputable def zr:=PLift.up (And.intro @zlh <| And.intro @zmO <| And.intro @zmP <| And.intro @zrT <| And.intro @zsz <| And.intro @zpw <| And.intro @zpx <| And.intro @zpy <| And.intro @zpz <| And.intro @zu1 <| @zu2)
theorem rz:type_of% zr.down:=zr.down
end Go.Am
namespace Go.Proofs.YtnkmeidmdaidhaaGreatDoor
open Go.Am Tryz
set_option maxRecDepth 100000
set_option maxHeartbeats 0
theorem zyk {Z:Type} {r:aF Z} {h:Heap} {v:ai} {l:List Z} (f:Sl r h v l):l.length<=9223372036854775807:=f.le
theorem ZZ (l:aU) (v u:ai) (h:Heap) (hl:Sl aF.atom h v l) (hu:Sl aF.atom h u l) (K:aL) (hk:∀ h',Ext h h'->K (.bool true) h'):Ok prog aH ov 38 [v,u] h K:=by
 have hn:=zyk hl
 rw [aq h]
 have z:=Ext.refl h
 have dG:=λ(hh:Heap)=>hl.bP cF hh
 have yZ:=λ(hh:Heap)=>hu.bP cF hh
 refine Ok.aC 24 (bH Vz) ?_
 repeat' (simp only [aa,seval,sO,dG,yZ,bne_self_eq_false])
 obtain ⟨I1,aY⟩:∃ I:Nat->Env->Heap->Prop,I=(λn e h'=>∃ (i:Nat) (h1:Heap),h'=h1.lay [] h1.low/\Ext h h1/\(n=l.length - i/\i<=l.length)/\∃ J:Nat->ai,e=(v::u::jr J 2 3 (.int .i64 i::jr J 6 20 ([])))):=⟨_,rfl⟩
 refine dV I1 _ (by rw [aY];exact ⟨0,_,rfl,z,⟨rfl,by omega⟩,bw⟩) ?_
 intro n e h' aT
 rw [aY] at aT
 obtain ⟨i,bW,rfl,z,hinv,J,rfl⟩:=aT
 obtain ⟨rfl,hi⟩:=hinv
 have hz:=z.size
 simp only [aa,seval,sO,dG]
 refine b9 (λaW=>?_) (λaW=>?_)
 rotate_left
 .repeat' ( simp only [aa,seval,sO])
  exact hk _ z.aw
 have jx:=fe i (by omega)
 obtain ⟨a,ha,P6⟩:=ig (l:=l) (i:=i) aW
 simp only [aa,seval,sO]
 with_reducible first|refine dO (by simp only [sO]) z.aw ?_
 simp only [aa,seval,sO]
 refine uQ (hl.mono z.inc) cF cw (by omega) ha (λp hp=>?_)
 simp only [aa,seval,sO]
 refine rq hp iM cw ?_
 clear hp
 simp only [aa,seval,sO]
 refine uQ (hu.mono z.inc) cF cw (by omega) ha (λp hp=>?_)
 simp only [aa,seval,sO]
 refine rq hp iM cw ?_
 clear hp
 simp only [aa,seval,sO,zmW]
 ((with_reducible refine ⟨z.cI.lay _ _,?_⟩);(intro _ h' zz x _);(simp only [bK,bu] at x);(replace z:=zz);(clear zz);rw [aq h'])
 repeat' (simp only [aa,seval,sO])
 rw [jx]
 (rw [aY];with_reducible refine cR (m:=_) ?_ ⟨i+1,_,rfl,z,⟨rfl,by omega⟩,bw⟩;omega)
noncomputable def Jb:=PLift.up (by have c:=zwD KD 24 f19;simp only [codeOf,f19,yw,sb,xJ,aR,kH,dS,lF,List.append_eq,qG,yy,ia,Nat.reduceAdd,true_implies,and_true,true_and] at c;exact c)
theorem oS:type_of% Jb.down:=Jb.down
theorem zwy (a:ae) (n:Int) (b:ai):cut (a.cells++[.int .i64 n,b]) 0 11=some a.cells:=rfl
theorem zuj (a:ae) (n:Int) (b:ai):(a.cells++[.int .i64 n,b])[11]? = some (.int .i64 n):=rfl
theorem zuk (a:ae) (n:Int) (b:ai):(a.cells++[.int .i64 n,b])[12]? = some b:=rfl
abbrev FR (h:Heap) (w1 w2:ai) (l:aU) (r:List aV):Prop:=Sl aF.atom h w1 l/\Sl aF.reason h w2 r
theorem znY (l:aU) (n0 t:Int) (r:List aV) (w1 w2 u1 u2:ai) (h:Heap) (hw:FR h w1 w2 l r) (hu:FR h u1 u2 l r)(K:aL) (hk:∀ h',Ext h h'->K (.bool true) h'):Ok prog aH ov 19 [.agg ⟨[w1,.int .i64 n0,.int .i64 t,w2]⟩,.agg ⟨[u1,.int .i64 n0,.int .i64 t,u2]⟩] h K:=by
 rw [aq h]
 obtain ⟨pn,jL⟩:=hw
 obtain ⟨Ll,Ry⟩:=hu
 have hr:=zyk jL
 have z:=Ext.refl h
 have cu:∀ (u:ai) (h:Heap) (K:aL),aK (some u) h K=K u h:=λ_ _ _=>rfl
 have rS:=λ(hh:Heap)=>jL.bP nx hh
 have yZ:=λ(hh:Heap)=>Ry.bP nx hh
 have xo:=pn.one
 have BL:=jL.one
 have ho3:=Ll.one
 have ho4:=Ry.one
 refine Ok.aC 72 (bH KD) ?_
 simp only [aa,seval,rO,cu]
 refine ZZ l w1 u1 _ (pn.lay _ _) (Ll.lay _ _) _ (λh' x=>?_)
 have q0:=ak.top (i:=0) x rfl
 have q1:=ak.top (i:=1) x rfl
 (replace z:=z.ao x;rw [aq h'])
 repeat' (first|simp only [aa,seval,rO,cu,q0.lay,q1.lay,bne_self_eq_false,rS,yZ]|((with_reducible apply cn);(· rfl)))
 have rm:∀ (h:Heap) (K:aL),aK (some w2) h K=K w2 h:=λ_ _=>rfl
 have rp:∀ (h:Heap) (K:aL),aK (some u2) h K=K u2 h:=λ_ _=>rfl
 obtain ⟨I1,aY⟩:∃ I:Nat->Env->Heap->Prop,I=(λn e h'=>∃ (i:Nat) (h1:Heap),h'=h1.lay [] h1.low/\Ext h h1/\(n=r.length - i/\i<=r.length/\ak h1 (h.size+0) (.row [w1,.int .i64 n0,.int .i64 t,w2] 40 false)/\ak h1 (h.size+1) (.row [u1,.int .i64 n0,.int .i64 t,u2] 40 false))/\∃ J:Nat->ai,e=(jr J 0 2 (.pointer (some ⟨h.size+0,0,none⟩)::.pointer (some ⟨h.size+1,0,none⟩)::J 4::.int .i64 i::jr J 6 68 ([])))):=⟨_,rfl⟩
 refine dV I1 _ (by rw [aY];exact ⟨0,_,rfl,z,⟨rfl,by omega,q0,q1⟩,bw⟩) ?_
 intro n e h' aT
 rw [aY] at aT
 obtain ⟨i,bW,rfl,z,hinv,J,rfl⟩:=aT
 clear q0 q1
 obtain ⟨rfl,hi,q0,q1⟩:=hinv
 have hz:=z.size
 simp only [aa,seval,rO,q0.lay,rm,rS]
 refine b9 (λaW=>?_) (λaW=>?_)
 rotate_left
 .repeat' ( simp only [aa,seval,rO])
  exact hk _ z.aw
 have jx:=fe i (by omega)
 obtain ⟨rr,ha,P6⟩:=ig (l:=r) (i:=i) aW
 simp only [aa,seval,rO]
 have q0l:=q0.lt
 have q1l:=q1.lt
 refine zyu (K:=(KD 24)) (by simp only [rO]) (ps:=[(1,6),(4,6),(1,9),(4,9),(1,10),(4,10),(6,10),(9,10),(1,11),(4,11),(6,11),(9,11),(10,11),(6,12),(9,12)]) (by kernel_rfl) z.aw ?_
 simp only [aa,seval,rO,rz,oS,q0.lay,rm]
 refine zyf (jL.mono z.inc) nx rA (by omega) ha (λp b1 ng hp=>?_)
 obtain ⟨A4,o4,Ij,u4,ro4,rfl,PH,GY,Qj⟩:=hp
 have hq4:ak bW A4 (.row Ij u4 ro4):=⟨PH,GY⟩
 replace Qj:cut Ij o4 13=some (rr.atom.cells++[.int .i64 rr.clause,b1]):=Qj
 simp only [aa,seval,rO,rz,oS,q1.lay,rp,hq4.lay,↓Qj]
 refine zyf (Ry.mono z.inc) nx rA (by omega) ha (λp b2 jg hp=>?_)
 obtain ⟨A9,o9,Ik,u9,ro9,rfl,hA9,hg9,qf⟩:=hp
 have hq9:ak bW A9 (.row Ik u9 ro9):=⟨hA9,hg9⟩
 replace qf:cut Ik o9 13=some (rr.atom.cells++[.int .i64 rr.clause,b2]):=qf
 simp only [aa,seval,rO,rz,oS,hq9.lay,↓qf]
 have xo:=UF (a:=rr.atom) (n:=rr.clause) ng.one
 have BL:=UF (a:=rr.atom) (n:=rr.clause) jg.one
 with_reducible refine Z0 (jv _) ?_ ?_ ?_
 .omega
 .first|omega|(simp only [cW];omega)
 simp only [aa,seval,rO,rz,oS]
 with_reducible refine Z0 (by simp only [dB,cW];omega) ?_ ?_ ?_
 .omega
 .first|omega|(simp only [dB,cW];omega)
 simp only [aa,seval,rz,oS]
 refine ye (i:=0) rfl rA rfl rfl rfl xo ?_
 simp only [bM,seval,eA]
 with_reducible refine Z1 (by simp only [dB,cW]) ?_ ?_ ?_
 .omega
 .simp only [dB,cW];omega
 simp only [aa,seval,rz,oS]
 refine ye (i:=1) rfl rA rfl rfl rfl BL ?_
 simp only [bM,seval,eA,yo]
 with_reducible refine Z1 (by simp only [dB,cW]) ?_ ?_ ?_
 .omega
 .simp only [dB,cW];omega
 simp only [bM,seval,oS]
 refine ⟨by (simp only [vT,List.getD_cons_zero,List.getD_cons_succ,Dz,dj];(repeat' apply And.intro) <;> first|exact zAr (by omega) (by omega)|exact zAq (by omega)),?_⟩
 have g1:=aP.refl [] bW
 ((with_reducible refine ⟨z.cI.lay _ _,?_⟩);(intro _ h' zz x _);(simp only [bK,bu] at x);replace q0:=q0.over x;replace q1:=q1.over x;replace g1:=g1.over x;(replace z:=zz);(clear zz);rw [aq h'])
 have q2:=ak.top (i:=0) x rfl
 have q3:=ak.top (i:=1) x rfl
 have RD:∀ (h:Heap) (K:aL),aK (some b1) h K=K b1 h:=λ_ _=>rfl
 have RE:∀ (h:Heap) (K:aL),aK (some b2) h K=K b2 h:=λ_ _=>rfl
 repeat' (simp only [aa,seval,rO,q2.lay,q3.lay,↓zwy,zuj,zuk,dJ,dt,zmW,bne_self_eq_false,RD,RE])
 refine ZZ rr.body b1 b2 _ ((ng.mono g1.all).lay _ _) ((jg.mono g1.all).lay _ _) _ (λh' x=>?_)
 (replace z:=z.ao x;replace q0:=q0.over x;replace q1:=q1.over x;replace q2:=q2.over x;replace q3:=q3.over x;replace g1:=g1.over x;rw [aq h'])
 repeat' (first|simp only [aa,seval,rO]|((with_reducible apply cn);(· rfl)))
 rw [jx]
 (rw [aY];with_reducible refine cR (m:=_) ?_ ⟨i+1,_,rfl,z,⟨rfl,by omega,q0,q1⟩,bw⟩;omega)
theorem zvk (h:Heap) (K:aL) (hk:∀ h',Ext h h'->K (.bool true) h'):Ok prog aH ov 35 [.slice none 0 0,.slice none 0 0] h K:=by
 rw [aq h]
 have z:=Ext.refl h
 have cu:∀ (u:ai) (h:Heap) (K:aL),aK (some u) h K=K u h:=λ_ _ _=>rfl
 refine Ok.aC 24 (bH Vx) ?_
 repeat' (simp only [aa,seval,Wl,cu,bne_self_eq_false])
 obtain ⟨I1,aY⟩:∃ I:Nat->Env->Heap->Prop,I=(λn e h'=>∃ (i:Nat) (h1:Heap),h'=h1.lay [] h1.low/\Ext h h1/\(n=0/\i=0)/\∃ J:Nat->ai,e=(.slice none 0 0::.slice none 0 0::jr J 2 10 (.int .i64 0::.int .i64 (i:Int)::jr J 14 12 ([])))):=⟨_,rfl⟩
 refine dV I1 _ (by rw [aY];exact ⟨0,_,rfl,z,⟨rfl,rfl⟩,bw⟩) ?_
 intro n e h' aT
 rw [aY] at aT
 obtain ⟨i,bW,rfl,z,hinv,J,rfl⟩:=aT
 obtain ⟨rfl,rfl⟩:=hinv
 have hz:=z.size
 simp only [aa,seval,Wl]
 exact hk _ z.aw
theorem zsV (g:ai) (h:Heap) (K:aL) (hk:∀ h',Ext h h'->K (.bool true) h'):Ok prog aH ov 36 [.slice none 0 0,.slice none 0 0,g] h K:=by
 rw [aq h]
 have z:=Ext.refl h
 have cu:∀ (u:ai) (h:Heap) (K:aL),aK (some u) h K=K u h:=λ_ _ _=>rfl
 refine Ok.aC 29 (bH Vy) ?_
 repeat' (simp only [aa,seval,Wm,cu,bne_self_eq_false])
 obtain ⟨I1,aY⟩:∃ I:Nat->Env->Heap->Prop,I=(λn e h'=>∃ (i:Nat) (h1:Heap),h'=h1.lay [] h1.low/\Ext h h1/\(n=0/\i=0)/\∃ J:Nat->ai,e=(.slice none 0 0::.slice none 0 0::jr J 2 14 (.int .i64 0::.int .i64 (i:Int)::jr J 18 14 ([])))):=⟨_,rfl⟩
 refine dV I1 _ (by rw [aY];exact ⟨0,_,rfl,z,⟨rfl,rfl⟩,bw⟩) ?_
 intro n e h' aT
 rw [aY] at aT
 obtain ⟨i,bW,rfl,z,hinv,J,rfl⟩:=aT
 obtain ⟨rfl,rfl⟩:=hinv
 have hz:=z.size
 simp only [aa,seval,Wm]
 exact hk _ z.aw
theorem zrh (h:Heap) (K:aL) (hk:∀ h',Ext h h'->K (.bool true) h'):Ok prog aH ov 18 [.agg ⟨[.slice none 0 0,.int .i64 0,.int .i64 0,.slice none 0 0]⟩,.agg ⟨[.slice none 0 0,.int .i64 0,.int .i64 0,.slice none 0 0]⟩] h K:=by
 rw [aq h]
 have z:=Ext.refl h
 have cu:∀ (u:ai) (h:Heap) (K:aL),aK (some u) h K=K u h:=λ_ _ _=>rfl
 refine Ok.aC 29 (bH Vl) ?_
 repeat' (simp only [aa,seval,NN,cu])
 refine zvk _ _ (λh' x=>?_)
 have q0:=ak.top (i:=0) x rfl
 have q1:=ak.top (i:=1) x rfl
 (replace z:=z.ao x;rw [aq h'])
 repeat' (simp only [aa,seval,NN,cu,q0.lay,q1.lay])
 refine zsV _ _ _ (λh' x=>?_)
 (replace z:=z.ao x;replace q0:=q0.over x;replace q1:=q1.over x;rw [aq h'])
 repeat' (simp only [aa,seval,NN,cu])
 exact hk _ z.aw
end Go.Proofs.YtnkmeidmdaidhaaGreatDoor
