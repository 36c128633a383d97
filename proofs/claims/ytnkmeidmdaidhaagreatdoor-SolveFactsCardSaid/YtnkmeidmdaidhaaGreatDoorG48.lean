/- Regions whose order is drawn, with kinds told for each operation: a store to what the region laid, a load of what it did not lay. No condition. -/
import Derived.Test.YtnkmeidmdaidhaaGreatDoorG44
import Derived.Test.YtnkmeidmdaidhaaGreatDoorG45
import Derived.Test.YtnkmeidmdaidhaaGreatDoorG47
set_option linter.unusedSimpArgs false
set_option linter.unusedVariables false
namespace Go.Am
variable {h h':Heap} {e:Env} {ks:List Nat} {ops:Array Oper} {b:Nat}
inductive KC where
 |plain
 |load (a:Operand)
 |build
 |store (a:Operand)
 |app (a:Operand)
def nE (o:Oper):KC:=match o.op with
 | .load _ a=>.load a
 | .buildSlice _ _ _=>.build
 | .store _ a _=>.store a
 | .call c=>(match c.callee,c.args.toList with
  | .builtin .append,a::_=>.app a
  |_,_=>.plain)
 |_=>.plain
def W9:ai->Nat
 | .pointer (some x)=>3+3*x.block
 |_=>1
def W4:ai->Nat
 | .pointer (some x)=>5+3*x.block
 |_=>2
def W3:ai->Nat
 | .slice (some x) _ _=>5+3*x.block
 |_=>2
def uH (c:KC) (e:Env) (n:Nat):Nat:=match c with
 | .load a=>W9 (bz e a)
 | .build=>4+3*n
 |_=>1
def Gj (c:KC) (e:Env):Nat:=match c with
 | .store a=>W4 (bz e a)
 | .app a=>W3 (bz e a)
 |_=>2
theorem zq3 (A o n c:Nat):W3 (.slice (some ⟨A,o,none⟩) n c)=5+3*A:=rfl
theorem zwW (a:Operand) (e:Env) (n:Nat):uH (.app a) e n=1:=rfl
theorem zwX (a:Operand) (e:Env):Gj (.app a) e=W3 (bz e a):=rfl
theorem zwV (A o:Nat):W9 (.pointer (some ⟨A,o,none⟩))=3+3*A:=rfl
theorem zwY (A o:Nat):W4 (.pointer (some ⟨A,o,none⟩))=5+3*A:=rfl
theorem zuj (a:Operand) (e:Env) (n:Nat):uH (.load a) e n=W9 (bz e a):=rfl
theorem zqY (e:Env) (n:Nat):uH .build e n=4+3*n:=rfl
theorem zqZ (e:Env) (n:Nat):uH .plain e n=1:=rfl
theorem zq0 (a:Operand) (e:Env) (n:Nat):uH (.store a) e n=1:=rfl
theorem zq2 (a:Operand) (e:Env):Gj (.store a) e=W4 (bz e a):=rfl
section
variable {T:bJ}
theorem zlz {o:Oper} (hb:pO T o=false) (hl:h.size<=h'.low):jH T o e h h'=uH (nE o) e h.size:=by
 unfold jH
 rw [az (by rw [hb];decide),aD hl]
 unfold uH nE
 obtain ⟨dst,op,ty,pos,after,guard⟩:=o
 cases op <;> try rfl
 case call c =>
  dsimp only
  split
  .rename_i heq;split at heq <;> cases heq
  .rename_i heq;split at heq <;> cases heq
  .rfl
theorem zui {o:Oper} (hb:pO T o=false) (hl:¬ h.size<=h'.low):jH T o e h h'=Gj (nE o) e:=by
 unfold jH
 rw [az (by rw [hb];decide),az hl]
 unfold Gj nE
 obtain ⟨dst,op,ty,pos,after,guard⟩:=o
 cases op <;> try rfl
 case call c =>
  obtain ⟨callee,args,iq⟩:=c
  dsimp only
  cases callee with
  |builtin b =>
   cases b <;> try rfl
   cases args.toList <;> rfl
  |_=>rfl
end
section
variable (P:Program) (T:bJ) (ov:Ov)
def dg (b:Nat) (ops:Array Oper):List Oper->List Nat->Env->Heap->(List Nat->Env->Heap->Prop)->Prop
 | [],ks,e,h,Q=>Q ks e h
 |o::l,ks,e,h,Q=>pR (ma ops o e)
    (if eR o=true then cv P T ov o e h λv _=>dg b ops l (ks++[uH (nE o) e h.size]) (put e o.dst v) h Q
     else cv P T ov o e { h with low:=h.size } λv h'=>(b<=h'.low/\h.size<=h'.size)/\((h.size<=h'.low/\dg b ops l (ks++[uH (nE o) e h.size]) (put e o.dst v) h' Q)\/(¬ h.size<=h'.low/\dg b ops l (ks++[Gj (nE o) e]) (put e o.dst v) h' Q)))
    (dg b ops l (ks++[0]) (put e o.dst undef) h Q)
def Zc (b:Nat) (ops:Array Oper) (l:List Oper) (ks:List Nat) (d:Option Tmp) (Q:List Nat->Env->Heap->Prop) (e:Env) (h:Heap) (k:Nat):aJ:=λv _=>Hid (dg P T ov b ops l (ks++[k]) (put e d v) h Q)
def Q1 (b:Nat) (ops:Array Oper) (l:List Oper) (ks:List Nat) (d:Option Tmp) (Q:List Nat->Env->Heap->Prop) (e:Env) (h:Heap) (k1 k2:Nat):aJ:=λv h' =>
 Hid ((b<=h'.low/\h.size<=h'.size)/\((h.size<=h'.low/\dg P T ov b ops l (ks++[k1]) (put e d v) h' Q)\/(¬ h.size<=h'.low/\dg P T ov b ops l (ks++[k2]) (put e d v) h' Q)))
def HZ (b:Nat) (ops:Array Oper) (o:Oper) (l:List Oper) (ks:List Nat) (d:Option Tmp) (e:Env) (h:Heap) (Q:List Nat->Env->Heap->Prop) (c:KC) (w q:Bool):Prop :=
 if w=true then (if q=true then cv P T ov o e h (Zc P T ov b ops l ks d Q e h (uH c e h.size)) else cv P T ov o e (h.lay [] h.size) (Q1 P T ov b ops l ks d Q e h (uH c e h.size) (Gj c e))) else dg P T ov b ops l (ks++[0]) (put e d undef) h Q
end
section
variable {P:Program} {T:bJ} {ov:Ov}
theorem zqj (b:Nat) (ops:Array Oper) (o:Oper) (l:List Oper) (ks:List Nat) (e:Env) (h:Heap) (Q:List Nat->Env->Heap->Prop):dg P T ov b ops (o::l) ks e h Q=HZ P T ov b ops o l ks o.dst e h Q (nE o) (ma ops o e) (eR o):=by
 simp only [dg,pR,HZ]
 split
 .split
  .exact propext ⟨cv.mono λ_ _ hw=>⟨hw⟩,cv.mono λ_ _ hw=>hw.out⟩
  .exact propext ⟨cv.mono λ_ _ hw=>⟨hw⟩,cv.mono λ_ _ hw=>hw.out⟩
 .rfl
theorem zmb (b:Nat) (ops:Array Oper) (o:Oper) (l:List Oper) (ks:List Nat) (d:Option Tmp) (e:Env) (h:Heap) (Q:List Nat->Env->Heap->Prop) (c:KC):HZ P T ov b ops o l ks d e h Q c true true=cv P T ov o e h (Zc P T ov b ops l ks d Q e h (uH c e h.size)):=rfl
theorem zn0 (b:Nat) (ops:Array Oper) (o:Oper) (l:List Oper) (ks:List Nat) (d:Option Tmp) (e:Env) (h:Heap) (Q:List Nat->Env->Heap->Prop) (c:KC):HZ P T ov b ops o l ks d e h Q c true false=cv P T ov o e (h.lay [] h.size) (Q1 P T ov b ops l ks d Q e h (uH c e h.size) (Gj c e)):=rfl
theorem zn1 (b:Nat) (ops:Array Oper) (o:Oper) (l:List Oper) (ks:List Nat) (d:Option Tmp) (e:Env) (h:Heap) (Q:List Nat->Env->Heap->Prop) (c:KC) (q:Bool):HZ P T ov b ops o l ks d e h Q c false q=dg P T ov b ops l (ks++[0]) (put e d undef) h Q:=rfl
theorem ztx (b:Nat) (ops:Array Oper) (l:List Oper) (ks:List Nat) (d:Option Tmp) (Q:List Nat->Env->Heap->Prop) (e:Env) (h:Heap) (k:Nat) (v:ai) (h':Heap):Zc P T ov b ops l ks d Q e h k v h'=dg P T ov b ops l (ks++[k]) (put e d v) h Q:=Zh _
theorem zqi {l:List Oper} {d:Option Tmp} {Q:List Nat->Env->Heap->Prop} {hh:Heap} {yg bs:List aZ} {w s k1 k2:Nat} {v:ai} (hl:yg.length<=bs.length) (hb:b<=s) (hs:hh.size+yg.length<=s)
 (hk:dg P T ov b ops l (ks++[k1]) (put e d v) (hh.lay bs s) Q):Q1 P T ov b ops l ks d Q e (hh.lay yg w) k1 k2 v (hh.lay bs s) :=
 ⟨⟨⟨hb,by rw [bh,bh];omega⟩,.inl ⟨by rw [bh];exact hs,hk⟩⟩⟩
theorem znT {A:Nat} {l:List Oper} {d:Option Tmp} {Q:List Nat->Env->Heap->Prop} {k1 k2:Nat} {v:ai} (hb:b<=h.size) (hA:b<=A) (x:ff A (h.lay [] h.size) h')
 (hk:∀ k,k=k1\/k=k2->dg P T ov b ops l (ks++[k]) (put e d v) h' Q):Q1 P T ov b ops l ks d Q e h k1 k2 v h':=by
 have h1:=x.low
 have h2:=x.size
 rw [QB,bh] at h1
 rw [bh] at h2
 simp only [db,gx] at h1 h2
 refine ⟨⟨⟨by omega,by omega⟩,?_⟩⟩
 by_cases hl:h.size<=h'.low
 .exact .inl ⟨hl,hk _ (.inl rfl)⟩
 .exact .inr ⟨hl,hk _ (.inr rfl)⟩
structure Told (T:bJ) (ops:Array Oper) (k0 ks:List Nat):Prop where
 len:k0.length=ks.length
 blind:∀ i,i < k0.length->mQ T ops i=true->k0.getD i 2=0
 same:∀ i,i < k0.length->mQ T ops i=false->k0.getD i 2=ks.getD i 2
theorem P9 (l:List Nat) (c i:Nat) (hi:i < (l++[c]).length):(i < l.length/\(l++[c]).getD i 2=l.getD i 2)\/(i=l.length/\(l++[c]).getD i 2=c):=by
 rw [cE,gF] at hi
 by_cases aT:i < l.length
 .refine .inl ⟨aT,?_⟩
  rw [me,me,jz aT]
 .have:i=l.length:=by omega
  subst this
  refine .inr ⟨rfl,?_⟩
  rw [me,lp (by omega),tp]
  rfl
theorem Told.snoc {k0:List Nat} {c d:Nat} (h:Told T ops k0 ks) (hb:mQ T ops k0.length=true->c=0) (hs:mQ T ops k0.length=false->c=d):Told T ops (k0++[c]) (ks++[d]):=by
 refine ⟨by simp [h.len],λi hi ke=>?_,λi hi ke=>?_⟩
 .rcases P9 k0 c i hi with ⟨g1,g2⟩|⟨g1,g2⟩
  .rw [g2];exact h.blind i g1 ke
  .rw [g2];rw [g1] at ke;exact hb ke
 .rcases P9 k0 c i hi with ⟨g1,g2⟩|⟨g1,g2⟩
  .rcases P9 ks d i (by simp [<- h.len];omega) with ⟨f1,f2⟩|⟨f1,f2⟩
   .rw [g2,f2];exact h.same i g1 ke
   .have:=h.len;omega
  .rcases P9 ks d i (by simp [<- h.len];omega) with ⟨f1,f2⟩|⟨f1,f2⟩
   .have:=h.len;omega
   .rw [g2,f2];rw [g1] at ke;exact hs ke
theorem dg.uo {ops:Array Oper} {b:Nat}:∀ (l:List Oper) (k0 ks:List Nat) (e:Env) (h:Heap) (m:Nat) (Q:List Nat->Env->Heap->Prop),b<=h.size->b<=m->ops.toList.drop k0.length=l->Told T ops k0 ks->dg P T ov b ops l ks e h Q ->
 bR P T ov ops l k0 e { h with low:=m } λCx e' h'=>∃ dp h1 m',Cx.length=k0.length+l.length/\Told T ops Cx dp/\Q dp e' h1/\b<=m'/\h'={ h1 with low:=m' }
 | [],k0,ks,e,h,m,Q,hb,hm,hd,n7,hw=>⟨ks,h,m,rfl,n7,hw,hm,rfl⟩
 |o::l,k0,ks,e,h,m,Q,hb,hm,hd,n7,hw=>by
  have ke:mQ T ops k0.length=pO T o:=by
   have:ops[k0.length]? = some o:=by
    have h1:(ops.toList.drop k0.length)[0]? = some o:=by rw [hd];rfl
    rw [lq] at h1
    simpa using h1
   simp only [mQ,this]
  have mx:∀ c,ops.toList.drop (k0++[c]).length=l:=by
   intro c
   rw [cE,gF,<- BG,hd]
   rfl
  have fin:∀ (c:Nat) (Cx:List Nat) (e':Env) (h':Heap),(∃ dp h1 m',Cx.length=(k0++[c]).length+l.length/\Told T ops Cx dp/\Q dp e' h1/\b<=m'/\h'={ h1 with low:=m' }) ->
   ∃ dp h1 m',Cx.length=k0.length+(o::l).length/\Told T ops Cx dp/\Q dp e' h1/\b<=m'/\h'={ h1 with low:=m' }:=by
   rintro c Cx e' h' ⟨dp,h1,m',g1,g2⟩
   refine ⟨dp,h1,m',?_,g2⟩
   simp only [cE,ek,db] at g1 ⊢
   omega
  have kz:∀ h1 h2:Heap,mQ T ops k0.length=true->jH T o e h1 h2=0:=by
   intro h1 h2 hb
   unfold jH
   rw [aD (ke ▸ hb)]
  simp only [dg,bR,pR] at hw ⊢
  split at hw
  .rename_i fT
   rw [aD fT]
   split at hw
   .rename_i hq
    have h0:=cv.quiet hq hw h.size
    refine cv.mono (λv h' ⟨he,hw⟩=>?_) h0
    subst he
    refine bR.mono _ _ _ _ _ _ (λdp e' h' tY=>fin _ dp e' h' tY) (dg.uo l _ _ _ h (min m h.size) Q hb (by omega) (mx _) (n7.snoc (λhb=>kz _ _ hb) (λhb=>zlz (h:={ h with low:=m }) (by rw [<- ke];exact hb) (aR _))) hw)
   .refine cv.mono (λv h' ⟨⟨h2,h3⟩,hw⟩=>?_) hw
    rcases hw with ⟨h1,hw⟩|⟨h1,hw⟩
    .exact bR.mono _ _ _ _ _ _ (λdp e' h' tY=>fin _ dp e' h' tY) (dg.uo l _ _ _ h' (min m h'.low) Q (by omega) (by omega) (mx _) (n7.snoc (λhb=>kz _ _ hb) (λhb=>zlz (h:={ h with low:=m }) (by rw [<- ke];exact hb) h1)) hw)
    .exact bR.mono _ _ _ _ _ _ (λdp e' h' tY=>fin _ dp e' h' tY) (dg.uo l _ _ _ h' (min m h'.low) Q (by omega) (by omega) (mx _) (n7.snoc (λhb=>kz _ _ hb) (λhb=>zui (h:={ h with low:=m }) (by rw [<- ke];exact hb) h1)) hw)
  .rename_i fT
   rw [az fT]
   exact bR.mono _ _ _ _ _ _ (λdp e' h' tY=>fin 0 dp e' h' tY) (dg.uo l _ _ _ h m Q hb hm (mx _) (n7.snoc (λ_=>rfl) (λ_=>rfl)) hw)
theorem zw3 {ms:List Nat} {p:Nat × Nat} (h:p∈Io T ops ms):p.1 < ops.size/\p.2 < ops.size/\mQ T ops p.1=false/\mQ T ops p.2=false:=by
 unfold Io at h
 obtain ⟨j,hj,h⟩:=BE.1 h
 obtain ⟨i,hi,h⟩:=List.mem_filterMap.1 h
 have hj:=rj.1 hj
 have hi:=rj.1 hi
 split at h
 .cases h
 .rename_i hc
  cases h
  simp only [sg,not_or,Bool.not_eq_true] at hc
  exact ⟨by omega,hj,hc.1.2,hc.2⟩
theorem zlB {ops:Array Oper} {k0 ks:List Nat} (h:Told T ops k0 ks) (hn:k0.length=ops.size):∀ {ps:List (Nat × Nat)},(∀ p∈ps,p.1 < ops.size/\p.2 < ops.size/\mQ T ops p.1=false/\mQ T ops p.2=false)->yT ks ps=true->yT k0 ps=true
 | [],_,_=>rfl
 |(i,j)::ps,hp,hl=>by
  obtain ⟨h1,h2,h3,h4⟩:=hp (i,j) np
  unfold yT at hl ⊢
  rw [dK] at hl ⊢
  rw [h.same i (by rw [hn];exact h1) h3,h.same j (by rw [hn];exact h2) h4]
  exact ⟨hl.1,zlB h hn (λp hm=>hp p (pS _ hm)) hl.2⟩
theorem zAI {K:Code} (hd:Ib K=true) {rd:Option Nat} {h0:Heap} {Q:Ex->Env->Heap->Prop} {ps:List (Nat × Nat)} (wS:Io T (kr K) (mS (kr K).toList [])=ps) (z:Ext h0 h)
 (hw:dg P T ov (min h0.low h0.size) (kr K) (ln (kr K) 0) [] e h λks e' h1=>yT ks ps=true/\pD h0 h1/\zG h0 Q e' h1):W P T ov rd K e h Q:=by
 unfold Ib at hd
 split at hd
 .rename_i i A
  have wS:Io T A (mS A.toList [])=ps:=wS
  have hw:dg P T ov (min h0.low h0.size) A A.toList [] e h λks e' h1=>yT ks ps=true/\pD h0 h1/\zG h0 Q e' h1:=hw
  show bR P T ov A A.toList [] e h (zDr A Q)
  have key:=dg.uo (T:=T) A.toList [] [] e h h.low _ (show min h0.low h0.size<=h.size by have:=z.size;omega) z.low rfl ⟨rfl,λi hi=>absurd hi (vx _),λi hi=>absurd hi (vx _)⟩ hw
  refine bR.mono _ _ _ _ _ _ (λk0 e' h' hq=>?_) key
  obtain ⟨ks,h1,m,hlen,ht,⟨hl,hi,hq⟩,hm,rfl⟩:=hq
  have hn:k0.length=A.size:=by simpa using hlen
  refine ⟨zwa (T:=T) hd ?_ (λi hi hb=>ht.blind i (by rw [hn];exact hi) hb),?_⟩
  .rw [wS]
   refine zlB ht hn (λp hp=>?_) hl
   rw [<- wS] at hp
   exact zw3 hp
  .refine hq hi { h1 with low:=m } ⟨hi.size,hi.get,hm⟩ ⟨aR _,λ_ _=>rfl,?_⟩ rfl
   show min m h1.size<=m
   omega
 .cases hd
end
def AQ (A:Array Oper) (L:List Oper):List Oper->Nat->Prop
 | [],n=>∀ (P:Program) (T:bJ) (ov:Ov) (b:Nat) (ks:List Nat) (e:Env) (h:Heap) (Q:List Nat->Env->Heap->Prop),dg P T ov b A (ln A n) ks e h Q=Q ks e h
 |o::l,n=>(∀ (P:Program) (T:bJ) (ov:Ov) (b:Nat) (ks:List Nat) (e:Env) (h:Heap) (Q:List Nat->Env->Heap->Prop),dg P T ov b A (ln A n) ks e h Q=HZ P T ov b A o (ln A (n+1)) ks o.dst e h Q (nE o) (mN L e o.guard) (eR o))/\AQ A L l (n+1)
theorem zsU (A:Array Oper) (h:∀ o∈A.toList,HU A.toList o=true):∀ (l:List Oper) (n:Nat),ln A n=l->(∀ o∈l,o∈A.toList)->AQ A A.toList l n
 | [],n,hl,_=>λP T ov b ks e h Q=>by rw [hl];rfl
 |o::l,n,hl,hm=>by
  have nb:ln A (n+1)=l:=by
   unfold ln at hl ⊢
   have:=congrArg (List.drop 1) hl
   rw [BG] at this
   exact this
  refine ⟨λP T ov b ks e h' Q=>?_,zsU A h l (n+1) nb (λx hx=>hm x (pS _ hx))⟩
  rw [hl,nb,zqj,YL (h o (hm o (np ..)))]
def vh (N:Nat->Code) (m:Nat):Code->Nat->Prop
 | .seq a b,n=>vh N m a (n+1)/\vh N m b (n+1+aV a)
 | .cond _ a b,n=>vh N m a (n+1)/\vh N m b (n+1+aV a)
 | .rangeFunc _ _ a b,n=>vh N m a (n+1)/\vh N m b (n+1+aV a)
 | .block _ a,n=>vh N m a (n+1)
 | .loop a,n=>vh N m a (n+1)
 | .scope a,n=>vh N m a (n+1)
 | .region _ A true,n=>n=m->AQ (kr (N n)) A.toList A.toList 0
 |_,_=>True
theorem yL (N:Nat->Code) (m:Nat):∀ (c:Code) (n:Nat),nk c=true->(∀ k,k < aV c->N (n+k)=fV c k)->vh N m c n
 | .seq a b,n,hw,h=>by
  simp only [nk,dK] at hw
  obtain ⟨e1,e2,f1,f2⟩:=Hv (a:=a) (b:=b) h (λk h1 h2=>by simp only [fV];rw [az (by omega),aD h2]) (λk h1=>by simp only [fV];rw [az (by omega),az (by omega)]) (lj _) (lj _)
  exact ⟨yL N m a _ hw.1 f1,yL N m b _ hw.2 f2⟩
 | .cond o a b,n,hw,h=>by
  simp only [nk,dK] at hw
  obtain ⟨e1,e2,f1,f2⟩:=Hv (a:=a) (b:=b) h (λk h1 h2=>by simp only [fV];rw [az (by omega),aD h2]) (λk h1=>by simp only [fV];rw [az (by omega),az (by omega)]) (lj _) (lj _)
  exact ⟨yL N m a _ hw.1 f1,yL N m b _ hw.2 f2⟩
 | .rangeFunc g ps a b,n,hw,h=>by
  simp only [nk,dK] at hw
  obtain ⟨e1,e2,f1,f2⟩:=Hv (a:=a) (b:=b) h (λk h1 h2=>by simp only [fV];rw [az (by omega),aD h2]) (λk h1=>by simp only [fV];rw [az (by omega),az (by omega)]) (lj _) (lj _)
  exact ⟨yL N m a _ hw.1 f1,yL N m b _ hw.2 f2⟩
 | .block i a,n,hw,h=>by
  obtain ⟨e1,f1⟩:=HN (a:=a) h (λk h1=>by simp only [fV];rw [az (by omega)])
  exact yL N m a _ hw f1
 | .loop a,n,hw,h=>by
  obtain ⟨e1,f1⟩:=HN (a:=a) h (λk h1=>by simp only [fV];rw [az (by omega)])
  exact yL N m a _ hw f1
 | .scope a,n,hw,h=>by
  obtain ⟨e1,f1⟩:=HN (a:=a) h (λk h1=>by simp only [fV];rw [az (by omega)])
  exact yL N m a _ hw f1
 | .region i A true,n,hw,h=>by
  have h0:N n=.region i A true:=h 0 (lj _)
  have hr:kr (N n)=A:=by rw [h0];rfl
  simp only [nk,dK,iM,Bool.not_true,Gw] at hw
  intro _
  rw [hr]
  exact zsU A hw.1 _ 0 rfl (λo ho=>ho)
 | .region i A false,n,hw,h=>trivial
 | .exit i,n,hw,h=>trivial
 | .ret,n,hw,h=>trivial
 | .skip,n,hw,h=>trivial
 | .label l,n,hw,h=>trivial
 | .goto l,n,hw,h=>trivial
 | .refuse w,n,hw,h=>trivial
theorem zyQ (N:Nat->Code) (m:Nat) (f:Func) (hN:N=bI f:=by rfl) (hw:nk (codeOf f)=true:=by kernel_rfl):vh N m (codeOf f) 0 :=
 yL N m _ 0 hw (λk _=>by rw [hN,iA];rfl)
theorem zAu {a:Nat} (ha:a % 3≠2) (hb:b % 3≠2):nD a b=true:=by
 unfold nD
 simp [ha,hb]
theorem zCS {k x y:Nat} (hk:k=1\/k=5+3*x) (h:x≠y):nD k (3+3*y)=true:=by
 rcases hk with rfl|rfl
 .exact zAu (by decide) (by omega)
 .unfold nD
  simp only [sg,dK,Nat.ble_eq,beq_iff_eq,bne_iff_ne]
  left
  right
  exact ⟨⟨⟨⟨by omega,by omega⟩,by omega⟩,by omega⟩,by omega⟩
noncomputable def CF:=PLift.up (And.intro @zmb <| And.intro @zn0 <| And.intro @zn1 <| And.intro @ztx <| And.intro @zuj <| And.intro @zqY <| And.intro @zqZ <| And.intro @zq0 <| And.intro @zwW <| And.intro @zwX <| And.intro @zq3 <| And.intro @zq2 <| And.intro @zwV <| @zwY)
theorem um:type_of% CF.down:=CF.down
end Go.Am
namespace Go.Proofs.YtnkmeidmdaidhaaGreatDoor
open Go.Am Tryz
set_option maxRecDepth 100000
set_option maxHeartbeats 0
def yd:aU:=⟨#[122,122]⟩
def Oi:ak:=⟨gM ⟨#[98]⟩ yd ⟨true,⟨#[88]⟩⟩,[gM ⟨#[97]⟩ yd ⟨true,⟨#[88]⟩⟩]⟩
theorem zC7:qK ⟨#[97]⟩:=by
 refine ⟨⟨⟨by decide,by decide,by decide,λi hi=>?_⟩,by unfold kX;decide⟩,by decide,by decide⟩
 obtain rfl:i=0:=by have:(⟨#[97]⟩:aU).size=1:=rfl;omega
 exact .inl (by decide)
theorem zC8:qK ⟨#[98]⟩:=by
 refine ⟨⟨⟨by decide,by decide,by decide,λi hi=>?_⟩,by unfold kX;decide⟩,by decide,by decide⟩
 obtain rfl:i=0:=by have:(⟨#[98]⟩:aU).size=1:=rfl;omega
 exact .inl (by decide)
theorem zB0:qK yd:=by
 refine ⟨⟨⟨by decide,by decide,by decide,λi hi=>?_⟩,by unfold kX;decide⟩,by decide,by decide⟩
 have h2:i=0\/i=1:=by have:yd.size=2:=rfl;omega
 rcases h2 with rfl|rfl <;> exact .inl (by decide)
theorem zEo:qH ⟨#[88]⟩:=by
 refine ⟨by decide,by decide,by decide,λi hi=>?_⟩
 obtain rfl:i=0:=by have:(⟨#[88]⟩:aU).size=1:=rfl;omega
 exact .inr (.inl (by decide))
theorem zph {s:aU} (hs:qK s):bg (gM s yd ⟨true,⟨#[88]⟩⟩):=by
 refine ⟨hs,zB0,by show (0:Int)<=1;decide,by show (1:Int)<=4;decide,λi hi=>?_,λi hi h4=>?_⟩
 .have hi:(i:Int) < 1:=hi
  obtain rfl:i=0:=by omega
  exact zEo
 .have hi:(1:Int)<=i:=hi
  have h3:i=1\/i=2\/i=3:=by omega
  rcases h3 with rfl|rfl|rfl <;> rfl
theorem zDj:jI Oi:=by
 refine ⟨zph zC8,λb hb=>?_,λx hx=>⟨_,ep.2 rfl,hx⟩⟩
 rw [ep.1 hb]
 exact zph zC7
def Ob (cl:List ak):aN:=cl.flatMap λc=>c.head::c.body
theorem zwD (cl:List ak) (c:ak):Ob (cl++[c])=Ob cl++([c.head]++c.body):=by
 unfold Ob
 rw [List.flatMap_append]
 simp
theorem zpz {Z:Type} {r:aC Z} {h:Heap} {A:Nat} {cs:List ai} {u:TypeId} {ro:Bool} {x:Z} (aT:A < h.size) (hg:h.get A=some (.row cs u ro)) (hc:cut cs (0+0*r.k) r.k=some cs) (oV:QW r.k 1 1) (hr:r.R h cs x):Sl r h (.slice (some ⟨A,0,none⟩) 1 1) [x]:=by
 refine .inr ⟨A,0,1,cs,u,ro,rfl,by show 1<=maxLen;decide,oV,aT,hg,λi y hy=>?_⟩
 cases i with
 |zero=>cases hy;exact ⟨cs,hc,hr⟩
 |succ i=>simp at hy
theorem zBY {Z:Type} {r:aC Z} {h0 h:Heap} {e A:Nat} {v:ai} {l:List Z} (f:Ow r h0 h e A v l) (aM:l≠[]):∃ n c,v=.slice (some ⟨A,0,none⟩) n c:=by
 rcases f with ⟨_,h1,_⟩|⟨row,rfl,_⟩
 .exact (aM h1).elim
 .exact ⟨_,_,rfl⟩
theorem zsi {row m:List ai} {o n i k:Nat} (h:cut row o n=some m) (tR:i+k<=n):cut row (o+i) k=some ((m.drop i).take k):=by
 obtain ⟨h1,h2,h3⟩:=yO h
 refine uC (by omega) (by rw [gR,mf];omega) λj hj=>?_
 rw [qN,aD hj,lq,h3 (i+j) (by omega)]
 congr 1
 omega
theorem zwS {T:bJ} {t e:TypeId} {v:ai} {h0 h1:Heap} {kd:IntKind} {i:Int} {bs:List aZ} {w:Nat} {K:aJ} {l:List ak} {x:ak} (f:Sl aC.clause h0 v l) (hd:T.desc t=some (.slice e)) (hs:dJ T e=some 12) (wE:0<=i) (hx:l[i.toNat]? = some x)
 (hk:∀ p b,Sl aC.atom h0 b x.body->gy h0 p (x.head.cells++[b])->K p (h1.lay bs w)):aK (kC T t v (.int kd i)) (h1.lay bs w) K:=by
 have aT:i < l.length:=by
  have:=(fG.1 hx).1
  omega
 have key:=ixc (bs:=[]) (w:=0) (kd:=kd) (K:=λp _=>K p (h1.lay bs w)) f hd hs wE aT (λx' p b g1 g2 g3=>by
  rw [hx] at g1
  cases g1
  exact hk p b g2 g3)
 revert key
 cases kC T t v (.int kd i) <;> exact id
theorem zxn (cl:List ak) (facts:aN) (goal:ae) (B:Nat) (v u:ai) (h:Heap) (dD:bl 1 h) (hl:Sl aC.clause h v cl) (hf:Sl aC.atom h u facts) (hn:cl.length<=1000) (jN:∀ c∈cl,c.body.length<=90) (lf:facts.length<=900) (hB:B<=50000) (K:aJ)
 (hk:∀ a x t k h' wa wn wc ra rn rc,jK cl facts goal B a x t k->Ext h h'->Sl aC.atom h' (.slice wa wn wc) a->K (.tuple #[.agg ⟨[.slice wa wn wc,.int .i64 x,.int .i64 t,.slice ra rn rc]⟩,.int .i64 k]) h'):Ok prog aH ov 14 [v,u,goal.val,.int .i64 (B:Int)] h K:=by
 refine zC4 cl facts goal (B:Int) v u h dD hl hf hn jN lf (.inl (by omega)) K (λhZ h' x=>hk _ _ _ _ h' _ _ _ _ _ _ (.bad hZ) x .nil) (λhm hv _ _ d' hr ho h' x=>hk _ _ _ _ h' _ _ _ _ _ _ (.over hm hv hr ho) x .nil)
  (λhm hv _ _ d' hr hn c0 hc h' w1 w2 x s1 s2=>?_)
 obtain ⟨_,_,_,rfl⟩:=Nh s1
 obtain ⟨_,_,_,rfl⟩:=Nh s2
 exact hk _ _ _ _ h' _ _ _ _ _ _ (.ok hm hv hr hn hc) x s1
noncomputable def Mw:=PLift.up (by have c:=zyQ N3 33 f3;simp only [codeOf,f3,zh,vh,AQ,aV,mN,eR,nE,List.append_eq,rh,ya,iA,Nat.reduceAdd,Nat.reduceEqDiff,false_implies,true_implies,and_true,true_and] at c;exact c)
theorem tD:type_of% Mw.down:=Mw.down
theorem zm2 (cl:List ak) (facts:aN) (goal:ae) (consts:List aU) (v u w:ai) (h:Heap) (dD:bl 1 h) (hl:Sl aC.clause h v cl) (hf:Sl aC.atom h u facts) (hc:Sl aC.str h w consts) (K:aJ)
 (hk:∀ h',Ext h h'->K (.bool true) h'):Ok prog aH ov 3 [v,u,goal.val,w] h K:=by
 rw [aw h]
 have z:=Ext.refl h
 have dQ:=λ(hh:Heap)=>hl.bQ fB hh
 have Ag:=λ(hh:Heap)=>hf.bQ bZ hh
 have sK:=λ(hh:Heap)=>hc.bQ hY hh
 refine Ok.aA 153 (bH N3) ?_
 simp only [aa,seval,c3,gV]
 refine Ok.over (g:=Iq 1) rfl (zzS (dD.lay _ _)) ?_
 repeat' (first|simp only [aa,seval,c3]|((with_reducible apply cf);(· rfl)))
 refine zjR cl facts _ _ _ (hl.lay _ _) (hf.lay _ _) _ (λe1 e2 e3 h' x=>?_) (λh' x=>?_)
 rotate_left
 ·(replace z:=z.ao x;rw [aw h'])
  repeat' (first|simp only [aa,seval,c3]|((with_reducible apply cf);(· rfl)))
  exact hk _ z.av
 have q0:=Holds.top (i:=0) x rfl
 (replace z:=z.ao x;rw [aw h'])
 repeat' (first|simp only [aa,seval,c3,q0.lay,↓fe,dU,dq]|((with_reducible apply cf);(· rfl)))
 refine Yv goal _ _ (λUG h' x=>?_) (λUG h' x=>?_)
 rotate_left
 ·(replace z:=z.ao x;( replace q0:=q0.over x );rw [aw h'])
  repeat' (first|simp only [aa,seval,c3]|((with_reducible apply cf);(· rfl)))
  exact hk _ z.av
 (replace z:=z.ao x;replace q0:=q0.over x;rw [aw h'])
 repeat' (first|simp only [aa,seval,c3,dQ,Ag,sK]|((with_reducible apply bS) <;> intro _)|((with_reducible apply cf);(· rfl)))
 all_goals try exact hk _ z.av
 have aka:cl.length<=5:=by omega
 have ako:facts.length<=6:=by omega
 have akc:consts.length<=6:=by omega
 have Pe:=z.size
 have Vg:=q0.lt
 with_reducible first|refine ez (by simp only [c3]) z.av ?_
 simp only [aa,seval,c3]
 refine Zt facts u _ ((hf.mono z.inc).lay _ _) (by omega) _ (λwa Aa h' x oa fI=>?_)
 (((with_reducible refine ix ?_ ?_ ?_);(· exact (by (simp only [iY]);have:=z.size;omega));(· exact x));replace z:=z.ao x;replace q0:=q0.over x;rw [aw h'])
 have ak1:h.size+0 < Aa:=by have:=oa.fresh;rw [bh] at this;simp only [db] at this;omega
 replace oa:=oa.low (show h.size<=_ by rw [bh];simp only [db];omega)
 obtain ⟨wb,wn,wc,rfl⟩:=oa.slice
 have hAa:=oa.fresh
 simp only [aa,seval,c3,q0.lay,↓fe,dU,dq,M4]
 refine ni (by have:=z.size;omega) (by omega) ?_
 simp only [cm,seval,c3,jF,Gt]
 refine te (i:=0) (cs:=goal.cells) (x:=goal) bZ sV rfl (by decide) (by rfl) z.size oa rfl (by omega) (by omega) (λw3 h3 A3 o3 eU jM=>?_)
 obtain ⟨a3,m3,tC,rfl⟩:=o3.slice
 refine iL (A:=Aa) (by kernel_rfl) (by have:=z.size;rw [bh];omega) (by omega) (by simpa only [bY,bh,bC,ek,db,gx] using eU) ?_
 have zI:h.size+0 < A3:=jM.elim (λe=>by omega) (λe=>by have:=q0.lt;omega)
 replace q0:=q0.br eU (by omega)
 replace z:=z.bV eU (by omega) (by omega)
 clear oa
 rw [aw h3]
 simp only [aa,seval,c3]
 ((with_reducible refine ⟨z.cU.lay _ _,?_⟩);(intro _ h' zz x _);(simp only [bY,bC] at x);replace q0:=q0.over x;replace o3:=o3.over x;(replace z:=zz);(clear zz);rw [aw h'])
 repeat' (simp only [aa,seval,c3])
 have o4:=o3
 obtain ⟨I1,aX⟩:∃ I:Nat->Env->Heap->Prop,I=(λn e h'=>∃ (i:Nat) (A:Nat) (al:ai) (l:aN) (h1:Heap),h'=h1.lay [] h1.low/\Ext h h1/\(n=cl.length - i/\i<=cl.length/\Holds h1 (h.size+0) (.row goal.cells 28 false)/\h.size+0 < A/\l=facts++[goal]++Ob (cl.take i)/\l.length<=7+4*i/\Ow aC.atom h h1 28 A al l)/\∃ J:Nat->ai,e=(v::u::J 2::w::jr J 4 2 (.pointer (some ⟨h.size+0,0,none⟩)::jr J 7 2 (al::.int .i64 (i:Int)::jr J 11 146 ([]))))):=⟨_,rfl⟩
 refine dN I1 _ (by rw [aX];exact ⟨0,A3,_,facts++[goal],_,rfl,z,⟨rfl,by omega,q0,zI,by simp [Ob],by rw [cE,gF];omega,o4⟩,bo⟩) ?_
 intro n e h' aP
 rw [aX] at aP
 obtain ⟨i,A,al,l,bU,rfl,z,hinv,J,rfl⟩:=aP
 clear q0 o3 o4
 obtain ⟨rfl,hi,q0,TS,pe,yr,oA⟩:=hinv
 have jB:=eE i (by omega)
 obtain ⟨n0,k0,rfl⟩:=zBY oA (by rw [pe];simp)
 have lg:=z.size
 have hAf:=oA.fresh
 simp only [aa,seval,c3,dQ]
 refine bS (λaT=>?_) (λaT=>?_)
 .obtain ⟨c,kO,oW⟩:=gC (l:=cl) (i:=i) aT
  have ic:cl.take (i+1)=cl.take i++[c]:=by rw [lr,oW];rfl
  have jN:=e3 c (en oW)
  simp only [aa,seval,c3]
  refine zAI (K:=(N3 33)) (by simp only [c3]) (ps:=[(5,12),(6,12),(7,12)]) (by kernel_rfl) z.av ?_
  simp only [aa,seval,um,tD]
  refine zwS hl fB iE (by omega) kO (λp bd gz hp=>?_)
  obtain ⟨A4,o4,Ly,u4,ro4,rfl,OG,GS,hc4⟩:=hp
  have hq4:=Holds.mono ⟨OG,GS⟩ z.inc
  have jq:cut Ly (o4+0) 11=some c.head.cells:=zsi hc4 (show 0+11<=12 by decide)
  have jN:cut Ly (o4+11) 1=some [bd]:=zsi hc4 (show 11+1<=12 by decide)
  simp only [aa,seval,c3,um,tD,hq4.lay,↓jq,dU,dq,M4]
  with_reducible refine zqi (iN _) ?_ ?_ ?_
  .have:=z.size;omega
  .simp only [db];omega
  simp only [cm,seval,um,tD,jF,Gt]
  refine te (i:=0) (cs:=c.head.cells) (x:=c.head) bZ sV rfl (by decide) (by rfl) z.size oA rfl (by omega) (by omega) (λw3 h3 A3 o3 eU jM=>?_)
  obtain ⟨a3,m3,tC,rfl⟩:=o3.slice
  refine znT (A:=A) (by have:=z.size;rw [bh];omega) (by omega) (by simpa only [bY,bh,bC,ek,db,gx] using eU) (λk hk7=>?_)
  have zI:h.size+0 < A3:=jM.elim (λe=>by omega) (λe=>by have:=q0.lt;omega)
  replace q0:=q0.br eU (by omega)
  replace z:=z.bV eU (by omega) (by omega)
  clear oA
  rw [aw h3]
  have AF:=z.size
  have ajA:=o3.fresh
  have hq5:=Holds.mono ⟨OG,GS⟩ z.inc
  simp only [aa,seval,um,tD]
  refine zwS hl fB iE (by omega) kO (λp Jf Uk hp=>?_)
  obtain ⟨A5,o5,Ww,u5,ro5,rfl,GJ,hg5,Uo⟩:=hp
  replace hq5:=Holds.mono ⟨GJ,hg5⟩ z.inc
  have zO:Ww[o5+11]? = some Jf:=((yO Uo).2.2 11 (show 11 < 12 by decide)).symm
  have ph:∀ (h:Heap) (K:aJ),aK (some Jf) h K=K Jf h:=λ_ _=>rfl
  simp only [aa,seval,c3,um,tD,hq5.lay,↓zO,ph]
  simp only [cm,seval,jF,Gt]
  obtain ⟨news,eQ,rO⟩:=xR (A:=A3) (h:=h3.lay [] (h3.size+0)) (r:=aC.atom) (by decide) ((Uk.mono z.inc).lay _ _) (λcs y hr=>hr)
  refine YZ bZ sV rfl (by decide) z.size o3 eQ rO (by rw [cE,gF];omega) (by rw [cE,gF];omega) (λw4 h4 Zv Lm lC TK=>?_)
  obtain ⟨a4,m4,c4',rfl⟩:=Lm.slice
  refine znT (A:=A3) (by have:=z.size;rw [bh];omega) (by omega) (by simpa only [bY,bh,bC,ek,db,gx] using lC) (λk2 akH=>?_)
  have TL:h.size+0 < Zv:=TK.elim (λe=>by omega) (λe=>by have:=q0.lt;omega)
  replace q0:=q0.br lC (by omega)
  replace z:=z.bV lC (by omega) (by omega)
  clear o3
  rw [aw h4]
  have uW:=z.size
  have ajB:=Lm.fresh
  simp only [aa,seval,um,tD]
  refine ⟨by (simp only [yT,List.getD_cons_zero,List.getD_cons_succ,Gv,dK];(repeat' apply And.intro) <;> first|exact zAu (by omega) (by omega)|exact zCS hk7 (by omega)),?_⟩
  ((with_reducible refine ⟨z.cU.lay _ _,?_⟩);(intro _ h' zz x _);(simp only [bY,bC] at x);replace q0:=q0.over x;replace Lm:=Lm.over x;(replace z:=zz);(clear zz);rw [aw h'])
  repeat' (simp only [aa,seval,c3,jB])
  (rw [aX];with_reducible refine cF (m:=_) ?_ ⟨i+1,Zv,_,l++[c.head]++c.body,_,rfl,z,⟨rfl,by omega,q0,TL,by rw [ic,zwD,pe];simp,by rw [cE,cE,gF];omega,Lm⟩,bo⟩;omega)
 obtain rfl:i=cl.length:=by omega
 rw [Ge] at pe
 repeat' (simp only [aa,seval,c3])
 have sA:=oA.sl (by decide)
 clear oA
 generalize VG:Value.slice (some ⟨A,0,none⟩) n0 k0=va at sA ⊢
 clear VG
 have hvA:∀ (h:Heap) (K:aJ),aK (some va) h K=K va h:=λ_ _=>rfl
 obtain ⟨I2,eu⟩:∃ I:Nat->Env->Heap->Prop,I=(λn e h'=>∃ (i:Nat) (h1:Heap),h'=h1.lay [] h1.low/\Ext h h1/\(n=l.length - i/\i<=l.length/\Holds h1 (h.size+0) (.row goal.cells 28 false)/\Sl aC.atom h1 va l/\(∀ x∈l.take i,x.pred≠yd))/\∃ J:Nat->ai,e=(v::u::J 2::w::jr J 4 2 (.pointer (some ⟨h.size+0,0,none⟩)::jr J 7 2 (va::J 10::.int .i64 (i:Int)::jr J 12 145 ([]))))):=⟨_,rfl⟩
 refine dN I2 _ (by rw [eu];exact ⟨0,_,rfl,z,⟨rfl,by omega,q0,sA,by simp⟩,bo⟩) ?_
 intro n e h' aP
 rw [eu] at aP
 obtain ⟨i,bU,rfl,z,hinv,J,rfl⟩:=aP
 clear q0 sA
 obtain ⟨rfl,hi,q0,sA,xj⟩:=hinv
 have jB:=eE i (by omega)
 have lg:=z.size
 have hlA:=λ(hh:Heap)=>sA.bQ bZ hh
 simp only [aa,seval,c3,hlA]
 refine bS (λaT=>?_) (λaT=>?_)
 .obtain ⟨a,haa,T9⟩:=gC (l:=l) (i:=i) aT
  have ic:l.take (i+1)=l.take i++[a]:=by rw [lr,T9];rfl
  simp only [aa,seval,c3]
  refine r9 sA bZ ck (by omega) haa (λp hp=>?_)
  simp only [aa,seval,c3]
  refine RU hp Bu (λp hp=>?_)
  simp only [aa,seval,c3]
  refine qJ hp uO ?_
  simp only [aa,seval,c3]
  refine bS (λhpz=>?_) (λhpz=>?_)
  .repeat' ( simp only [aa,seval,c3])
   exact hk _ z.av
  repeat' (simp only [aa,seval,c3,jB])
  have V5:∀ x∈l.take (i+1),x.pred≠yd:=by
   rw [ic]
   intro x hx
   rcases gg.1 hx with hx|hx
   .exact xj x hx
   .rw [ep.1 hx]
    exact hpz
  (rw [eu];with_reducible refine cF (m:=_) ?_ ⟨i+1,_,rfl,z,⟨rfl,by omega,q0,sA,V5⟩,bo⟩;omega)
 obtain rfl:i=l.length:=by omega
 rw [Ge] at xj
 clear sA hlA
 repeat' (simp only [aa,seval,c3])
 clear hvA
 have lg:=z.size
 have abP:=q0.lt
 refine Zt facts u _ ((hf.mono z.inc).lay _ _) (by omega) _ (λwa Av h' x om ajx=>?_)
 (replace z:=z.ao x;replace q0:=q0.over x;rw [aw h'])
 have Vh:h.size+0 < Av:=by have:=om.fresh;rw [bh] at this;simp only [db] at this;omega
 replace om:=om.low (show h.size<=_ by rw [bh];simp only [db];omega)
 have Ct:∀ (h:Heap) (K:aJ),aK (some wa) h K=K wa h:=λ_ _=>rfl
 repeat' (simp only [aa,seval,c3])
 clear Ct dQ Ag
 obtain ⟨I3,lT⟩:∃ I:Nat->Env->Heap->Prop,I=(λn e h'=>∃ (i:Nat) (A:Nat) (mv:ai) (zs:aN) (h1:Heap),h'=h1.lay [] h1.low/\Ext h h1/\(n=consts.length - i/\i<=consts.length/\Holds h1 (h.size+0) (.row goal.cells 28 false)/\h.size+0 < A/\zs.length<=i/\(∀ a∈zs,a.pred=yd/\bF a)/\Ow aC.atom h h1 28 A mv (facts++zs))/\∃ J:Nat->ai,e=(v::u::J 2::w::jr J 4 2 (.pointer (some ⟨h.size+0,0,none⟩)::jr J 7 5 (mv::.int .i64 (i:Int)::jr J 14 143 ([]))))):=⟨_,rfl⟩
 refine dN I3 _ (by rw [lT];exact ⟨0,Av,_,[],_,rfl,z,⟨rfl,by omega,q0,Vh,by simp,by simp,by simpa using om⟩,bo⟩) ?_
 intro n e h' aP
 rw [lT] at aP
 obtain ⟨i,A,mv,zs,bU,rfl,z,hinv,J,rfl⟩:=aP
 clear q0 om
 obtain ⟨rfl,hi,q0,TS,yD,Pg,oA⟩:=hinv
 have jB:=eE i (by omega)
 have AF:=z.size
 have hAf:=oA.fresh
 simp only [aa,seval,c3,sK]
 refine bS (λaT=>?_) (λaT=>?_)
 .obtain ⟨s,ot,alm⟩:=gC (l:=consts) (i:=i) aT
  simp only [aa,seval,c3]
  refine F7 (hc.mono z.inc) hY xD (by omega) ot (λp hp=>?_)
  simp only [aa,seval,c3]
  refine qJ hp uO ?_
  simp only [aa,seval,c3]
  refine zC1 _ _ s _ _ (λh' x=>?_)
  (replace z:=z.ao x;replace q0:=q0.over x;replace oA:=oA.over x;rw [aw h'])
  have abQ:=q0.lt
  repeat' (simp only [aa,seval,c3])
  refine MY (i:=0) rfl ck rfl (gV _) rfl rfl ?_
  repeat' (simp only [aa,seval,c3,gd,dq,dU,M4,↓fe])
  refine zBM [] [gM ⟨#[97]⟩ ⟨#[122,122]⟩ ⟨false,s⟩] _ _ _ .nil (zpz (cs:=(gM ⟨#[97]⟩ ⟨#[122,122]⟩ ⟨false,s⟩).cells) (by rw [bh];simp only [ek,db];omega) (jG _ _ _ 1) rfl (.inl ⟨by decide,aR 1⟩) rfl) (iN _) (λc hc=>absurd hc (il)) (show 1<=1000 by decide) _ (λhm h' x=>?_) (λhm h' x=>?_)
  .have qa:=Holds.top (i:=0) x rfl
   (replace z:=z.ao x;replace q0:=q0.over x;replace oA:=oA.over x;rw [aw h'])
   have UA:bF (gM ⟨#[97]⟩ ⟨#[122,122]⟩ ⟨false,s⟩):=hm.facts _ (ep.2 rfl)
   simp only [aa,seval,c3]
   refine F7 (hc.mono z.inc) hY xD (by omega) ot (λp hp=>?_)
   simp only [aa,seval,c3]
   refine qJ hp uO ?_
   simp only [aa,seval,c3]
   have Ct:∀ (h:Heap) (K:aJ),aK (some mv) h K=K mv h:=λ_ _=>rfl
   repeat' (((with_reducible apply bS) <;> intro _) <;> simp only [aa,seval,c3,jB,qa.lay,↓fe,dU,dq,M4,jF,Gt])
   rotate_left
   ·(rw [lT];with_reducible refine cF (m:=_) ?_ ⟨i+1,A,mv,zs,_,rfl,z,⟨rfl,by omega,q0,TS,by omega,Pg,oA⟩,bo⟩;omega)
   clear qa
   have Cf:facts.length+zs.length<=12:=by omega
   refine te (i:=0) (cs:=(gM ⟨#[97]⟩ ⟨#[122,122]⟩ ⟨false,s⟩).cells) (x:=gM ⟨#[97]⟩ ⟨#[122,122]⟩ ⟨false,s⟩) bZ sV rfl (by decide) (by rfl) z.size oA rfl (by rw [cE];omega) (by rw [cE];omega) (λw3 h3 A3 o3 eU jM=>?_)
   have zI:h.size+0 < A3:=jM.elim (λe=>by omega) (λe=>by have:=q0.lt;omega)
   replace q0:=q0.br eU (by omega)
   replace z:=z.bV eU (by omega) (by omega)
   clear oA
   rw [se] at o3
   rw [aw h3]
   have V3:∀ a∈zs++[gM ⟨#[97]⟩ ⟨#[122,122]⟩ ⟨false,s⟩],a.pred=yd/\bF a:=by
    intro a ha
    rcases gg.1 ha with ha|ha
    .exact Pg a ha
    .rw [ep.1 ha]
     exact ⟨rfl,UA⟩
   repeat' (simp only [aa,seval,c3,jB])
   (rw [lT];with_reducible refine cF (m:=_) ?_ ⟨i+1,A3,w3,zs++[gM ⟨#[97]⟩ ⟨#[122,122]⟩ ⟨false,s⟩],_,rfl,z,⟨rfl,by omega,q0,zI,by rw [cE,gF];omega,V3,o3⟩,bo⟩;omega)
  ·
   (replace z:=z.ao x;replace q0:=q0.over x;replace oA:=oA.over x;rw [aw h'])
   have Ct:∀ (h:Heap) (K:aJ),aK (some mv) h K=K mv h:=λ_ _=>rfl
   repeat' (simp only [aa,seval,c3,jB])
   (rw [lT];with_reducible refine cF (m:=_) ?_ ⟨i+1,A,mv,zs,_,rfl,z,⟨rfl,by omega,q0,TS,by omega,Pg,oA⟩,bo⟩;omega)
 obtain rfl:i=consts.length:=by omega
 have sM:=oA.sl (by decide)
 clear oA
 have Ct:∀ (h:Heap) (K:aJ),aK (some mv) h K=K mv h:=λ_ _=>rfl
 have y:=Ext.refl bU
 simp only [aa,seval,c3]
 refine zm0 cl v _ ((hl.mono z.inc).lay _ _) (by omega) (λc hc=>by have:=e3 c hc;omega) _ (λwr Ar h' x ow=>?_)
 (replace z:=z.ao x;replace y:=y.over x;rw [aw h'])
 replace ow:=ow.low (show bU.size<=_ by rw [bh];simp only [db];omega)
 have yB:∀ (h:Heap) (K:aJ),aK (some wr) h K=K wr h:=λ_ _=>rfl
 repeat' (simp only [aa,seval,c3])
 refine zAx _ _ _ _ _ (λh' x=>?_)
 (replace z:=z.ao x;replace y:=y.over x;replace ow:=ow.over x;rw [aw h'])
 repeat' (simp only [aa,seval,c3])
 refine zAx _ _ _ _ _ (λh' x=>?_)
 (replace z:=z.ao x;replace y:=y.over x;replace ow:=ow.over x;rw [aw h'])
 simp only [aa,seval,c3,M4,zlj,zju,jF,zDc]
 obtain ⟨bs,tI⟩:∃ bs:List aZ,bs=[.row (gM ⟨#[97]⟩ ⟨#[122,122]⟩ ⟨true,⟨#[88]⟩⟩).cells 28 false,.row ((gM ⟨#[98]⟩ ⟨#[122,122]⟩ ⟨true,⟨#[88]⟩⟩).cells++[.slice (some ⟨h'.size+0,0,none⟩) 1 1]) 35 false]:=⟨_,rfl⟩
 rw [<- tI]
 have ke:bs.length=2:=by rw [tI];rfl
 have sI:(h'.lay bs h'.low).get (h'.size+0)=some (.row (gM ⟨#[97]⟩ ⟨#[122,122]⟩ ⟨true,⟨#[88]⟩⟩).cells 28 false):=by rw [jG,tI];rfl
 have m8:(h'.lay bs h'.low).get (h'.size+1)=some (.row ((gM ⟨#[98]⟩ ⟨#[122,122]⟩ ⟨true,⟨#[88]⟩⟩).cells++[.slice (some ⟨h'.size+0,0,none⟩) 1 1]) 35 false):=by rw [jG,tI];rfl
 clear tI
 have dS:(h'.lay bs h'.low).size=h'.size+2:=by rw [bh,ke]
 have aT:=ow.lt
 have uW:=z.size
 have hy4:=y.size
 obtain ⟨A',yx,fk⟩:∃ A',Ow aC.clause bU (h'.lay bs h'.low) 35 A' wr cl/\(A' < h'.size\/h'.size+2<=A'):=by
  rcases aT with aT|aT
  .exact ⟨Ar,ow.mono (bN.lay _ _ _),.inl aT⟩
  .rw [aT] at ow ⊢
   exact ⟨h'.size+2,(ow.mono (bN.lay _ _ _)).any _ (by omega),.inr (aR _)⟩
 have J5:(kill A' (h'.lay bs h'.low)).get (h'.size+0)=some (.row (gM ⟨#[97]⟩ ⟨#[122,122]⟩ ⟨true,⟨#[88]⟩⟩).cells 28 false):=by
  unfold kill
  split
  .rename_i hl
   rw [Heap.aG _ _ _ _ hl,az (by omega)]
   exact sI
  .exact sI
 have hR:aC.clause.R (kill A' (h'.lay bs h'.low)) ((gM ⟨#[98]⟩ ⟨#[122,122]⟩ ⟨true,⟨#[88]⟩⟩).cells++[.slice (some ⟨h'.size+0,0,none⟩) 1 1]) Oi :=
  ⟨_,rfl,zpz (by rw [qY,dS];omega) J5 rfl (.inl ⟨by decide,aR 1⟩) rfl⟩
 obtain ⟨hs,j3⟩:=Bo (r:=aC.clause) (c:=1) (by decide) m8 hR
 obtain ⟨w5,h5,A5,GG,GH,JB,e4',e5'⟩:=sb (t:=22) fB MQ rfl (by decide) (by rw [dS];omega) yx hs j3 (by omega) (by omega)
 have wz:=yx.fresh
 rw [GG]
 clear GG yx hs j3 hR J5 sI m8 ow yB
 have yB:∀ (h:Heap) (K:aJ),dv (some (w5,h)) K=K w5 h:=λ_ _=>rfl
 replace z:=z.bV JB (by omega) (by omega)
 replace y:=y.bV JB (by omega) (by omega)
 have sR:=GH.sl (by decide)
 clear GH JB
 have q1:=q0.mono y.inc
 have sM1:=sM.mono y.inc
 have AG:=z.size
 have hys:=y.size
 have Vi:=q1.lt
 have w0:=Ext.refl h5
 rw [aw h5]
 simp only [aa,seval,c3,yB]
 repeat' (simp only [aa,seval,c3,q1.lay,↓fe,dU,dq])
 refine zxn cl facts goal 300 v u _ ((dD.ext z).lay _ _) ((hl.mono z.inc).lay _ _) ((hf.mono z.inc).lay _ _) (by omega) (λc hc=>by have:=e3 c hc;omega) (by omega) (by omega) _ (λa1 x1 t1 k1 h' wa1 wn1 wc1 ra1 rn1 rc1 o1 x Wz=>?_)
 (replace z:=z.ao x;replace y:=y.over x;replace w0:=w0.over x;replace q1:=q1.over x;rw [aw h'])
 simp only [aa,seval,c3]
 refine MY (i:=0) rfl py rfl rfl rfl rfl ?_
 repeat' (simp only [aa,seval,c3,gd,q1.lay,↓fe,dU,dq])
 have hcz:(cl++[Oi]).length<=1000:=by rw [cE,gF];omega
 have Uq:∀ c∈cl++[Oi],c.body.length<=90:=by
  intro c hc
  rcases gg.1 hc with hc|hc
  .have:=e3 c hc;omega
  .rw [ep.1 hc];show 1<=90;decide
 have Cf:(facts++zs).length<=900:=by rw [cE];omega
 refine zxn (cl++[Oi]) (facts++zs) goal 300 w5 mv _ ((dD.ext z).lay _ _) ((sR.mono w0.inc).lay _ _) ((sM1.mono w0.inc).lay _ _) hcz Uq Cf (by omega) _ (λa2 x2 t2 k2 h' wa2 wn2 wc2 ra2 rn2 rc2 o2 x sa2=>?_)
 have qx:=Holds.top (i:=0) x rfl
 replace Wz:=Wz.mono ((bN.lay _ _ _).trans x.inc)
 (replace z:=z.ao x;replace q1:=q1.over x;rw [aw h'])
 simp only [aa,seval,c3]
 refine MY (i:=0) rfl py rfl rfl rfl rfl ?_
 have Pf:zn (gW facts) (cl.map ei) 300:=⟨eA (He facts) (by omega),by rw [gw];omega,λc hc=>by
  obtain ⟨c9,h9,rfl⟩:=pC.1 hc
  have:=e3 c9 h9
  show (c9.body.map _).length<=90
  rw [gw]
  omega,by omega⟩
 have hgz:goal.pred≠yd:=xj goal (by rw [pe];simp)
 have hbz:∀ c∈cl,∀ b∈c.body,b.pred≠yd:=λc hc b hb=>xj b (by rw [pe];exact H3 _ (BE.2 ⟨c,hc,pS _ hb⟩))
 obtain ⟨rfl,rfl,rfl,rfl⟩:=zzt (by omega) Pf zDj Pg rfl hbz (by decide) hgz o1 o2
 have akq:=zBX Pf o1
 have ali:∀ (h:Heap) (K:aJ),aK (some (.bool (decide (a2=a2)))) h K=K (.bool true) h:=λh K=>by rw [sk rfl];rfl
 repeat' (simp only [aa,seval,c3,gd,qx.lay])
 refine zpe a2 a2 _ _ _ (Wz.lay _ _) (sa2.lay _ _) (by omega) (by omega) _ (λh' x=>?_)
 have qy:=Holds.top (i:=0) x rfl
 (replace z:=z.ao x;replace qx:=qx.over x;rw [aw h'])
 rw [sk rfl]
 repeat' (simp only [aa,seval,c3,qx.lay,qy.lay])
 exact hk _ z.av
end Go.Proofs.YtnkmeidmdaidhaaGreatDoor
