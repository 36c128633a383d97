/- Regions whose order is drawn, with kinds told for each operation: a store to what the region laid, a load of what it did not lay. No condition. -/
import Derived.Test.YtjildadoepadeaaGreatDoorG23
import Derived.Test.YtjildadoepadeaaGreatDoorGCodec
import Derived.Test.YtjildadoepadeaaGreatDoorGKin
set_option linter.unusedSimpArgs false
set_option linter.unusedVariables false
namespace Go.Am
variable {h:Heap} {e:Env}
inductive KC where
 |plain
 |load (a:Operand)
 |build
 |store (a:Operand)
def kf (o:Oper):KC:=match o.op with
 | .load _ a=>.load a
 | .buildSlice _ _ _=>.build
 | .store _ a _=>.store a
 |_=>.plain
def OM:ai->Nat
 | .pointer (some x)=>3+3*x.block
 |_=>1
def ON:ai->Nat
 | .pointer (some x)=>5+3*x.block
 |_=>2
def qf (c:KC) (e:Env) (n:Nat):Nat:=match c with
 | .load a=>OM (aX e a)
 | .build=>4+3*n
 |_=>1
def Bi (c:KC) (e:Env):Nat:=match c with
 | .store a=>ON (aX e a)
 |_=>2
theorem zsf (A o:Nat):OM (.pointer (some ⟨A,o,none⟩))=3+3*A:=rfl
theorem zsg (A o:Nat):ON (.pointer (some ⟨A,o,none⟩))=5+3*A:=rfl
theorem zp5 (a:Operand) (e:Env) (n:Nat):qf (.load a) e n=OM (aX e a):=rfl
theorem ZE (e:Env) (n:Nat):qf .build e n=4+3*n:=rfl
theorem ZF (e:Env) (n:Nat):qf .plain e n=1:=rfl
theorem ZG (a:Operand) (e:Env) (n:Nat):qf (.store a) e n=1:=rfl
theorem ZH (a:Operand) (e:Env):Bi (.store a) e=ON (aX e a):=rfl
section
variable {T:bm}
theorem Sy {o:Oper} {h':Heap} (hb:mE T o=false) (hl:h.size<=h'.low):gI T o e h h'=qf (kf o) e h.size:=by
 unfold gI
 rw [ay (by rw [hb];decide),aC hl]
 unfold qf kf
 obtain ⟨dst,op,ty,pos,after,guard⟩:=o
 cases op <;> rfl
theorem zp4 {o:Oper} {h':Heap} (hb:mE T o=false) (hl:¬ h.size<=h'.low):gI T o e h h'=Bi (kf o) e:=by
 unfold gI
 rw [ay (by rw [hb];decide),ay hl]
 unfold Bi kf
 obtain ⟨dst,op,ty,pos,after,guard⟩:=o
 cases op <;> rfl
end
section
variable (P:Program) (T:bm) (ov:Ov)
def cp (b:Nat) (ops:Array Oper):List Oper->List Nat->Env->Heap->(List Nat->Env->Heap->Prop)->Prop
 | [],ks,e,h,Q=>Q ks e h
 |o::l,ks,e,h,Q=>mW (jG ops o e)
    (if dB o=true then bL P T ov o e h λv _=>cp b ops l (ks++[qf (kf o) e h.size]) (put e o.dst v) h Q
     else bL P T ov o e { h with low:=h.size } λv h'=>(b<=h'.low/\h.size<=h'.size)/\((h.size<=h'.low/\cp b ops l (ks++[qf (kf o) e h.size]) (put e o.dst v) h' Q)\/(¬ h.size<=h'.low/\cp b ops l (ks++[Bi (kf o) e]) (put e o.dst v) h' Q)))
    (cp b ops l (ks++[0]) (put e o.dst undef) h Q)
def Ot (b:Nat) (ops:Array Oper) (l:List Oper) (ks:List Nat) (d:Option Tmp) (Q:List Nat->Env->Heap->Prop) (e:Env) (h:Heap) (k:Nat):aF:=λv _=>Hid (cp P T ov b ops l (ks++[k]) (put e d v) h Q)
def OI (b:Nat) (ops:Array Oper) (l:List Oper) (ks:List Nat) (d:Option Tmp) (Q:List Nat->Env->Heap->Prop) (e:Env) (h:Heap) (k1 k2:Nat):aF:=λv h' =>
 Hid ((b<=h'.low/\h.size<=h'.size)/\((h.size<=h'.low/\cp P T ov b ops l (ks++[k1]) (put e d v) h' Q)\/(¬ h.size<=h'.low/\cp P T ov b ops l (ks++[k2]) (put e d v) h' Q)))
def AN (b:Nat) (ops:Array Oper) (o:Oper) (l:List Oper) (ks:List Nat) (d:Option Tmp) (e:Env) (h:Heap) (Q:List Nat->Env->Heap->Prop) (c:KC) (w q:Bool):Prop :=
 if w=true then (if q=true then bL P T ov o e h (Ot P T ov b ops l ks d Q e h (qf c e h.size)) else bL P T ov o e (h.lay [] h.size) (OI P T ov b ops l ks d Q e h (qf c e h.size) (Bi c e))) else cp P T ov b ops l (ks++[0]) (put e d undef) h Q
end
section
variable {P:Program} {T:bm} {ov:Ov}
theorem Zi (b:Nat) (ops:Array Oper) (o:Oper) (l:List Oper) (ks:List Nat) (e:Env) (h:Heap) (Q:List Nat->Env->Heap->Prop):cp P T ov b ops (o::l) ks e h Q=AN P T ov b ops o l ks o.dst e h Q (kf o) (jG ops o e) (dB o):=by
 simp only [cp,mW,AN]
 split
 .split
  .exact propext ⟨bL.mono λ_ _ hw=>⟨hw⟩,bL.mono λ_ _ hw=>hw.out⟩
  .exact propext ⟨bL.mono λ_ _ hw=>⟨hw⟩,bL.mono λ_ _ hw=>hw.out⟩
 .rfl
theorem Yt (b:Nat) (ops:Array Oper) (o:Oper) (l:List Oper) (ks:List Nat) (d:Option Tmp) (e:Env) (h:Heap) (Q:List Nat->Env->Heap->Prop) (c:KC):AN P T ov b ops o l ks d e h Q c true true=bL P T ov o e h (Ot P T ov b ops l ks d Q e h (qf c e h.size)):=rfl
theorem YA (b:Nat) (ops:Array Oper) (o:Oper) (l:List Oper) (ks:List Nat) (d:Option Tmp) (e:Env) (h:Heap) (Q:List Nat->Env->Heap->Prop) (c:KC):AN P T ov b ops o l ks d e h Q c true false=bL P T ov o e (h.lay [] h.size) (OI P T ov b ops l ks d Q e h (qf c e h.size) (Bi c e)):=rfl
theorem YB (b:Nat) (ops:Array Oper) (o:Oper) (l:List Oper) (ks:List Nat) (d:Option Tmp) (e:Env) (h:Heap) (Q:List Nat->Env->Heap->Prop) (c:KC) (q:Bool):AN P T ov b ops o l ks d e h Q c false q=cp P T ov b ops l (ks++[0]) (put e d undef) h Q:=rfl
theorem zpu (b:Nat) (ops:Array Oper) (l:List Oper) (ks:List Nat) (d:Option Tmp) (Q:List Nat->Env->Heap->Prop) (e:Env) (h:Heap) (k:Nat) (v:ai) (h':Heap):Ot P T ov b ops l ks d Q e h k v h'=cp P T ov b ops l (ks++[k]) (put e d v) h Q:=Oz _
structure Told (T:bm) (ops:Array Oper) (k0 ks:List Nat):Prop where
 len:k0.length=ks.length
 blind:∀ i,i < k0.length->jE T ops i=true->k0.getD i 2=0
 same:∀ i,i < k0.length->jE T ops i=false->k0.getD i 2=ks.getD i 2
theorem HX (l:List Nat) (c i:Nat) (hi:i < (l++[c]).length):(i < l.length/\(l++[c]).getD i 2=l.getD i 2)\/(i=l.length/\(l++[c]).getD i 2=c):=by
 rw [hJ,zm] at hi
 by_cases aS:i < l.length
 .refine .inl ⟨aS,?_⟩
  rw [wg,wg,kR aS]
 .have:i=l.length:=by omega
  subst this
  refine .inr ⟨rfl,?_⟩
  rw [wg,lS (by omega),Nat.sub_self]
  rfl
theorem Told.snoc {ops:Array Oper} {k0 ks:List Nat} {c d:Nat} (h:Told T ops k0 ks) (hb:jE T ops k0.length=true->c=0) (hs:jE T ops k0.length=false->c=d):Told T ops (k0++[c]) (ks++[d]):=by
 refine ⟨by simp [h.len],λi hi j6=>?_,λi hi j6=>?_⟩
 .rcases HX k0 c i hi with ⟨g1,g2⟩|⟨g1,g2⟩
  .rw [g2];exact h.blind i g1 j6
  .rw [g2];rw [g1] at j6;exact hb j6
 .rcases HX k0 c i hi with ⟨g1,g2⟩|⟨g1,g2⟩
  .rcases HX ks d i (by simp [<- h.len];omega) with ⟨f1,f2⟩|⟨f1,f2⟩
   .rw [g2,f2];exact h.same i g1 j6
   .have:=h.len;omega
  .rcases HX ks d i (by simp [<- h.len];omega) with ⟨f1,f2⟩|⟨f1,f2⟩
   .have:=h.len;omega
   .rw [g2,f2];rw [g1] at j6;exact hs j6
theorem cp.sN {ops:Array Oper} {b:Nat}:∀ (l:List Oper) (k0 ks:List Nat) (e:Env) (h:Heap) (m:Nat) (Q:List Nat->Env->Heap->Prop),b<=h.size->b<=m->ops.toList.drop k0.length=l->Told T ops k0 ks->cp P T ov b ops l ks e h Q ->
 bt P T ov ops l k0 e { h with low:=m } λvI e' h'=>∃ df h1 m',vI.length=k0.length+l.length/\Told T ops vI df/\Q df e' h1/\b<=m'/\h'={ h1 with low:=m' }
 | [],k0,ks,e,h,m,Q,hb,hm,hd,od,hw=>⟨ks,h,m,rfl,od,hw,hm,rfl⟩
 |o::l,k0,ks,e,h,m,Q,hb,hm,hd,od,hw=>by
  have j6:jE T ops k0.length=mE T o:=by
   have:ops[k0.length]? = some o:=by
    have h1:(ops.toList.drop k0.length)[0]? = some o:=by rw [hd];rfl
    rw [ja] at h1
    simpa using h1
   simp only [jE,this]
  have iI:∀ c,ops.toList.drop (k0++[c]).length=l:=by
   intro c
   rw [hJ,zm,<- zr,hd]
   rfl
  have fin:∀ (c:Nat) (vI:List Nat) (e':Env) (h':Heap),(∃ df h1 m',vI.length=(k0++[c]).length+l.length/\Told T ops vI df/\Q df e' h1/\b<=m'/\h'={ h1 with low:=m' }) ->
   ∃ df h1 m',vI.length=k0.length+(o::l).length/\Told T ops vI df/\Q df e' h1/\b<=m'/\h'={ h1 with low:=m' }:=by
   rintro c vI e' h' ⟨df,h1,m',g1,g2⟩
   refine ⟨df,h1,m',?_,g2⟩
   simp only [hJ,nW,jb] at g1 ⊢
   omega
  have kz:∀ h1 h2:Heap,jE T ops k0.length=true->gI T o e h1 h2=0:=by
   intro h1 h2 hb
   unfold gI
   rw [aC (j6 ▸ hb)]
  simp only [cp,bt,mW] at hw ⊢
  split at hw
  .rename_i eV
   rw [aC eV]
   split at hw
   .rename_i hq
    have h0:=bL.quiet hq hw h.size
    refine bL.mono (λv h' ⟨he,hw⟩=>?_) h0
    subst he
    refine bt.mono _ _ _ _ _ _ (λdf e' h' oZ=>fin _ df e' h' oZ) (cp.sN l _ _ _ h (min m h.size) Q hb (by omega) (iI _) (od.snoc (λhb=>kz _ _ hb) (λhb=>Sy (h:={ h with low:=m }) (by rw [<- j6];exact hb) (bg _))) hw)
   .refine bL.mono (λv h' ⟨⟨h2,h3⟩,hw⟩=>?_) hw
    rcases hw with ⟨h1,hw⟩|⟨h1,hw⟩
    .exact bt.mono _ _ _ _ _ _ (λdf e' h' oZ=>fin _ df e' h' oZ) (cp.sN l _ _ _ h' (min m h'.low) Q (by omega) (by omega) (iI _) (od.snoc (λhb=>kz _ _ hb) (λhb=>Sy (h:={ h with low:=m }) (by rw [<- j6];exact hb) h1)) hw)
    .exact bt.mono _ _ _ _ _ _ (λdf e' h' oZ=>fin _ df e' h' oZ) (cp.sN l _ _ _ h' (min m h'.low) Q (by omega) (by omega) (iI _) (od.snoc (λhb=>kz _ _ hb) (λhb=>zp4 (h:={ h with low:=m }) (by rw [<- j6];exact hb) h1)) hw)
  .rename_i eV
   rw [ay eV]
   exact bt.mono _ _ _ _ _ _ (λdf e' h' oZ=>fin 0 df e' h' oZ) (cp.sN l _ _ _ h m Q hb hm (iI _) (od.snoc (λ_=>rfl) (λ_=>rfl)) hw)
theorem zsj {ops:Array Oper} {ms:List Nat} {p:Nat × Nat} (h:p∈Bn T ops ms):p.1 < ops.size/\p.2 < ops.size/\jE T ops p.1=false/\jE T ops p.2=false:=by
 unfold Bn at h
 obtain ⟨j,hj,h⟩:=List.mem_flatMap.1 h
 obtain ⟨i,hi,h⟩:=List.mem_filterMap.1 h
 have hj:=mZ.1 hj
 have hi:=mZ.1 hi
 split at h
 .cases h
 .rename_i hc
  cases h
  simp only [nY,not_or,Bool.not_eq_true] at hc
  exact ⟨by omega,hj,hc.1.2,hc.2⟩
theorem Sz {ops:Array Oper} {k0 ks:List Nat} (h:Told T ops k0 ks) (hn:k0.length=ops.size):∀ {ps:List (Nat × Nat)},(∀ p∈ps,p.1 < ops.size/\p.2 < ops.size/\jE T ops p.1=false/\jE T ops p.2=false)->s7 ks ps=true->s7 k0 ps=true
 | [],_,_=>rfl
 |(i,j)::ps,hp,hl=>by
  obtain ⟨h1,h2,h3,h4⟩:=hp (i,j) qj
  unfold s7 at hl ⊢
  rw [cY] at hl ⊢
  rw [h.same i (by rw [hn];exact h1) h3,h.same j (by rw [hn];exact h2) h4]
  exact ⟨hl.1,Sz h hn (λp hm=>hp p (sq _ hm)) hl.2⟩
theorem zvi {K:Code} (hd:A5 K=true) {rd:Option Nat} {h0:Heap} {Q:Ex->Env->Heap->Prop} {ps:List (Nat × Nat)} (rA:Bn T (iC K) (jJ (iC K).toList [])=ps) (z:Ext h0 h)
 (hw:cp P T ov (min h0.low h0.size) (iC K) (iM (iC K) 0) [] e h λks e' h1=>s7 ks ps=true/\te h0 h1/\tA h0 Q e' h1):W P T ov rd K e h Q:=by
 unfold A5 at hd
 split at hd
 .rename_i i A
  have rA:Bn T A (jJ A.toList [])=ps:=rA
  have hw:cp P T ov (min h0.low h0.size) A A.toList [] e h λks e' h1=>s7 ks ps=true/\te h0 h1/\tA h0 Q e' h1:=hw
  show bt P T ov A A.toList [] e h (zxH A Q)
  have key:=cp.sN (T:=T) A.toList [] [] e h h.low _ (show min h0.low h0.size<=h.size by have:=z.size;omega) z.low rfl ⟨rfl,λi hi=>absurd hi (Bh _),λi hi=>absurd hi (Bh _)⟩ hw
  refine bt.mono _ _ _ _ _ _ (λk0 e' h' hq=>?_) key
  obtain ⟨ks,h1,m,hlen,ht,⟨hl,hi,hq⟩,hm,rfl⟩:=hq
  have hn:k0.length=A.size:=by simpa using hlen
  refine ⟨zrS (T:=T) hd ?_ (λi hi hb=>ht.blind i (by rw [hn];exact hi) hb),?_⟩
  .rw [rA]
   refine Sz ht hn (λp hp=>?_) hl
   rw [<- rA] at hp
   exact zsj hp
  .refine hq hi { h1 with low:=m } ⟨hi.size,hi.get,hm⟩ ⟨bg _,λ_ _=>rfl,?_⟩ rfl
   show min m h1.size<=m
   omega
 .cases hd
end
def uo (A:Array Oper) (L:List Oper):List Oper->Nat->Prop
 | [],n=>∀ (P:Program) (T:bm) (ov:Ov) (b:Nat) (ks:List Nat) (e:Env) (h:Heap) (Q:List Nat->Env->Heap->Prop),cp P T ov b A (iM A n) ks e h Q=Q ks e h
 |o::l,n=>(∀ (P:Program) (T:bm) (ov:Ov) (b:Nat) (ks:List Nat) (e:Env) (h:Heap) (Q:List Nat->Env->Heap->Prop),cp P T ov b A (iM A n) ks e h Q=AN P T ov b A o (iM A (n+1)) ks o.dst e h Q (kf o) (jC L e o.guard) (dB o))/\uo A L l (n+1)
theorem TS (A:Array Oper) (h:∀ o∈A.toList,AV A.toList o=true):∀ (l:List Oper) (n:Nat),iM A n=l->(∀ o∈l,o∈A.toList)->uo A A.toList l n
 | [],n,hl,_=>λP T ov b ks e h Q=>by rw [hl];rfl
 |o::l,n,hl,hm=>by
  have kH:iM A (n+1)=l:=by
   unfold iM at hl ⊢
   have:=congrArg (List.drop 1) hl
   rw [zr] at this
   exact this
  refine ⟨λP T ov b ks e h' Q=>?_,TS A h l (n+1) kH (λx hx=>hm x (sq _ hx))⟩
  rw [hl,kH,Zi,NF (h o (hm o (qj ..)))]
def qe (N:Nat->Code) (m:Nat):Code->Nat->Prop
 | .seq a b,n=>qe N m a (n+1)/\qe N m b (n+1+aK a)
 | .cond _ a b,n=>qe N m a (n+1)/\qe N m b (n+1+aK a)
 | .rangeFunc _ _ a b,n=>qe N m a (n+1)/\qe N m b (n+1+aK a)
 | .block _ a,n=>qe N m a (n+1)
 | .loop a,n=>qe N m a (n+1)
 | .scope a,n=>qe N m a (n+1)
 | .region _ A true,n=>n=m->uo (iC (N n)) A.toList A.toList 0
 |_,_=>True
theorem sW (N:Nat->Code) (m:Nat):∀ (c:Code) (n:Nat),jU c=true->(∀ k,k < aK c->N (n+k)=ei c k)->qe N m c n
 | .seq a b,n,hw,h=>by
  simp only [jU,cY] at hw
  obtain ⟨e1,e2,f1,f2⟩:=Ay (a:=a) (b:=b) h (λk h1 h2=>by simp only [ei];rw [ay (by omega),aC h2]) (λk h1=>by simp only [ei];rw [ay (by omega),ay (by omega)]) (iK _) (iK _)
  exact ⟨sW N m a _ hw.1 f1,sW N m b _ hw.2 f2⟩
 | .cond o a b,n,hw,h=>by
  simp only [jU,cY] at hw
  obtain ⟨e1,e2,f1,f2⟩:=Ay (a:=a) (b:=b) h (λk h1 h2=>by simp only [ei];rw [ay (by omega),aC h2]) (λk h1=>by simp only [ei];rw [ay (by omega),ay (by omega)]) (iK _) (iK _)
  exact ⟨sW N m a _ hw.1 f1,sW N m b _ hw.2 f2⟩
 | .rangeFunc g ps a b,n,hw,h=>by
  simp only [jU,cY] at hw
  obtain ⟨e1,e2,f1,f2⟩:=Ay (a:=a) (b:=b) h (λk h1 h2=>by simp only [ei];rw [ay (by omega),aC h2]) (λk h1=>by simp only [ei];rw [ay (by omega),ay (by omega)]) (iK _) (iK _)
  exact ⟨sW N m a _ hw.1 f1,sW N m b _ hw.2 f2⟩
 | .block i a,n,hw,h=>by
  obtain ⟨e1,f1⟩:=AH (a:=a) h (λk h1=>by simp only [ei];rw [ay (by omega)])
  exact sW N m a _ hw f1
 | .loop a,n,hw,h=>by
  obtain ⟨e1,f1⟩:=AH (a:=a) h (λk h1=>by simp only [ei];rw [ay (by omega)])
  exact sW N m a _ hw f1
 | .scope a,n,hw,h=>by
  obtain ⟨e1,f1⟩:=AH (a:=a) h (λk h1=>by simp only [ei];rw [ay (by omega)])
  exact sW N m a _ hw f1
 | .region i A true,n,hw,h=>by
  have h0:N n=.region i A true:=h 0 (iK _)
  have hr:iC (N n)=A:=by rw [h0];rfl
  simp only [jU,cY,fD,Bool.not_true,zB] at hw
  intro _
  rw [hr]
  exact TS A hw.1 _ 0 rfl (λo ho=>ho)
 | .region i A false,n,hw,h=>trivial
 | .exit i,n,hw,h=>trivial
 | .ret,n,hw,h=>trivial
 | .skip,n,hw,h=>trivial
 | .label l,n,hw,h=>trivial
 | .goto l,n,hw,h=>trivial
 | .refuse w,n,hw,h=>trivial
theorem ztH (N:Nat->Code) (m:Nat) (f:Func) (hN:N=bq f:=by rfl) (hw:jU (codeOf f)=true:=by kernel_rfl):qe N m (codeOf f) 0 :=
 sW N m _ 0 hw (λk _=>by rw [hN,jX];rfl)
theorem zw8 {a b:Nat} (ha:a % 3≠2) (hb:b % 3≠2):ke a b=true:=by
 unfold ke
 simp [ha,hb]
theorem zw7 {x y:Nat} (h:x≠y):ke (3+3*x) (5+3*y)=true:=by
 unfold ke
 simp only [nY,cY,Nat.ble_eq,beq_iff_eq,bne_iff_ne]
 right
 refine ⟨⟨⟨by omega,by omega⟩,by omega⟩,.inl ⟨by omega,by omega⟩⟩
noncomputable def vM:=PLift.up (And.intro @Yt <| And.intro @YA <| And.intro @YB <| And.intro @zpu <| And.intro @zp5 <| And.intro @ZE <| And.intro @ZF <| And.intro @ZG <| And.intro @ZH <| And.intro @zsf <| @zsg)
theorem Et:type_of% vM.down:=vM.down
end Go.Am
namespace Go.Am
variable {i k n o o2 o3:Nat}
def c7 (s:aA) (o:Nat):Option (Nat × Nat):=(gV (s.extract o s.size)).map λx=>(x.1,o+x.2)
def eJ (s:aA) (o:Nat):Option (aA × Nat):=(c7 s o).bind λx=>if x.1<=s.size - x.2 then some (s.extract x.2 (x.2+x.1),x.2+x.1) else none
def gH (s:aA) (o:Nat):Option (Bool × Nat):=if o < s.size/\dm s o<=1 then some (decide (dm s o=1),o+1) else none
def dQ (s:aA) (o:Nat):Option (aH × Nat):=(gH s o).bind λx=>(eJ s x.2).map λy=>(⟨x.1,y.1⟩,y.2)
def ae.put (a:ae) (i:Nat) (t:aH):ae:=match i with
 |0=>{ a with t0:=t }
 |1=>{ a with t1:=t }
 |2=>{ a with t2:=t }
 |_=>{ a with t3:=t }
def gC (s:aA) (a:ae) (o:Nat):Nat->Option (ae × Nat)
 |0=>some (a,o)
 |i+1=>(gC s a o i).bind λx=>(dQ s x.2).map λy=>(x.1.put i y.1,y.2)
open Classical in
noncomputable def ie (s:aA) (o:Nat):Option (ae × Nat) :=
 (eJ s o).bind λx=>(eJ s x.2).bind λy=>(c7 s y.2).bind λn=>if n.1<=4 then (gC s { aw with says:=x.1,pred:=y.1 } n.2 n.1).bind λw=>if bu { w.1 with n:=n.1 } then some ({ w.1 with n:=n.1 },w.2) else none else none
theorem Ur {s:aA} (h:gV s=some (n,k)):k<=s.size/\0 < k/\n<=4294967295:=by
 unfold gV at h
 cases he:lW s with
 |none=>rw [he] at h;cases h
 |some i =>
  rw [he] at h
  simp only at h
  have hi:i < min s.size 5:=by
   unfold lW at he
   exact mZ.1 (List.mem_of_find?_eq_some he)
  split at h
  .cases h
  .rename_i hn
   injection h with h
   injection h with h1 h2
   subst h1 h2
   exact ⟨by omega,by omega,by omega⟩
theorem Gg {s:aA} (ho:o<=s.size) (h:c7 s o=some (n,o2)):o2<=s.size/\n<=4294967295:=by
 unfold c7 at h
 cases he:gV (s.extract o s.size) with
 |none=>rw [he] at h;cases h
 |some x =>
  rw [he] at h
  injection h with h
  injection h with h1 h2
  have:=Ur (n:=x.1) (k:=x.2) he
  rw [ByteArray.size_extract] at this
  subst h1 h2
  exact ⟨by omega,by omega⟩
theorem F6 {s:aA} {x:aA} (ho:o<=s.size) (h:eJ s o=some (x,o2)):o2<=s.size:=by
 unfold eJ at h
 cases he:c7 s o with
 |none=>rw [he] at h;cases h
 |some y =>
  rw [he] at h
  simp only [cM] at h
  have:=Gg (n:=y.1) (o2:=y.2) ho he
  split at h
  .injection h with h
   injection h with h1 h2
   subst h2
   omega
  .cases h
theorem zq3 {s:aA} {st:Option Nat} (h:st.bind (c7 s)=none):st.bind (eJ s)=none:=by
 cases st with
 |none=>rfl
 |some o =>
  rw [cM] at h ⊢
  unfold eJ
  rw [h]
  rfl
theorem zq4 {s:aA} {st:Option Nat} (h:st.bind (c7 s)=some (n,o)):st.bind (eJ s)=if n<=s.size - o then some (s.extract o (o+n),o+n) else none:=by
 cases st with
 |none=>cases h
 |some p =>
  rw [cM] at h ⊢
  unfold eJ
  rw [h]
  rfl
theorem zsr {s:aA} {st:Option Nat} (hs:∀ p,st=some p->p<=s.size) (h:st.bind (c7 s)=some (n,o)):o<=s.size/\n<=4294967295:=by
 cases st with
 |none=>cases h
 |some p=>exact Gg (hs p rfl) h
theorem SC {s:aA} {a:ae} {o i:Nat} (h:gC s a o i=none):∀ k,gC s a o (i+k)=none
 |0=>h
 |k+1=>by
  show (gC s a o (i+k)).bind _=none
  rw [SC h k]
  rfl
theorem zvq {s:aA} {t:aH} (h:dQ s o=some (t,o2)):o2<=s.size:=by
 unfold dQ gH at h
 split at h
 .rename_i hf
  simp only [cM] at h
  cases he:eJ s (o+1) with
  |none=>rw [he] at h;cases h
  |some y =>
   rw [he] at h
   injection h with h
   injection h with h1 h2
   subst h2
   exact F6 (x:=y.1) (by omega) he
 .cases h
theorem ztq {s:aA} {a:ae} (ho:o<=s.size):∀ {i o2:Nat} {b:ae},gC s a o i=some (b,o2)->o2<=s.size
 |0,_,_,h=>by
  injection h with h
  injection h with h1 h2
  omega
 |i+1,o2,b,h=>by
  unfold gC at h
  cases he:gC s a o i with
  |none=>rw [he] at h;cases h
  |some x =>
   rw [he] at h
   simp only [cM] at h
   cases h2:dQ s x.2 with
   |none=>rw [h2] at h;cases h
   |some y =>
    rw [h2] at h
    injection h with h
    injection h with h3 h4
    subst h4
    exact zvq (t:=y.1) h2
theorem zxb {s:aA} (h:c7 s o=some (n,o2)):n<=4294967295:=by
 unfold c7 at h
 cases he:gV (s.extract o s.size) with
 |none=>rw [he] at h;cases h
 |some x =>
  rw [he] at h
  injection h with h
  injection h with h1 h2
  have:=Ur (n:=x.1) (k:=x.2) he
  omega
theorem zvr (s:aA) (o:Nat):(dQ s o).map (·.2)=(((gH s o).map (·.2)).bind (eJ s)).map (·.2):=by
 unfold dQ
 cases gH s o with
 |none=>rfl
 |some x =>
  show ((eJ s x.2).map _).map _=(eJ s x.2).map _
  cases eJ s x.2 with
  |none=>rfl
  |some y=>rfl
theorem ztp {s:aA} {y:aH × Nat} (h:dQ s o=some y):y.1=⟨((gH s o).map (·.1)).getD false,((((gH s o).map (·.2)).bind (eJ s)).map (·.1)).getD ⟨#[]⟩⟩:=by
 unfold dQ at h
 cases hf:gH s o with
 |none=>rw [hf] at h;cases h
 |some x =>
  rw [hf] at h
  simp only [cM] at h
  cases ht:eJ s x.2 with
  |none=>rw [ht] at h;cases h
  |some w =>
   rw [ht] at h
   injection h with h
   subst h
   show _=aH.mk x.1 (((eJ s x.2).map _).getD _)
   rw [ht]
   rfl
theorem ztr {s:aA} {a0 a:ae} {o4:Nat} (h:gC s a0 o3 i=some (a,o4)):(gC s a0 o3 (i+1)).map (·.2)=(dQ s o4).map (·.2):=by
 show ((gC s a0 o3 i).bind _).map _=_
 rw [h]
 simp only [cM]
 cases dQ s o4 with
 |none=>rfl
 |some y=>rfl
theorem zrw {s:aA} {a0 a:ae} {o4:Nat} {x:ae × Nat} (h:gC s a0 o3 i=some (a,o4)) (hx:gC s a0 o3 (i+1)=some x):∃ y,dQ s o4=some y/\x.1=a.put i y.1:=by
 have e:gC s a0 o3 (i+1)=(gC s a0 o3 i).bind λx=>(dQ s x.2).map λy=>(x.1.put i y.1,y.2):=rfl
 rw [e,h] at hx
 simp only [cM] at hx
 cases ha:dQ s o4 with
 |none=>rw [ha] at hx;cases hx
 |some y =>
  rw [ha] at hx
  injection hx with hx
  exact ⟨y,rfl,by rw [<- hx]⟩
theorem zpC {s:aA} (h:((((eJ s o).map (·.2)).bind (eJ s)).map (·.2)).bind (c7 s)=none):ie s o=none:=by
 unfold ie
 cases h1:eJ s o with
 |none=>rfl
 |some x =>
  rw [h1] at h
  simp only [gJ,cM] at h ⊢
  cases h2:eJ s x.2 with
  |none=>rfl
  |some y =>
   rw [h2] at h
   simp only [gJ,cM] at h ⊢
   rw [h]
   rfl
open Classical in
theorem zpD {s:aA} {x1 x2:aA} {r1 r2:Option (aA × Nat)} {Ai yJ:Option Nat} (e1:r1=eJ s o) (e2:Ai=r1.map (·.2)) (e3:r2=Ai.bind (eJ s)) (e4:yJ=r2.map (·.2)) (e5:some (k,o3)=yJ.bind (c7 s)) (f1:x1=(r1.map (·.1)).getD ⟨#[]⟩) (f2:x2=(r2.map (·.1)).getD ⟨#[]⟩) :
 ie s o=if k<=4 then (gC s { aw with says:=x1,pred:=x2 } o3 k).bind λw=>if bu { w.1 with n:=k } then some ({ w.1 with n:=k },w.2) else none else none:=by
 subst e1 e2 e3 e4
 unfold ie
 cases h1:eJ s o with
 |none=>rw [h1] at e5;cases e5
 |some x =>
  rw [h1] at e5 f1 f2
  simp only [gJ,cM,zzo] at e5 f1 f2 ⊢
  cases h2:eJ s x.2 with
  |none=>rw [h2] at e5;cases e5
  |some y =>
   rw [h2] at e5 f2
   simp only [gJ,cM,zzo] at e5 f2 ⊢
   rw [<- e5,f1,f2]
   simp only [cM]
theorem zpO (a:ae) (hi:i < 4) (b:Bool):an a.cells (3+i*2+0) [.bool b]=(a.put i ⟨b,(a.arg i).s⟩).cells:=by
 have:i=0\/i=1\/i=2\/i=3:=by omega
 rcases this with rfl|rfl|rfl|rfl <;> rfl
theorem zpP (a:ae) (hi:i < 4) (b:Bool) (y x:aA):an (a.put i ⟨b,y⟩).cells (3+i*2+1) [.string x]=(a.put i ⟨b,x⟩).cells:=by
 have:i=0\/i=1\/i=2\/i=3:=by omega
 rcases this with rfl|rfl|rfl|rfl <;> rfl
theorem TW {s:aA} {a:ae} (ho:o<=s.size) (h:ie s o=some (a,k)):k<=s.size/\bu a:=by
 unfold ie at h
 obtain ⟨x,h1,h⟩:=bB.1 h
 obtain ⟨y,h2,h⟩:=bB.1 h
 obtain ⟨n,h3,h⟩:=bB.1 h
 have l1:=F6 (x:=x.1) (o2:=x.2) ho h1
 have l2:=F6 (x:=y.1) (o2:=y.2) l1 h2
 have l3:=Gg (n:=n.1) (o2:=n.2) l2 h3
 split at h
 .obtain ⟨w,h4,h⟩:=bB.1 h
  have l4:=ztq (b:=w.1) (o2:=w.2) l3.1 h4
  split at h
  .rename_i hv
   injection h with h
   injection h with e1 e2
   subst e1 e2
   exact ⟨l4,hv⟩
  .cases h
 .cases h
section
variable {L:Nat} {a b d:Heap} {bs:List bd} {w:Nat}
theorem Sm.refl (L:Nat) (h:Heap):Sm L h h:=⟨bg _,λ_ _ _=>rfl⟩
theorem Sm.trans (x:Sm L a b) (y:Sm L b d):Sm L a d:=⟨iG x.size y.size,λB hB aV=>(y.get B (eR hB x.size) aV).trans (x.get B hB aV)⟩
theorem Sm.lay (x:Sm L a b) (bs:List bd) (w:Nat):Sm L a (b.lay bs w):=x.trans (zxl _ _ _ _)
theorem Sm.over (x:Sm L a b) (y:Ext (b.lay bs w) d):Sm L a d:=(x.lay bs w).trans (y.sm L)
theorem Sm.cj (x:Sm L a b) (c:gL L (b.lay bs w) d):Sm L a d:=(x.lay bs w).trans c.sm
theorem Sm.iV (x:Sm L a b) (y:Sm L (b.lay bs w) d):Sm L a d:=(x.lay bs w).trans y
theorem Sm.fresh {A:Nat} (x:Sm L a b) (c:gL A (b.lay bs w) d) (hA:a.size<=A):Sm L a d:=⟨iG (x.lay bs w).size c.size,λB hB aV=>(c.get B (eR hB (x.lay bs w).size) (by omega)).trans ((x.lay bs w).get B hB aV)⟩
theorem Holds.lL {A:Nat} {bk:bd} (q:Holds a A bk) (x:Sm L (a.lay bs w) b) (aV:A≠L):Holds b A bk:=(q.on bs w).sm x aV
end
def ck (u:TypeId) (h:Heap) (C:Nat) (s:aA) (st:Option Nat):Prop:=∃ o:Nat,o<=s.size/\(∀ p,st=some p->p=o)/\Holds h C (.row [.string s,.int .i64 o,.bool st.isNone] u false)
section
variable {u:TypeId} {h h2:Heap} {C A:Nat} {s:aA} {st:Option Nat} {bs:List bd} {w:Nat}
theorem ck.lay (q:ck u h C s st) (bs:List bd) (w:Nat):ck u (h.lay bs w) C s st:=q.elim λo x=>⟨o,x.1,x.2.1,x.2.2.on bs w⟩
theorem ck.over (q:ck u h C s st) (x:Ext (h.lay bs w) h2):ck u h2 C s st:=q.elim λo y=>⟨o,y.1,y.2.1,y.2.2.over x⟩
theorem ck.sm (q:ck u h C s st) (x:Sm A h h2) (aV:C≠A):ck u h2 C s st:=q.elim λo y=>⟨o,y.1,y.2.1,y.2.2.sm x aV⟩
theorem ck.bG (q:ck u h C s st) (c:gL A (h.lay bs w) h2) (aV:C≠A):ck u h2 C s st:=(q.lay bs w).sm c.sm aV
theorem ck.lt (q:ck u h C s st):C < h.size:=q.elim λo y=>y.2.2.lt
end
section
variable {P:Program} {T:bm} {ov:Ov} {h1:Heap} {A w:Nat} {bs:List bd} {t:TypeId} {K:aF}
theorem zsY {u:TypeId} {cs vs:List ai} {v:ai} (q:Holds h1 A (.row cs u false)) (hs:c9 T t=some n) (hv:v.cells.toList=vs) (hl:vs.length=n) (hb:o+n<=cs.length) (b8:vs.all one=true)
 (hK:∀ h',Holds h' A (.row (an cs o vs) u false)->gL A (h1.lay bs w) h'->h'.low<=A->K undef h'):lr (gm T t (.pointer (some ⟨A,o,none⟩)) v (h1.lay bs w)) K:=by
 have hg:(h1.lay bs w).get A=some (.row cs u false):=q.lay bs w
 have hA:A < (h1.lay bs w).size:=(q.on bs w).lt
 have cA:v.cells.size=n:=by rw [<- hl,<- hv];simp
 have he:gm T t (.pointer (some ⟨A,o,none⟩)) v (h1.lay bs w)=some ((h1.lay bs w).set A (.row (an cs o vs) u false)):=by
  unfold gm
  simp only [hs,cM]
  rw [aC cA,hv]
  unfold nQ
  rw [hg]
  simp only
  rw [aC (by simp only [cY,jW];exact ⟨by omega,b8⟩)]
 rw [he]
 refine hK _ ⟨by rw [Heap.size_set];exact hA,by rw [Heap.aL _ _ _ _ hA,aC rfl]⟩ ⟨by rw [Heap.size_set];exact bg _,λB hB aV=>by rw [Heap.aL _ _ _ _ hA,ay aV],by rw [Heap.bY];omega⟩ (by rw [Heap.bY];omega)
theorem zrk {b:Nat} {ops:Array Oper} {l:List Oper} {ks:List Nat} {d:Option Tmp} {Q:List Nat->Env->Heap->Prop} {e:Env} {h h':Heap} {k1 k2:Nat} {v:ai} (hb:b<=h.size) (hA:b<=A) (aS:A < h.size) (x:gL A (h.lay [] h.size) h') (js:h'.low<=A)
 (hk:cp P T ov b ops l (ks++[k2]) (put e d v) h' Q):OI P T ov b ops l ks d Q e h k1 k2 v h':=by
 have h1:=x.low
 have h2:=x.size
 rw [Iw,cF] at h1
 rw [cF] at h2
 simp only [jb,iN] at h1 h2
 exact ⟨⟨⟨by omega,by omega⟩,.inr ⟨by omega,hk⟩⟩⟩
end
end Go.Am
