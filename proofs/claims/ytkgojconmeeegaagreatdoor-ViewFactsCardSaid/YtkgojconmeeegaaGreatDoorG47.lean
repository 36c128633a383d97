/- Regions whose order is drawn, with kinds told for each operation: a store to what the region laid, a load of what it did not lay. No condition. -/
import Derived.Test.YtkgojconmeeegaaGreatDoorG46
set_option linter.unusedSimpArgs false
set_option linter.unusedVariables false
namespace Go.Am
variable {h:Heap} {e:Env} {ks:List Nat} {ops:Array Oper} {b:Nat}
inductive KC where
 |plain
 |load (a:Operand)
 |build
 |store (a:Operand)
def oN (o:Oper):KC:=match o.op with
 | .load _ a=>.load a
 | .buildSlice _ _ _=>.build
 | .store _ a _=>.store a
 |_=>.plain
def zCI:ae->Nat
 | .pointer (some x)=>3+3*x.block
 |_=>1
def zCJ:ae->Nat
 | .pointer (some x)=>5+3*x.block
 |_=>2
def xf (c:KC) (e:Env) (n:Nat):Nat:=match c with
 | .load a=>zCI (bz e a)
 | .build=>4+3*n
 |_=>1
def Kc (c:KC) (e:Env):Nat:=match c with
 | .store a=>zCJ (bz e a)
 |_=>2
theorem zxy (A o:Nat):zCI (.pointer (some ⟨A,o,none⟩))=3+3*A:=rfl
theorem zxz (A o:Nat):zCJ (.pointer (some ⟨A,o,none⟩))=5+3*A:=rfl
theorem zuG (a:Operand) (e:Env) (n:Nat):xf (.load a) e n=zCI (bz e a):=rfl
theorem zrF (e:Env) (n:Nat):xf .build e n=4+3*n:=rfl
theorem zrG (e:Env) (n:Nat):xf .plain e n=1:=rfl
theorem zrH (a:Operand) (e:Env) (n:Nat):xf (.store a) e n=1:=rfl
theorem zrI (a:Operand) (e:Env):Kc (.store a) e=zCJ (bz e a):=rfl
section
variable {T:bL}
theorem zlE {o:Oper} {h':Heap} (hb:rR T o=false) (hl:h.size<=h'.low):kJ T o e h h'=xf (oN o) e h.size:=by
 unfold kJ
 rw [az (by rw [hb];decide),aE hl]
 unfold xf oN
 obtain ⟨dst,op,ty,pos,after,guard⟩:=o
 cases op <;> rfl
theorem zuF {o:Oper} {h':Heap} (hb:rR T o=false) (hl:¬ h.size<=h'.low):kJ T o e h h'=Kc (oN o) e:=by
 unfold kJ
 rw [az (by rw [hb];decide),az hl]
 unfold Kc oN
 obtain ⟨dst,op,ty,pos,after,guard⟩:=o
 cases op <;> rfl
end
section
variable (P:Program) (T:bL) (ov:Ov)
def dy (b:Nat) (ops:Array Oper):List Oper->List Nat->Env->Heap->(List Nat->Env->Heap->Prop)->Prop
 | [],ks,e,h,Q=>Q ks e h
 |o::l,ks,e,h,Q=>sV (nP ops o e)
    (if fh o=true then cy P T ov o e h λv _=>dy b ops l (ks++[xf (oN o) e h.size]) (put e o.dst v) h Q
     else cy P T ov o e { h with low:=h.size } λv h'=>(b<=h'.low/\h.size<=h'.size)/\((h.size<=h'.low/\dy b ops l (ks++[xf (oN o) e h.size]) (put e o.dst v) h' Q)\/(¬ h.size<=h'.low/\dy b ops l (ks++[Kc (oN o) e]) (put e o.dst v) h' Q)))
    (dy b ops l (ks++[0]) (put e o.dst undef) h Q)
def zwm (b:Nat) (ops:Array Oper) (l:List Oper) (ks:List Nat) (d:Option Tmp) (Q:List Nat->Env->Heap->Prop) (e:Env) (h:Heap) (k:Nat):aG:=λv _=>Hid (dy P T ov b ops l (ks++[k]) (put e d v) h Q)
def Vk (b:Nat) (ops:Array Oper) (l:List Oper) (ks:List Nat) (d:Option Tmp) (Q:List Nat->Env->Heap->Prop) (e:Env) (h:Heap) (k1 k2:Nat):aG:=λv h' =>
 Hid ((b<=h'.low/\h.size<=h'.size)/\((h.size<=h'.low/\dy P T ov b ops l (ks++[k1]) (put e d v) h' Q)\/(¬ h.size<=h'.low/\dy P T ov b ops l (ks++[k2]) (put e d v) h' Q)))
def JI (b:Nat) (ops:Array Oper) (o:Oper) (l:List Oper) (ks:List Nat) (d:Option Tmp) (e:Env) (h:Heap) (Q:List Nat->Env->Heap->Prop) (c:KC) (w q:Bool):Prop :=
 if w=true then (if q=true then cy P T ov o e h (zwm P T ov b ops l ks d Q e h (xf c e h.size)) else cy P T ov o e (h.lay [] h.size) (Vk P T ov b ops l ks d Q e h (xf c e h.size) (Kc c e))) else dy P T ov b ops l (ks++[0]) (put e d undef) h Q
end
section
variable {P:Program} {T:bL} {ov:Ov}
theorem zq0 (b:Nat) (ops:Array Oper) (o:Oper) (l:List Oper) (ks:List Nat) (e:Env) (h:Heap) (Q:List Nat->Env->Heap->Prop):dy P T ov b ops (o::l) ks e h Q=JI P T ov b ops o l ks o.dst e h Q (oN o) (nP ops o e) (fh o):=by
 simp only [dy,sV,JI]
 split
 .split
  .exact propext ⟨cy.mono λ_ _ hw=>⟨hw⟩,cy.mono λ_ _ hw=>hw.out⟩
  .exact propext ⟨cy.mono λ_ _ hw=>⟨hw⟩,cy.mono λ_ _ hw=>hw.out⟩
 .rfl
theorem zmm (b:Nat) (ops:Array Oper) (o:Oper) (l:List Oper) (ks:List Nat) (d:Option Tmp) (e:Env) (h:Heap) (Q:List Nat->Env->Heap->Prop) (c:KC):JI P T ov b ops o l ks d e h Q c true true=cy P T ov o e h (zwm P T ov b ops l ks d Q e h (xf c e h.size)):=rfl
theorem zog (b:Nat) (ops:Array Oper) (o:Oper) (l:List Oper) (ks:List Nat) (d:Option Tmp) (e:Env) (h:Heap) (Q:List Nat->Env->Heap->Prop) (c:KC):JI P T ov b ops o l ks d e h Q c true false=cy P T ov o e (h.lay [] h.size) (Vk P T ov b ops l ks d Q e h (xf c e h.size) (Kc c e)):=rfl
theorem zoh (b:Nat) (ops:Array Oper) (o:Oper) (l:List Oper) (ks:List Nat) (d:Option Tmp) (e:Env) (h:Heap) (Q:List Nat->Env->Heap->Prop) (c:KC) (q:Bool):JI P T ov b ops o l ks d e h Q c false q=dy P T ov b ops l (ks++[0]) (put e d undef) h Q:=rfl
theorem zt1 (b:Nat) (ops:Array Oper) (l:List Oper) (ks:List Nat) (d:Option Tmp) (Q:List Nat->Env->Heap->Prop) (e:Env) (h:Heap) (k:Nat) (v:ae) (h':Heap):zwm P T ov b ops l ks d Q e h k v h'=dy P T ov b ops l (ks++[k]) (put e d v) h Q:=zxp _
theorem zi4 {l:List Oper} {d:Option Tmp} {Q:List Nat->Env->Heap->Prop} {hh:Heap} {xy bs:List bh} {w s k1 k2:Nat} {v:ae} (hl:xy.length<=bs.length) (hb:b<=s) (hs:hh.size+xy.length<=s)
 (hk:dy P T ov b ops l (ks++[k1]) (put e d v) (hh.lay bs s) Q):Vk P T ov b ops l ks d Q e (hh.lay xy w) k1 k2 v (hh.lay bs s) :=
 ⟨⟨⟨hb,by rw [bf,bf];omega⟩,.inl ⟨by rw [bf];exact hs,hk⟩⟩⟩
theorem zqY {l:List Oper} {d:Option Tmp} {Q:List Nat->Env->Heap->Prop} {hh:Heap} {xy bs:List bh} {w s k1 k2:Nat} {v:ae} (hl:xy.length=bs.length) (hb:b<=s) (hs:s < hh.size+xy.length)
 (hk:dy P T ov b ops l (ks++[k2]) (put e d v) (hh.lay bs s) Q):Vk P T ov b ops l ks d Q e (hh.lay xy w) k1 k2 v (hh.lay bs s) :=
 ⟨⟨⟨hb,by rw [bf,bf];omega⟩,.inr ⟨by rw [bf];show ¬ _<=s;omega,hk⟩⟩⟩
structure Told (T:bL) (ops:Array Oper) (k0 ks:List Nat):Prop where
 len:k0.length=ks.length
 blind:∀ i,i < k0.length->nM T ops i=true->k0.getD i 2=0
 same:∀ i,i < k0.length->nM T ops i=false->k0.getD i 2=ks.getD i 2
theorem Um (l:List Nat) (c i:Nat) (hi:i < (l++[c]).length):(i < l.length/\(l++[c]).getD i 2=l.getD i 2)\/(i=l.length/\(l++[c]).getD i 2=c):=by
 rw [cW,sW] at hi
 by_cases aP:i < l.length
 .refine .inl ⟨aP,?_⟩
  rw [kK,kK,mX aP]
 .have:i=l.length:=by omega
  subst this
  refine .inr ⟨rfl,?_⟩
  rw [kK,px (by omega),Df]
  rfl
theorem Told.snoc {k0:List Nat} {c d:Nat} (h:Told T ops k0 ks) (hb:nM T ops k0.length=true->c=0) (hs:nM T ops k0.length=false->c=d):Told T ops (k0++[c]) (ks++[d]):=by
 refine ⟨by simp [h.len],λi hi mC=>?_,λi hi mC=>?_⟩
 .rcases Um k0 c i hi with ⟨g1,g2⟩|⟨g1,g2⟩
  .rw [g2];exact h.blind i g1 mC
  .rw [g2];rw [g1] at mC;exact hb mC
 .rcases Um k0 c i hi with ⟨g1,g2⟩|⟨g1,g2⟩
  .rcases Um ks d i (by simp [<- h.len];omega) with ⟨f1,f2⟩|⟨f1,f2⟩
   .rw [g2,f2];exact h.same i g1 mC
   .have:=h.len;omega
  .rcases Um ks d i (by simp [<- h.len];omega) with ⟨f1,f2⟩|⟨f1,f2⟩
   .have:=h.len;omega
   .rw [g2,f2];rw [g1] at mC;exact hs mC
theorem dy.An {ops:Array Oper} {b:Nat}:∀ (l:List Oper) (k0 ks:List Nat) (e:Env) (h:Heap) (m:Nat) (Q:List Nat->Env->Heap->Prop),b<=h.size->b<=m->ops.toList.drop k0.length=l->Told T ops k0 ks->dy P T ov b ops l ks e h Q ->
 cn P T ov ops l k0 e { h with low:=m } λEa e' h'=>∃ eI h1 m',Ea.length=k0.length+l.length/\Told T ops Ea eI/\Q eI e' h1/\b<=m'/\h'={ h1 with low:=m' }
 | [],k0,ks,e,h,m,Q,hb,hm,hd,wJ,hw=>⟨ks,h,m,rfl,wJ,hw,hm,rfl⟩
 |o::l,k0,ks,e,h,m,Q,hb,hm,hd,wJ,hw=>by
  have mC:nM T ops k0.length=rR T o:=by
   have:ops[k0.length]? = some o:=by
    have h1:(ops.toList.drop k0.length)[0]? = some o:=by rw [hd];rfl
    rw [lA] at h1
    simpa using h1
   simp only [nM,this]
  have mg:∀ c,ops.toList.drop (k0++[c]).length=l:=by
   intro c
   rw [cW,sW,<- Dd,hd]
   rfl
  have fin:∀ (c:Nat) (Ea:List Nat) (e':Env) (h':Heap),(∃ eI h1 m',Ea.length=(k0++[c]).length+l.length/\Told T ops Ea eI/\Q eI e' h1/\b<=m'/\h'={ h1 with low:=m' }) ->
   ∃ eI h1 m',Ea.length=k0.length+(o::l).length/\Told T ops Ea eI/\Q eI e' h1/\b<=m'/\h'={ h1 with low:=m' }:=by
   rintro c Ea e' h' ⟨eI,h1,m',g1,g2⟩
   refine ⟨eI,h1,m',?_,g2⟩
   simp only [cW,de,dr] at g1 ⊢
   omega
  have kz:∀ h1 h2:Heap,nM T ops k0.length=true->kJ T o e h1 h2=0:=by
   intro h1 h2 hb
   unfold kJ
   rw [aE (mC ▸ hb)]
  simp only [dy,cn,sV] at hw ⊢
  split at hw
  .rename_i iE
   rw [aE iE]
   split at hw
   .rename_i hq
    have h0:=cy.quiet hq hw h.size
    refine cy.mono (λv h' ⟨he,hw⟩=>?_) h0
    subst he
    refine cn.mono _ _ _ _ _ _ (λeI e' h' vE=>fin _ eI e' h' vE) (dy.An l _ _ _ h (min m h.size) Q hb (by omega) (mg _) (wJ.snoc (λhb=>kz _ _ hb) (λhb=>zlE (h:={ h with low:=m }) (by rw [<- mC];exact hb) (bo _))) hw)
   .refine cy.mono (λv h' ⟨⟨h2,h3⟩,hw⟩=>?_) hw
    rcases hw with ⟨h1,hw⟩|⟨h1,hw⟩
    .exact cn.mono _ _ _ _ _ _ (λeI e' h' vE=>fin _ eI e' h' vE) (dy.An l _ _ _ h' (min m h'.low) Q (by omega) (by omega) (mg _) (wJ.snoc (λhb=>kz _ _ hb) (λhb=>zlE (h:={ h with low:=m }) (by rw [<- mC];exact hb) h1)) hw)
    .exact cn.mono _ _ _ _ _ _ (λeI e' h' vE=>fin _ eI e' h' vE) (dy.An l _ _ _ h' (min m h'.low) Q (by omega) (by omega) (mg _) (wJ.snoc (λhb=>kz _ _ hb) (λhb=>zuF (h:={ h with low:=m }) (by rw [<- mC];exact hb) h1)) hw)
  .rename_i iE
   rw [az iE]
   exact cn.mono _ _ _ _ _ _ (λeI e' h' vE=>fin 0 eI e' h' vE) (dy.An l _ _ _ h m Q hb hm (mg _) (wJ.snoc (λ_=>rfl) (λ_=>rfl)) hw)
theorem zxD {ms:List Nat} {p:Nat × Nat} (h:p∈Ke T ops ms):p.1 < ops.size/\p.2 < ops.size/\nM T ops p.1=false/\nM T ops p.2=false:=by
 unfold Ke at h
 obtain ⟨j,hj,h⟩:=J1.1 h
 obtain ⟨i,hi,h⟩:=List.mem_filterMap.1 h
 have hj:=uc.1 hj
 have hi:=uc.1 hi
 split at h
 .cases h
 .rename_i hc
  cases h
  simp only [qt,not_or,Bool.not_eq_true] at hc
  exact ⟨by omega,hj,hc.1.2,hc.2⟩
theorem zlG {ops:Array Oper} {k0 ks:List Nat} (h:Told T ops k0 ks) (hn:k0.length=ops.size):∀ {ps:List (Nat × Nat)},(∀ p∈ps,p.1 < ops.size/\p.2 < ops.size/\nM T ops p.1=false/\nM T ops p.2=false)->AB ks ps=true->AB k0 ps=true
 | [],_,_=>rfl
 |(i,j)::ps,hp,hl=>by
  obtain ⟨h1,h2,h3,h4⟩:=hp (i,j) lj
  unfold AB at hl ⊢
  rw [dP] at hl ⊢
  rw [h.same i (by rw [hn];exact h1) h3,h.same j (by rw [hn];exact h2) h4]
  exact ⟨hl.1,zlG h hn (λp hm=>hp p (gJ _ hm)) hl.2⟩
theorem zBN {K:Code} (hd:JT K=true) {rd:Option Nat} {h0:Heap} {Q:Ex->Env->Heap->Prop} {ps:List (Nat × Nat)} (oG:Ke T (k7 K) (nS (k7 K).toList [])=ps) (z:Ext h0 h)
 (hw:dy P T ov (min h0.low h0.size) (k7 K) (ml (k7 K) 0) [] e h λks e' h1=>AB ks ps=true/\AX h0 h1/\Bw h0 Q e' h1):W P T ov rd K e h Q:=by
 unfold JT at hd
 split at hd
 .rename_i i A
  have oG:Ke T A (nS A.toList [])=ps:=oG
  have hw:dy P T ov (min h0.low h0.size) A A.toList [] e h λks e' h1=>AB ks ps=true/\AX h0 h1/\Bw h0 Q e' h1:=hw
  show cn P T ov A A.toList [] e h (zEW A Q)
  have key:=dy.An (T:=T) A.toList [] [] e h h.low _ (show min h0.low h0.size<=h.size by have:=z.size;omega) z.low rfl ⟨rfl,λi hi=>absurd hi (J7 _),λi hi=>absurd hi (J7 _)⟩ hw
  refine cn.mono _ _ _ _ _ _ (λk0 e' h' hq=>?_) key
  obtain ⟨ks,h1,m,hlen,ht,⟨hl,hi,hq⟩,hm,rfl⟩:=hq
  have hn:k0.length=A.size:=by simpa using hlen
  refine ⟨zwX (T:=T) hd ?_ (λi hi hb=>ht.blind i (by rw [hn];exact hi) hb),?_⟩
  .rw [oG]
   refine zlG ht hn (λp hp=>?_) hl
   rw [<- oG] at hp
   exact zxD hp
  .refine hq hi { h1 with low:=m } ⟨hi.size,hi.get,hm⟩ ⟨bo _,λ_ _=>rfl,?_⟩ rfl
   show min m h1.size<=m
   omega
 .cases hd
end
def Cv (A:Array Oper) (L:List Oper):List Oper->Nat->Prop
 | [],n=>∀ (P:Program) (T:bL) (ov:Ov) (b:Nat) (ks:List Nat) (e:Env) (h:Heap) (Q:List Nat->Env->Heap->Prop),dy P T ov b A (ml A n) ks e h Q=Q ks e h
 |o::l,n=>(∀ (P:Program) (T:bL) (ov:Ov) (b:Nat) (ks:List Nat) (e:Env) (h:Heap) (Q:List Nat->Env->Heap->Prop),dy P T ov b A (ml A n) ks e h Q=JI P T ov b A o (ml A (n+1)) ks o.dst e h Q (oN o) (nJ L e o.guard) (fh o))/\Cv A L l (n+1)
theorem ztw (A:Array Oper) (h:∀ o∈A.toList,JE A.toList o=true):∀ (l:List Oper) (n:Nat),ml A n=l->(∀ o∈l,o∈A.toList)->Cv A A.toList l n
 | [],n,hl,_=>λP T ov b ks e h Q=>by rw [hl];rfl
 |o::l,n,hl,hm=>by
  have j7:ml A (n+1)=l:=by
   unfold ml at hl ⊢
   have:=congrArg (List.drop 1) hl
   rw [Dd] at this
   exact this
  refine ⟨λP T ov b ks e h' Q=>?_,ztw A h l (n+1) j7 (λx hx=>hm x (gJ _ hx))⟩
  rw [hl,j7,zq0,znC (h o (hm o (lj ..)))]
def xb (N:Nat->Code) (m:Nat):Code->Nat->Prop
 | .seq a b,n=>xb N m a (n+1)/\xb N m b (n+1+bd a)
 | .cond _ a b,n=>xb N m a (n+1)/\xb N m b (n+1+bd a)
 | .rangeFunc _ _ a b,n=>xb N m a (n+1)/\xb N m b (n+1+bd a)
 | .block _ a,n=>xb N m a (n+1)
 | .loop a,n=>xb N m a (n+1)
 | .scope a,n=>xb N m a (n+1)
 | .region _ A true,n=>n=m->Cv (k7 (N n)) A.toList A.toList 0
 |_,_=>True
theorem Ap (N:Nat->Code) (m:Nat):∀ (c:Code) (n:Nat),og c=true->(∀ k,k < bd c->N (n+k)=gB c k)->xb N m c n
 | .seq a b,n,hw,h=>by
  simp only [og,dP] at hw
  obtain ⟨e1,e2,f1,f2⟩:=Jq (a:=a) (b:=b) h (λk h1 h2=>by simp only [gB];rw [az (by omega),aE h2]) (λk h1=>by simp only [gB];rw [az (by omega),az (by omega)]) (mj _) (mj _)
  exact ⟨Ap N m a _ hw.1 f1,Ap N m b _ hw.2 f2⟩
 | .cond o a b,n,hw,h=>by
  simp only [og,dP] at hw
  obtain ⟨e1,e2,f1,f2⟩:=Jq (a:=a) (b:=b) h (λk h1 h2=>by simp only [gB];rw [az (by omega),aE h2]) (λk h1=>by simp only [gB];rw [az (by omega),az (by omega)]) (mj _) (mj _)
  exact ⟨Ap N m a _ hw.1 f1,Ap N m b _ hw.2 f2⟩
 | .rangeFunc g ps a b,n,hw,h=>by
  simp only [og,dP] at hw
  obtain ⟨e1,e2,f1,f2⟩:=Jq (a:=a) (b:=b) h (λk h1 h2=>by simp only [gB];rw [az (by omega),aE h2]) (λk h1=>by simp only [gB];rw [az (by omega),az (by omega)]) (mj _) (mj _)
  exact ⟨Ap N m a _ hw.1 f1,Ap N m b _ hw.2 f2⟩
 | .block i a,n,hw,h=>by
  obtain ⟨e1,f1⟩:=Jv (a:=a) h (λk h1=>by simp only [gB];rw [az (by omega)])
  exact Ap N m a _ hw f1
 | .loop a,n,hw,h=>by
  obtain ⟨e1,f1⟩:=Jv (a:=a) h (λk h1=>by simp only [gB];rw [az (by omega)])
  exact Ap N m a _ hw f1
 | .scope a,n,hw,h=>by
  obtain ⟨e1,f1⟩:=Jv (a:=a) h (λk h1=>by simp only [gB];rw [az (by omega)])
  exact Ap N m a _ hw f1
 | .region i A true,n,hw,h=>by
  have h0:N n=.region i A true:=h 0 (mj _)
  have hr:k7 (N n)=A:=by rw [h0];rfl
  simp only [og,dP,gK,Bool.not_true,Ih] at hw
  intro _
  rw [hr]
  exact ztw A hw.1 _ 0 rfl (λo ho=>ho)
 | .region i A false,n,hw,h=>trivial
 | .exit i,n,hw,h=>trivial
 | .ret,n,hw,h=>trivial
 | .skip,n,hw,h=>trivial
 | .label l,n,hw,h=>trivial
 | .goto l,n,hw,h=>trivial
 | .refuse w,n,hw,h=>trivial
theorem zzF (N:Nat->Code) (m:Nat) (f:Func) (hN:N=bp f:=by rfl) (hw:og (codeOf f)=true:=by kernel_rfl):xb N m (codeOf f) 0 :=
 Ap N m _ 0 hw (λk _=>by rw [hN,iu];rfl)
theorem zDY {a:Nat} (ha:a % 3≠2) (hb:b % 3≠2):oM a b=true:=by
 unfold oM
 simp [ha,hb]
theorem zDX {x y:Nat} (h:x≠y):oM (3+3*x) (5+3*y)=true:=by
 unfold oM
 simp only [qt,dP,Nat.ble_eq,beq_iff_eq,bne_iff_ne]
 right
 refine ⟨⟨⟨by omega,by omega⟩,by omega⟩,.inl ⟨by omega,by omega⟩⟩
noncomputable def Ej:=PLift.up (And.intro @zmm <| And.intro @zog <| And.intro @zoh <| And.intro @zt1 <| And.intro @zuG <| And.intro @zrF <| And.intro @zrG <| And.intro @zrH <| And.intro @zrI <| And.intro @zxy <| @zxz)
theorem aaB:type_of% Ej.down:=Ej.down
end Go.Am
namespace Go.Proofs.YtkgojconmeeegaaGreatDoor
open Go.Am Tryz
set_option maxRecDepth 100000
set_option maxHeartbeats 0
noncomputable def xG:=PLift.up (by have c:=zzF SQ 51 f52;simp only [codeOf,f52,J3,xb,Cv,bd,nJ,fh,oN,List.append_eq,wt,qu,iu,Nat.reduceAdd,true_implies,and_true,true_and] at c;exact c)
theorem cG:type_of% xG.down:=xG.down
theorem zCT (l:List aN) (v:ae) (p g:ak) (h:Heap) (hl:Sl aJ.bind h v l) (hs:l.length<=890) (K:aG)
 (hk:∀ h' w b,Ext h h'->(ec l p g=none->b=false)->(∀ m,ec l p g=some m->b=true/\∃ A,Ow aJ.bind h h' 195 A w m)->K (.tuple #[w,.bool b]) h'):Ok prog aA ov 52 [v,p.val,g.val] h K:=by
 rw [ao h]
 have z:=Ext.refl h
 refine Ok.aq 112 (bm SQ) ?_
 repeat' (simp only [aa,seval,my,fA])
 refine zpy l _ _ ((hl.mono z.inc).lay _ _) (by omega) _ (λh' e x he=>?_)
 have q0:=Holds.top (i:=0) x rfl
 have q1:=Holds.top (i:=1) x rfl
 (replace z:=z.aj x;rw [ao h'])
 simp only [aa,seval,my]
 refine SL ?_ ?_
 .intro ba
  repeat' (simp only [aa,seval,my])
  have hn:ec l p g=none:=by unfold ec;rw [aE (.inl (λhh=>ba (he.2 hh)))]
  exact hk _ _ _ z.au (λ_=>rfl) (λm hm=>by rw [hn] at hm;cases hm)
 intro yi
 have hC:=he.1 yi
 simp only [aa,seval,my,q0.lay,q1.lay,↓dW,dO,da]
 refine zxO p g _ _ (λh' x=>?_)
 (replace z:=z.aj x;replace q0:=q0.over x;replace q1:=q1.over x;rw [ao h'])
 cases tx:rU p g
 .repeat' (first|simp only [aa,seval,my]|((with_reducible apply bI);(· rfl)))
  have hn:ec l p g=none:=by unfold ec;rw [aE (.inr (.inl tx))]
  exact hk _ _ _ z.au (λ_=>rfl) (λm hm=>by rw [hn] at hm;cases hm)
 repeat' (first|simp only [aa,seval,my,q1.lay,↓dW,dO,da]|((with_reducible apply bI);(· rfl)))
 refine zve g _ _ (λh' x=>?_)
 (replace z:=z.aj x;replace q0:=q0.over x;replace q1:=q1.over x;rw [ao h'])
 cases BL:g.ground
 .repeat' (first|simp only [aa,seval,my]|((with_reducible apply bI);(· rfl)))
  have hn:ec l p g=none:=by unfold ec;rw [aE (.inr (.inr BL))]
  exact hk _ _ _ z.au (λ_=>rfl) (λm hm=>by rw [hn] at hm;cases hm)
 repeat' (first|simp only [aa,seval,my]|((with_reducible apply bI);(· rfl)))
 have IM:0<=p.n/\p.n<=4:=by
  unfold rU at tx
  simp only [dP,gY] at tx
  exact tx.2.2.2
 have rH:=z.size
 obtain ⟨A0,dK⟩:∃ A0,A0=h.size+0:=⟨_,rfl⟩
 obtain ⟨A1,me⟩:∃ A1,A1=h.size+1:=⟨_,rfl⟩
 rw [<- dK] at q0
 rw [<- me] at q1
 rw [<- dK,<- me]
 obtain ⟨I1,aO⟩:∃ I:Nat->Env->Heap->Prop,I=(λn e h'=>∃ (k:Nat) (h1:Heap),h'=h1.lay [] h1.low/\Ext h h1/\(n=4 - k/\(k:Int)<=p.n/\(∀ i,i < k->(i:Int) < p.n->lH l (p.arg i)=false)/\Holds h1 A0 (.row p.cells 34 false)/\Holds h1 A1 (.row g.cells 34 false))/\∃ J:Nat->ae,e=(v::jr J 1 3 (.pointer (some ⟨A0,0,none⟩)::.pointer (some ⟨A1,0,none⟩)::jr J 6 2 (.int .i64 k::jr J 9 106 ([]))))):=⟨_,rfl⟩
 refine cK I1 _ (by rw [aO];exact ⟨0,_,rfl,z,⟨rfl,by omega,by intro i hi;omega,q0,q1⟩,bc⟩) ?_
 intro n e h' aK
 rw [aO] at aK
 obtain ⟨k,bD,rfl,z,hinv,J,rfl⟩:=aK
 clear q0 q1
 obtain ⟨rfl,tF,yb,q0,q1⟩:=hinv
 have hw:=dE k (by omega)
 have hz:=z.size
 simp only [aa,seval,my,q0.lay,Ve]
 refine bg (λaP=>?_) (λaP=>?_)
 rotate_left
 .have pV:p.n=(k:Int):=by omega
  have yc:¬ ∃ i:Nat,i < 4/\(i:Int) < p.n/\lH l (p.arg i)=true:=by
   rintro ⟨i,g1,g2,g3⟩
   rw [yb i (by omega) g2] at g3
   cases g3
  have pR:ec l p g=vW p g p.n.toNat l:=by
   unfold ec
   rw [az (by simp [hC,tx,BL]),az yc]
  repeat' (simp only [aa,seval,my])
  simp only [cR,seval,ja,zK]
  have OU:=q0.lt
  have q1l:=q1.lt
  obtain ⟨news,gr,lQ⟩:=rX (A:=bD.size+1) (r:=aJ.bind) (by decide) ((hl.mono z.inc).lay [.row [] 195 false] bD.low) (λcs y hr=>hr)
  have f:Ow aJ.bind h (bD.lay [.row [] 195 false] bD.low) 195 (bD.size+1) (.slice (some ⟨bD.size+0,0,none⟩) 0 0) [] :=
   .inl ⟨by omega,rfl,.inr ⟨bD.size+0,0,rfl,by omega,by rw [bf];simp,[],195,false,by rw [gH];rfl⟩⟩
  obtain ⟨w,h2,A',e1,e2,e3,e4,e5⟩:=tX (t:=62) dm vU rfl (by decide) (by rw [bf];omega) f gr lQ (by simp only [dr];omega) (by simp only [dr];omega)
  rw [e1]
  have I0:=q0.bj e3 (by omega)
  have I6:=q1.bj e3 (by omega)
  replace z:=z.au.step e3 (by omega)
  have DU:Ow aJ.bind h h2 195 A' w l:=by simpa using e2
  clear q0 q1
  rw [ao h2]
  have mT:∀ (h:Heap) (K:aG),aD (some w) h K=K w h:=λ_ _=>rfl
  repeat' (simp only [aa,seval,my])
  obtain ⟨I2,ey⟩:∃ I:Nat->Env->Heap->Prop,I=(λn e h'=>∃ (k:Nat) (out:List aN) (w:ae) (A:Nat) (h1:Heap),h'=h1.lay [] h1.low/\Ext h h1/\(n=4 - k/\(k:Int)<=p.n/\vW p g k l=some out/\Ow aJ.bind h h1 195 A w out/\out.length<=l.length+k/\Holds h1 A0 (.row p.cells 34 false)/\Holds h1 A1 (.row g.cells 34 false))/\∃ J:Nat->ae,e=(jr J 0 4 (.pointer (some ⟨A0,0,none⟩)::.pointer (some ⟨A1,0,none⟩)::jr J 6 6 (w::.int .i64 k::jr J 14 101 ([]))))):=⟨_,rfl⟩
  refine cK I2 _ (by rw [ey];exact ⟨0,l,w,A',_,rfl,z,⟨rfl,by omega,rfl,DU,by omega,I0,I6⟩,bc⟩) ?_
  intro n e h' aK
  rw [ey] at aK
  obtain ⟨k,out,w,A,j4,rfl,z,hinv,J,rfl⟩:=aK
  clear I0 I6 DU mT
  obtain ⟨rfl,II,kT,cT,hlen,q0,q1⟩:=hinv
  have hw:=dE k (by omega)
  have mT:∀ (h:Heap) (K:aG),aD (some w) h K=K w h:=λ_ _=>rfl
  have hz:=z.size
  simp only [aa,seval,my,q0.lay,Ve]
  refine bg (λaP=>?_) (λaP=>?_)
  rotate_left
  .repeat' ( simp only [aa,seval,my])
   have pV:p.n.toNat=k:=by omega
   rw [pR,pV,kT] at hk
   exact hk _ _ _ z.au (λhm=>by cases hm) (λm hm=>by cases hm;exact ⟨rfl,_,cT.mono (b8.lay _ _ _)⟩)
  have lN:(0:Int)<=(k:Int)/\(k:Int) < 4:=by omega
  have kE:=RT p k (by omega)
  have IF:=RT g k (by omega)
  have gd:vW p g (k+1) l=ql out (p.arg k) (g.arg k):=by
   conv=>lhs;unfold vW
   rw [kT]
   rfl
  simp only [aa,seval,my]
  refine zBN (K:=(SQ 51)) (by simp only [my]) (ps:=[(3,7),(3,8),(7,8),(3,9),(7,9),(8,9),(7,10)]) (by kernel_rfl) z.au ?_
  repeat' (first|simp only [aa,seval,my,aaB,cG,iR,gL,ij,Am.one,iT,gX,EM,gA,q0.lay,q1.lay,lN,↓kE,↓IF,aH.cells]|((with_reducible refine zi4 (sg _) ?_ ?_ ?_);(· omega);(· (simp only [dr];omega)))|((with_reducible refine zi4 (by simp only [de,dr];omega) ?_ ?_ ?_);(· omega);(· (simp only [de,dr];omega)))|((with_reducible refine zqY (by simp only [de,dr]) ?_ ?_ ?_);(· omega);(· (simp only [de,dr];omega))))
  have apA:=q0.lt
  have apD:=q1.lt
  refine ⟨by (simp only [AB,List.getD_cons_zero,List.getD_cons_succ,Bool.and_true,dP];(repeat' apply And.intro) <;> first|exact zDY (by omega) (by omega)|exact zDX (by omega)),?_⟩
  ((with_reducible refine ⟨z.bZ.lay _ _,?_⟩);(intro _ h' zz x _);(simp only [bG,bu] at x);replace q0:=q0.over x;replace q1:=q1.over x;replace cT:=cT.over x;(replace z:=zz);(clear zz);rw [ao h'])
  have q2:=Holds.top (i:=0) x rfl
  have q3:=Holds.top (i:=1) x rfl
  rcases hg:jC out (p.arg k).s with ⟨⟨tv,ts⟩,pb⟩
  rcases hpk:p.arg k with ⟨pv,ps⟩
  rcases hgk:g.arg k with ⟨gv,gs⟩
  rw [hpk] at q2 hg gd
  rw [hgk] at q3 gd
  have BC:∀ (Q:Ex->Env->Heap->Prop) (e:Env) (h:Heap),w8 3 Q (.exit 3) e h=Q .normal e h:=λQ e h=>rfl
  simp only at q2 q3 hg
  cases pv
  .repeat' (first|simp only [aa,seval,my,q2.lay,q3.lay,zhz]|((with_reducible  apply uR ) <;> intro _)|((with_reducible apply bI);(· rfl)))
   all_goals first
    |((with_reducible refine hk _ _ _ z.au (λ_=>rfl) (λm hm=>?_))
      have rB:ql out ⟨false,ps⟩ ⟨gv,gs⟩=none:=by
       unfold ql
       rw [aE rfl,az (by assumption)]
      have hn:ec l p g=none:=by
       rw [pR]
       exact Q5 (k:=k+1) (by rw [gd,rB]) (by omega)
      rw [hn] at hm
      cases hm)
    |(have rB:ql out ⟨false,ps⟩ ⟨gv,gs⟩=some out:=by
       unfold ql
       rw [aE rfl,aE (by assumption)]
      rw [hw]
      (rw [ey];with_reducible refine bS (m:=_) ?_ ⟨k+1,out,w,A,_,rfl,z,⟨rfl,by omega,by rw [gd,rB],cT,by omega,q0,q1⟩,bc⟩;omega))
  .repeat' (first|simp only [aa,seval,my,q2.lay]|((with_reducible apply bI);(· rfl)))
   refine RP out w ps _ ((cT.sl (by decide)).lay _ _) (by omega) _ (λh' x=>?_)
   rw [hg]
   (replace z:=z.aj x;replace q0:=q0.over x;replace q1:=q1.over x;replace q2:=q2.over x;replace q3:=q3.over x;replace cT:=cT.over x;rw [ao h'])
   cases pb
   all_goals
    repeat' (first|simp only [aa,seval,my,iR,gL,ij,Am.one,iT,gX,gA,q2.lay,q3.lay,aH.val,aH.cells,zhz]|((with_reducible apply uR) <;> intro _)|((with_reducible apply bI);(· rfl)))
   .have rB:ql out ⟨true,ps⟩ ⟨gv,gs⟩=ua out ps ⟨gv,gs⟩:=by
     unfold ql
     rw [az (by simp),hg,az (by simp)]
    have hzb:=z.size
    refine zz7 out w ps ⟨gv,gs⟩ _ ((cT.sl (by decide)).lay _ _) (by omega) _ (λh' w2 e x Tm ye=>?_)
    (replace z:=z.aj x;replace q0:=q0.over x;replace q1:=q1.over x;replace q2:=q2.over x;replace q3:=q3.over x;replace cT:=cT.over x;rw [ao h'])
    have yS:∀ (h:Heap) (K:aG),aD (some w2) h K=K w2 h:=λ_ _=>rfl
    simp only [aa,seval,my,yS]
    refine SL ?_ ?_
    .intro ny
     repeat' (simp only [aa,seval,my])
     have hn:ec l p g=none:=by
      rw [pR]
      refine Q5 (k:=k+1) ?_ (by omega)
      rw [gd,rB]
      cases pc:ua out ps ⟨gv,gs⟩ with
      |none=>rfl
      |some m=>exact absurd (ye m pc).1 ny
     exact hk _ _ _ z.au (λ_=>rfl) (λm hm=>by rw [hn] at hm;cases hm)
    .intro ny
     repeat' (simp only [aa,seval,my])
     cases pc:ua out ps ⟨gv,gs⟩ with
     |none=>exact absurd ny (Tm pc)
     |some m =>
      obtain ⟨_,A2,mF⟩:=ye m pc
      replace mF:=UZ (h0:=h) mF (by rw [bf];omega)
      have hml:=zia pc
      rw [hw]
      (rw [ey];with_reducible refine bS (m:=_) ?_ ⟨k+1,m,w2,A2,_,rfl,z,⟨rfl,by omega,by rw [gd,rB,pc],mF,by omega,q0,q1⟩,bc⟩;omega)
   .have rB:ql out ⟨true,ps⟩ ⟨gv,gs⟩=none:=by
     unfold ql
     rw [az (by simp),hg,aE rfl,az (by assumption)]
    have hn:ec l p g=none:=by
     rw [pR]
     exact Q5 (k:=k+1) (by rw [gd,rB]) (by omega)
    exact hk _ _ _ z.au (λ_=>rfl) (λm hm=>by rw [hn] at hm;cases hm)
   .have rB:ql out ⟨true,ps⟩ ⟨gv,gs⟩=some out:=by
     unfold ql
     rw [az (by simp),hg,aE rfl,aE (by assumption)]
    rw [hw]
    refine Ep z.au (λH z hO hI=>?_)
    (rw [ey];with_reducible refine bS (m:=_) ?_ ⟨k+1,out,w,A,_,rfl,z,⟨rfl,by omega,by rw [gd,rB],cT.mono hI,by omega,hO _ _ q0,hO _ _ q1⟩,bc⟩;omega)
 rcases hg:jC l (p.arg k).s with ⟨⟨tv,ts⟩,pb⟩
 have lN:(0:Int)<=(k:Int)/\(k:Int) < 4:=by omega
 have kE:=RT p k (by omega)
 repeat' (simp only [aa,seval,my,iR,gL,ij,Am.one,iT,gX,gA,q0.lay,lN,↓kE,aH.cells])
 refine RP l v (p.arg k).s _ ((hl.mono z.inc).lay _ _) (by omega) _ (λh' x=>?_)
 rw [hg]
 have q2:=Holds.top (i:=0) x rfl
 (replace z:=z.aj x;replace q0:=q0.over x;replace q1:=q1.over x;rw [ao h'])
 cases pb
 all_goals
  simp only [aa,seval,my,iR,gL,ij,Am.one,iT,gX,gA,q2.lay,aH.val,aH.cells]
  repeat' ((first|((with_reducible apply bg) <;> intro _)|with_reducible refine tZ (λ_=>?_) (λ_=>?_)) <;> simp only [aa,seval,my,q2.lay])
 all_goals first
  |((with_reducible refine hk _ _ _ z.au (λ_=>rfl) (λm hm=>?_))
    have hb:lH l (p.arg k)=true:=by (unfold lH;rw [hg];simp [*])
    have hn:ec l p g=none:=by
     unfold ec
     split
     .rfl
     .rw [aE ⟨k,by omega,by omega,hb⟩]
    rw [hn] at hm
    cases hm)
  |(have oF:∀ i,i < k+1->(i:Int) < p.n->lH l (p.arg i)=false:=by
     intro i hi aK
     by_cases ry:i=k
     .subst ry
      first|(exfalso;omega)|(unfold lH;rw [hg];simp [*])
     .exact yb i (by omega) aK
    rw [hw]
    refine Ep z.au (λH z hO _=>?_)
    (rw [aO];with_reducible refine bS (m:=_) ?_ ⟨k+1,_,rfl,z,⟨rfl,by omega,oF,hO _ _ q0,hO _ _ q1⟩,bc⟩;omega))
end Go.Proofs.YtkgojconmeeegaaGreatDoor
