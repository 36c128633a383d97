/- Regions whose order is drawn, with kinds told for each operation: a store to what the region laid, a load of what it did not lay. No condition. -/
import Derived.Test.YtemapihoobmonaaGreatDoorG21
import Derived.Test.YtemapihoobmonaaGreatDoorG13
import Derived.Test.YtemapihoobmonaaGreatDoorGFast2
import Derived.Test.YtemapihoobmonaaGreatDoorG18
import Derived.Test.YtemapihoobmonaaGreatDoorG20
namespace Go.Am
set_option linter.unusedVariables false
inductive KC where
  | plain
  | load (a:Operand)
  | build
  | store (a:Operand)
def kcOf (o:Oper):KC:=match o.op with
  | .load _ a=>.load a
  | .buildSlice _ _ _=>.build
  | .store _ a _=>.store a
  | _=>.plain
def zz8:Value→Nat
  | .pointer (some x)=>3+3*x.block
  | _=>1
def zzF:Value→Nat
  | .pointer (some x)=>5+3*x.block
  | _=>2
def zim (c:KC) (e:Env) (n:Nat):Nat:=match c with
  | .load a=>zz8 (zab e a)
  | .build=>4+3*n
  | _=>1
def zsf (c:KC) (e:Env):Nat:=match c with
  | .store a=>zzF (zab e a)
  | _=>2
theorem zue (A o:Nat):zz8 (.pointer (some ⟨A,o,none⟩))=3+3*A:=rfl
theorem zt8 (A o:Nat):zzF (.pointer (some ⟨A,o,none⟩))=5+3*A:=rfl
theorem zrA (a:Operand) (e:Env) (n:Nat):zim (.load a) e n=zz8 (zab e a):=rfl
theorem zoW (e:Env) (n:Nat):zim .build e n=4+3*n:=rfl
theorem zpk (e:Env) (n:Nat):zim .plain e n=1:=rfl
theorem zqt (a:Operand) (e:Env) (n:Nat):zim (.store a) e n=1:=rfl
theorem zpq (a:Operand) (e:Env):zsf (.store a) e=zzF (zab e a):=rfl
section
variable {T:Tab}
theorem zk2 {o:Oper} {e:Env} {h h':Heap} (hb:zbn T o=false) (hl:h.size≤h'.low):zb7 T o e h h'=zim (kcOf o) e h.size:=by
  unfold zb7
  rw [if_neg (by rw [hb]; decide),if_pos hl]
  unfold zim kcOf
  obtain ⟨dst,op,ty,pos,after,guard⟩:=o
  cases op <;> rfl
theorem zrH {o:Oper} {e:Env} {h h':Heap} (hb:zbn T o=false) (hl:¬ h.size≤h'.low):zb7 T o e h h'=zsf (kcOf o) e:=by
  unfold zb7
  rw [if_neg (by rw [hb]; decide),if_neg hl]
  unfold zsf kcOf
  obtain ⟨dst,op,ty,pos,after,guard⟩:=o
  cases op <;> rfl
end
section
variable (P:Program) (T:Tab) (ov:Ov)
def WOpsG (b:Nat) (ops:Array Oper):List Oper→List Nat→Env→Heap→(List Nat→Env→Heap→Prop)→Prop
  | [],ks,e,h,Q=>Q ks e h
  | o::l,ks,e,h,Q=>zee (za6 ops o e)
      (if zal o=true then WOp P T ov o e h fun v _=>WOpsG b ops l (ks++[zim (kcOf o) e h.size]) (put e o.dst v) h Q
        else WOp P T ov o e { h with low:=h.size } fun v h'=>(b≤h'.low∧h.size≤h'.size)∧((h.size≤h'.low∧WOpsG b ops l (ks++[zim (kcOf o) e h.size]) (put e o.dst v) h' Q)∨(¬ h.size≤h'.low∧WOpsG b ops l (ks++[zsf (kcOf o) e]) (put e o.dst v) h' Q)))
      (WOpsG b ops l (ks++[0]) (put e o.dst undef) h Q)
def ztk (b:Nat) (ops:Array Oper) (l:List Oper) (ks:List Nat) (d:Option Tmp) (Q:List Nat→Env→Heap→Prop) (e:Env) (h:Heap) (k:Nat):Value→Heap→Prop:=fun v _=>Hid (WOpsG P T ov b ops l (ks++[k]) (put e d v) h Q)
def zAu (b:Nat) (ops:Array Oper) (l:List Oper) (ks:List Nat) (d:Option Tmp) (Q:List Nat→Env→Heap→Prop) (e:Env) (h:Heap) (k1 k2:Nat):Value→Heap→Prop:=fun v h' =>
  Hid ((b≤h'.low∧h.size≤h'.size)∧((h.size≤h'.low∧WOpsG P T ov b ops l (ks++[k1]) (put e d v) h' Q)∨(¬ h.size≤h'.low∧WOpsG P T ov b ops l (ks++[k2]) (put e d v) h' Q)))
def zhD (b:Nat) (ops:Array Oper) (o:Oper) (l:List Oper) (ks:List Nat) (d:Option Tmp) (e:Env) (h:Heap) (Q:List Nat→Env→Heap→Prop) (c:KC) (w q:Bool):Prop :=
  if w=true then (if q=true then WOp P T ov o e h (ztk P T ov b ops l ks d Q e h (zim c e h.size)) else WOp P T ov o e (h.lay [] h.size) (zAu P T ov b ops l ks d Q e h (zim c e h.size) (zsf c e))) else WOpsG P T ov b ops l (ks++[0]) (put e d undef) h Q
end
section
variable {P:Program} {T:Tab} {ov:Ov}
theorem zoX (b:Nat) (ops:Array Oper) (o:Oper) (l:List Oper) (ks:List Nat) (e:Env) (h:Heap) (Q:List Nat→Env→Heap→Prop):WOpsG P T ov b ops (o::l) ks e h Q=zhD P T ov b ops o l ks o.dst e h Q (kcOf o) (za6 ops o e) (zal o):=by
  simp only [WOpsG,zee,zhD]
  split
  · split
    · exact propext ⟨WOp.mono fun _ _ hw=>⟨hw⟩,WOp.mono fun _ _ hw=>hw.out⟩
    · exact propext ⟨WOp.mono fun _ _ hw=>⟨hw⟩,WOp.mono fun _ _ hw=>hw.out⟩
  · rfl
theorem zmt (b:Nat) (ops:Array Oper) (o:Oper) (l:List Oper) (ks:List Nat) (d:Option Tmp) (e:Env) (h:Heap) (Q:List Nat→Env→Heap→Prop) (c:KC):zhD P T ov b ops o l ks d e h Q c true true=WOp P T ov o e h (ztk P T ov b ops l ks d Q e h (zim c e h.size)):=rfl
theorem zog (b:Nat) (ops:Array Oper) (o:Oper) (l:List Oper) (ks:List Nat) (d:Option Tmp) (e:Env) (h:Heap) (Q:List Nat→Env→Heap→Prop) (c:KC):zhD P T ov b ops o l ks d e h Q c true false=WOp P T ov o e (h.lay [] h.size) (zAu P T ov b ops l ks d Q e h (zim c e h.size) (zsf c e)):=rfl
theorem zm8 (b:Nat) (ops:Array Oper) (o:Oper) (l:List Oper) (ks:List Nat) (d:Option Tmp) (e:Env) (h:Heap) (Q:List Nat→Env→Heap→Prop) (c:KC) (q:Bool):zhD P T ov b ops o l ks d e h Q c false q=WOpsG P T ov b ops l (ks++[0]) (put e d undef) h Q:=rfl
theorem zsn (b:Nat) (ops:Array Oper) (l:List Oper) (ks:List Nat) (d:Option Tmp) (Q:List Nat→Env→Heap→Prop) (e:Env) (h:Heap) (k:Nat) (v:Value) (h':Heap):ztk P T ov b ops l ks d Q e h k v h'=WOpsG P T ov b ops l (ks++[k]) (put e d v) h Q:=zv8 _
structure Told (T:Tab) (ops:Array Oper) (k0 ks:List Nat):Prop where
  len:k0.length=ks.length
  blind:∀ i,i < k0.length→za5 T ops i=true→k0.getD i 2=0
  same:∀ i,i < k0.length→za5 T ops i=false→k0.getD i 2=ks.getD i 2
theorem zge (l:List Nat) (c i:Nat) (hi:i < (l++[c]).length):(i < l.length∧(l++[c]).getD i 2=l.getD i 2)∨(i=l.length∧(l++[c]).getD i 2=c):=by
  rw [List.length_append,List.length_singleton] at hi
  by_cases hlt:i < l.length
  · refine .inl ⟨hlt,?_⟩
    rw [List.getD_eq_getElem?_getD,List.getD_eq_getElem?_getD,List.getElem?_append_left hlt]
  · have:i=l.length:=by omega
    subst this
    refine .inr ⟨rfl,?_⟩
    rw [List.getD_eq_getElem?_getD,List.getElem?_append_right (by omega),Nat.sub_self]
    rfl
theorem Told.snoc {ops:Array Oper} {k0 ks:List Nat} {c d:Nat} (h:Told T ops k0 ks) (hb:za5 T ops k0.length=true→c=0) (hs:za5 T ops k0.length=false→c=d):Told T ops (k0++[c]) (ks++[d]):=by
  refine ⟨by simp [h.len],fun i hi hbl=>?_,fun i hi hbl=>?_⟩
  · rcases zge k0 c i hi with ⟨g1,g2⟩ | ⟨g1,g2⟩
    · rw [g2]; exact h.blind i g1 hbl
    · rw [g2]; rw [g1] at hbl; exact hb hbl
  · rcases zge k0 c i hi with ⟨g1,g2⟩ | ⟨g1,g2⟩
    · rcases zge ks d i (by simp [← h.len]; omega) with ⟨f1,f2⟩ | ⟨f1,f2⟩
      · rw [g2,f2]; exact h.same i g1 hbl
      · have:=h.len; omega
    · rcases zge ks d i (by simp [← h.len]; omega) with ⟨f1,f2⟩ | ⟨f1,f2⟩
      · have:=h.len; omega
      · rw [g2,f2]; rw [g1] at hbl; exact hs hbl
theorem WOpsG.toK {ops:Array Oper} {b:Nat}:∀ (l:List Oper) (k0 ks:List Nat) (e:Env) (h:Heap) (m:Nat) (Q:List Nat→Env→Heap→Prop),b≤h.size→b≤m→ops.toList.drop k0.length=l→Told T ops k0 ks→WOpsG P T ov b ops l ks e h Q →
    WOpsK P T ov ops l k0 e { h with low:=m } fun k0' e' h'=>∃ ks' h1 m',k0'.length=k0.length+l.length∧Told T ops k0' ks'∧Q ks' e' h1∧b≤m'∧h'={ h1 with low:=m' }
  | [],k0,ks,e,h,m,Q,hb,hm,hd,hks,hw=>⟨ks,h,m,rfl,hks,hw,hm,rfl⟩
  | o::l,k0,ks,e,h,m,Q,hb,hm,hd,hks,hw=>by
    have hbl:za5 T ops k0.length=zbn T o:=by
      have:ops[k0.length]? = some o:=by
        have h1:(ops.toList.drop k0.length)[0]? = some o:=by rw [hd]; rfl
        rw [List.getElem?_drop] at h1
        simpa using h1
      simp only [za5,this]
    have hd':∀ c,ops.toList.drop (k0++[c]).length=l:=by
      intro c
      rw [List.length_append,List.length_singleton,← List.drop_drop,hd]
      rfl
    have fin:∀ (c:Nat) (k0':List Nat) (e':Env) (h':Heap),(∃ ks' h1 m',k0'.length=(k0++[c]).length+l.length∧Told T ops k0' ks'∧Q ks' e' h1∧b≤m'∧h'={ h1 with low:=m' }) →
        ∃ ks' h1 m',k0'.length=k0.length+(o::l).length∧Told T ops k0' ks'∧Q ks' e' h1∧b≤m'∧h'={ h1 with low:=m' }:=by
      rintro c k0' e' h' ⟨ks',h1,m',g1,g2⟩
      refine ⟨ks',h1,m',?_,g2⟩
      simp only [List.length_append,List.length_cons,List.length_nil] at g1 ⊢
      omega
    have kz:∀ h1 h2:Heap,za5 T ops k0.length=true→zb7 T o e h1 h2=0:=by
      intro h1 h2 hb
      unfold zb7
      rw [if_pos (hbl ▸ hb)]
    simp only [WOpsG,WOpsK,zee] at hw ⊢
    split at hw
    · rename_i hwt
      rw [if_pos hwt]
      split at hw
      · rename_i hq
        have h0:=WOp.quiet hq hw h.size
        refine WOp.mono (fun v h' ⟨he,hw⟩=>?_) h0
        subst he
        refine WOpsK.mono _ _ _ _ _ _ (fun ks' e' h' hq'=>fin _ ks' e' h' hq') (WOpsG.toK l _ _ _ h (min m h.size) Q hb (by omega) (hd' _) (hks.snoc (fun hb=>kz _ _ hb) (fun hb=>zk2 (h:={ h with low:=m }) (by rw [← hbl]; exact hb) (Nat.le_refl _))) hw)
      · refine WOp.mono (fun v h' ⟨⟨h2,h3⟩,hw⟩=>?_) hw
        rcases hw with ⟨h1,hw⟩ | ⟨h1,hw⟩
        · exact WOpsK.mono _ _ _ _ _ _ (fun ks' e' h' hq'=>fin _ ks' e' h' hq') (WOpsG.toK l _ _ _ h' (min m h'.low) Q (by omega) (by omega) (hd' _) (hks.snoc (fun hb=>kz _ _ hb) (fun hb=>zk2 (h:={ h with low:=m }) (by rw [← hbl]; exact hb) h1)) hw)
        · exact WOpsK.mono _ _ _ _ _ _ (fun ks' e' h' hq'=>fin _ ks' e' h' hq') (WOpsG.toK l _ _ _ h' (min m h'.low) Q (by omega) (by omega) (hd' _) (hks.snoc (fun hb=>kz _ _ hb) (fun hb=>zrH (h:={ h with low:=m }) (by rw [← hbl]; exact hb) h1)) hw)
    · rename_i hwt
      rw [if_neg hwt]
      exact WOpsK.mono _ _ _ _ _ _ (fun ks' e' h' hq'=>fin 0 ks' e' h' hq') (WOpsG.toK l _ _ _ h m Q hb hm (hd' _) (hks.snoc (fun _=>rfl) (fun _=>rfl)) hw)
theorem zu8 {ops:Array Oper} {ms:List Nat} {p:Nat × Nat} (h:p∈zpx T ops ms):p.1 < ops.size∧p.2 < ops.size∧za5 T ops p.1=false∧za5 T ops p.2=false:=by
  unfold zpx at h
  obtain ⟨j,hj,h⟩:=List.mem_flatMap.1 h
  obtain ⟨i,hi,h⟩:=List.mem_filterMap.1 h
  have hj:=List.mem_range.1 hj
  have hi:=List.mem_range.1 hi
  split at h
  · cases h
  · rename_i hc
    cases h
    simp only [Bool.or_eq_true,not_or,Bool.not_eq_true] at hc
    exact ⟨by omega,hj,hc.1.2,hc.2⟩
theorem zkB {ops:Array Oper} {k0 ks:List Nat} (h:Told T ops k0 ks) (hn:k0.length=ops.size):∀ {ps:List (Nat × Nat)},(∀ p∈ps,p.1 < ops.size∧p.2 < ops.size∧za5 T ops p.1=false∧za5 T ops p.2=false)→zdx ks ps=true→zdx k0 ps=true
  | [],_,_=>rfl
  | (i,j)::ps,hp,hl=>by
    obtain ⟨h1,h2,h3,h4⟩:=hp (i,j) List.mem_cons_self
    unfold zdx at hl ⊢
    rw [Bool.and_eq_true] at hl ⊢
    rw [h.same i (by rw [hn]; exact h1) h3,h.same j (by rw [hn]; exact h2) h4]
    exact ⟨hl.1,zkB h hn (fun p hm=>hp p (List.mem_cons_of_mem _ hm)) hl.2⟩
theorem zz0 {K:Code} (hd:zle K=true) {rd:Option Nat} {e:Env} {h0 h:Heap} {Q:Ex→Env→Heap→Prop} {ps:List (Nat × Nat)} (hps:zpx T (rops K) (zcU (rops K).toList [])=ps) (z:Ext h0 h)
    (hw:WOpsG P T ov (min h0.low h0.size) (rops K) (zcW (rops K) 0) [] e h fun ks e' h1=>zdx ks ps=true∧Grw h0 h1∧endZ h0 Q e' h1):W P T ov rd K e h Q:=by
  unfold zle at hd
  split at hd
  · rename_i i A
    have hps:zpx T A (zcU A.toList [])=ps:=hps
    have hw:WOpsG P T ov (min h0.low h0.size) A A.toList [] e h fun ks e' h1=>zdx ks ps=true∧Grw h0 h1∧endZ h0 Q e' h1:=hw
    show WOpsK P T ov A A.toList [] e h (zCE A Q)
    have key:=WOpsG.toK (T:=T) A.toList [] [] e h h.low _ (show min h0.low h0.size≤h.size by have:=z.size; omega) z.low rfl ⟨rfl,fun i hi=>absurd hi (Nat.not_lt_zero _),fun i hi=>absurd hi (Nat.not_lt_zero _)⟩ hw
    refine WOpsK.mono _ _ _ _ _ _ (fun k0 e' h' hq=>?_) key
    obtain ⟨ks,h1,m,hlen,ht,⟨hl,hi,hq⟩,hm,rfl⟩:=hq
    have hn:k0.length=A.size:=by simpa using hlen
    refine ⟨znw (T:=T) hd ?_ (fun i hi hb=>ht.blind i (by rw [hn]; exact hi) hb),?_⟩
    · rw [hps]
      refine zkB ht hn (fun p hp=>?_) hl
      rw [← hps] at hp
      exact zu8 hp
    · refine hq hi { h1 with low:=m } ⟨hi.size,hi.get,hm⟩ ⟨Nat.le_refl _,fun _ _=>rfl,?_⟩ rfl
      show min m h1.size≤m
      omega
  · cases hd
end
/-! ### What each operation is -/
def opsG (A:Array Oper) (L:List Oper):List Oper→Nat→Prop
  | [],n=>∀ (P:Program) (T:Tab) (ov:Ov) (b:Nat) (ks:List Nat) (e:Env) (h:Heap) (Q:List Nat→Env→Heap→Prop),WOpsG P T ov b A (zcW A n) ks e h Q=Q ks e h
  | o::l,n=>(∀ (P:Program) (T:Tab) (ov:Ov) (b:Nat) (ks:List Nat) (e:Env) (h:Heap) (Q:List Nat→Env→Heap→Prop),WOpsG P T ov b A (zcW A n) ks e h Q=zhD P T ov b A o (zcW A (n+1)) ks o.dst e h Q (kcOf o) (zax L e o.guard) (zal o))∧opsG A L l (n+1)
theorem zq7 (A:Array Oper) (h:∀ o∈A.toList,zgV A.toList o=true):∀ (l:List Oper) (n:Nat),zcW A n=l→(∀ o∈l,o∈A.toList)→opsG A A.toList l n
  | [],n,hl,_=>fun P T ov b ks e h Q=>by rw [hl]; rfl
  | o::l,n,hl,hm=>by
    have hl2:zcW A (n+1)=l:=by
      unfold zcW at hl ⊢
      have:=congrArg (List.drop 1) hl
      rw [List.drop_drop] at this
      exact this
    refine ⟨fun P T ov b ks e h' Q=>?_,zq7 A h l (n+1) hl2 (fun x hx=>hm x (List.mem_cons_of_mem _ hx))⟩
    rw [hl,hl2,zoX,zmj (h o (hm o (List.mem_cons_self ..)))]
def zeN (N:Nat→Code) (m:Nat):Code→Nat→Prop
  | .seq a b,n=>zeN N m a (n+1)∧zeN N m b (n+1+zaf a)
  | .cond _ a b,n=>zeN N m a (n+1)∧zeN N m b (n+1+zaf a)
  | .rangeFunc _ _ a b,n=>zeN N m a (n+1)∧zeN N m b (n+1+zaf a)
  | .block _ a,n=>zeN N m a (n+1)
  | .loop a,n=>zeN N m a (n+1)
  | .scope a,n=>zeN N m a (n+1)
  | .region _ A true,n=>n=m→opsG (rops (N n)) A.toList A.toList 0
  | _,_=>True
theorem zbT (N:Nat→Code) (m:Nat):∀ (c:Code) (n:Nat),zcc c=true→(∀ k,k < zaf c→N (n+k)=zaU c k)→zeN N m c n
  | .seq a b,n,hw,h=>by
    simp only [zcc,Bool.and_eq_true] at hw
    obtain ⟨e1,e2,f1,f2⟩:=zed (a:=a) (b:=b) h (fun k h1 h2=>by simp only [zaU]; rw [if_neg (by omega),if_pos h2]) (fun k h1=>by simp only [zaU]; rw [if_neg (by omega),if_neg (by omega)]) (zaH _) (zaH _)
    exact ⟨zbT N m a _ hw.1 f1,zbT N m b _ hw.2 f2⟩
  | .cond o a b,n,hw,h=>by
    simp only [zcc,Bool.and_eq_true] at hw
    obtain ⟨e1,e2,f1,f2⟩:=zed (a:=a) (b:=b) h (fun k h1 h2=>by simp only [zaU]; rw [if_neg (by omega),if_pos h2]) (fun k h1=>by simp only [zaU]; rw [if_neg (by omega),if_neg (by omega)]) (zaH _) (zaH _)
    exact ⟨zbT N m a _ hw.1 f1,zbT N m b _ hw.2 f2⟩
  | .rangeFunc g ps a b,n,hw,h=>by
    simp only [zcc,Bool.and_eq_true] at hw
    obtain ⟨e1,e2,f1,f2⟩:=zed (a:=a) (b:=b) h (fun k h1 h2=>by simp only [zaU]; rw [if_neg (by omega),if_pos h2]) (fun k h1=>by simp only [zaU]; rw [if_neg (by omega),if_neg (by omega)]) (zaH _) (zaH _)
    exact ⟨zbT N m a _ hw.1 f1,zbT N m b _ hw.2 f2⟩
  | .block i a,n,hw,h=>by
    obtain ⟨e1,f1⟩:=zfl (a:=a) h (fun k h1=>by simp only [zaU]; rw [if_neg (by omega)])
    exact zbT N m a _ hw f1
  | .loop a,n,hw,h=>by
    obtain ⟨e1,f1⟩:=zfl (a:=a) h (fun k h1=>by simp only [zaU]; rw [if_neg (by omega)])
    exact zbT N m a _ hw f1
  | .scope a,n,hw,h=>by
    obtain ⟨e1,f1⟩:=zfl (a:=a) h (fun k h1=>by simp only [zaU]; rw [if_neg (by omega)])
    exact zbT N m a _ hw f1
  | .region i A true,n,hw,h=>by
    have h0:N n=.region i A true:=h 0 (zaH _)
    have hr:rops (N n)=A:=by rw [h0]; rfl
    simp only [zcc,Bool.and_eq_true,List.all_eq_true,Bool.not_true,Bool.false_or] at hw
    intro _
    rw [hr]
    exact zq7 A hw.1 _ 0 rfl (fun o ho=>ho)
  | .region i A false,n,hw,h=>trivial
  | .exit i,n,hw,h=>trivial
  | .ret,n,hw,h=>trivial
  | .skip,n,hw,h=>trivial
  | .label l,n,hw,h=>trivial
  | .goto l,n,hw,h=>trivial
  | .refuse w,n,hw,h=>trivial
theorem zys (N:Nat→Code) (m:Nat) (f:Func) (hN:N=zaA f:=by rfl) (hw:zcc (zao f)=true:=by kernel_rfl):zeN N m (zao f) 0 :=
  zbT N m _ 0 hw (fun k _=>by rw [hN,Nat.zero_add]; rfl)
theorem zBs {a b:Nat} (ha:a % 3≠2) (hb:b % 3≠2):kOk a b=true:=by
  unfold kOk
  simp [ha,hb]
theorem zBh {x y:Nat} (h:x≠y):kOk (3+3*x) (5+3*y)=true:=by
  unfold kOk
  simp only [Bool.or_eq_true,Bool.and_eq_true,Nat.ble_eq,beq_iff_eq,bne_iff_ne]
  right
  refine ⟨⟨⟨by omega,by omega⟩,by omega⟩,.inl ⟨by omega,by omega⟩⟩
noncomputable def ysymg:=PLift.up (And.intro @zmt <| And.intro @zog <| And.intro @zm8 <| And.intro @zsn <| And.intro @zrA <| And.intro @zoW <| And.intro @zpk <| And.intro @zqt <| And.intro @zpq <| And.intro @zue <| @zt8)
theorem symg:type_of% ysymg.down:=ysymg.down
end Go.Am
namespace Go.Am
set_option linter.unusedVariables false
set_option linter.unusedSimpArgs false
/-! ### What is read -/
def numO (s:ByteArray) (o:Nat):Option (Nat × Nat):=(numD (s.extract o s.size)).map fun x=>(x.1,o+x.2)
def zbg (s:ByteArray) (o:Nat):Option (ByteArray × Nat):=(numO s o).bind fun x=>if x.1≤s.size - x.2 then some (s.extract x.2 (x.2+x.1),x.2+x.1) else none
def zbP (s:ByteArray) (o:Nat):Option (Bool × Nat):=if o < s.size∧zaP s o≤1 then some (decide (zaP s o=1),o+1) else none
def argO (s:ByteArray) (o:Nat):Option (TermD × Nat):=(zbP s o).bind fun x=>(zbg s x.2).map fun y=>(⟨x.1,y.1⟩,y.2)
def AtomD.put (a:AtomD) (i:Nat) (t:TermD):AtomD:=match i with
  | 0=>{ a with t0:=t }
  | 1=>{ a with t1:=t }
  | 2=>{ a with t2:=t }
  | _=>{ a with t3:=t }
def zch (s:ByteArray) (a:AtomD) (o:Nat):Nat→Option (AtomD × Nat)
  | 0=>some (a,o)
  | i+1=>(zch s a o i).bind fun x=>(argO s x.2).map fun y=>(x.1.put i y.1,y.2)
open Classical in
noncomputable def zcd (s:ByteArray) (o:Nat):Option (AtomD × Nat) :=
  (zbg s o).bind fun x=>(zbg s x.2).bind fun y=>(numO s y.2).bind fun n=>if n.1≤4 then (zch s { noAtomD with says:=x.1,pred:=y.1 } n.2 n.1).bind fun w=>if ValidX { w.1 with n:=n.1 } then some ({ w.1 with n:=n.1 },w.2) else none else none
theorem zwl {s:ByteArray} {n k:Nat} (h:numD s=some (n,k)):k≤s.size∧0 < k∧n≤4294967295:=by
  unfold numD at h
  cases he:endN s with
  | none=>rw [he] at h; cases h
  | some i =>
    rw [he] at h
    simp only at h
    have hi:i < min s.size 5:=by
      unfold endN at he
      exact List.mem_range.1 (List.mem_of_find?_eq_some he)
    split at h
    · cases h
    · rename_i hn
      injection h with h
      injection h with h1 h2
      subst h1 h2
      exact ⟨by omega,by omega,by omega⟩
theorem zhA {s:ByteArray} {o n o2:Nat} (ho:o≤s.size) (h:numO s o=some (n,o2)):o2≤s.size∧n≤4294967295:=by
  unfold numO at h
  cases he:numD (s.extract o s.size) with
  | none=>rw [he] at h; cases h
  | some x =>
    rw [he] at h
    injection h with h
    injection h with h1 h2
    have:=zwl (n:=x.1) (k:=x.2) he
    rw [ByteArray.size_extract] at this
    subst h1 h2
    exact ⟨by omega,by omega⟩
theorem zgt {s:ByteArray} {o o2:Nat} {x:ByteArray} (ho:o≤s.size) (h:zbg s o=some (x,o2)):o2≤s.size:=by
  unfold zbg at h
  cases he:numO s o with
  | none=>rw [he] at h; cases h
  | some y =>
    rw [he] at h
    simp only [Option.bind_some] at h
    have:=zhA (n:=y.1) (o2:=y.2) ho he
    split at h
    · injection h with h
      injection h with h1 h2
      subst h2
      omega
    · cases h
theorem zkF {s:ByteArray} {st:Option Nat} (h:st.bind (numO s)=none):st.bind (zbg s)=none:=by
  cases st with
  | none=>rfl
  | some o =>
    rw [Option.bind_some] at h ⊢
    unfold zbg
    rw [h]
    rfl
theorem zlf {s:ByteArray} {st:Option Nat} {n o:Nat} (h:st.bind (numO s)=some (n,o)):st.bind (zbg s)=if n≤s.size - o then some (s.extract o (o+n),o+n) else none:=by
  cases st with
  | none=>cases h
  | some p =>
    rw [Option.bind_some] at h ⊢
    unfold zbg
    rw [h]
    rfl
theorem znn {s:ByteArray} {st:Option Nat} {n o:Nat} (hs:∀ p,st=some p→p≤s.size) (h:st.bind (numO s)=some (n,o)):o≤s.size∧n≤4294967295:=by
  cases st with
  | none=>cases h
  | some p=>exact zhA (hs p rfl) h
theorem zht {s:ByteArray} {a:AtomD} {o i:Nat} (h:zch s a o i=none):∀ k,zch s a o (i+k)=none
  | 0=>h
  | k+1=>by
    show (zch s a o (i+k)).bind _=none
    rw [zht h k]
    rfl
theorem zAv {s:ByteArray} {o o2:Nat} {t:TermD} (h:argO s o=some (t,o2)):o2≤s.size:=by
  unfold argO zbP at h
  split at h
  · rename_i hf
    simp only [Option.bind_some] at h
    cases he:zbg s (o+1) with
    | none=>rw [he] at h; cases h
    | some y =>
      rw [he] at h
      injection h with h
      injection h with h1 h2
      subst h2
      exact zgt (x:=y.1) (by omega) he
  · cases h
theorem zw2 {s:ByteArray} {a:AtomD} {o:Nat} (ho:o≤s.size):∀ {i o2:Nat} {b:AtomD},zch s a o i=some (b,o2)→o2≤s.size
  | 0,_,_,h=>by
    injection h with h
    injection h with h1 h2
    omega
  | i+1,o2,b,h=>by
    unfold zch at h
    cases he:zch s a o i with
    | none=>rw [he] at h; cases h
    | some x =>
      rw [he] at h
      simp only [Option.bind_some] at h
      cases h2:argO s x.2 with
      | none=>rw [h2] at h; cases h
      | some y =>
        rw [h2] at h
        injection h with h
        injection h with h3 h4
        subst h4
        exact zAv (t:=y.1) h2
theorem zgj (a:AtomD) {i:Nat} (hi:i < 4) (t:TermD):splice a.cells (3+i*2) t.cells=(a.put i t).cells:=by
  have:i=0∨i=1∨i=2∨i=3:=by omega
  rcases this with rfl | rfl | rfl | rfl <;> rfl
theorem zyE {s:ByteArray} {o n o2:Nat} (h:numO s o=some (n,o2)):n≤4294967295:=by
  unfold numO at h
  cases he:numD (s.extract o s.size) with
  | none=>rw [he] at h; cases h
  | some x =>
    rw [he] at h
    injection h with h
    injection h with h1 h2
    have:=zwl (n:=x.1) (k:=x.2) he
    omega
theorem ziT (s:ByteArray) (o:Nat):(argO s o).map (·.2)=(((zbP s o).map (·.2)).bind (zbg s)).map (·.2):=by
  unfold argO
  cases zbP s o with
  | none=>rfl
  | some x =>
    show ((zbg s x.2).map _).map _=((zbg s x.2)).map _
    cases zbg s x.2 with
    | none=>rfl
    | some y=>rfl
theorem zgc {s:ByteArray} {o:Nat} {y:TermD × Nat} (h:argO s o=some y):y.1=⟨((zbP s o).map (·.1)).getD false,((((zbP s o).map (·.2)).bind (zbg s)).map (·.1)).getD ⟨#[]⟩⟩:=by
  unfold argO at h
  cases hf:zbP s o with
  | none=>rw [hf] at h; cases h
  | some x =>
    rw [hf] at h
    simp only [Option.bind_some] at h
    cases ht:zbg s x.2 with
    | none=>rw [ht] at h; cases h
    | some w =>
      rw [ht] at h
      injection h with h
      subst h
      show _=TermD.mk x.1 (((zbg s x.2).map _).getD _)
      rw [ht]
      rfl
theorem zgH {s:ByteArray} {a0 a:AtomD} {o3 o4 i:Nat} (h:zch s a0 o3 i=some (a,o4)):(zch s a0 o3 (i+1)).map (·.2)=(argO s o4).map (·.2):=by
  show ((zch s a0 o3 i).bind _).map _=_
  rw [h]
  simp only [Option.bind_some]
  cases argO s o4 with
  | none=>rfl
  | some y=>rfl
theorem zfh {s:ByteArray} {a0 a:AtomD} {o3 o4 i:Nat} {x:AtomD × Nat} (h:zch s a0 o3 i=some (a,o4)) (hx:zch s a0 o3 (i+1)=some x):∃ y,argO s o4=some y∧x.1=a.put i y.1:=by
  have e:zch s a0 o3 (i+1)=(zch s a0 o3 i).bind fun x=>(argO s x.2).map fun y=>(x.1.put i y.1,y.2):=rfl
  rw [e,h] at hx
  simp only [Option.bind_some] at hx
  cases ha:argO s o4 with
  | none=>rw [ha] at hx; cases hx
  | some y =>
    rw [ha] at hx
    injection hx with hx
    exact ⟨y,rfl,by rw [← hx]⟩
theorem zkM {s:ByteArray} {o:Nat} (h:((((zbg s o).map (·.2)).bind (zbg s)).map (·.2)).bind (numO s)=none):zcd s o=none:=by
  unfold zcd
  cases h1:zbg s o with
  | none=>rfl
  | some x =>
    rw [h1] at h
    simp only [Option.map_some,Option.bind_some] at h ⊢
    cases h2:zbg s x.2 with
    | none=>rfl
    | some y =>
      rw [h2] at h
      simp only [Option.map_some,Option.bind_some] at h ⊢
      rw [h]
      rfl
open Classical in
theorem zkT {s:ByteArray} {o k o3:Nat} {x1 x2:ByteArray} {r1 r2:Option (ByteArray × Nat)} {st1 st2:Option Nat} (e1:r1=zbg s o) (e2:st1=r1.map (·.2)) (e3:r2=st1.bind (zbg s)) (e4:st2=r2.map (·.2)) (e5:some (k,o3)=st2.bind (numO s)) (f1:x1=(r1.map (·.1)).getD ⟨#[]⟩) (f2:x2=(r2.map (·.1)).getD ⟨#[]⟩) :
    zcd s o=if k≤4 then (zch s { noAtomD with says:=x1,pred:=x2 } o3 k).bind fun w=>if ValidX { w.1 with n:=k } then some ({ w.1 with n:=k },w.2) else none else none:=by
  subst e1 e2 e3 e4
  unfold zcd
  cases h1:zbg s o with
  | none=>rw [h1] at e5; cases e5
  | some x =>
    rw [h1] at e5 f1 f2
    simp only [Option.map_some,Option.bind_some,Option.getD_some] at e5 f1 f2 ⊢
    cases h2:zbg s x.2 with
    | none=>rw [h2] at e5; cases e5
    | some y =>
      rw [h2] at e5 f2
      simp only [Option.map_some,Option.bind_some,Option.getD_some] at e5 f2 ⊢
      rw [← e5,f1,f2]
      simp only [Option.bind_some]
theorem zsN (a:AtomD) {i:Nat} (hi:i < 4) (b:Bool):splice a.cells (3+i*2+0) [.bool b]=(a.put i ⟨b,(a.arg i).s⟩).cells:=by
  have:i=0∨i=1∨i=2∨i=3:=by omega
  rcases this with rfl | rfl | rfl | rfl <;> rfl
theorem zr1 (a:AtomD) {i:Nat} (hi:i < 4) (b:Bool) (y x:ByteArray):splice (a.put i ⟨b,y⟩).cells (3+i*2+1) [.string x]=(a.put i ⟨b,x⟩).cells:=by
  have:i=0∨i=1∨i=2∨i=3:=by omega
  rcases this with rfl | rfl | rfl | rfl <;> rfl
theorem zmw {s:ByteArray} {o k:Nat} {a:AtomD} (ho:o≤s.size) (h:zcd s o=some (a,k)):k≤s.size∧ValidX a:=by
  unfold zcd at h
  obtain ⟨x,h1,h⟩:=Option.bind_eq_some_iff.1 h
  obtain ⟨y,h2,h⟩:=Option.bind_eq_some_iff.1 h
  obtain ⟨n,h3,h⟩:=Option.bind_eq_some_iff.1 h
  have l1:=zgt (x:=x.1) (o2:=x.2) ho h1
  have l2:=zgt (x:=y.1) (o2:=y.2) l1 h2
  have l3:=zhA (n:=n.1) (o2:=n.2) l2 h3
  split at h
  · obtain ⟨w,h4,h⟩:=Option.bind_eq_some_iff.1 h
    have l4:=zw2 (b:=w.1) (o2:=w.2) l3.1 h4
    split at h
    · rename_i hv
      injection h with h
      injection h with e1 e2
      subst e1 e2
      exact ⟨l4,hv⟩
    · cases h
  · cases h
/-! ### Heaps that are the same but for one block -/
section
variable {L:Nat} {a b d:Heap} {bs:List Blk} {w:Nat}
theorem Sm.refl (L:Nat) (h:Heap):Sm L h h:=⟨Nat.le_refl _,fun _ _ _=>rfl⟩
theorem Sm.trans (x:Sm L a b) (y:Sm L b d):Sm L a d:=⟨Nat.le_trans x.size y.size,fun B hB hne=>(y.get B (Nat.lt_of_lt_of_le hB x.size) hne).trans (x.get B hB hne)⟩
theorem Sm.lay (x:Sm L a b) (bs:List Blk) (w:Nat):Sm L a (b.lay bs w):=x.trans (zyR _ _ _ _)
theorem Sm.over (x:Sm L a b) (y:Ext (b.lay bs w) d):Sm L a d:=(x.lay bs w).trans (y.sm L)
theorem Sm.stepC (x:Sm L a b) (c:Chg L (b.lay bs w) d):Sm L a d:=(x.lay bs w).trans c.sm
theorem Sm.onto (x:Sm L a b) (y:Sm L (b.lay bs w) d):Sm L a d:=(x.lay bs w).trans y
theorem Sm.fresh {A:Nat} (x:Sm L a b) (c:Chg A (b.lay bs w) d) (hA:a.size≤A):Sm L a d:=⟨Nat.le_trans (x.lay bs w).size c.size,fun B hB hne=>(c.get B (Nat.lt_of_lt_of_le hB (x.lay bs w).size) (by omega)).trans ((x.lay bs w).get B hB hne)⟩
theorem Holds.smL {A:Nat} {bk:Blk} (q:Holds a A bk) (x:Sm L (a.lay bs w) b) (hne:A≠L):Holds b A bk:=(q.on bs w).sm x hne
end
def CurH (u:TypeId) (h:Heap) (C:Nat) (s:ByteArray) (st:Option Nat):Prop:=∃ o:Nat,o≤s.size∧(∀ p,st=some p→p=o)∧Holds h C (.row [.string s,.int .i64 o,.bool st.isNone] u false)
section
variable {u:TypeId} {h h2:Heap} {C A:Nat} {s:ByteArray} {st:Option Nat} {bs:List Blk} {w:Nat}
theorem CurH.lay (q:CurH u h C s st) (bs:List Blk) (w:Nat):CurH u (h.lay bs w) C s st:=q.elim fun o x=>⟨o,x.1,x.2.1,x.2.2.on bs w⟩
theorem CurH.over (q:CurH u h C s st) (x:Ext (h.lay bs w) h2):CurH u h2 C s st:=q.elim fun o y=>⟨o,y.1,y.2.1,y.2.2.over x⟩
theorem CurH.sm (q:CurH u h C s st) (x:Sm A h h2) (hne:C≠A):CurH u h2 C s st:=q.elim fun o y=>⟨o,y.1,y.2.1,y.2.2.sm x hne⟩
theorem CurH.stepL (q:CurH u h C s st) (c:Chg A (h.lay bs w) h2) (hne:C≠A):CurH u h2 C s st:=(q.lay bs w).sm c.sm hne
theorem CurH.lt (q:CurH u h C s st):C < h.size:=q.elim fun o y=>y.2.2.lt
end
section
variable {P:Program} {T:Tab} {ov:Ov} {h1:Heap} {A w:Nat} {bs:List Blk} {t:TypeId} {K:Value→Heap→Prop}
theorem zur {u:TypeId} {n o:Nat} {cs vs:List Value} {v:Value} (q:Holds h1 A (.row cs u false)) (hs:zaM T t=some n) (hv:v.cells.toList=vs) (hl:vs.length=n) (hb:o+n≤cs.length) (h1':vs.all one=true)
    (hK:∀ h',Holds h' A (.row (splice cs o vs) u false)→Chg A (h1.lay bs w) h'→h'.low≤A→K undef h'):memE (zbd T t (.pointer (some ⟨A,o,none⟩)) v (h1.lay bs w)) K:=by
  have hg:(h1.lay bs w).get A=some (.row cs u false):=q.lay bs w
  have hA:A < (h1.lay bs w).size:=(q.on bs w).lt
  have hsz:v.cells.size=n:=by rw [← hl,← hv]; simp
  have he:zbd T t (.pointer (some ⟨A,o,none⟩)) v (h1.lay bs w)=some ((h1.lay bs w).set A (.row (splice cs o vs) u false)):=by
    unfold zbd
    simp only [hs,Option.bind_some]
    rw [if_pos hsz,hv]
    unfold zbW
    rw [hg]
    simp only
    rw [if_pos (by simp only [Bool.and_eq_true,decide_eq_true_eq]; exact ⟨by omega,h1'⟩)]
  rw [he]
  refine hK _ ⟨by rw [Heap.size_set]; exact hA,by rw [Heap.get_set _ _ _ _ hA,if_pos rfl]⟩ ⟨by rw [Heap.size_set]; exact Nat.le_refl _,fun B hB hne=>by rw [Heap.get_set _ _ _ _ hA,if_neg hne],by rw [Heap.low_set]; omega⟩ (by rw [Heap.low_set]; omega)
theorem zvK {b:Nat} {ops:Array Oper} {l:List Oper} {ks:List Nat} {d:Option Tmp} {Q:List Nat→Env→Heap→Prop} {e:Env} {h h':Heap} {k1 k2:Nat} {v:Value} (hb:b≤h.size) (hA:b≤A) (hlt:A < h.size) (x:Chg A (h.lay [] h.size) h') (hlow:h'.low≤A)
    (hk:WOpsG P T ov b ops l (ks++[k2]) (put e d v) h' Q):zAu P T ov b ops l ks d Q e h k1 k2 v h':=by
  have h1:=x.low
  have h2:=x.size
  rw [zll,zag] at h1
  rw [zag] at h2
  simp only [List.length_nil,Nat.add_zero] at h1 h2
  exact ⟨⟨⟨by omega,by omega⟩,.inr ⟨by omega,hk⟩⟩⟩
end
end Go.Am
