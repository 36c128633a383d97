/- Regions that draw their order, in which nothing that is there is turned. No condition. -/
import Derived.Test.YtnkmeidmdaidhaaGreatDoorG4
set_option linter.unusedSimpArgs false
namespace Go.Am
variable {h h1:Heap} {w:Nat} {l:List aZ}
section
variable (P:Program) (T:bN) (ov:Ov)
def lO (ops:Array Oper):List Oper->Env->Heap->(Env->Heap->Prop)->Prop
 | [],e,h,Q=>Q e h
 |o::l,e,h,Q=>rM (mI ops o e) (cO P T ov o e { h with low:=h.size } λv h'=>(rG T o=true\/h.size<=h'.low)/\lO ops l (put e o.dst v) { h' with low:=min h.low h'.low } Q) (lO ops l (put e o.dst undef) h Q)
end
section
variable {P:Program} {T:bN} {ov:Ov}
theorem zjw {o:Oper} {e:Env} {h':Heap} (hb:rG T o=true\/h.size<=h'.low):lh T o e h h' % 3≠2:=by
 unfold lh
 split
 .decide
 .rename_i hnb
  rcases hb with hb|hb
  .exact (hnb hb).elim
  .rw [aB hb]
   split
   .split <;> omega
   .omega
   .omega
theorem lO.Ei {ops:Array Oper}:∀ (l:List Oper) (ks:List Nat) (e:Env) (h:Heap) (Q:Env->Heap->Prop),(∀ i,i < ks.length->ks.getD i 2 % 3≠2)->lO P T ov ops l e h Q ->
 cj P T ov ops l ks e h λez e' h'=>(ez.length=ks.length+l.length/\∀ i,i < ez.length->ez.getD i 2 % 3≠2)/\Q e' h'
 | [],ks,e,h,Q,ti,hw=>⟨⟨rfl,ti⟩,hw⟩
 |o::l,ks,e,h,Q,ti,hw=>by
  have I7:∀ c:Nat,c % 3≠2->∀ i,i < (ks++[c]).length->(ks++[c]).getD i 2 % 3≠2:=by
   intro c hc i hi
   rw [cT,jk] at hi
   by_cases bc:i < ks.length
   .have:=ti i bc
    rw [ni] at this ⊢
    rw [jC bc]
    exact this
   .have:i=ks.length:=by omega
    subst this
    rw [ni,lj (by omega),tQ]
    simpa using hc
  have fin:∀ (c:Nat) (Q':List Nat->Env->Heap->Prop) (ez:List Nat) (e':Env) (h':Heap),(ez.length=(ks++[c]).length+l.length/\∀ i,i < ez.length->ez.getD i 2 % 3≠2)/\Q e' h'->(ez.length=ks.length+(o::l).length/\∀ i,i < ez.length->ez.getD i 2 % 3≠2)/\Q e' h':=by
   intro c Q' ez e' h' ⟨⟨h1,h2⟩,h3⟩
   refine ⟨⟨?_,h2⟩,h3⟩
   simp only [cT,eB,dK] at h1 ⊢
   omega
  simp only [lO,cj,rM] at hw ⊢
  split at hw
  .rename_i gA
   rw [aB gA]
   refine cO.mono (λv h' ⟨hb,hw⟩=>?_) hw
   refine cj.mono _ _ _ _ _ _ (λez e' h' hq=>fin _ (λ_ _ _=>True) ez e' h' hq) (lO.Ei l (ks++[lh T o e h h']) _ _ Q (I7 _ (zjw hb)) hw)
  .rename_i gA
   rw [aA gA]
   exact cj.mono _ _ _ _ _ _ (λez e' h' hq=>fin 0 (λ_ _ _=>True) ez e' h' hq) (lO.Ei l (ks++[0]) _ _ Q (I7 0 (by decide)) hw)
theorem bS (h:Heap) (l m:List aZ) (w v:Nat):(h.lay l w).lay m v=h.lay (l++m) v:=by
 simp only [Heap.lay,List.foldl_append]
 congr 1
 .simp only [Ob]
 .have key:∀ (m:List aZ) (a b:Heap),a.size=b.size->a.tr=b.tr->(m.foldl Heap.push a).tr=(m.foldl Heap.push b).tr:=by
   intro m
   induction m with
   |nil=>intro a b _ h2;exact h2
   |cons c m ih =>
    intro a b h1 h2
    rw [tP,tP]
    exact ih _ _ (by simp [Heap.push,h1]) (by simp [Heap.push,h1,h2])
  exact key m _ _ rfl rfl
theorem gh:(∀ (l:List aZ) (w:Nat) (h:Heap),(h.lay l w).size=h.size+l.length)/\(∀ (a:aZ) (l:List aZ),(a::l).length=l.length+1)/\([]:List aZ).length=0:=⟨λl w h=>br h l w,λ_ _=>rfl,rfl⟩
end
theorem Ext.Bu {h2:Heap} (z:Ext h h1) (x:Ext (h1.lay l w) h2) (hw:min h1.low h1.size<=w):Ext h h2:=(z.trans (LX _ _ _ hw)).trans x
theorem Ext.jK (z:Ext h h1) (l:List aZ) (w:Nat) (hw:min h1.low h1.size<=w):Ext h (h1.lay l w):=z.trans (LX _ _ _ hw)
theorem Ext.aw (z:Ext h h1) (hw:min h1.low h1.size<=w:=by omega):Ext h (h1.lay l w):=z.jK l w hw
theorem Ext.au {h2:Heap} (z:Ext h h1) (x:Ext (h1.lay l w) h2) (hw:min h1.low h1.size<=w:=by omega):Ext h h2:=z.Bu x hw
end Go.Am
namespace Go.Am
variable {h h':Heap} {v:ai} {o:Oper} {e:Env} {d:Option Tmp} {b j:Nat} {l:List Oper} {ops:Array Oper} {Q:Ex->Env->Heap->Prop} {c:Code}
structure qe (h h':Heap):Prop where
 size:h.size<=h'.size
 get:∀ A,A < h.size->h'.get A=h.get A
theorem Ext.cS (x:Ext h h'):qe h h':=⟨x.size,x.get⟩
theorem qe.lay {h h1:Heap} (g:qe h h1) (l:List aZ) (w:Nat):qe h (h1.lay l w):=⟨by rw [br];have:=g.size;omega,λA hA=>(sd h1 l w (dt hA g.size)).trans (g.get A hA)⟩
structure bP (h h':Heap):Prop where
 size:h.size<=h'.size
 get:∀ A,A < h.size->h.get A≠some .dead->h'.get A=h.get A
theorem bP.refl (h:Heap):bP h h:=⟨aQ _,λ_ _ _=>rfl⟩
theorem bP.trans {a b c:Heap} (x:bP a b) (y:bP b c):bP a c:=⟨dZ x.size y.size,λA hA hd=>by
 have h1:=x.get A hA hd
 exact (y.get A (dt hA x.size) (by rw [h1];exact hd)).trans h1⟩
theorem Ext.inc (x:Ext h h'):bP h h':=⟨x.size,λA hA _=>x.get A hA⟩
theorem bP.lay (h:Heap) (l:List aZ) (w:Nat):bP h (h.lay l w):=⟨by rw [br];omega,λA hA _=>sd h l w hA⟩
theorem bP.at (i:bP h h') {A:Nat} {cs:List ai} {u:TypeId} {ro:Bool} (hA:A < h.size) (hg:h.get A=some (.row cs u ro)):h'.get A=some (.row cs u ro):=(i.get A hA (by rw [hg];simp)).trans hg
theorem bP.oJ {l:List aZ} {w:Nat} (x:bP (h.lay l w) h'):bP h h':=(bP.lay h l w).trans x

def gQ (o:Oper):Bool:=match o.op with
 | .move _ | .assign _ | .pick _ _ _ | .build _ _ | .load _ _ | .nilCheck _ | .binOp _ _ _ _ _ | .makeFunc _ _ _ | .slice _ _ _ _ _ | .fieldAddr _ _ _ | .field _ _ _ | .indexAddr _ _ _ | .extract _ _ | .unOp _ _ _ | .index _ _ _ | .lookup _ _ _ _=>true
 | .call c=>(match c.callee with
  | .builtin .len | .builtin .min | .builtin .max=>true
  |_=>false)
 |_=>false
def tK (T:bN) (ops:Array Oper) (j:Nat):Bool :=
 let ms:=nR ops.toList []
 (List.range j).all (λi=>(ms.getD j 0).testBit i || EO T ops i) && (List.range ops.size).all λi => !decide (j < i) || ((ms.getD i 0).testBit j || EO T ops i)

section
variable {P:Program} {T:bN} {C:Fn->List ai->Heap->Option (ai × Heap)}
theorem zt5 (hb:gQ o=true) (aj:iq P T C e o h=some (v,h')):h'=h/\∀ w,iq P T C e o { h with low:=w }=some (v,{ h with low:=w }):=by
 have cH:∀ {r:Option ai},(r.map λx=>(x,h))=some (v,h')->h'=h/\∀ h2:Heap,(r.map λx=>(x,h2))=some (v,h2):=by
  intro r hr
  simp only [cn,cR] at hr
  obtain ⟨_,rfl,rfl,rfl⟩:=hr
  exact ⟨rfl,λ_=>rfl⟩
 have dJ:gD P e o h=some (v,h')->h'=h/\∀ h2,gD P e o h2=some (v,h2):=by
  intro hp
  unfold gD at hp ⊢
  split at hp
  .rename_i h1
   split at hp
   .rename_i h2
    split at hp
    .rename_i h3
     cases hp
     exact ⟨rfl,λ_=>by simp [h1,h3]⟩
    .cases hp
   .cases hp
  .cases hp
 obtain ⟨dst,op,ty,pos,after,guard⟩:=o
 cases op <;> simp only [gQ,gH] at hb <;> simp only [iq] at aj ⊢
 case move x=>cases aj;exact ⟨rfl,λ_=>rfl⟩
 case assign x=>cases aj;exact ⟨rfl,λ_=>rfl⟩
 case pick c a b =>
  split at aj
  .cases aj;exact ⟨rfl,λ_=>rfl⟩
  .cases aj
 case build=>obtain ⟨a,b⟩:=cH aj;exact ⟨a,λw=>b _⟩
 case load =>
  obtain ⟨a,b⟩:=cH aj
  exact ⟨a,λw=>b _⟩
 case lookup =>
  obtain ⟨a,b⟩:=cH aj
  exact ⟨a,λw=>b _⟩
 case nilCheck x =>
  split at aj
  .cases aj;exact ⟨rfl,λ_=>rfl⟩
  .cases aj;exact ⟨rfl,λ_=>rfl⟩
  .cases aj;exact ⟨rfl,λ_=>rfl⟩
  .cases aj
 case binOp=>obtain ⟨a,b⟩:=cH aj;exact ⟨a,λw=>b _⟩
 case makeFunc fn f c =>
  split at aj
  .cases aj;exact ⟨rfl,λ_=>rfl⟩
  .cases aj
 case slice=>obtain ⟨a,b⟩:=cH aj;exact ⟨a,λw=>b _⟩
 case fieldAddr=>obtain ⟨a,b⟩:=cH aj;exact ⟨a,λw=>b _⟩
 case field=>obtain ⟨a,b⟩:=cH aj;exact ⟨a,λw=>b _⟩
 case indexAddr=>obtain ⟨a,b⟩:=cH aj;exact ⟨a,λw=>b _⟩
 case extract t i =>
  split at aj
  .obtain ⟨a,b⟩:=cH aj;exact ⟨a,λw=>b _⟩
  .cases aj
 case unOp=>obtain ⟨a,b⟩:=dJ aj;exact ⟨a,λw=>b _⟩
 case index=>obtain ⟨a,b⟩:=dJ aj;exact ⟨a,λw=>b _⟩
 case call c =>
  obtain ⟨callee,args,ia⟩:=c
  cases callee with
  |value f=>simp at hb
  |invoke r m=>simp at hb
  |builtin b =>
   cases b <;> simp at hb <;> simp only at aj ⊢
   case len =>
    split at aj
    .obtain ⟨a,b⟩:=cH aj;exact ⟨a,λw=>b _⟩
    .cases aj
   case min=>obtain ⟨a,b⟩:=dJ aj;exact ⟨a,λw=>b _⟩
   case max=>obtain ⟨a,b⟩:=dJ aj;exact ⟨a,λw=>b _⟩
end

section
variable (P:Program) (T:bN) (ov:Ov)
def bT (b:Nat) (ops:Array Oper):List Oper->Nat->Env->Heap->(Env->Heap->Prop)->Prop
 | [],_,e,h,Q=>Q e h
 |o::l,j,e,h,Q=>rM (mI ops o e)
    (if gQ o=true then cO P T ov o e h λv _=>bT b ops l (j+1) (put e o.dst v) h Q
     else cO P T ov o e { h with low:=h.size } λv h'=>((h.size<=h'.low\/tK T ops j=true)/\b<=h'.low/\h.size<=h'.size)/\bT b ops l (j+1) (put e o.dst v) h' Q)
    (bT b ops l (j+1) (put e o.dst undef) h Q)
def Mq (b:Nat) (ops:Array Oper) (l:List Oper) (j:Nat) (d:Option Tmp) (Q:Env->Heap->Prop) (e:Env) (h:Heap):aO:=λv _=>Hid (bT P T ov b ops l (j+1) (put e d v) h Q)
def yh (b:Nat) (ops:Array Oper) (l:List Oper) (j:Nat) (d:Option Tmp) (Q:Env->Heap->Prop) (e:Env) (h:Heap):aO :=
 λv h'=>Hid (((h.size<=h'.low\/tK T ops j=true)/\b<=h'.low/\h.size<=h'.size)/\bT P T ov b ops l (j+1) (put e d v) h' Q)
def Mo (b:Nat) (ops:Array Oper) (o:Oper) (l:List Oper) (j:Nat) (e:Env) (h:Heap) (Q:Env->Heap->Prop) (w q:Bool):Prop :=
 if w=true then (if q=true then cO P T ov o e h (Mq P T ov b ops l j o.dst Q e h) else cO P T ov o e (h.lay [] h.size) (yh P T ov b ops l j o.dst Q e h)) else bT P T ov b ops l (j+1) (put e o.dst undef) h Q
end
section
variable {P:Program} {T:bN} {ov:Ov}
theorem zuR (b:Nat) (ops:Array Oper) (j:Nat) (e:Env) (h:Heap) (Q:Env->Heap->Prop):bT P T ov b ops [] j e h Q=Q e h:=rfl
theorem zsS (b:Nat) (ops:Array Oper) (o:Oper) (l:List Oper) (j:Nat) (e:Env) (h:Heap) (Q:Env->Heap->Prop):bT P T ov b ops (o::l) j e h Q=Mo P T ov b ops o l j e h Q (mI ops o e) (gQ o):=by
 simp only [bT,rM,Mo]
 split
 .split
  .exact propext ⟨cO.mono λ_ _ hw=>⟨hw⟩,cO.mono λ_ _ hw=>hw.out⟩
  .exact propext ⟨cO.mono λ_ _ hw=>⟨hw⟩,cO.mono λ_ _ hw=>hw.out⟩
 .rfl
theorem zpk (b:Nat) (ops:Array Oper) (o:Oper) (l:List Oper) (j:Nat) (e:Env) (h:Heap) (Q:Env->Heap->Prop):Mo P T ov b ops o l j e h Q true true=cO P T ov o e h (Mq P T ov b ops l j o.dst Q e h):=rfl
theorem zq1 (b:Nat) (ops:Array Oper) (o:Oper) (l:List Oper) (j:Nat) (e:Env) (h:Heap) (Q:Env->Heap->Prop):Mo P T ov b ops o l j e h Q true false=cO P T ov o e (h.lay [] h.size) (yh P T ov b ops l j o.dst Q e h):=rfl
theorem zq2 (b:Nat) (ops:Array Oper) (o:Oper) (l:List Oper) (j:Nat) (e:Env) (h:Heap) (Q:Env->Heap->Prop) (q:Bool):Mo P T ov b ops o l j e h Q false q=bT P T ov b ops l (j+1) (put e o.dst undef) h Q:=rfl
theorem zuN (b:Nat) (ops:Array Oper) (l:List Oper) (j:Nat) (d:Option Tmp) (Q:Env->Heap->Prop) (e:Env) (h:Heap) (v:ai) (h':Heap):Mq P T ov b ops l j d Q e h v h'=bT P T ov b ops l (j+1) (put e d v) h Q:=zzm _
theorem fP {Q:Env->Heap->Prop} (hb:b<=h.size) (x:Ext (h.lay [] h.size) h') (hk:bT P T ov b ops l (j+1) (put e d v) h' Q):yh P T ov b ops l j d Q e h v h':=by
 have h1:=x.low
 have h2:=x.size
 rw [Xi,br] at h1
 rw [br] at h2
 simp only [dK,gS] at h1 h2
 exact ⟨⟨⟨.inl (by omega),by omega,by omega⟩,hk⟩⟩
structure fc (A:Nat) (h h':Heap):Prop where
 size:h.size<=h'.size
 get:∀ B,B < h.size->B≠A->h'.get B=h.get B
 low:min (min h.low h.size) A<=h'.low
theorem i3 {A:Nat} {Q:Env->Heap->Prop} (ho:tK T ops j=true) (hb:b<=h.size) (hA:b<=A) (x:fc A (h.lay [] h.size) h') (hk:bT P T ov b ops l (j+1) (put e d v) h' Q):yh P T ov b ops l j d Q e h v h':=by
 have h1:=x.low
 have h2:=x.size
 rw [Xi,br] at h1
 rw [br] at h2
 simp only [dK,gS] at h1 h2
 exact ⟨⟨⟨.inr ho,by omega,by omega⟩,hk⟩⟩
theorem F6 {Q:Env->Heap->Prop} (ho:tK T ops j=true) (hb:b<=h'.low) (hs:h.size<=h'.size) (hk:bT P T ov b ops l (j+1) (put e d v) h' Q):yh P T ov b ops l j d Q e h v h' :=
 ⟨⟨⟨.inr ho,hb,hs⟩,hk⟩⟩

theorem ztj {ks:List Nat} (h1:Gz ops (nR ops.toList [])=true) (h2:∀ i,i < ops.size->ks.getD i 2 % 3≠2\/tK T ops i=true) (h3:∀ i,i < ops.size->EO T ops i=true->ks.getD i 2=0):Pa ops ks (nR ops.toList [])=true:=by
 unfold Pa
 rw [jE]
 intro j hj
 have Ni:j < ops.size:=uI.1 hj
 unfold Gz at h1
 have h1:=jE.1 h1 j hj
 unfold LQ
 split
 .rename_i oj q9
  rw [q9] at h1
  simp only [dW] at h1 ⊢
  refine ⟨h1.1,?_⟩
  rw [jE]
  intro i hi
  have fk:i < j:=uI.1 hi
  have h4:=jE.1 h1.2 i hi
  cases ht:((nR ops.toList []).getD j 0).testBit i with
  |true=>rfl
  |false =>
   rw [ht] at h4
   simp only [Bool.false_or] at h4 ⊢
   split at h4
   .rename_i oi Jj
    rw [Jj]
    simp only
    rw [dW]
    refine ⟨h4,?_⟩
    have key:∀ x y:Nat,x % 3≠2->y % 3≠2->sc x y=true:=by
     intro x y h5 h6
     unfold sc
     simp [h5,h6]
    have no1:tK T ops i=true->sc (ks.getD i 2) (ks.getD j 2)=true:=by
     intro hm
     unfold tK at hm
     simp only [dW,jE,uI] at hm
     have:=hm.2 j Ni
     rw [ht] at this
     simp only [fk,decide_true,Bool.not_true,Bool.false_or] at this
     rw [h3 j Ni this]
     simp [sc]
    have no2:tK T ops j=true->sc (ks.getD i 2) (ks.getD j 2)=true:=by
     intro hm
     unfold tK at hm
     simp only [dW,jE,uI] at hm
     have:=hm.1 i fk
     rw [ht] at this
     simp only [Bool.false_or] at this
     rw [h3 i (by omega) this]
     simp [sc]
    rcases h2 i (by omega) with h5|h5
    .rcases h2 j Ni with h6|h6
     .exact key _ _ h5 h6
     .exact no2 h6
    .exact no1 h5
   .rename_i Jj;rw [Jj]
 .rfl
theorem zoE (hb:h.size<=h'.low):lh T o e h h' % 3≠2:=zjw (.inr hb)

theorem cO.quiet {K:aO} (hq:gQ o=true) (hw:cO P T ov o e h K) (w:Nat):cO P T ov o e { h with low:=w } λv h'=>h'={ h with low:=w }/\K v h:=by
 have Dx:O6 o=false:=by
  obtain ⟨dst,op,ty,pos,after,guard⟩:=o
  cases op <;> first|rfl|skip
  rename_i c
  obtain ⟨callee,args,ia⟩:=c
  cases callee <;> first|rfl|simp [gQ] at hq
 rw [zxq Dx] at hw ⊢
 unfold dz at hw ⊢
 split at hw
 .rename_i v h' aj
  obtain ⟨rfl,h2⟩:=zt5 hq aj
  rw [h2 w]
  exact ⟨rfl,hw⟩
 .exact hw.elim

structure lM (T:bN) (ops:Array Oper) (ks:List Nat):Prop where
 ord:∀ i,i < ks.length->ks.getD i 2 % 3≠2\/tK T ops i=true
 blind:∀ i,i < ks.length->EO T ops i=true->ks.getD i 2=0
theorem lM.snoc {ks:List Nat} {c:Nat} (hk:lM T ops ks) (h1:c % 3≠2\/tK T ops ks.length=true) (h2:EO T ops ks.length=true->c=0):lM T ops (ks++[c]):=by
 have get:∀ i,i < (ks++[c]).length->(i < ks.length/\(ks++[c]).getD i 2=ks.getD i 2)\/(i=ks.length/\(ks++[c]).getD i 2=c):=by
  intro i hi
  rw [cT,jk] at hi
  by_cases bc:i < ks.length
  .refine .inl ⟨bc,?_⟩
   rw [ni,ni,jC bc]
  .have:i=ks.length:=by omega
   subst this
   refine .inr ⟨rfl,?_⟩
   rw [ni,lj (by omega),tQ]
   rfl
 constructor
 .intro i hi
  rcases get i hi with ⟨g1,g2⟩|⟨g1,g2⟩
  .rw [g2];exact hk.ord i g1
  .rw [g2,g1];exact h1
 .intro i hi hb
  rcases get i hi with ⟨g1,g2⟩|⟨g1,g2⟩
  .rw [g2];exact hk.blind i g1 hb
  .rw [g2];rw [g1] at hb;exact h2 hb
theorem bT.Ei {ops:Array Oper} {b:Nat}:∀ (l:List Oper) (j:Nat) (ks:List Nat) (e:Env) (h:Heap) (m:Nat) (Q:Env->Heap->Prop),b<=h.size->b<=m->ks.length=j->ops.toList.drop j=l->lM T ops ks->bT P T ov b ops l j e h Q ->
 cj P T ov ops l ks e { h with low:=m } λez e' h'=>(ez.length=ks.length+l.length/\lM T ops ez)/\∃ h1,Q e' h1/\∃ m',b<=m'/\h'={ h1 with low:=m' }
 | [],j,ks,e,h,m,Q,hb,hm,hj,hd,ti,hw=>⟨⟨rfl,ti⟩,h,hw,m,hm,rfl⟩
 |o::l,j,ks,e,h,m,Q,hb,hm,hj,hd,ti,hw=>by
  have rX:EO T ops ks.length=rG T o:=by
   have:ops[ks.length]? = some o:=by
    have h1:(ops.toList.drop j)[0]? = some o:=by rw [hd];rfl
    rw [lJ] at h1
    rw [hj]
    simpa using h1
   simp only [EO,this]
  have oZ:ops.toList.drop (j+1)=l:=by
   rw [<- Fh,hd]
   rfl
  have fin:∀ (c:Nat) (ez:List Nat) (e':Env) (h':Heap),((ez.length=(ks++[c]).length+l.length/\lM T ops ez)/\∃ h1,Q e' h1/\∃ m',b<=m'/\h'={ h1 with low:=m' }) ->
   ((ez.length=ks.length+(o::l).length/\lM T ops ez)/\∃ h1,Q e' h1/\∃ m',b<=m'/\h'={ h1 with low:=m' }):=by
   intro c ez e' h' ⟨⟨h1,h2⟩,h3⟩
   refine ⟨⟨?_,h2⟩,h3⟩
   simp only [cT,eB,dK] at h1 ⊢
   omega
  have kz:∀ h1 h2:Heap,rG T o=true->lh T o e h1 h2=0:=by
   intro h1 h2 hb
   unfold lh
   rw [aB hb]
  simp only [bT,cj,rM] at hw ⊢
  split at hw
  .rename_i gA
   rw [aB gA]
   split at hw
   .rename_i hq
    have h0:=cO.quiet hq hw h.size
    refine cO.mono (λv h' ⟨he,hw⟩=>?_) h0
    subst he
    have hk:lh T o e { h with low:=m } { h with low:=h.size } % 3≠2:=zoE (aQ _)
    refine cj.mono _ _ _ _ _ _ (λez e' h' Jp=>fin _ ez e' h' Jp) (bT.Ei l (j+1) (ks++[lh T o e { h with low:=m } { h with low:=h.size }]) _ h (min m h.size) Q hb (by omega) (by simp [hj]) oZ (ti.snoc (.inl hk) (λhb=>kz _ _ (rX ▸ hb))) hw)
   .refine cO.mono (λv h' ⟨⟨h1,h2,h3⟩,hw⟩=>?_) hw
    have hk:lh T o e { h with low:=m } h' % 3≠2\/tK T ops ks.length=true:=h1.imp (λh1=>zoE h1) (λh1=>hj ▸ h1)
    exact cj.mono _ _ _ _ _ _ (λez e' h' Jp=>fin _ ez e' h' Jp) (bT.Ei l (j+1) (ks++[lh T o e { h with low:=m } h']) _ h' (min m h'.low) Q (by omega) (by omega) (by simp [hj]) oZ (ti.snoc hk (λhb=>kz _ _ (rX ▸ hb))) hw)
  .rename_i gA
   rw [aA gA]
   exact cj.mono _ _ _ _ _ _ (λez e' h' Jp=>fin 0 ez e' h' Jp) (bT.Ei l (j+1) (ks++[0]) _ h m Q hb hm (by simp [hj]) oZ (ti.snoc (.inl (by decide)) (λ_=>rfl)) hw)

def H4 (b:Nat) (Q:Ex->Env->Heap->Prop):Env->Heap->Prop:=λe h1=>∀ m,b<=m->Q .normal e { h1 with low:=m }
theorem zzC {rd:Option Nat} {id:Nat} {ops:List Oper} (b:Nat) (hb:b<=h.size) (hl:b<=h.low) (ht:Gz ⟨ops⟩ (nR ops [])=true) (hw:bT P T ov b ⟨ops⟩ ops 0 e h (H4 b Q)):W P T ov rd (.region id ⟨ops⟩ true) e h Q:=by
 simp only [W]
 have:=bT.Ei (ops:=⟨ops⟩) ops 0 [] e h h.low (H4 b Q) hb hl rfl rfl ⟨λi hi=>by simp at hi,λi hi=>by simp at hi⟩ hw
 refine cj.mono _ _ _ _ _ _ (λez e' h' hq=>?_) this
 obtain ⟨⟨h1,h2⟩,h3,h4,m',h5,rfl⟩:=hq
 have oD:∀ i,i < (⟨ops⟩:Array Oper).size->i < ez.length:=λi hi=>by rw [h1];simpa using hi
 exact ⟨ztj ht (λi hi=>h2.ord i (oD i hi)) (λi hi=>h2.blind i (oD i hi)),h4 m' h5⟩
def H5 (h0:Heap) (Q:Ex->Env->Heap->Prop):Env->Heap->Prop:=λe h1=>qe h0 h1->∀ h2,Ext h0 h2->Ext (h1.lay [] h2.low) h2->h2.size=h1.size->Q .normal e h2
theorem zzB {rd:Option Nat} {id:Nat} {ops:List Oper} {h0:Heap} (z:Ext h0 h) (ht:Gz ⟨ops⟩ (nR ops [])=true) (hw:bT P T ov (min h0.low h0.size) ⟨ops⟩ ops 0 e h λe' h1=>qe h0 h1/\H5 h0 Q e' h1):W P T ov rd (.region id ⟨ops⟩ true) e h Q:=by
 refine zzC (min h0.low h0.size) (by have:=z.size;omega) z.low ht ?_
 have mono:∀ (l:List Oper) (j:Nat) (e:Env) (h:Heap) (Q Q':Env->Heap->Prop),(∀ e h,Q e h->Q' e h)->bT P T ov (min h0.low h0.size) ⟨ops⟩ l j e h Q->bT P T ov (min h0.low h0.size) ⟨ops⟩ l j e h Q':=by
  intro l
  induction l with
  |nil=>intro j e h Q Q' hq hw;exact hq _ _ hw
  |cons o l ih =>
   intro j e h Q Q' hq hw
   simp only [bT,rM] at hw ⊢
   split at hw
   .rename_i gA
    rw [aB gA]
    split at hw
    .rename_i Tx
     rw [aB Tx]
     exact cO.mono (λv h'=>ih _ _ _ _ _ hq) hw
    .rename_i Tx
     rw [aA Tx]
     exact cO.mono (λv h' ⟨h1,h2⟩=>⟨h1,ih _ _ _ _ _ hq h2⟩) hw
   .rename_i gA
    rw [aA gA]
    exact ih _ _ _ _ _ hq hw
 refine mono _ _ _ _ _ _ ?_ hw
 rintro e' h1 ⟨hi,hq⟩ m hm
 refine hq hi { h1 with low:=m } ⟨hi.size,hi.get,hm⟩ ⟨aQ _,λ_ _=>rfl,?_⟩ rfl
 show min m h1.size<=m
 omega
end
section
variable (P:Program) (T:bN) (ov:Ov)
def Pm (ops:Array Oper) (o:Oper) (l:List Oper) (d:Option Tmp) (e:Env) (h:Heap) (Q:Env->Heap->Prop) (b:Bool):Prop:=if b=true then cO P T ov o e h (uL P T ov ops l d Q e) else dc P T ov ops l (put e d undef) h Q
def LG (b:Nat) (ops:Array Oper) (o:Oper) (l:List Oper) (j:Nat) (d:Option Tmp) (e:Env) (h:Heap) (Q:Env->Heap->Prop) (w q:Bool):Prop :=
 if w=true then (if q=true then cO P T ov o e h (Mq P T ov b ops l j d Q e h) else cO P T ov o e (h.lay [] h.size) (yh P T ov b ops l j d Q e h)) else bT P T ov b ops l (j+1) (put e d undef) h Q
end
section
variable {P:Program} {T:bN} {ov:Ov}
theorem zpW (ops:Array Oper) (o:Oper) (l:List Oper) (d:Option Tmp) (e:Env) (h:Heap) (Q:Env->Heap->Prop):Pm P T ov ops o l d e h Q true=cO P T ov o e h (uL P T ov ops l d Q e):=rfl
theorem znM (ops:Array Oper) (o:Oper) (l:List Oper) (d:Option Tmp) (e:Env) (h:Heap) (Q:Env->Heap->Prop):Pm P T ov ops o l d e h Q false=dc P T ov ops l (put e d undef) h Q:=rfl
theorem zsT (ops:Array Oper) (o:Oper) (l:List Oper) (e:Env) (h:Heap) (Q:Env->Heap->Prop):dc P T ov ops (o::l) e h Q=Pm P T ov ops o l o.dst e h Q (mI ops o e):=znH _ _ _ _ _ _
theorem zlY (b:Nat) (ops:Array Oper) (o:Oper) (l:List Oper) (j:Nat) (d:Option Tmp) (e:Env) (h:Heap) (Q:Env->Heap->Prop):LG P T ov b ops o l j d e h Q true true=cO P T ov o e h (Mq P T ov b ops l j d Q e h):=rfl
theorem znK (b:Nat) (ops:Array Oper) (o:Oper) (l:List Oper) (j:Nat) (d:Option Tmp) (e:Env) (h:Heap) (Q:Env->Heap->Prop):LG P T ov b ops o l j d e h Q true false=cO P T ov o e (h.lay [] h.size) (yh P T ov b ops l j d Q e h):=rfl
theorem znL (b:Nat) (ops:Array Oper) (o:Oper) (l:List Oper) (j:Nat) (d:Option Tmp) (e:Env) (h:Heap) (Q:Env->Heap->Prop) (q:Bool):LG P T ov b ops o l j d e h Q false q=bT P T ov b ops l (j+1) (put e d undef) h Q:=rfl
theorem zpV (b:Nat) (ops:Array Oper) (o:Oper) (l:List Oper) (j:Nat) (e:Env) (h:Heap) (Q:Env->Heap->Prop):bT P T ov b ops (o::l) j e h Q=LG P T ov b ops o l j o.dst e h Q (mI ops o e) (gQ o):=zsS _ _ _ _ _ _ _ _
end
theorem Pu {P:Program} {T:bN} {ov:Ov} {rd:Option Nat} (R:Env->Heap->Prop)
 (h1:W P T ov rd c e h λx e' h'=>x=.normal/\R e' h') (h2:∀ e' h',R e' h'->Q .normal e' h'):W P T ov rd c e h Q :=
 W.mono c _ _ _ _ (λx e' h' ⟨hx,hr⟩=>by subst hx;exact h2 e' h' hr) h1
theorem D1 {shape:(Nat->ai)->Env} (h:e=shape e.get):∃ J,e=shape J:=⟨_,h⟩
theorem Fo {shape:(Nat->ai)->Env} {p:(Nat->ai)->Prop} (h:e=shape e.get) (hp:p e.get):∃ J,e=shape J/\p J:=⟨_,h,hp⟩
theorem uw {P:Program} {T:bN} {ov:Ov} {rd:Option Nat} {h1:Heap} {bs:List aZ} {w:Nat} 
 (hk:∀ h2,Ext (h1.lay bs w) h2->(∀ (i:Nat) (b:aZ),bs[i]? = some b->ak h2 (h1.size+i) b)->W P T ov rd c e h2 Q):W P T ov rd c e (h1.lay bs w) Q:=by
 refine hk _ (Ext.refl _) λi b hi=>?_
 have hl:=(fR.1 hi).1
 exact ⟨by rw [br];omega,by rw [kE];exact hi⟩
def Ck (I:Nat->Env->Heap->Prop) (n:Nat) (Q:Ex->Env->Heap->Prop):Ex->Env->Heap->Prop
 | .normal,e',h'=>∃ m,m < n/\I m e' h'
 | .exit i,e',h'=>Q (.exit i) e' h'
 | .ret,e',h'=>Q .ret e' h'
section
variable {P:Program} {T:bN} {ov:Ov} {rd:Option Nat}
theorem ztK (I:Nat->Env->Heap->Prop) (n:Nat) (Q:Ex->Env->Heap->Prop) (i:Nat) (e':Env) (h':Heap):Ck I n Q (.exit i) e' h'=Q (.exit i) e' h':=rfl
theorem zv4 (I:Nat->Env->Heap->Prop) (n:Nat) (Q:Ex->Env->Heap->Prop) (e':Env) (h':Heap):Ck I n Q .ret e' h'=Q .ret e' h':=rfl
theorem dA {I:Nat->Env->Heap->Prop} {n m:Nat} {e':Env} (hm:m < n) (hi:I m e' h'):Ck I n Q .normal e' h':=⟨m,hm,hi⟩
theorem fh (I:Nat->Env->Heap->Prop) (n0:Nat) (h0:I n0 e h) (round:∀ n e h,I n e h->W P T ov rd c e h (Ck I n Q)):W P T ov rd (.loop c) e h Q:=by
 have key:∀ (k n:Nat) (e:Env) (h:Heap),n < k->I n e h->dM (W P T ov rd c) Q k e h:=by
  intro k
  induction k with
  |zero=>intro n e h hn;omega
  |succ k ih =>
   intro n e h hn hI
   simp only [dM]
   refine W.mono c _ _ _ _ ?_ (round n e h hI)
   intro x e' h'
   cases x with
   |normal=>rintro ⟨m,h1,h2⟩;exact ih m e' h' (by omega) h2
   |exit i=>exact λhh=>hh
   |ret=>exact λhh=>hh
 exact ⟨n0+1,key (n0+1) n0 e h (nj _) h0⟩
end
end Go.Am
