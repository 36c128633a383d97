/- Regions that draw their order, in which nothing that is there is turned. No condition. -/
import Derived.Test.YtnkmeidmdaidhaaGreatDoorG4
set_option linter.unusedSimpArgs false
namespace Go.Am
variable {h h1:Heap} {w:Nat} {l:List bc}
section
variable (P:Program) (T:bx) (ov:Ov)
def aac (ops:Array Oper):List Oper->Env->Heap->(Env->Heap->Prop)->Prop
 | [],e,h,Q=>Q e h
 |o::l,e,h,Q=>oF (kU ops o e) (bU P T ov o e { h with low:=h.size } λv h'=>(nV T o=true\/h.size<=h'.low)/\aac ops l (put e o.dst v) { h' with low:=min h.low h'.low } Q) (aac ops l (put e o.dst undef) h Q)
end
section
variable {P:Program} {T:bx} {ov:Ov}
theorem zpv {o:Oper} {e:Env} {h':Heap} (hb:nV T o=true\/h.size<=h'.low):iJ T o e h h' % 3≠2:=by
 unfold iJ
 split
 .decide
 .rename_i hnb
  rcases hb with hb|hb
  .exact (hnb hb).elim
  .rw [aG hb]
   split
   .split <;> omega
   .omega
   .omega
theorem aac.vF {ops:Array Oper}:∀ (l:List Oper) (ks:List Nat) (e:Env) (h:Heap) (Q:Env->Heap->Prop),(∀ i,i < ks.length->ks.getD i 2 % 3≠2)->aac P T ov ops l e h Q ->
 bF P T ov ops l ks e h λdD e' h'=>(dD.length=ks.length+l.length/\∀ i,i < dD.length->dD.getD i 2 % 3≠2)/\Q e' h'
 | [],ks,e,h,Q,ou,hw=>⟨⟨rfl,ou⟩,hw⟩
 |o::l,ks,e,h,Q,ou,hw=>by
  have aai:∀ c:Nat,c % 3≠2->∀ i,i < (ks++[c]).length->(ks++[c]).getD i 2 % 3≠2:=by
   intro c hc i hi
   rw [dx,j9] at hi
   by_cases aW:i < ks.length
   .have:=ou i aW
    rw [lk] at this ⊢
    rw [kY aW]
    exact this
   .have:i=ks.length:=by omega
    subst this
    rw [lk,n9 (by omega),DB]
    simpa using hc
  have fin:∀ (c:Nat) (Q':List Nat->Env->Heap->Prop) (dD:List Nat) (e':Env) (h':Heap),(dD.length=(ks++[c]).length+l.length/\∀ i,i < dD.length->dD.getD i 2 % 3≠2)/\Q e' h'->(dD.length=ks.length+(o::l).length/\∀ i,i < dD.length->dD.getD i 2 % 3≠2)/\Q e' h':=by
   intro c Q' dD e' h' ⟨⟨h1,h2⟩,h3⟩
   refine ⟨⟨?_,h2⟩,h3⟩
   simp only [dx,dB,cW] at h1 ⊢
   omega
  simp only [aac,bF,oF] at hw ⊢
  split at hw
  .rename_i eY
   rw [aG eY]
   refine bU.mono (λv h' ⟨hb,hw⟩=>?_) hw
   refine bF.mono _ _ _ _ _ _ (λdD e' h' hq=>fin _ (λ_ _ _=>True) dD e' h' hq) (aac.vF l (ks++[iJ T o e h h']) _ _ Q (aai _ (zpv hb)) hw)
  .rename_i eY
   rw [aA eY]
   exact bF.mono _ _ _ _ _ _ (λdD e' h' hq=>fin 0 (λ_ _ _=>True) dD e' h' hq) (aac.vF l (ks++[0]) _ _ Q (aai 0 (by decide)) hw)
theorem bK (h:Heap) (l m:List bc) (w v:Nat):(h.lay l w).lay m v=h.lay (l++m) v:=by
 simp only [Heap.lay,List.foldl_append]
 congr 1
 .simp only [L9]
 .have key:∀ (m:List bc) (a b:Heap),a.size=b.size->a.tr=b.tr->(m.foldl Heap.push a).tr=(m.foldl Heap.push b).tr:=by
   intro m
   induction m with
   |nil=>intro a b _ h2;exact h2
   |cons c m ih =>
    intro a b h1 h2
    rw [rL,rL]
    exact ih _ _ (by simp [Heap.push,h1]) (by simp [Heap.push,h1,h2])
  exact key m _ _ rfl rfl
theorem fT:(∀ (l:List bc) (w:Nat) (h:Heap),(h.lay l w).size=h.size+l.length)/\(∀ (a:bc) (l:List bc),(a::l).length=l.length+1)/\([]:List bc).length=0:=⟨λl w h=>bo h l w,λ_ _=>rfl,rfl⟩
end
theorem Ext.zl {h2:Heap} (z:Ext h h1) (x:Ext (h1.lay l w) h2) (hw:min h1.low h1.size<=w):Ext h h2:=(z.trans (Uv _ _ _ hw)).trans x
theorem Ext.iG (z:Ext h h1) (l:List bc) (w:Nat) (hw:min h1.low h1.size<=w):Ext h (h1.lay l w):=z.trans (Uv _ _ _ hw)
theorem Ext.aw (z:Ext h h1) (hw:min h1.low h1.size<=w:=by omega):Ext h (h1.lay l w):=z.iG l w hw
theorem Ext.ao {h2:Heap} (z:Ext h h1) (x:Ext (h1.lay l w) h2) (hw:min h1.low h1.size<=w:=by omega):Ext h h2:=z.zl x hw
end Go.Am
namespace Go.Am
variable {h h':Heap} {v:ai} {o:Oper} {e:Env} {d:Option Tmp} {b j:Nat} {l:List Oper} {ops:Array Oper} {Q:Ex->Env->Heap->Prop} {c:Code}
structure wo (h h':Heap):Prop where
 size:h.size<=h'.size
 get:∀ A,A < h.size->h'.get A=h.get A
theorem Ext.cI (x:Ext h h'):wo h h':=⟨x.size,x.get⟩
theorem wo.lay {h h1:Heap} (g:wo h h1) (l:List bc) (w:Nat):wo h (h1.lay l w):=⟨by rw [bo];have:=g.size;omega,λA hA=>(xW h1 l w (dU hA g.size)).trans (g.get A hA)⟩
structure bQ (h h':Heap):Prop where
 size:h.size<=h'.size
 get:∀ A,A < h.size->h.get A≠some .dead->h'.get A=h.get A
theorem bQ.refl (h:Heap):bQ h h:=⟨aS _,λ_ _ _=>rfl⟩
theorem bQ.trans {a b c:Heap} (x:bQ a b) (y:bQ b c):bQ a c:=⟨dZ x.size y.size,λA hA hd=>by
 have h1:=x.get A hA hd
 exact (y.get A (dU hA x.size) (by rw [h1];exact hd)).trans h1⟩
theorem Ext.inc (x:Ext h h'):bQ h h':=⟨x.size,λA hA _=>x.get A hA⟩
theorem bQ.lay (h:Heap) (l:List bc) (w:Nat):bQ h (h.lay l w):=⟨by rw [bo];omega,λA hA _=>xW h l w hA⟩
theorem bQ.at (i:bQ h h') {A:Nat} {cs:List ai} {u:TypeId} {ro:Bool} (hA:A < h.size) (hg:h.get A=some (.row cs u ro)):h'.get A=some (.row cs u ro):=(i.get A hA (by rw [hg];simp)).trans hg
theorem bQ.mY {l:List bc} {w:Nat} (x:bQ (h.lay l w) h'):bQ h h':=(bQ.lay h l w).trans x

def dS (o:Oper):Bool:=match o.op with
 | .move _ | .assign _ | .pick _ _ _ | .build _ _ | .load _ _ | .nilCheck _ | .binOp _ _ _ _ _ | .makeFunc _ _ _ | .slice _ _ _ _ _ | .fieldAddr _ _ _ | .field _ _ _ | .indexAddr _ _ _ | .extract _ _ | .unOp _ _ _ | .index _ _ _ | .lookup _ _ _ _=>true
 | .call c=>(match c.callee with
  | .builtin .len | .builtin .min | .builtin .max=>true
  |_=>false)
 |_=>false
def rJ (T:bx) (ops:Array Oper) (j:Nat):Bool :=
 let ms:=kV ops.toList []
 (List.range j).all (λi=>(ms.getD j 0).testBit i || kK T ops i) && (List.range ops.size).all λi => !decide (j < i) || ((ms.getD i 0).testBit j || kK T ops i)

section
variable {P:Program} {T:bx} {C:Fn->List ai->Heap->Option (ai × Heap)}
theorem zs8 (hb:dS o=true) (aj:gq P T C e o h=some (v,h')):h'=h/\∀ w,gq P T C e o { h with low:=w }=some (v,{ h with low:=w }):=by
 have cq:∀ {r:Option ai},(r.map λx=>(x,h))=some (v,h')->h'=h/\∀ h2:Heap,(r.map λx=>(x,h2))=some (v,h2):=by
  intro r hr
  simp only [bX,cx] at hr
  obtain ⟨_,rfl,rfl,rfl⟩:=hr
  exact ⟨rfl,λ_=>rfl⟩
 have dn:fB P e o h=some (v,h')->h'=h/\∀ h2,fB P e o h2=some (v,h2):=by
  intro hp
  unfold fB at hp ⊢
  split at hp
  .rename_i h1
   split at hp
   .rename_i h2
    split at hp
    .rename_i h3
     cases hp
     exact ⟨rfl,λ_=>by simp [h1,h3]⟩
    .cases hp
   .cases hp
  .cases hp
 obtain ⟨dst,op,ty,pos,after,guard⟩:=o
 cases op <;> simp only [dS,fF] at hb <;> simp only [gq] at aj ⊢
 case move x=>cases aj;exact ⟨rfl,λ_=>rfl⟩
 case assign x=>cases aj;exact ⟨rfl,λ_=>rfl⟩
 case pick c a b =>
  split at aj
  .cases aj;exact ⟨rfl,λ_=>rfl⟩
  .cases aj
 case build=>obtain ⟨a,b⟩:=cq aj;exact ⟨a,λw=>b _⟩
 case load =>
  obtain ⟨a,b⟩:=cq aj
  exact ⟨a,λw=>b _⟩
 case lookup =>
  obtain ⟨a,b⟩:=cq aj
  exact ⟨a,λw=>b _⟩
 case nilCheck x =>
  split at aj
  .cases aj;exact ⟨rfl,λ_=>rfl⟩
  .cases aj;exact ⟨rfl,λ_=>rfl⟩
  .cases aj;exact ⟨rfl,λ_=>rfl⟩
  .cases aj
 case binOp=>obtain ⟨a,b⟩:=cq aj;exact ⟨a,λw=>b _⟩
 case makeFunc fn f c =>
  split at aj
  .cases aj;exact ⟨rfl,λ_=>rfl⟩
  .cases aj
 case slice=>obtain ⟨a,b⟩:=cq aj;exact ⟨a,λw=>b _⟩
 case fieldAddr=>obtain ⟨a,b⟩:=cq aj;exact ⟨a,λw=>b _⟩
 case field=>obtain ⟨a,b⟩:=cq aj;exact ⟨a,λw=>b _⟩
 case indexAddr=>obtain ⟨a,b⟩:=cq aj;exact ⟨a,λw=>b _⟩
 case extract t i =>
  split at aj
  .obtain ⟨a,b⟩:=cq aj;exact ⟨a,λw=>b _⟩
  .cases aj
 case unOp=>obtain ⟨a,b⟩:=dn aj;exact ⟨a,λw=>b _⟩
 case index=>obtain ⟨a,b⟩:=dn aj;exact ⟨a,λw=>b _⟩
 case call c =>
  obtain ⟨callee,args,fY⟩:=c
  cases callee with
  |value f=>simp at hb
  |invoke r m=>simp at hb
  |builtin b =>
   cases b <;> simp at hb <;> simp only at aj ⊢
   case len =>
    split at aj
    .obtain ⟨a,b⟩:=cq aj;exact ⟨a,λw=>b _⟩
    .cases aj
   case min=>obtain ⟨a,b⟩:=dn aj;exact ⟨a,λw=>b _⟩
   case max=>obtain ⟨a,b⟩:=dn aj;exact ⟨a,λw=>b _⟩
end

section
variable (P:Program) (T:bx) (ov:Ov)
def bI (b:Nat) (ops:Array Oper):List Oper->Nat->Env->Heap->(Env->Heap->Prop)->Prop
 | [],_,e,h,Q=>Q e h
 |o::l,j,e,h,Q=>oF (kU ops o e)
    (if dS o=true then bU P T ov o e h λv _=>bI b ops l (j+1) (put e o.dst v) h Q
     else bU P T ov o e { h with low:=h.size } λv h'=>((h.size<=h'.low\/rJ T ops j=true)/\b<=h'.low/\h.size<=h'.size)/\bI b ops l (j+1) (put e o.dst v) h' Q)
    (bI b ops l (j+1) (put e o.dst undef) h Q)
def Kp (b:Nat) (ops:Array Oper) (l:List Oper) (j:Nat) (d:Option Tmp) (Q:Env->Heap->Prop) (e:Env) (h:Heap):aL:=λv _=>Hid (bI P T ov b ops l (j+1) (put e d v) h Q)
def wh (b:Nat) (ops:Array Oper) (l:List Oper) (j:Nat) (d:Option Tmp) (Q:Env->Heap->Prop) (e:Env) (h:Heap):aL :=
 λv h'=>Hid (((h.size<=h'.low\/rJ T ops j=true)/\b<=h'.low/\h.size<=h'.size)/\bI P T ov b ops l (j+1) (put e d v) h' Q)
def Ko (b:Nat) (ops:Array Oper) (o:Oper) (l:List Oper) (j:Nat) (e:Env) (h:Heap) (Q:Env->Heap->Prop) (w q:Bool):Prop :=
 if w=true then (if q=true then bU P T ov o e h (Kp P T ov b ops l j o.dst Q e h) else bU P T ov o e (h.lay [] h.size) (wh P T ov b ops l j o.dst Q e h)) else bI P T ov b ops l (j+1) (put e o.dst undef) h Q
end
section
variable {P:Program} {T:bx} {ov:Ov}
theorem ztV (b:Nat) (ops:Array Oper) (j:Nat) (e:Env) (h:Heap) (Q:Env->Heap->Prop):bI P T ov b ops [] j e h Q=Q e h:=rfl
theorem zrU (b:Nat) (ops:Array Oper) (o:Oper) (l:List Oper) (j:Nat) (e:Env) (h:Heap) (Q:Env->Heap->Prop):bI P T ov b ops (o::l) j e h Q=Ko P T ov b ops o l j e h Q (kU ops o e) (dS o):=by
 simp only [bI,oF,Ko]
 split
 .split
  .exact propext ⟨bU.mono λ_ _ hw=>⟨hw⟩,bU.mono λ_ _ hw=>hw.out⟩
  .exact propext ⟨bU.mono λ_ _ hw=>⟨hw⟩,bU.mono λ_ _ hw=>hw.out⟩
 .rfl
theorem zol (b:Nat) (ops:Array Oper) (o:Oper) (l:List Oper) (j:Nat) (e:Env) (h:Heap) (Q:Env->Heap->Prop):Ko P T ov b ops o l j e h Q true true=bU P T ov o e h (Kp P T ov b ops l j o.dst Q e h):=rfl
theorem zqa (b:Nat) (ops:Array Oper) (o:Oper) (l:List Oper) (j:Nat) (e:Env) (h:Heap) (Q:Env->Heap->Prop):Ko P T ov b ops o l j e h Q true false=bU P T ov o e (h.lay [] h.size) (wh P T ov b ops l j o.dst Q e h):=rfl
theorem zqb (b:Nat) (ops:Array Oper) (o:Oper) (l:List Oper) (j:Nat) (e:Env) (h:Heap) (Q:Env->Heap->Prop) (q:Bool):Ko P T ov b ops o l j e h Q false q=bI P T ov b ops l (j+1) (put e o.dst undef) h Q:=rfl
theorem ztR (b:Nat) (ops:Array Oper) (l:List Oper) (j:Nat) (d:Option Tmp) (Q:Env->Heap->Prop) (e:Env) (h:Heap) (v:ai) (h':Heap):Kp P T ov b ops l j d Q e h v h'=bI P T ov b ops l (j+1) (put e d v) h Q:=UZ _
theorem fC {Q:Env->Heap->Prop} (hb:b<=h.size) (x:Ext (h.lay [] h.size) h') (hk:bI P T ov b ops l (j+1) (put e d v) h' Q):wh P T ov b ops l j d Q e h v h':=by
 have h1:=x.low
 have h2:=x.size
 rw [Uw,bo] at h1
 rw [bo] at h2
 simp only [cW,gw] at h1 h2
 exact ⟨⟨⟨.inl (by omega),by omega,by omega⟩,hk⟩⟩
structure fW (A:Nat) (h h':Heap):Prop where
 size:h.size<=h'.size
 get:∀ B,B < h.size->B≠A->h'.get B=h.get B
 low:min (min h.low h.size) A<=h'.low
theorem gR {A:Nat} {Q:Env->Heap->Prop} (ho:rJ T ops j=true) (hb:b<=h.size) (hA:b<=A) (x:fW A (h.lay [] h.size) h') (hk:bI P T ov b ops l (j+1) (put e d v) h' Q):wh P T ov b ops l j d Q e h v h':=by
 have h1:=x.low
 have h2:=x.size
 rw [Uw,bo] at h1
 rw [bo] at h2
 simp only [cW,gw] at h1 h2
 exact ⟨⟨⟨.inr ho,by omega,by omega⟩,hk⟩⟩
theorem Eg {Q:Env->Heap->Prop} (ho:rJ T ops j=true) (hb:b<=h'.low) (hs:h.size<=h'.size) (hk:bI P T ov b ops l (j+1) (put e d v) h' Q):wh P T ov b ops l j d Q e h v h' :=
 ⟨⟨⟨.inr ho,hb,hs⟩,hk⟩⟩

theorem zsk {ks:List Nat} (h1:zI ops (kV ops.toList [])=true) (h2:∀ i,i < ops.size->ks.getD i 2 % 3≠2\/rJ T ops i=true) (h3:∀ i,i < ops.size->kK T ops i=true->ks.getD i 2=0):Da ops ks (kV ops.toList [])=true:=by
 unfold Da
 rw [gz]
 intro j hj
 have DT:j < ops.size:=pQ.1 hj
 unfold zI at h1
 have h1:=gz.1 h1 j hj
 unfold EH
 split
 .rename_i oj nH
  rw [nH] at h1
  simp only [dj] at h1 ⊢
  refine ⟨h1.1,?_⟩
  rw [gz]
  intro i hi
  have ej:i < j:=pQ.1 hi
  have h4:=gz.1 h1.2 i hi
  cases ht:((kV ops.toList []).getD j 0).testBit i with
  |true=>rfl
  |false =>
   rw [ht] at h4
   simp only [DA] at h4 ⊢
   split at h4
   .rename_i oi xp
    rw [xp]
    simp only
    rw [dj]
    refine ⟨h4,?_⟩
    have key:∀ x y:Nat,x % 3≠2->y % 3≠2->lE x y=true:=by
     intro x y h5 h6
     unfold lE
     simp [h5,h6]
    have no1:rJ T ops i=true->lE (ks.getD i 2) (ks.getD j 2)=true:=by
     intro hm
     unfold rJ at hm
     simp only [dj,gz,pQ] at hm
     have:=hm.2 j DT
     rw [ht] at this
     simp only [ej,decide_true,Bool.not_true,DA] at this
     rw [h3 j DT this]
     simp [lE]
    have no2:rJ T ops j=true->lE (ks.getD i 2) (ks.getD j 2)=true:=by
     intro hm
     unfold rJ at hm
     simp only [dj,gz,pQ] at hm
     have:=hm.1 i ej
     rw [ht] at this
     simp only [DA] at this
     rw [h3 i (by omega) this]
     simp [lE]
    rcases h2 i (by omega) with h5|h5
    .rcases h2 j DT with h6|h6
     .exact key _ _ h5 h6
     .exact no2 h6
    .exact no1 h5
   .rename_i xp;rw [xp]
 .rfl
theorem znF (hb:h.size<=h'.low):iJ T o e h h' % 3≠2:=zpv (.inr hb)

theorem bU.quiet {K:aL} (hq:dS o=true) (hw:bU P T ov o e h K) (w:Nat):bU P T ov o e { h with low:=w } λv h'=>h'={ h with low:=w }/\K v h:=by
 have BG:MM o=false:=by
  obtain ⟨dst,op,ty,pos,after,guard⟩:=o
  cases op <;> first|rfl|skip
  rename_i c
  obtain ⟨callee,args,fY⟩:=c
  cases callee <;> first|rfl|simp [dS] at hq
 rw [zwi BG] at hw ⊢
 unfold da at hw ⊢
 split at hw
 .rename_i v h' aj
  obtain ⟨rfl,h2⟩:=zs8 hq aj
  rw [h2 w]
  exact ⟨rfl,hw⟩
 .exact hw.elim

structure kf (T:bx) (ops:Array Oper) (ks:List Nat):Prop where
 ord:∀ i,i < ks.length->ks.getD i 2 % 3≠2\/rJ T ops i=true
 blind:∀ i,i < ks.length->kK T ops i=true->ks.getD i 2=0
theorem kf.snoc {ks:List Nat} {c:Nat} (hk:kf T ops ks) (h1:c % 3≠2\/rJ T ops ks.length=true) (h2:kK T ops ks.length=true->c=0):kf T ops (ks++[c]):=by
 have get:∀ i,i < (ks++[c]).length->(i < ks.length/\(ks++[c]).getD i 2=ks.getD i 2)\/(i=ks.length/\(ks++[c]).getD i 2=c):=by
  intro i hi
  rw [dx,j9] at hi
  by_cases aW:i < ks.length
  .refine .inl ⟨aW,?_⟩
   rw [lk,lk,kY aW]
  .have:i=ks.length:=by omega
   subst this
   refine .inr ⟨rfl,?_⟩
   rw [lk,n9 (by omega),DB]
   rfl
 constructor
 .intro i hi
  rcases get i hi with ⟨g1,g2⟩|⟨g1,g2⟩
  .rw [g2];exact hk.ord i g1
  .rw [g2,g1];exact h1
 .intro i hi hb
  rcases get i hi with ⟨g1,g2⟩|⟨g1,g2⟩
  .rw [g2];exact hk.blind i g1 hb
  .rw [g2];rw [g1] at hb;exact h2 hb
theorem bI.vF {ops:Array Oper} {b:Nat}:∀ (l:List Oper) (j:Nat) (ks:List Nat) (e:Env) (h:Heap) (m:Nat) (Q:Env->Heap->Prop),b<=h.size->b<=m->ks.length=j->ops.toList.drop j=l->kf T ops ks->bI P T ov b ops l j e h Q ->
 bF P T ov ops l ks e { h with low:=m } λdD e' h'=>(dD.length=ks.length+l.length/\kf T ops dD)/\∃ h1,Q e' h1/\∃ m',b<=m'/\h'={ h1 with low:=m' }
 | [],j,ks,e,h,m,Q,hb,hm,hj,hd,ou,hw=>⟨⟨rfl,ou⟩,h,hw,m,hm,rfl⟩
 |o::l,j,ks,e,h,m,Q,hb,hm,hj,hd,ou,hw=>by
  have jh:kK T ops ks.length=nV T o:=by
   have:ops[ks.length]? = some o:=by
    have h1:(ops.toList.drop j)[0]? = some o:=by rw [hd];rfl
    rw [ka] at h1
    rw [hj]
    simpa using h1
   simp only [kK,this]
  have ko:ops.toList.drop (j+1)=l:=by
   rw [<- yz,hd]
   rfl
  have fin:∀ (c:Nat) (dD:List Nat) (e':Env) (h':Heap),((dD.length=(ks++[c]).length+l.length/\kf T ops dD)/\∃ h1,Q e' h1/\∃ m',b<=m'/\h'={ h1 with low:=m' }) ->
   ((dD.length=ks.length+(o::l).length/\kf T ops dD)/\∃ h1,Q e' h1/\∃ m',b<=m'/\h'={ h1 with low:=m' }):=by
   intro c dD e' h' ⟨⟨h1,h2⟩,h3⟩
   refine ⟨⟨?_,h2⟩,h3⟩
   simp only [dx,dB,cW] at h1 ⊢
   omega
  have kz:∀ h1 h2:Heap,nV T o=true->iJ T o e h1 h2=0:=by
   intro h1 h2 hb
   unfold iJ
   rw [aG hb]
  simp only [bI,bF,oF] at hw ⊢
  split at hw
  .rename_i eY
   rw [aG eY]
   split at hw
   .rename_i hq
    have h0:=bU.quiet hq hw h.size
    refine bU.mono (λv h' ⟨he,hw⟩=>?_) h0
    subst he
    have hk:iJ T o e { h with low:=m } { h with low:=h.size } % 3≠2:=znF (aS _)
    refine bF.mono _ _ _ _ _ _ (λdD e' h' rf=>fin _ dD e' h' rf) (bI.vF l (j+1) (ks++[iJ T o e { h with low:=m } { h with low:=h.size }]) _ h (min m h.size) Q hb (by omega) (by simp [hj]) ko (ou.snoc (.inl hk) (λhb=>kz _ _ (jh ▸ hb))) hw)
   .refine bU.mono (λv h' ⟨⟨h1,h2,h3⟩,hw⟩=>?_) hw
    have hk:iJ T o e { h with low:=m } h' % 3≠2\/rJ T ops ks.length=true:=h1.imp (λh1=>znF h1) (λh1=>hj ▸ h1)
    exact bF.mono _ _ _ _ _ _ (λdD e' h' rf=>fin _ dD e' h' rf) (bI.vF l (j+1) (ks++[iJ T o e { h with low:=m } h']) _ h' (min m h'.low) Q (by omega) (by omega) (by simp [hj]) ko (ou.snoc hk (λhb=>kz _ _ (jh ▸ hb))) hw)
  .rename_i eY
   rw [aA eY]
   exact bF.mono _ _ _ _ _ _ (λdD e' h' rf=>fin 0 dD e' h' rf) (bI.vF l (j+1) (ks++[0]) _ h m Q hb hm (by simp [hj]) ko (ou.snoc (.inl (by decide)) (λ_=>rfl)) hw)

def Gf (b:Nat) (Q:Ex->Env->Heap->Prop):Env->Heap->Prop:=λe h1=>∀ m,b<=m->Q .normal e { h1 with low:=m }
theorem zyt {rd:Option Nat} {id:Nat} {ops:List Oper} (b:Nat) (hb:b<=h.size) (hl:b<=h.low) (ht:zI ⟨ops⟩ (kV ops [])=true) (hw:bI P T ov b ⟨ops⟩ ops 0 e h (Gf b Q)):W P T ov rd (.region id ⟨ops⟩ true) e h Q:=by
 simp only [W]
 have:=bI.vF (ops:=⟨ops⟩) ops 0 [] e h h.low (Gf b Q) hb hl rfl rfl ⟨λi hi=>by simp at hi,λi hi=>by simp at hi⟩ hw
 refine bF.mono _ _ _ _ _ _ (λdD e' h' hq=>?_) this
 obtain ⟨⟨h1,h2⟩,h3,h4,m',h5,rfl⟩:=hq
 have lZ:∀ i,i < (⟨ops⟩:Array Oper).size->i < dD.length:=λi hi=>by rw [h1];simpa using hi
 exact ⟨zsk ht (λi hi=>h2.ord i (lZ i hi)) (λi hi=>h2.blind i (lZ i hi)),h4 m' h5⟩
def wF (h0:Heap) (Q:Ex->Env->Heap->Prop):Env->Heap->Prop:=λe h1=>wo h0 h1->∀ h2,Ext h0 h2->Ext (h1.lay [] h2.low) h2->h2.size=h1.size->Q .normal e h2
theorem zys {rd:Option Nat} {id:Nat} {ops:List Oper} {h0:Heap} (z:Ext h0 h) (ht:zI ⟨ops⟩ (kV ops [])=true) (hw:bI P T ov (min h0.low h0.size) ⟨ops⟩ ops 0 e h λe' h1=>wo h0 h1/\wF h0 Q e' h1):W P T ov rd (.region id ⟨ops⟩ true) e h Q:=by
 refine zyt (min h0.low h0.size) (by have:=z.size;omega) z.low ht ?_
 have mono:∀ (l:List Oper) (j:Nat) (e:Env) (h:Heap) (Q Q':Env->Heap->Prop),(∀ e h,Q e h->Q' e h)->bI P T ov (min h0.low h0.size) ⟨ops⟩ l j e h Q->bI P T ov (min h0.low h0.size) ⟨ops⟩ l j e h Q':=by
  intro l
  induction l with
  |nil=>intro j e h Q Q' hq hw;exact hq _ _ hw
  |cons o l ih =>
   intro j e h Q Q' hq hw
   simp only [bI,oF] at hw ⊢
   split at hw
   .rename_i eY
    rw [aG eY]
    split at hw
    .rename_i Re
     rw [aG Re]
     exact bU.mono (λv h'=>ih _ _ _ _ _ hq) hw
    .rename_i Re
     rw [aA Re]
     exact bU.mono (λv h' ⟨h1,h2⟩=>⟨h1,ih _ _ _ _ _ hq h2⟩) hw
   .rename_i eY
    rw [aA eY]
    exact ih _ _ _ _ _ hq hw
 refine mono _ _ _ _ _ _ ?_ hw
 rintro e' h1 ⟨hi,hq⟩ m hm
 refine hq hi { h1 with low:=m } ⟨hi.size,hi.get,hm⟩ ⟨aS _,λ_ _=>rfl,?_⟩ rfl
 show min m h1.size<=m
 omega
end
section
variable (P:Program) (T:bx) (ov:Ov)
def MY (ops:Array Oper) (o:Oper) (l:List Oper) (d:Option Tmp) (e:Env) (h:Heap) (Q:Env->Heap->Prop) (b:Bool):Prop:=if b=true then bU P T ov o e h (sC P T ov ops l d Q e) else cM P T ov ops l (put e d undef) h Q
def JQ (b:Nat) (ops:Array Oper) (o:Oper) (l:List Oper) (j:Nat) (d:Option Tmp) (e:Env) (h:Heap) (Q:Env->Heap->Prop) (w q:Bool):Prop :=
 if w=true then (if q=true then bU P T ov o e h (Kp P T ov b ops l j d Q e h) else bU P T ov o e (h.lay [] h.size) (wh P T ov b ops l j d Q e h)) else bI P T ov b ops l (j+1) (put e d undef) h Q
end
section
variable {P:Program} {T:bx} {ov:Ov}
theorem zoW (ops:Array Oper) (o:Oper) (l:List Oper) (d:Option Tmp) (e:Env) (h:Heap) (Q:Env->Heap->Prop):MY P T ov ops o l d e h Q true=bU P T ov o e h (sC P T ov ops l d Q e):=rfl
theorem zmS (ops:Array Oper) (o:Oper) (l:List Oper) (d:Option Tmp) (e:Env) (h:Heap) (Q:Env->Heap->Prop):MY P T ov ops o l d e h Q false=cM P T ov ops l (put e d undef) h Q:=rfl
theorem zrV (ops:Array Oper) (o:Oper) (l:List Oper) (e:Env) (h:Heap) (Q:Env->Heap->Prop):cM P T ov ops (o::l) e h Q=MY P T ov ops o l o.dst e h Q (kU ops o e):=zmL _ _ _ _ _ _
theorem zli (b:Nat) (ops:Array Oper) (o:Oper) (l:List Oper) (j:Nat) (d:Option Tmp) (e:Env) (h:Heap) (Q:Env->Heap->Prop):JQ P T ov b ops o l j d e h Q true true=bU P T ov o e h (Kp P T ov b ops l j d Q e h):=rfl
theorem zmQ (b:Nat) (ops:Array Oper) (o:Oper) (l:List Oper) (j:Nat) (d:Option Tmp) (e:Env) (h:Heap) (Q:Env->Heap->Prop):JQ P T ov b ops o l j d e h Q true false=bU P T ov o e (h.lay [] h.size) (wh P T ov b ops l j d Q e h):=rfl
theorem zmR (b:Nat) (ops:Array Oper) (o:Oper) (l:List Oper) (j:Nat) (d:Option Tmp) (e:Env) (h:Heap) (Q:Env->Heap->Prop) (q:Bool):JQ P T ov b ops o l j d e h Q false q=bI P T ov b ops l (j+1) (put e d undef) h Q:=rfl
theorem zoV (b:Nat) (ops:Array Oper) (o:Oper) (l:List Oper) (j:Nat) (e:Env) (h:Heap) (Q:Env->Heap->Prop):bI P T ov b ops (o::l) j e h Q=JQ P T ov b ops o l j o.dst e h Q (kU ops o e) (dS o):=zrU _ _ _ _ _ _ _ _
end
theorem Nc {P:Program} {T:bx} {ov:Ov} {rd:Option Nat} (R:Env->Heap->Prop)
 (h1:W P T ov rd c e h λx e' h'=>x=.normal/\R e' h') (h2:∀ e' h',R e' h'->Q .normal e' h'):W P T ov rd c e h Q :=
 W.mono c _ _ _ _ (λx e' h' ⟨hx,hr⟩=>by subst hx;exact h2 e' h' hr) h1
theorem Cf {shape:(Nat->ai)->Env} (h:e=shape e.get):∃ J,e=shape J:=⟨_,h⟩
theorem Dx {shape:(Nat->ai)->Env} {p:(Nat->ai)->Prop} (h:e=shape e.get) (hp:p e.get):∃ J,e=shape J/\p J:=⟨_,h,hp⟩
theorem r6 {P:Program} {T:bx} {ov:Ov} {rd:Option Nat} {h1:Heap} {bs:List bc} {w:Nat} 
 (hk:∀ h2,Ext (h1.lay bs w) h2->(∀ (i:Nat) (b:bc),bs[i]? = some b->ak h2 (h1.size+i) b)->W P T ov rd c e h2 Q):W P T ov rd c e (h1.lay bs w) Q:=by
 refine hk _ (Ext.refl _) λi b hi=>?_
 have hl:=(fD.1 hi).1
 exact ⟨by rw [bo];omega,by rw [kM];exact hi⟩
def zZ (I:Nat->Env->Heap->Prop) (n:Nat) (Q:Ex->Env->Heap->Prop):Ex->Env->Heap->Prop
 | .normal,e',h'=>∃ m,m < n/\I m e' h'
 | .exit i,e',h'=>Q (.exit i) e' h'
 | .ret,e',h'=>Q .ret e' h'
section
variable {P:Program} {T:bx} {ov:Ov} {rd:Option Nat}
theorem zsM (I:Nat->Env->Heap->Prop) (n:Nat) (Q:Ex->Env->Heap->Prop) (i:Nat) (e':Env) (h':Heap):zZ I n Q (.exit i) e' h'=Q (.exit i) e' h':=rfl
theorem zu5 (I:Nat->Env->Heap->Prop) (n:Nat) (Q:Ex->Env->Heap->Prop) (e':Env) (h':Heap):zZ I n Q .ret e' h'=Q .ret e' h':=rfl
theorem cR {I:Nat->Env->Heap->Prop} {n m:Nat} {e':Env} (hm:m < n) (hi:I m e' h'):zZ I n Q .normal e' h':=⟨m,hm,hi⟩
theorem dV (I:Nat->Env->Heap->Prop) (n0:Nat) (h0:I n0 e h) (round:∀ n e h,I n e h->W P T ov rd c e h (zZ I n Q)):W P T ov rd (.loop c) e h Q:=by
 have key:∀ (k n:Nat) (e:Env) (h:Heap),n < k->I n e h->dv (W P T ov rd c) Q k e h:=by
  intro k
  induction k with
  |zero=>intro n e h hn;omega
  |succ k ih =>
   intro n e h hn hI
   simp only [dv]
   refine W.mono c _ _ _ _ ?_ (round n e h hI)
   intro x e' h'
   cases x with
   |normal=>rintro ⟨m,h1,h2⟩;exact ih m e' h' (by omega) h2
   |exit i=>exact λhh=>hh
   |ret=>exact λhh=>hh
 exact ⟨n0+1,key (n0+1) n0 e h (pP _) h0⟩
end
end Go.Am
