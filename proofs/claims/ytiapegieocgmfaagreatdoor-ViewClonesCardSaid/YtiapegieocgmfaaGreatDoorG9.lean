/- Regions that draw their order, in which nothing that is there is turned. No condition. -/
import Derived.Test.YtiapegieocgmfaaGreatDoorG4
set_option linter.unusedSimpArgs false
namespace Go.Am
variable {h h1:Heap} {w:Nat} {l:List ba}
section
variable (P:Program) (T:bI) (ov:Ov)
def nj (ops:Array Oper):List Oper->Env->Heap->(Env->Heap->Prop)->Prop
 | [],e,h,Q=>Q e h
 |o::l,e,h,Q=>rQ (nR ops o e) (cS P T ov o e { h with low:=h.size } λv h'=>(tH T o=true\/h.size<=h'.low)/\nj ops l (put e o.dst v) { h' with low:=min h.low h'.low } Q) (nj ops l (put e o.dst undef) h Q)
end
section
variable {P:Program} {T:bI} {ov:Ov}
theorem zjg {o:Oper} {e:Env} {h':Heap} (hb:tH T o=true\/h.size<=h'.low):mu T o e h h' % 3≠2:=by
 unfold mu
 split
 .decide
 .rename_i Yd
  rcases hb with hb|hb
  .exact (Yd hb).elim
  .rw [aE hb]
   split
   .split <;> omega
   .omega
   .omega
theorem nj.Hc {ops:Array Oper}:∀ (l:List Oper) (ks:List Nat) (e:Env) (h:Heap) (Q:Env->Heap->Prop),(∀ i,i < ks.length->ks.getD i 2 % 3≠2)->nj P T ov ops l e h Q ->
 cF P T ov ops l ks e h λeU e' h'=>(eU.length=ks.length+l.length/\∀ i,i < eU.length->eU.getD i 2 % 3≠2)/\Q e' h'
 | [],ks,e,h,Q,yz,hw=>⟨⟨rfl,yz⟩,hw⟩
 |o::l,ks,e,h,Q,yz,hw=>by
  have M0:∀ c:Nat,c % 3≠2->∀ i,i < (ks++[c]).length->(ks++[c]).getD i 2 % 3≠2:=by
   intro c hc i hi
   rw [dy,zK] at hi
   by_cases aT:i < ks.length
   .have:=yz i aT
    rw [lB] at this ⊢
    rw [nc aT]
    exact this
   .have:i=ks.length:=by omega
    subst this
    rw [lB,qu (by omega),EF]
    simpa using hc
  have fin:∀ (c:Nat) (Q':List Nat->Env->Heap->Prop) (eU:List Nat) (e':Env) (h':Heap),(eU.length=(ks++[c]).length+l.length/\∀ i,i < eU.length->eU.getD i 2 % 3≠2)/\Q e' h'->(eU.length=ks.length+(o::l).length/\∀ i,i < eU.length->eU.getD i 2 % 3≠2)/\Q e' h':=by
   intro c Q' eU e' h' ⟨⟨h1,h2⟩,h3⟩
   refine ⟨⟨?_,h2⟩,h3⟩
   simp only [dy,dn,dN] at h1 ⊢
   omega
  simp only [nj,cF,rQ] at hw ⊢
  split at hw
  .rename_i gW
   rw [aE gW]
   refine cS.mono (λv h' ⟨hb,hw⟩=>?_) hw
   refine cF.mono _ _ _ _ _ _ (λeU e' h' hq=>fin _ (λ_ _ _=>True) eU e' h' hq) (nj.Hc l (ks++[mu T o e h h']) _ _ Q (M0 _ (zjg hb)) hw)
  .rename_i gW
   rw [az gW]
   exact cF.mono _ _ _ _ _ _ (λeU e' h' hq=>fin 0 (λ_ _ _=>True) eU e' h' hq) (nj.Hc l (ks++[0]) _ _ Q (M0 0 (by decide)) hw)
theorem bM (h:Heap) (l m:List ba) (w v:Nat):(h.lay l w).lay m v=h.lay (l++m) v:=by
 simp only [Heap.lay,List.foldl_append]
 congr 1
 .simp only [Tc]
 .have key:∀ (m:List ba) (a b:Heap),a.size=b.size->a.tr=b.tr->(m.foldl Heap.push a).tr=(m.foldl Heap.push b).tr:=by
   intro m
   induction m with
   |nil=>intro a b _ h2;exact h2
   |cons c m ih =>
    intro a b h1 h2
    rw [uM,uM]
    exact ih _ _ (by simp [Heap.push,h1]) (by simp [Heap.push,h1,h2])
  exact key m _ _ rfl rfl
theorem ck:(∀ (l:List ba) (w:Nat) (h:Heap),(h.lay l w).size=h.size+l.length)/\(∀ (a:ba) (l:List ba),(a::l).length=l.length+1)/\([]:List ba).length=0:=⟨λl w h=>bc h l w,λ_ _=>rfl,rfl⟩
theorem oN:(∀ (h:Heap) (l m:List ba) (w v:Nat),(h.lay l w).lay m v=h.lay (l++m) v)/\(∀ (l:List ba) (w:Nat) (h:Heap),(h.lay l w).size=h.size+l.length)/\(∀ l:List ba,l++[]=l)/\(∀ (a:ba) (l:List ba),(a::l).length=l.length+1)/\([]:List ba).length=0/\∀ n:Nat,n+0=n :=
 ⟨bM,λl w h=>bc h l w,bu,λ_ _=>rfl,rfl,iU⟩
end
theorem Ext.ec {h2:Heap} (z:Ext h h1) (x:Ext (h1.lay l w) h2) (hw:min h1.low h1.size<=w):Ext h h2:=(z.trans (TT _ _ _ hw)).trans x
theorem Ext.kN (z:Ext h h1) (l:List ba) (w:Nat) (hw:min h1.low h1.size<=w):Ext h (h1.lay l w):=z.trans (TT _ _ _ hw)
theorem Ext.aA (z:Ext h h1) (hw:min h1.low h1.size<=w:=by omega):Ext h (h1.lay l w):=z.kN l w hw
theorem Ext.an {h2:Heap} (z:Ext h h1) (x:Ext (h1.lay l w) h2) (hw:min h1.low h1.size<=w:=by omega):Ext h h2:=z.ec x hw
end Go.Am
namespace Go.Am
variable {h h':Heap} {v:ab} {o:Oper} {e:Env} {d:Option Tmp} {b j:Nat} {l:List Oper} {ops:Array Oper} {Q:Ex->Env->Heap->Prop} {c:Code}
structure rT (h h':Heap):Prop where
 size:h.size<=h'.size
 get:∀ A,A < h.size->h'.get A=h.get A
theorem Ext.cn (x:Ext h h'):rT h h':=⟨x.size,x.get⟩
theorem rT.lay {h h1:Heap} (g:rT h h1) (l:List ba) (w:Nat):rT h (h1.lay l w):=⟨by rw [bc];have:=g.size;omega,λA hA=>(uz h1 l w (dB hA g.size)).trans (g.get A hA)⟩
structure bL (h h':Heap):Prop where
 size:h.size<=h'.size
 get:∀ A,A < h.size->h.get A≠some .dead->h'.get A=h.get A
theorem bL.refl (h:Heap):bL h h:=⟨bj _,λ_ _ _=>rfl⟩
theorem bL.trans {a b c:Heap} (x:bL a b) (y:bL b c):bL a c:=⟨gn x.size y.size,λA hA hd=>by
 have h1:=x.get A hA hd
 exact (y.get A (dB hA x.size) (by rw [h1];exact hd)).trans h1⟩
theorem Ext.inc (x:Ext h h'):bL h h':=⟨x.size,λA hA _=>x.get A hA⟩
theorem bL.lay (h:Heap) (l:List ba) (w:Nat):bL h (h.lay l w):=⟨by rw [bc];omega,λA hA _=>uz h l w hA⟩
theorem bL.at (i:bL h h') {A:Nat} {cs:List ab} {u:TypeId} {ro:Bool} (hA:A < h.size) (hg:h.get A=some (.row cs u ro)):h'.get A=some (.row cs u ro):=(i.get A hA (by rw [hg];simp)).trans hg
theorem bL.kJ {l:List ba} {w:Nat} (x:bL (h.lay l w) h'):bL h h':=(bL.lay h l w).trans x

def iP (o:Oper):Bool:=match o.op with
 | .move _ | .assign _ | .pick _ _ _ | .build _ _ | .load _ _ | .nilCheck _ | .binOp _ _ _ _ _ | .makeFunc _ _ _ | .slice _ _ _ _ _ | .fieldAddr _ _ _ | .field _ _ _ | .indexAddr _ _ _ | .extract _ _ | .unOp _ _ _ | .index _ _ _ | .lookup _ _ _ _=>true
 | .call c=>(match c.callee with
  | .builtin .len | .builtin .min | .builtin .max=>true
  |_=>false)
 |_=>false
def xo (T:bI) (ops:Array Oper) (j:Nat):Bool :=
 let ms:=pA ops.toList []
 (List.range j).all (λi=>(ms.getD j 0).testBit i || Hz T ops i) && (List.range ops.size).all λi => !decide (j < i) || ((ms.getD i 0).testBit j || Hz T ops i)

section
variable {P:Program} {T:bI} {C:Fn->List ab->Heap->Option (ab × Heap)}
theorem zuw (hb:iP o=true) (aj:gL P T C e o h=some (v,h')):h'=h/\∀ w,gL P T C e o { h with low:=w }=some (v,{ h with low:=w }):=by
 have cQ:∀ {r:Option ab},(r.map λx=>(x,h))=some (v,h')->h'=h/\∀ h2:Heap,(r.map λx=>(x,h2))=some (v,h2):=by
  intro r hr
  simp only [cA,cV] at hr
  obtain ⟨_,rfl,rfl,rfl⟩:=hr
  exact ⟨rfl,λ_=>rfl⟩
 have eb:i7 P e o h=some (v,h')->h'=h/\∀ h2,i7 P e o h2=some (v,h2):=by
  intro hp
  unfold i7 at hp ⊢
  split at hp
  .rename_i h1
   split at hp
   .rename_i h2
    split at hp
    .rename_i h3
     cases hp
     exact ⟨rfl,λ_=>by simp [h1,h3]⟩
    .cases hp
   .cases hp
  .cases hp
 obtain ⟨dst,op,ty,pos,after,guard⟩:=o
 cases op <;> simp only [iP,gM] at hb <;> simp only [gL] at aj ⊢
 case move x=>cases aj;exact ⟨rfl,λ_=>rfl⟩
 case assign x=>cases aj;exact ⟨rfl,λ_=>rfl⟩
 case pick c a b =>
  split at aj
  .cases aj;exact ⟨rfl,λ_=>rfl⟩
  .cases aj
 case build=>obtain ⟨a,b⟩:=cQ aj;exact ⟨a,λw=>b _⟩
 case load =>
  obtain ⟨a,b⟩:=cQ aj
  exact ⟨a,λw=>b _⟩
 case lookup =>
  obtain ⟨a,b⟩:=cQ aj
  exact ⟨a,λw=>b _⟩
 case nilCheck x =>
  split at aj
  .cases aj;exact ⟨rfl,λ_=>rfl⟩
  .cases aj;exact ⟨rfl,λ_=>rfl⟩
  .cases aj;exact ⟨rfl,λ_=>rfl⟩
  .cases aj
 case binOp=>obtain ⟨a,b⟩:=cQ aj;exact ⟨a,λw=>b _⟩
 case makeFunc fn f c =>
  split at aj
  .cases aj;exact ⟨rfl,λ_=>rfl⟩
  .cases aj
 case slice=>obtain ⟨a,b⟩:=cQ aj;exact ⟨a,λw=>b _⟩
 case fieldAddr=>obtain ⟨a,b⟩:=cQ aj;exact ⟨a,λw=>b _⟩
 case field=>obtain ⟨a,b⟩:=cQ aj;exact ⟨a,λw=>b _⟩
 case indexAddr=>obtain ⟨a,b⟩:=cQ aj;exact ⟨a,λw=>b _⟩
 case extract t i =>
  split at aj
  .obtain ⟨a,b⟩:=cQ aj;exact ⟨a,λw=>b _⟩
  .cases aj
 case unOp=>obtain ⟨a,b⟩:=eb aj;exact ⟨a,λw=>b _⟩
 case index=>obtain ⟨a,b⟩:=eb aj;exact ⟨a,λw=>b _⟩
 case call c =>
  obtain ⟨callee,args,ats⟩:=c
  cases callee with
  |value f=>simp at hb
  |invoke r m=>simp at hb
  |builtin b =>
   cases b <;> simp at hb <;> simp only at aj ⊢
   case len =>
    split at aj
    .obtain ⟨a,b⟩:=cQ aj;exact ⟨a,λw=>b _⟩
    .cases aj
   case min=>obtain ⟨a,b⟩:=eb aj;exact ⟨a,λw=>b _⟩
   case max=>obtain ⟨a,b⟩:=eb aj;exact ⟨a,λw=>b _⟩
end

section
variable (P:Program) (T:bI) (ov:Ov)
def cx (b:Nat) (ops:Array Oper):List Oper->Nat->Env->Heap->(Env->Heap->Prop)->Prop
 | [],_,e,h,Q=>Q e h
 |o::l,j,e,h,Q=>rQ (nR ops o e)
    (if iP o=true then cS P T ov o e h λv _=>cx b ops l (j+1) (put e o.dst v) h Q
     else cS P T ov o e { h with low:=h.size } λv h'=>((h.size<=h'.low\/xo T ops j=true)/\b<=h'.low/\h.size<=h'.size)/\cx b ops l (j+1) (put e o.dst v) h' Q)
    (cx b ops l (j+1) (put e o.dst undef) h Q)
def Rq (b:Nat) (ops:Array Oper) (l:List Oper) (j:Nat) (d:Option Tmp) (Q:Env->Heap->Prop) (e:Env) (h:Heap):aF:=λv _=>Hid (cx P T ov b ops l (j+1) (put e d v) h Q)
def CM (b:Nat) (ops:Array Oper) (l:List Oper) (j:Nat) (d:Option Tmp) (Q:Env->Heap->Prop) (e:Env) (h:Heap):aF :=
 λv h'=>Hid (((h.size<=h'.low\/xo T ops j=true)/\b<=h'.low/\h.size<=h'.size)/\cx P T ov b ops l (j+1) (put e d v) h' Q)
def Re (b:Nat) (ops:Array Oper) (o:Oper) (l:List Oper) (j:Nat) (e:Env) (h:Heap) (Q:Env->Heap->Prop) (w q:Bool):Prop :=
 if w=true then (if q=true then cS P T ov o e h (Rq P T ov b ops l j o.dst Q e h) else cS P T ov o e (h.lay [] h.size) (CM P T ov b ops l j o.dst Q e h)) else cx P T ov b ops l (j+1) (put e o.dst undef) h Q
end
section
variable {P:Program} {T:bI} {ov:Ov}
theorem zvq (b:Nat) (ops:Array Oper) (j:Nat) (e:Env) (h:Heap) (Q:Env->Heap->Prop):cx P T ov b ops [] j e h Q=Q e h:=rfl
theorem ztg (b:Nat) (ops:Array Oper) (o:Oper) (l:List Oper) (j:Nat) (e:Env) (h:Heap) (Q:Env->Heap->Prop):cx P T ov b ops (o::l) j e h Q=Re P T ov b ops o l j e h Q (nR ops o e) (iP o):=by
 simp only [cx,rQ,Re]
 split
 .split
  .exact propext ⟨cS.mono λ_ _ hw=>⟨hw⟩,cS.mono λ_ _ hw=>hw.out⟩
  .exact propext ⟨cS.mono λ_ _ hw=>⟨hw⟩,cS.mono λ_ _ hw=>hw.out⟩
 .rfl
theorem zpK (b:Nat) (ops:Array Oper) (o:Oper) (l:List Oper) (j:Nat) (e:Env) (h:Heap) (Q:Env->Heap->Prop):Re P T ov b ops o l j e h Q true true=cS P T ov o e h (Rq P T ov b ops l j o.dst Q e h):=rfl
theorem zrx (b:Nat) (ops:Array Oper) (o:Oper) (l:List Oper) (j:Nat) (e:Env) (h:Heap) (Q:Env->Heap->Prop):Re P T ov b ops o l j e h Q true false=cS P T ov o e (h.lay [] h.size) (CM P T ov b ops l j o.dst Q e h):=rfl
theorem zry (b:Nat) (ops:Array Oper) (o:Oper) (l:List Oper) (j:Nat) (e:Env) (h:Heap) (Q:Env->Heap->Prop) (q:Bool):Re P T ov b ops o l j e h Q false q=cx P T ov b ops l (j+1) (put e o.dst undef) h Q:=rfl
theorem zvn (b:Nat) (ops:Array Oper) (l:List Oper) (j:Nat) (d:Option Tmp) (Q:Env->Heap->Prop) (e:Env) (h:Heap) (v:ab) (h':Heap):Rq P T ov b ops l j d Q e h v h'=cx P T ov b ops l (j+1) (put e d v) h Q:=zz5 _
theorem cU {Q:Env->Heap->Prop} (hb:b<=h.size) (x:Ext (h.lay [] h.size) h') (hk:cx P T ov b ops l (j+1) (put e d v) h' Q):CM P T ov b ops l j d Q e h v h':=by
 have h1:=x.low
 have h2:=x.size
 rw [zqY,bc] at h1
 rw [bc] at h2
 simp only [dN,iU] at h1 h2
 exact ⟨⟨⟨.inl (by omega),by omega,by omega⟩,hk⟩⟩
structure eG (A:Nat) (h h':Heap):Prop where
 size:h.size<=h'.size
 get:∀ B,B < h.size->B≠A->h'.get B=h.get B
 low:min (min h.low h.size) A<=h'.low
theorem og {A:Nat} {Q:Env->Heap->Prop} (ho:xo T ops j=true) (hb:b<=h.size) (hA:b<=A) (x:eG A (h.lay [] h.size) h') (hk:cx P T ov b ops l (j+1) (put e d v) h' Q):CM P T ov b ops l j d Q e h v h':=by
 have h1:=x.low
 have h2:=x.size
 rw [zqY,bc] at h1
 rw [bc] at h2
 simp only [dN,iU] at h1 h2
 exact ⟨⟨⟨.inr ho,by omega,by omega⟩,hk⟩⟩
theorem vT {Q:Env->Heap->Prop} (ho:xo T ops j=true) (hb:b<=h'.low) (hs:h.size<=h'.size) (hk:cx P T ov b ops l (j+1) (put e d v) h' Q):CM P T ov b ops l j d Q e h v h' :=
 ⟨⟨⟨.inr ho,hb,hs⟩,hk⟩⟩

theorem ztC {ks:List Nat} (h1:Jn ops (pA ops.toList [])=true) (h2:∀ i,i < ops.size->ks.getD i 2 % 3≠2\/xo T ops i=true) (h3:∀ i,i < ops.size->Hz T ops i=true->ks.getD i 2=0):T2 ops ks (pA ops.toList [])=true:=by
 unfold T2
 rw [iT]
 intro j hj
 have Sf:j < ops.size:=zN.1 hj
 unfold Jn at h1
 have h1:=iT.1 h1 j hj
 unfold QE
 split
 .rename_i oj qC
  rw [qC] at h1
  simp only [ep] at h1 ⊢
  refine ⟨h1.1,?_⟩
  rw [iT]
  intro i hi
  have dK:i < j:=zN.1 hi
  have h4:=iT.1 h1.2 i hi
  cases ht:((pA ops.toList []).getD j 0).testBit i with
  |true=>rfl
  |false =>
   rw [ht] at h4
   simp only [Bool.false_or] at h4 ⊢
   split at h4
   .rename_i oi Nk
    rw [Nk]
    simp only
    rw [ep]
    refine ⟨h4,?_⟩
    have key:∀ x y:Nat,x % 3≠2->y % 3≠2->uv x y=true:=by
     intro x y h5 h6
     unfold uv
     simp [h5,h6]
    have no1:xo T ops i=true->uv (ks.getD i 2) (ks.getD j 2)=true:=by
     intro hm
     unfold xo at hm
     simp only [ep,iT,zN] at hm
     have:=hm.2 j Sf
     rw [ht] at this
     simp only [dK,decide_true,fQ,Bool.false_or] at this
     rw [h3 j Sf this]
     simp [uv]
    have no2:xo T ops j=true->uv (ks.getD i 2) (ks.getD j 2)=true:=by
     intro hm
     unfold xo at hm
     simp only [ep,iT,zN] at hm
     have:=hm.1 i dK
     rw [ht] at this
     simp only [Bool.false_or] at this
     rw [h3 i (by omega) this]
     simp [uv]
    rcases h2 i (by omega) with h5|h5
    .rcases h2 j Sf with h6|h6
     .exact key _ _ h5 h6
     .exact no2 h6
    .exact no1 h5
   .rename_i Nk;rw [Nk]
 .rfl
theorem zoP (hb:h.size<=h'.low):mu T o e h h' % 3≠2:=zjg (.inr hb)

theorem cS.quiet {K:aF} (hq:iP o=true) (hw:cS P T ov o e h K) (w:Nat):cS P T ov o e { h with low:=w } λv h'=>h'={ h with low:=w }/\K v h:=by
 have pn:QK o=false:=by
  obtain ⟨dst,op,ty,pos,after,guard⟩:=o
  cases op <;> first|rfl|skip
  rename_i c
  obtain ⟨callee,args,ats⟩:=c
  cases callee <;> first|rfl|simp [iP] at hq
 rw [zr0 pn] at hw ⊢
 unfold dD at hw ⊢
 split at hw
 .rename_i v h' aj
  obtain ⟨rfl,h2⟩:=zuw hq aj
  rw [h2 w]
  exact ⟨rfl,hw⟩
 .exact hw.elim

structure nh (T:bI) (ops:Array Oper) (ks:List Nat):Prop where
 ord:∀ i,i < ks.length->ks.getD i 2 % 3≠2\/xo T ops i=true
 blind:∀ i,i < ks.length->Hz T ops i=true->ks.getD i 2=0
theorem nh.snoc {ks:List Nat} {c:Nat} (hk:nh T ops ks) (h1:c % 3≠2\/xo T ops ks.length=true) (h2:Hz T ops ks.length=true->c=0):nh T ops (ks++[c]):=by
 have get:∀ i,i < (ks++[c]).length->(i < ks.length/\(ks++[c]).getD i 2=ks.getD i 2)\/(i=ks.length/\(ks++[c]).getD i 2=c):=by
  intro i hi
  rw [dy,zK] at hi
  by_cases aT:i < ks.length
  .refine .inl ⟨aT,?_⟩
   rw [lB,lB,nc aT]
  .have:i=ks.length:=by omega
   subst this
   refine .inr ⟨rfl,?_⟩
   rw [lB,qu (by omega),EF]
   rfl
 constructor
 .intro i hi
  rcases get i hi with ⟨g1,g2⟩|⟨g1,g2⟩
  .rw [g2];exact hk.ord i g1
  .rw [g2,g1];exact h1
 .intro i hi hb
  rcases get i hi with ⟨g1,g2⟩|⟨g1,g2⟩
  .rw [g2];exact hk.blind i g1 hb
  .rw [g2];rw [g1] at hb;exact h2 hb
theorem cx.Hc {ops:Array Oper} {b:Nat}:∀ (l:List Oper) (j:Nat) (ks:List Nat) (e:Env) (h:Heap) (m:Nat) (Q:Env->Heap->Prop),b<=h.size->b<=m->ks.length=j->ops.toList.drop j=l->nh T ops ks->cx P T ov b ops l j e h Q ->
 cF P T ov ops l ks e { h with low:=m } λeU e' h'=>(eU.length=ks.length+l.length/\nh T ops eU)/\∃ h1,Q e' h1/\∃ m',b<=m'/\h'={ h1 with low:=m' }
 | [],j,ks,e,h,m,Q,hb,hm,hj,hd,yz,hw=>⟨⟨rfl,yz⟩,h,hw,m,hm,rfl⟩
 |o::l,j,ks,e,h,m,Q,hb,hm,hj,hd,yz,hw=>by
  have wH:Hz T ops ks.length=tH T o:=by
   have:ops[ks.length]? = some o:=by
    have h1:(ops.toList.drop j)[0]? = some o:=by rw [hd];rfl
    rw [lL] at h1
    rw [hj]
    simpa using h1
   simp only [Hz,this]
  have oE:ops.toList.drop (j+1)=l:=by
   rw [<- H6,hd]
   rfl
  have fin:∀ (c:Nat) (eU:List Nat) (e':Env) (h':Heap),((eU.length=(ks++[c]).length+l.length/\nh T ops eU)/\∃ h1,Q e' h1/\∃ m',b<=m'/\h'={ h1 with low:=m' }) ->
   ((eU.length=ks.length+(o::l).length/\nh T ops eU)/\∃ h1,Q e' h1/\∃ m',b<=m'/\h'={ h1 with low:=m' }):=by
   intro c eU e' h' ⟨⟨h1,h2⟩,h3⟩
   refine ⟨⟨?_,h2⟩,h3⟩
   simp only [dy,dn,dN] at h1 ⊢
   omega
  have kz:∀ h1 h2:Heap,tH T o=true->mu T o e h1 h2=0:=by
   intro h1 h2 hb
   unfold mu
   rw [aE hb]
  simp only [cx,cF,rQ] at hw ⊢
  split at hw
  .rename_i gW
   rw [aE gW]
   split at hw
   .rename_i hq
    have h0:=cS.quiet hq hw h.size
    refine cS.mono (λv h' ⟨he,hw⟩=>?_) h0
    subst he
    have hk:mu T o e { h with low:=m } { h with low:=h.size } % 3≠2:=zoP (bj _)
    refine cF.mono _ _ _ _ _ _ (λeU e' h' Nr=>fin _ eU e' h' Nr) (cx.Hc l (j+1) (ks++[mu T o e { h with low:=m } { h with low:=h.size }]) _ h (min m h.size) Q hb (by omega) (by simp [hj]) oE (yz.snoc (.inl hk) (λhb=>kz _ _ (wH ▸ hb))) hw)
   .refine cS.mono (λv h' ⟨⟨h1,h2,h3⟩,hw⟩=>?_) hw
    have hk:mu T o e { h with low:=m } h' % 3≠2\/xo T ops ks.length=true:=h1.imp (λh1=>zoP h1) (λh1=>hj ▸ h1)
    exact cF.mono _ _ _ _ _ _ (λeU e' h' Nr=>fin _ eU e' h' Nr) (cx.Hc l (j+1) (ks++[mu T o e { h with low:=m } h']) _ h' (min m h'.low) Q (by omega) (by omega) (by simp [hj]) oE (yz.snoc hk (λhb=>kz _ _ (wH ▸ hb))) hw)
  .rename_i gW
   rw [az gW]
   exact cF.mono _ _ _ _ _ _ (λeU e' h' Nr=>fin 0 eU e' h' Nr) (cx.Hc l (j+1) (ks++[0]) _ h m Q hb hm (by simp [hj]) oE (yz.snoc (.inl (by decide)) (λ_=>rfl)) hw)

def LW (b:Nat) (Q:Ex->Env->Heap->Prop):Env->Heap->Prop:=λe h1=>∀ m,b<=m->Q .normal e { h1 with low:=m }
theorem zAm {rd:Option Nat} {id:Nat} {ops:List Oper} (b:Nat) (hb:b<=h.size) (hl:b<=h.low) (ht:Jn ⟨ops⟩ (pA ops [])=true) (hw:cx P T ov b ⟨ops⟩ ops 0 e h (LW b Q)):W P T ov rd (.region id ⟨ops⟩ true) e h Q:=by
 simp only [W]
 have:=cx.Hc (ops:=⟨ops⟩) ops 0 [] e h h.low (LW b Q) hb hl rfl rfl ⟨λi hi=>by simp at hi,λi hi=>by simp at hi⟩ hw
 refine cF.mono _ _ _ _ _ _ (λeU e' h' hq=>?_) this
 obtain ⟨⟨h1,h2⟩,h3,h4,m',h5,rfl⟩:=hq
 have iE:∀ i,i < (⟨ops⟩:Array Oper).size->i < eU.length:=λi hi=>by rw [h1];simpa using hi
 exact ⟨ztC ht (λi hi=>h2.ord i (iE i hi)) (λi hi=>h2.blind i (iE i hi)),h4 m' h5⟩
def LX (h0:Heap) (Q:Ex->Env->Heap->Prop):Env->Heap->Prop:=λe h1=>rT h0 h1->∀ h2,Ext h0 h2->Ext (h1.lay [] h2.low) h2->h2.size=h1.size->Q .normal e h2
theorem zAl {rd:Option Nat} {id:Nat} {ops:List Oper} {h0:Heap} (z:Ext h0 h) (ht:Jn ⟨ops⟩ (pA ops [])=true) (hw:cx P T ov (min h0.low h0.size) ⟨ops⟩ ops 0 e h λe' h1=>rT h0 h1/\LX h0 Q e' h1):W P T ov rd (.region id ⟨ops⟩ true) e h Q:=by
 refine zAm (min h0.low h0.size) (by have:=z.size;omega) z.low ht ?_
 have mono:∀ (l:List Oper) (j:Nat) (e:Env) (h:Heap) (Q Q':Env->Heap->Prop),(∀ e h,Q e h->Q' e h)->cx P T ov (min h0.low h0.size) ⟨ops⟩ l j e h Q->cx P T ov (min h0.low h0.size) ⟨ops⟩ l j e h Q':=by
  intro l
  induction l with
  |nil=>intro j e h Q Q' hq hw;exact hq _ _ hw
  |cons o l ih =>
   intro j e h Q Q' hq hw
   simp only [cx,rQ] at hw ⊢
   split at hw
   .rename_i gW
    rw [aE gW]
    split at hw
    .rename_i Yn
     rw [aE Yn]
     exact cS.mono (λv h'=>ih _ _ _ _ _ hq) hw
    .rename_i Yn
     rw [az Yn]
     exact cS.mono (λv h' ⟨h1,h2⟩=>⟨h1,ih _ _ _ _ _ hq h2⟩) hw
   .rename_i gW
    rw [az gW]
    exact ih _ _ _ _ _ hq hw
 refine mono _ _ _ _ _ _ ?_ hw
 rintro e' h1 ⟨hi,hq⟩ m hm
 refine hq hi { h1 with low:=m } ⟨hi.size,hi.get,hm⟩ ⟨bj _,λ_ _=>rfl,?_⟩ rfl
 show min m h1.size<=m
 omega
end
section
variable (P:Program) (T:bI) (ov:Ov)
def TX (ops:Array Oper) (o:Oper) (l:List Oper) (d:Option Tmp) (e:Env) (h:Heap) (Q:Env->Heap->Prop) (b:Bool):Prop:=if b=true then cS P T ov o e h (xD P T ov ops l d Q e) else de P T ov ops l (put e d undef) h Q
def Qy (b:Nat) (ops:Array Oper) (o:Oper) (l:List Oper) (j:Nat) (d:Option Tmp) (e:Env) (h:Heap) (Q:Env->Heap->Prop) (w q:Bool):Prop :=
 if w=true then (if q=true then cS P T ov o e h (Rq P T ov b ops l j d Q e h) else cS P T ov o e (h.lay [] h.size) (CM P T ov b ops l j d Q e h)) else cx P T ov b ops l (j+1) (put e d undef) h Q
end
section
variable {P:Program} {T:bI} {ov:Ov}
theorem zqm (ops:Array Oper) (o:Oper) (l:List Oper) (d:Option Tmp) (e:Env) (h:Heap) (Q:Env->Heap->Prop):TX P T ov ops o l d e h Q true=cS P T ov o e h (xD P T ov ops l d Q e):=rfl
theorem znY (ops:Array Oper) (o:Oper) (l:List Oper) (d:Option Tmp) (e:Env) (h:Heap) (Q:Env->Heap->Prop):TX P T ov ops o l d e h Q false=de P T ov ops l (put e d undef) h Q:=rfl
theorem zth (ops:Array Oper) (o:Oper) (l:List Oper) (e:Env) (h:Heap) (Q:Env->Heap->Prop):de P T ov ops (o::l) e h Q=TX P T ov ops o l o.dst e h Q (nR ops o e):=znV _ _ _ _ _ _
theorem zmk (b:Nat) (ops:Array Oper) (o:Oper) (l:List Oper) (j:Nat) (d:Option Tmp) (e:Env) (h:Heap) (Q:Env->Heap->Prop):Qy P T ov b ops o l j d e h Q true true=cS P T ov o e h (Rq P T ov b ops l j d Q e h):=rfl
theorem znW (b:Nat) (ops:Array Oper) (o:Oper) (l:List Oper) (j:Nat) (d:Option Tmp) (e:Env) (h:Heap) (Q:Env->Heap->Prop):Qy P T ov b ops o l j d e h Q true false=cS P T ov o e (h.lay [] h.size) (CM P T ov b ops l j d Q e h):=rfl
theorem znX (b:Nat) (ops:Array Oper) (o:Oper) (l:List Oper) (j:Nat) (d:Option Tmp) (e:Env) (h:Heap) (Q:Env->Heap->Prop) (q:Bool):Qy P T ov b ops o l j d e h Q false q=cx P T ov b ops l (j+1) (put e d undef) h Q:=rfl
theorem zql (b:Nat) (ops:Array Oper) (o:Oper) (l:List Oper) (j:Nat) (e:Env) (h:Heap) (Q:Env->Heap->Prop):cx P T ov b ops (o::l) j e h Q=Qy P T ov b ops o l j o.dst e h Q (nR ops o e) (iP o):=ztg _ _ _ _ _ _ _ _
end
theorem Z1 {P:Program} {T:bI} {ov:Ov} {rd:Option Nat} (R:Env->Heap->Prop)
 (h1:W P T ov rd c e h λx e' h'=>x=.normal/\R e' h') (h2:∀ e' h',R e' h'->Q .normal e' h'):W P T ov rd c e h Q :=
 W.mono c _ _ _ _ (λx e' h' ⟨hx,hr⟩=>by subst hx;exact h2 e' h' hr) h1
theorem oM {shape:(Nat->ab)->Env} (h:e=shape e.get):∃ J,e=shape J:=⟨_,h⟩
theorem Rv {shape:(Nat->ab)->Env} {p:(Nat->ab)->Prop} (h:e=shape e.get) (hp:p e.get):∃ J,e=shape J/\p J:=⟨_,h,hp⟩
theorem na {P:Program} {T:bI} {ov:Ov} {rd:Option Nat} {h1:Heap} {bs:List ba} {w:Nat} 
 (hk:∀ h2,Ext (h1.lay bs w) h2->(∀ (i:Nat) (b:ba),bs[i]? = some b->Holds h2 (h1.size+i) b)->W P T ov rd c e h2 Q):W P T ov rd c e (h1.lay bs w) Q:=by
 refine hk _ (Ext.refl _) λi b hi=>?_
 have hl:=(dP.1 hi).1
 exact ⟨by rw [bc];omega,by rw [iB];exact hi⟩
def J0 (I:Nat->Env->Heap->Prop) (n:Nat) (Q:Ex->Env->Heap->Prop):Ex->Env->Heap->Prop
 | .normal,e',h'=>∃ m,m < n/\I m e' h'
 | .exit i,e',h'=>Q (.exit i) e' h'
 | .ret,e',h'=>Q .ret e' h'
section
variable {P:Program} {T:bI} {ov:Ov} {rd:Option Nat}
theorem ztW (I:Nat->Env->Heap->Prop) (n:Nat) (Q:Ex->Env->Heap->Prop) (i:Nat) (e':Env) (h':Heap):J0 I n Q (.exit i) e' h'=Q (.exit i) e' h':=rfl
theorem zwr (I:Nat->Env->Heap->Prop) (n:Nat) (Q:Ex->Env->Heap->Prop) (e':Env) (h':Heap):J0 I n Q .ret e' h'=Q .ret e' h':=rfl
theorem cy {I:Nat->Env->Heap->Prop} {n m:Nat} {e':Env} (hm:m < n) (hi:I m e' h'):J0 I n Q .normal e' h':=⟨m,hm,hi⟩
theorem dA (I:Nat->Env->Heap->Prop) (n0:Nat) (h0:I n0 e h) (round:∀ n e h,I n e h->W P T ov rd c e h (J0 I n Q)):W P T ov rd (.loop c) e h Q:=by
 have key:∀ (k n:Nat) (e:Env) (h:Heap),n < k->I n e h->ej (W P T ov rd c) Q k e h:=by
  intro k
  induction k with
  |zero=>intro n e h hn;omega
  |succ k ih =>
   intro n e h hn hI
   simp only [ej]
   refine W.mono c _ _ _ _ ?_ (round n e h hI)
   intro x e' h'
   cases x with
   |normal=>rintro ⟨m,h1,h2⟩;exact ih m e' h' (by omega) h2
   |exit i=>exact λhh=>hh
   |ret=>exact λhh=>hh
 exact ⟨n0+1,key (n0+1) n0 e h (wt _) h0⟩
end
end Go.Am
