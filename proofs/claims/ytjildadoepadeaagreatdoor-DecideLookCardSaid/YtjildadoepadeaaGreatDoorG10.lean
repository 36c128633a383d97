/- Regions that draw their order, in which nothing that is there is turned. No condition. -/
import Derived.Test.YtjildadoepadeaaGreatDoorG4
import Derived.Test.YtjildadoepadeaaGreatDoorG5
set_option linter.unusedSimpArgs false
namespace Go.Am
variable {h h1:Heap} {w:Nat} {l:List bd}
section
variable (P:Program) (T:bm) (ov:Ov)
def aad (ops:Array Oper):List Oper->Env->Heap->(Env->Heap->Prop)->Prop
 | [],e,h,Q=>Q e h
 |o::l,e,h,Q=>mW (jG ops o e) (bL P T ov o e { h with low:=h.size } λv h'=>(mE T o=true\/h.size<=h'.low)/\aad ops l (put e o.dst v) { h' with low:=min h.low h'.low } Q) (aad ops l (put e o.dst undef) h Q)
end
section
variable {P:Program} {T:bm} {ov:Ov}
theorem ZD {o:Oper} {e:Env} {h':Heap} (hb:mE T o=true\/h.size<=h'.low):gI T o e h h' % 3≠2:=by
 unfold gI
 split
 .decide
 .rename_i DG
  rcases hb with hb|hb
  .exact (DG hb).elim
  .rw [aC hb]
   split
   .split <;> omega
   .omega
   .omega
theorem aad.sN {ops:Array Oper}:∀ (l:List Oper) (ks:List Nat) (e:Env) (h:Heap) (Q:Env->Heap->Prop),(∀ i,i < ks.length->ks.getD i 2 % 3≠2)->aad P T ov ops l e h Q ->
 bt P T ov ops l ks e h λdf e' h'=>(df.length=ks.length+l.length/\∀ i,i < df.length->df.getD i 2 % 3≠2)/\Q e' h'
 | [],ks,e,h,Q,od,hw=>⟨⟨rfl,od⟩,hw⟩
 |o::l,ks,e,h,Q,od,hw=>by
  have aav:∀ c:Nat,c % 3≠2->∀ i,i < (ks++[c]).length->(ks++[c]).getD i 2 % 3≠2:=by
   intro c hc i hi
   rw [hJ,zm] at hi
   by_cases aS:i < ks.length
   .have:=od i aS
    rw [wg] at this ⊢
    rw [kR aS]
    exact this
   .have:i=ks.length:=by omega
    subst this
    rw [wg,lS (by omega),Nat.sub_self]
    simpa using hc
  have fin:∀ (c:Nat) (Q':List Nat->Env->Heap->Prop) (df:List Nat) (e':Env) (h':Heap),(df.length=(ks++[c]).length+l.length/\∀ i,i < df.length->df.getD i 2 % 3≠2)/\Q e' h'->(df.length=ks.length+(o::l).length/\∀ i,i < df.length->df.getD i 2 % 3≠2)/\Q e' h':=by
   intro c Q' df e' h' ⟨⟨h1,h2⟩,h3⟩
   refine ⟨⟨?_,h2⟩,h3⟩
   simp only [hJ,nW,jb] at h1 ⊢
   omega
  simp only [aad,bt,mW] at hw ⊢
  split at hw
  .rename_i eV
   rw [aC eV]
   refine bL.mono (λv h' ⟨hb,hw⟩=>?_) hw
   refine bt.mono _ _ _ _ _ _ (λdf e' h' hq=>fin _ (λ_ _ _=>True) df e' h' hq) (aad.sN l (ks++[gI T o e h h']) _ _ Q (aav _ (ZD hb)) hw)
  .rename_i eV
   rw [ay eV]
   exact bt.mono _ _ _ _ _ _ (λdf e' h' hq=>fin 0 (λ_ _ _=>True) df e' h' hq) (aad.sN l (ks++[0]) _ _ Q (aav 0 (by decide)) hw)
theorem dy (h:Heap) (l m:List bd) (w v:Nat):(h.lay l w).lay m v=h.lay (l++m) v:=by
 simp only [Heap.lay,List.foldl_append]
 congr 1
 .simp only [HN]
 .have key:∀ (m:List bd) (a b:Heap),a.size=b.size->a.tr=b.tr->(m.foldl Heap.push a).tr=(m.foldl Heap.push b).tr:=by
   intro m
   induction m with
   |nil=>intro a b _ h2;exact h2
   |cons c m ih =>
    intro a b h1 h2
    rw [pL,pL]
    exact ih _ _ (by simp [Heap.push,h1]) (by simp [Heap.push,h1,h2])
  exact key m _ _ rfl rfl
theorem ep:(∀ (l:List bd) (w:Nat) (h:Heap),(h.lay l w).size=h.size+l.length)/\(∀ (a:bd) (l:List bd),(a::l).length=l.length+1)/\([]:List bd).length=0:=⟨λl w h=>cF h l w,λ_ _=>rfl,rfl⟩
end
theorem Ext.Em {h2:Heap} (z:Ext h h1) (x:Ext (h1.lay l w) h2) (hw:min h1.low h1.size<=w):Ext h h2:=(z.trans (NY _ _ _ hw)).trans x
theorem Ext.mO (z:Ext h h1) (l:List bd) (w:Nat) (hw:min h1.low h1.size<=w):Ext h (h1.lay l w):=z.trans (NY _ _ _ hw)
theorem Ext.ao (z:Ext h h1) (hw:min h1.low h1.size<=w:=by omega):Ext h (h1.lay l w):=z.mO l w hw
theorem Ext.aj {h2:Heap} (z:Ext h h1) (x:Ext (h1.lay l w) h2) (hw:min h1.low h1.size<=w:=by omega):Ext h h2:=z.Em x hw
end Go.Am
namespace Go.Am
variable {h h':Heap} {v:ai} {o:Oper} {e:Env} {d:Option Tmp} {b j:Nat} {l:List Oper} {ops:Array Oper} {Q:Ex->Env->Heap->Prop}
structure te (h h':Heap):Prop where
 size:h.size<=h'.size
 get:∀ A,A < h.size->h'.get A=h.get A
theorem Ext.eD (x:Ext h h'):te h h':=⟨x.size,x.get⟩
theorem te.lay {h h1:Heap} (g:te h h1) (l:List bd) (w:Nat):te h (h1.lay l w):=⟨by rw [cF];have:=g.size;omega,λA hA=>(uz h1 l w (eR hA g.size)).trans (g.get A hA)⟩
structure dz (h h':Heap):Prop where
 size:h.size<=h'.size
 get:∀ A,A < h.size->h.get A≠some .dead->h'.get A=h.get A
theorem dz.refl (h:Heap):dz h h:=⟨bg _,λ_ _ _=>rfl⟩
theorem dz.trans {a b c:Heap} (x:dz a b) (y:dz b c):dz a c:=⟨iG x.size y.size,λA hA hd=>by
 have h1:=x.get A hA hd
 exact (y.get A (eR hA x.size) (by rw [h1];exact hd)).trans h1⟩
theorem Ext.inc (x:Ext h h'):dz h h':=⟨x.size,λA hA _=>x.get A hA⟩
theorem dz.lay (h:Heap) (l:List bd) (w:Nat):dz h (h.lay l w):=⟨by rw [cF];omega,λA hA _=>uz h l w hA⟩
theorem dz.at (i:dz h h') {A:Nat} {cs:List ai} {u:TypeId} {ro:Bool} (hA:A < h.size) (hg:h.get A=some (.row cs u ro)):h'.get A=some (.row cs u ro):=(i.get A hA (by rw [hg];simp)).trans hg
theorem dz.nI {l:List bd} {w:Nat} (x:dz (h.lay l w) h'):dz h h':=(dz.lay h l w).trans x

def dB (o:Oper):Bool:=match o.op with
 | .move _ | .assign _ | .pick _ _ _ | .build _ _ | .load _ _ | .nilCheck _ | .binOp _ _ _ _ _ | .makeFunc _ _ _ | .slice _ _ _ _ _ | .fieldAddr _ _ _ | .field _ _ _ | .indexAddr _ _ _ | .extract _ _ | .unOp _ _ _ | .index _ _ _ | .lookup _ _ _ _=>true
 | .call c=>(match c.callee with
  | .builtin .len | .builtin .min | .builtin .max=>true
  |_=>false)
 |_=>false
def qg (T:bm) (ops:Array Oper) (j:Nat):Bool :=
 let ms:=jJ ops.toList []
 (List.range j).all (λi=>(ms.getD j 0).testBit i || jE T ops i) && (List.range ops.size).all λi => !decide (j < i) || ((ms.getD i 0).testBit j || jE T ops i)

section
variable {P:Program} {T:bm} {C:Fn->List ai->Heap->Option (ai × Heap)}
theorem zqI (hb:dB o=true) (ab:fp P T C e o h=some (v,h')):h'=h/\∀ w,fp P T C e o { h with low:=w }=some (v,{ h with low:=w }):=by
 have bV:∀ {r:Option ai},(r.map λx=>(x,h))=some (v,h')->h'=h/\∀ h2:Heap,(r.map λx=>(x,h2))=some (v,h2):=by
  intro r hr
  simp only [bS,cd] at hr
  obtain ⟨_,rfl,rfl,rfl⟩:=hr
  exact ⟨rfl,λ_=>rfl⟩
 have cQ:eP P e o h=some (v,h')->h'=h/\∀ h2,eP P e o h2=some (v,h2):=by
  intro hp
  unfold eP at hp ⊢
  split at hp
  .rename_i h1
   split at hp
   .rename_i h2
    split at hp
    .rename_i h3
     cases hp
     exact ⟨rfl,λ_=>by simp [h1,h3]⟩
    .cases hp
   .cases hp
  .cases hp
 obtain ⟨dst,op,ty,pos,after,guard⟩:=o
 cases op <;> simp only [dB,fb] at hb <;> simp only [fp] at ab ⊢
 case move x=>cases ab;exact ⟨rfl,λ_=>rfl⟩
 case assign x=>cases ab;exact ⟨rfl,λ_=>rfl⟩
 case pick c a b =>
  split at ab
  .cases ab;exact ⟨rfl,λ_=>rfl⟩
  .cases ab
 case build=>obtain ⟨a,b⟩:=bV ab;exact ⟨a,λw=>b _⟩
 case load =>
  obtain ⟨a,b⟩:=bV ab
  exact ⟨a,λw=>b _⟩
 case lookup =>
  obtain ⟨a,b⟩:=bV ab
  exact ⟨a,λw=>b _⟩
 case nilCheck x =>
  split at ab
  .cases ab;exact ⟨rfl,λ_=>rfl⟩
  .cases ab;exact ⟨rfl,λ_=>rfl⟩
  .cases ab;exact ⟨rfl,λ_=>rfl⟩
  .cases ab
 case binOp=>obtain ⟨a,b⟩:=bV ab;exact ⟨a,λw=>b _⟩
 case makeFunc fn f c =>
  split at ab
  .cases ab;exact ⟨rfl,λ_=>rfl⟩
  .cases ab
 case slice=>obtain ⟨a,b⟩:=bV ab;exact ⟨a,λw=>b _⟩
 case fieldAddr=>obtain ⟨a,b⟩:=bV ab;exact ⟨a,λw=>b _⟩
 case field=>obtain ⟨a,b⟩:=bV ab;exact ⟨a,λw=>b _⟩
 case indexAddr=>obtain ⟨a,b⟩:=bV ab;exact ⟨a,λw=>b _⟩
 case extract t i =>
  split at ab
  .obtain ⟨a,b⟩:=bV ab;exact ⟨a,λw=>b _⟩
  .cases ab
 case unOp=>obtain ⟨a,b⟩:=cQ ab;exact ⟨a,λw=>b _⟩
 case index=>obtain ⟨a,b⟩:=cQ ab;exact ⟨a,λw=>b _⟩
 case call c =>
  obtain ⟨callee,args,fc⟩:=c
  cases callee with
  |value f=>simp at hb
  |invoke r m=>simp at hb
  |builtin b =>
   cases b <;> simp at hb <;> simp only at ab ⊢
   case len =>
    split at ab
    .obtain ⟨a,b⟩:=bV ab;exact ⟨a,λw=>b _⟩
    .cases ab
   case min=>obtain ⟨a,b⟩:=cQ ab;exact ⟨a,λw=>b _⟩
   case max=>obtain ⟨a,b⟩:=cQ ab;exact ⟨a,λw=>b _⟩
end

section
variable (P:Program) (T:bm) (ov:Ov)
def bF (b:Nat) (ops:Array Oper):List Oper->Nat->Env->Heap->(Env->Heap->Prop)->Prop
 | [],_,e,h,Q=>Q e h
 |o::l,j,e,h,Q=>mW (jG ops o e)
    (if dB o=true then bL P T ov o e h λv _=>bF b ops l (j+1) (put e o.dst v) h Q
     else bL P T ov o e { h with low:=h.size } λv h'=>((h.size<=h'.low\/qg T ops j=true)/\b<=h'.low/\h.size<=h'.size)/\bF b ops l (j+1) (put e o.dst v) h' Q)
    (bF b ops l (j+1) (put e o.dst undef) h Q)
def GM (b:Nat) (ops:Array Oper) (l:List Oper) (j:Nat) (d:Option Tmp) (Q:Env->Heap->Prop) (e:Env) (h:Heap):aF:=λv _=>Hid (bF P T ov b ops l (j+1) (put e d v) h Q)
def wy (b:Nat) (ops:Array Oper) (l:List Oper) (j:Nat) (d:Option Tmp) (Q:Env->Heap->Prop) (e:Env) (h:Heap):aF :=
 λv h'=>Hid (((h.size<=h'.low\/qg T ops j=true)/\b<=h'.low/\h.size<=h'.size)/\bF P T ov b ops l (j+1) (put e d v) h' Q)
def GG (b:Nat) (ops:Array Oper) (o:Oper) (l:List Oper) (j:Nat) (e:Env) (h:Heap) (Q:Env->Heap->Prop) (w q:Bool):Prop :=
 if w=true then (if q=true then bL P T ov o e h (GM P T ov b ops l j o.dst Q e h) else bL P T ov o e (h.lay [] h.size) (wy P T ov b ops l j o.dst Q e h)) else bF P T ov b ops l (j+1) (put e o.dst undef) h Q
end
section
variable {P:Program} {T:bm} {ov:Ov}
theorem zrp (b:Nat) (ops:Array Oper) (j:Nat) (e:Env) (h:Heap) (Q:Env->Heap->Prop):bF P T ov b ops [] j e h Q=Q e h:=rfl
theorem zpv (b:Nat) (ops:Array Oper) (o:Oper) (l:List Oper) (j:Nat) (e:Env) (h:Heap) (Q:Env->Heap->Prop):bF P T ov b ops (o::l) j e h Q=GG P T ov b ops o l j e h Q (jG ops o e) (dB o):=by
 simp only [bF,mW,GG]
 split
 .split
  .exact propext ⟨bL.mono λ_ _ hw=>⟨hw⟩,bL.mono λ_ _ hw=>hw.out⟩
  .exact propext ⟨bL.mono λ_ _ hw=>⟨hw⟩,bL.mono λ_ _ hw=>hw.out⟩
 .rfl
theorem Zw (b:Nat) (ops:Array Oper) (o:Oper) (l:List Oper) (j:Nat) (e:Env) (h:Heap) (Q:Env->Heap->Prop):GG P T ov b ops o l j e h Q true true=bL P T ov o e h (GM P T ov b ops l j o.dst Q e h):=rfl
theorem Z9 (b:Nat) (ops:Array Oper) (o:Oper) (l:List Oper) (j:Nat) (e:Env) (h:Heap) (Q:Env->Heap->Prop):GG P T ov b ops o l j e h Q true false=bL P T ov o e (h.lay [] h.size) (wy P T ov b ops l j o.dst Q e h):=rfl
theorem zog (b:Nat) (ops:Array Oper) (o:Oper) (l:List Oper) (j:Nat) (e:Env) (h:Heap) (Q:Env->Heap->Prop) (q:Bool):GG P T ov b ops o l j e h Q false q=bF P T ov b ops l (j+1) (put e o.dst undef) h Q:=rfl
theorem zrm (b:Nat) (ops:Array Oper) (l:List Oper) (j:Nat) (d:Option Tmp) (Q:Env->Heap->Prop) (e:Env) (h:Heap) (v:ai) (h':Heap):GM P T ov b ops l j d Q e h v h'=bF P T ov b ops l (j+1) (put e d v) h Q:=Oz _
theorem eu {Q:Env->Heap->Prop} (hb:b<=h.size) (x:Ext (h.lay [] h.size) h') (hk:bF P T ov b ops l (j+1) (put e d v) h' Q):wy P T ov b ops l j d Q e h v h':=by
 have h1:=x.low
 have h2:=x.size
 rw [Iw,cF] at h1
 rw [cF] at h2
 simp only [jb,iN] at h1 h2
 exact ⟨⟨⟨.inl (by omega),by omega,by omega⟩,hk⟩⟩
structure gL (A:Nat) (h h':Heap):Prop where
 size:h.size<=h'.size
 get:∀ B,B < h.size->B≠A->h'.get B=h.get B
 low:min (min h.low h.size) A<=h'.low
theorem rY {A:Nat} {Q:Env->Heap->Prop} (ho:qg T ops j=true) (hb:b<=h.size) (hA:b<=A) (x:gL A (h.lay [] h.size) h') (hk:bF P T ov b ops l (j+1) (put e d v) h' Q):wy P T ov b ops l j d Q e h v h':=by
 have h1:=x.low
 have h2:=x.size
 rw [Iw,cF] at h1
 rw [cF] at h2
 simp only [jb,iN] at h1 h2
 exact ⟨⟨⟨.inr ho,by omega,by omega⟩,hk⟩⟩
theorem R2 {Q:Env->Heap->Prop} (ho:qg T ops j=true) (hb:b<=h'.low) (hs:h.size<=h'.size) (hk:bF P T ov b ops l (j+1) (put e d v) h' Q):wy P T ov b ops l j d Q e h v h' :=
 ⟨⟨⟨.inr ho,hb,hs⟩,hk⟩⟩

theorem zpV {ks:List Nat} (h1:vX ops (jJ ops.toList [])=true) (h2:∀ i,i < ops.size->ks.getD i 2 % 3≠2\/qg T ops i=true) (h3:∀ i,i < ops.size->jE T ops i=true->ks.getD i 2=0):zb ops ks (jJ ops.toList [])=true:=by
 unfold zb
 rw [fD]
 intro j hj
 have zW:j < ops.size:=mZ.1 hj
 unfold vX at h1
 have h1:=fD.1 h1 j hj
 unfold AP
 split
 .rename_i oj mj
  rw [mj] at h1
  simp only [cY] at h1 ⊢
  refine ⟨h1.1,?_⟩
  rw [fD]
  intro i hi
  have gj:i < j:=mZ.1 hi
  have h4:=fD.1 h1.2 i hi
  cases ht:((jJ ops.toList []).getD j 0).testBit i with
  |true=>rfl
  |false =>
   rw [ht] at h4
   simp only [zB] at h4 ⊢
   split at h4
   .rename_i oi tR
    rw [tR]
    simp only
    rw [cY]
    refine ⟨h4,?_⟩
    have key:∀ x y:Nat,x % 3≠2->y % 3≠2->ke x y=true:=by
     intro x y h5 h6
     unfold ke
     simp [h5,h6]
    have W6:qg T ops i=true->ke (ks.getD i 2) (ks.getD j 2)=true:=by
     intro hm
     unfold qg at hm
     simp only [cY,fD,mZ] at hm
     have:=hm.2 j zW
     rw [ht] at this
     simp only [gj,decide_true,Bool.not_true,zB] at this
     rw [h3 j zW this]
     simp [ke]
    have W7:qg T ops j=true->ke (ks.getD i 2) (ks.getD j 2)=true:=by
     intro hm
     unfold qg at hm
     simp only [cY,fD,mZ] at hm
     have:=hm.1 i gj
     rw [ht] at this
     simp only [zB] at this
     rw [h3 i (by omega) this]
     simp [ke]
    rcases h2 i (by omega) with h5|h5
    .rcases h2 j zW with h6|h6
     .exact key _ _ h5 h6
     .exact W7 h6
    .exact W6 h5
   .rename_i tR;rw [tR]
 .rfl
theorem Tf (hb:h.size<=h'.low):gI T o e h h' % 3≠2:=ZD (.inr hb)

theorem bL.quiet {K:aF} (hq:dB o=true) (hw:bL P T ov o e h K) (w:Nat):bL P T ov o e { h with low:=w } λv h'=>h'={ h with low:=w }/\K v h:=by
 have pW:Iv o=false:=by
  obtain ⟨dst,op,ty,pos,after,guard⟩:=o
  cases op <;> first|rfl|skip
  rename_i c
  obtain ⟨callee,args,fc⟩:=c
  cases callee <;> first|rfl|simp [dB] at hq
 rw [ztj pW] at hw ⊢
 unfold cK at hw ⊢
 split at hw
 .rename_i v h' ab
  obtain ⟨rfl,h2⟩:=zqI hq ab
  rw [h2 w]
  exact ⟨rfl,hw⟩
 .exact hw.elim

structure jd (T:bm) (ops:Array Oper) (ks:List Nat):Prop where
 ord:∀ i,i < ks.length->ks.getD i 2 % 3≠2\/qg T ops i=true
 blind:∀ i,i < ks.length->jE T ops i=true->ks.getD i 2=0
theorem jd.snoc {ks:List Nat} {c:Nat} (hk:jd T ops ks) (h1:c % 3≠2\/qg T ops ks.length=true) (h2:jE T ops ks.length=true->c=0):jd T ops (ks++[c]):=by
 have get:∀ i,i < (ks++[c]).length->(i < ks.length/\(ks++[c]).getD i 2=ks.getD i 2)\/(i=ks.length/\(ks++[c]).getD i 2=c):=by
  intro i hi
  rw [hJ,zm] at hi
  by_cases aS:i < ks.length
  .refine .inl ⟨aS,?_⟩
   rw [wg,wg,kR aS]
  .have:i=ks.length:=by omega
   subst this
   refine .inr ⟨rfl,?_⟩
   rw [wg,lS (by omega),Nat.sub_self]
   rfl
 constructor
 .intro i hi
  rcases get i hi with ⟨g1,g2⟩|⟨g1,g2⟩
  .rw [g2];exact hk.ord i g1
  .rw [g2,g1];exact h1
 .intro i hi hb
  rcases get i hi with ⟨g1,g2⟩|⟨g1,g2⟩
  .rw [g2];exact hk.blind i g1 hb
  .rw [g2];rw [g1] at hb;exact h2 hb
theorem bF.sN {ops:Array Oper} {b:Nat}:∀ (l:List Oper) (j:Nat) (ks:List Nat) (e:Env) (h:Heap) (m:Nat) (Q:Env->Heap->Prop),b<=h.size->b<=m->ks.length=j->ops.toList.drop j=l->jd T ops ks->bF P T ov b ops l j e h Q ->
 bt P T ov ops l ks e { h with low:=m } λdf e' h'=>(df.length=ks.length+l.length/\jd T ops df)/\∃ h1,Q e' h1/\∃ m',b<=m'/\h'={ h1 with low:=m' }
 | [],j,ks,e,h,m,Q,hb,hm,hj,hd,od,hw=>⟨⟨rfl,od⟩,h,hw,m,hm,rfl⟩
 |o::l,j,ks,e,h,m,Q,hb,hm,hj,hd,od,hw=>by
  have j6:jE T ops ks.length=mE T o:=by
   have:ops[ks.length]? = some o:=by
    have h1:(ops.toList.drop j)[0]? = some o:=by rw [hd];rfl
    rw [ja] at h1
    rw [hj]
    simpa using h1
   simp only [jE,this]
  have iI:ops.toList.drop (j+1)=l:=by
   rw [<- zr,hd]
   rfl
  have fin:∀ (c:Nat) (df:List Nat) (e':Env) (h':Heap),((df.length=(ks++[c]).length+l.length/\jd T ops df)/\∃ h1,Q e' h1/\∃ m',b<=m'/\h'={ h1 with low:=m' }) ->
   ((df.length=ks.length+(o::l).length/\jd T ops df)/\∃ h1,Q e' h1/\∃ m',b<=m'/\h'={ h1 with low:=m' }):=by
   intro c df e' h' ⟨⟨h1,h2⟩,h3⟩
   refine ⟨⟨?_,h2⟩,h3⟩
   simp only [hJ,nW,jb] at h1 ⊢
   omega
  have kz:∀ h1 h2:Heap,mE T o=true->gI T o e h1 h2=0:=by
   intro h1 h2 hb
   unfold gI
   rw [aC hb]
  simp only [bF,bt,mW] at hw ⊢
  split at hw
  .rename_i eV
   rw [aC eV]
   split at hw
   .rename_i hq
    have h0:=bL.quiet hq hw h.size
    refine bL.mono (λv h' ⟨he,hw⟩=>?_) h0
    subst he
    have hk:gI T o e { h with low:=m } { h with low:=h.size } % 3≠2:=Tf (bg _)
    refine bt.mono _ _ _ _ _ _ (λdf e' h' oZ=>fin _ df e' h' oZ) (bF.sN l (j+1) (ks++[gI T o e { h with low:=m } { h with low:=h.size }]) _ h (min m h.size) Q hb (by omega) (by simp [hj]) iI (od.snoc (.inl hk) (λhb=>kz _ _ (j6 ▸ hb))) hw)
   .refine bL.mono (λv h' ⟨⟨h1,h2,h3⟩,hw⟩=>?_) hw
    have hk:gI T o e { h with low:=m } h' % 3≠2\/qg T ops ks.length=true:=h1.imp (λh1=>Tf h1) (λh1=>hj ▸ h1)
    exact bt.mono _ _ _ _ _ _ (λdf e' h' oZ=>fin _ df e' h' oZ) (bF.sN l (j+1) (ks++[gI T o e { h with low:=m } h']) _ h' (min m h'.low) Q (by omega) (by omega) (by simp [hj]) iI (od.snoc hk (λhb=>kz _ _ (j6 ▸ hb))) hw)
  .rename_i eV
   rw [ay eV]
   exact bt.mono _ _ _ _ _ _ (λdf e' h' oZ=>fin 0 df e' h' oZ) (bF.sN l (j+1) (ks++[0]) _ h m Q hb hm (by simp [hj]) iI (od.snoc (.inl (by decide)) (λ_=>rfl)) hw)

def CU (b:Nat) (Q:Ex->Env->Heap->Prop):Env->Heap->Prop:=λe h1=>∀ m,b<=m->Q .normal e { h1 with low:=m }
theorem zvh {rd:Option Nat} {id:Nat} {ops:List Oper} (b:Nat) (hb:b<=h.size) (hl:b<=h.low) (ht:vX ⟨ops⟩ (jJ ops [])=true) (hw:bF P T ov b ⟨ops⟩ ops 0 e h (CU b Q)):W P T ov rd (.region id ⟨ops⟩ true) e h Q:=by
 simp only [W]
 have:=bF.sN (ops:=⟨ops⟩) ops 0 [] e h h.low (CU b Q) hb hl rfl rfl ⟨λi hi=>by simp at hi,λi hi=>by simp at hi⟩ hw
 refine bt.mono _ _ _ _ _ _ (λdf e' h' hq=>?_) this
 obtain ⟨⟨h1,h2⟩,h3,h4,m',h5,rfl⟩:=hq
 have kH:∀ i,i < (⟨ops⟩:Array Oper).size->i < df.length:=λi hi=>by rw [h1];simpa using hi
 exact ⟨zpV ht (λi hi=>h2.ord i (kH i hi)) (λi hi=>h2.blind i (kH i hi)),h4 m' h5⟩
def tA (h0:Heap) (Q:Ex->Env->Heap->Prop):Env->Heap->Prop:=λe h1=>te h0 h1->∀ h2,Ext h0 h2->Ext (h1.lay [] h2.low) h2->h2.size=h1.size->Q .normal e h2
theorem zvg {rd:Option Nat} {id:Nat} {ops:List Oper} {h0:Heap} (z:Ext h0 h) (ht:vX ⟨ops⟩ (jJ ops [])=true) (hw:bF P T ov (min h0.low h0.size) ⟨ops⟩ ops 0 e h λe' h1=>te h0 h1/\tA h0 Q e' h1):W P T ov rd (.region id ⟨ops⟩ true) e h Q:=by
 refine zvh (min h0.low h0.size) (by have:=z.size;omega) z.low ht ?_
 have mono:∀ (l:List Oper) (j:Nat) (e:Env) (h:Heap) (Q Q':Env->Heap->Prop),(∀ e h,Q e h->Q' e h)->bF P T ov (min h0.low h0.size) ⟨ops⟩ l j e h Q->bF P T ov (min h0.low h0.size) ⟨ops⟩ l j e h Q':=by
  intro l
  induction l with
  |nil=>intro j e h Q Q' hq hw;exact hq _ _ hw
  |cons o l ih =>
   intro j e h Q Q' hq hw
   simp only [bF,mW] at hw ⊢
   split at hw
   .rename_i eV
    rw [aC eV]
    split at hw
    .rename_i LO
     rw [aC LO]
     exact bL.mono (λv h'=>ih _ _ _ _ _ hq) hw
    .rename_i LO
     rw [ay LO]
     exact bL.mono (λv h' ⟨h1,h2⟩=>⟨h1,ih _ _ _ _ _ hq h2⟩) hw
   .rename_i eV
    rw [ay eV]
    exact ih _ _ _ _ _ hq hw
 refine mono _ _ _ _ _ _ ?_ hw
 rintro e' h1 ⟨hi,hq⟩ m hm
 refine hq hi { h1 with low:=m } ⟨hi.size,hi.get,hm⟩ ⟨bg _,λ_ _=>rfl,?_⟩ rfl
 show min m h1.size<=m
 omega
end
section
variable (P:Program) (T:bm) (ov:Ov)
def ID (ops:Array Oper) (o:Oper) (l:List Oper) (d:Option Tmp) (e:Env) (h:Heap) (Q:Env->Heap->Prop) (b:Bool):Prop:=if b=true then bL P T ov o e h (aah P T ov ops l d Q e) else cm P T ov ops l (put e d undef) h Q
def Gd (b:Nat) (ops:Array Oper) (o:Oper) (l:List Oper) (j:Nat) (d:Option Tmp) (e:Env) (h:Heap) (Q:Env->Heap->Prop) (w q:Bool):Prop :=
 if w=true then (if q=true then bL P T ov o e h (GM P T ov b ops l j d Q e h) else bL P T ov o e (h.lay [] h.size) (wy P T ov b ops l j d Q e h)) else bF P T ov b ops l (j+1) (put e d undef) h Q
end
section
variable {P:Program} {T:bm} {ov:Ov}
theorem Zk (ops:Array Oper) (o:Oper) (l:List Oper) (d:Option Tmp) (e:Env) (h:Heap) (Q:Env->Heap->Prop):ID P T ov ops o l d e h Q true=bL P T ov o e h (aah P T ov ops l d Q e):=rfl
theorem Y1 (ops:Array Oper) (o:Oper) (l:List Oper) (d:Option Tmp) (e:Env) (h:Heap) (Q:Env->Heap->Prop):ID P T ov ops o l d e h Q false=cm P T ov ops l (put e d undef) h Q:=rfl
theorem zpw (ops:Array Oper) (o:Oper) (l:List Oper) (e:Env) (h:Heap) (Q:Env->Heap->Prop):cm P T ov ops (o::l) e h Q=ID P T ov ops o l o.dst e h Q (jG ops o e):=S4 _ _ _ _ _ _
theorem Yu (b:Nat) (ops:Array Oper) (o:Oper) (l:List Oper) (j:Nat) (d:Option Tmp) (e:Env) (h:Heap) (Q:Env->Heap->Prop):Gd P T ov b ops o l j d e h Q true true=bL P T ov o e h (GM P T ov b ops l j d Q e h):=rfl
theorem YC (b:Nat) (ops:Array Oper) (o:Oper) (l:List Oper) (j:Nat) (d:Option Tmp) (e:Env) (h:Heap) (Q:Env->Heap->Prop):Gd P T ov b ops o l j d e h Q true false=bL P T ov o e (h.lay [] h.size) (wy P T ov b ops l j d Q e h):=rfl
theorem Y0 (b:Nat) (ops:Array Oper) (o:Oper) (l:List Oper) (j:Nat) (d:Option Tmp) (e:Env) (h:Heap) (Q:Env->Heap->Prop) (q:Bool):Gd P T ov b ops o l j d e h Q false q=bF P T ov b ops l (j+1) (put e d undef) h Q:=rfl
theorem Zj (b:Nat) (ops:Array Oper) (o:Oper) (l:List Oper) (j:Nat) (e:Env) (h:Heap) (Q:Env->Heap->Prop):bF P T ov b ops (o::l) j e h Q=Gd P T ov b ops o l j o.dst e h Q (jG ops o e) (dB o):=zpv _ _ _ _ _ _ _ _
end
theorem W2 {shape:(Nat->ai)->Env} (h:e=shape e.get):∃ J,e=shape J:=⟨_,h⟩
theorem ko {P:Program} {T:bm} {ov:Ov} {rd:Option Nat} {c:Code} {h1:Heap} {bs:List bd} {w:Nat} 
 (hk:∀ h2,Ext (h1.lay bs w) h2->(∀ (i:Nat) (b:bd),bs[i]? = some b->Holds h2 (h1.size+i) b)->W P T ov rd c e h2 Q):W P T ov rd c e (h1.lay bs w) Q:=by
 refine hk _ (Ext.refl _) λi b hi=>?_
 have hl:=(fB.1 hi).1
 exact ⟨by rw [cF];omega,by rw [iL];exact hi⟩
def Bm (I:Nat->Env->Heap->Prop) (n:Nat) (Q:Ex->Env->Heap->Prop):Ex->Env->Heap->Prop
 | .normal,e',h'=>∃ m,m < n/\I m e' h'
 | .exit i,e',h'=>Q (.exit i) e' h'
 | .ret,e',h'=>Q .ret e' h'
section
variable {P:Program} {T:bm} {ov:Ov} {rd:Option Nat}
theorem zqf (I:Nat->Env->Heap->Prop) (n:Nat) (Q:Ex->Env->Heap->Prop) (i:Nat) (e':Env) (h':Heap):Bm I n Q (.exit i) e' h'=Q (.exit i) e' h':=rfl
theorem zsi (I:Nat->Env->Heap->Prop) (n:Nat) (Q:Ex->Env->Heap->Prop) (e':Env) (h':Heap):Bm I n Q .ret e' h'=Q .ret e' h':=rfl
theorem db {I:Nat->Env->Heap->Prop} {n m:Nat} {e':Env} (hm:m < n) (hi:I m e' h'):Bm I n Q .normal e' h':=⟨m,hm,hi⟩
theorem dK {c:Code} (I:Nat->Env->Heap->Prop) (n0:Nat) (h0:I n0 e h) (round:∀ n e h,I n e h->W P T ov rd c e h (Bm I n Q)):W P T ov rd (.loop c) e h Q:=by
 have key:∀ (k n:Nat) (e:Env) (h:Heap),n < k->I n e h->cV (W P T ov rd c) Q k e h:=by
  intro k
  induction k with
  |zero=>intro n e h hn;omega
  |succ k ih =>
   intro n e h hn hI
   simp only [cV]
   refine W.mono c _ _ _ _ ?_ (round n e h hI)
   intro x e' h'
   cases x with
   |normal=>rintro ⟨m,h1,h2⟩;exact ih m e' h' (by omega) h2
   |exit i=>exact λhh=>hh
   |ret=>exact λhh=>hh
 exact ⟨n0+1,key (n0+1) n0 e h (su _) h0⟩
end
end Go.Am
