/- Regions that draw their order, in which nothing that is there is turned. No condition. -/
import Derived.Test.YtmamldleclamjaaGreatDoorG4
set_option linter.unusedSimpArgs false
namespace Go.Am
variable {h h1:Heap} {w:Nat} {l:List ba}
section
variable (P:Program) (T:bO) (ov:Ov)
def mS (ops:Array Oper):List Oper->Env->Heap->(Env->Heap->Prop)->Prop
 | [],e,h,Q=>Q e h
 |o::l,e,h,Q=>rC (nx ops o e) (cS P T ov o e { h with low:=h.size } λv h'=>(tB T o=true\/h.size<=h'.low)/\mS ops l (put e o.dst v) { h' with low:=min h.low h'.low } Q) (mS ops l (put e o.dst undef) h Q)
end
section
variable {P:Program} {T:bO} {ov:Ov}
theorem zjL {o:Oper} {e:Env} {h':Heap} (hb:tB T o=true\/h.size<=h'.low):mb T o e h h' % 3≠2:=by
 unfold mb
 split
 .decide
 .rename_i hnb
  rcases hb with hb|hb
  .exact (hnb hb).elim
  .rw [aB hb]
   split
   .split <;> omega
   .omega
   .omega
theorem mS.GF {ops:Array Oper}:∀ (l:List Oper) (ks:List Nat) (e:Env) (h:Heap) (Q:Env->Heap->Prop),(∀ i,i < ks.length->ks.getD i 2 % 3≠2)->mS P T ov ops l e h Q ->
 cB P T ov ops l ks e h λeU e' h'=>(eU.length=ks.length+l.length/\∀ i,i < eU.length->eU.getD i 2 % 3≠2)/\Q e' h'
 | [],ks,e,h,Q,xX,hw=>⟨⟨rfl,xX⟩,hw⟩
 |o::l,ks,e,h,Q,xX,hw=>by
  have MG:∀ c:Nat,c % 3≠2->∀ i,i < (ks++[c]).length->(ks++[c]).getD i 2 % 3≠2:=by
   intro c hc i hi
   rw [dI,v8] at hi
   by_cases aW:i < ks.length
   .have:=xX i aW
    rw [lq] at this ⊢
    rw [nz aW]
    exact this
   .have:i=ks.length:=by omega
    subst this
    rw [lq,qC (by omega),Nat.sub_self]
    simpa using hc
  have fin:∀ (c:Nat) (Q':List Nat->Env->Heap->Prop) (eU:List Nat) (e':Env) (h':Heap),(eU.length=(ks++[c]).length+l.length/\∀ i,i < eU.length->eU.getD i 2 % 3≠2)/\Q e' h'->(eU.length=ks.length+(o::l).length/\∀ i,i < eU.length->eU.getD i 2 % 3≠2)/\Q e' h':=by
   intro c Q' eU e' h' ⟨⟨h1,h2⟩,h3⟩
   refine ⟨⟨?_,h2⟩,h3⟩
   simp only [dI,dY,dK] at h1 ⊢
   omega
  simp only [mS,cB,rC] at hw ⊢
  split at hw
  .rename_i gW
   rw [aB gW]
   refine cS.mono (λv h' ⟨hb,hw⟩=>?_) hw
   refine cB.mono _ _ _ _ _ _ (λeU e' h' hq=>fin _ (λ_ _ _=>True) eU e' h' hq) (mS.GF l (ks++[mb T o e h h']) _ _ Q (MG _ (zjL hb)) hw)
  .rename_i gW
   rw [aA gW]
   exact cB.mono _ _ _ _ _ _ (λeU e' h' hq=>fin 0 (λ_ _ _=>True) eU e' h' hq) (mS.GF l (ks++[0]) _ _ Q (MG 0 (by decide)) hw)
theorem b9 (h:Heap) (l m:List ba) (w v:Nat):(h.lay l w).lay m v=h.lay (l++m) v:=by
 simp only [Heap.lay,List.foldl_append]
 congr 1
 .simp only [SI]
 .have key:∀ (m:List ba) (a b:Heap),a.size=b.size->a.tr=b.tr->(m.foldl Heap.push a).tr=(m.foldl Heap.push b).tr:=by
   intro m
   induction m with
   |nil=>intro a b _ h2;exact h2
   |cons c m ih =>
    intro a b h1 h2
    rw [uG,uG]
    exact ih _ _ (by simp [Heap.push,h1]) (by simp [Heap.push,h1,h2])
  exact key m _ _ rfl rfl
theorem cV:(∀ (l:List ba) (w:Nat) (h:Heap),(h.lay l w).size=h.size+l.length)/\(∀ (a:ba) (l:List ba),(a::l).length=l.length+1)/\([]:List ba).length=0:=⟨λl w h=>bd h l w,λ_ _=>rfl,rfl⟩
theorem Y1:(∀ (h:Heap) (l m:List ba) (w v:Nat),(h.lay l w).lay m v=h.lay (l++m) v)/\(∀ (l:List ba) (w:Nat) (h:Heap),(h.lay l w).size=h.size+l.length)/\(∀ l:List ba,l++[]=l)/\(∀ (a:ba) (l:List ba),(a::l).length=l.length+1)/\([]:List ba).length=0/\∀ n:Nat,n+0=n :=
 ⟨b9,λl w h=>bd h l w,bG,λ_ _=>rfl,rfl,i0⟩
end
theorem Ext.rf {h2:Heap} (z:Ext h h1) (x:Ext (h1.lay l w) h2) (hw:min h1.low h1.size<=w):Ext h h2:=(z.trans (TD _ _ _ hw)).trans x
theorem Ext.lk (z:Ext h h1) (l:List ba) (w:Nat) (hw:min h1.low h1.size<=w):Ext h (h1.lay l w):=z.trans (TD _ _ _ hw)
theorem Ext.aC (z:Ext h h1) (hw:min h1.low h1.size<=w:=by omega):Ext h (h1.lay l w):=z.lk l w hw
theorem Ext.an {h2:Heap} (z:Ext h h1) (x:Ext (h1.lay l w) h2) (hw:min h1.low h1.size<=w:=by omega):Ext h h2:=z.rf x hw
end Go.Am
namespace Go.Am
variable {h h':Heap} {v:ah} {o:Oper} {e:Env} {d:Option Tmp} {b j:Nat} {l:List Oper} {ops:Array Oper} {Q:Ex->Env->Heap->Prop} {c:Code}
structure rG (h h':Heap):Prop where
 size:h.size<=h'.size
 get:∀ A,A < h.size->h'.get A=h.get A
theorem Ext.cK (x:Ext h h'):rG h h':=⟨x.size,x.get⟩
theorem rG.lay {h h1:Heap} (g:rG h h1) (l:List ba) (w:Nat):rG h (h1.lay l w):=⟨by rw [bd];have:=g.size;omega,λA hA=>(uo h1 l w (dJ hA g.size)).trans (g.get A hA)⟩
structure bH (h h':Heap):Prop where
 size:h.size<=h'.size
 get:∀ A,A < h.size->h.get A≠some .dead->h'.get A=h.get A
theorem bH.refl (h:Heap):bH h h:=⟨bo _,λ_ _ _=>rfl⟩
theorem bH.trans {a b c:Heap} (x:bH a b) (y:bH b c):bH a c:=⟨hY x.size y.size,λA hA hd=>by
 have h1:=x.get A hA hd
 exact (y.get A (dJ hA x.size) (by rw [h1];exact hd)).trans h1⟩
theorem Ext.inc (x:Ext h h'):bH h h':=⟨x.size,λA hA _=>x.get A hA⟩
theorem bH.lay (h:Heap) (l:List ba) (w:Nat):bH h (h.lay l w):=⟨by rw [bd];omega,λA hA _=>uo h l w hA⟩
theorem bH.at (i:bH h h') {A:Nat} {cs:List ah} {u:TypeId} {ro:Bool} (hA:A < h.size) (hg:h.get A=some (.row cs u ro)):h'.get A=some (.row cs u ro):=(i.get A hA (by rw [hg];simp)).trans hg
theorem bH.kB {l:List ba} {w:Nat} (x:bH (h.lay l w) h'):bH h h':=(bH.lay h l w).trans x

def iN (o:Oper):Bool:=match o.op with
 | .move _ | .assign _ | .pick _ _ _ | .build _ _ | .load _ _ | .nilCheck _ | .binOp _ _ _ _ _ | .makeFunc _ _ _ | .slice _ _ _ _ _ | .fieldAddr _ _ _ | .field _ _ _ | .indexAddr _ _ _ | .extract _ _ | .unOp _ _ _ | .index _ _ _ | .lookup _ _ _ _=>true
 | .call c=>(match c.callee with
  | .builtin .len | .builtin .min | .builtin .max=>true
  |_=>false)
 |_=>false
def wZ (T:bO) (ops:Array Oper) (j:Nat):Bool :=
 let ms:=ph ops.toList []
 (List.range j).all (λi=>(ms.getD j 0).testBit i || Ha T ops i) && (List.range ops.size).all λi => !decide (j < i) || ((ms.getD i 0).testBit j || Ha T ops i)

section
variable {P:Program} {T:bO} {C:Fn->List ah->Heap->Option (ah × Heap)}
theorem zuF (hb:iN o=true) (ak:gP P T C e o h=some (v,h')):h'=h/\∀ w,gP P T C e o { h with low:=w }=some (v,{ h with low:=w }):=by
 have cZ:∀ {r:Option ah},(r.map λx=>(x,h))=some (v,h')->h'=h/\∀ h2:Heap,(r.map λx=>(x,h2))=some (v,h2):=by
  intro r hr
  simp only [cD,da] at hr
  obtain ⟨_,rfl,rfl,rfl⟩:=hr
  exact ⟨rfl,λ_=>rfl⟩
 have eb:iZ P e o h=some (v,h')->h'=h/\∀ h2,iZ P e o h2=some (v,h2):=by
  intro hp
  unfold iZ at hp ⊢
  split at hp
  .rename_i h1
   split at hp
   .rename_i h2
    split at hp
    .rename_i h3
     cases hp
     exact ⟨rfl,λ_=>by simp [h1,h3]⟩
    .cases hp
   .cases hp
  .cases hp
 obtain ⟨dst,op,ty,pos,after,guard⟩:=o
 cases op <;> simp only [iN,gB] at hb <;> simp only [gP] at ak ⊢
 case move x=>cases ak;exact ⟨rfl,λ_=>rfl⟩
 case assign x=>cases ak;exact ⟨rfl,λ_=>rfl⟩
 case pick c a b =>
  split at ak
  .cases ak;exact ⟨rfl,λ_=>rfl⟩
  .cases ak
 case build=>obtain ⟨a,b⟩:=cZ ak;exact ⟨a,λw=>b _⟩
 case load =>
  obtain ⟨a,b⟩:=cZ ak
  exact ⟨a,λw=>b _⟩
 case lookup =>
  obtain ⟨a,b⟩:=cZ ak
  exact ⟨a,λw=>b _⟩
 case nilCheck x =>
  split at ak
  .cases ak;exact ⟨rfl,λ_=>rfl⟩
  .cases ak;exact ⟨rfl,λ_=>rfl⟩
  .cases ak;exact ⟨rfl,λ_=>rfl⟩
  .cases ak
 case binOp=>obtain ⟨a,b⟩:=cZ ak;exact ⟨a,λw=>b _⟩
 case makeFunc fn f c =>
  split at ak
  .cases ak;exact ⟨rfl,λ_=>rfl⟩
  .cases ak
 case slice=>obtain ⟨a,b⟩:=cZ ak;exact ⟨a,λw=>b _⟩
 case fieldAddr=>obtain ⟨a,b⟩:=cZ ak;exact ⟨a,λw=>b _⟩
 case field=>obtain ⟨a,b⟩:=cZ ak;exact ⟨a,λw=>b _⟩
 case indexAddr=>obtain ⟨a,b⟩:=cZ ak;exact ⟨a,λw=>b _⟩
 case extract t i =>
  split at ak
  .obtain ⟨a,b⟩:=cZ ak;exact ⟨a,λw=>b _⟩
  .cases ak
 case unOp=>obtain ⟨a,b⟩:=eb ak;exact ⟨a,λw=>b _⟩
 case index=>obtain ⟨a,b⟩:=eb ak;exact ⟨a,λw=>b _⟩
 case call c =>
  obtain ⟨callee,args,ats⟩:=c
  cases callee with
  |value f=>simp at hb
  |invoke r m=>simp at hb
  |builtin b =>
   cases b <;> simp at hb <;> simp only at ak ⊢
   case len =>
    split at ak
    .obtain ⟨a,b⟩:=cZ ak;exact ⟨a,λw=>b _⟩
    .cases ak
   case min=>obtain ⟨a,b⟩:=eb ak;exact ⟨a,λw=>b _⟩
   case max=>obtain ⟨a,b⟩:=eb ak;exact ⟨a,λw=>b _⟩
end

section
variable (P:Program) (T:bO) (ov:Ov)
def cu (b:Nat) (ops:Array Oper):List Oper->Nat->Env->Heap->(Env->Heap->Prop)->Prop
 | [],_,e,h,Q=>Q e h
 |o::l,j,e,h,Q=>rC (nx ops o e)
    (if iN o=true then cS P T ov o e h λv _=>cu b ops l (j+1) (put e o.dst v) h Q
     else cS P T ov o e { h with low:=h.size } λv h'=>((h.size<=h'.low\/wZ T ops j=true)/\b<=h'.low/\h.size<=h'.size)/\cu b ops l (j+1) (put e o.dst v) h' Q)
    (cu b ops l (j+1) (put e o.dst undef) h Q)
def QT (b:Nat) (ops:Array Oper) (l:List Oper) (j:Nat) (d:Option Tmp) (Q:Env->Heap->Prop) (e:Env) (h:Heap):aI:=λv _=>Hid (cu P T ov b ops l (j+1) (put e d v) h Q)
def Ce (b:Nat) (ops:Array Oper) (l:List Oper) (j:Nat) (d:Option Tmp) (Q:Env->Heap->Prop) (e:Env) (h:Heap):aI :=
 λv h'=>Hid (((h.size<=h'.low\/wZ T ops j=true)/\b<=h'.low/\h.size<=h'.size)/\cu P T ov b ops l (j+1) (put e d v) h' Q)
def QN (b:Nat) (ops:Array Oper) (o:Oper) (l:List Oper) (j:Nat) (e:Env) (h:Heap) (Q:Env->Heap->Prop) (w q:Bool):Prop :=
 if w=true then (if q=true then cS P T ov o e h (QT P T ov b ops l j o.dst Q e h) else cS P T ov o e (h.lay [] h.size) (Ce P T ov b ops l j o.dst Q e h)) else cu P T ov b ops l (j+1) (put e o.dst undef) h Q
end
section
variable {P:Program} {T:bO} {ov:Ov}
theorem zvy (b:Nat) (ops:Array Oper) (j:Nat) (e:Env) (h:Heap) (Q:Env->Heap->Prop):cu P T ov b ops [] j e h Q=Q e h:=rfl
theorem ztk (b:Nat) (ops:Array Oper) (o:Oper) (l:List Oper) (j:Nat) (e:Env) (h:Heap) (Q:Env->Heap->Prop):cu P T ov b ops (o::l) j e h Q=QN P T ov b ops o l j e h Q (nx ops o e) (iN o):=by
 simp only [cu,rC,QN]
 split
 .split
  .exact propext ⟨cS.mono λ_ _ hw=>⟨hw⟩,cS.mono λ_ _ hw=>hw.out⟩
  .exact propext ⟨cS.mono λ_ _ hw=>⟨hw⟩,cS.mono λ_ _ hw=>hw.out⟩
 .rfl
theorem zpQ (b:Nat) (ops:Array Oper) (o:Oper) (l:List Oper) (j:Nat) (e:Env) (h:Heap) (Q:Env->Heap->Prop):QN P T ov b ops o l j e h Q true true=cS P T ov o e h (QT P T ov b ops l j o.dst Q e h):=rfl
theorem zrA (b:Nat) (ops:Array Oper) (o:Oper) (l:List Oper) (j:Nat) (e:Env) (h:Heap) (Q:Env->Heap->Prop):QN P T ov b ops o l j e h Q true false=cS P T ov o e (h.lay [] h.size) (Ce P T ov b ops l j o.dst Q e h):=rfl
theorem zrB (b:Nat) (ops:Array Oper) (o:Oper) (l:List Oper) (j:Nat) (e:Env) (h:Heap) (Q:Env->Heap->Prop) (q:Bool):QN P T ov b ops o l j e h Q false q=cu P T ov b ops l (j+1) (put e o.dst undef) h Q:=rfl
theorem zvv (b:Nat) (ops:Array Oper) (l:List Oper) (j:Nat) (d:Option Tmp) (Q:Env->Heap->Prop) (e:Env) (h:Heap) (v:ah) (h':Heap):QT P T ov b ops l j d Q e h v h'=cu P T ov b ops l (j+1) (put e d v) h Q:=zAr _
theorem cW {Q:Env->Heap->Prop} (hb:b<=h.size) (x:Ext (h.lay [] h.size) h') (hk:cu P T ov b ops l (j+1) (put e d v) h' Q):Ce P T ov b ops l j d Q e h v h':=by
 have h1:=x.low
 have h2:=x.size
 rw [zq1,bd] at h1
 rw [bd] at h2
 simp only [dK,i0] at h1 h2
 exact ⟨⟨⟨.inl (by omega),by omega,by omega⟩,hk⟩⟩
structure eX (A:Nat) (h h':Heap):Prop where
 size:h.size<=h'.size
 get:∀ B,B < h.size->B≠A->h'.get B=h.get B
 low:min (min h.low h.size) A<=h'.low
theorem nM {A:Nat} {Q:Env->Heap->Prop} (ho:wZ T ops j=true) (hb:b<=h.size) (hA:b<=A) (x:eX A (h.lay [] h.size) h') (hk:cu P T ov b ops l (j+1) (put e d v) h' Q):Ce P T ov b ops l j d Q e h v h':=by
 have h1:=x.low
 have h2:=x.size
 rw [zq1,bd] at h1
 rw [bd] at h2
 simp only [dK,i0] at h1 h2
 exact ⟨⟨⟨.inr ho,by omega,by omega⟩,hk⟩⟩
theorem zS {Q:Env->Heap->Prop} (ho:wZ T ops j=true) (hb:b<=h'.low) (hs:h.size<=h'.size) (hk:cu P T ov b ops l (j+1) (put e d v) h' Q):Ce P T ov b ops l j d Q e h v h' :=
 ⟨⟨⟨.inr ho,hb,hs⟩,hk⟩⟩

theorem ztI {ks:List Nat} (h1:IZ ops (ph ops.toList [])=true) (h2:∀ i,i < ops.size->ks.getD i 2 % 3≠2\/wZ T ops i=true) (h3:∀ i,i < ops.size->Ha T ops i=true->ks.getD i 2=0):TK ops ks (ph ops.toList [])=true:=by
 unfold TK
 rw [jh]
 intro j hj
 have RL:j < ops.size:=zj.1 hj
 unfold IZ at h1
 have h1:=jh.1 h1 j hj
 unfold Qk
 split
 .rename_i oj qp
  rw [qp] at h1
  simp only [eo] at h1 ⊢
  refine ⟨h1.1,?_⟩
  rw [jh]
  intro i hi
  have dp:i < j:=zj.1 hi
  have h4:=jh.1 h1.2 i hi
  cases ht:((ph ops.toList []).getD j 0).testBit i with
  |true=>rfl
  |false =>
   rw [ht] at h4
   simp only [Bool.false_or] at h4 ⊢
   split at h4
   .rename_i oi MU
    rw [MU]
    simp only
    rw [eo]
    refine ⟨h4,?_⟩
    have key:∀ x y:Nat,x % 3≠2->y % 3≠2->um x y=true:=by
     intro x y h5 h6
     unfold um
     simp [h5,h6]
    have no1:wZ T ops i=true->um (ks.getD i 2) (ks.getD j 2)=true:=by
     intro hm
     unfold wZ at hm
     simp only [eo,jh,zj] at hm
     have:=hm.2 j RL
     rw [ht] at this
     simp only [dp,decide_true,Bool.not_true,Bool.false_or] at this
     rw [h3 j RL this]
     simp [um]
    have no2:wZ T ops j=true->um (ks.getD i 2) (ks.getD j 2)=true:=by
     intro hm
     unfold wZ at hm
     simp only [eo,jh,zj] at hm
     have:=hm.1 i dp
     rw [ht] at this
     simp only [Bool.false_or] at this
     rw [h3 i (by omega) this]
     simp [um]
    rcases h2 i (by omega) with h5|h5
    .rcases h2 j RL with h6|h6
     .exact key _ _ h5 h6
     .exact no2 h6
    .exact no1 h5
   .rename_i MU;rw [MU]
 .rfl
theorem zo0 (hb:h.size<=h'.low):mb T o e h h' % 3≠2:=zjL (.inr hb)

theorem cS.quiet {K:aI} (hq:iN o=true) (hw:cS P T ov o e h K) (w:Nat):cS P T ov o e { h with low:=w } λv h'=>h'={ h with low:=w }/\K v h:=by
 have ua:Qd o=false:=by
  obtain ⟨dst,op,ty,pos,after,guard⟩:=o
  cases op <;> first|rfl|skip
  rename_i c
  obtain ⟨callee,args,ats⟩:=c
  cases callee <;> first|rfl|simp [iN] at hq
 rw [zr1 ua] at hw ⊢
 unfold dw at hw ⊢
 split at hw
 .rename_i v h' ak
  obtain ⟨rfl,h2⟩:=zuF hq ak
  rw [h2 w]
  exact ⟨rfl,hw⟩
 .exact hw.elim

structure mR (T:bO) (ops:Array Oper) (ks:List Nat):Prop where
 ord:∀ i,i < ks.length->ks.getD i 2 % 3≠2\/wZ T ops i=true
 blind:∀ i,i < ks.length->Ha T ops i=true->ks.getD i 2=0
theorem mR.snoc {ks:List Nat} {c:Nat} (hk:mR T ops ks) (h1:c % 3≠2\/wZ T ops ks.length=true) (h2:Ha T ops ks.length=true->c=0):mR T ops (ks++[c]):=by
 have get:∀ i,i < (ks++[c]).length->(i < ks.length/\(ks++[c]).getD i 2=ks.getD i 2)\/(i=ks.length/\(ks++[c]).getD i 2=c):=by
  intro i hi
  rw [dI,v8] at hi
  by_cases aW:i < ks.length
  .refine .inl ⟨aW,?_⟩
   rw [lq,lq,nz aW]
  .have:i=ks.length:=by omega
   subst this
   refine .inr ⟨rfl,?_⟩
   rw [lq,qC (by omega),Nat.sub_self]
   rfl
 constructor
 .intro i hi
  rcases get i hi with ⟨g1,g2⟩|⟨g1,g2⟩
  .rw [g2];exact hk.ord i g1
  .rw [g2,g1];exact h1
 .intro i hi hb
  rcases get i hi with ⟨g1,g2⟩|⟨g1,g2⟩
  .rw [g2];exact hk.blind i g1 hb
  .rw [g2];rw [g1] at hb;exact h2 hb
theorem cu.GF {ops:Array Oper} {b:Nat}:∀ (l:List Oper) (j:Nat) (ks:List Nat) (e:Env) (h:Heap) (m:Nat) (Q:Env->Heap->Prop),b<=h.size->b<=m->ks.length=j->ops.toList.drop j=l->mR T ops ks->cu P T ov b ops l j e h Q ->
 cB P T ov ops l ks e { h with low:=m } λeU e' h'=>(eU.length=ks.length+l.length/\mR T ops eU)/\∃ h1,Q e' h1/\∃ m',b<=m'/\h'={ h1 with low:=m' }
 | [],j,ks,e,h,m,Q,hb,hm,hj,hd,xX,hw=>⟨⟨rfl,xX⟩,h,hw,m,hm,rfl⟩
 |o::l,j,ks,e,h,m,Q,hb,hm,hj,hd,xX,hw=>by
  have wq:Ha T ops ks.length=tB T o:=by
   have:ops[ks.length]? = some o:=by
    have h1:(ops.toList.drop j)[0]? = some o:=by rw [hd];rfl
    rw [kL] at h1
    rw [hj]
    simpa using h1
   simp only [Ha,this]
  have oc:ops.toList.drop (j+1)=l:=by
   rw [<- HF,hd]
   rfl
  have fin:∀ (c:Nat) (eU:List Nat) (e':Env) (h':Heap),((eU.length=(ks++[c]).length+l.length/\mR T ops eU)/\∃ h1,Q e' h1/\∃ m',b<=m'/\h'={ h1 with low:=m' }) ->
   ((eU.length=ks.length+(o::l).length/\mR T ops eU)/\∃ h1,Q e' h1/\∃ m',b<=m'/\h'={ h1 with low:=m' }):=by
   intro c eU e' h' ⟨⟨h1,h2⟩,h3⟩
   refine ⟨⟨?_,h2⟩,h3⟩
   simp only [dI,dY,dK] at h1 ⊢
   omega
  have kz:∀ h1 h2:Heap,tB T o=true->mb T o e h1 h2=0:=by
   intro h1 h2 hb
   unfold mb
   rw [aB hb]
  simp only [cu,cB,rC] at hw ⊢
  split at hw
  .rename_i gW
   rw [aB gW]
   split at hw
   .rename_i hq
    have h0:=cS.quiet hq hw h.size
    refine cS.mono (λv h' ⟨he,hw⟩=>?_) h0
    subst he
    have hk:mb T o e { h with low:=m } { h with low:=h.size } % 3≠2:=zo0 (bo _)
    refine cB.mono _ _ _ _ _ _ (λeU e' h' MZ=>fin _ eU e' h' MZ) (cu.GF l (j+1) (ks++[mb T o e { h with low:=m } { h with low:=h.size }]) _ h (min m h.size) Q hb (by omega) (by simp [hj]) oc (xX.snoc (.inl hk) (λhb=>kz _ _ (wq ▸ hb))) hw)
   .refine cS.mono (λv h' ⟨⟨h1,h2,h3⟩,hw⟩=>?_) hw
    have hk:mb T o e { h with low:=m } h' % 3≠2\/wZ T ops ks.length=true:=h1.imp (λh1=>zo0 h1) (λh1=>hj ▸ h1)
    exact cB.mono _ _ _ _ _ _ (λeU e' h' MZ=>fin _ eU e' h' MZ) (cu.GF l (j+1) (ks++[mb T o e { h with low:=m } h']) _ h' (min m h'.low) Q (by omega) (by omega) (by simp [hj]) oc (xX.snoc hk (λhb=>kz _ _ (wq ▸ hb))) hw)
  .rename_i gW
   rw [aA gW]
   exact cB.mono _ _ _ _ _ _ (λeU e' h' MZ=>fin 0 eU e' h' MZ) (cu.GF l (j+1) (ks++[0]) _ h m Q hb hm (by simp [hj]) oc (xX.snoc (.inl (by decide)) (λ_=>rfl)) hw)

def Lz (b:Nat) (Q:Ex->Env->Heap->Prop):Env->Heap->Prop:=λe h1=>∀ m,b<=m->Q .normal e { h1 with low:=m }
theorem zAI {rd:Option Nat} {id:Nat} {ops:List Oper} (b:Nat) (hb:b<=h.size) (hl:b<=h.low) (ht:IZ ⟨ops⟩ (ph ops [])=true) (hw:cu P T ov b ⟨ops⟩ ops 0 e h (Lz b Q)):W P T ov rd (.region id ⟨ops⟩ true) e h Q:=by
 simp only [W]
 have:=cu.GF (ops:=⟨ops⟩) ops 0 [] e h h.low (Lz b Q) hb hl rfl rfl ⟨λi hi=>by simp at hi,λi hi=>by simp at hi⟩ hw
 refine cB.mono _ _ _ _ _ _ (λeU e' h' hq=>?_) this
 obtain ⟨⟨h1,h2⟩,h3,h4,m',h5,rfl⟩:=hq
 have kq:∀ i,i < (⟨ops⟩:Array Oper).size->i < eU.length:=λi hi=>by rw [h1];simpa using hi
 exact ⟨ztI ht (λi hi=>h2.ord i (kq i hi)) (λi hi=>h2.blind i (kq i hi)),h4 m' h5⟩
def LA (h0:Heap) (Q:Ex->Env->Heap->Prop):Env->Heap->Prop:=λe h1=>rG h0 h1->∀ h2,Ext h0 h2->Ext (h1.lay [] h2.low) h2->h2.size=h1.size->Q .normal e h2
theorem zAH {rd:Option Nat} {id:Nat} {ops:List Oper} {h0:Heap} (z:Ext h0 h) (ht:IZ ⟨ops⟩ (ph ops [])=true) (hw:cu P T ov (min h0.low h0.size) ⟨ops⟩ ops 0 e h λe' h1=>rG h0 h1/\LA h0 Q e' h1):W P T ov rd (.region id ⟨ops⟩ true) e h Q:=by
 refine zAI (min h0.low h0.size) (by have:=z.size;omega) z.low ht ?_
 have mono:∀ (l:List Oper) (j:Nat) (e:Env) (h:Heap) (Q Q':Env->Heap->Prop),(∀ e h,Q e h->Q' e h)->cu P T ov (min h0.low h0.size) ⟨ops⟩ l j e h Q->cu P T ov (min h0.low h0.size) ⟨ops⟩ l j e h Q':=by
  intro l
  induction l with
  |nil=>intro j e h Q Q' hq hw;exact hq _ _ hw
  |cons o l ih =>
   intro j e h Q Q' hq hw
   simp only [cu,rC] at hw ⊢
   split at hw
   .rename_i gW
    rw [aB gW]
    split at hw
    .rename_i Yb
     rw [aB Yb]
     exact cS.mono (λv h'=>ih _ _ _ _ _ hq) hw
    .rename_i Yb
     rw [aA Yb]
     exact cS.mono (λv h' ⟨h1,h2⟩=>⟨h1,ih _ _ _ _ _ hq h2⟩) hw
   .rename_i gW
    rw [aA gW]
    exact ih _ _ _ _ _ hq hw
 refine mono _ _ _ _ _ _ ?_ hw
 rintro e' h1 ⟨hi,hq⟩ m hm
 refine hq hi { h1 with low:=m } ⟨hi.size,hi.get,hm⟩ ⟨bo _,λ_ _=>rfl,?_⟩ rfl
 show min m h1.size<=m
 omega
end
section
variable (P:Program) (T:bO) (ov:Ov)
def TH (ops:Array Oper) (o:Oper) (l:List Oper) (d:Option Tmp) (e:Env) (h:Heap) (Q:Env->Heap->Prop) (b:Bool):Prop:=if b=true then cS P T ov o e h (xb P T ov ops l d Q e) else dg P T ov ops l (put e d undef) h Q
def Qg (b:Nat) (ops:Array Oper) (o:Oper) (l:List Oper) (j:Nat) (d:Option Tmp) (e:Env) (h:Heap) (Q:Env->Heap->Prop) (w q:Bool):Prop :=
 if w=true then (if q=true then cS P T ov o e h (QT P T ov b ops l j d Q e h) else cS P T ov o e (h.lay [] h.size) (Ce P T ov b ops l j d Q e h)) else cu P T ov b ops l (j+1) (put e d undef) h Q
end
section
variable {P:Program} {T:bO} {ov:Ov}
theorem zqq (ops:Array Oper) (o:Oper) (l:List Oper) (d:Option Tmp) (e:Env) (h:Heap) (Q:Env->Heap->Prop):TH P T ov ops o l d e h Q true=cS P T ov o e h (xb P T ov ops l d Q e):=rfl
theorem zn3 (ops:Array Oper) (o:Oper) (l:List Oper) (d:Option Tmp) (e:Env) (h:Heap) (Q:Env->Heap->Prop):TH P T ov ops o l d e h Q false=dg P T ov ops l (put e d undef) h Q:=rfl
theorem ztl (ops:Array Oper) (o:Oper) (l:List Oper) (e:Env) (h:Heap) (Q:Env->Heap->Prop):dg P T ov ops (o::l) e h Q=TH P T ov ops o l o.dst e h Q (nx ops o e):=zn0 _ _ _ _ _ _
theorem zmv (b:Nat) (ops:Array Oper) (o:Oper) (l:List Oper) (j:Nat) (d:Option Tmp) (e:Env) (h:Heap) (Q:Env->Heap->Prop):Qg P T ov b ops o l j d e h Q true true=cS P T ov o e h (QT P T ov b ops l j d Q e h):=rfl
theorem zn1 (b:Nat) (ops:Array Oper) (o:Oper) (l:List Oper) (j:Nat) (d:Option Tmp) (e:Env) (h:Heap) (Q:Env->Heap->Prop):Qg P T ov b ops o l j d e h Q true false=cS P T ov o e (h.lay [] h.size) (Ce P T ov b ops l j d Q e h):=rfl
theorem zn2 (b:Nat) (ops:Array Oper) (o:Oper) (l:List Oper) (j:Nat) (d:Option Tmp) (e:Env) (h:Heap) (Q:Env->Heap->Prop) (q:Bool):Qg P T ov b ops o l j d e h Q false q=cu P T ov b ops l (j+1) (put e d undef) h Q:=rfl
theorem zqo (b:Nat) (ops:Array Oper) (o:Oper) (l:List Oper) (j:Nat) (e:Env) (h:Heap) (Q:Env->Heap->Prop):cu P T ov b ops (o::l) j e h Q=Qg P T ov b ops o l j o.dst e h Q (nx ops o e) (iN o):=ztk _ _ _ _ _ _ _ _
end
theorem ZF {P:Program} {T:bO} {ov:Ov} {rd:Option Nat} (R:Env->Heap->Prop)
 (h1:W P T ov rd c e h λx e' h'=>x=.normal/\R e' h') (h2:∀ e' h',R e' h'->Q .normal e' h'):W P T ov rd c e h Q :=
 W.mono c _ _ _ _ (λx e' h' ⟨hx,hr⟩=>by subst hx;exact h2 e' h' hr) h1
theorem mv {shape:(Nat->ah)->Env} (h:e=shape e.get):∃ J,e=shape J:=⟨_,h⟩
theorem QW {shape:(Nat->ah)->Env} {p:(Nat->ah)->Prop} (h:e=shape e.get) (hp:p e.get):∃ J,e=shape J/\p J:=⟨_,h,hp⟩
theorem lZ {P:Program} {T:bO} {ov:Ov} {rd:Option Nat} {h1:Heap} {bs:List ba} {w:Nat} 
 (hk:∀ h2,Ext (h1.lay bs w) h2->(∀ (i:Nat) (b:ba),bs[i]? = some b->Holds h2 (h1.size+i) b)->W P T ov rd c e h2 Q):W P T ov rd c e (h1.lay bs w) Q:=by
 refine hk _ (Ext.refl _) λi b hi=>?_
 have hl:=(dH.1 hi).1
 exact ⟨by rw [bd];omega,by rw [iB];exact hi⟩
def JM (I:Nat->Env->Heap->Prop) (n:Nat) (Q:Ex->Env->Heap->Prop):Ex->Env->Heap->Prop
 | .normal,e',h'=>∃ m,m < n/\I m e' h'
 | .exit i,e',h'=>Q (.exit i) e' h'
 | .ret,e',h'=>Q .ret e' h'
section
variable {P:Program} {T:bO} {ov:Ov} {rd:Option Nat}
theorem zt5 (I:Nat->Env->Heap->Prop) (n:Nat) (Q:Ex->Env->Heap->Prop) (i:Nat) (e':Env) (h':Heap):JM I n Q (.exit i) e' h'=Q (.exit i) e' h':=rfl
theorem zwM (I:Nat->Env->Heap->Prop) (n:Nat) (Q:Ex->Env->Heap->Prop) (e':Env) (h':Heap):JM I n Q .ret e' h'=Q .ret e' h':=rfl
theorem cy {I:Nat->Env->Heap->Prop} {n m:Nat} {e':Env} (hm:m < n) (hi:I m e' h'):JM I n Q .normal e' h':=⟨m,hm,hi⟩
theorem du (I:Nat->Env->Heap->Prop) (n0:Nat) (h0:I n0 e h) (round:∀ n e h,I n e h->W P T ov rd c e h (JM I n Q)):W P T ov rd (.loop c) e h Q:=by
 have key:∀ (k n:Nat) (e:Env) (h:Heap),n < k->I n e h->ek (W P T ov rd c) Q k e h:=by
  intro k
  induction k with
  |zero=>intro n e h hn;omega
  |succ k ih =>
   intro n e h hn hI
   simp only [ek]
   refine W.mono c _ _ _ _ ?_ (round n e h hI)
   intro x e' h'
   cases x with
   |normal=>rintro ⟨m,h1,h2⟩;exact ih m e' h' (by omega) h2
   |exit i=>exact λhh=>hh
   |ret=>exact λhh=>hh
 exact ⟨n0+1,key (n0+1) n0 e h (so _) h0⟩
end
end Go.Am
