/- Regions that draw their order, in which nothing that is there is turned. No condition. -/
import Derived.Test.YtnkmeidmdaidhaaGreatDoorG4
set_option linter.unusedSimpArgs false
namespace Go.Am
variable {h h1:Heap} {w:Nat} {l:List aZ}
section
variable (P:Program) (T:bJ) (ov:Ov)
def mn (ops:Array Oper):List Oper->Env->Heap->(Env->Heap->Prop)->Prop
 | [],e,h,Q=>Q e h
 |o::l,e,h,Q=>pR (ma ops o e) (cv P T ov o e { h with low:=h.size } λv h'=>(pO T o=true\/h.size<=h'.low)/\mn ops l (put e o.dst v) { h' with low:=min h.low h'.low } Q) (mn ops l (put e o.dst undef) h Q)
end
section
variable {P:Program} {T:bJ} {ov:Ov}
theorem zjD {o:Oper} {e:Env} {h':Heap} (hb:pO T o=true\/h.size<=h'.low):jH T o e h h' % 3≠2:=by
 unfold jH
 split
 .decide
 .rename_i hnb
  rcases hb with hb|hb
  .exact (hnb hb).elim
  .rw [aD hb]
   split
   .split <;> omega
   .omega
   .omega
theorem mn.uo {ops:Array Oper}:∀ (l:List Oper) (ks:List Nat) (e:Env) (h:Heap) (Q:Env->Heap->Prop),(∀ i,i < ks.length->ks.getD i 2 % 3≠2)->mn P T ov ops l e h Q ->
 bR P T ov ops l ks e h λdp e' h'=>(dp.length=ks.length+l.length/\∀ i,i < dp.length->dp.getD i 2 % 3≠2)/\Q e' h'
 | [],ks,e,h,Q,n7,hw=>⟨⟨rfl,n7⟩,hw⟩
 |o::l,ks,e,h,Q,n7,hw=>by
  have Ks:∀ c:Nat,c % 3≠2->∀ i,i < (ks++[c]).length->(ks++[c]).getD i 2 % 3≠2:=by
   intro c hc i hi
   rw [cE,gF] at hi
   by_cases aT:i < ks.length
   .have:=n7 i aT
    rw [me] at this ⊢
    rw [jz aT]
    exact this
   .have:i=ks.length:=by omega
    subst this
    rw [me,lp (by omega),tp]
    simpa using hc
  have fin:∀ (c:Nat) (Q':List Nat->Env->Heap->Prop) (dp:List Nat) (e':Env) (h':Heap),(dp.length=(ks++[c]).length+l.length/\∀ i,i < dp.length->dp.getD i 2 % 3≠2)/\Q e' h'->(dp.length=ks.length+(o::l).length/\∀ i,i < dp.length->dp.getD i 2 % 3≠2)/\Q e' h':=by
   intro c Q' dp e' h' ⟨⟨h1,h2⟩,h3⟩
   refine ⟨⟨?_,h2⟩,h3⟩
   simp only [cE,ek,db] at h1 ⊢
   omega
  simp only [mn,bR,pR] at hw ⊢
  split at hw
  .rename_i fT
   rw [aD fT]
   refine cv.mono (λv h' ⟨hb,hw⟩=>?_) hw
   refine bR.mono _ _ _ _ _ _ (λdp e' h' hq=>fin _ (λ_ _ _=>True) dp e' h' hq) (mn.uo l (ks++[jH T o e h h']) _ _ Q (Ks _ (zjD hb)) hw)
  .rename_i fT
   rw [az fT]
   exact bR.mono _ _ _ _ _ _ (λdp e' h' hq=>fin 0 (λ_ _ _=>True) dp e' h' hq) (mn.uo l (ks++[0]) _ _ Q (Ks 0 (by decide)) hw)
theorem bY (h:Heap) (l m:List aZ) (w v:Nat):(h.lay l w).lay m v=h.lay (l++m) v:=by
 simp only [Heap.lay,List.foldl_append]
 congr 1
 .simp only [P0]
 .have key:∀ (m:List aZ) (a b:Heap),a.size=b.size->a.tr=b.tr->(m.foldl Heap.push a).tr=(m.foldl Heap.push b).tr:=by
   intro m
   induction m with
   |nil=>intro a b _ h2;exact h2
   |cons c m ih =>
    intro a b h1 h2
    rw [uL,uL]
    exact ih _ _ (by simp [Heap.push,h1]) (by simp [Heap.push,h1,h2])
  exact key m _ _ rfl rfl
theorem iY:(∀ (l:List aZ) (w:Nat) (h:Heap),(h.lay l w).size=h.size+l.length)/\(∀ (a:aZ) (l:List aZ),(a::l).length=l.length+1)/\([]:List aZ).length=0:=⟨λl w h=>bh h l w,λ_ _=>rfl,rfl⟩
end
theorem Ext.CA {h2:Heap} (z:Ext h h1) (x:Ext (h1.lay l w) h2) (hw:min h1.low h1.size<=w):Ext h h2:=(z.trans (Nr _ _ _ hw)).trans x
theorem Ext.jC (z:Ext h h1) (l:List aZ) (w:Nat) (hw:min h1.low h1.size<=w):Ext h (h1.lay l w):=z.trans (Nr _ _ _ hw)
theorem Ext.av (z:Ext h h1) (hw:min h1.low h1.size<=w:=by omega):Ext h (h1.lay l w):=z.jC l w hw
theorem Ext.ao {h2:Heap} (z:Ext h h1) (x:Ext (h1.lay l w) h2) (hw:min h1.low h1.size<=w:=by omega):Ext h h2:=z.CA x hw
end Go.Am
namespace Go.Am
variable {h h':Heap} {v:ai} {o:Oper} {e:Env} {d:Option Tmp} {b j:Nat} {l:List Oper} {ops:Array Oper} {Q:Ex->Env->Heap->Prop} {c:Code}
structure pD (h h':Heap):Prop where
 size:h.size<=h'.size
 get:∀ A,A < h.size->h'.get A=h.get A
theorem Ext.cU (x:Ext h h'):pD h h':=⟨x.size,x.get⟩
theorem pD.lay {h h1:Heap} (g:pD h h1) (l:List aZ) (w:Nat):pD h (h1.lay l w):=⟨by rw [bh];have:=g.size;omega,λA hA=>(sU h1 l w (dr hA g.size)).trans (g.get A hA)⟩
structure bN (h h':Heap):Prop where
 size:h.size<=h'.size
 get:∀ A,A < h.size->h.get A≠some .dead->h'.get A=h.get A
theorem bN.refl (h:Heap):bN h h:=⟨aR _,λ_ _ _=>rfl⟩
theorem bN.trans {a b c:Heap} (x:bN a b) (y:bN b c):bN a c:=⟨eA x.size y.size,λA hA hd=>by
 have h1:=x.get A hA hd
 exact (y.get A (dr hA x.size) (by rw [h1];exact hd)).trans h1⟩
theorem Ext.inc (x:Ext h h'):bN h h':=⟨x.size,λA hA _=>x.get A hA⟩
theorem bN.lay (h:Heap) (l:List aZ) (w:Nat):bN h (h.lay l w):=⟨by rw [bh];omega,λA hA _=>sU h l w hA⟩
theorem bN.at (i:bN h h') {A:Nat} {cs:List ai} {u:TypeId} {ro:Bool} (hA:A < h.size) (hg:h.get A=some (.row cs u ro)):h'.get A=some (.row cs u ro):=(i.get A hA (by rw [hg];simp)).trans hg
theorem bN.mK {l:List aZ} {w:Nat} (x:bN (h.lay l w) h'):bN h h':=(bN.lay h l w).trans x

def eR (o:Oper):Bool:=match o.op with
 | .move _ | .assign _ | .pick _ _ _ | .build _ _ | .load _ _ | .nilCheck _ | .binOp _ _ _ _ _ | .makeFunc _ _ _ | .slice _ _ _ _ _ | .fieldAddr _ _ _ | .field _ _ _ | .indexAddr _ _ _ | .extract _ _ | .unOp _ _ _ | .index _ _ _ | .lookup _ _ _ _=>true
 | .call c=>(match c.callee with
  | .builtin .len | .builtin .min | .builtin .max=>true
  |_=>false)
 |_=>false
def uI (T:bJ) (ops:Array Oper) (j:Nat):Bool :=
 let ms:=mS ops.toList []
 (List.range j).all (λi=>(ms.getD j 0).testBit i || mQ T ops i) && (List.range ops.size).all λi => !decide (j < i) || ((ms.getD i 0).testBit j || mQ T ops i)

section
variable {P:Program} {T:bJ} {C:Fn->List ai->Heap->Option (ai × Heap)}
theorem zuT (hb:eR o=true) (aj:gD P T C e o h=some (v,h')):h'=h/\∀ w,gD P T C e o { h with low:=w }=some (v,{ h with low:=w }):=by
 have cP:∀ {r:Option ai},(r.map λx=>(x,h))=some (v,h')->h'=h/\∀ h2:Heap,(r.map λx=>(x,h2))=some (v,h2):=by
  intro r hr
  simp only [ct,cQ] at hr
  obtain ⟨_,rfl,rfl,rfl⟩:=hr
  exact ⟨rfl,λ_=>rfl⟩
 have dM:gP P e o h=some (v,h')->h'=h/\∀ h2,gP P e o h2=some (v,h2):=by
  intro hp
  unfold gP at hp ⊢
  split at hp
  .rename_i h1
   split at hp
   .rename_i h2
    split at hp
    .rename_i h3
     cases hp
     exact ⟨rfl,λ_=>by simp [h1,h3]⟩
    .cases hp
   .cases hp
  .cases hp
 obtain ⟨dst,op,ty,pos,after,guard⟩:=o
 cases op <;> simp only [eR,gX] at hb <;> simp only [gD] at aj ⊢
 case move x=>cases aj;exact ⟨rfl,λ_=>rfl⟩
 case assign x=>cases aj;exact ⟨rfl,λ_=>rfl⟩
 case pick c a b =>
  split at aj
  .cases aj;exact ⟨rfl,λ_=>rfl⟩
  .cases aj
 case build=>obtain ⟨a,b⟩:=cP aj;exact ⟨a,λw=>b _⟩
 case load =>
  obtain ⟨a,b⟩:=cP aj
  exact ⟨a,λw=>b _⟩
 case lookup =>
  obtain ⟨a,b⟩:=cP aj
  exact ⟨a,λw=>b _⟩
 case nilCheck x =>
  split at aj
  .cases aj;exact ⟨rfl,λ_=>rfl⟩
  .cases aj;exact ⟨rfl,λ_=>rfl⟩
  .cases aj;exact ⟨rfl,λ_=>rfl⟩
  .cases aj
 case binOp=>obtain ⟨a,b⟩:=cP aj;exact ⟨a,λw=>b _⟩
 case makeFunc fn f c =>
  split at aj
  .cases aj;exact ⟨rfl,λ_=>rfl⟩
  .cases aj
 case slice=>obtain ⟨a,b⟩:=cP aj;exact ⟨a,λw=>b _⟩
 case fieldAddr=>obtain ⟨a,b⟩:=cP aj;exact ⟨a,λw=>b _⟩
 case field=>obtain ⟨a,b⟩:=cP aj;exact ⟨a,λw=>b _⟩
 case indexAddr=>obtain ⟨a,b⟩:=cP aj;exact ⟨a,λw=>b _⟩
 case extract t i =>
  split at aj
  .obtain ⟨a,b⟩:=cP aj;exact ⟨a,λw=>b _⟩
  .cases aj
 case unOp=>obtain ⟨a,b⟩:=dM aj;exact ⟨a,λw=>b _⟩
 case index=>obtain ⟨a,b⟩:=dM aj;exact ⟨a,λw=>b _⟩
 case call c =>
  obtain ⟨callee,args,iq⟩:=c
  cases callee with
  |value f=>simp at hb
  |invoke r m=>simp at hb
  |builtin b =>
   cases b <;> simp at hb <;> simp only at aj ⊢
   case len =>
    split at aj
    .obtain ⟨a,b⟩:=cP aj;exact ⟨a,λw=>b _⟩
    .cases aj
   case min=>obtain ⟨a,b⟩:=dM aj;exact ⟨a,λw=>b _⟩
   case max=>obtain ⟨a,b⟩:=dM aj;exact ⟨a,λw=>b _⟩
end

section
variable (P:Program) (T:bJ) (ov:Ov)
def b8 (b:Nat) (ops:Array Oper):List Oper->Nat->Env->Heap->(Env->Heap->Prop)->Prop
 | [],_,e,h,Q=>Q e h
 |o::l,j,e,h,Q=>pR (ma ops o e)
    (if eR o=true then cv P T ov o e h λv _=>b8 b ops l (j+1) (put e o.dst v) h Q
     else cv P T ov o e { h with low:=h.size } λv h'=>((h.size<=h'.low\/uI T ops j=true)/\b<=h'.low/\h.size<=h'.size)/\b8 b ops l (j+1) (put e o.dst v) h' Q)
    (b8 b ops l (j+1) (put e o.dst undef) h Q)
def N0 (b:Nat) (ops:Array Oper) (l:List Oper) (j:Nat) (d:Option Tmp) (Q:Env->Heap->Prop) (e:Env) (h:Heap):aJ:=λv _=>Hid (b8 P T ov b ops l (j+1) (put e d v) h Q)
def zd (b:Nat) (ops:Array Oper) (l:List Oper) (j:Nat) (d:Option Tmp) (Q:Env->Heap->Prop) (e:Env) (h:Heap):aJ :=
 λv h'=>Hid (((h.size<=h'.low\/uI T ops j=true)/\b<=h'.low/\h.size<=h'.size)/\b8 P T ov b ops l (j+1) (put e d v) h' Q)
def NV (b:Nat) (ops:Array Oper) (o:Oper) (l:List Oper) (j:Nat) (e:Env) (h:Heap) (Q:Env->Heap->Prop) (w q:Bool):Prop :=
 if w=true then (if q=true then cv P T ov o e h (N0 P T ov b ops l j o.dst Q e h) else cv P T ov o e (h.lay [] h.size) (zd P T ov b ops l j o.dst Q e h)) else b8 P T ov b ops l (j+1) (put e o.dst undef) h Q
end
section
variable {P:Program} {T:bJ} {ov:Ov}
theorem zvH (b:Nat) (ops:Array Oper) (j:Nat) (e:Env) (h:Heap) (Q:Env->Heap->Prop):b8 P T ov b ops [] j e h Q=Q e h:=rfl
theorem zty (b:Nat) (ops:Array Oper) (o:Oper) (l:List Oper) (j:Nat) (e:Env) (h:Heap) (Q:Env->Heap->Prop):b8 P T ov b ops (o::l) j e h Q=NV P T ov b ops o l j e h Q (ma ops o e) (eR o):=by
 simp only [b8,pR,NV]
 split
 .split
  .exact propext ⟨cv.mono λ_ _ hw=>⟨hw⟩,cv.mono λ_ _ hw=>hw.out⟩
  .exact propext ⟨cv.mono λ_ _ hw=>⟨hw⟩,cv.mono λ_ _ hw=>hw.out⟩
 .rfl
theorem zpF (b:Nat) (ops:Array Oper) (o:Oper) (l:List Oper) (j:Nat) (e:Env) (h:Heap) (Q:Env->Heap->Prop):NV P T ov b ops o l j e h Q true true=cv P T ov o e h (N0 P T ov b ops l j o.dst Q e h):=rfl
theorem zrz (b:Nat) (ops:Array Oper) (o:Oper) (l:List Oper) (j:Nat) (e:Env) (h:Heap) (Q:Env->Heap->Prop):NV P T ov b ops o l j e h Q true false=cv P T ov o e (h.lay [] h.size) (zd P T ov b ops l j o.dst Q e h):=rfl
theorem zrA (b:Nat) (ops:Array Oper) (o:Oper) (l:List Oper) (j:Nat) (e:Env) (h:Heap) (Q:Env->Heap->Prop) (q:Bool):NV P T ov b ops o l j e h Q false q=b8 P T ov b ops l (j+1) (put e o.dst undef) h Q:=rfl
theorem zvD (b:Nat) (ops:Array Oper) (l:List Oper) (j:Nat) (d:Option Tmp) (Q:Env->Heap->Prop) (e:Env) (h:Heap) (v:ai) (h':Heap):N0 P T ov b ops l j d Q e h v h'=b8 P T ov b ops l (j+1) (put e d v) h Q:=Zh _
theorem ix {Q:Env->Heap->Prop} (hb:b<=h.size) (x:Ext (h.lay [] h.size) h') (hk:b8 P T ov b ops l (j+1) (put e d v) h' Q):zd P T ov b ops l j d Q e h v h':=by
 have h1:=x.low
 have h2:=x.size
 rw [QB,bh] at h1
 rw [bh] at h2
 simp only [db,gx] at h1 h2
 exact ⟨⟨⟨.inl (by omega),by omega,by omega⟩,hk⟩⟩
structure ff (A:Nat) (h h':Heap):Prop where
 size:h.size<=h'.size
 get:∀ B,B < h.size->B≠A->h'.get B=h.get B
 low:min (min h.low h.size) A<=h'.low
theorem iL {A:Nat} {Q:Env->Heap->Prop} (ho:uI T ops j=true) (hb:b<=h.size) (hA:b<=A) (x:ff A (h.lay [] h.size) h') (hk:b8 P T ov b ops l (j+1) (put e d v) h' Q):zd P T ov b ops l j d Q e h v h':=by
 have h1:=x.low
 have h2:=x.size
 rw [QB,bh] at h1
 rw [bh] at h2
 simp only [db,gx] at h1 h2
 exact ⟨⟨⟨.inr ho,by omega,by omega⟩,hk⟩⟩
theorem Hf {Q:Env->Heap->Prop} (ho:uI T ops j=true) (hb:b<=h'.low) (hs:h.size<=h'.size) (hk:b8 P T ov b ops l (j+1) (put e d v) h' Q):zd P T ov b ops l j d Q e h v h' :=
 ⟨⟨⟨.inr ho,hb,hs⟩,hk⟩⟩

theorem zt2 {ks:List Nat} (h1:CU ops (mS ops.toList [])=true) (h2:∀ i,i < ops.size->ks.getD i 2 % 3≠2\/uI T ops i=true) (h3:∀ i,i < ops.size->mQ T ops i=true->ks.getD i 2=0):Ga ops ks (mS ops.toList [])=true:=by
 unfold Ga
 rw [iM]
 intro j hj
 have GW:j < ops.size:=rj.1 hj
 unfold CU at h1
 have h1:=iM.1 h1 j hj
 unfold HS
 split
 .rename_i oj oe
  rw [oe] at h1
  simp only [dK] at h1 ⊢
  refine ⟨h1.1,?_⟩
  rw [iM]
  intro i hi
  have fw:i < j:=rj.1 hi
  have h4:=iM.1 h1.2 i hi
  cases ht:((mS ops.toList []).getD j 0).testBit i with
  |true=>rfl
  |false =>
   rw [ht] at h4
   simp only [Gw] at h4 ⊢
   split at h4
   .rename_i oi Ap
    rw [Ap]
    simp only
    rw [dK]
    refine ⟨h4,?_⟩
    have key:∀ x y:Nat,x % 3≠2->y % 3≠2->nD x y=true:=by
     intro x y h5 h6
     unfold nD
     simp [h5,h6]
    have no1:uI T ops i=true->nD (ks.getD i 2) (ks.getD j 2)=true:=by
     intro hm
     unfold uI at hm
     simp only [dK,iM,rj] at hm
     have:=hm.2 j GW
     rw [ht] at this
     simp only [fw,decide_true,Bool.not_true,Gw] at this
     rw [h3 j GW this]
     simp [nD]
    have no2:uI T ops j=true->nD (ks.getD i 2) (ks.getD j 2)=true:=by
     intro hm
     unfold uI at hm
     simp only [dK,iM,rj] at hm
     have:=hm.1 i fw
     rw [ht] at this
     simp only [Gw] at this
     rw [h3 i (by omega) this]
     simp [nD]
    rcases h2 i (by omega) with h5|h5
    .rcases h2 j GW with h6|h6
     .exact key _ _ h5 h6
     .exact no2 h6
    .exact no1 h5
   .rename_i Ap;rw [Ap]
 .rfl
theorem zoU (hb:h.size<=h'.low):jH T o e h h' % 3≠2:=zjD (.inr hb)

theorem cv.quiet {K:aJ} (hq:eR o=true) (hw:cv P T ov o e h K) (w:Nat):cv P T ov o e { h with low:=w } λv h'=>h'={ h with low:=w }/\K v h:=by
 have Ev:QA o=false:=by
  obtain ⟨dst,op,ty,pos,after,guard⟩:=o
  cases op <;> first|rfl|skip
  rename_i c
  obtain ⟨callee,args,iq⟩:=c
  cases callee <;> first|rfl|simp [eR] at hq
 rw [zyp Ev] at hw ⊢
 unfold dv at hw ⊢
 split at hw
 .rename_i v h' aj
  obtain ⟨rfl,h2⟩:=zuT hq aj
  rw [h2 w]
  exact ⟨rfl,hw⟩
 .exact hw.elim

structure mh (T:bJ) (ops:Array Oper) (ks:List Nat):Prop where
 ord:∀ i,i < ks.length->ks.getD i 2 % 3≠2\/uI T ops i=true
 blind:∀ i,i < ks.length->mQ T ops i=true->ks.getD i 2=0
theorem mh.snoc {ks:List Nat} {c:Nat} (hk:mh T ops ks) (h1:c % 3≠2\/uI T ops ks.length=true) (h2:mQ T ops ks.length=true->c=0):mh T ops (ks++[c]):=by
 have get:∀ i,i < (ks++[c]).length->(i < ks.length/\(ks++[c]).getD i 2=ks.getD i 2)\/(i=ks.length/\(ks++[c]).getD i 2=c):=by
  intro i hi
  rw [cE,gF] at hi
  by_cases aT:i < ks.length
  .refine .inl ⟨aT,?_⟩
   rw [me,me,jz aT]
  .have:i=ks.length:=by omega
   subst this
   refine .inr ⟨rfl,?_⟩
   rw [me,lp (by omega),tp]
   rfl
 constructor
 .intro i hi
  rcases get i hi with ⟨g1,g2⟩|⟨g1,g2⟩
  .rw [g2];exact hk.ord i g1
  .rw [g2,g1];exact h1
 .intro i hi hb
  rcases get i hi with ⟨g1,g2⟩|⟨g1,g2⟩
  .rw [g2];exact hk.blind i g1 hb
  .rw [g2];rw [g1] at hb;exact h2 hb
theorem b8.uo {ops:Array Oper} {b:Nat}:∀ (l:List Oper) (j:Nat) (ks:List Nat) (e:Env) (h:Heap) (m:Nat) (Q:Env->Heap->Prop),b<=h.size->b<=m->ks.length=j->ops.toList.drop j=l->mh T ops ks->b8 P T ov b ops l j e h Q ->
 bR P T ov ops l ks e { h with low:=m } λdp e' h'=>(dp.length=ks.length+l.length/\mh T ops dp)/\∃ h1,Q e' h1/\∃ m',b<=m'/\h'={ h1 with low:=m' }
 | [],j,ks,e,h,m,Q,hb,hm,hj,hd,n7,hw=>⟨⟨rfl,n7⟩,h,hw,m,hm,rfl⟩
 |o::l,j,ks,e,h,m,Q,hb,hm,hj,hd,n7,hw=>by
  have ke:mQ T ops ks.length=pO T o:=by
   have:ops[ks.length]? = some o:=by
    have h1:(ops.toList.drop j)[0]? = some o:=by rw [hd];rfl
    rw [lq] at h1
    rw [hj]
    simpa using h1
   simp only [mQ,this]
  have mx:ops.toList.drop (j+1)=l:=by
   rw [<- BG,hd]
   rfl
  have fin:∀ (c:Nat) (dp:List Nat) (e':Env) (h':Heap),((dp.length=(ks++[c]).length+l.length/\mh T ops dp)/\∃ h1,Q e' h1/\∃ m',b<=m'/\h'={ h1 with low:=m' }) ->
   ((dp.length=ks.length+(o::l).length/\mh T ops dp)/\∃ h1,Q e' h1/\∃ m',b<=m'/\h'={ h1 with low:=m' }):=by
   intro c dp e' h' ⟨⟨h1,h2⟩,h3⟩
   refine ⟨⟨?_,h2⟩,h3⟩
   simp only [cE,ek,db] at h1 ⊢
   omega
  have kz:∀ h1 h2:Heap,pO T o=true->jH T o e h1 h2=0:=by
   intro h1 h2 hb
   unfold jH
   rw [aD hb]
  simp only [b8,bR,pR] at hw ⊢
  split at hw
  .rename_i fT
   rw [aD fT]
   split at hw
   .rename_i hq
    have h0:=cv.quiet hq hw h.size
    refine cv.mono (λv h' ⟨he,hw⟩=>?_) h0
    subst he
    have hk:jH T o e { h with low:=m } { h with low:=h.size } % 3≠2:=zoU (aR _)
    refine bR.mono _ _ _ _ _ _ (λdp e' h' tY=>fin _ dp e' h' tY) (b8.uo l (j+1) (ks++[jH T o e { h with low:=m } { h with low:=h.size }]) _ h (min m h.size) Q hb (by omega) (by simp [hj]) mx (n7.snoc (.inl hk) (λhb=>kz _ _ (ke ▸ hb))) hw)
   .refine cv.mono (λv h' ⟨⟨h1,h2,h3⟩,hw⟩=>?_) hw
    have hk:jH T o e { h with low:=m } h' % 3≠2\/uI T ops ks.length=true:=h1.imp (λh1=>zoU h1) (λh1=>hj ▸ h1)
    exact bR.mono _ _ _ _ _ _ (λdp e' h' tY=>fin _ dp e' h' tY) (b8.uo l (j+1) (ks++[jH T o e { h with low:=m } h']) _ h' (min m h'.low) Q (by omega) (by omega) (by simp [hj]) mx (n7.snoc hk (λhb=>kz _ _ (ke ▸ hb))) hw)
  .rename_i fT
   rw [az fT]
   exact bR.mono _ _ _ _ _ _ (λdp e' h' tY=>fin 0 dp e' h' tY) (b8.uo l (j+1) (ks++[0]) _ h m Q hb hm (by simp [hj]) mx (n7.snoc (.inl (by decide)) (λ_=>rfl)) hw)

def JC (b:Nat) (Q:Ex->Env->Heap->Prop):Env->Heap->Prop:=λe h1=>∀ m,b<=m->Q .normal e { h1 with low:=m }
theorem zAH {rd:Option Nat} {id:Nat} {ops:List Oper} (b:Nat) (hb:b<=h.size) (hl:b<=h.low) (ht:CU ⟨ops⟩ (mS ops [])=true) (hw:b8 P T ov b ⟨ops⟩ ops 0 e h (JC b Q)):W P T ov rd (.region id ⟨ops⟩ true) e h Q:=by
 simp only [W]
 have:=b8.uo (ops:=⟨ops⟩) ops 0 [] e h h.low (JC b Q) hb hl rfl rfl ⟨λi hi=>by simp at hi,λi hi=>by simp at hi⟩ hw
 refine bR.mono _ _ _ _ _ _ (λdp e' h' hq=>?_) this
 obtain ⟨⟨h1,h2⟩,h3,h4,m',h5,rfl⟩:=hq
 have nb:∀ i,i < (⟨ops⟩:Array Oper).size->i < dp.length:=λi hi=>by rw [h1];simpa using hi
 exact ⟨zt2 ht (λi hi=>h2.ord i (nb i hi)) (λi hi=>h2.blind i (nb i hi)),h4 m' h5⟩
def zG (h0:Heap) (Q:Ex->Env->Heap->Prop):Env->Heap->Prop:=λe h1=>pD h0 h1->∀ h2,Ext h0 h2->Ext (h1.lay [] h2.low) h2->h2.size=h1.size->Q .normal e h2
theorem zAG {rd:Option Nat} {id:Nat} {ops:List Oper} {h0:Heap} (z:Ext h0 h) (ht:CU ⟨ops⟩ (mS ops [])=true) (hw:b8 P T ov (min h0.low h0.size) ⟨ops⟩ ops 0 e h λe' h1=>pD h0 h1/\zG h0 Q e' h1):W P T ov rd (.region id ⟨ops⟩ true) e h Q:=by
 refine zAH (min h0.low h0.size) (by have:=z.size;omega) z.low ht ?_
 have mono:∀ (l:List Oper) (j:Nat) (e:Env) (h:Heap) (Q Q':Env->Heap->Prop),(∀ e h,Q e h->Q' e h)->b8 P T ov (min h0.low h0.size) ⟨ops⟩ l j e h Q->b8 P T ov (min h0.low h0.size) ⟨ops⟩ l j e h Q':=by
  intro l
  induction l with
  |nil=>intro j e h Q Q' hq hw;exact hq _ _ hw
  |cons o l ih =>
   intro j e h Q Q' hq hw
   simp only [b8,pR] at hw ⊢
   split at hw
   .rename_i fT
    rw [aD fT]
    split at hw
    .rename_i Vl
     rw [aD Vl]
     exact cv.mono (λv h'=>ih _ _ _ _ _ hq) hw
    .rename_i Vl
     rw [az Vl]
     exact cv.mono (λv h' ⟨h1,h2⟩=>⟨h1,ih _ _ _ _ _ hq h2⟩) hw
   .rename_i fT
    rw [az fT]
    exact ih _ _ _ _ _ hq hw
 refine mono _ _ _ _ _ _ ?_ hw
 rintro e' h1 ⟨hi,hq⟩ m hm
 refine hq hi { h1 with low:=m } ⟨hi.size,hi.get,hm⟩ ⟨aR _,λ_ _=>rfl,?_⟩ rfl
 show min m h1.size<=m
 omega
end
section
variable (P:Program) (T:bJ) (ov:Ov)
def QK (ops:Array Oper) (o:Oper) (l:List Oper) (d:Option Tmp) (e:Env) (h:Heap) (Q:Env->Heap->Prop) (b:Bool):Prop:=if b=true then cv P T ov o e h (vD P T ov ops l d Q e) else di P T ov ops l (put e d undef) h Q
def Nj (b:Nat) (ops:Array Oper) (o:Oper) (l:List Oper) (j:Nat) (d:Option Tmp) (e:Env) (h:Heap) (Q:Env->Heap->Prop) (w q:Bool):Prop :=
 if w=true then (if q=true then cv P T ov o e h (N0 P T ov b ops l j d Q e h) else cv P T ov o e (h.lay [] h.size) (zd P T ov b ops l j d Q e h)) else b8 P T ov b ops l (j+1) (put e d undef) h Q
end
section
variable {P:Program} {T:bJ} {ov:Ov}
theorem zql (ops:Array Oper) (o:Oper) (l:List Oper) (d:Option Tmp) (e:Env) (h:Heap) (Q:Env->Heap->Prop):QK P T ov ops o l d e h Q true=cv P T ov o e h (vD P T ov ops l d Q e):=rfl
theorem zn4 (ops:Array Oper) (o:Oper) (l:List Oper) (d:Option Tmp) (e:Env) (h:Heap) (Q:Env->Heap->Prop):QK P T ov ops o l d e h Q false=di P T ov ops l (put e d undef) h Q:=rfl
theorem ztz (ops:Array Oper) (o:Oper) (l:List Oper) (e:Env) (h:Heap) (Q:Env->Heap->Prop):di P T ov ops (o::l) e h Q=QK P T ov ops o l o.dst e h Q (ma ops o e):=znX _ _ _ _ _ _
theorem zmc (b:Nat) (ops:Array Oper) (o:Oper) (l:List Oper) (j:Nat) (d:Option Tmp) (e:Env) (h:Heap) (Q:Env->Heap->Prop):Nj P T ov b ops o l j d e h Q true true=cv P T ov o e h (N0 P T ov b ops l j d Q e h):=rfl
theorem zn2 (b:Nat) (ops:Array Oper) (o:Oper) (l:List Oper) (j:Nat) (d:Option Tmp) (e:Env) (h:Heap) (Q:Env->Heap->Prop):Nj P T ov b ops o l j d e h Q true false=cv P T ov o e (h.lay [] h.size) (zd P T ov b ops l j d Q e h):=rfl
theorem zn3 (b:Nat) (ops:Array Oper) (o:Oper) (l:List Oper) (j:Nat) (d:Option Tmp) (e:Env) (h:Heap) (Q:Env->Heap->Prop) (q:Bool):Nj P T ov b ops o l j d e h Q false q=b8 P T ov b ops l (j+1) (put e d undef) h Q:=rfl
theorem zqk (b:Nat) (ops:Array Oper) (o:Oper) (l:List Oper) (j:Nat) (e:Env) (h:Heap) (Q:Env->Heap->Prop):b8 P T ov b ops (o::l) j e h Q=Nj P T ov b ops o l j o.dst e h Q (ma ops o e) (eR o):=zty _ _ _ _ _ _ _ _
end
theorem Q2 {P:Program} {T:bJ} {ov:Ov} {rd:Option Nat} (R:Env->Heap->Prop)
 (h1:W P T ov rd c e h λx e' h'=>x=.normal/\R e' h') (h2:∀ e' h',R e' h'->Q .normal e' h'):W P T ov rd c e h Q :=
 W.mono c _ _ _ _ (λx e' h' ⟨hx,hr⟩=>by subst hx;exact h2 e' h' hr) h1
theorem Fa {shape:(Nat->ai)->Env} (h:e=shape e.get):∃ J,e=shape J:=⟨_,h⟩
theorem Gq {shape:(Nat->ai)->Env} {p:(Nat->ai)->Prop} (h:e=shape e.get) (hp:p e.get):∃ J,e=shape J/\p J:=⟨_,h,hp⟩
theorem uB {P:Program} {T:bJ} {ov:Ov} {rd:Option Nat} {h1:Heap} {bs:List aZ} {w:Nat} 
 (hk:∀ h2,Ext (h1.lay bs w) h2->(∀ (i:Nat) (b:aZ),bs[i]? = some b->Holds h2 (h1.size+i) b)->W P T ov rd c e h2 Q):W P T ov rd c e (h1.lay bs w) Q:=by
 refine hk _ (Ext.refl _) λi b hi=>?_
 have hl:=(fG.1 hi).1
 exact ⟨by rw [bh];omega,by rw [jG];exact hi⟩
def Dl (I:Nat->Env->Heap->Prop) (n:Nat) (Q:Ex->Env->Heap->Prop):Ex->Env->Heap->Prop
 | .normal,e',h'=>∃ m,m < n/\I m e' h'
 | .exit i,e',h'=>Q (.exit i) e' h'
 | .ret,e',h'=>Q .ret e' h'
section
variable {P:Program} {T:bJ} {ov:Ov} {rd:Option Nat}
theorem zuv (I:Nat->Env->Heap->Prop) (n:Nat) (Q:Ex->Env->Heap->Prop) (i:Nat) (e':Env) (h':Heap):Dl I n Q (.exit i) e' h'=Q (.exit i) e' h':=rfl
theorem zw1 (I:Nat->Env->Heap->Prop) (n:Nat) (Q:Ex->Env->Heap->Prop) (e':Env) (h':Heap):Dl I n Q .ret e' h'=Q .ret e' h':=rfl
theorem cF {I:Nat->Env->Heap->Prop} {n m:Nat} {e':Env} (hm:m < n) (hi:I m e' h'):Dl I n Q .normal e' h':=⟨m,hm,hi⟩
theorem dN (I:Nat->Env->Heap->Prop) (n0:Nat) (h0:I n0 e h) (round:∀ n e h,I n e h->W P T ov rd c e h (Dl I n Q)):W P T ov rd (.loop c) e h Q:=by
 have key:∀ (k n:Nat) (e:Env) (h:Heap),n < k->I n e h->dX (W P T ov rd c) Q k e h:=by
  intro k
  induction k with
  |zero=>intro n e h hn;omega
  |succ k ih =>
   intro n e h hn hI
   simp only [dX]
   refine W.mono c _ _ _ _ ?_ (round n e h hI)
   intro x e' h'
   cases x with
   |normal=>rintro ⟨m,h1,h2⟩;exact ih m e' h' (by omega) h2
   |exit i=>exact λhh=>hh
   |ret=>exact λhh=>hh
 exact ⟨n0+1,key (n0+1) n0 e h (ri _) h0⟩
end
end Go.Am
