/- Regions that draw their order, in which nothing that is there is turned. No condition. -/
import Derived.Test.YtkgojconmeeegaaGreatDoorG4
set_option linter.unusedSimpArgs false
namespace Go.Am
variable {h h1:Heap} {w:Nat} {l:List bh}
section
variable (P:Program) (T:bL) (ov:Ov)
end
section
variable {P:Program} {T:bL} {ov:Ov}
theorem zrE {o:Oper} {e:Env} {h':Heap} (hb:rR T o=true\/h.size<=h'.low):kJ T o e h h' % 3≠2:=by
 unfold kJ
 split
 .decide
 .rename_i Y1
  rcases hb with hb|hb
  .exact (Y1 hb).elim
  .rw [aE hb]
   split
   .split <;> omega
   .omega
   .omega
theorem bG (h:Heap) (l m:List bh) (w v:Nat):(h.lay l w).lay m v=h.lay (l++m) v:=by
 simp only [Heap.lay,List.foldl_append]
 congr 1
 .simp only [Uj]
 .have key:∀ (m:List bh) (a b:Heap),a.size=b.size->a.tr=b.tr->(m.foldl Heap.push a).tr=(m.foldl Heap.push b).tr:=by
   intro m
   induction m with
   |nil=>intro a b _ h2;exact h2
   |cons c m ih =>
    intro a b h1 h2
    rw [wu,wu]
    exact ih _ _ (by simp [Heap.push,h1]) (by simp [Heap.push,h1,h2])
  exact key m _ _ rfl rfl
theorem dp:(∀ (l:List bh) (w:Nat) (h:Heap),(h.lay l w).size=h.size+l.length)/\(∀ (a:bh) (l:List bh),(a::l).length=l.length+1)/\([]:List bh).length=0:=⟨λl w h=>bf h l w,λ_ _=>rfl,rfl⟩
end
theorem Ext.OR {h2:Heap} (z:Ext h h1) (x:Ext (h1.lay l w) h2) (hw:min h1.low h1.size<=w):Ext h h2:=(z.trans (zrJ _ _ _ hw)).trans x
theorem Ext.je (z:Ext h h1) (l:List bh) (w:Nat) (hw:min h1.low h1.size<=w):Ext h (h1.lay l w):=z.trans (zrJ _ _ _ hw)
theorem Ext.au (z:Ext h h1) (hw:min h1.low h1.size<=w:=by omega):Ext h (h1.lay l w):=z.je l w hw
theorem Ext.aj {h2:Heap} (z:Ext h h1) (x:Ext (h1.lay l w) h2) (hw:min h1.low h1.size<=w:=by omega):Ext h h2:=z.OR x hw
end Go.Am
namespace Go.Am
variable {h h':Heap} {v:ae} {o:Oper} {e:Env} {d:Option Tmp} {b j:Nat} {l:List Oper} {ops:Array Oper} {Q:Ex->Env->Heap->Prop} {c:Code}
structure AX (h h':Heap):Prop where
 size:h.size<=h'.size
 get:∀ A,A < h.size->h'.get A=h.get A
theorem Ext.bZ (x:Ext h h'):AX h h':=⟨x.size,x.get⟩
theorem AX.lay {h h1:Heap} (g:AX h h1) (l:List bh) (w:Nat):AX h (h1.lay l w):=⟨by rw [bf];have:=g.size;omega,λA hA=>(Er h1 l w (eW hA g.size)).trans (g.get A hA)⟩
structure b8 (h h':Heap):Prop where
 size:h.size<=h'.size
 get:∀ A,A < h.size->h.get A≠some .dead->h'.get A=h.get A
theorem b8.refl (h:Heap):b8 h h:=⟨bo _,λ_ _ _=>rfl⟩
theorem b8.trans {a b c:Heap} (x:b8 a b) (y:b8 b c):b8 a c:=⟨il x.size y.size,λA hA hd=>by
 have h1:=x.get A hA hd
 exact (y.get A (eW hA x.size) (by rw [h1];exact hd)).trans h1⟩
theorem Ext.inc (x:Ext h h'):b8 h h':=⟨x.size,λA hA _=>x.get A hA⟩
theorem b8.lay (h:Heap) (l:List bh) (w:Nat):b8 h (h.lay l w):=⟨by rw [bf];omega,λA hA _=>Er h l w hA⟩
theorem b8.at (i:b8 h h') {A:Nat} {cs:List ae} {u:TypeId} {ro:Bool} (hA:A < h.size) (hg:h.get A=some (.row cs u ro)):h'.get A=some (.row cs u ro):=(i.get A hA (by rw [hg];simp)).trans hg
theorem b8.qd {l:List bh} {w:Nat} (x:b8 (h.lay l w) h'):b8 h h':=(b8.lay h l w).trans x

def fh (o:Oper):Bool:=match o.op with
 | .move _ | .assign _ | .pick _ _ _ | .build _ _ | .load _ _ | .nilCheck _ | .binOp _ _ _ _ _ | .makeFunc _ _ _ | .slice _ _ _ _ _ | .fieldAddr _ _ _ | .field _ _ _ | .indexAddr _ _ _ | .extract _ _ | .unOp _ _ _ | .index _ _ _ | .lookup _ _ _ _=>true
 | .call c=>(match c.callee with
  | .builtin .len | .builtin .min | .builtin .max=>true
  |_=>false)
 |_=>false
def xg (T:bL) (ops:Array Oper) (j:Nat):Bool :=
 let ms:=nS ops.toList []
 (List.range j).all (λi=>(ms.getD j 0).testBit i || nM T ops i) && (List.range ops.size).all λi => !decide (j < i) || ((ms.getD i 0).testBit j || nM T ops i)

section
variable {P:Program} {T:bL} {C:Fn->List ae->Heap->Option (ae × Heap)}
theorem zvv (hb:fh o=true) (an:jc P T C e o h=some (v,h')):h'=h/\∀ w,jc P T C e o { h with low:=w }=some (v,{ h with low:=w }):=by
 have cS:∀ {r:Option ae},(r.map λx=>(x,h))=some (v,h')->h'=h/\∀ h2:Heap,(r.map λx=>(x,h2))=some (v,h2):=by
  intro r hr
  simp only [cC,df] at hr
  obtain ⟨_,rfl,rfl,rfl⟩:=hr
  exact ⟨rfl,λ_=>rfl⟩
 have eg:ic P e o h=some (v,h')->h'=h/\∀ h2,ic P e o h2=some (v,h2):=by
  intro hp
  unfold ic at hp ⊢
  split at hp
  .rename_i h1
   split at hp
   .rename_i h2
    split at hp
    .rename_i h3
     cases hp
     exact ⟨rfl,λ_=>by simp [h1,h3]⟩
    .cases hp
   .cases hp
  .cases hp
 obtain ⟨dst,op,ty,pos,after,guard⟩:=o
 cases op <;> simp only [fh,gW] at hb <;> simp only [jc] at an ⊢
 case move x=>cases an;exact ⟨rfl,λ_=>rfl⟩
 case assign x=>cases an;exact ⟨rfl,λ_=>rfl⟩
 case pick c a b =>
  split at an
  .cases an;exact ⟨rfl,λ_=>rfl⟩
  .cases an
 case build=>obtain ⟨a,b⟩:=cS an;exact ⟨a,λw=>b _⟩
 case load =>
  obtain ⟨a,b⟩:=cS an
  exact ⟨a,λw=>b _⟩
 case lookup =>
  obtain ⟨a,b⟩:=cS an
  exact ⟨a,λw=>b _⟩
 case nilCheck x =>
  split at an
  .cases an;exact ⟨rfl,λ_=>rfl⟩
  .cases an;exact ⟨rfl,λ_=>rfl⟩
  .cases an;exact ⟨rfl,λ_=>rfl⟩
  .cases an
 case binOp=>obtain ⟨a,b⟩:=cS an;exact ⟨a,λw=>b _⟩
 case makeFunc fn f c =>
  split at an
  .cases an;exact ⟨rfl,λ_=>rfl⟩
  .cases an
 case slice=>obtain ⟨a,b⟩:=cS an;exact ⟨a,λw=>b _⟩
 case fieldAddr=>obtain ⟨a,b⟩:=cS an;exact ⟨a,λw=>b _⟩
 case field=>obtain ⟨a,b⟩:=cS an;exact ⟨a,λw=>b _⟩
 case indexAddr=>obtain ⟨a,b⟩:=cS an;exact ⟨a,λw=>b _⟩
 case extract t i =>
  split at an
  .obtain ⟨a,b⟩:=cS an;exact ⟨a,λw=>b _⟩
  .cases an
 case unOp=>obtain ⟨a,b⟩:=eg an;exact ⟨a,λw=>b _⟩
 case index=>obtain ⟨a,b⟩:=eg an;exact ⟨a,λw=>b _⟩
 case call c =>
  obtain ⟨callee,args,iy⟩:=c
  cases callee with
  |value f=>simp at hb
  |invoke r m=>simp at hb
  |builtin b =>
   cases b <;> simp at hb <;> simp only at an ⊢
   case len =>
    split at an
    .obtain ⟨a,b⟩:=cS an;exact ⟨a,λw=>b _⟩
    .cases an
   case min=>obtain ⟨a,b⟩:=eg an;exact ⟨a,λw=>b _⟩
   case max=>obtain ⟨a,b⟩:=eg an;exact ⟨a,λw=>b _⟩
end

section
variable (P:Program) (T:bL) (ov:Ov)
def cw (b:Nat) (ops:Array Oper):List Oper->Nat->Env->Heap->(Env->Heap->Prop)->Prop
 | [],_,e,h,Q=>Q e h
 |o::l,j,e,h,Q=>sV (nP ops o e)
    (if fh o=true then cy P T ov o e h λv _=>cw b ops l (j+1) (put e o.dst v) h Q
     else cy P T ov o e { h with low:=h.size } λv h'=>((h.size<=h'.low\/xg T ops j=true)/\b<=h'.low/\h.size<=h'.size)/\cw b ops l (j+1) (put e o.dst v) h' Q)
    (cw b ops l (j+1) (put e o.dst undef) h Q)
def SF (b:Nat) (ops:Array Oper) (l:List Oper) (j:Nat) (d:Option Tmp) (Q:Env->Heap->Prop) (e:Env) (h:Heap):aG:=λv _=>Hid (cw P T ov b ops l (j+1) (put e d v) h Q)
def C8 (b:Nat) (ops:Array Oper) (l:List Oper) (j:Nat) (d:Option Tmp) (Q:Env->Heap->Prop) (e:Env) (h:Heap):aG :=
 λv h'=>Hid (((h.size<=h'.low\/xg T ops j=true)/\b<=h'.low/\h.size<=h'.size)/\cw P T ov b ops l (j+1) (put e d v) h' Q)
def Sy (b:Nat) (ops:Array Oper) (o:Oper) (l:List Oper) (j:Nat) (e:Env) (h:Heap) (Q:Env->Heap->Prop) (w q:Bool):Prop :=
 if w=true then (if q=true then cy P T ov o e h (SF P T ov b ops l j o.dst Q e h) else cy P T ov o e (h.lay [] h.size) (C8 P T ov b ops l j o.dst Q e h)) else cw P T ov b ops l (j+1) (put e o.dst undef) h Q
end
section
variable {P:Program} {T:bL} {ov:Ov}
theorem zwr (b:Nat) (ops:Array Oper) (j:Nat) (e:Env) (h:Heap) (Q:Env->Heap->Prop):cw P T ov b ops [] j e h Q=Q e h:=rfl
theorem zt2 (b:Nat) (ops:Array Oper) (o:Oper) (l:List Oper) (j:Nat) (e:Env) (h:Heap) (Q:Env->Heap->Prop):cw P T ov b ops (o::l) j e h Q=Sy P T ov b ops o l j e h Q (nP ops o e) (fh o):=by
 simp only [cw,sV,Sy]
 split
 .split
  .exact propext ⟨cy.mono λ_ _ hw=>⟨hw⟩,cy.mono λ_ _ hw=>hw.out⟩
  .exact propext ⟨cy.mono λ_ _ hw=>⟨hw⟩,cy.mono λ_ _ hw=>hw.out⟩
 .rfl
theorem zqk (b:Nat) (ops:Array Oper) (o:Oper) (l:List Oper) (j:Nat) (e:Env) (h:Heap) (Q:Env->Heap->Prop):Sy P T ov b ops o l j e h Q true true=cy P T ov o e h (SF P T ov b ops l j o.dst Q e h):=rfl
theorem zso (b:Nat) (ops:Array Oper) (o:Oper) (l:List Oper) (j:Nat) (e:Env) (h:Heap) (Q:Env->Heap->Prop):Sy P T ov b ops o l j e h Q true false=cy P T ov o e (h.lay [] h.size) (C8 P T ov b ops l j o.dst Q e h):=rfl
theorem zsp (b:Nat) (ops:Array Oper) (o:Oper) (l:List Oper) (j:Nat) (e:Env) (h:Heap) (Q:Env->Heap->Prop) (q:Bool):Sy P T ov b ops o l j e h Q false q=cw P T ov b ops l (j+1) (put e o.dst undef) h Q:=rfl
theorem zwo (b:Nat) (ops:Array Oper) (l:List Oper) (j:Nat) (d:Option Tmp) (Q:Env->Heap->Prop) (e:Env) (h:Heap) (v:ae) (h':Heap):SF P T ov b ops l j d Q e h v h'=cw P T ov b ops l (j+1) (put e d v) h Q:=zxp _
theorem di {Q:Env->Heap->Prop} (hb:b<=h.size) (x:Ext (h.lay [] h.size) h') (hk:cw P T ov b ops l (j+1) (put e d v) h' Q):C8 P T ov b ops l j d Q e h v h':=by
 have h1:=x.low
 have h2:=x.size
 rw [zrK,bf] at h1
 rw [bf] at h2
 simp only [dr,jh] at h1 h2
 exact ⟨⟨⟨.inl (by omega),by omega,by omega⟩,hk⟩⟩
structure fB (A:Nat) (h h':Heap):Prop where
 size:h.size<=h'.size
 get:∀ B,B < h.size->B≠A->h'.get B=h.get B
 low:min (min h.low h.size) A<=h'.low
theorem mW {A:Nat} {Q:Env->Heap->Prop} (ho:xg T ops j=true) (hb:b<=h.size) (hA:b<=A) (x:fB A (h.lay [] h.size) h') (hk:cw P T ov b ops l (j+1) (put e d v) h' Q):C8 P T ov b ops l j d Q e h v h':=by
 have h1:=x.low
 have h2:=x.size
 rw [zrK,bf] at h1
 rw [bf] at h2
 simp only [dr,jh] at h1 h2
 exact ⟨⟨⟨.inr ho,by omega,by omega⟩,hk⟩⟩
theorem Ar {Q:Env->Heap->Prop} (ho:xg T ops j=true) (hb:b<=h'.low) (hs:h.size<=h'.size) (hk:cw P T ov b ops l (j+1) (put e d v) h' Q):C8 P T ov b ops l j d Q e h v h' :=
 ⟨⟨⟨.inr ho,hb,hs⟩,hk⟩⟩

theorem zup {ks:List Nat} (h1:Ey ops (nS ops.toList [])=true) (h2:∀ i,i < ops.size->ks.getD i 2 % 3≠2\/xg T ops i=true) (h3:∀ i,i < ops.size->nM T ops i=true->ks.getD i 2=0):HV ops ks (nS ops.toList [])=true:=by
 unfold HV
 rw [gK]
 intro j hj
 have IH:j < ops.size:=uc.1 hj
 unfold Ey at h1
 have h1:=gK.1 h1 j hj
 unfold JC
 split
 .rename_i oj rA
  rw [rA] at h1
  simp only [dP] at h1 ⊢
  refine ⟨h1.1,?_⟩
  rw [gK]
  intro i hi
  have dF:i < j:=uc.1 hi
  have h4:=gK.1 h1.2 i hi
  cases ht:((nS ops.toList []).getD j 0).testBit i with
  |true=>rfl
  |false =>
   rw [ht] at h4
   simp only [Ih] at h4 ⊢
   split at h4
   .rename_i oi BX
    rw [BX]
    simp only
    rw [dP]
    refine ⟨h4,?_⟩
    have key:∀ x y:Nat,x % 3≠2->y % 3≠2->oM x y=true:=by
     intro x y h5 h6
     unfold oM
     simp [h5,h6]
    have no1:xg T ops i=true->oM (ks.getD i 2) (ks.getD j 2)=true:=by
     intro hm
     unfold xg at hm
     simp only [dP,gK,uc] at hm
     have:=hm.2 j IH
     rw [ht] at this
     simp only [dF,decide_true,Bool.not_true,Ih] at this
     rw [h3 j IH this]
     simp [oM]
    have no2:xg T ops j=true->oM (ks.getD i 2) (ks.getD j 2)=true:=by
     intro hm
     unfold xg at hm
     simp only [dP,gK,uc] at hm
     have:=hm.1 i dF
     rw [ht] at this
     simp only [Ih] at this
     rw [h3 i (by omega) this]
     simp [oM]
    rcases h2 i (by omega) with h5|h5
    .rcases h2 j IH with h6|h6
     .exact key _ _ h5 h6
     .exact no2 h6
    .exact no1 h5
   .rename_i BX;rw [BX]
 .rfl
theorem zpj (hb:h.size<=h'.low):kJ T o e h h' % 3≠2:=zrE (.inr hb)

theorem cy.quiet {K:aG} (hq:fh o=true) (hw:cy P T ov o e h K) (w:Nat):cy P T ov o e { h with low:=w } λv h'=>h'={ h with low:=w }/\K v h:=by
 have qD:UR o=false:=by
  obtain ⟨dst,op,ty,pos,after,guard⟩:=o
  cases op <;> first|rfl|skip
  rename_i c
  obtain ⟨callee,args,iy⟩:=c
  cases callee <;> first|rfl|simp [fh] at hq
 rw [zzm qD] at hw ⊢
 unfold dx at hw ⊢
 split at hw
 .rename_i v h' an
  obtain ⟨rfl,h2⟩:=zvv hq an
  rw [h2 w]
  exact ⟨rfl,hw⟩
 .exact hw.elim

structure m8 (T:bL) (ops:Array Oper) (ks:List Nat):Prop where
 ord:∀ i,i < ks.length->ks.getD i 2 % 3≠2\/xg T ops i=true
 blind:∀ i,i < ks.length->nM T ops i=true->ks.getD i 2=0
theorem m8.snoc {ks:List Nat} {c:Nat} (hk:m8 T ops ks) (h1:c % 3≠2\/xg T ops ks.length=true) (h2:nM T ops ks.length=true->c=0):m8 T ops (ks++[c]):=by
 have get:∀ i,i < (ks++[c]).length->(i < ks.length/\(ks++[c]).getD i 2=ks.getD i 2)\/(i=ks.length/\(ks++[c]).getD i 2=c):=by
  intro i hi
  rw [cW,sW] at hi
  by_cases aP:i < ks.length
  .refine .inl ⟨aP,?_⟩
   rw [kK,kK,mX aP]
  .have:i=ks.length:=by omega
   subst this
   refine .inr ⟨rfl,?_⟩
   rw [kK,px (by omega),Df]
   rfl
 constructor
 .intro i hi
  rcases get i hi with ⟨g1,g2⟩|⟨g1,g2⟩
  .rw [g2];exact hk.ord i g1
  .rw [g2,g1];exact h1
 .intro i hi hb
  rcases get i hi with ⟨g1,g2⟩|⟨g1,g2⟩
  .rw [g2];exact hk.blind i g1 hb
  .rw [g2];rw [g1] at hb;exact h2 hb
theorem cw.An {ops:Array Oper} {b:Nat}:∀ (l:List Oper) (j:Nat) (ks:List Nat) (e:Env) (h:Heap) (m:Nat) (Q:Env->Heap->Prop),b<=h.size->b<=m->ks.length=j->ops.toList.drop j=l->m8 T ops ks->cw P T ov b ops l j e h Q ->
 cn P T ov ops l ks e { h with low:=m } λeI e' h'=>(eI.length=ks.length+l.length/\m8 T ops eI)/\∃ h1,Q e' h1/\∃ m',b<=m'/\h'={ h1 with low:=m' }
 | [],j,ks,e,h,m,Q,hb,hm,hj,hd,wJ,hw=>⟨⟨rfl,wJ⟩,h,hw,m,hm,rfl⟩
 |o::l,j,ks,e,h,m,Q,hb,hm,hj,hd,wJ,hw=>by
  have mC:nM T ops ks.length=rR T o:=by
   have:ops[ks.length]? = some o:=by
    have h1:(ops.toList.drop j)[0]? = some o:=by rw [hd];rfl
    rw [lA] at h1
    rw [hj]
    simpa using h1
   simp only [nM,this]
  have mg:ops.toList.drop (j+1)=l:=by
   rw [<- Dd,hd]
   rfl
  have fin:∀ (c:Nat) (eI:List Nat) (e':Env) (h':Heap),((eI.length=(ks++[c]).length+l.length/\m8 T ops eI)/\∃ h1,Q e' h1/\∃ m',b<=m'/\h'={ h1 with low:=m' }) ->
   ((eI.length=ks.length+(o::l).length/\m8 T ops eI)/\∃ h1,Q e' h1/\∃ m',b<=m'/\h'={ h1 with low:=m' }):=by
   intro c eI e' h' ⟨⟨h1,h2⟩,h3⟩
   refine ⟨⟨?_,h2⟩,h3⟩
   simp only [cW,de,dr] at h1 ⊢
   omega
  have kz:∀ h1 h2:Heap,rR T o=true->kJ T o e h1 h2=0:=by
   intro h1 h2 hb
   unfold kJ
   rw [aE hb]
  simp only [cw,cn,sV] at hw ⊢
  split at hw
  .rename_i iE
   rw [aE iE]
   split at hw
   .rename_i hq
    have h0:=cy.quiet hq hw h.size
    refine cy.mono (λv h' ⟨he,hw⟩=>?_) h0
    subst he
    have hk:kJ T o e { h with low:=m } { h with low:=h.size } % 3≠2:=zpj (bo _)
    refine cn.mono _ _ _ _ _ _ (λeI e' h' vE=>fin _ eI e' h' vE) (cw.An l (j+1) (ks++[kJ T o e { h with low:=m } { h with low:=h.size }]) _ h (min m h.size) Q hb (by omega) (by simp [hj]) mg (wJ.snoc (.inl hk) (λhb=>kz _ _ (mC ▸ hb))) hw)
   .refine cy.mono (λv h' ⟨⟨h1,h2,h3⟩,hw⟩=>?_) hw
    have hk:kJ T o e { h with low:=m } h' % 3≠2\/xg T ops ks.length=true:=h1.imp (λh1=>zpj h1) (λh1=>hj ▸ h1)
    exact cn.mono _ _ _ _ _ _ (λeI e' h' vE=>fin _ eI e' h' vE) (cw.An l (j+1) (ks++[kJ T o e { h with low:=m } h']) _ h' (min m h'.low) Q (by omega) (by omega) (by simp [hj]) mg (wJ.snoc hk (λhb=>kz _ _ (mC ▸ hb))) hw)
  .rename_i iE
   rw [az iE]
   exact cn.mono _ _ _ _ _ _ (λeI e' h' vE=>fin 0 eI e' h' vE) (cw.An l (j+1) (ks++[0]) _ h m Q hb hm (by simp [hj]) mg (wJ.snoc (.inl (by decide)) (λ_=>rfl)) hw)

def MD (b:Nat) (Q:Ex->Env->Heap->Prop):Env->Heap->Prop:=λe h1=>∀ m,b<=m->Q .normal e { h1 with low:=m }
theorem zBM {rd:Option Nat} {id:Nat} {ops:List Oper} (b:Nat) (hb:b<=h.size) (hl:b<=h.low) (ht:Ey ⟨ops⟩ (nS ops [])=true) (hw:cw P T ov b ⟨ops⟩ ops 0 e h (MD b Q)):W P T ov rd (.region id ⟨ops⟩ true) e h Q:=by
 simp only [W]
 have:=cw.An (ops:=⟨ops⟩) ops 0 [] e h h.low (MD b Q) hb hl rfl rfl ⟨λi hi=>by simp at hi,λi hi=>by simp at hi⟩ hw
 refine cn.mono _ _ _ _ _ _ (λeI e' h' hq=>?_) this
 obtain ⟨⟨h1,h2⟩,h3,h4,m',h5,rfl⟩:=hq
 have j7:∀ i,i < (⟨ops⟩:Array Oper).size->i < eI.length:=λi hi=>by rw [h1];simpa using hi
 exact ⟨zup ht (λi hi=>h2.ord i (j7 i hi)) (λi hi=>h2.blind i (j7 i hi)),h4 m' h5⟩
def Bw (h0:Heap) (Q:Ex->Env->Heap->Prop):Env->Heap->Prop:=λe h1=>AX h0 h1->∀ h2,Ext h0 h2->Ext (h1.lay [] h2.low) h2->h2.size=h1.size->Q .normal e h2
theorem zBL {rd:Option Nat} {id:Nat} {ops:List Oper} {h0:Heap} (z:Ext h0 h) (ht:Ey ⟨ops⟩ (nS ops [])=true) (hw:cw P T ov (min h0.low h0.size) ⟨ops⟩ ops 0 e h λe' h1=>AX h0 h1/\Bw h0 Q e' h1):W P T ov rd (.region id ⟨ops⟩ true) e h Q:=by
 refine zBM (min h0.low h0.size) (by have:=z.size;omega) z.low ht ?_
 have mono:∀ (l:List Oper) (j:Nat) (e:Env) (h:Heap) (Q Q':Env->Heap->Prop),(∀ e h,Q e h->Q' e h)->cw P T ov (min h0.low h0.size) ⟨ops⟩ l j e h Q->cw P T ov (min h0.low h0.size) ⟨ops⟩ l j e h Q':=by
  intro l
  induction l with
  |nil=>intro j e h Q Q' hq hw;exact hq _ _ hw
  |cons o l ih =>
   intro j e h Q Q' hq hw
   simp only [cw,sV] at hw ⊢
   split at hw
   .rename_i iE
    rw [aE iE]
    split at hw
    .rename_i Zd
     rw [aE Zd]
     exact cy.mono (λv h'=>ih _ _ _ _ _ hq) hw
    .rename_i Zd
     rw [az Zd]
     exact cy.mono (λv h' ⟨h1,h2⟩=>⟨h1,ih _ _ _ _ _ hq h2⟩) hw
   .rename_i iE
    rw [az iE]
    exact ih _ _ _ _ _ hq hw
 refine mono _ _ _ _ _ _ ?_ hw
 rintro e' h1 ⟨hi,hq⟩ m hm
 refine hq hi { h1 with low:=m } ⟨hi.size,hi.get,hm⟩ ⟨bo _,λ_ _=>rfl,?_⟩ rfl
 show min m h1.size<=m
 omega
end
section
variable (P:Program) (T:bL) (ov:Ov)
def U8 (ops:Array Oper) (o:Oper) (l:List Oper) (d:Option Tmp) (e:Env) (h:Heap) (Q:Env->Heap->Prop) (b:Bool):Prop:=if b=true then cy P T ov o e h (xo P T ov ops l d Q e) else dA P T ov ops l (put e d undef) h Q
def RI (b:Nat) (ops:Array Oper) (o:Oper) (l:List Oper) (j:Nat) (d:Option Tmp) (e:Env) (h:Heap) (Q:Env->Heap->Prop) (w q:Bool):Prop :=
 if w=true then (if q=true then cy P T ov o e h (SF P T ov b ops l j d Q e h) else cy P T ov o e (h.lay [] h.size) (C8 P T ov b ops l j d Q e h)) else cw P T ov b ops l (j+1) (put e d undef) h Q
end
section
variable {P:Program} {T:bL} {ov:Ov}
theorem zq2 (ops:Array Oper) (o:Oper) (l:List Oper) (d:Option Tmp) (e:Env) (h:Heap) (Q:Env->Heap->Prop):U8 P T ov ops o l d e h Q true=cy P T ov o e h (xo P T ov ops l d Q e):=rfl
theorem zok (ops:Array Oper) (o:Oper) (l:List Oper) (d:Option Tmp) (e:Env) (h:Heap) (Q:Env->Heap->Prop):U8 P T ov ops o l d e h Q false=dA P T ov ops l (put e d undef) h Q:=rfl
theorem zt3 (ops:Array Oper) (o:Oper) (l:List Oper) (e:Env) (h:Heap) (Q:Env->Heap->Prop):dA P T ov ops (o::l) e h Q=U8 P T ov ops o l o.dst e h Q (nP ops o e):=zof _ _ _ _ _ _
theorem zmn (b:Nat) (ops:Array Oper) (o:Oper) (l:List Oper) (j:Nat) (d:Option Tmp) (e:Env) (h:Heap) (Q:Env->Heap->Prop):RI P T ov b ops o l j d e h Q true true=cy P T ov o e h (SF P T ov b ops l j d Q e h):=rfl
theorem zoi (b:Nat) (ops:Array Oper) (o:Oper) (l:List Oper) (j:Nat) (d:Option Tmp) (e:Env) (h:Heap) (Q:Env->Heap->Prop):RI P T ov b ops o l j d e h Q true false=cy P T ov o e (h.lay [] h.size) (C8 P T ov b ops l j d Q e h):=rfl
theorem zoj (b:Nat) (ops:Array Oper) (o:Oper) (l:List Oper) (j:Nat) (d:Option Tmp) (e:Env) (h:Heap) (Q:Env->Heap->Prop) (q:Bool):RI P T ov b ops o l j d e h Q false q=cw P T ov b ops l (j+1) (put e d undef) h Q:=rfl
theorem zq1 (b:Nat) (ops:Array Oper) (o:Oper) (l:List Oper) (j:Nat) (e:Env) (h:Heap) (Q:Env->Heap->Prop):cw P T ov b ops (o::l) j e h Q=RI P T ov b ops o l j o.dst e h Q (nP ops o e) (fh o):=zt2 _ _ _ _ _ _ _ _
end
theorem zBK {P:Program} {T:bL} {ov:Ov} {rd:Option Nat} (R:Env->Heap->Prop)
 (h1:W P T ov rd c e h λx e' h'=>x=.normal/\R e' h') (h2:∀ e' h',R e' h'->Q .normal e' h'):W P T ov rd c e h Q :=
 W.mono c _ _ _ _ (λx e' h' ⟨hx,hr⟩=>by subst hx;exact h2 e' h' hr) h1
theorem apl {shape:(Nat->ae)->Env} (h:e=shape e.get):∃ J,e=shape J:=⟨_,h⟩
theorem SM {shape:(Nat->ae)->Env} {p:(Nat->ae)->Prop} (h:e=shape e.get) (hp:p e.get):∃ J,e=shape J/\p J:=⟨_,h,hp⟩
theorem lg {P:Program} {T:bL} {ov:Ov} {rd:Option Nat} {h1:Heap} {bs:List bh} {w:Nat} 
 (hk:∀ h2,Ext (h1.lay bs w) h2->(∀ (i:Nat) (b:bh),bs[i]? = some b->Holds h2 (h1.size+i) b)->W P T ov rd c e h2 Q):W P T ov rd c e (h1.lay bs w) Q:=by
 refine hk _ (Ext.refl _) λi b hi=>?_
 have hl:=(dz.1 hi).1
 exact ⟨by rw [bf];omega,by rw [gH];exact hi⟩
def EX (I:Nat->Env->Heap->Prop) (n:Nat) (Q:Ex->Env->Heap->Prop):Ex->Env->Heap->Prop
 | .normal,e',h'=>∃ m,m < n/\I m e' h'
 | .exit i,e',h'=>Q (.exit i) e' h'
 | .ret,e',h'=>Q .ret e' h'
section
variable {P:Program} {T:bL} {ov:Ov} {rd:Option Nat}
theorem zuR (I:Nat->Env->Heap->Prop) (n:Nat) (Q:Ex->Env->Heap->Prop) (i:Nat) (e':Env) (h':Heap):EX I n Q (.exit i) e' h'=Q (.exit i) e' h':=rfl
theorem zxC (I:Nat->Env->Heap->Prop) (n:Nat) (Q:Ex->Env->Heap->Prop) (e':Env) (h':Heap):EX I n Q .ret e' h'=Q .ret e' h':=rfl
theorem bS {I:Nat->Env->Heap->Prop} {n m:Nat} {e':Env} (hm:m < n) (hi:I m e' h'):EX I n Q .normal e' h':=⟨m,hm,hi⟩
theorem cK (I:Nat->Env->Heap->Prop) (n0:Nat) (h0:I n0 e h) (round:∀ n e h,I n e h->W P T ov rd c e h (EX I n Q)):W P T ov rd (.loop c) e h Q:=by
 have key:∀ (k n:Nat) (e:Env) (h:Heap),n < k->I n e h->ep (W P T ov rd c) Q k e h:=by
  intro k
  induction k with
  |zero=>intro n e h hn;omega
  |succ k ih =>
   intro n e h hn hI
   simp only [ep]
   refine W.mono c _ _ _ _ ?_ (round n e h hI)
   intro x e' h'
   cases x with
   |normal=>rintro ⟨m,h1,h2⟩;exact ih m e' h' (by omega) h2
   |exit i=>exact λhh=>hh
   |ret=>exact λhh=>hh
 exact ⟨n0+1,key (n0+1) n0 e h (xl _) h0⟩
end
end Go.Am
