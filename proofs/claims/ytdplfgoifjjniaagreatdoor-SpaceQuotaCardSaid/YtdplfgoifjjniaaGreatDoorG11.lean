/- Regions that draw their order, in which nothing that is there is turned. No condition. -/
import Derived.Test.YtdplfgoifjjniaaGreatDoorG4
import Derived.Test.YtdplfgoifjjniaaGreatDoorGFast
namespace Go.Am
section
variable (P:Program) (T:Tab) (ov:Ov)
def WOpsN (ops:Array Oper):List Oper→Env→Heap→(Env→Heap→Prop)→Prop
 | [],e,h,Q=>Q e h
 |o::l,e,h,Q=>zfo (zbf ops o e) (WOp P T ov o e { h with low:=h.size } fun v h'=>(zbw T o=true∨h.size≤h'.low)∧WOpsN ops l (put e o.dst v) { h' with low:=min h.low h'.low } Q) (WOpsN ops l (put e o.dst undef) h Q)
end
section
variable {P:Program} {T:Tab} {ov:Ov}
theorem zir {o:Oper} {e:Env} {h h':Heap} (hb:zbw T o=true∨h.size≤h'.low):zcK T o e h h' % 3≠2:=by
 unfold zcK
 split
 ·decide
 ·rename_i hnb
  rcases hb with hb|hb
  ·exact (hnb hb).elim
  ·rw [if_pos hb]
   split
   ·split <;> omega
   ·omega
   ·omega
theorem WOpsN.toK {ops:Array Oper}:∀ (l:List Oper) (ks:List Nat) (e:Env) (h:Heap) (Q:Env→Heap→Prop),(∀ i,i < ks.length→ks.getD i 2 % 3≠2)→WOpsN P T ov ops l e h Q →
 WOpsK P T ov ops l ks e h fun ks' e' h'=>(ks'.length=ks.length+l.length∧∀ i,i < ks'.length→ks'.getD i 2 % 3≠2)∧Q e' h'
 | [],ks,e,h,Q,hks,hw=>⟨⟨rfl,hks⟩,hw⟩
 |o::l,ks,e,h,Q,hks,hw=>by
  have hks':∀ c:Nat,c % 3≠2→∀ i,i < (ks++[c]).length→(ks++[c]).getD i 2 % 3≠2:=by
   intro c hc i hi
   rw [List.length_append,List.length_singleton] at hi
   by_cases hlt:i < ks.length
   ·have:=hks i hlt
    rw [List.getD_eq_getElem?_getD] at this ⊢
    rw [List.getElem?_append_left hlt]
    exact this
   ·have:i=ks.length:=by omega
    subst this
    rw [List.getD_eq_getElem?_getD,List.getElem?_append_right (by omega),Nat.sub_self]
    simpa using hc
  have fin:∀ (c:Nat) (Q':List Nat→Env→Heap→Prop) (ks':List Nat) (e':Env) (h':Heap),(ks'.length=(ks++[c]).length+l.length∧∀ i,i < ks'.length→ks'.getD i 2 % 3≠2)∧Q e' h'→(ks'.length=ks.length+(o::l).length∧∀ i,i < ks'.length→ks'.getD i 2 % 3≠2)∧Q e' h':=by
   intro c Q' ks' e' h' ⟨⟨h1,h2⟩,h3⟩
   refine ⟨⟨?_,h2⟩,h3⟩
   simp only [List.length_append,List.length_cons,List.length_nil] at h1 ⊢
   omega
  simp only [WOpsN,WOpsK,zfo] at hw ⊢
  split at hw
  ·rename_i hwt
   rw [if_pos hwt]
   refine WOp.mono (fun v h' ⟨hb,hw⟩=>?_) hw
   refine WOpsK.mono _ _ _ _ _ _ (fun ks' e' h' hq=>fin _ (fun _ _ _=>True) ks' e' h' hq) (WOpsN.toK l (ks++[zcK T o e h h']) _ _ Q (hks' _ (zir hb)) hw)
  ·rename_i hwt
   rw [if_neg hwt]
   exact WOpsK.mono _ _ _ _ _ _ (fun ks' e' h' hq=>fin 0 (fun _ _ _=>True) ks' e' h' hq) (WOpsN.toK l (ks++[0]) _ _ Q (hks' 0 (by decide)) hw)
theorem zan (h:Heap) (l m:List Blk) (w v:Nat):(h.lay l w).lay m v=h.lay (l++m) v:=by
 simp only [Heap.lay,List.foldl_append]
 congr 1
 ·simp only [zfs]
 ·have key:∀ (m:List Blk) (a b:Heap),a.size=b.size→a.tr=b.tr→(m.foldl Heap.push a).tr=(m.foldl Heap.push b).tr:=by
   intro m
   induction m with
   |nil=>intro a b _ h2;exact h2
   |cons c m ih =>
    intro a b h1 h2
    rw [List.foldl_cons,List.foldl_cons]
    exact ih _ _ (by simp [Heap.push,h1]) (by simp [Heap.push,h1,h2])
  exact key m _ _ rfl rfl
theorem lsz:(∀ (l:List Blk) (w:Nat) (h:Heap),(h.lay l w).size=h.size+l.length)∧(∀ (a:Blk) (l:List Blk),(a::l).length=l.length+1)∧([]:List Blk).length=0:=⟨fun l w h=>zad h l w,fun _ _=>rfl,rfl⟩
theorem lla:(∀ (h:Heap) (l m:List Blk) (w v:Nat),(h.lay l w).lay m v=h.lay (l++m) v)∧(∀ (l:List Blk) (w:Nat) (h:Heap),(h.lay l w).size=h.size+l.length)∧(∀ l:List Blk,l++[]=l)∧(∀ (a:Blk) (l:List Blk),(a::l).length=l.length+1)∧([]:List Blk).length=0∧∀ n:Nat,n+0=n :=
 ⟨zan,fun l w h=>zad h l w,List.append_nil,fun _ _=>rfl,rfl,Nat.add_zero⟩
end
theorem Ext.overW {h h1 h2:Heap} {l:List Blk} {w:Nat} (z:Ext h h1) (x:Ext (h1.lay l w) h2) (hw:min h1.low h1.size≤w):Ext h h2:=(z.trans (zis _ _ _ hw)).trans x
theorem Ext.upW {h h1:Heap} (z:Ext h h1) (l:List Blk) (w:Nat) (hw:min h1.low h1.size≤w):Ext h (h1.lay l w):=z.trans (zis _ _ _ hw)
end Go.Am
namespace Go.Am
structure Grw (h h':Heap):Prop where
 size:h.size≤h'.size
 get:∀ A,A < h.size→h'.get A=h.get A
theorem Ext.grw {h h':Heap} (x:Ext h h'):Grw h h':=⟨x.size,x.get⟩
theorem Grw.lay {h h1:Heap} (g:Grw h h1) (l:List Blk) (w:Nat):Grw h (h1.lay l w):=⟨by rw [zad];have:=g.size;omega,fun A hA=>(za9 h1 l w (Nat.lt_of_lt_of_le hA g.size)).trans (g.get A hA)⟩
structure Inc (h h':Heap):Prop where
 size:h.size≤h'.size
 get:∀ A,A < h.size→h.get A≠some .dead→h'.get A=h.get A
theorem Inc.refl (h:Heap):Inc h h:=⟨Nat.le_refl _,fun _ _ _=>rfl⟩
theorem Inc.trans {a b c:Heap} (x:Inc a b) (y:Inc b c):Inc a c:=⟨Nat.le_trans x.size y.size,fun A hA hd=>by
 have h1:=x.get A hA hd
 exact (y.get A (Nat.lt_of_lt_of_le hA x.size) (by rw [h1];exact hd)).trans h1⟩
theorem Ext.inc {h h':Heap} (x:Ext h h'):Inc h h':=⟨x.size,fun A hA _=>x.get A hA⟩
theorem Inc.lay (h:Heap) (l:List Blk) (w:Nat):Inc h (h.lay l w):=⟨by rw [zad];omega,fun A hA _=>za9 h l w hA⟩
theorem Inc.at {h h':Heap} (i:Inc h h') {A:Nat} {cs:List Value} {u:TypeId} {ro:Bool} (hA:A < h.size) (hg:h.get A=some (.row cs u ro)):h'.get A=some (.row cs u ro):=(i.get A hA (by rw [hg];simp)).trans hg
theorem Inc.of_lay {h h':Heap} {l:List Blk} {w:Nat} (x:Inc (h.lay l w) h'):Inc h h':=(Inc.lay h l w).trans x

def quietS (o:Oper):Bool:=match o.op with
 | .move _ | .assign _ | .pick _ _ _ | .build _ _ | .load _ _ | .nilCheck _ | .binOp _ _ _ _ _ | .makeFunc _ _ _ | .slice _ _ _ _ _ | .fieldAddr _ _ _ | .field _ _ _ | .indexAddr _ _ _ | .extract _ _ | .unOp _ _ _ | .index _ _ _ | .lookup _ _ _ _=>true
 | .call c=>(match c.callee with
  | .builtin .len | .builtin .min | .builtin .max=>true
  |_=>false)
 |_=>false
def zhM (T:Tab) (ops:Array Oper) (j:Nat):Bool :=
 let ms:=zdC ops.toList []
 (List.range j).all (fun i=>(ms.getD j 0).testBit i || zbY T ops i) && (List.range ops.size).all fun i => !decide (j < i) || ((ms.getD i 0).testBit j || zbY T ops i)

section
variable {P:Program} {T:Tab} {C:Fn→List Value→Heap→Option (Value × Heap)}
theorem zqS {e:Env} {o:Oper} {h h':Heap} {v:Value} (hb:quietS o=true) (hev:za5 P T C e o h=some (v,h')):h'=h∧∀ w,za5 P T C e o { h with low:=w }=some (v,{ h with low:=w }):=by
 have hmap:∀ {r:Option Value},(r.map fun x=>(x,h))=some (v,h')→h'=h∧∀ h2:Heap,(r.map fun x=>(x,h2))=some (v,h2):=by
  intro r hr
  simp only [Option.map_eq_some_iff,Prod.mk.injEq] at hr
  obtain ⟨_,rfl,rfl,rfl⟩:=hr
  exact ⟨rfl,fun _=>rfl⟩
 have hpure:zaR P e o h=some (v,h')→h'=h∧∀ h2,zaR P e o h2=some (v,h2):=by
  intro hp
  unfold zaR at hp ⊢
  split at hp
  ·rename_i h1
   split at hp
   ·rename_i h2
    split at hp
    ·rename_i h3
     cases hp
     exact ⟨rfl,fun _=>by simp [h1,h3]⟩
    ·cases hp
   ·cases hp
  ·cases hp
 obtain ⟨dst,op,ty,pos,after,guard⟩:=o
 cases op <;> simp only [quietS,Bool.false_eq_true] at hb <;> simp only [za5] at hev ⊢
 case move x=>cases hev;exact ⟨rfl,fun _=>rfl⟩
 case assign x=>cases hev;exact ⟨rfl,fun _=>rfl⟩
 case pick c a b =>
  split at hev
  ·cases hev;exact ⟨rfl,fun _=>rfl⟩
  ·cases hev
 case build=>obtain ⟨a,b⟩:=hmap hev;exact ⟨a,fun w=>b _⟩
 case load =>
  obtain ⟨a,b⟩:=hmap hev
  exact ⟨a,fun w=>b _⟩
 case lookup =>
  obtain ⟨a,b⟩:=hmap hev
  exact ⟨a,fun w=>b _⟩
 case nilCheck x =>
  split at hev
  ·cases hev;exact ⟨rfl,fun _=>rfl⟩
  ·cases hev;exact ⟨rfl,fun _=>rfl⟩
  ·cases hev;exact ⟨rfl,fun _=>rfl⟩
  ·cases hev
 case binOp=>obtain ⟨a,b⟩:=hmap hev;exact ⟨a,fun w=>b _⟩
 case makeFunc fn f c =>
  split at hev
  ·cases hev;exact ⟨rfl,fun _=>rfl⟩
  ·cases hev
 case slice=>obtain ⟨a,b⟩:=hmap hev;exact ⟨a,fun w=>b _⟩
 case fieldAddr=>obtain ⟨a,b⟩:=hmap hev;exact ⟨a,fun w=>b _⟩
 case field=>obtain ⟨a,b⟩:=hmap hev;exact ⟨a,fun w=>b _⟩
 case indexAddr=>obtain ⟨a,b⟩:=hmap hev;exact ⟨a,fun w=>b _⟩
 case extract t i =>
  split at hev
  ·obtain ⟨a,b⟩:=hmap hev;exact ⟨a,fun w=>b _⟩
  ·cases hev
 case unOp=>obtain ⟨a,b⟩:=hpure hev;exact ⟨a,fun w=>b _⟩
 case index=>obtain ⟨a,b⟩:=hpure hev;exact ⟨a,fun w=>b _⟩
 case call c =>
  obtain ⟨callee,args,ats⟩:=c
  cases callee with
  |value f=>simp at hb
  |invoke r m=>simp at hb
  |builtin b =>
   cases b <;> simp at hb <;> simp only at hev ⊢
   case len =>
    split at hev
    ·obtain ⟨a,b⟩:=hmap hev;exact ⟨a,fun w=>b _⟩
    ·cases hev
   case min=>obtain ⟨a,b⟩:=hpure hev;exact ⟨a,fun w=>b _⟩
   case max=>obtain ⟨a,b⟩:=hpure hev;exact ⟨a,fun w=>b _⟩
end

section
variable (P:Program) (T:Tab) (ov:Ov)
def WOpsX (b:Nat) (ops:Array Oper):List Oper→Nat→Env→Heap→(Env→Heap→Prop)→Prop
 | [],_,e,h,Q=>Q e h
 |o::l,j,e,h,Q=>zfo (zbf ops o e)
    (if quietS o=true then WOp P T ov o e h fun v _=>WOpsX b ops l (j+1) (put e o.dst v) h Q
     else WOp P T ov o e { h with low:=h.size } fun v h'=>((h.size≤h'.low∨zhM T ops j=true)∧b≤h'.low∧h.size≤h'.size)∧WOpsX b ops l (j+1) (put e o.dst v) h' Q)
    (WOpsX b ops l (j+1) (put e o.dst undef) h Q)
def zrx (b:Nat) (ops:Array Oper) (l:List Oper) (j:Nat) (d:Option Tmp) (Q:Env→Heap→Prop) (e:Env) (h:Heap):Value→Heap→Prop:=fun v _=>Hid (WOpsX P T ov b ops l (j+1) (put e d v) h Q)
def zku (b:Nat) (ops:Array Oper) (l:List Oper) (j:Nat) (d:Option Tmp) (Q:Env→Heap→Prop) (e:Env) (h:Heap):Value→Heap→Prop :=
 fun v h'=>Hid (((h.size≤h'.low∨zhM T ops j=true)∧b≤h'.low∧h.size≤h'.size)∧WOpsX P T ov b ops l (j+1) (put e d v) h' Q)
def zm6 (b:Nat) (ops:Array Oper) (o:Oper) (l:List Oper) (j:Nat) (e:Env) (h:Heap) (Q:Env→Heap→Prop) (w q:Bool):Prop :=
 if w=true then (if q=true then WOp P T ov o e h (zrx P T ov b ops l j o.dst Q e h) else WOp P T ov o e (h.lay [] h.size) (zku P T ov b ops l j o.dst Q e h)) else WOpsX P T ov b ops l (j+1) (put e o.dst undef) h Q
end
section
variable {P:Program} {T:Tab} {ov:Ov}
theorem zrB (b:Nat) (ops:Array Oper) (j:Nat) (e:Env) (h:Heap) (Q:Env→Heap→Prop):WOpsX P T ov b ops [] j e h Q=Q e h:=rfl
theorem zpL (b:Nat) (ops:Array Oper) (o:Oper) (l:List Oper) (j:Nat) (e:Env) (h:Heap) (Q:Env→Heap→Prop):WOpsX P T ov b ops (o::l) j e h Q=zm6 P T ov b ops o l j e h Q (zbf ops o e) (quietS o):=by
 simp only [WOpsX,zfo,zm6]
 split
 ·split
  ·exact propext ⟨WOp.mono fun _ _ hw=>⟨hw⟩,WOp.mono fun _ _ hw=>hw.out⟩
  ·exact propext ⟨WOp.mono fun _ _ hw=>⟨hw⟩,WOp.mono fun _ _ hw=>hw.out⟩
 ·rfl
theorem zm7 (b:Nat) (ops:Array Oper) (o:Oper) (l:List Oper) (j:Nat) (e:Env) (h:Heap) (Q:Env→Heap→Prop):zm6 P T ov b ops o l j e h Q true true=WOp P T ov o e h (zrx P T ov b ops l j o.dst Q e h):=rfl
theorem zoJ (b:Nat) (ops:Array Oper) (o:Oper) (l:List Oper) (j:Nat) (e:Env) (h:Heap) (Q:Env→Heap→Prop):zm6 P T ov b ops o l j e h Q true false=WOp P T ov o e (h.lay [] h.size) (zku P T ov b ops l j o.dst Q e h):=rfl
theorem zoK (b:Nat) (ops:Array Oper) (o:Oper) (l:List Oper) (j:Nat) (e:Env) (h:Heap) (Q:Env→Heap→Prop) (q:Bool):zm6 P T ov b ops o l j e h Q false q=WOpsX P T ov b ops l (j+1) (put e o.dst undef) h Q:=rfl
theorem zry (b:Nat) (ops:Array Oper) (l:List Oper) (j:Nat) (d:Option Tmp) (Q:Env→Heap→Prop) (e:Env) (h:Heap) (v:Value) (h':Heap):zrx P T ov b ops l j d Q e h v h'=WOpsX P T ov b ops l (j+1) (put e d v) h Q:=zxF _
theorem zah {b:Nat} {ops:Array Oper} {l:List Oper} {j:Nat} {d:Option Tmp} {Q:Env→Heap→Prop} {e:Env} {h:Heap} {v:Value} {h':Heap} (hb:b≤h.size) (x:Ext (h.lay [] h.size) h') (hk:WOpsX P T ov b ops l (j+1) (put e d v) h' Q):zku P T ov b ops l j d Q e h v h':=by
 have h1:=x.low
 have h2:=x.size
 rw [zod,zad] at h1
 rw [zad] at h2
 simp only [List.length_nil,Nat.add_zero] at h1 h2
 exact ⟨⟨⟨.inl (by omega),by omega,by omega⟩,hk⟩⟩
structure Chg (A:Nat) (h h':Heap):Prop where
 size:h.size≤h'.size
 get:∀ B,B < h.size→B≠A→h'.get B=h.get B
 low:min (min h.low h.size) A≤h'.low
theorem zaU {b A:Nat} {ops:Array Oper} {l:List Oper} {j:Nat} {d:Option Tmp} {Q:Env→Heap→Prop} {e:Env} {h:Heap} {v:Value} {h':Heap} (ho:zhM T ops j=true) (hb:b≤h.size) (hA:b≤A) (x:Chg A (h.lay [] h.size) h') (hk:WOpsX P T ov b ops l (j+1) (put e d v) h' Q):zku P T ov b ops l j d Q e h v h':=by
 have h1:=x.low
 have h2:=x.size
 rw [zod,zad] at h1
 rw [zad] at h2
 simp only [List.length_nil,Nat.add_zero] at h1 h2
 exact ⟨⟨⟨.inr ho,by omega,by omega⟩,hk⟩⟩
theorem zhX {b:Nat} {ops:Array Oper} {l:List Oper} {j:Nat} {d:Option Tmp} {Q:Env→Heap→Prop} {e:Env} {h:Heap} {v:Value} {h':Heap} (ho:zhM T ops j=true) (hb:b≤h'.low) (hs:h.size≤h'.size) (hk:WOpsX P T ov b ops l (j+1) (put e d v) h' Q):zku P T ov b ops l j d Q e h v h' :=
 ⟨⟨⟨.inr ho,hb,hs⟩,hk⟩⟩

theorem zp1 {ops:Array Oper} {ks:List Nat} (h1:zda ops (zdC ops.toList [])=true) (h2:∀ i,i < ops.size→ks.getD i 2 % 3≠2∨zhM T ops i=true) (h3:∀ i,i < ops.size→zbY T ops i=true→ks.getD i 2=0):zh4 ops ks (zdC ops.toList [])=true:=by
 unfold zh4
 rw [List.all_eq_true]
 intro j hj
 have hjs:j < ops.size:=List.mem_range.1 hj
 unfold zda at h1
 have h1:=List.all_eq_true.1 h1 j hj
 unfold zgX
 split
 ·rename_i oj hoj
  rw [hoj] at h1
  simp only [Bool.and_eq_true] at h1 ⊢
  refine ⟨h1.1,?_⟩
  rw [List.all_eq_true]
  intro i hi
  have hij:i < j:=List.mem_range.1 hi
  have h4:=List.all_eq_true.1 h1.2 i hi
  cases ht:((zdC ops.toList []).getD j 0).testBit i with
  |true=>rfl
  |false =>
   rw [ht] at h4
   simp only [Bool.false_or] at h4 ⊢
   split at h4
   ·rename_i oi hoi
    rw [hoi]
    simp only
    rw [Bool.and_eq_true]
    refine ⟨h4,?_⟩
    have key:∀ x y:Nat,x % 3≠2→y % 3≠2→kOk x y=true:=by
     intro x y h5 h6
     unfold kOk
     simp [h5,h6]
    have no1:zhM T ops i=true→kOk (ks.getD i 2) (ks.getD j 2)=true:=by
     intro hm
     unfold zhM at hm
     simp only [Bool.and_eq_true,List.all_eq_true,List.mem_range] at hm
     have:=hm.2 j hjs
     rw [ht] at this
     simp only [hij,decide_true,Bool.not_true,Bool.false_or] at this
     rw [h3 j hjs this]
     simp [kOk]
    have no2:zhM T ops j=true→kOk (ks.getD i 2) (ks.getD j 2)=true:=by
     intro hm
     unfold zhM at hm
     simp only [Bool.and_eq_true,List.all_eq_true,List.mem_range] at hm
     have:=hm.1 i hij
     rw [ht] at this
     simp only [Bool.false_or] at this
     rw [h3 i (by omega) this]
     simp [kOk]
    rcases h2 i (by omega) with h5|h5
    ·rcases h2 j hjs with h6|h6
     ·exact key _ _ h5 h6
     ·exact no2 h6
    ·exact no1 h5
   ·rename_i hoi;rw [hoi]
 ·rfl
theorem zmn {o:Oper} {e:Env} {h h':Heap} (hb:h.size≤h'.low):zcK T o e h h' % 3≠2:=zir (.inr hb)

theorem WOp.quiet {o:Oper} {e:Env} {h:Heap} {K:Value→Heap→Prop} (hq:quietS o=true) (hw:WOp P T ov o e h K) (w:Nat):WOp P T ov o e { h with low:=w } fun v h'=>h'={ h with low:=w }∧K v h:=by
 have hnc:zk0 o=false:=by
  obtain ⟨dst,op,ty,pos,after,guard⟩:=o
  cases op <;> first|rfl|skip
  rename_i c
  obtain ⟨callee,args,ats⟩:=c
  cases callee <;> first|rfl|simp [quietS] at hq
 rw [zuL hnc] at hw ⊢
 unfold optE at hw ⊢
 split at hw
 ·rename_i v h' hev
  obtain ⟨rfl,h2⟩:=zqS hq hev
  rw [h2 w]
  exact ⟨rfl,hw⟩
 ·exact hw.elim

structure Kinds (T:Tab) (ops:Array Oper) (ks:List Nat):Prop where
 ord:∀ i,i < ks.length→ks.getD i 2 % 3≠2∨zhM T ops i=true
 blind:∀ i,i < ks.length→zbY T ops i=true→ks.getD i 2=0
theorem Kinds.snoc {ops:Array Oper} {ks:List Nat} {c:Nat} (hk:Kinds T ops ks) (h1:c % 3≠2∨zhM T ops ks.length=true) (h2:zbY T ops ks.length=true→c=0):Kinds T ops (ks++[c]):=by
 have get:∀ i,i < (ks++[c]).length→(i < ks.length∧(ks++[c]).getD i 2=ks.getD i 2)∨(i=ks.length∧(ks++[c]).getD i 2=c):=by
  intro i hi
  rw [List.length_append,List.length_singleton] at hi
  by_cases hlt:i < ks.length
  ·refine .inl ⟨hlt,?_⟩
   rw [List.getD_eq_getElem?_getD,List.getD_eq_getElem?_getD,List.getElem?_append_left hlt]
  ·have:i=ks.length:=by omega
   subst this
   refine .inr ⟨rfl,?_⟩
   rw [List.getD_eq_getElem?_getD,List.getElem?_append_right (by omega),Nat.sub_self]
   rfl
 constructor
 ·intro i hi
  rcases get i hi with ⟨g1,g2⟩|⟨g1,g2⟩
  ·rw [g2];exact hk.ord i g1
  ·rw [g2,g1];exact h1
 ·intro i hi hb
  rcases get i hi with ⟨g1,g2⟩|⟨g1,g2⟩
  ·rw [g2];exact hk.blind i g1 hb
  ·rw [g2];rw [g1] at hb;exact h2 hb
theorem WOpsX.toK {ops:Array Oper} {b:Nat}:∀ (l:List Oper) (j:Nat) (ks:List Nat) (e:Env) (h:Heap) (m:Nat) (Q:Env→Heap→Prop),b≤h.size→b≤m→ks.length=j→ops.toList.drop j=l→Kinds T ops ks→WOpsX P T ov b ops l j e h Q →
 WOpsK P T ov ops l ks e { h with low:=m } fun ks' e' h'=>(ks'.length=ks.length+l.length∧Kinds T ops ks')∧∃ h1,Q e' h1∧∃ m',b≤m'∧h'={ h1 with low:=m' }
 | [],j,ks,e,h,m,Q,hb,hm,hj,hd,hks,hw=>⟨⟨rfl,hks⟩,h,hw,m,hm,rfl⟩
 |o::l,j,ks,e,h,m,Q,hb,hm,hj,hd,hks,hw=>by
  have hbl:zbY T ops ks.length=zbw T o:=by
   have:ops[ks.length]? = some o:=by
    have h1:(ops.toList.drop j)[0]? = some o:=by rw [hd];rfl
    rw [List.getElem?_drop] at h1
    rw [hj]
    simpa using h1
   simp only [zbY,this]
  have hd':ops.toList.drop (j+1)=l:=by
   rw [← List.drop_drop,hd]
   rfl
  have fin:∀ (c:Nat) (ks':List Nat) (e':Env) (h':Heap),((ks'.length=(ks++[c]).length+l.length∧Kinds T ops ks')∧∃ h1,Q e' h1∧∃ m',b≤m'∧h'={ h1 with low:=m' }) →
   ((ks'.length=ks.length+(o::l).length∧Kinds T ops ks')∧∃ h1,Q e' h1∧∃ m',b≤m'∧h'={ h1 with low:=m' }):=by
   intro c ks' e' h' ⟨⟨h1,h2⟩,h3⟩
   refine ⟨⟨?_,h2⟩,h3⟩
   simp only [List.length_append,List.length_cons,List.length_nil] at h1 ⊢
   omega
  have kz:∀ h1 h2:Heap,zbw T o=true→zcK T o e h1 h2=0:=by
   intro h1 h2 hb
   unfold zcK
   rw [if_pos hb]
  simp only [WOpsX,WOpsK,zfo] at hw ⊢
  split at hw
  ·rename_i hwt
   rw [if_pos hwt]
   split at hw
   ·rename_i hq
    have h0:=WOp.quiet hq hw h.size
    refine WOp.mono (fun v h' ⟨he,hw⟩=>?_) h0
    subst he
    have hk:zcK T o e { h with low:=m } { h with low:=h.size } % 3≠2:=zmn (Nat.le_refl _)
    refine WOpsK.mono _ _ _ _ _ _ (fun ks' e' h' hq'=>fin _ ks' e' h' hq') (WOpsX.toK l (j+1) (ks++[zcK T o e { h with low:=m } { h with low:=h.size }]) _ h (min m h.size) Q hb (by omega) (by simp [hj]) hd' (hks.snoc (.inl hk) (fun hb=>kz _ _ (hbl ▸ hb))) hw)
   ·refine WOp.mono (fun v h' ⟨⟨h1,h2,h3⟩,hw⟩=>?_) hw
    have hk:zcK T o e { h with low:=m } h' % 3≠2∨zhM T ops ks.length=true:=h1.imp (fun h1=>zmn h1) (fun h1=>hj ▸ h1)
    exact WOpsK.mono _ _ _ _ _ _ (fun ks' e' h' hq'=>fin _ ks' e' h' hq') (WOpsX.toK l (j+1) (ks++[zcK T o e { h with low:=m } h']) _ h' (min m h'.low) Q (by omega) (by omega) (by simp [hj]) hd' (hks.snoc hk (fun hb=>kz _ _ (hbl ▸ hb))) hw)
  ·rename_i hwt
   rw [if_neg hwt]
   exact WOpsK.mono _ _ _ _ _ _ (fun ks' e' h' hq'=>fin 0 ks' e' h' hq') (WOpsX.toK l (j+1) (ks++[0]) _ h m Q hb hm (by simp [hj]) hd' (hks.snoc (.inl (by decide)) (fun _=>rfl)) hw)

def endX (b:Nat) (Q:Ex→Env→Heap→Prop):Env→Heap→Prop:=fun e h1=>∀ m,b≤m→Q .normal e { h1 with low:=m }
theorem zxW {rd:Option Nat} {id:Nat} {ops:List Oper} {e:Env} {h:Heap} {Q:Ex→Env→Heap→Prop} (b:Nat) (hb:b≤h.size) (hl:b≤h.low) (ht:zda ⟨ops⟩ (zdC ops [])=true) (hw:WOpsX P T ov b ⟨ops⟩ ops 0 e h (endX b Q)):W P T ov rd (.region id ⟨ops⟩ true) e h Q:=by
 simp only [W]
 have:=WOpsX.toK (ops:=⟨ops⟩) ops 0 [] e h h.low (endX b Q) hb hl rfl rfl ⟨fun i hi=>by simp at hi,fun i hi=>by simp at hi⟩ hw
 refine WOpsK.mono _ _ _ _ _ _ (fun ks' e' h' hq=>?_) this
 obtain ⟨⟨h1,h2⟩,h3,h4,m',h5,rfl⟩:=hq
 have hl2:∀ i,i < (⟨ops⟩:Array Oper).size→i < ks'.length:=fun i hi=>by rw [h1];simpa using hi
 exact ⟨zp1 ht (fun i hi=>h2.ord i (hl2 i hi)) (fun i hi=>h2.blind i (hl2 i hi)),h4 m' h5⟩
def endZ (h0:Heap) (Q:Ex→Env→Heap→Prop):Env→Heap→Prop:=fun e h1=>Grw h0 h1→∀ h2,Ext h0 h2→Ext (h1.lay [] h2.low) h2→h2.size=h1.size→Q .normal e h2
theorem zxV {rd:Option Nat} {id:Nat} {ops:List Oper} {e:Env} {h0 h:Heap} {Q:Ex→Env→Heap→Prop} (z:Ext h0 h) (ht:zda ⟨ops⟩ (zdC ops [])=true) (hw:WOpsX P T ov (min h0.low h0.size) ⟨ops⟩ ops 0 e h fun e' h1=>Grw h0 h1∧endZ h0 Q e' h1):W P T ov rd (.region id ⟨ops⟩ true) e h Q:=by
 refine zxW (min h0.low h0.size) (by have:=z.size;omega) z.low ht ?_
 have mono:∀ (l:List Oper) (j:Nat) (e:Env) (h:Heap) (Q Q':Env→Heap→Prop),(∀ e h,Q e h→Q' e h)→WOpsX P T ov (min h0.low h0.size) ⟨ops⟩ l j e h Q→WOpsX P T ov (min h0.low h0.size) ⟨ops⟩ l j e h Q':=by
  intro l
  induction l with
  |nil=>intro j e h Q Q' hq hw;exact hq _ _ hw
  |cons o l ih =>
   intro j e h Q Q' hq hw
   simp only [WOpsX,zfo] at hw ⊢
   split at hw
   ·rename_i hwt
    rw [if_pos hwt]
    split at hw
    ·rename_i hqq
     rw [if_pos hqq]
     exact WOp.mono (fun v h'=>ih _ _ _ _ _ hq) hw
    ·rename_i hqq
     rw [if_neg hqq]
     exact WOp.mono (fun v h' ⟨h1,h2⟩=>⟨h1,ih _ _ _ _ _ hq h2⟩) hw
   ·rename_i hwt
    rw [if_neg hwt]
    exact ih _ _ _ _ _ hq hw
 refine mono _ _ _ _ _ _ ?_ hw
 rintro e' h1 ⟨hi,hq⟩ m hm
 refine hq hi { h1 with low:=m } ⟨hi.size,hi.get,hm⟩ ⟨Nat.le_refl _,fun _ _=>rfl,?_⟩ rfl
 show min m h1.size≤m
 omega
end
section
variable (P:Program) (T:Tab) (ov:Ov)
def zo4 (ops:Array Oper) (o:Oper) (l:List Oper) (d:Option Tmp) (e:Env) (h:Heap) (Q:Env→Heap→Prop) (b:Bool):Prop:=if b=true then WOp P T ov o e h (KOps P T ov ops l d Q e) else WOps P T ov ops l (put e d undef) h Q
def zhY (b:Nat) (ops:Array Oper) (o:Oper) (l:List Oper) (j:Nat) (d:Option Tmp) (e:Env) (h:Heap) (Q:Env→Heap→Prop) (w q:Bool):Prop :=
 if w=true then (if q=true then WOp P T ov o e h (zrx P T ov b ops l j d Q e h) else WOp P T ov o e (h.lay [] h.size) (zku P T ov b ops l j d Q e h)) else WOpsX P T ov b ops l (j+1) (put e d undef) h Q
end
section
variable {P:Program} {T:Tab} {ov:Ov}
theorem znt (ops:Array Oper) (o:Oper) (l:List Oper) (d:Option Tmp) (e:Env) (h:Heap) (Q:Env→Heap→Prop):zo4 P T ov ops o l d e h Q true=WOp P T ov o e h (KOps P T ov ops l d Q e):=rfl
theorem zlD (ops:Array Oper) (o:Oper) (l:List Oper) (d:Option Tmp) (e:Env) (h:Heap) (Q:Env→Heap→Prop):zo4 P T ov ops o l d e h Q false=WOps P T ov ops l (put e d undef) h Q:=rfl
theorem zpM (ops:Array Oper) (o:Oper) (l:List Oper) (e:Env) (h:Heap) (Q:Env→Heap→Prop):WOps P T ov ops (o::l) e h Q=zo4 P T ov ops o l o.dst e h Q (zbf ops o e):=zlA _ _ _ _ _ _
theorem zkx (b:Nat) (ops:Array Oper) (o:Oper) (l:List Oper) (j:Nat) (d:Option Tmp) (e:Env) (h:Heap) (Q:Env→Heap→Prop):zhY P T ov b ops o l j d e h Q true true=WOp P T ov o e h (zrx P T ov b ops l j d Q e h):=rfl
theorem zlB (b:Nat) (ops:Array Oper) (o:Oper) (l:List Oper) (j:Nat) (d:Option Tmp) (e:Env) (h:Heap) (Q:Env→Heap→Prop):zhY P T ov b ops o l j d e h Q true false=WOp P T ov o e (h.lay [] h.size) (zku P T ov b ops l j d Q e h):=rfl
theorem zlC (b:Nat) (ops:Array Oper) (o:Oper) (l:List Oper) (j:Nat) (d:Option Tmp) (e:Env) (h:Heap) (Q:Env→Heap→Prop) (q:Bool):zhY P T ov b ops o l j d e h Q false q=WOpsX P T ov b ops l (j+1) (put e d undef) h Q:=rfl
theorem zns (b:Nat) (ops:Array Oper) (o:Oper) (l:List Oper) (j:Nat) (e:Env) (h:Heap) (Q:Env→Heap→Prop):WOpsX P T ov b ops (o::l) j e h Q=zhY P T ov b ops o l j o.dst e h Q (zbf ops o e) (quietS o):=zpL _ _ _ _ _ _ _ _
end
theorem zxU {P:Program} {T:Tab} {ov:Ov} {rd:Option Nat} {c:Code} {e:Env} {h:Heap} {Q:Ex→Env→Heap→Prop} (R:Env→Heap→Prop)
 (h1:W P T ov rd c e h fun x e' h'=>x=.normal∧R e' h') (h2:∀ e' h',R e' h'→Q .normal e' h'):W P T ov rd c e h Q :=
 W.mono c _ _ _ _ (fun x e' h' ⟨hx,hr⟩=>by subst hx;exact h2 e' h' hr) h1
theorem junk {shape:(Nat→Value)→Env} {e:Env} (h:e=shape e.get):∃ J,e=shape J:=⟨_,h⟩
theorem zsy {shape:(Nat→Value)→Env} {p:(Nat→Value)→Prop} {e:Env} (h:e=shape e.get) (hp:p e.get):∃ J,e=shape J∧p J:=⟨_,h,hp⟩
theorem zdW {P:Program} {T:Tab} {ov:Ov} {rd:Option Nat} {c:Code} {e:Env} {h1:Heap} {bs:List Blk} {w:Nat} {Q:Ex→Env→Heap→Prop}
 (hk:∀ h2,Ext (h1.lay bs w) h2→(∀ (i:Nat) (b:Blk),bs[i]? = some b→Holds h2 (h1.size+i) b)→W P T ov rd c e h2 Q):W P T ov rd c e (h1.lay bs w) Q:=by
 refine hk _ (Ext.refl _) fun i b hi=>?_
 have hl:=(List.getElem?_eq_some_iff.1 hi).1
 exact ⟨by rw [zad];omega,by rw [zbd];exact hi⟩
def zqo (I:Nat→Env→Heap→Prop) (n:Nat) (Q:Ex→Env→Heap→Prop):Ex→Env→Heap→Prop
 | .normal,e',h'=>∃ m,m < n∧I m e' h'
 | .exit i,e',h'=>Q (.exit i) e' h'
 | .ret,e',h'=>Q .ret e' h'
section
variable {P:Program} {T:Tab} {ov:Ov} {rd:Option Nat}
theorem zqp (I:Nat→Env→Heap→Prop) (n:Nat) (Q:Ex→Env→Heap→Prop) (i:Nat) (e':Env) (h':Heap):zqo I n Q (.exit i) e' h'=Q (.exit i) e' h':=rfl
theorem zsD (I:Nat→Env→Heap→Prop) (n:Nat) (Q:Ex→Env→Heap→Prop) (e':Env) (h':Heap):zqo I n Q .ret e' h'=Q .ret e' h':=rfl
theorem zae {I:Nat→Env→Heap→Prop} {n m:Nat} {Q:Ex→Env→Heap→Prop} {e':Env} {h':Heap} (hm:m < n) (hi:I m e' h'):zqo I n Q .normal e' h':=⟨m,hm,hi⟩
theorem zaE {c:Code} {e:Env} {h:Heap} {Q:Ex→Env→Heap→Prop} (I:Nat→Env→Heap→Prop) (n0:Nat) (h0:I n0 e h) (round:∀ n e h,I n e h→W P T ov rd c e h (zqo I n Q)):W P T ov rd (.loop c) e h Q:=by
 have key:∀ (k n:Nat) (e:Env) (h:Heap),n < k→I n e h→WIter (W P T ov rd c) Q k e h:=by
  intro k
  induction k with
  |zero=>intro n e h hn;omega
  |succ k ih =>
   intro n e h hn hI
   simp only [WIter]
   refine W.mono c _ _ _ _ ?_ (round n e h hI)
   intro x e' h'
   cases x with
   |normal=>rintro ⟨m,h1,h2⟩;exact ih m e' h' (by omega) h2
   |exit i=>exact fun hh=>hh
   |ret=>exact fun hh=>hh
 exact ⟨n0+1,key (n0+1) n0 e h (Nat.lt_succ_self _) h0⟩
end
end Go.Am
