/- Regions that draw their order, in which nothing that is there is turned. No condition. -/
import Derived.Test.YtkgojconmeeegaaGreatDoorG4
namespace Go.Am
section
variable (P:Program) (T:bK) (ov:Ov)
end
section
variable {P:Program} {T:bK} {ov:Ov}
theorem zqi {o:Oper} {e:Env} {h h':Heap} (hb:oA T o=true∨h.size≤h'.low):ly T o e h h' % 3≠2:=by
 unfold ly
 split
 ·decide
 ·rename_i Bz
  rcases hb with hb|hb
  ·exact (Bz hb).elim
  ·rw [if_pos hb]
   split
   ·split <;> omega
   ·omega
   ·omega
theorem el (h:Heap) (l m:List bh) (w v:Nat):(h.lay l w).lay m v=h.lay (l++m) v:=by
 simp only [Heap.lay,List.foldl_append]
 congr 1
 ·simp only [W0]
 ·have key:∀ (m:List bh) (a b:Heap),a.size=b.size→a.tr=b.tr→(m.foldl Heap.push a).tr=(m.foldl Heap.push b).tr:=by
   intro m
   induction m with
   |nil=>intro a b _ h2;exact h2
   |cons c m ih =>
    intro a b h1 h2
    rw [List.foldl_cons,List.foldl_cons]
    exact ih _ _ (by simp [Heap.push,h1]) (by simp [Heap.push,h1,h2])
  exact key m _ _ rfl rfl
theorem dx:(∀ (l:List bh) (w:Nat) (h:Heap),(h.lay l w).size=h.size+l.length)∧(∀ (a:bh) (l:List bh),(a::l).length=l.length+1)∧([]:List bh).length=0:=⟨fun l w h=>bm h l w,fun _ _=>rfl,rfl⟩
end
theorem Ext.an {h h1 h2:Heap} {l:List bh} {w:Nat} (z:Ext h h1) (x:Ext (h1.lay l w) h2) (hw:min h1.low h1.size≤w):Ext h h2:=(z.trans (UU _ _ _ hw)).trans x
theorem Ext.aw {h h1:Heap} (z:Ext h h1) (l:List bh) (w:Nat) (hw:min h1.low h1.size≤w):Ext h (h1.lay l w):=z.trans (UU _ _ _ hw)
end Go.Am
namespace Go.Am
structure EW (h h':Heap):Prop where
 size:h.size≤h'.size
 get:∀ A,A < h.size→h'.get A=h.get A
theorem Ext.cN {h h':Heap} (x:Ext h h'):EW h h':=⟨x.size,x.get⟩
theorem EW.lay {h h1:Heap} (g:EW h h1) (l:List bh) (w:Nat):EW h (h1.lay l w):=⟨by rw [bm];have:=g.size;omega,fun A hA=>(Ek h1 l w (Nat.lt_of_lt_of_le hA g.size)).trans (g.get A hA)⟩
structure cn (h h':Heap):Prop where
 size:h.size≤h'.size
 get:∀ A,A < h.size→h.get A≠some .dead→h'.get A=h.get A
theorem cn.refl (h:Heap):cn h h:=⟨Nat.le_refl _,fun _ _ _=>rfl⟩
theorem cn.trans {a b c:Heap} (x:cn a b) (y:cn b c):cn a c:=⟨Nat.le_trans x.size y.size,fun A hA hd=>by
 have h1:=x.get A hA hd
 exact (y.get A (Nat.lt_of_lt_of_le hA x.size) (by rw [h1];exact hd)).trans h1⟩
theorem Ext.inc {h h':Heap} (x:Ext h h'):cn h h':=⟨x.size,fun A hA _=>x.get A hA⟩
theorem cn.lay (h:Heap) (l:List bh) (w:Nat):cn h (h.lay l w):=⟨by rw [bm];omega,fun A hA _=>Ek h l w hA⟩
theorem cn.at {h h':Heap} (i:cn h h') {A:Nat} {cs:List Value} {u:TypeId} {ro:Bool} (hA:A < h.size) (hg:h.get A=some (.row cs u ro)):h'.get A=some (.row cs u ro):=(i.get A hA (by rw [hg];simp)).trans hg
theorem cn.gg {h h':Heap} {l:List bh} {w:Nat} (x:cn (h.lay l w) h'):cn h h':=(cn.lay h l w).trans x

def iy (o:Oper):Bool:=match o.op with
 | .move _ | .assign _ | .pick _ _ _ | .build _ _ | .load _ _ | .nilCheck _ | .binOp _ _ _ _ _ | .makeFunc _ _ _ | .slice _ _ _ _ _ | .fieldAddr _ _ _ | .field _ _ _ | .indexAddr _ _ _ | .extract _ _ | .unOp _ _ _ | .index _ _ _ | .lookup _ _ _ _=>true
 | .call c=>(match c.callee with
  | .builtin .len | .builtin .min | .builtin .max=>true
  |_=>false)
 |_=>false
def vK (T:bK) (ops:Array Oper) (j:Nat):Bool :=
 let ms:=nh ops.toList []
 (List.range j).all (fun i=>(ms.getD j 0).testBit i || qR T ops i) && (List.range ops.size).all fun i => !decide (j < i) || ((ms.getD i 0).testBit j || qR T ops i)

section
variable {P:Program} {T:bK} {C:Fn→List Value→Heap→Option (Value × Heap)}
theorem ztv {e:Env} {o:Oper} {h h':Heap} {v:Value} (hb:iy o=true) (ak:iQ P T C e o h=some (v,h')):h'=h∧∀ w,iQ P T C e o { h with low:=w }=some (v,{ h with low:=w }):=by
 have cP:∀ {r:Option Value},(r.map fun x=>(x,h))=some (v,h')→h'=h∧∀ h2:Heap,(r.map fun x=>(x,h2))=some (v,h2):=by
  intro r hr
  simp only [Option.map_eq_some_iff,Prod.mk.injEq] at hr
  obtain ⟨_,rfl,rfl,rfl⟩:=hr
  exact ⟨rfl,fun _=>rfl⟩
 have dU:gX P e o h=some (v,h')→h'=h∧∀ h2,gX P e o h2=some (v,h2):=by
  intro hp
  unfold gX at hp ⊢
  split at hp
  ·rename_i h1
   split at hp
   ·rename_i h2
    split at hp
    ·rename_i h3
     cases hp
     exact ⟨rfl,fun _=>by simp [h1,h3]⟩
    ·cases hp
   ·cases hp
  ·cases hp
 obtain ⟨dst,op,ty,pos,after,guard⟩:=o
 cases op <;> simp only [iy,Bool.false_eq_true] at hb <;> simp only [iQ] at ak ⊢
 case move x=>cases ak;exact ⟨rfl,fun _=>rfl⟩
 case assign x=>cases ak;exact ⟨rfl,fun _=>rfl⟩
 case pick c a b =>
  split at ak
  ·cases ak;exact ⟨rfl,fun _=>rfl⟩
  ·cases ak
 case build=>obtain ⟨a,b⟩:=cP ak;exact ⟨a,fun w=>b _⟩
 case load =>
  obtain ⟨a,b⟩:=cP ak
  exact ⟨a,fun w=>b _⟩
 case lookup =>
  obtain ⟨a,b⟩:=cP ak
  exact ⟨a,fun w=>b _⟩
 case nilCheck x =>
  split at ak
  ·cases ak;exact ⟨rfl,fun _=>rfl⟩
  ·cases ak;exact ⟨rfl,fun _=>rfl⟩
  ·cases ak;exact ⟨rfl,fun _=>rfl⟩
  ·cases ak
 case binOp=>obtain ⟨a,b⟩:=cP ak;exact ⟨a,fun w=>b _⟩
 case makeFunc fn f c =>
  split at ak
  ·cases ak;exact ⟨rfl,fun _=>rfl⟩
  ·cases ak
 case slice=>obtain ⟨a,b⟩:=cP ak;exact ⟨a,fun w=>b _⟩
 case fieldAddr=>obtain ⟨a,b⟩:=cP ak;exact ⟨a,fun w=>b _⟩
 case field=>obtain ⟨a,b⟩:=cP ak;exact ⟨a,fun w=>b _⟩
 case indexAddr=>obtain ⟨a,b⟩:=cP ak;exact ⟨a,fun w=>b _⟩
 case extract t i =>
  split at ak
  ·obtain ⟨a,b⟩:=cP ak;exact ⟨a,fun w=>b _⟩
  ·cases ak
 case unOp=>obtain ⟨a,b⟩:=dU ak;exact ⟨a,fun w=>b _⟩
 case index=>obtain ⟨a,b⟩:=dU ak;exact ⟨a,fun w=>b _⟩
 case call c =>
  obtain ⟨callee,args,fb⟩:=c
  cases callee with
  |value f=>simp at hb
  |invoke r m=>simp at hb
  |builtin b =>
   cases b <;> simp at hb <;> simp only at ak ⊢
   case len =>
    split at ak
    ·obtain ⟨a,b⟩:=cP ak;exact ⟨a,fun w=>b _⟩
    ·cases ak
   case min=>obtain ⟨a,b⟩:=dU ak;exact ⟨a,fun w=>b _⟩
   case max=>obtain ⟨a,b⟩:=dU ak;exact ⟨a,fun w=>b _⟩
end

section
variable (P:Program) (T:bK) (ov:Ov)
def cx (b:Nat) (ops:Array Oper):List Oper→Nat→Env→Heap→(Env→Heap→Prop)→Prop
 | [],_,e,h,Q=>Q e h
 |o::l,j,e,h,Q=>sq (ma ops o e)
    (if iy o=true then cu P T ov o e h fun v _=>cx b ops l (j+1) (put e o.dst v) h Q
     else cu P T ov o e { h with low:=h.size } fun v h'=>((h.size≤h'.low∨vK T ops j=true)∧b≤h'.low∧h.size≤h'.size)∧cx b ops l (j+1) (put e o.dst v) h' Q)
    (cx b ops l (j+1) (put e o.dst undef) h Q)
def SD (b:Nat) (ops:Array Oper) (l:List Oper) (j:Nat) (d:Option Tmp) (Q:Env→Heap→Prop) (e:Env) (h:Heap):Value→Heap→Prop:=fun v _=>Hid (cx P T ov b ops l (j+1) (put e d v) h Q)
def Dh (b:Nat) (ops:Array Oper) (l:List Oper) (j:Nat) (d:Option Tmp) (Q:Env→Heap→Prop) (e:Env) (h:Heap):Value→Heap→Prop :=
 fun v h'=>Hid (((h.size≤h'.low∨vK T ops j=true)∧b≤h'.low∧h.size≤h'.size)∧cx P T ov b ops l (j+1) (put e d v) h' Q)
def Sx (b:Nat) (ops:Array Oper) (o:Oper) (l:List Oper) (j:Nat) (e:Env) (h:Heap) (Q:Env→Heap→Prop) (w q:Bool):Prop :=
 if w=true then (if q=true then cu P T ov o e h (SD P T ov b ops l j o.dst Q e h) else cu P T ov o e (h.lay [] h.size) (Dh P T ov b ops l j o.dst Q e h)) else cx P T ov b ops l (j+1) (put e o.dst undef) h Q
end
section
variable {P:Program} {T:bK} {ov:Ov}
theorem zul (b:Nat) (ops:Array Oper) (j:Nat) (e:Env) (h:Heap) (Q:Env→Heap→Prop):cx P T ov b ops [] j e h Q=Q e h:=rfl
theorem zsc (b:Nat) (ops:Array Oper) (o:Oper) (l:List Oper) (j:Nat) (e:Env) (h:Heap) (Q:Env→Heap→Prop):cx P T ov b ops (o::l) j e h Q=Sx P T ov b ops o l j e h Q (ma ops o e) (iy o):=by
 simp only [cx,sq,Sx]
 split
 ·split
  ·exact propext ⟨cu.mono fun _ _ hw=>⟨hw⟩,cu.mono fun _ _ hw=>hw.out⟩
  ·exact propext ⟨cu.mono fun _ _ hw=>⟨hw⟩,cu.mono fun _ _ hw=>hw.out⟩
 ·rfl
theorem zo2 (b:Nat) (ops:Array Oper) (o:Oper) (l:List Oper) (j:Nat) (e:Env) (h:Heap) (Q:Env→Heap→Prop):Sx P T ov b ops o l j e h Q true true=cu P T ov o e h (SD P T ov b ops l j o.dst Q e h):=rfl
theorem zqT (b:Nat) (ops:Array Oper) (o:Oper) (l:List Oper) (j:Nat) (e:Env) (h:Heap) (Q:Env→Heap→Prop):Sx P T ov b ops o l j e h Q true false=cu P T ov o e (h.lay [] h.size) (Dh P T ov b ops l j o.dst Q e h):=rfl
theorem zqU (b:Nat) (ops:Array Oper) (o:Oper) (l:List Oper) (j:Nat) (e:Env) (h:Heap) (Q:Env→Heap→Prop) (q:Bool):Sx P T ov b ops o l j e h Q false q=cx P T ov b ops l (j+1) (put e o.dst undef) h Q:=rfl
theorem zui (b:Nat) (ops:Array Oper) (l:List Oper) (j:Nat) (d:Option Tmp) (Q:Env→Heap→Prop) (e:Env) (h:Heap) (v:Value) (h':Heap):SD P T ov b ops l j d Q e h v h'=cx P T ov b ops l (j+1) (put e d v) h Q:=CR _
theorem dv {b:Nat} {ops:Array Oper} {l:List Oper} {j:Nat} {d:Option Tmp} {Q:Env→Heap→Prop} {e:Env} {h:Heap} {v:Value} {h':Heap} (hb:b≤h.size) (x:Ext (h.lay [] h.size) h') (hk:cx P T ov b ops l (j+1) (put e d v) h' Q):Dh P T ov b ops l j d Q e h v h':=by
 have h1:=x.low
 have h2:=x.size
 rw [UW,bm] at h1
 rw [bm] at h2
 simp only [List.length_nil,Nat.add_zero] at h1 h2
 exact ⟨⟨⟨.inl (by omega),by omega,by omega⟩,hk⟩⟩
structure fp (A:Nat) (h h':Heap):Prop where
 size:h.size≤h'.size
 get:∀ B,B < h.size→B≠A→h'.get B=h.get B
 low:min (min h.low h.size) A≤h'.low
theorem nQ {b A:Nat} {ops:Array Oper} {l:List Oper} {j:Nat} {d:Option Tmp} {Q:Env→Heap→Prop} {e:Env} {h:Heap} {v:Value} {h':Heap} (ho:vK T ops j=true) (hb:b≤h.size) (hA:b≤A) (x:fp A (h.lay [] h.size) h') (hk:cx P T ov b ops l (j+1) (put e d v) h' Q):Dh P T ov b ops l j d Q e h v h':=by
 have h1:=x.low
 have h2:=x.size
 rw [UW,bm] at h1
 rw [bm] at h2
 simp only [List.length_nil,Nat.add_zero] at h1 h2
 exact ⟨⟨⟨.inr ho,by omega,by omega⟩,hk⟩⟩
theorem yU {b:Nat} {ops:Array Oper} {l:List Oper} {j:Nat} {d:Option Tmp} {Q:Env→Heap→Prop} {e:Env} {h:Heap} {v:Value} {h':Heap} (ho:vK T ops j=true) (hb:b≤h'.low) (hs:h.size≤h'.size) (hk:cx P T ov b ops l (j+1) (put e d v) h' Q):Dh P T ov b ops l j d Q e h v h' :=
 ⟨⟨⟨.inr ho,hb,hs⟩,hk⟩⟩

theorem zsw {ops:Array Oper} {ks:List Nat} (h1:CG ops (nh ops.toList [])=true) (h2:∀ i,i < ops.size→ks.getD i 2 % 3≠2∨vK T ops i=true) (h3:∀ i,i < ops.size→qR T ops i=true→ks.getD i 2=0):HP ops ks (nh ops.toList [])=true:=by
 unfold HP
 rw [List.all_eq_true]
 intro j hj
 have IP:j < ops.size:=List.mem_range.1 hj
 unfold CG at h1
 have h1:=List.all_eq_true.1 h1 j hj
 unfold J3
 split
 ·rename_i oj qw
  rw [qw] at h1
  simp only [Bool.and_eq_true] at h1 ⊢
  refine ⟨h1.1,?_⟩
  rw [List.all_eq_true]
  intro i hi
  have di:i < j:=List.mem_range.1 hi
  have h4:=List.all_eq_true.1 h1.2 i hi
  cases ht:((nh ops.toList []).getD j 0).testBit i with
  |true=>rfl
  |false =>
   rw [ht] at h4
   simp only [Bool.false_or] at h4 ⊢
   split at h4
   ·rename_i oi Al
    rw [Al]
    simp only
    rw [Bool.and_eq_true]
    refine ⟨h4,?_⟩
    have key:∀ x y:Nat,x % 3≠2→y % 3≠2→qD x y=true:=by
     intro x y h5 h6
     unfold qD
     simp [h5,h6]
    have no1:vK T ops i=true→qD (ks.getD i 2) (ks.getD j 2)=true:=by
     intro hm
     unfold vK at hm
     simp only [Bool.and_eq_true,List.all_eq_true,List.mem_range] at hm
     have:=hm.2 j IP
     rw [ht] at this
     simp only [di,decide_true,Bool.not_true,Bool.false_or] at this
     rw [h3 j IP this]
     simp [qD]
    have no2:vK T ops j=true→qD (ks.getD i 2) (ks.getD j 2)=true:=by
     intro hm
     unfold vK at hm
     simp only [Bool.and_eq_true,List.all_eq_true,List.mem_range] at hm
     have:=hm.1 i di
     rw [ht] at this
     simp only [Bool.false_or] at this
     rw [h3 i (by omega) this]
     simp [qD]
    rcases h2 i (by omega) with h5|h5
    ·rcases h2 j IP with h6|h6
     ·exact key _ _ h5 h6
     ·exact no2 h6
    ·exact no1 h5
   ·rename_i Al;rw [Al]
 ·rfl
theorem zoa {o:Oper} {e:Env} {h h':Heap} (hb:h.size≤h'.low):ly T o e h h' % 3≠2:=zqi (.inr hb)

theorem cu.quiet {o:Oper} {e:Env} {h:Heap} {K:Value→Heap→Prop} (hq:iy o=true) (hw:cu P T ov o e h K) (w:Nat):cu P T ov o e { h with low:=w } fun v h'=>h'={ h with low:=w }∧K v h:=by
 have pN:XA o=false:=by
  obtain ⟨dst,op,ty,pos,after,guard⟩:=o
  cases op <;> first|rfl|skip
  rename_i c
  obtain ⟨callee,args,fb⟩:=c
  cases callee <;> first|rfl|simp [iy] at hq
 rw [zyw pN] at hw ⊢
 unfold cq at hw ⊢
 split at hw
 ·rename_i v h' ak
  obtain ⟨rfl,h2⟩:=ztv hq ak
  rw [h2 w]
  exact ⟨rfl,hw⟩
 ·exact hw.elim

structure mq (T:bK) (ops:Array Oper) (ks:List Nat):Prop where
 ord:∀ i,i < ks.length→ks.getD i 2 % 3≠2∨vK T ops i=true
 blind:∀ i,i < ks.length→qR T ops i=true→ks.getD i 2=0
theorem mq.snoc {ops:Array Oper} {ks:List Nat} {c:Nat} (hk:mq T ops ks) (h1:c % 3≠2∨vK T ops ks.length=true) (h2:qR T ops ks.length=true→c=0):mq T ops (ks++[c]):=by
 have get:∀ i,i < (ks++[c]).length→(i < ks.length∧(ks++[c]).getD i 2=ks.getD i 2)∨(i=ks.length∧(ks++[c]).getD i 2=c):=by
  intro i hi
  rw [List.length_append,List.length_singleton] at hi
  by_cases aR:i < ks.length
  ·refine .inl ⟨aR,?_⟩
   rw [List.getD_eq_getElem?_getD,List.getD_eq_getElem?_getD,List.getElem?_append_left aR]
  ·have:i=ks.length:=by omega
   subst this
   refine .inr ⟨rfl,?_⟩
   rw [List.getD_eq_getElem?_getD,List.getElem?_append_right (by omega),Nat.sub_self]
   rfl
 constructor
 ·intro i hi
  rcases get i hi with ⟨g1,g2⟩|⟨g1,g2⟩
  ·rw [g2];exact hk.ord i g1
  ·rw [g2,g1];exact h1
 ·intro i hi hb
  rcases get i hi with ⟨g1,g2⟩|⟨g1,g2⟩
  ·rw [g2];exact hk.blind i g1 hb
  ·rw [g2];rw [g1] at hb;exact h2 hb
theorem cx.TM {ops:Array Oper} {b:Nat}:∀ (l:List Oper) (j:Nat) (ks:List Nat) (e:Env) (h:Heap) (m:Nat) (Q:Env→Heap→Prop),b≤h.size→b≤m→ks.length=j→ops.toList.drop j=l→mq T ops ks→cx P T ov b ops l j e h Q →
 cK P T ov ops l ks e { h with low:=m } fun gA e' h'=>(gA.length=ks.length+l.length∧mq T ops gA)∧∃ h1,Q e' h1∧∃ m',b≤m'∧h'={ h1 with low:=m' }
 | [],j,ks,e,h,m,Q,hb,hm,hj,hd,NR,hw=>⟨⟨rfl,NR⟩,h,hw,m,hm,rfl⟩
 |o::l,j,ks,e,h,m,Q,hb,hm,hj,hd,NR,hw=>by
  have u9:qR T ops ks.length=oA T o:=by
   have:ops[ks.length]? = some o:=by
    have h1:(ops.toList.drop j)[0]? = some o:=by rw [hd];rfl
    rw [List.getElem?_drop] at h1
    rw [hj]
    simpa using h1
   simp only [qR,this]
  have nJ:ops.toList.drop (j+1)=l:=by
   rw [← List.drop_drop,hd]
   rfl
  have fin:∀ (c:Nat) (gA:List Nat) (e':Env) (h':Heap),((gA.length=(ks++[c]).length+l.length∧mq T ops gA)∧∃ h1,Q e' h1∧∃ m',b≤m'∧h'={ h1 with low:=m' }) →
   ((gA.length=ks.length+(o::l).length∧mq T ops gA)∧∃ h1,Q e' h1∧∃ m',b≤m'∧h'={ h1 with low:=m' }):=by
   intro c gA e' h' ⟨⟨h1,h2⟩,h3⟩
   refine ⟨⟨?_,h2⟩,h3⟩
   simp only [List.length_append,List.length_cons,List.length_nil] at h1 ⊢
   omega
  have kz:∀ h1 h2:Heap,oA T o=true→ly T o e h1 h2=0:=by
   intro h1 h2 hb
   unfold ly
   rw [if_pos hb]
  simp only [cx,cK,sq] at hw ⊢
  split at hw
  ·rename_i je
   rw [if_pos je]
   split at hw
   ·rename_i hq
    have h0:=cu.quiet hq hw h.size
    refine cu.mono (fun v h' ⟨he,hw⟩=>?_) h0
    subst he
    have hk:ly T o e { h with low:=m } { h with low:=h.size } % 3≠2:=zoa (Nat.le_refl _)
    refine cK.mono _ _ _ _ _ _ (fun gA e' h' Oo=>fin _ gA e' h' Oo) (cx.TM l (j+1) (ks++[ly T o e { h with low:=m } { h with low:=h.size }]) _ h (min m h.size) Q hb (by omega) (by simp [hj]) nJ (NR.snoc (.inl hk) (fun hb=>kz _ _ (u9 ▸ hb))) hw)
   ·refine cu.mono (fun v h' ⟨⟨h1,h2,h3⟩,hw⟩=>?_) hw
    have hk:ly T o e { h with low:=m } h' % 3≠2∨vK T ops ks.length=true:=h1.imp (fun h1=>zoa h1) (fun h1=>hj ▸ h1)
    exact cK.mono _ _ _ _ _ _ (fun gA e' h' Oo=>fin _ gA e' h' Oo) (cx.TM l (j+1) (ks++[ly T o e { h with low:=m } h']) _ h' (min m h'.low) Q (by omega) (by omega) (by simp [hj]) nJ (NR.snoc hk (fun hb=>kz _ _ (u9 ▸ hb))) hw)
  ·rename_i je
   rw [if_neg je]
   exact cK.mono _ _ _ _ _ _ (fun gA e' h' Oo=>fin 0 gA e' h' Oo) (cx.TM l (j+1) (ks++[0]) _ h m Q hb hm (by simp [hj]) nJ (NR.snoc (.inl (by decide)) (fun _=>rfl)) hw)

def MM (b:Nat) (Q:Ex→Env→Heap→Prop):Env→Heap→Prop:=fun e h1=>∀ m,b≤m→Q .normal e { h1 with low:=m }
theorem zEU {rd:Option Nat} {id:Nat} {ops:List Oper} {e:Env} {h:Heap} {Q:Ex→Env→Heap→Prop} (b:Nat) (hb:b≤h.size) (hl:b≤h.low) (ht:CG ⟨ops⟩ (nh ops [])=true) (hw:cx P T ov b ⟨ops⟩ ops 0 e h (MM b Q)):W P T ov rd (.region id ⟨ops⟩ true) e h Q:=by
 simp only [W]
 have:=cx.TM (ops:=⟨ops⟩) ops 0 [] e h h.low (MM b Q) hb hl rfl rfl ⟨fun i hi=>by simp at hi,fun i hi=>by simp at hi⟩ hw
 refine cK.mono _ _ _ _ _ _ (fun gA e' h' hq=>?_) this
 obtain ⟨⟨h1,h2⟩,h3,h4,m',h5,rfl⟩:=hq
 have hU:∀ i,i < (⟨ops⟩:Array Oper).size→i < gA.length:=fun i hi=>by rw [h1];simpa using hi
 exact ⟨zsw ht (fun i hi=>h2.ord i (hU i hi)) (fun i hi=>h2.blind i (hU i hi)),h4 m' h5⟩
def MN (h0:Heap) (Q:Ex→Env→Heap→Prop):Env→Heap→Prop:=fun e h1=>EW h0 h1→∀ h2,Ext h0 h2→Ext (h1.lay [] h2.low) h2→h2.size=h1.size→Q .normal e h2
theorem zET {rd:Option Nat} {id:Nat} {ops:List Oper} {e:Env} {h0 h:Heap} {Q:Ex→Env→Heap→Prop} (z:Ext h0 h) (ht:CG ⟨ops⟩ (nh ops [])=true) (hw:cx P T ov (min h0.low h0.size) ⟨ops⟩ ops 0 e h fun e' h1=>EW h0 h1∧MN h0 Q e' h1):W P T ov rd (.region id ⟨ops⟩ true) e h Q:=by
 refine zEU (min h0.low h0.size) (by have:=z.size;omega) z.low ht ?_
 have mono:∀ (l:List Oper) (j:Nat) (e:Env) (h:Heap) (Q Q':Env→Heap→Prop),(∀ e h,Q e h→Q' e h)→cx P T ov (min h0.low h0.size) ⟨ops⟩ l j e h Q→cx P T ov (min h0.low h0.size) ⟨ops⟩ l j e h Q':=by
  intro l
  induction l with
  |nil=>intro j e h Q Q' hq hw;exact hq _ _ hw
  |cons o l ih =>
   intro j e h Q Q' hq hw
   simp only [cx,sq] at hw ⊢
   split at hw
   ·rename_i je
    rw [if_pos je]
    split at hw
    ·rename_i BB
     rw [if_pos BB]
     exact cu.mono (fun v h'=>ih _ _ _ _ _ hq) hw
    ·rename_i BB
     rw [if_neg BB]
     exact cu.mono (fun v h' ⟨h1,h2⟩=>⟨h1,ih _ _ _ _ _ hq h2⟩) hw
   ·rename_i je
    rw [if_neg je]
    exact ih _ _ _ _ _ hq hw
 refine mono _ _ _ _ _ _ ?_ hw
 rintro e' h1 ⟨hi,hq⟩ m hm
 refine hq hi { h1 with low:=m } ⟨hi.size,hi.get,hm⟩ ⟨Nat.le_refl _,fun _ _=>rfl,?_⟩ rfl
 show min m h1.size≤m
 omega
end
section
variable (P:Program) (T:bK) (ov:Ov)
def XF (ops:Array Oper) (o:Oper) (l:List Oper) (d:Option Tmp) (e:Env) (h:Heap) (Q:Env→Heap→Prop) (b:Bool):Prop:=if b=true then cu P T ov o e h (vO P T ov ops l d Q e) else dh P T ov ops l (put e d undef) h Q
def RX (b:Nat) (ops:Array Oper) (o:Oper) (l:List Oper) (j:Nat) (d:Option Tmp) (e:Env) (h:Heap) (Q:Env→Heap→Prop) (w q:Bool):Prop :=
 if w=true then (if q=true then cu P T ov o e h (SD P T ov b ops l j d Q e h) else cu P T ov o e (h.lay [] h.size) (Dh P T ov b ops l j d Q e h)) else cx P T ov b ops l (j+1) (put e d undef) h Q
end
section
variable {P:Program} {T:bK} {ov:Ov}
theorem zps (ops:Array Oper) (o:Oper) (l:List Oper) (d:Option Tmp) (e:Env) (h:Heap) (Q:Env→Heap→Prop):XF P T ov ops o l d e h Q true=cu P T ov o e h (vO P T ov ops l d Q e):=rfl
theorem zm7 (ops:Array Oper) (o:Oper) (l:List Oper) (d:Option Tmp) (e:Env) (h:Heap) (Q:Env→Heap→Prop):XF P T ov ops o l d e h Q false=dh P T ov ops l (put e d undef) h Q:=rfl
theorem zsd (ops:Array Oper) (o:Oper) (l:List Oper) (e:Env) (h:Heap) (Q:Env→Heap→Prop):dh P T ov ops (o::l) e h Q=XF P T ov ops o l o.dst e h Q (ma ops o e):=zm4 _ _ _ _ _ _
theorem zlN (b:Nat) (ops:Array Oper) (o:Oper) (l:List Oper) (j:Nat) (d:Option Tmp) (e:Env) (h:Heap) (Q:Env→Heap→Prop):RX P T ov b ops o l j d e h Q true true=cu P T ov o e h (SD P T ov b ops l j d Q e h):=rfl
theorem zm5 (b:Nat) (ops:Array Oper) (o:Oper) (l:List Oper) (j:Nat) (d:Option Tmp) (e:Env) (h:Heap) (Q:Env→Heap→Prop):RX P T ov b ops o l j d e h Q true false=cu P T ov o e (h.lay [] h.size) (Dh P T ov b ops l j d Q e h):=rfl
theorem zm6 (b:Nat) (ops:Array Oper) (o:Oper) (l:List Oper) (j:Nat) (d:Option Tmp) (e:Env) (h:Heap) (Q:Env→Heap→Prop) (q:Bool):RX P T ov b ops o l j d e h Q false q=cx P T ov b ops l (j+1) (put e d undef) h Q:=rfl
theorem zpr (b:Nat) (ops:Array Oper) (o:Oper) (l:List Oper) (j:Nat) (e:Env) (h:Heap) (Q:Env→Heap→Prop):cx P T ov b ops (o::l) j e h Q=RX P T ov b ops o l j o.dst e h Q (ma ops o e) (iy o):=zsc _ _ _ _ _ _ _ _
end
theorem Cc {P:Program} {T:bK} {ov:Ov} {rd:Option Nat} {c:Code} {e:Env} {h:Heap} {Q:Ex→Env→Heap→Prop} (R:Env→Heap→Prop)
 (h1:W P T ov rd c e h fun x e' h'=>x=.normal∧R e' h') (h2:∀ e' h',R e' h'→Q .normal e' h'):W P T ov rd c e h Q :=
 W.mono c _ _ _ _ (fun x e' h' ⟨hx,hr⟩=>by subst hx;exact h2 e' h' hr) h1
theorem aE {shape:(Nat→Value)→Env} {e:Env} (h:e=shape e.get):∃ J,e=shape J:=⟨_,h⟩
theorem SJ {shape:(Nat→Value)→Env} {p:(Nat→Value)→Prop} {e:Env} (h:e=shape e.get) (hp:p e.get):∃ J,e=shape J∧p J:=⟨_,h,hp⟩
theorem ml {P:Program} {T:bK} {ov:Ov} {rd:Option Nat} {c:Code} {e:Env} {h1:Heap} {bs:List bh} {w:Nat} {Q:Ex→Env→Heap→Prop}
 (hk:∀ h2,Ext (h1.lay bs w) h2→(∀ (i:Nat) (b:bh),bs[i]? = some b→Holds h2 (h1.size+i) b)→W P T ov rd c e h2 Q):W P T ov rd c e (h1.lay bs w) Q:=by
 refine hk _ (Ext.refl _) fun i b hi=>?_
 have hl:=(List.getElem?_eq_some_iff.1 hi).1
 exact ⟨by rw [bm];omega,by rw [iR];exact hi⟩
def Ku (I:Nat→Env→Heap→Prop) (n:Nat) (Q:Ex→Env→Heap→Prop):Ex→Env→Heap→Prop
 | .normal,e',h'=>∃ m,m < n∧I m e' h'
 | .exit i,e',h'=>Q (.exit i) e' h'
 | .ret,e',h'=>Q .ret e' h'
section
variable {P:Program} {T:bK} {ov:Ov} {rd:Option Nat}
theorem zsV (I:Nat→Env→Heap→Prop) (n:Nat) (Q:Ex→Env→Heap→Prop) (i:Nat) (e':Env) (h':Heap):Ku I n Q (.exit i) e' h'=Q (.exit i) e' h':=rfl
theorem zvu (I:Nat→Env→Heap→Prop) (n:Nat) (Q:Ex→Env→Heap→Prop) (e':Env) (h':Heap):Ku I n Q .ret e' h'=Q .ret e' h':=rfl
theorem cB {I:Nat→Env→Heap→Prop} {n m:Nat} {Q:Ex→Env→Heap→Prop} {e':Env} {h':Heap} (hm:m < n) (hi:I m e' h'):Ku I n Q .normal e' h':=⟨m,hm,hi⟩
theorem dj {c:Code} {e:Env} {h:Heap} {Q:Ex→Env→Heap→Prop} (I:Nat→Env→Heap→Prop) (n0:Nat) (h0:I n0 e h) (round:∀ n e h,I n e h→W P T ov rd c e h (Ku I n Q)):W P T ov rd (.loop c) e h Q:=by
 have key:∀ (k n:Nat) (e:Env) (h:Heap),n < k→I n e h→dJ (W P T ov rd c) Q k e h:=by
  intro k
  induction k with
  |zero=>intro n e h hn;omega
  |succ k ih =>
   intro n e h hn hI
   simp only [dJ]
   refine W.mono c _ _ _ _ ?_ (round n e h hI)
   intro x e' h'
   cases x with
   |normal=>rintro ⟨m,h1,h2⟩;exact ih m e' h' (by omega) h2
   |exit i=>exact fun hh=>hh
   |ret=>exact fun hh=>hh
 exact ⟨n0+1,key (n0+1) n0 e h (Nat.lt_succ_self _) h0⟩
end
end Go.Am
