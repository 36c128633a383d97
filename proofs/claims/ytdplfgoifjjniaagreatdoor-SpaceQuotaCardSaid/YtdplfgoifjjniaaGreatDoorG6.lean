/- What the fast machine says, the plain one does. No condition. -/
import Derived.Test.YtdplfgoifjjniaaGreatDoorGFast
import Derived.ProofKit
import Derived.ChangeSame
namespace Go.Am

/-! ### The places of a frame -/
theorem ziE:∀ (n m i j:Nat),i < n→j < m→zmJ n i=zmJ m j→i=j
 |0,_,_,_,h,_,_=>by omega
 |_+1,0,_,_,_,h,_=>by omega
 |n+1,m+1,i,j,hi,hj,h=>by
  cases i with
  |zero=>cases j with
   |zero=>rfl
   |succ j =>
    simp only [zmJ] at h
    split at h <;> cases h
  |succ i=>cases j with
   |zero =>
    simp only [zmJ] at h
    split at h <;> cases h
   |succ j =>
    simp only [zmJ] at h
    split at h
    ·rename_i h1
     split at h
     ·rename_i h2
      have:=ziE n m (i / 2) (j / 2) (by omega) (by omega) (Pth.l.inj h)
      omega
     ·cases h
    ·rename_i k1 h1
     split at h
     ·cases h
     ·rename_i k2 h2
      have:=ziE n m (i / 2) (j / 2) (by omega) (by omega) (Pth.r.inj h)
      omega
theorem zka {i j:Nat} (h:zcC i=zcC j):i=j:=ziE _ _ i j (Nat.lt_succ_self _) (Nat.lt_succ_self _) h
theorem ET.get_leaf:∀ p:Pth,ET.get p .leaf=undef
 | .here=>rfl
 | .l _=>rfl
 | .r _=>rfl
theorem ET.get_set:∀ (p q:Pth) (v:Value) (t:ET),(p=q→ET.get q (ET.set p v t)=v)∧(p≠q→ET.get q (ET.set p v t)=ET.get q t)
 | .here,.here,v,t=>⟨fun _=>by cases t <;> rfl,fun h=>(h rfl).elim⟩
 | .here,.l q,v,t=>⟨fun h=>(by cases h),fun _=>by
  cases t with
  |leaf=>exact ET.get_leaf q
  |node x l r=>rfl⟩
 | .here,.r q,v,t=>⟨fun h=>(by cases h),fun _=>by
  cases t with
  |leaf=>exact ET.get_leaf q
  |node x l r=>rfl⟩
 | .l p,.here,v,t=>⟨fun h=>(by cases h),fun _=>by cases t <;> rfl⟩
 | .r p,.here,v,t=>⟨fun h=>(by cases h),fun _=>by cases t <;> rfl⟩
 | .l p,.r q,v,t=>⟨fun h=>(by cases h),fun _=>by
  cases t with
  |leaf=>exact ET.get_leaf q
  |node x l r=>rfl⟩
 | .r p,.l q,v,t=>⟨fun h=>(by cases h),fun _=>by
  cases t with
  |leaf=>exact ET.get_leaf q
  |node x l r=>rfl⟩
 | .l p,.l q,v,t=>by
  cases t with
  |leaf=>exact ⟨fun h=>(ET.get_set p q v .leaf).1 (Pth.l.inj h),fun h=>((ET.get_set p q v .leaf).2 (fun e=>h (by rw [e]))).trans (ET.get_leaf q)⟩
  |node x l r=>exact ⟨fun h=>(ET.get_set p q v l).1 (Pth.l.inj h),fun h=>(ET.get_set p q v l).2 (fun e=>h (by rw [e]))⟩
 | .r p,.r q,v,t=>by
  cases t with
  |leaf=>exact ⟨fun h=>(ET.get_set p q v .leaf).1 (Pth.r.inj h),fun h=>((ET.get_set p q v .leaf).2 (fun e=>h (by rw [e]))).trans (ET.get_leaf q)⟩
  |node x l r=>exact ⟨fun h=>(ET.get_set p q v r).1 (Pth.r.inj h),fun h=>(ET.get_set p q v r).2 (fun e=>h (by rw [e]))⟩
theorem ET.setK_eq:∀ (p:Pth) (v:Value) (t:ET) (k:ET→Bool),ET.setK p v t k=k (ET.set p v t)
 | .here,v,t,k=>by cases t <;> rfl
 | .l p,v,t,k=>by
  cases t with
  |leaf=>exact ET.setK_eq p v .leaf _
  |node x l r=>exact ET.setK_eq p v l _
 | .r p,v,t,k=>by
  cases t with
  |leaf=>exact ET.setK_eq p v .leaf _
  |node x l r=>exact ET.setK_eq p v r _

def ERel (e:FE) (l:Env):Prop:=e.n=l.length∧∀ i,ET.get (zcC i) e.t=l.get i

theorem zav {e:FE} {l:Env} (hr:ERel e l) (o:Operand):fval o e=zab l o:=by
 cases o with
 |tmp t=>exact hr.2 t
 |const v=>rfl
 |global g=>rfl
 |func f=>rfl

theorem zd2 {d:Option Tmp} {v:Value} {e:FE} {l:Env} {k:FE→Bool} (hr:ERel e l) (h:fPut d v e k=true):∃ e',ERel e' (put l d v)∧k e'=true:=by
 cases d with
 |none=>exact ⟨e,hr,h⟩
 |some i =>
  simp only [fPut] at h
  split at h
  ·rename_i hb
   rw [ET.setK_eq] at h
   refine ⟨_,⟨?_,fun j=>?_⟩,h⟩
   ·simp only [put,Env.length_set];exact hr.1
   ·simp only [put,Env.get_set]
    have hi:i < l.length:=by rw [← hr.1];simpa [Nat.blt_eq] using hb
    by_cases hj:j=i
    ·subst hj
     rw [if_pos ⟨rfl,hi⟩]
     exact (ET.get_set _ _ _ _).1 rfl
    ·rw [if_neg (fun h=>hj h.1),(ET.get_set _ _ _ _).2 (fun hp=>hj (zka hp).symm)]
     exact hr.2 j
  ·rename_i hb
   have hi:¬ i < l.length:=by rw [← hr.1];intro h1;have:Nat.blt i e.n=true:=by simpa [Nat.blt_eq] using h1
                              rw [this] at hb;cases hb
   refine ⟨e,⟨by simp only [put,Env.length_set];exact hr.1,fun j=>?_⟩,h⟩
   simp only [put,Env.get_set]
   rw [if_neg (fun h=>hi h.2)]
   exact hr.2 j

section
variable {P:Program} {T:Tab} {ov:Ov}

theorem zij {e:FE} {l:Env} (hr:ERel e l):∀ ps:List (Nat × Operand),zj0 ps e=ps.map fun (i,x)=>(i,zab l x)
 | []=>rfl
 |(i,x)::ps=>by
  show (i,fval x e)::zj0 ps e=_
  rw [zij hr ps,zav hr];rfl
theorem zep {e:FE} {l:Env} (hr:ERel e l):∀ ps:List Operand,zjs ps e=ps.map (zab l)
 | []=>rfl
 |x::ps=>by
  show fval x e::zjs ps e=_
  rw [zep hr ps,zav hr];rfl
theorem zkV {e:FE} {l:Env} (hr:ERel e l) (o:Option Operand):zn6 o e=o.map (zab l):=by
 cases o with
 |none=>rfl
 |some x=>show some (fval x e)=_;rw [zav hr];rfl

theorem zaV {r:Option Value} {h:Heap} {k:FK} (hh:zcJ r h k=true):optE (r.map fun v=>(v,h)) (fun v h'=>k v h'=true):=by
 cases r with
 |none=>cases hh
 |some v=>exact hh
theorem zdk {r:Option Heap} {k:FK} (hh:fMem r k=true):optE (r.map fun h'=>(undef,h')) (fun v h'=>k v h'=true):=by
 cases r with
 |none=>cases hh
 |some v=>exact hh
theorem zcN {r:Option (Value × Heap)} {k:FK} (hh:zhI r k=true):optE r (fun v h'=>k v h'=true):=by
 cases r with
 |none=>cases hh
 |some v=>exact hh
theorem zyi (l m:List Value):catL l m=l++m:=by cases m <;> simp [catL]

theorem zcY {o:Oper} {e:FE} {l:Env} {h:Heap} {k:FK} (hr:ERel e l) (hh:zie P o e h k=true):optE (zaR P l o h) (fun v h'=>k v h'=true):=by
 unfold zie at hh
 unfold zaR
 rw [zep hr,show (fun x=>fval x e)=zab l from funext (zav hr)] at hh
 have e1:(o.op.operands.toList.all fun x=>plain (zab l x))=(o.op.operands.toList.map (zab l)).all plain:=by rw [List.all_map];rfl
 rw [e1]
 split at hh
 ·rename_i h1
  rw [h1,if_pos rfl]
  split at hh
  ·rename_i v h2
   rw [h2]
   simp only
   split at hh
   ·rename_i h3;rw [h3,if_pos rfl];exact hh
   ·cases hh
  ·cases hh
 ·cases hh

def CF (P:Program) (T:Tab) (ov:Ov) (C:Fn→List Value→Heap→FK→Bool):Prop:=∀ f args h k,C f args h k=true→OkF P T ov f args h fun v h'=>k v h'=true

theorem zh9 {C:Fn→List Value→Heap→FK→Bool} (hC:CF P T ov C) {o:Oper} {e:FE} {l:Env} {h:Heap} {k:FK} (hr:ERel e l) (hh:fOp P T C o e h k=true):WOp P T ov o l h fun v h'=>k v h'=true:=by
 obtain ⟨d,op,ty,pos,af,g⟩:=o
 cases op with
 |move x=>have hh:k (fval x e) h=true:=hh;rw [zav hr] at hh;exact hh
 |assign x=>have hh:k (fval x e) h=true:=hh;rw [zav hr] at hh;exact hh
 |pick c a b =>
  have hh:znR (fval c e) (k (fval a e) h) (k (fval b e) h)=true:=hh
  rw [zav hr,zav hr,zav hr] at hh
  show optE (match zab l c with | .bool t=>some (if t then zab l a else zab l b,h)|_=>none) _
  unfold znR at hh
  split at hh
  ·rename_i t ht
   rw [ht]
   cases t <;> exact hh
  ·cases hh
 |alloc t =>
  have hh:znU T t e h k=true:=hh
  show optE ((T.info t).map fun (_,_,z)=>newRow t z h) _
  unfold znU at hh
  split at hh
  ·rename_i n b z hz;rw [hz];exact hh
  ·cases hh
 |box t x=>have hh:k (.pointer (some ⟨h.size,0,none⟩)) (h.push (.row (fval x e).cells.toList t false))=true:=hh;rw [zav hr] at hh;exact hh
 |build t ps =>
  have hh:=zaV (show zcJ (zbZ T t (zj0 ps.toList e)) h k=true from hh)
  rw [zij hr] at hh
  exact hh
 |buildSlice t n ps =>
  have hh:=zcN (show zhI (zaB T t n (zj0 ps.toList e) h) k=true from hh)
  rw [zij hr] at hh
  exact hh
 |load t a =>
  have hh:=zaV (show zcJ (zaL T t (fval a e) h) h k=true from hh)
  rw [zav hr] at hh
  exact hh
 |store t a x =>
  have hh:=zdk (show fMem (zaZ T t (fval a e) (fval x e) h) k=true from hh)
  rw [zav hr,zav hr] at hh
  exact hh
 |nilCheck x =>
  have hh:zg3 x e h k=true:=hh
  show optE (match zab l x with | .pointer (some a)=>some (.pointer (some a),h) | .func (.func f) a b=>some (.func (.func f) a b,h) | .iface t a=>some (.iface t a,h)|_=>none) _
  unfold zg3 at hh
  rw [zav hr] at hh
  split at hh
  ·rename_i a ha;rw [ha];exact hh
  ·rename_i f a b ha;rw [ha];exact hh
  ·rename_i t a ha;rw [ha];exact hh
  ·cases hh
 |binOp op t x y yt =>
  have hh:=zaV (show zcJ (binA P T op t (fval x e) (fval y e)) h k=true from hh)
  rw [zav hr,zav hr] at hh
  exact hh
 |unOp op t x=>exact zcY hr hh
 |convert s t x =>
  have hh:zib P T ⟨d,.convert s t x,ty,pos,af,g⟩ s t x e h k=true:=hh
  show optE (if zbU T s then (zfp T s t (zab l x) h).map fun r=>(r,h) else if zbU T t then (if zft T s then zdP T t (zab l x) h else none) else zaR P l ⟨d,.convert s t x,ty,pos,af,g⟩ h) _
  unfold zib at hh
  split at hh
  ·rename_i hc
   rw [if_pos hc]
   have:=zaV hh
   rw [zav hr] at this
   exact this
  ·rename_i hc
   rw [if_neg (by rw [hc];simp)]
   split at hh
   ·rename_i hd
    rw [if_pos hd]
    split at hh
    ·rename_i hs
     rw [if_pos hs]
     have:=zcN hh
     rw [zav hr] at this
     exact this
    ·cases hh
   ·rename_i hd
    rw [if_neg (by rw [hd];simp)]
    exact zcY hr hh
 |makeInterface t x =>
  have hh:=zaV (show zcJ (zhr T t (fval x e)) h k=true from hh)
  rw [zav hr] at hh
  exact hh
 |typeAssert x xt t ok =>
  have hh:=zaV (show zcJ (zfW T (fval x e) t ok) h k=true from hh)
  rw [zav hr] at hh
  exact hh
 |index t x i=>exact zcY hr hh
 |makeFunc fn fi ca =>
  cases fn with
  |func f =>
   have hh:k (.func (.func f) ⟨zjs fi.toList e⟩ ⟨zjs ca.toList e⟩) h=true:=hh
   show k (.func (.func f) (fi.map (zab l)) (ca.map (zab l))) h=true
   rw [zep hr,zep hr,← Array.toList_map,← Array.toList_map] at hh
   exact hh
  |_=>cases hh
 |makeSlice t a c =>
  have hh:=zcN (show zhI (zcQ T t (fval a e) (fval c e) h) k=true from hh)
  rw [zav hr,zav hr] at hh
  exact hh
 |slice t x lo hi m =>
  have hh:=zaV (show zcJ (zbl T t (fval x e) (zn6 lo e) (zn6 hi e) (zn6 m e)) h k=true from hh)
  rw [zav hr,zkV hr,zkV hr,zkV hr] at hh
  exact hh
 |fieldAddr s x f =>
  have hh:=zaV (show zcJ (zak T s (fval x e) f) h k=true from hh)
  rw [zav hr] at hh
  exact hh
 |field s x f =>
  have hh:=zaV (show zcJ (zih T s (fval x e) f) h k=true from hh)
  rw [zav hr] at hh
  exact hh
 |indexAddr t x i =>
  have hh:=zaV (show zcJ (zao T t (fval x e) (fval i e)) h k=true from hh)
  rw [zav hr,zav hr] at hh
  exact hh
 |extract t i =>
  have hh:zic t i e h k=true:=hh
  show optE (match zab l t with | .tuple vs=>(vs[i]?).map fun r=>(r,h)|_=>none) _
  unfold zic at hh
  rw [zav hr] at hh
  split at hh
  ·rename_i vs hv
   rw [hv]
   have:=zaV hh
   rw [Array.getElem?_toList] at this
   exact this
  ·cases hh
 |call c =>
  obtain ⟨callee,args,ats⟩:=c
  cases callee with
  |value f =>
   have hh:znZ C f args.toList e h k=true:=hh
   show (match zab l f with | .func (.func g) fi ca=>Ok P T ov g (fi.toList++args.toList.map (zab l)++ca.toList) h _ | .func (.yield A) fi ca=>(fi.isEmpty && ca.isEmpty)=true∧OkF P T ov (.yield A) (args.toList.map (zab l)) h _|_=>False)
   unfold znZ at hh
   rw [zav hr] at hh
   split at hh
   ·rename_i g fi ca hv
    rw [hv]
    simp only
    rw [zyi,zep hr,← List.append_assoc] at hh
    exact hC _ _ _ _ hh
   ·rename_i A fi ca hv
    rw [hv]
    simp only
    split at hh
    ·rename_i hc
     rw [zep hr] at hh
     exact ⟨hc,hC _ _ _ _ hh⟩
    ·cases hh
   ·cases hh
  |invoke rv m =>
   have hh:zkT T C rv m args.toList e h k=true:=hh
   show (match zab l rv with | .iface t x=>(match zcy T t x m h with|some (f,y)=>Ok P T ov f (y::args.toList.map (zab l)) h _|none=>False)|_=>False)
   unfold zkT at hh
   rw [zav hr] at hh
   split at hh
   ·rename_i t x hv
    rw [hv]
    simp only
    split at hh
    ·rename_i f y hm
     rw [hm]
     simp only
     rw [zep hr] at hh
     exact hC _ _ _ _ hh
    ·cases hh
   ·cases hh
  |builtin b =>
   have hh:zmb P T b ⟨d,.call ⟨.builtin b,args,ats⟩,ty,pos,af,g⟩ ats.toList args.toList e h k=true:=hh
   cases b with
   |append =>
    have hh:zkR T ats.toList args.toList e h k=true:=hh
    show optE (match ats.toList,args.toList with | [t,u],[s,x]=>if zed T t u then zaH T t (zab l s) (zab l x) h else none|_,_=>none) _
    unfold zkR at hh
    split at hh
    ·rename_i t u s x h1 h2
     rw [h1,h2]
     simp only
     split at hh
     ·rename_i h3
      rw [if_pos h3]
      have:=zcN hh
      rw [zav hr,zav hr] at this
      exact this
     ·cases hh
    ·cases hh
   |copy =>
    have hh:zsc T ats.toList args.toList e h k=true:=hh
    show optE (match ats.toList,args.toList with | [t,_],[d,s]=>znH T t (zab l d) (zab l s) h|_,_=>none) _
    unfold zsc at hh
    split at hh
    ·rename_i t u s x h1 h2
     rw [h1,h2]
     have:=zcN hh
     rw [zav hr,zav hr] at this
     exact this
    ·cases hh
   |clear =>
    have hh:znV T ats.toList args.toList e h k=true:=hh
    show optE (match ats.toList,args.toList with | [t],[x]=>(zcs T t (zab l x) h).map fun h'=>(undef,h')|_,_=>none) _
    unfold znV at hh
    split at hh
    ·rename_i t x h1 h2
     rw [h1,h2]
     have:=zdk hh
     rw [zav hr] at this
     exact this
    ·cases hh
   |len =>
    have hh:zyF T ats.toList args.toList e h k=true:=hh
    show optE (match ats.toList,args.toList with|t::_,[x]=>(lenA T t (zab l x) h).map fun r=>(r,h)|_,_=>none) _
    unfold zyF at hh
    split at hh
    ·rename_i t u x h1 h2
     rw [h1,h2]
     have:=zaV hh
     rw [zav hr] at this
     exact this
    ·cases hh
   |min=>exact zcY hr hh
   |max=>exact zcY hr hh
   |delete =>
    have hh:zkS T ats.toList args.toList e h k=true:=hh
    show optE (match ats.toList,args.toList with|t::_,[m,k]=>(zc4 T t (zab l m) (zab l k) h).map fun h'=>(undef,h')|_,_=>none) _
    unfold zkS at hh
    split at hh
    ·rename_i t u m i h1 h2
     rw [h1,h2]
     have:=zdk hh
     rw [zav hr,zav hr] at this
     exact this
    ·cases hh
   |cap =>
    have hh:zyC T ats.toList args.toList e h k=true:=hh
    show optE (match ats.toList,args.toList with|t::_,[x]=>(capA T t (zab l x)).map fun r=>(r,h)|_,_=>none) _
    unfold zyC at hh
    split at hh
    ·rename_i t u x h1 h2
     rw [h1,h2]
     have:=zaV hh
     rw [zav hr] at this
     exact this
    ·cases hh
   |_=>cases hh
 |makeMap t r =>
  have hh:zid T t r e h k=true:=hh
  cases r with
  |none=>exact hh
  |some x =>
   show optE (match T.desc t,zab l x with|some (.map _ _),.int _ _=>some (.map (some h.size),h.push (.map [] 0))|_,_=>none) _
   simp only [zid] at hh
   rw [zav hr] at hh
   split at hh
   ·rename_i h1 h2;rw [h1,h2];exact hh
   ·cases hh
 |lookup t x i ok =>
  have hh:=zaV (show zcJ (zdB T t (fval x e) (fval i e) ok h) h k=true from hh)
  rw [zav hr,zav hr] at hh
  exact hh
 |mapUpdate t m i x =>
  have hh:=zdk (show fMem (zbE T t (fval m e) (fval i e) (fval x e) h) k=true from hh)
  rw [zav hr,zav hr,zav hr] at hh
  exact hh
 |insert t m i x =>
  have hh:=zdk (show fMem (zbE T t (fval m e) (fval i e) (fval x e) h) k=true from hh)
  rw [zav hr,zav hr,zav hr] at hh
  exact hh
 |mapEntry t m i =>
  have hh:=zcN (show zhI (zfI T t (fval m e) (fval i e) h) k=true from hh)
  rw [zav hr,zav hr] at hh
  exact hh
 |entryStore t m s x =>
  have hh:=zdk (show fMem (za8 (fval m e) (fval s e) (fval x e) h) k=true from hh)
  rw [zav hr,zav hr,zav hr] at hh
  exact hh
 |_=>cases hh

theorem zia {ops:List Oper} {o:Oper} {e:FE} {l:Env} {a b:Bool} {A B:Prop} (hr:ERel e l) (hh:zu4 ops o.guard e a b=true) (ha:a=true→A) (hb:b=true→B):zfo (zbf ⟨ops⟩ o l) A B:=by
 have key:(zbf ⟨ops⟩ o l=true∧a=true)∨(zbf ⟨ops⟩ o l=false∧b=true):=by
  unfold zu4 at hh
  unfold zbf
  split at hh
  ·rename_i hg
   rw [hg]
   exact .inl ⟨rfl,hh⟩
  ·rename_i j c hg
   rw [hg]
   simp only [List.getElem?_toArray]
   split at hh
   ·rename_i t ht
    rw [ht]
    simp only
    rw [hr.2 t] at hh
    split at hh
    ·rename_i d hd
     rw [hd]
     cases d <;> cases c <;> first|exact .inl ⟨rfl,hh⟩|exact .inr ⟨rfl,hh⟩
    ·rename_i hne
     refine .inr ⟨?_,hh⟩
     split
     ·rename_i d hd;exact (hne d hd).elim
     ·rfl
   ·rename_i ht
    rw [ht]
    exact .inr ⟨rfl,hh⟩
 unfold zfo
 rcases key with ⟨h1,h2⟩|⟨h1,h2⟩
 ·rw [h1,if_pos rfl];exact ha h2
 ·rw [h1,if_neg (by simp)];exact hb h2

theorem zr8 (h:Heap) (k:Heap→Bool):fLow h k=k h:=by
 unfold fLow
 obtain ⟨s,t,l⟩:=h
 cases l <;> rfl
theorem zg2 {C:Fn→List Value→Heap→FK→Bool} (hC:CF P T ov C) {ops:List Oper}:∀ (os:List Oper) (e:FE) (l:Env) (h:Heap) (k:FE→Heap→Bool),ERel e l→fOps P T C ops os e h k=true →
 WOps P T ov ⟨ops⟩ os l h fun l' h'=>∃ e',ERel e' l'∧k e' h'=true
 | [],e,l,h,k,hr,hh=>⟨e,hr,hh⟩
 |o::os,e,l,h,k,hr,hh=>by
  have hh:fOne P T C ops o (fOps P T C ops os) e h k=true:=hh
  refine zia hr hh (fun ha=>?_) (fun hb=>?_)
  ·refine WOp.mono (fun v h' hk=>?_) (zh9 hC hr ha)
   rw [zr8] at hk
   obtain ⟨e',hr',hk⟩:=zd2 hr hk
   exact zg2 hC os e' _ h' k hr' hk
  ·obtain ⟨e',hr',hk⟩:=zd2 hr hb
   exact zg2 hC os e' _ h k hr' hk

/-! ### A region that draws its order -/
theorem ziw (ks:List Nat):∀ ps:List (Nat × Nat),ziv ks ps=true→∀ i j,(i,j)∈ps→kOk (ks.getD i 2) (ks.getD j 2)=true
 | [],_,_,_,h=>by cases h
 |(a,b)::r,h,i,j,hm=>by
  simp only [ziv,Bool.and_eq_true] at h
  rcases List.mem_cons.1 hm with h1|h1
  ·cases h1;exact h.1
  ·exact ziw ks r h.2 i j h1
theorem zrX {ops:Array Oper} {ms ks:List Nat} (h1:zda ops ms=true) (h2:ziv ks (zy0 T ops ms)=true) (h3:∀ i,i < ops.size→zbY T ops i=true→ks.getD i 2=0):zh4 ops ks ms=true:=by
 unfold zh4
 rw [List.all_eq_true]
 intro j hj
 have hjs:j < ops.size:=List.mem_range.1 hj
 unfold zda at h1
 have h1:=List.all_eq_true.1 h1 j hj
 unfold zgX
 split
 ·rename_i oj hoj
  rw [hoj] at h1
  simp only [Bool.and_eq_true] at h1 ⊢
  refine ⟨h1.1,?_⟩
  rw [List.all_eq_true]
  intro i hi
  have hij:i < j:=List.mem_range.1 hi
  have h4:=List.all_eq_true.1 h1.2 i hi
  cases ht:(ms.getD j 0).testBit i with
  |true=>rfl
  |false =>
   rw [ht] at h4
   simp only [Bool.false_or] at h4 ⊢
   split at h4
   ·rename_i oi hoi
    rw [hoi]
    simp only
    rw [Bool.and_eq_true]
    refine ⟨h4,?_⟩
    cases hbi:zbY T ops i with
    |true=>rw [h3 i (by omega) hbi];rfl
    |false =>
     cases hbj:zbY T ops j with
     |true=>rw [h3 j hjs hbj];simp [kOk]
     |false =>
      refine ziw ks _ h2 i j ?_
      unfold zy0
      rw [List.mem_flatMap]
      refine ⟨j,hj,?_⟩
      rw [List.mem_filterMap]
      exact ⟨i,hi,by rw [ht,hbi,hbj];rfl⟩
   ·rename_i hoi;rw [hoi]
 ·rfl

theorem zu3 {o:Oper} {e:FE} {l:Env} {h h':Heap} (hr:ERel e l) (hb:zbw T o=false):zyx o e h.size h'.low=zcK T o l h h':=by
 have hb':¬ zbw T o=true:=by rw [hb];simp
 unfold zyx zcK
 rw [if_neg hb']
 by_cases hle:h.size≤h'.low
 ·have h5:Nat.ble h.size h'.low=true:=Nat.ble_eq_true_of_le hle
  rw [if_pos hle]
  simp only [h5]
  cases o.op <;> simp only [zav hr] <;> rfl
 ·have h5:Nat.ble h.size h'.low=false:=by
   cases h7:Nat.ble h.size h'.low with
   |false=>rfl
   |true=>exact (hle (Nat.le_of_ble_eq_true h7)).elim
  rw [if_neg hle]
  simp only [h5]
  cases o.op <;> simp only [zav hr] <;> rfl
theorem zeo {C:Fn→List Value→Heap→FK→Bool} (hC:CF P T ov C) {ops:List Oper}:∀ (os pre:List Oper) (ks:List Nat) (e:FE) (l:Env) (h:Heap) (k:List Nat→FE→Heap→Bool),ops=pre++os→ks.length=pre.length →
 (∀ i,i < pre.length→zbY T ⟨ops⟩ i=true→ks.getD i 2=0)→ERel e l→zyz P T C ops os ks.reverse e h k=true →
 WOpsK P T ov ⟨ops⟩ os ks l h fun ks' l' h'=>ks'.length=ops.length∧(∀ i,i < ops.length→zbY T ⟨ops⟩ i=true→ks'.getD i 2=0)∧∃ e',ERel e' l'∧k ks'.reverse e' h'=true
 | [],pre,ks,e,l,h,k,hp,hl,hb,hr,hh=>by
  rw [List.append_nil] at hp
  subst hp
  exact ⟨hl,hb,e,hr,hh⟩
 |o::os,pre,ks,e,l,h,k,hp,hl,hb,hr,hh=>by
  have hh:zAg P T C ops o (zyz P T C ops os) ks.reverse e h k=true:=hh
  have hat:zbY T ⟨ops⟩ pre.length=zbw T o:=by
   simp [zbY,hp]
  have hb':∀ c,(zbw T o=true→c=0)→∀ i,i < (pre++[o]).length→zbY T ⟨ops⟩ i=true→(ks++[c]).getD i 2=0:=by
   intro c hc i hi hbi
   rw [List.length_append,List.length_singleton] at hi
   by_cases hlt:i < pre.length
   ·have:=hb i hlt hbi
    rw [List.getD_eq_getElem?_getD] at this ⊢
    rw [List.getElem?_append_left (by omega)]
    exact this
   ·have:i=pre.length:=by omega
    subst this
    rw [hat] at hbi
    rw [List.getD_eq_getElem?_getD,List.getElem?_append_right (by omega),hl,Nat.sub_self]
    simp [hc hbi]
  have hp':ops=(pre++[o])++os:=by rw [hp];simp
  have hl':∀ c:Nat,(ks++[c]).length=(pre++[o]).length:=by intro c;simp [hl]
  have hrev:∀ c:Nat,c::ks.reverse=(ks++[c]).reverse:=by intro c;simp
  refine zia hr hh (fun ha=>?_) (fun hb2=>?_)
  ·refine WOp.mono (fun v h' hk=>?_) (zh9 hC hr ha)
   obtain ⟨e',hr',hk⟩:=zd2 hr hk
   simp only [zr8] at hk
   cases hob:zbw T o with
   |true =>
    rw [hob] at hk
    rw [zf2 hob]
    simp only [hrev] at hk
    exact zeo hC os (pre++[o]) (ks++[0]) e' _ _ k hp' (hl' 0) (hb' 0 fun _=>rfl) hr' hk
   |false =>
    rw [hob] at hk
    rw [zu3 hr hob] at hk
    simp only [hrev] at hk
    exact zeo hC os (pre++[o]) (ks++[zcK T o l h h']) e' _ _ k hp' (hl' _) (hb' _ fun h6=>by rw [hob] at h6;cases h6) hr' hk
  ·obtain ⟨e',hr',hk⟩:=zd2 hr hb2
   rw [hrev] at hk
   exact zeo hC os (pre++[o]) (ks++[0]) e' _ _ k hp' (hl' 0) (hb' 0 fun _=>rfl) hr' hk

theorem znT {C:Fn→List Value→Heap→FK→Bool} (hC:CF P T ov C) {ops:Array Oper} {e:FE} {l:Env} {h:Heap} {k:FE→Heap→Bool} (hr:ERel e l) (hh:zyu P T C ops e h k=true) :
 WOpsK P T ov ops ops.toList [] l h fun ks l' h'=>zh4 ops ks (zdC ops.toList [])=true∧∃ e',ERel e' l'∧k e' h'=true:=by
 unfold zyu at hh
 split at hh
 ·rename_i ps hd
  unfold zpd at hd
  split at hd
  ·rename_i ha
   cases hd
   refine WOpsK.mono _ _ _ _ _ _ ?_ (zeo hC ops.toList [] [] e l h _ rfl rfl (fun i hi=>by simp at hi) hr hh)
   rintro ks l' h' ⟨h1,h2,e',hr',hk⟩
   rw [List.reverse_reverse] at hk
   split at hk
   ·rename_i hlo
    exact ⟨zrX ha hlo (fun i hi=>h2 i (by simpa using hi)),e',hr',hk⟩
   ·cases hk
  ·cases hd
 ·cases hh

/-! ### Code -/
theorem znS {v:Value} {a b:Bool} {A B:Prop} (hh:znR v a b=true) (ha:a=true→A) (hb:b=true→B):zkM v A B:=by
 unfold znR at hh
 unfold zkM
 split at hh
 ·rename_i t
  cases t with
  |true=>exact ⟨fun _=>ha hh,fun h=>(by cases h)⟩
  |false=>exact ⟨fun h=>(by cases h),fun _=>hb hh⟩
 ·cases hh

theorem zyv {e:FE} {l:Env} (hr:ERel e l):fEnv e=l:=by
 unfold fEnv
 rw [hr.1]
 refine List.ext_getElem? fun i=>?_
 rw [List.getElem?_map]
 by_cases hi:i < l.length
 ·rw [List.getElem?_range hi,List.getElem?_eq_getElem hi,Option.map_some,hr.2 i,Env.get_eq,List.getElem?_eq_getElem hi]
  rfl
 ·rw [List.getElem?_eq_none (by simpa using hi),List.getElem?_eq_none (by omega)]
  rfl
theorem zl6 {e:FE} {l:Env} (hr:ERel e l) {A:Nat} {h:Heap} {q:FQ} (hh:zr5 A e h q=true):zp0 (zcV A l h) fun x l' h'=>∃ e',ERel e' l'∧q x e' h'=true:=by
 unfold zr5 at hh
 unfold zcV
 split at hh
 ·rename_i env ps assign body st pend hg
  rw [hg]
  cases st <;> cases pend <;> first|cases hh|exact ⟨e,hr,hh⟩|(rename_i c;cases c <;> first|exact ⟨e,hr,hh⟩|cases hh)
 ·cases hh

theorem zcO {C:Fn→List Value→Heap→FK→Bool} (hC:CF P T ov C) {rd:Option Nat} {fuel:Nat}:∀ (c:Code) (e:FE) (l:Env) (h:Heap) (q:FQ),ERel e l→zf0 P T C rd fuel c e h q=true →
 W P T ov rd c l h fun x l' h'=>∃ e',ERel e' l'∧q x e' h'=true:=by
 intro c
 induction c with
 |skip=>intro e l h q hr hh;exact ⟨e,hr,hh⟩
 |region id ops d =>
  intro e l h q hr hh
  cases d with
  |false=>exact zg2 hC _ _ _ _ _ hr hh
  |true=>exact znT hC hr hh
 |seq a b iha ihb =>
  intro e l h q hr hh
  simp only [W]
  refine W.mono _ _ _ _ _ ?_ (iha e l h _ hr hh)
  rintro x l' h' ⟨e',hr',hq⟩
  cases x with
  |normal=>exact ihb e' l' h' q hr' hq
  |exit i=>exact ⟨e',hr',hq⟩
  |ret=>exact ⟨e',hr',hq⟩
 |cond c a b iha ihb =>
  intro e l h q hr hh
  have hh:znR (fval c e) (zf0 P T C rd fuel a e h q) (zf0 P T C rd fuel b e h q)=true:=hh
  rw [zav hr] at hh
  exact znS hh (iha e l h q hr) (ihb e l h q hr)
 |block id c ih =>
  intro e l h q hr hh
  simp only [W]
  refine W.mono _ _ _ _ _ ?_ (ih e l h _ hr hh)
  rintro x l' h' ⟨e',hr',hq⟩
  cases x with
  |normal=>exact ⟨e',hr',hq⟩
  |exit i =>
   have hq:(match Nat.beq i id with|true=>q .normal e' h'|false=>q (.exit i) e' h')=true:=hq
   split at hq
   ·rename_i hb
    simp only [if_pos (Nat.eq_of_beq_eq_true hb)]
    exact ⟨e',hr',hq⟩
   ·rename_i hb
    simp only [if_neg (Nat.ne_of_beq_eq_false hb)]
    exact ⟨e',hr',hq⟩
  |ret=>exact ⟨e',hr',hq⟩
 |loop c ih =>
  intro e l h q hr hh
  have hh:zyy (zf0 P T C rd fuel c) fuel e h q=true:=hh
  have key:∀ (n:Nat) (e:FE) (l:Env) (h:Heap),ERel e l→zyy (zf0 P T C rd fuel c) n e h q=true→WIter (W P T ov rd c) (fun x l' h'=>∃ e',ERel e' l'∧q x e' h'=true) n l h:=by
   intro n
   induction n with
   |zero=>intro e l h _ hh;cases hh
   |succ n ihn =>
    intro e l h hr hh
    simp only [WIter]
    refine W.mono _ _ _ _ _ ?_ (ih e l h _ hr hh)
    rintro x l' h' ⟨e',hr',hq⟩
    cases x with
    |normal=>exact ihn e' l' h' hr' hq
    |exit i=>exact ⟨e',hr',hq⟩
    |ret=>exact ⟨e',hr',hq⟩
  exact ⟨fuel,key fuel e l h hr hh⟩
 |exit id=>intro e l h q hr hh;exact ⟨e,hr,hh⟩
 |ret=>intro e l h q hr hh;exact ⟨e,hr,hh⟩
 |label n=>intro e l h q hr hh;exact ⟨e,hr,hh⟩
 |rangeFunc g ps a b _ _ =>
  intro e l h q hr hh
  have hh:znC T C rd g ps a b (zf0 P T C rd fuel a) (zf0 P T C rd fuel b) e h q=true:=hh
  unfold znC at hh
  rw [zav hr,zyv hr] at hh
  simp only [W,ziO]
  split at hh
  ·rename_i hgv
   rw [hgv]
   simp only
   split at hh
   ·rename_i hc
    refine ⟨hc,(hC _ _ _ _ hh).mono fun v h2 hk=>?_⟩
    exact zl6 hr hk
   ·cases hh
  ·cases hh
 |scope c ih=>intro e l h q hr hh;exact ih e l h q hr hh
 |goto l=>intro e l h q hr hh;cases hh
 |refuse s=>intro e l h q hr hh;cases hh

theorem zr9 {e:FE} {l:Env} (hr:ERel e l) (h:Heap) (r:ResultVar):fRes T r e h=zcE T l h r:=by
 cases r with
 |tmp t=>simp only [fRes,zcE];rw [hr.2 t]
 |cell a y=>simp only [fRes,zcE];rw [hr.2 a]
theorem zg1 {fn:Func} {k:FK} {x:Ex} {e:FE} {l:Env} {h:Heap} (hr:ERel e l) (hh:fFin T fn k x e h=true):(x=.ret∨x=.normal)∧∃ v,zaY T fn l h=some v∧k v h=true:=by
 have go:(match fn.results.toList with
  | [r]=>zcJ (fRes T r e h) h k
  |rs=>(match rs.mapM fun r=>fRes T r e h with
   |some vs=>k (.tuple vs.toArray) h
   |none=>false))=true→∃ v,zaY T fn l h=some v∧k v h=true:=by
  intro hh
  rw [show (fun r=>fRes T r e h)=zcE T l h from funext (zr9 hr h)] at hh
  unfold zaY
  split at hh
  ·rename_i r h1
   rw [h1]
   rw [zr9 hr] at hh
   unfold zcJ at hh
   split at hh
   ·rename_i v h2;exact ⟨v,h2,hh⟩
   ·cases hh
  ·rename_i hne
   split
   ·rename_i r h1;exact (hne r h1).elim
   ·split at hh
    ·rename_i vs h2;rw [h2];exact ⟨_,rfl,hh⟩
    ·cases hh
 cases x with
 |exit i=>cases hh
 |normal=>exact ⟨.inr rfl,go hh⟩
 |ret=>exact ⟨.inl rfl,go hh⟩

theorem zdH:∀ (args:List Value) (i:Nat) (t:ET) (k:ET→Bool),zl8 args i t k=true→∃ t',k t'=true∧∀ j,ET.get (zcC j) t'=if i≤j∧j < i+args.length then (args[j - i]?).getD undef else ET.get (zcC j) t
 | [],i,t,k,hh=>⟨t,hh,fun j=>by rw [if_neg (by simp)]⟩
 |v::args,i,t,k,hh=>by
  have hh:ET.setK (zcC i) v t (fun t=>zl8 args (i+1) t k)=true:=hh
  rw [ET.setK_eq] at hh
  obtain ⟨t',h1,h2⟩:=zdH args (i+1) _ k hh
  refine ⟨t',h1,fun j=>?_⟩
  rw [h2 j,List.length_cons]
  by_cases hj:j=i
  ·subst hj
   rw [if_neg (by omega),if_pos (by omega),(ET.get_set _ _ _ _).1 rfl]
   simp
  ·by_cases hj2:i≤j∧j < i+(args.length+1)
   ·rw [if_pos (by omega),if_pos hj2,show j - i=(j - (i+1))+1 by omega,List.getElem?_cons_succ]
   ·rw [if_neg (by omega),if_neg hj2,(ET.get_set _ _ _ _).2 (fun hp=>hj (zka hp).symm)]

theorem zdv {A:Nat} {jump:Option Code} {h:Heap} {k:FK} (hh:ze1 A jump h k=true):optE (zcb A jump h) fun v h'=>k v h'=true:=by
 unfold ze1 at hh
 unfold zcb
 split at hh
 ·rename_i hg;rw [hg];exact hh
 ·cases hh

theorem zgF:∀ (e:Env) (ps:List Tmp) (args:List Value),(setAll e ps args).length=e.length
 |_,[],args=>by cases args <;> rfl
 |_,_::_,[]=>rfl
 |e,p::ps,v::args=>by simp only [setAll];rw [zgF,Env.length_set]

theorem zl0 {args:List Value} {n:Nat} {t:ET} (hle:args.length≤n) (hget:∀ j,ET.get (zcC j) t=if 0≤j∧j < 0+args.length then (args[j - 0]?).getD undef else ET.get (zcC j) .leaf):ERel ⟨n,t⟩ (args++List.replicate (n - args.length) undef):=by
 refine ⟨by simp;omega,fun j=>?_⟩
 show ET.get (zcC j) t=_
 rw [hget j,Env.get_eq]
 by_cases hj:j < args.length
 ·rw [if_pos (by omega),List.getElem?_append_left hj,Nat.sub_zero]
 ·rw [if_neg (by omega),ET.get_leaf,List.getElem?_append_right (by omega)]
  by_cases hj2:j - args.length < n - args.length
  ·simp [hj2]
  ·simp [hj2]
theorem zjW {C:Fn→List Value→Heap→FK→Bool} (hC:CF P T ov C) {fuel:Nat}:∀ (pre:List Code) (e:FE) (l:Env) (h:Heap) (k:FE→Heap→Bool),ERel e l→fPre (zf0 P T C none fuel) pre e h k=true→WPre P T ov pre l h fun l' h'=>∃ e',ERel e' l'∧k e' h'=true
 | [],e,l,h,k,hr,hh=>⟨e,hr,hh⟩
 |c::cs,e,l,h,k,hr,hh=>by
  simp only [fPre] at hh
  refine W.mono _ _ _ _ _ ?_ (zcO hC c e l h _ hr hh)
  rintro x l' h' ⟨e',hr',hq⟩
  cases x with
  |normal=>exact ⟨rfl,zjW hC cs e' l' h' k hr' hq⟩
  |exit id=>cases hq
  |ret=>cases hq
theorem zl7 {C:Fn→List Value→Heap→FK→Bool} (hC:CF P T ov C) {fuel:Nat} {f:FuncId} {fn:Func} {c:Code} {args:List Value} {t0:ET} {h:Heap} {k:FK} (ho:ov f=none) (hf:T.fn f=some fn) (hc:fn.body=some c) (hdf:T.dfr f=true)
 (hr:ERel ⟨fn.ntmps,t0⟩ (args++List.replicate (fn.ntmps - args.length) undef)) (hh:zr6 P T C (zf0 P T C none fuel) fn c ⟨fn.ntmps,t0⟩ h k=true):Ok P T ov f args h fun v h'=>k v h'=true:=by
 unfold zr6 at hh
 split at hh
 ·rename_i pre m t rest hsp
  split at hh
  ·rename_i hnr
   refine Ok.enterD ho hf hc hdf hsp hnr ?_
   refine WPre.mono _ _ _ _ _ ?_ (zjW hC pre _ _ h _ hr hh)
   rintro l1 h1 ⟨e1,hr1,hq⟩
   refine WOp.mono (fun v h2 hk=>?_) (zh9 hC hr1 hq)
   obtain ⟨e2,hr2,hk⟩:=zd2 hr1 hk
   refine W.mono _ _ _ _ _ ?_ (zcO hC rest e2 _ h2 _ hr2 hk)
   rintro x l3 h3 ⟨e3,hr3,hq3⟩
   have key:(x=.ret∨x=.normal)∧zr7 T (zf0 P T C none fuel) fn (ET.get (zcC t) e2.t) e3 h3 k=true:=by
    cases x with
    |normal=>exact ⟨.inr rfl,hq3⟩
    |exit id=>cases hq3
    |ret=>exact ⟨.inl rfl,hq3⟩
   obtain ⟨hx,hlv⟩:=key
   refine ⟨hx,?_⟩
   unfold zr7 at hlv
   split at hlv
   ·rename_i g fi ca hg
    split at hlv
    ·rename_i fg hfg
     split at hlv
     ·rename_i cg hcg
      split at hlv
      ·rename_i hcond
       simp only [Bool.and_eq_true] at hcond
       obtain ⟨t4,ht4,hget⟩:=zdH (fi.toList++ca.toList) 0 .leaf _ hlv
       refine ⟨g,fi,ca,fg,cg,by rw [← hr2.2 t];exact hg,hfg,hcg,hcond.1,?_⟩
       refine W.mono _ _ _ _ _ ?_ (zcO hC cg ⟨fg.ntmps,t4⟩ _ h3 _ (zl0 (Nat.le_of_ble_eq_true hcond.2) hget) ht4)
       rintro y l4 h4 ⟨e4,hr4,hq4⟩
       obtain ⟨hy,vg,hvg,hq5⟩:=zg1 hr4 hq4
       obtain ⟨_,v5,hv5,hq6⟩:=zg1 hr3 hq5
       exact ⟨hy,vg,v5,hvg,hv5,hq6⟩
      ·cases hlv
     ·cases hlv
    ·cases hlv
   ·cases hlv
  ·cases hh
 ·cases hh
theorem zig (fuel:Nat):∀ n,CF P T ov (zn5 P T ov fuel n)
 |0=>by intro f args h k hh;cases hh
 |n+1=>by
  intro f args h k hh
  have ih:=zig fuel n
  cases f with
  |func f =>
   have hh:zyw P T ov (zn5 P T ov fuel n) (zf0 P T (zn5 P T ov fuel n) none fuel) f args h k=true:=hh
   unfold zyw at hh
   split at hh
   ·rename_i g hg
    unfold zhI at hh
    split at hh
    ·rename_i v h' hv
     exact Ok.over hg hv hh
    ·cases hh
   ·rename_i ho
    split at hh
    ·rename_i fn hf
     split at hh
     ·rename_i c hc
      split at hh
      ·rename_i hle
       have hle:=Nat.le_of_ble_eq_true hle
       obtain ⟨t,ht,hget⟩:=zdH args 0 .leaf _ hh
       have hE:=zl0 hle hget
       split at ht
       ·rename_i hdf
        exact zl7 ih ho hf hc hdf hE ht
       ·rename_i hdf
        refine Ok.enter ho hf hc hdf ?_
        refine W.mono _ _ _ _ _ ?_ (zcO ih c ⟨fn.ntmps,t⟩ (args++List.replicate (fn.ntmps - args.length) undef) h _ hE ht)
        rintro x l' h' ⟨e',hr',hq⟩
        exact zg1 hr' hq
      ·cases hh
     ·cases hh
    ·cases hh
  |yield A =>
   have hh:zsb (zf0 P T (zn5 P T ov fuel n) (some A) fuel) A args h k=true:=hh
   unfold zsb at hh
   split at hh
   ·rename_i env ps assign body st pend hg
    split at hh
    ·rename_i hl
     obtain ⟨t,ht,hget⟩:=zdH _ 0 .leaf _ hh
     refine OkF.round hg (Nat.eq_of_beq_eq_true hl) ?_
     refine W.mono _ _ _ _ _ ?_ (zcO ih assign ⟨env.length,t⟩ (setAll env ps args) h _ ⟨?_,fun j=>?_⟩ ht)
     ·rintro x e1 h1 ⟨e',hr',hq⟩
      cases x with
      |normal =>
       refine ⟨rfl,?_⟩
       have hq:(match h1.get A with
        |some (.loop env ps assign body1 .ready pend)=>zf0 P T (zn5 P T ov fuel n) (some A) fuel body e' (h1.set A (.loop env ps assign body1 .busy pend)) (zl9 A k)
        |_=>false)=true:=hq
       split at hq
       ·rename_i env1 ps1 as1 bd1 pend1 hg1
        refine ⟨env1,ps1,as1,bd1,pend1,hg1,?_⟩
        refine W.mono _ _ _ _ _ ?_ (zcO ih body e' e1 _ _ hr' hq)
        rintro x l' h' ⟨e2,_,hk⟩
        cases x with
        |normal=>exact zdv hk
        |exit id=>exact zdv hk
        |ret=>exact zdv hk
       ·cases hq
      |exit id=>cases hq
      |ret=>cases hq
     ·rw [zgF]
     ·show ET.get (zcC j) t=_
      rw [hget j,Env.get_eq]
      by_cases hj:j < (setAll env ps args).length
      ·rw [if_pos (by omega),Nat.sub_zero]
      ·rw [if_neg (by omega),ET.get_leaf,List.getElem?_eq_none (by omega)]
       rfl
    ·cases hh
   ·cases hh
  |_=>cases hh
end
end Go.Am
namespace Go.Am
open Go.ChangeShapes Go.WideShapes Go.ChangeAt Go.RowKit

section
variable {H:Type} {enc:TypeId × Value→H} {P:Program}
theorem zu0 {f:Func} {s:ChangeSpec} {apart fresh handsOn again:Bool} {W W':World} {args:Array Value} {v:Value} {ds gs:List (DataW H)} {before pa pv:List MemPlace}
 (hW:DataW.Whole enc P f.params.toList s.vars apart W args.toList ds gs before)
 (hres:∀ (b:Nat) (sp:Nat→Bool) (hd:Bool),DataW.TrodAll enc P W' b sp hd f.resultTypes.toList (v.resultList f.resultTypes.size) (s.fn H (ds++gs)).results [])
 (hargs:∀ sp:Nat→Bool,(∀ p∈before,sp p.block=true)→DataW.TrodAll enc P W' 0 sp true f.params.toList args.toList (s.fn H (ds++gs)).args pa)
 (hvars:∀ sp:Nat→Bool,(∀ p∈before,sp p.block=true)→DataW.TrodVars enc P W' sp s.vars (s.fn H (ds++gs)).vars pv)
 (hps:before=pa++pv) (hb:Below W.heap.size W W')
 (hok:∀ (j:Nat) (t:TypeId) (r:Value),f.resultTypes[j]? = some t→(v.resultList f.resultTypes.size)[j]? = some r→Value.okWide P W' .any 0 t r) :
 s.post enc P f apart fresh handsOn again W args v W':=by
 have below:∀ p∈before,p.block < W.heap.size:=fun p hp=>hW.lt p hp
 have old:∀ p∈before,(fun b=>decide (b < W.heap.size)) p.block=true:=fun p hp=>by simpa using below p hp
 have mem:∀ p,p∈before↔p∈([]++pa)++pv:=fun p=>by rw [hps];simp
 refine ⟨ds,gs,before,[],pa,pv,hW,hres _ _ _,hargs _ old,hvars _ old,World.keptBut_mono (fun p hp=>⟨hp,?_⟩) (hb.frame (·∈before)),fun _=>?_⟩
 ·rw [hps,List.mem_append] at hp
  exact .inr hp
 obtain ⟨_,_,_,_,_,hz,hn⟩:=hW
 refine ⟨hok,_,_,([]++pa)++pv,⟨[]++pa,pv,trodAll_append (hargs _ (fun _ _=>rfl)) (hres _ _ _),hvars _ (fun _ _=>rfl),rfl,fun b off hp=>?_,fun ha=>?_⟩,?_⟩
 ·have hin:=(mem _).2 hp
  rw [hb.frozen (below _ hin)]
  exact hz b off hin
 ·have:=hn ha
  rw [hps] at this
  simpa using this
 ·exact fun p hp _=>(mem p).2 hp
end


end Go.Am
