/- What the fast machine says, the plain one does. No condition. -/
import Derived.Test.YtdplfgoifjjniaaGreatDoorGFast
import Derived.ProofKit
import Derived.ChangeSame
namespace Go.Am

/-! ### The places of a frame -/
theorem Y9:∀ (n m i j:Nat),i < n→j < m→BP n i=BP m j→i=j
 |0,_,_,_,h,_,_=>by omega
 |_+1,0,_,_,_,h,_=>by omega
 |n+1,m+1,i,j,hi,hj,h=>by
  cases i with
  |zero=>cases j with
   |zero=>rfl
   |succ j =>
    simp only [BP] at h
    split at h <;> cases h
  |succ i=>cases j with
   |zero =>
    simp only [BP] at h
    split at h <;> cases h
   |succ j =>
    simp only [BP] at h
    split at h
    ·rename_i h1
     split at h
     ·rename_i h2
      have:=Y9 n m (i / 2) (j / 2) (by omega) (by omega) (mW.l.inj h)
      omega
     ·cases h
    ·rename_i k1 h1
     split at h
     ·cases h
     ·rename_i k2 h2
      have:=Y9 n m (i / 2) (j / 2) (by omega) (by omega) (mW.r.inj h)
      omega
theorem zkG {i j:Nat} (h:nQ i=nQ j):i=j:=Y9 _ _ i j (Nat.lt_succ_self _) (Nat.lt_succ_self _) h
theorem ET.eL:∀ p:mW,ET.get p .leaf=undef
 | .here=>rfl
 | .l _=>rfl
 | .r _=>rfl
theorem ET.aC:∀ (p q:mW) (v:Value) (t:ET),(p=q→ET.get q (ET.set p v t)=v)∧(p≠q→ET.get q (ET.set p v t)=ET.get q t)
 | .here,.here,v,t=>⟨fun _=>by cases t <;> rfl,fun h=>(h rfl).elim⟩
 | .here,.l q,v,t=>⟨fun h=>(by cases h),fun _=>by
  cases t with
  |leaf=>exact ET.eL q
  |node x l r=>rfl⟩
 | .here,.r q,v,t=>⟨fun h=>(by cases h),fun _=>by
  cases t with
  |leaf=>exact ET.eL q
  |node x l r=>rfl⟩
 | .l p,.here,v,t=>⟨fun h=>(by cases h),fun _=>by cases t <;> rfl⟩
 | .r p,.here,v,t=>⟨fun h=>(by cases h),fun _=>by cases t <;> rfl⟩
 | .l p,.r q,v,t=>⟨fun h=>(by cases h),fun _=>by
  cases t with
  |leaf=>exact ET.eL q
  |node x l r=>rfl⟩
 | .r p,.l q,v,t=>⟨fun h=>(by cases h),fun _=>by
  cases t with
  |leaf=>exact ET.eL q
  |node x l r=>rfl⟩
 | .l p,.l q,v,t=>by
  cases t with
  |leaf=>exact ⟨fun h=>(ET.aC p q v .leaf).1 (mW.l.inj h),fun h=>((ET.aC p q v .leaf).2 (fun e=>h (by rw [e]))).trans (ET.eL q)⟩
  |node x l r=>exact ⟨fun h=>(ET.aC p q v l).1 (mW.l.inj h),fun h=>(ET.aC p q v l).2 (fun e=>h (by rw [e]))⟩
 | .r p,.r q,v,t=>by
  cases t with
  |leaf=>exact ⟨fun h=>(ET.aC p q v .leaf).1 (mW.r.inj h),fun h=>((ET.aC p q v .leaf).2 (fun e=>h (by rw [e]))).trans (ET.eL q)⟩
  |node x l r=>exact ⟨fun h=>(ET.aC p q v r).1 (mW.r.inj h),fun h=>(ET.aC p q v r).2 (fun e=>h (by rw [e]))⟩
theorem ET.iA:∀ (p:mW) (v:Value) (t:ET) (k:ET→Bool),ET.zF p v t k=k (ET.set p v t)
 | .here,v,t,k=>by cases t <;> rfl
 | .l p,v,t,k=>by
  cases t with
  |leaf=>exact ET.iA p v .leaf _
  |node x l r=>exact ET.iA p v l _
 | .r p,v,t,k=>by
  cases t with
  |leaf=>exact ET.iA p v .leaf _
  |node x l r=>exact ET.iA p v r _

def dV (e:FE) (l:Env):Prop:=e.n=l.length∧∀ i,ET.get (nQ i) e.t=l.get i

theorem ep {e:FE} {l:Env} (hr:dV e l) (o:Operand):bf o e=aZ l o:=by
 cases o with
 |tmp t=>exact hr.2 t
 |const v=>rfl
 |global g=>rfl
 |func f=>rfl

theorem L8 {d:Option Tmp} {v:Value} {e:FE} {l:Env} {k:FE→Bool} (hr:dV e l) (h:pW d v e k=true):∃ e',dV e' (put l d v)∧k e'=true:=by
 cases d with
 |none=>exact ⟨e,hr,h⟩
 |some i =>
  simp only [pW] at h
  split at h
  ·rename_i hb
   rw [ET.iA] at h
   refine ⟨_,⟨?_,fun j=>?_⟩,h⟩
   ·simp only [put,Env.length_set];exact hr.1
   ·simp only [put,Env.aC]
    have hi:i < l.length:=by rw [← hr.1];simpa [Nat.blt_eq] using hb
    by_cases hj:j=i
    ·subst hj
     rw [if_pos ⟨rfl,hi⟩]
     exact (ET.aC _ _ _ _).1 rfl
    ·rw [if_neg (fun h=>hj h.1),(ET.aC _ _ _ _).2 (fun hp=>hj (zkG hp).symm)]
     exact hr.2 j
  ·rename_i hb
   have hi:¬ i < l.length:=by rw [← hr.1];intro h1;have:Nat.blt i e.n=true:=by simpa [Nat.blt_eq] using h1
                              rw [this] at hb;cases hb
   refine ⟨e,⟨by simp only [put,Env.length_set];exact hr.1,fun j=>?_⟩,h⟩
   simp only [put,Env.aC]
   rw [if_neg (fun h=>hi h.2)]
   exact hr.2 j

section
variable {P:Program} {T:bD} {ov:Ov}

theorem Zc {e:FE} {l:Env} (hr:dV e l):∀ ps:List (Nat × Operand),GM ps e=ps.map fun (i,x)=>(i,aZ l x)
 | []=>rfl
 |(i,x)::ps=>by
  show (i,bf x e)::GM ps e=_
  rw [Zc hr ps,ep hr];rfl
theorem Ey {e:FE} {l:Env} (hr:dV e l):∀ ps:List Operand,wz ps e=ps.map (aZ l)
 | []=>rfl
 |x::ps=>by
  show bf x e::wz ps e=_
  rw [Ey hr ps,ep hr];rfl
theorem ZS {e:FE} {l:Env} (hr:dV e l) (o:Option Operand):E4 o e=o.map (aZ l):=by
 cases o with
 |none=>rfl
 |some x=>show some (bf x e)=_;rw [ep hr];rfl

theorem qZ {r:Option Value} {h:Heap} {k:FK} (hh:jS r h k=true):bW (r.map fun v=>(v,h)) (fun v h'=>k v h'=true):=by
 cases r with
 |none=>cases hh
 |some v=>exact hh
theorem F8 {r:Option Heap} {k:FK} (hh:ma r k=true):bW (r.map fun h'=>(undef,h')) (fun v h'=>k v h'=true):=by
 cases r with
 |none=>cases hh
 |some v=>exact hh
theorem F4 {r:Option (Value × Heap)} {k:FK} (hh:td r k=true):bW r (fun v h'=>k v h'=true):=by
 cases r with
 |none=>cases hh
 |some v=>exact hh
theorem zBZ (l m:List Value):Ct l m=l++m:=by cases m <;> simp [Ct]

theorem LX {o:Oper} {e:FE} {l:Env} {h:Heap} {k:FK} (hr:dV e l) (hh:EI P o e h k=true):bW (gi P l o h) (fun v h'=>k v h'=true):=by
 unfold EI at hh
 unfold gi
 rw [Ey hr,show (fun x=>bf x e)=aZ l from funext (ep hr)] at hh
 have e1:(o.op.operands.toList.all fun x=>plain (aZ l x))=(o.op.operands.toList.map (aZ l)).all plain:=by rw [List.all_map];rfl
 rw [e1]
 split at hh
 ·rename_i h1
  rw [h1,if_pos rfl]
  split at hh
  ·rename_i v h2
   rw [h2]
   simp only
   split at hh
   ·rename_i h3;rw [h3,if_pos rfl];exact hh
   ·cases hh
  ·cases hh
 ·cases hh

def CF (P:Program) (T:bD) (ov:Ov) (C:Fn→List Value→Heap→FK→Bool):Prop:=∀ f args h k,C f args h k=true→tj P T ov f args h fun v h'=>k v h'=true

theorem Zh {C:Fn→List Value→Heap→FK→Bool} (hC:CF P T ov C) {o:Oper} {e:FE} {l:Env} {h:Heap} {k:FK} (hr:dV e l) (hh:Nu P T C o e h k=true):bY P T ov o l h fun v h'=>k v h'=true:=by
 obtain ⟨d,op,ty,pos,af,g⟩:=o
 cases op with
 |move x=>have hh:k (bf x e) h=true:=hh;rw [ep hr] at hh;exact hh
 |assign x=>have hh:k (bf x e) h=true:=hh;rw [ep hr] at hh;exact hh
 |pick c a b =>
  have hh:E1 (bf c e) (k (bf a e) h) (k (bf b e) h)=true:=hh
  rw [ep hr,ep hr,ep hr] at hh
  show bW (match aZ l c with | .bool t=>some (if t then aZ l a else aZ l b,h)|_=>none) _
  unfold E1 at hh
  split at hh
  ·rename_i t ht
   rw [ht]
   cases t <;> exact hh
  ·cases hh
 |alloc t =>
  have hh:Z0 T t e h k=true:=hh
  show bW ((T.info t).map fun (_,_,z)=>newRow t z h) _
  unfold Z0 at hh
  split at hh
  ·rename_i n b z hz;rw [hz];exact hh
  ·cases hh
 |box t x=>have hh:k (.pointer (some ⟨h.size,0,none⟩)) (h.push (.row (bf x e).cells.toList t false))=true:=hh;rw [ep hr] at hh;exact hh
 |build t ps =>
  have hh:=qZ (show jS (nR T t (GM ps.toList e)) h k=true from hh)
  rw [Zc hr] at hh
  exact hh
 |buildSlice t n ps =>
  have hh:=F4 (show td (lQ T t n (GM ps.toList e) h) k=true from hh)
  rw [Zc hr] at hh
  exact hh
 |load t a =>
  have hh:=qZ (show jS (dz T t (bf a e) h) h k=true from hh)
  rw [ep hr] at hh
  exact hh
 |store t a x =>
  have hh:=F8 (show ma (gA T t (bf a e) (bf x e) h) k=true from hh)
  rw [ep hr,ep hr] at hh
  exact hh
 |nilCheck x =>
  have hh:YZ x e h k=true:=hh
  show bW (match aZ l x with | .pointer (some a)=>some (.pointer (some a),h) | .func (.func f) a b=>some (.func (.func f) a b,h) | .iface t a=>some (.iface t a,h)|_=>none) _
  unfold YZ at hh
  rw [ep hr] at hh
  split at hh
  ·rename_i a ha;rw [ha];exact hh
  ·rename_i f a b ha;rw [ha];exact hh
  ·rename_i t a ha;rw [ha];exact hh
  ·cases hh
 |binOp op t x y yt =>
  have hh:=qZ (show jS (bU P T op t (bf x e) (bf y e)) h k=true from hh)
  rw [ep hr,ep hr] at hh
  exact hh
 |unOp op t x=>exact LX hr hh
 |convert s t x =>
  have hh:Zi P T ⟨d,.convert s t x,ty,pos,af,g⟩ s t x e h k=true:=hh
  show bW (if n6 T s then (Gr T s t (aZ l x) h).map fun r=>(r,h) else if n6 T t then (if Gm T s then Bp T t (aZ l x) h else none) else gi P l ⟨d,.convert s t x,ty,pos,af,g⟩ h) _
  unfold Zi at hh
  split at hh
  ·rename_i hc
   rw [if_pos hc]
   have:=qZ hh
   rw [ep hr] at this
   exact this
  ·rename_i hc
   rw [if_neg (by rw [hc];simp)]
   split at hh
   ·rename_i hd
    rw [if_pos hd]
    split at hh
    ·rename_i hs
     rw [if_pos hs]
     have:=F4 hh
     rw [ep hr] at this
     exact this
    ·cases hh
   ·rename_i hd
    rw [if_neg (by rw [hd];simp)]
    exact LX hr hh
 |makeInterface t x =>
  have hh:=qZ (show jS (BD T t (bf x e)) h k=true from hh)
  rw [ep hr] at hh
  exact hh
 |typeAssert x xt t ok =>
  have hh:=qZ (show jS (EC T (bf x e) t ok) h k=true from hh)
  rw [ep hr] at hh
  exact hh
 |index t x i=>exact LX hr hh
 |makeFunc fn fi ca =>
  cases fn with
  |func f =>
   have hh:k (.func (.func f) ⟨wz fi.toList e⟩ ⟨wz ca.toList e⟩) h=true:=hh
   show k (.func (.func f) (fi.map (aZ l)) (ca.map (aZ l))) h=true
   rw [Ey hr,Ey hr,← Array.toList_map,← Array.toList_map] at hh
   exact hh
  |_=>cases hh
 |makeSlice t a c =>
  have hh:=F4 (show td (Ek T t (bf a e) (bf c e) h) k=true from hh)
  rw [ep hr,ep hr] at hh
  exact hh
 |slice t x lo hi m =>
  have hh:=qZ (show jS (kf T t (bf x e) (E4 lo e) (E4 hi e) (E4 m e)) h k=true from hh)
  rw [ep hr,ZS hr,ZS hr,ZS hr] at hh
  exact hh
 |fieldAddr s x f =>
  have hh:=qZ (show jS (cV T s (bf x e) f) h k=true from hh)
  rw [ep hr] at hh
  exact hh
 |field s x f =>
  have hh:=qZ (show jS (BC T s (bf x e) f) h k=true from hh)
  rw [ep hr] at hh
  exact hh
 |indexAddr t x i =>
  have hh:=qZ (show jS (fM T t (bf x e) (bf i e)) h k=true from hh)
  rw [ep hr,ep hr] at hh
  exact hh
 |extract t i =>
  have hh:Zj t i e h k=true:=hh
  show bW (match aZ l t with | .tuple vs=>(vs[i]?).map fun r=>(r,h)|_=>none) _
  unfold Zj at hh
  rw [ep hr] at hh
  split at hh
  ·rename_i vs hv
   rw [hv]
   have:=qZ hh
   rw [Array.getElem?_toList] at this
   exact this
  ·cases hh
 |call c =>
  obtain ⟨callee,args,eH⟩:=c
  cases callee with
  |value f =>
   have hh:Z2 C f args.toList e h k=true:=hh
   show (match aZ l f with | .func (.func g) fi ca=>Ok P T ov g (fi.toList++args.toList.map (aZ l)++ca.toList) h _ | .func (.yield A) fi ca=>(fi.isEmpty && ca.isEmpty)=true∧tj P T ov (.yield A) (args.toList.map (aZ l)) h _|_=>False)
   unfold Z2 at hh
   rw [ep hr] at hh
   split at hh
   ·rename_i g fi ca hv
    rw [hv]
    simp only
    rw [zBZ,Ey hr,← List.append_assoc] at hh
    exact hC _ _ _ _ hh
   ·rename_i A fi ca hv
    rw [hv]
    simp only
    split at hh
    ·rename_i hc
     rw [Ey hr] at hh
     exact ⟨hc,hC _ _ _ _ hh⟩
    ·cases hh
   ·cases hh
  |invoke rv m =>
   have hh:ZQ T C rv m args.toList e h k=true:=hh
   show (match aZ l rv with | .iface t x=>(match rf T t x m h with|some (f,y)=>Ok P T ov f (y::args.toList.map (aZ l)) h _|none=>False)|_=>False)
   unfold ZQ at hh
   rw [ep hr] at hh
   split at hh
   ·rename_i t x hv
    rw [hv]
    simp only
    split at hh
    ·rename_i f y hm
     rw [hm]
     simp only
     rw [Ey hr] at hh
     exact hC _ _ _ _ hh
    ·cases hh
   ·cases hh
  |builtin b =>
   have hh:zmM P T b ⟨d,.call ⟨.builtin b,args,eH⟩,ty,pos,af,g⟩ eH.toList args.toList e h k=true:=hh
   cases b with
   |append =>
    have hh:ZO T eH.toList args.toList e h k=true:=hh
    show bW (match eH.toList,args.toList with | [t,u],[s,x]=>if rm T t u then il T t (aZ l s) (aZ l x) h else none|_,_=>none) _
    unfold ZO at hh
    split at hh
    ·rename_i t u s x h1 h2
     rw [h1,h2]
     simp only
     split at hh
     ·rename_i h3
      rw [if_pos h3]
      have:=F4 hh
      rw [ep hr,ep hr] at this
      exact this
     ·cases hh
    ·cases hh
   |copy =>
    have hh:ztn T eH.toList args.toList e h k=true:=hh
    show bW (match eH.toList,args.toList with | [t,_],[d,s]=>Fa T t (aZ l d) (aZ l s) h|_,_=>none) _
    unfold ztn at hh
    split at hh
    ·rename_i t u s x h1 h2
     rw [h1,h2]
     have:=F4 hh
     rw [ep hr,ep hr] at this
     exact this
    ·cases hh
   |clear =>
    have hh:Z1 T eH.toList args.toList e h k=true:=hh
    show bW (match eH.toList,args.toList with | [t],[x]=>(nP T t (aZ l x) h).map fun h'=>(undef,h')|_,_=>none) _
    unfold Z1 at hh
    split at hh
    ·rename_i t x h1 h2
     rw [h1,h2]
     have:=F8 hh
     rw [ep hr] at this
     exact this
    ·cases hh
   |len =>
    have hh:Yq T eH.toList args.toList e h k=true:=hh
    show bW (match eH.toList,args.toList with|t::_,[x]=>(bd T t (aZ l x) h).map fun r=>(r,h)|_,_=>none) _
    unfold Yq at hh
    split at hh
    ·rename_i t u x h1 h2
     rw [h1,h2]
     have:=qZ hh
     rw [ep hr] at this
     exact this
    ·cases hh
   |min=>exact LX hr hh
   |max=>exact LX hr hh
   |delete =>
    have hh:ZP T eH.toList args.toList e h k=true:=hh
    show bW (match eH.toList,args.toList with|t::_,[m,k]=>(sY T t (aZ l m) (aZ l k) h).map fun h'=>(undef,h')|_,_=>none) _
    unfold ZP at hh
    split at hh
    ·rename_i t u m i h1 h2
     rw [h1,h2]
     have:=F8 hh
     rw [ep hr,ep hr] at this
     exact this
    ·cases hh
   |cap =>
    have hh:Yp T eH.toList args.toList e h k=true:=hh
    show bW (match eH.toList,args.toList with|t::_,[x]=>(tF T t (aZ l x)).map fun r=>(r,h)|_,_=>none) _
    unfold Yp at hh
    split at hh
    ·rename_i t u x h1 h2
     rw [h1,h2]
     have:=qZ hh
     rw [ep hr] at this
     exact this
    ·cases hh
   |_=>cases hh
 |makeMap t r =>
  have hh:Zk T t r e h k=true:=hh
  cases r with
  |none=>exact hh
  |some x =>
   show bW (match T.desc t,aZ l x with|some (.map _ _),.int _ _=>some (.map (some h.size),h.push (.map [] 0))|_,_=>none) _
   simp only [Zk] at hh
   rw [ep hr] at hh
   split at hh
   ·rename_i h1 h2;rw [h1,h2];exact hh
   ·cases hh
 |lookup t x i ok =>
  have hh:=qZ (show jS (vt T t (bf x e) (bf i e) ok h) h k=true from hh)
  rw [ep hr,ep hr] at hh
  exact hh
 |mapUpdate t m i x =>
  have hh:=F8 (show ma (mS T t (bf m e) (bf i e) (bf x e) h) k=true from hh)
  rw [ep hr,ep hr,ep hr] at hh
  exact hh
 |insert t m i x =>
  have hh:=F8 (show ma (mS T t (bf m e) (bf i e) (bf x e) h) k=true from hh)
  rw [ep hr,ep hr,ep hr] at hh
  exact hh
 |mapEntry t m i =>
  have hh:=F4 (show td (wo T t (bf m e) (bf i e) h) k=true from hh)
  rw [ep hr,ep hr] at hh
  exact hh
 |entryStore t m s x =>
  have hh:=F8 (show ma (sd (bf m e) (bf s e) (bf x e) h) k=true from hh)
  rw [ep hr,ep hr,ep hr] at hh
  exact hh
 |_=>cases hh

theorem ziw {ops:List Oper} {o:Oper} {e:FE} {l:Env} {a b:Bool} {A B:Prop} (hr:dV e l) (hh:PJ ops o.guard e a b=true) (ha:a=true→A) (hb:b=true→B):qz (kP ⟨ops⟩ o l) A B:=by
 have key:(kP ⟨ops⟩ o l=true∧a=true)∨(kP ⟨ops⟩ o l=false∧b=true):=by
  unfold PJ at hh
  unfold kP
  split at hh
  ·rename_i hg
   rw [hg]
   exact .inl ⟨rfl,hh⟩
  ·rename_i j c hg
   rw [hg]
   simp only [List.getElem?_toArray]
   split at hh
   ·rename_i t ht
    rw [ht]
    simp only
    rw [hr.2 t] at hh
    split at hh
    ·rename_i d hd
     rw [hd]
     cases d <;> cases c <;> first|exact .inl ⟨rfl,hh⟩|exact .inr ⟨rfl,hh⟩
    ·rename_i aO
     refine .inr ⟨?_,hh⟩
     split
     ·rename_i d hd;exact (aO d hd).elim
     ·rfl
   ·rename_i ht
    rw [ht]
    exact .inr ⟨rfl,hh⟩
 unfold qz
 rcases key with ⟨h1,h2⟩|⟨h1,h2⟩
 ·rw [h1,if_pos rfl];exact ha h2
 ·rw [h1,if_neg (by simp)];exact hb h2

theorem ztj (h:Heap) (k:Heap→Bool):tH h k=k h:=by
 unfold tH
 obtain ⟨s,t,l⟩:=h
 cases l <;> rfl
theorem YY {C:Fn→List Value→Heap→FK→Bool} (hC:CF P T ov C) {ops:List Oper}:∀ (os:List Oper) (e:FE) (l:Env) (h:Heap) (k:FE→Heap→Bool),dV e l→Cy P T C ops os e h k=true →
 cQ P T ov ⟨ops⟩ os l h fun l' h'=>∃ e',dV e' l'∧k e' h'=true
 | [],e,l,h,k,hr,hh=>⟨e,hr,hh⟩
 |o::os,e,l,h,k,hr,hh=>by
  have hh:ID P T C ops o (Cy P T C ops os) e h k=true:=hh
  refine ziw hr hh (fun ha=>?_) (fun hb=>?_)
  ·refine bY.mono (fun v h' hk=>?_) (Zh hC hr ha)
   rw [ztj] at hk
   obtain ⟨e',bo,hk⟩:=L8 hr hk
   exact YY hC os e' _ h' k bo hk
  ·obtain ⟨e',bo,hk⟩:=L8 hr hb
   exact YY hC os e' _ h k bo hk

/-! ### A region that draws its order -/
theorem ziS (ks:List Nat):∀ ps:List (Nat × Nat),MA ks ps=true→∀ i j,(i,j)∈ps→oU (ks.getD i 2) (ks.getD j 2)=true
 | [],_,_,_,h=>by cases h
 |(a,b)::r,h,i,j,hm=>by
  simp only [MA,Bool.and_eq_true] at h
  rcases List.mem_cons.1 hm with h1|h1
  ·cases h1;exact h.1
  ·exact ziS ks r h.2 i j h1
theorem zs7 {ops:Array Oper} {ms ks:List Nat} (h1:zK ops ms=true) (h2:MA ks (Yg T ops ms)=true) (h3:∀ i,i < ops.size→pd T ops i=true→ks.getD i 2=0):ES ops ks ms=true:=by
 unfold ES
 rw [List.all_eq_true]
 intro j hj
 have FD:j < ops.size:=List.mem_range.1 hj
 unfold zK at h1
 have h1:=List.all_eq_true.1 h1 j hj
 unfold Gu
 split
 ·rename_i oj oO
  rw [oO] at h1
  simp only [Bool.and_eq_true] at h1 ⊢
  refine ⟨h1.1,?_⟩
  rw [List.all_eq_true]
  intro i hi
  have dh:i < j:=List.mem_range.1 hi
  have h4:=List.all_eq_true.1 h1.2 i hi
  cases ht:(ms.getD j 0).testBit i with
  |true=>rfl
  |false =>
   rw [ht] at h4
   simp only [Bool.false_or] at h4 ⊢
   split at h4
   ·rename_i oi xr
    rw [xr]
    simp only
    rw [Bool.and_eq_true]
    refine ⟨h4,?_⟩
    cases Fx:pd T ops i with
    |true=>rw [h3 i (by omega) Fx];rfl
    |false =>
     cases hbj:pd T ops j with
     |true=>rw [h3 j FD hbj];simp [oU]
     |false =>
      refine ziS ks _ h2 i j ?_
      unfold Yg
      rw [List.mem_flatMap]
      refine ⟨j,hj,?_⟩
      rw [List.mem_filterMap]
      exact ⟨i,hi,by rw [ht,Fx,hbj];rfl⟩
   ·rename_i xr;rw [xr]
 ·rfl

theorem zwt {o:Oper} {e:FE} {l:Env} {h h':Heap} (hr:dV e l) (hb:mR T o=false):Ym o e h.size h'.low=kg T o l h h':=by
 have kj:¬ mR T o=true:=by rw [hb];simp
 unfold Ym kg
 rw [if_neg kj]
 by_cases hle:h.size≤h'.low
 ·have h5:Nat.ble h.size h'.low=true:=Nat.ble_eq_true_of_le hle
  rw [if_pos hle]
  simp only [h5]
  cases o.op <;> simp only [ep hr] <;> rfl
 ·have h5:Nat.ble h.size h'.low=false:=by
   cases h7:Nat.ble h.size h'.low with
   |false=>rfl
   |true=>exact (hle (Nat.le_of_ble_eq_true h7)).elim
  rw [if_neg hle]
  simp only [h5]
  cases o.op <;> simp only [ep hr] <;> rfl
theorem OE {C:Fn→List Value→Heap→FK→Bool} (hC:CF P T ov C) {ops:List Oper}:∀ (os pre:List Oper) (ks:List Nat) (e:FE) (l:Env) (h:Heap) (k:List Nat→FE→Heap→Bool),ops=pre++os→ks.length=pre.length →
 (∀ i,i < pre.length→pd T ⟨ops⟩ i=true→ks.getD i 2=0)→dV e l→Yo P T C ops os ks.reverse e h k=true →
 cw P T ov ⟨ops⟩ os ks l h fun fF l' h'=>fF.length=ops.length∧(∀ i,i < ops.length→pd T ⟨ops⟩ i=true→fF.getD i 2=0)∧∃ e',dV e' l'∧k fF.reverse e' h'=true
 | [],pre,ks,e,l,h,k,hp,hl,hb,hr,hh=>by
  rw [List.append_nil] at hp
  subst hp
  exact ⟨hl,hb,e,hr,hh⟩
 |o::os,pre,ks,e,l,h,k,hp,hl,hb,hr,hh=>by
  have hh:zDU P T C ops o (Yo P T C ops os) ks.reverse e h k=true:=hh
  have nt:pd T ⟨ops⟩ pre.length=mR T o:=by
   simp [pd,hp]
  have kj:∀ c,(mR T o=true→c=0)→∀ i,i < (pre++[o]).length→pd T ⟨ops⟩ i=true→(ks++[c]).getD i 2=0:=by
   intro c hc i hi Fx
   rw [List.length_append,List.length_singleton] at hi
   by_cases aS:i < pre.length
   ·have:=hb i aS Fx
    rw [List.getD_eq_getElem?_getD] at this ⊢
    rw [List.getElem?_append_left (by omega)]
    exact this
   ·have:i=pre.length:=by omega
    subst this
    rw [nt] at Fx
    rw [List.getD_eq_getElem?_getD,List.getElem?_append_right (by omega),hl,Nat.sub_self]
    simp [hc Fx]
  have lx:ops=(pre++[o])++os:=by rw [hp];simp
  have rO:∀ c:Nat,(ks++[c]).length=(pre++[o]).length:=by intro c;simp [hl]
  have Dz:∀ c:Nat,c::ks.reverse=(ks++[c]).reverse:=by intro c;simp
  refine ziw hr hh (fun ha=>?_) (fun nW=>?_)
  ·refine bY.mono (fun v h' hk=>?_) (Zh hC hr ha)
   obtain ⟨e',bo,hk⟩:=L8 hr hk
   simp only [ztj] at hk
   cases Dp:mR T o with
   |true =>
    rw [Dp] at hk
    rw [YD Dp]
    simp only [Dz] at hk
    exact OE hC os (pre++[o]) (ks++[0]) e' _ _ k lx (rO 0) (kj 0 fun _=>rfl) bo hk
   |false =>
    rw [Dp] at hk
    rw [zwt hr Dp] at hk
    simp only [Dz] at hk
    exact OE hC os (pre++[o]) (ks++[kg T o l h h']) e' _ _ k lx (rO _) (kj _ fun h6=>by rw [Dp] at h6;cases h6) bo hk
  ·obtain ⟨e',bo,hk⟩:=L8 hr nW
   rw [Dz] at hk
   exact OE hC os (pre++[o]) (ks++[0]) e' _ _ k lx (rO 0) (kj 0 fun _=>rfl) bo hk

theorem zoG {C:Fn→List Value→Heap→FK→Bool} (hC:CF P T ov C) {ops:Array Oper} {e:FE} {l:Env} {h:Heap} {k:FE→Heap→Bool} (hr:dV e l) (hh:Yk P T C ops e h k=true) :
 cw P T ov ops ops.toList [] l h fun ks l' h'=>ES ops ks (lJ ops.toList [])=true∧∃ e',dV e' l'∧k e' h'=true:=by
 unfold Yk at hh
 split at hh
 ·rename_i ps hd
  unfold zp2 at hd
  split at hd
  ·rename_i ha
   cases hd
   refine cw.mono _ _ _ _ _ _ ?_ (OE hC ops.toList [] [] e l h _ rfl rfl (fun i hi=>by simp at hi) hr hh)
   rintro ks l' h' ⟨h1,h2,e',bo,hk⟩
   rw [List.reverse_reverse] at hk
   split at hk
   ·rename_i cR
    exact ⟨zs7 ha cR (fun i hi=>h2 i (by simpa using hi)),e',bo,hk⟩
   ·cases hk
  ·cases hd
 ·cases hh

/-! ### Code -/
theorem zoF {v:Value} {a b:Bool} {A B:Prop} (hh:E1 v a b=true) (ha:a=true→A) (hb:b=true→B):zZ v A B:=by
 unfold E1 at hh
 unfold zZ
 split at hh
 ·rename_i t
  cases t with
  |true=>exact ⟨fun _=>ha hh,fun h=>(by cases h)⟩
  |false=>exact ⟨fun h=>(by cases h),fun _=>hb hh⟩
 ·cases hh

theorem zCi {e:FE} {l:Env} (hr:dV e l):Cx e=l:=by
 unfold Cx
 rw [hr.1]
 refine List.ext_getElem? fun i=>?_
 rw [List.getElem?_map]
 by_cases hi:i < l.length
 ·rw [List.getElem?_range hi,List.getElem?_eq_getElem hi,Option.map_some,hr.2 i,Env.get_eq,List.getElem?_eq_getElem hi]
  rfl
 ·rw [List.getElem?_eq_none (by simpa using hi),List.getElem?_eq_none (by omega)]
  rfl
theorem zmH {e:FE} {l:Env} (hr:dV e l) {A:Nat} {h:Heap} {q:FQ} (hh:ztg A e h q=true):GP (Bj A l h) fun x l' h'=>∃ e',dV e' l'∧q x e' h'=true:=by
 unfold ztg at hh
 unfold Bj
 split at hh
 ·rename_i env ps assign body st dt hg
  rw [hg]
  cases st <;> cases dt <;> first|cases hh|exact ⟨e,hr,hh⟩|(rename_i c;cases c <;> first|exact ⟨e,hr,hh⟩|cases hh)
 ·cases hh

theorem F5 {C:Fn→List Value→Heap→FK→Bool} (hC:CF P T ov C) {rd:Option Nat} {fuel:Nat}:∀ (c:Code) (e:FE) (l:Env) (h:Heap) (q:FQ),dV e l→qx P T C rd fuel c e h q=true →
 W P T ov rd c l h fun x l' h'=>∃ e',dV e' l'∧q x e' h'=true:=by
 intro c
 induction c with
 |skip=>intro e l h q hr hh;exact ⟨e,hr,hh⟩
 |region id ops d =>
  intro e l h q hr hh
  cases d with
  |false=>exact YY hC _ _ _ _ _ hr hh
  |true=>exact zoG hC hr hh
 |seq a b gI gJ =>
  intro e l h q hr hh
  simp only [W]
  refine W.mono _ _ _ _ _ ?_ (gI e l h _ hr hh)
  rintro x l' h' ⟨e',bo,hq⟩
  cases x with
  |normal=>exact gJ e' l' h' q bo hq
  |exit i=>exact ⟨e',bo,hq⟩
  |ret=>exact ⟨e',bo,hq⟩
 |cond c a b gI gJ =>
  intro e l h q hr hh
  have hh:E1 (bf c e) (qx P T C rd fuel a e h q) (qx P T C rd fuel b e h q)=true:=hh
  rw [ep hr] at hh
  exact zoF hh (gI e l h q hr) (gJ e l h q hr)
 |block id c ih =>
  intro e l h q hr hh
  simp only [W]
  refine W.mono _ _ _ _ _ ?_ (ih e l h _ hr hh)
  rintro x l' h' ⟨e',bo,hq⟩
  cases x with
  |normal=>exact ⟨e',bo,hq⟩
  |exit i =>
   have hq:(match Nat.beq i id with|true=>q .normal e' h'|false=>q (.exit i) e' h')=true:=hq
   split at hq
   ·rename_i hb
    simp only [if_pos (Nat.eq_of_beq_eq_true hb)]
    exact ⟨e',bo,hq⟩
   ·rename_i hb
    simp only [if_neg (Nat.ne_of_beq_eq_false hb)]
    exact ⟨e',bo,hq⟩
  |ret=>exact ⟨e',bo,hq⟩
 |loop c ih =>
  intro e l h q hr hh
  have hh:Yn (qx P T C rd fuel c) fuel e h q=true:=hh
  have key:∀ (n:Nat) (e:FE) (l:Env) (h:Heap),dV e l→Yn (qx P T C rd fuel c) n e h q=true→dj (W P T ov rd c) (fun x l' h'=>∃ e',dV e' l'∧q x e' h'=true) n l h:=by
   intro n
   induction n with
   |zero=>intro e l h _ hh;cases hh
   |succ n Kg =>
    intro e l h hr hh
    simp only [dj]
    refine W.mono _ _ _ _ _ ?_ (ih e l h _ hr hh)
    rintro x l' h' ⟨e',bo,hq⟩
    cases x with
    |normal=>exact Kg e' l' h' bo hq
    |exit i=>exact ⟨e',bo,hq⟩
    |ret=>exact ⟨e',bo,hq⟩
  exact ⟨fuel,key fuel e l h hr hh⟩
 |exit id=>intro e l h q hr hh;exact ⟨e,hr,hh⟩
 |ret=>intro e l h q hr hh;exact ⟨e,hr,hh⟩
 |label n=>intro e l h q hr hh;exact ⟨e,hr,hh⟩
 |rangeFunc g ps a b _ _ =>
  intro e l h q hr hh
  have hh:zon T C rd g ps a b (qx P T C rd fuel a) (qx P T C rd fuel b) e h q=true:=hh
  unfold zon at hh
  rw [ep hr,zCi hr] at hh
  simp only [W,EX]
  split at hh
  ·rename_i xh
   rw [xh]
   simp only
   split at hh
   ·rename_i hc
    refine ⟨hc,(hC _ _ _ _ hh).mono fun v h2 hk=>?_⟩
    exact zmH hr hk
   ·cases hh
  ·cases hh
 |scope c ih=>intro e l h q hr hh;exact ih e l h q hr hh
 |goto l=>intro e l h q hr hh;cases hh
 |refuse s=>intro e l h q hr hh;cases hh

theorem ztk {e:FE} {l:Env} (hr:dV e l) (h:Heap) (r:ResultVar):oz T r e h=rh T l h r:=by
 cases r with
 |tmp t=>simp only [oz,rh];rw [hr.2 t]
 |cell a y=>simp only [oz,rh];rw [hr.2 a]
theorem YX {fn:Func} {k:FK} {x:Ex} {e:FE} {l:Env} {h:Heap} (hr:dV e l) (hh:wV T fn k x e h=true):(x=.ret∨x=.normal)∧∃ v,lF T fn l h=some v∧k v h=true:=by
 have go:(match fn.results.toList with
  | [r]=>jS (oz T r e h) h k
  |rs=>(match rs.mapM fun r=>oz T r e h with
   |some vs=>k (.tuple vs.toArray) h
   |none=>false))=true→∃ v,lF T fn l h=some v∧k v h=true:=by
  intro hh
  rw [show (fun r=>oz T r e h)=rh T l h from funext (ztk hr h)] at hh
  unfold lF
  split at hh
  ·rename_i r h1
   rw [h1]
   rw [ztk hr] at hh
   unfold jS at hh
   split at hh
   ·rename_i v h2;exact ⟨v,h2,hh⟩
   ·cases hh
  ·rename_i aO
   split
   ·rename_i r h1;exact (aO r h1).elim
   ·split at hh
    ·rename_i vs h2;rw [h2];exact ⟨_,rfl,hh⟩
    ·cases hh
 cases x with
 |exit i=>cases hh
 |normal=>exact ⟨.inr rfl,go hh⟩
 |ret=>exact ⟨.inl rfl,go hh⟩

theorem Ou:∀ (args:List Value) (i:Nat) (t:ET) (k:ET→Bool),MP args i t k=true→∃ t',k t'=true∧∀ j,ET.get (nQ j) t'=if i≤j∧j < i+args.length then (args[j - i]?).getD undef else ET.get (nQ j) t
 | [],i,t,k,hh=>⟨t,hh,fun j=>by rw [if_neg (by simp)]⟩
 |v::args,i,t,k,hh=>by
  have hh:ET.zF (nQ i) v t (fun t=>MP args (i+1) t k)=true:=hh
  rw [ET.iA] at hh
  obtain ⟨t',h1,h2⟩:=Ou args (i+1) _ k hh
  refine ⟨t',h1,fun j=>?_⟩
  rw [h2 j,List.length_cons]
  by_cases hj:j=i
  ·subst hj
   rw [if_neg (by omega),if_pos (by omega),(ET.aC _ _ _ _).1 rfl]
   simp
  ·by_cases xi:i≤j∧j < i+(args.length+1)
   ·rw [if_pos (by omega),if_pos xi,show j - i=(j - (i+1))+1 by omega,List.getElem?_cons_succ]
   ·rw [if_neg (by omega),if_neg xi,(ET.aC _ _ _ _).2 (fun hp=>hj (zkG hp).symm)]

theorem Yt {A:Nat} {jump:Option Code} {h:Heap} {k:FK} (hh:Mc A jump h k=true):bW (we A jump h) fun v h'=>k v h'=true:=by
 unfold Mc at hh
 unfold we
 split at hh
 ·rename_i hg;rw [hg];exact hh
 ·cases hh

theorem zgS:∀ (e:Env) (ps:List Tmp) (args:List Value),(eF e ps args).length=e.length
 |_,[],args=>by cases args <;> rfl
 |_,_::_,[]=>rfl
 |e,p::ps,v::args=>by simp only [eF];rw [zgS,Env.length_set]

theorem zmB {args:List Value} {n:Nat} {t:ET} (hle:args.length≤n) (df:∀ j,ET.get (nQ j) t=if 0≤j∧j < 0+args.length then (args[j - 0]?).getD undef else ET.get (nQ j) .leaf):dV ⟨n,t⟩ (args++List.replicate (n - args.length) undef):=by
 refine ⟨by simp;omega,fun j=>?_⟩
 show ET.get (nQ j) t=_
 rw [df j,Env.get_eq]
 by_cases hj:j < args.length
 ·rw [if_pos (by omega),List.getElem?_append_left hj,Nat.sub_zero]
 ·rw [if_neg (by omega),ET.eL,List.getElem?_append_right (by omega)]
  by_cases xi:j - args.length < n - args.length
  ·simp [xi]
  ·simp [xi]
theorem zkp {C:Fn→List Value→Heap→FK→Bool} (hC:CF P T ov C) {fuel:Nat}:∀ (pre:List Code) (e:FE) (l:Env) (h:Heap) (k:FE→Heap→Bool),dV e l→wW (qx P T C none fuel) pre e h k=true→jW P T ov pre l h fun l' h'=>∃ e',dV e' l'∧k e' h'=true
 | [],e,l,h,k,hr,hh=>⟨e,hr,hh⟩
 |c::cs,e,l,h,k,hr,hh=>by
  simp only [wW] at hh
  refine W.mono _ _ _ _ _ ?_ (F5 hC c e l h _ hr hh)
  rintro x l' h' ⟨e',bo,hq⟩
  cases x with
  |normal=>exact ⟨rfl,zkp hC cs e' l' h' k bo hq⟩
  |exit id=>cases hq
  |ret=>cases hq
theorem zmI {C:Fn→List Value→Heap→FK→Bool} (hC:CF P T ov C) {fuel:Nat} {f:FuncId} {fn:Func} {c:Code} {args:List Value} {t0:ET} {h:Heap} {k:FK} (ho:ov f=none) (hf:T.fn f=some fn) (hc:fn.body=some c) (pZ:T.Cu f=true)
 (hr:dV ⟨fn.ntmps,t0⟩ (args++List.replicate (fn.ntmps - args.length) undef)) (hh:zth P T C (qx P T C none fuel) fn c ⟨fn.ntmps,t0⟩ h k=true):Ok P T ov f args h fun v h'=>k v h'=true:=by
 unfold zth at hh
 split at hh
 ·rename_i pre m t rest cA
  split at hh
  ·rename_i j5
   refine Ok.Cw ho hf hc pZ cA j5 ?_
   refine jW.mono _ _ _ _ _ ?_ (zkp hC pre _ _ h _ hr hh)
   rintro l1 h1 ⟨e1,uG,hq⟩
   refine bY.mono (fun v h2 hk=>?_) (Zh hC uG hq)
   obtain ⟨e2,hU,hk⟩:=L8 uG hk
   refine W.mono _ _ _ _ _ ?_ (F5 hC rest e2 _ h2 _ hU hk)
   rintro x l3 h3 ⟨e3,hr3,Wy⟩
   have key:(x=.ret∨x=.normal)∧zti T (qx P T C none fuel) fn (ET.get (nQ t) e2.t) e3 h3 k=true:=by
    cases x with
    |normal=>exact ⟨.inr rfl,Wy⟩
    |exit id=>cases Wy
    |ret=>exact ⟨.inl rfl,Wy⟩
   obtain ⟨hx,cp⟩:=key
   refine ⟨hx,?_⟩
   unfold zti at cp
   split at cp
   ·rename_i g fi ca hg
    split at cp
    ·rename_i fg CZ
     split at cp
     ·rename_i cg Fz
      split at cp
      ·rename_i oG
       simp only [Bool.and_eq_true] at oG
       obtain ⟨t4,ht4,df⟩:=Ou (fi.toList++ca.toList) 0 .leaf _ cp
       refine ⟨g,fi,ca,fg,cg,by rw [← hU.2 t];exact hg,CZ,Fz,oG.1,?_⟩
       refine W.mono _ _ _ _ _ ?_ (F5 hC cg ⟨fg.ntmps,t4⟩ _ h3 _ (zmB (Nat.le_of_ble_eq_true oG.2) df) ht4)
       rintro y l4 h4 ⟨e4,Dw,hq4⟩
       obtain ⟨hy,vg,DL,hq5⟩:=YX Dw hq4
       obtain ⟨_,v5,jP,hq6⟩:=YX hr3 hq5
       exact ⟨hy,vg,v5,DL,jP,hq6⟩
      ·cases cp
     ·cases cp
    ·cases cp
   ·cases cp
  ·cases hh
 ·cases hh
theorem ziH (fuel:Nat):∀ n,CF P T ov (E3 P T ov fuel n)
 |0=>by intro f args h k hh;cases hh
 |n+1=>by
  intro f args h k hh
  have ih:=ziH fuel n
  cases f with
  |func f =>
   have hh:Yl P T ov (E3 P T ov fuel n) (qx P T (E3 P T ov fuel n) none fuel) f args h k=true:=hh
   unfold Yl at hh
   split at hh
   ·rename_i g hg
    unfold td at hh
    split at hh
    ·rename_i v h' hv
     exact Ok.over hg hv hh
    ·cases hh
   ·rename_i ho
    split at hh
    ·rename_i fn hf
     split at hh
     ·rename_i c hc
      split at hh
      ·rename_i hle
       have hle:=Nat.le_of_ble_eq_true hle
       obtain ⟨t,ht,df⟩:=Ou args 0 .leaf _ hh
       have hE:=zmB hle df
       split at ht
       ·rename_i pZ
        exact zmI ih ho hf hc pZ hE ht
       ·rename_i pZ
        refine Ok.enter ho hf hc pZ ?_
        refine W.mono _ _ _ _ _ ?_ (F5 ih c ⟨fn.ntmps,t⟩ (args++List.replicate (fn.ntmps - args.length) undef) h _ hE ht)
        rintro x l' h' ⟨e',bo,hq⟩
        exact YX bo hq
      ·cases hh
     ·cases hh
    ·cases hh
  |yield A =>
   have hh:ztm (qx P T (E3 P T ov fuel n) (some A) fuel) A args h k=true:=hh
   unfold ztm at hh
   split at hh
   ·rename_i env ps assign body st dt hg
    split at hh
    ·rename_i hl
     obtain ⟨t,ht,df⟩:=Ou _ 0 .leaf _ hh
     refine tj.round hg (Nat.eq_of_beq_eq_true hl) ?_
     refine W.mono _ _ _ _ _ ?_ (F5 ih assign ⟨env.length,t⟩ (eF env ps args) h _ ⟨?_,fun j=>?_⟩ ht)
     ·rintro x e1 h1 ⟨e',bo,hq⟩
      cases x with
      |normal =>
       refine ⟨rfl,?_⟩
       have hq:(match h1.get A with
        |some (.loop env ps assign k5 .ready dt)=>qx P T (E3 P T ov fuel n) (some A) fuel body e' (h1.set A (.loop env ps assign k5 .busy dt)) (zmK A k)
        |_=>false)=true:=hq
       split at hq
       ·rename_i ni xU H8 H9 ic AE
        refine ⟨ni,xU,H8,H9,ic,AE,?_⟩
        refine W.mono _ _ _ _ _ ?_ (F5 ih body e' e1 _ _ bo hq)
        rintro x l' h' ⟨e2,_,hk⟩
        cases x with
        |normal=>exact Yt hk
        |exit id=>exact Yt hk
        |ret=>exact Yt hk
       ·cases hq
      |exit id=>cases hq
      |ret=>cases hq
     ·rw [zgS]
     ·show ET.get (nQ j) t=_
      rw [df j,Env.get_eq]
      by_cases hj:j < (eF env ps args).length
      ·rw [if_pos (by omega),Nat.sub_zero]
      ·rw [if_neg (by omega),ET.eL,List.getElem?_eq_none (by omega)]
       rfl
    ·cases hh
   ·cases hh
  |_=>cases hh
end
end Go.Am
namespace Go.Am
open Go.ChangeShapes Go.WideShapes Go.ChangeAt Go.RowKit

section
variable {H:Type} {enc:TypeId × Value→H} {P:Program}
theorem zwr {f:Func} {s:ChangeSpec} {apart fresh handsOn again:Bool} {W W':World} {args:Array Value} {v:Value} {ds gs:List (DataW H)} {before pa pv:List MemPlace}
 (hW:DataW.Whole enc P f.params.toList s.vars apart W args.toList ds gs before)
 (jC:∀ (b:Nat) (sp:Nat→Bool) (hd:Bool),DataW.TrodAll enc P W' b sp hd f.resultTypes.toList (v.resultList f.resultTypes.size) (s.fn H (ds++gs)).results [])
 (dZ:∀ sp:Nat→Bool,(∀ p∈before,sp p.block=true)→DataW.TrodAll enc P W' 0 sp true f.params.toList args.toList (s.fn H (ds++gs)).args pa)
 (oS:∀ sp:Nat→Bool,(∀ p∈before,sp p.block=true)→DataW.TrodVars enc P W' sp s.vars (s.fn H (ds++gs)).vars pv)
 (FO:before=pa++pv) (hb:Below W.heap.size W W')
 (di:∀ (j:Nat) (t:TypeId) (r:Value),f.resultTypes[j]? = some t→(v.resultList f.resultTypes.size)[j]? = some r→Value.okWide P W' .any 0 t r) :
 s.post enc P f apart fresh handsOn again W args v W':=by
 have below:∀ p∈before,p.block < W.heap.size:=fun p hp=>hW.lt p hp
 have en:∀ p∈before,(fun b=>decide (b < W.heap.size)) p.block=true:=fun p hp=>by simpa using below p hp
 have mem:∀ p,p∈before↔p∈([]++pa)++pv:=fun p=>by rw [FO];simp
 refine ⟨ds,gs,before,[],pa,pv,hW,jC _ _ _,dZ _ en,oS _ en,World.keptBut_mono (fun p hp=>⟨hp,?_⟩) (hb.frame (·∈before)),fun _=>?_⟩
 ·rw [FO,List.mem_append] at hp
  exact .inr hp
 obtain ⟨_,_,_,_,_,hz,hn⟩:=hW
 refine ⟨di,_,_,([]++pa)++pv,⟨[]++pa,pv,trodAll_append (dZ _ (fun _ _=>rfl)) (jC _ _ _),oS _ (fun _ _=>rfl),rfl,fun b off hp=>?_,fun ha=>?_⟩,?_⟩
 ·have aH:=(mem _).2 hp
  rw [hb.frozen (below _ aH)]
  exact hz b off aH
 ·have:=hn ha
  rw [FO] at this
  simpa using this
 ·exact fun p hp _=>(mem p).2 hp
end


end Go.Am
