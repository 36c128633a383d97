/- What the fast machine says, the plain one does. No condition. -/
import Derived.Test.YtjildadoepadeaaGreatDoorGFast
import Derived.ProofKit
import Derived.ChangeSame
set_option linter.unusedSimpArgs false
namespace Go.Am

theorem zdF:∀ (n m i j:Nat),i < n->j < m->zfR n i=zfR m j->i=j
 |0,_,_,_,h,_,_=>by omega
 |_+1,0,_,_,_,h,_=>by omega
 |n+1,m+1,i,j,hi,hj,h=>by
  cases i with
  |zero=>cases j with
   |zero=>rfl
   |succ j =>
    simp only [zfR] at h
    split at h <;> cases h
  |succ i=>cases j with
   |zero =>
    simp only [zfR] at h
    split at h <;> cases h
   |succ j =>
    simp only [zfR] at h
    split at h
    .rename_i h1
     split at h
     .rename_i h2
      have:=zdF n m (i / 2) (j / 2) (by omega) (by omega) (Pth.l.inj h)
      omega
     .cases h
    .rename_i k1 h1
     split at h
     .cases h
     .rename_i k2 h2
      have:=zdF n m (i / 2) (j / 2) (by omega) (by omega) (Pth.r.inj h)
      omega
theorem zeL {i j:Nat} (h:zaR i=zaR j):i=j:=zdF _ _ i j (Nat.lt_succ_self _) (Nat.lt_succ_self _) h
theorem ET.get_leaf:∀ p:Pth,ET.get p .leaf=undef
 | .here=>rfl
 | .l _=>rfl
 | .r _=>rfl
theorem ET.get_set:∀ (p q:Pth) (v:Vly) (t:ET),(p=q->ET.get q (ET.set p v t)=v)/\(p≠q->ET.get q (ET.set p v t)=ET.get q t)
 | .here,.here,v,t=>⟨λ_=>by cases t <;> rfl,λh=>(h rfl).elim⟩
 | .here,.l q,v,t=>⟨λh=>(by cases h),λ_=>by
  cases t with
  |leaf=>exact ET.get_leaf q
  |node x l r=>rfl⟩
 | .here,.r q,v,t=>⟨λh=>(by cases h),λ_=>by
  cases t with
  |leaf=>exact ET.get_leaf q
  |node x l r=>rfl⟩
 | .l p,.here,v,t=>⟨λh=>(by cases h),λ_=>by cases t <;> rfl⟩
 | .r p,.here,v,t=>⟨λh=>(by cases h),λ_=>by cases t <;> rfl⟩
 | .l p,.r q,v,t=>⟨λh=>(by cases h),λ_=>by
  cases t with
  |leaf=>exact ET.get_leaf q
  |node x l r=>rfl⟩
 | .r p,.l q,v,t=>⟨λh=>(by cases h),λ_=>by
  cases t with
  |leaf=>exact ET.get_leaf q
  |node x l r=>rfl⟩
 | .l p,.l q,v,t=>by
  cases t with
  |leaf=>exact ⟨λh=>(ET.get_set p q v .leaf).1 (Pth.l.inj h),λh=>((ET.get_set p q v .leaf).2 (λe=>h (by rw [e]))).trans (ET.get_leaf q)⟩
  |node x l r=>exact ⟨λh=>(ET.get_set p q v l).1 (Pth.l.inj h),λh=>(ET.get_set p q v l).2 (λe=>h (by rw [e]))⟩
 | .r p,.r q,v,t=>by
  cases t with
  |leaf=>exact ⟨λh=>(ET.get_set p q v .leaf).1 (Pth.r.inj h),λh=>((ET.get_set p q v .leaf).2 (λe=>h (by rw [e]))).trans (ET.get_leaf q)⟩
  |node x l r=>exact ⟨λh=>(ET.get_set p q v r).1 (Pth.r.inj h),λh=>(ET.get_set p q v r).2 (λe=>h (by rw [e]))⟩
theorem ET.setK_eq:∀ (p:Pth) (v:Vly) (t:ET) (k:ET->Bool),ET.setK p v t k=k (ET.set p v t)
 | .here,v,t,k=>by cases t <;> rfl
 | .l p,v,t,k=>by
  cases t with
  |leaf=>exact ET.setK_eq p v .leaf _
  |node x l r=>exact ET.setK_eq p v l _
 | .r p,v,t,k=>by
  cases t with
  |leaf=>exact ET.setK_eq p v .leaf _
  |node x l r=>exact ET.setK_eq p v r _

def ERel (e:FE) (l:Env):Prop:=e.n=l.length/\∀ i,ET.get (zaR i) e.t=l.get i

theorem zad {e:FE} {l:Env} (hr:ERel e l) (o:Operand):fval o e=zaa l o:=by
 cases o with
 |tmp t=>exact hr.2 t
 |const v=>rfl
 |global g=>rfl
 |func f=>rfl

theorem zbE {d:Option Tmp} {v:Vly} {e:FE} {l:Env} {k:FE->Bool} (hr:ERel e l) (h:fPut d v e k=true):∃ e',ERel e' (put l d v)/\k e'=true:=by
 cases d with
 |none=>exact ⟨e,hr,h⟩
 |some i =>
  simp only [fPut] at h
  split at h
  .rename_i hb
   rw [ET.setK_eq] at h
   refine ⟨_,⟨?_,λj=>?_⟩,h⟩
   .simp only [put,Env.length_set];exact hr.1
   .simp only [put,Env.get_set]
    have hi:i < l.length:=by rw [<- hr.1];simpa [Nat.blt_eq] using hb
    by_cases hj:j=i
    .subst hj
     rw [if_pos ⟨rfl,hi⟩]
     exact (ET.get_set _ _ _ _).1 rfl
    .rw [if_neg (λh=>hj h.1),(ET.get_set _ _ _ _).2 (λhp=>hj (zeL hp).symm)]
     exact hr.2 j
  .rename_i hb
   have hi:¬ i < l.length:=by rw [<- hr.1];intro h1;have:Nat.blt i e.n=true:=by simpa [Nat.blt_eq] using h1
                              rw [this] at hb;cases hb
   refine ⟨e,⟨by simp only [put,Env.length_set];exact hr.1,λj=>?_⟩,h⟩
   simp only [put,Env.get_set]
   rw [if_neg (λh=>hi h.2)]
   exact hr.2 j

section
variable {P:Program} {T:Tab} {ov:Ov}

theorem zdx {e:FE} {l:Env} (hr:ERel e l):∀ ps:List (Nat × Operand),zeI ps e=ps.map λ(i,x)=>(i,zaa l x)
 | []=>rfl
 |(i,x)::ps=>by
  show (i,fval x e)::zeI ps e=_
  rw [zdx hr ps,zad hr];rfl
theorem zbP {e:FE} {l:Env} (hr:ERel e l):∀ ps:List Operand,zed ps e=ps.map (zaa l)
 | []=>rfl
 |x::ps=>by
  show fval x e::zed ps e=_
  rw [zbP hr ps,zad hr];rfl
theorem ze2 {e:FE} {l:Env} (hr:ERel e l) (o:Option Operand):zgk o e=o.map (zaa l):=by
 cases o with
 |none=>rfl
 |some x=>show some (fval x e)=_;rw [zad hr];rfl

theorem zaf {r:Option Vly} {h:Heap} {k:FK} (hh:zaO r h k=true):optE (r.map λv=>(v,h)) (λv h'=>k v h'=true):=by
 cases r with
 |none=>cases hh
 |some v=>exact hh
theorem zbg {r:Option Heap} {k:FK} (hh:fMem r k=true):optE (r.map λh'=>(undef,h')) (λv h'=>k v h'=true):=by
 cases r with
 |none=>cases hh
 |some v=>exact hh
theorem zaA {r:Option (Vly × Heap)} {k:FK} (hh:zck r k=true):optE r (λv h'=>k v h'=true):=by
 cases r with
 |none=>cases hh
 |some v=>exact hh
theorem zhU (l m:List Vly):catL l m=l++m:=by cases m <;> simp [catL]

theorem za2 {o:Oper} {e:FE} {l:Env} {h:Heap} {k:FK} (hr:ERel e l) (hh:zdv P o e h k=true):optE (zaV P l o h) (λv h'=>k v h'=true):=by
 unfold zdv at hh
 unfold zaV
 rw [zbP hr,show (λx=>fval x e)=zaa l from funext (zad hr)] at hh
 have e1:(o.op.operands.toList.all λx=>plain (zaa l x))=(o.op.operands.toList.map (zaa l)).all plain:=by rw [List.all_map];rfl
 rw [e1]
 split at hh
 .rename_i h1
  rw [h1,if_pos rfl]
  split at hh
  .rename_i v h2
   rw [h2]
   simp only
   split at hh
   .rename_i h3;rw [h3,if_pos rfl];exact hh
   .cases hh
  .cases hh
 .cases hh

def CF (P:Program) (T:Tab) (ov:Ov) (C:Fn->List Vly->Heap->FK->Bool):Prop:=∀ f args h k,C f args h k=true->OkF P T ov f args h λv h'=>k v h'=true

theorem zdq {C:Fn->List Vly->Heap->FK->Bool} (hC:CF P T ov C) {o:Oper} {e:FE} {l:Env} {h:Heap} {k:FK} (hr:ERel e l) (hh:fOp P T C o e h k=true):WOp P T ov o l h λv h'=>k v h'=true:=by
 obtain ⟨d,op,ty,pos,af,g⟩:=o
 cases op with
 |move x=>have hh:k (fval x e) h=true:=hh;rw [zad hr] at hh;exact hh
 |assign x=>have hh:k (fval x e) h=true:=hh;rw [zad hr] at hh;exact hh
 |pick c a b =>
  have hh:zf9 (fval c e) (k (fval a e) h) (k (fval b e) h)=true:=hh
  rw [zad hr,zad hr,zad hr] at hh
  show optE (match zaa l c with | .bool t=>some (if t then zaa l a else zaa l b,h)|_=>none) _
  unfold zf9 at hh
  split at hh
  .rename_i t ht
   rw [ht]
   cases t <;> exact hh
  .cases hh
 |alloc t =>
  have hh:zgc T t e h k=true:=hh
  show optE ((T.info t).map λ(_,_,z)=>newRow t z h) _
  unfold zgc at hh
  split at hh
  .rename_i n b z hz;rw [hz];exact hh
  .cases hh
 |box t x=>have hh:k (.pointer (some ⟨h.size,0,none⟩)) (h.push (.row (fval x e).cells.toList t false))=true:=hh;rw [zad hr] at hh;exact hh
 |build t ps =>
  have hh:=zaf (show zaO (zfk T t (zeI ps.toList e)) h k=true from hh)
  rw [zdx hr] at hh
  exact hh
 |buildSlice t n ps =>
  have hh:=zaA (show zck (zau T t n (zeI ps.toList e) h) k=true from hh)
  rw [zdx hr] at hh
  exact hh
 |load t a =>
  have hh:=zaf (show zaO (zb1 T t (fval a e) h) h k=true from hh)
  rw [zad hr] at hh
  exact hh
 |store t a x =>
  have hh:=zbg (show fMem (zeS T t (fval a e) (fval x e) h) k=true from hh)
  rw [zad hr,zad hr] at hh
  exact hh
 |nilCheck x =>
  have hh:zcV x e h k=true:=hh
  show optE (match zaa l x with | .pointer (some a)=>some (.pointer (some a),h) | .func (.func f) a b=>some (.func (.func f) a b,h) | .iface t a=>some (.iface t a,h)|_=>none) _
  unfold zcV at hh
  rw [zad hr] at hh
  split at hh
  .rename_i a ha;rw [ha];exact hh
  .rename_i f a b ha;rw [ha];exact hh
  .rename_i t a ha;rw [ha];exact hh
  .cases hh
 |binOp op t x y yt =>
  have hh:=zaf (show zaO (binA P T op t (fval x e) (fval y e)) h k=true from hh)
  rw [zad hr,zad hr] at hh
  exact hh
 |unOp op t x=>exact za2 hr hh
 |convert s t x =>
  have hh:zds P T ⟨d,.convert s t x,ty,pos,af,g⟩ s t x e h k=true:=hh
  show optE (if za6 T s then (zcC T s t (zaa l x) h).map λr=>(r,h) else if za6 T t then (if zcH T s then zbU T t (zaa l x) h else none) else zaV P l ⟨d,.convert s t x,ty,pos,af,g⟩ h) _
  unfold zds at hh
  split at hh
  .rename_i hc
   rw [if_pos hc]
   have:=zaf hh
   rw [zad hr] at this
   exact this
  .rename_i hc
   rw [if_neg (by rw [hc];simp)]
   split at hh
   .rename_i hd
    rw [if_pos hd]
    split at hh
    .rename_i hs
     rw [if_pos hs]
     have:=zaA hh
     rw [zad hr] at this
     exact this
    .cases hh
   .rename_i hd
    rw [if_neg (by rw [hd];simp)]
    exact za2 hr hh
 |makeInterface t x =>
  have hh:=zaf (show zaO (zfI T t (fval x e)) h k=true from hh)
  rw [zad hr] at hh
  exact hh
 |typeAssert x xt t ok =>
  have hh:=zaf (show zaO (zdk T (fval x e) t ok) h k=true from hh)
  rw [zad hr] at hh
  exact hh
 |index t x i=>exact za2 hr hh
 |makeFunc fn fi ca =>
  cases fn with
  |func f =>
   have hh:k (.func (.func f) ⟨zed fi.toList e⟩ ⟨zed ca.toList e⟩) h=true:=hh
   show k (.func (.func f) (fi.map (zaa l)) (ca.map (zaa l))) h=true
   rw [zbP hr,zbP hr,<- Array.toList_map,<- Array.toList_map] at hh
   exact hh
  |_=>cases hh
 |makeSlice t a c =>
  have hh:=zaA (show zck (zbj T t (fval a e) (fval c e) h) k=true from hh)
  rw [zad hr,zad hr] at hh
  exact hh
 |slice t x lo hi m =>
  have hh:=zaf (show zaO (zfV T t (fval x e) (zgk lo e) (zgk hi e) (zgk m e)) h k=true from hh)
  rw [zad hr,ze2 hr,ze2 hr,ze2 hr] at hh
  exact hh
 |fieldAddr s x f =>
  have hh:=zaf (show zaO (zat T s (fval x e) f) h k=true from hh)
  rw [zad hr] at hh
  exact hh
 |field s x f =>
  have hh:=zaf (show zaO (zfF T s (fval x e) f) h k=true from hh)
  rw [zad hr] at hh
  exact hh
 |indexAddr t x i =>
  have hh:=zaf (show zaO (zbF T t (fval x e) (fval i e)) h k=true from hh)
  rw [zad hr,zad hr] at hh
  exact hh
 |extract t i =>
  have hh:zdt t i e h k=true:=hh
  show optE (match zaa l t with | .tuple vs=>(vs[i]?).map λr=>(r,h)|_=>none) _
  unfold zdt at hh
  rw [zad hr] at hh
  split at hh
  .rename_i vs hv
   rw [hv]
   have:=zaf hh
   rw [Array.getElem?_toList] at this
   exact this
  .cases hh
 |call c =>
  obtain ⟨callee,args,ats⟩:=c
  cases callee with
  |value f =>
   have hh:zgh C f args.toList e h k=true:=hh
   show (match zaa l f with | .func (.func g) fi ca=>Ok P T ov g (fi.toList++args.toList.map (zaa l)++ca.toList) h _ | .func (.yield A) fi ca=>(fi.isEmpty && ca.isEmpty)=true/\OkF P T ov (.yield A) (args.toList.map (zaa l)) h _|_=>False)
   unfold zgh at hh
   rw [zad hr] at hh
   split at hh
   .rename_i g fi ca hv
    rw [hv]
    simp only
    rw [zhU,zbP hr,<- List.append_assoc] at hh
    exact hC _ _ _ _ hh
   .rename_i A fi ca hv
    rw [hv]
    simp only
    split at hh
    .rename_i hc
     rw [zbP hr] at hh
     exact ⟨hc,hC _ _ _ _ hh⟩
    .cases hh
   .cases hh
  |invoke rv m =>
   have hh:ze0 T C rv m args.toList e h k=true:=hh
   show (match zaa l rv with | .iface t x=>(match zcZ T t x m h with|some (f,y)=>Ok P T ov f (y::args.toList.map (zaa l)) h _|none=>False)|_=>False)
   unfold ze0 at hh
   rw [zad hr] at hh
   split at hh
   .rename_i t x hv
    rw [hv]
    simp only
    split at hh
    .rename_i f y hm
     rw [hm]
     simp only
     rw [zbP hr] at hh
     exact hC _ _ _ _ hh
    .cases hh
   .cases hh
  |builtin b =>
   have hh:zfD P T b ⟨d,.call ⟨.builtin b,args,ats⟩,ty,pos,af,g⟩ ats.toList args.toList e h k=true:=hh
   cases b with
   |append =>
    have hh:zeY T ats.toList args.toList e h k=true:=hh
    show optE (match ats.toList,args.toList with | [t,u],[s,x]=>if zgE T t u then zbJ T t (zaa l s) (zaa l x) h else none|_,_=>none) _
    unfold zeY at hh
    split at hh
    .rename_i t u s x h1 h2
     rw [h1,h2]
     simp only
     split at hh
     .rename_i h3
      rw [if_pos h3]
      have:=zaA hh
      rw [zad hr,zad hr] at this
      exact this
     .cases hh
    .cases hh
   |copy =>
    have hh:zhi T ats.toList args.toList e h k=true:=hh
    show optE (match ats.toList,args.toList with | [t,_],[d,s]=>zgN T t (zaa l d) (zaa l s) h|_,_=>none) _
    unfold zhi at hh
    split at hh
    .rename_i t u s x h1 h2
     rw [h1,h2]
     have:=zaA hh
     rw [zad hr,zad hr] at this
     exact this
    .cases hh
   |clear =>
    have hh:zgd T ats.toList args.toList e h k=true:=hh
    show optE (match ats.toList,args.toList with | [t],[x]=>(zeC T t (zaa l x) h).map λh'=>(undef,h')|_,_=>none) _
    unfold zgd at hh
    split at hh
    .rename_i t x h1 h2
     rw [h1,h2]
     have:=zbg hh
     rw [zad hr] at this
     exact this
    .cases hh
   |len =>
    have hh:zia T ats.toList args.toList e h k=true:=hh
    show optE (match ats.toList,args.toList with|t::_,[x]=>(lenA T t (zaa l x) h).map λr=>(r,h)|_,_=>none) _
    unfold zia at hh
    split at hh
    .rename_i t u x h1 h2
     rw [h1,h2]
     have:=zaf hh
     rw [zad hr] at this
     exact this
    .cases hh
   |min=>exact za2 hr hh
   |max=>exact za2 hr hh
   |delete =>
    have hh:zeZ T ats.toList args.toList e h k=true:=hh
    show optE (match ats.toList,args.toList with|t::_,[m,k]=>(zcs T t (zaa l m) (zaa l k) h).map λh'=>(undef,h')|_,_=>none) _
    unfold zeZ at hh
    split at hh
    .rename_i t u m i h1 h2
     rw [h1,h2]
     have:=zbg hh
     rw [zad hr,zad hr] at this
     exact this
    .cases hh
   |cap =>
    have hh:zh6 T ats.toList args.toList e h k=true:=hh
    show optE (match ats.toList,args.toList with|t::_,[x]=>(capA T t (zaa l x)).map λr=>(r,h)|_,_=>none) _
    unfold zh6 at hh
    split at hh
    .rename_i t u x h1 h2
     rw [h1,h2]
     have:=zaf hh
     rw [zad hr] at this
     exact this
    .cases hh
   |_=>cases hh
 |makeMap t r =>
  have hh:zdu T t r e h k=true:=hh
  cases r with
  |none=>exact hh
  |some x =>
   show optE (match T.desc t,zaa l x with|some (.map _ _),.int _ _=>some (.map (some h.size),h.push (.map [] 0))|_,_=>none) _
   simp only [zdu] at hh
   rw [zad hr] at hh
   split at hh
   .rename_i h1 h2;rw [h1,h2];exact hh
   .cases hh
 |lookup t x i ok =>
  have hh:=zaf (show zaO (zdA T t (fval x e) (fval i e) ok h) h k=true from hh)
  rw [zad hr,zad hr] at hh
  exact hh
 |mapUpdate t m i x =>
  have hh:=zbg (show fMem (zbV T t (fval m e) (fval i e) (fval x e) h) k=true from hh)
  rw [zad hr,zad hr,zad hr] at hh
  exact hh
 |insert t m i x =>
  have hh:=zbg (show fMem (zbV T t (fval m e) (fval i e) (fval x e) h) k=true from hh)
  rw [zad hr,zad hr,zad hr] at hh
  exact hh
 |mapEntry t m i =>
  have hh:=zaA (show zck (zdo T t (fval m e) (fval i e) h) k=true from hh)
  rw [zad hr,zad hr] at hh
  exact hh
 |entryStore t m s x =>
  have hh:=zbg (show fMem (zaI (fval m e) (fval s e) (fval x e) h) k=true from hh)
  rw [zad hr,zad hr,zad hr] at hh
  exact hh
 |range t x =>
  have hh:=zaA (show zck (zbs T t (fval x e) h) k=true from hh)
  rw [zad hr] at hh
  exact hh
 |next x s =>
  cases s with
  |true=>cases hh
  |false =>
   have hh:=zaA (show zck (zbR (fval x e) h) k=true from hh)
   rw [zad hr] at hh
   exact hh
 |entry x =>
  have hh:=zaf (show zaO (zb5 (fval x e) h) h k=true from hh)
  rw [zad hr] at hh
  exact hh
 |_=>cases hh

theorem zdr {ops:List Oper} {o:Oper} {e:FE} {l:Env} {a b:Bool} {A B:Prop} (hr:ERel e l) (hh:zhw ops o.guard e a b=true) (ha:a=true->A) (hb:b=true->B):zex (zaL ⟨ops⟩ o l) A B:=by
 have key:(zaL ⟨ops⟩ o l=true/\a=true)\/(zaL ⟨ops⟩ o l=false/\b=true):=by
  unfold zhw at hh
  unfold zaL
  split at hh
  .rename_i hg
   rw [hg]
   exact .inl ⟨rfl,hh⟩
  .rename_i j c hg
   rw [hg]
   simp only [List.getElem?_toArray]
   split at hh
   .rename_i t ht
    rw [ht]
    simp only
    rw [hr.2 t] at hh
    split at hh
    .rename_i d hd
     rw [hd]
     cases d <;> cases c <;> first|exact .inl ⟨rfl,hh⟩|exact .inr ⟨rfl,hh⟩
    .rename_i hne
     refine .inr ⟨?_,hh⟩
     split
     .rename_i d hd;exact (hne d hd).elim
     .rfl
   .rename_i ht
    rw [ht]
    exact .inr ⟨rfl,hh⟩
 unfold zex
 rcases key with ⟨h1,h2⟩|⟨h1,h2⟩
 .rw [h1,if_pos rfl];exact ha h2
 .rw [h1,if_neg (by simp)];exact hb h2

theorem zhe (h:Heap) (k:Heap->Bool):fLow h k=k h:=by
 unfold fLow
 obtain ⟨s,t,l⟩:=h
 cases l <;> rfl
theorem zcU {C:Fn->List Vly->Heap->FK->Bool} (hC:CF P T ov C) {ops:List Oper}:∀ (os:List Oper) (e:FE) (l:Env) (h:Heap) (k:FE->Heap->Bool),ERel e l->fOps P T C ops os e h k=true ->
 WOps P T ov ⟨ops⟩ os l h λl' h'=>∃ e',ERel e' l'/\k e' h'=true
 | [],e,l,h,k,hr,hh=>⟨e,hr,hh⟩
 |o::os,e,l,h,k,hr,hh=>by
  have hh:fOne P T C ops o (fOps P T C ops os) e h k=true:=hh
  refine zdr hr hh (λha=>?_) (λhb=>?_)
  .refine WOp.mono (λv h' hk=>?_) (zdq hC hr ha)
   rw [zhe] at hk
   obtain ⟨e',hr',hk⟩:=zbE hr hk
   exact zcU hC os e' _ h' k hr' hk
  .obtain ⟨e',hr',hk⟩:=zbE hr hb
   exact zcU hC os e' _ h k hr' hk

theorem zdC (ks:List Nat):∀ ps:List (Nat × Nat),zdB ks ps=true->∀ i j,(i,j)∈ps->kOk (ks.getD i 2) (ks.getD j 2)=true
 | [],_,_,_,h=>by cases h
 |(a,b)::r,h,i,j,hm=>by
  simp only [zdB,Bool.and_eq_true] at h
  rcases List.mem_cons.1 hm with h1|h1
  .cases h1;exact h.1
  .exact zdC ks r h.2 i j h1
theorem zha {ops:Array Oper} {ms ks:List Nat} (h1:zeT ops ms=true) (h2:zdB ks (zig T ops ms)=true) (h3:∀ i,i < ops.size->zaW T ops i=true->ks.getD i 2=0):zfo ops ks ms=true:=by
 unfold zfo
 rw [List.all_eq_true]
 intro j hj
 have hjs:j < ops.size:=List.mem_range.1 hj
 unfold zeT at h1
 have h1:=List.all_eq_true.1 h1 j hj
 unfold zdn
 split
 .rename_i oj hoj
  rw [hoj] at h1
  simp only [Bool.and_eq_true] at h1 ⊢
  refine ⟨h1.1,?_⟩
  rw [List.all_eq_true]
  intro i hi
  have hij:i < j:=List.mem_range.1 hi
  have h4:=List.all_eq_true.1 h1.2 i hi
  cases ht:(ms.getD j 0).testBit i with
  |true=>rfl
  |false =>
   rw [ht] at h4
   simp only [Bool.false_or] at h4 ⊢
   split at h4
   .rename_i oi hoi
    rw [hoi]
    simp only
    rw [Bool.and_eq_true]
    refine ⟨h4,?_⟩
    cases hbi:zaW T ops i with
    |true=>rw [h3 i (by omega) hbi];rfl
    |false =>
     cases hbj:zaW T ops j with
     |true=>rw [h3 j hjs hbj];simp [kOk]
     |false =>
      refine zdC ks _ h2 i j ?_
      unfold zig
      rw [List.mem_flatMap]
      refine ⟨j,hj,?_⟩
      rw [List.mem_filterMap]
      exact ⟨i,hi,by rw [ht,hbi,hbj];rfl⟩
   .rename_i hoi;rw [hoi]
 .rfl

theorem zhv {o:Oper} {e:FE} {l:Env} {h h':Heap} (hr:ERel e l) (hb:zaC T o=false):zh1 o e h.size h'.low=zb0 T o l h h':=by
 have hb':¬ zaC T o=true:=by rw [hb];simp
 unfold zh1 zb0
 rw [if_neg hb']
 by_cases hle:h.size<=h'.low
 .have h5:Nat.ble h.size h'.low=true:=Nat.ble_eq_true_of_le hle
  rw [if_pos hle]
  simp only [h5]
  cases o.op <;> simp only [zad hr] <;> rfl
 .have h5:Nat.ble h.size h'.low=false:=by
   cases h7:Nat.ble h.size h'.low with
   |false=>rfl
   |true=>exact (hle (Nat.le_of_ble_eq_true h7)).elim
  rw [if_neg hle]
  simp only [h5]
  cases o.op <;> simp only [zad hr] <;> rfl
theorem zbO {C:Fn->List Vly->Heap->FK->Bool} (hC:CF P T ov C) {ops:List Oper}:∀ (os pre:List Oper) (ks:List Nat) (e:FE) (l:Env) (h:Heap) (k:List Nat->FE->Heap->Bool),ops=pre++os->ks.length=pre.length ->
 (∀ i,i < pre.length->zaW T ⟨ops⟩ i=true->ks.getD i 2=0)->ERel e l->zh3 P T C ops os ks.reverse e h k=true ->
 WOpsK P T ov ⟨ops⟩ os ks l h λks' l' h'=>ks'.length=ops.length/\(∀ i,i < ops.length->zaW T ⟨ops⟩ i=true->ks'.getD i 2=0)/\∃ e',ERel e' l'/\k ks'.reverse e' h'=true
 | [],pre,ks,e,l,h,k,hp,hl,hb,hr,hh=>by
  rw [List.append_nil] at hp
  subst hp
  exact ⟨hl,hb,e,hr,hh⟩
 |o::os,pre,ks,e,l,h,k,hp,hl,hb,hr,hh=>by
  have hh:zir P T C ops o (zh3 P T C ops os) ks.reverse e h k=true:=hh
  have hat:zaW T ⟨ops⟩ pre.length=zaC T o:=by
   simp [zaW,hp]
  have hb':∀ c,(zaC T o=true->c=0)->∀ i,i < (pre++[o]).length->zaW T ⟨ops⟩ i=true->(ks++[c]).getD i 2=0:=by
   intro c hc i hi hbi
   rw [List.length_append,List.length_singleton] at hi
   by_cases hlt:i < pre.length
   .have:=hb i hlt hbi
    rw [List.getD_eq_getElem?_getD] at this ⊢
    rw [List.getElem?_append_left (by omega)]
    exact this
   .have:i=pre.length:=by omega
    subst this
    rw [hat] at hbi
    rw [List.getD_eq_getElem?_getD,List.getElem?_append_right (by omega),hl,Nat.sub_self]
    simp [hc hbi]
  have hp':ops=(pre++[o])++os:=by rw [hp];simp
  have hl':∀ c:Nat,(ks++[c]).length=(pre++[o]).length:=by intro c;simp [hl]
  have hrev:∀ c:Nat,c::ks.reverse=(ks++[c]).reverse:=by intro c;simp
  refine zdr hr hh (λha=>?_) (λhb2=>?_)
  .refine WOp.mono (λv h' hk=>?_) (zdq hC hr ha)
   obtain ⟨e',hr',hk⟩:=zbE hr hk
   simp only [zhe] at hk
   cases hob:zaC T o with
   |true =>
    rw [hob] at hk
    rw [zcw hob]
    simp only [hrev] at hk
    exact zbO hC os (pre++[o]) (ks++[0]) e' _ _ k hp' (hl' 0) (hb' 0 λ_=>rfl) hr' hk
   |false =>
    rw [hob] at hk
    rw [zhv hr hob] at hk
    simp only [hrev] at hk
    exact zbO hC os (pre++[o]) (ks++[zb0 T o l h h']) e' _ _ k hp' (hl' _) (hb' _ λh6=>by rw [hob] at h6;cases h6) hr' hk
  .obtain ⟨e',hr',hk⟩:=zbE hr hb2
   rw [hrev] at hk
   exact zbO hC os (pre++[o]) (ks++[0]) e' _ _ k hp' (hl' 0) (hb' 0 λ_=>rfl) hr' hk

theorem zgb {C:Fn->List Vly->Heap->FK->Bool} (hC:CF P T ov C) {ops:Array Oper} {e:FE} {l:Env} {h:Heap} {k:FE->Heap->Bool} (hr:ERel e l) (hh:zhY P T C ops e h k=true) :
 WOpsK P T ov ops ops.toList [] l h λks l' h'=>zfo ops ks (zcl ops.toList [])=true/\∃ e',ERel e' l'/\k e' h'=true:=by
 unfold zhY at hh
 split at hh
 .rename_i ps hd
  unfold zgz at hd
  split at hd
  .rename_i ha
   cases hd
   refine WOpsK.mono _ _ _ _ _ _ ?_ (zbO hC ops.toList [] [] e l h _ rfl rfl (λi hi=>by simp at hi) hr hh)
   rintro ks l' h' ⟨h1,h2,e',hr',hk⟩
   rw [List.reverse_reverse] at hk
   split at hk
   .rename_i hlo
    exact ⟨zha ha hlo (λi hi=>h2 i (by simpa using hi)),e',hr',hk⟩
   .cases hk
  .cases hd
 .cases hh

theorem zga {v:Vly} {a b:Bool} {A B:Prop} (hh:zf9 v a b=true) (ha:a=true->A) (hb:b=true->B):zgM v A B:=by
 unfold zf9 at hh
 unfold zgM
 split at hh
 .rename_i t
  cases t with
  |true=>exact ⟨λ_=>ha hh,λh=>(by cases h)⟩
  |false=>exact ⟨λh=>(by cases h),λ_=>hb hh⟩
 .cases hh

theorem zhZ {e:FE} {l:Env} (hr:ERel e l):fEnv e=l:=by
 unfold fEnv
 rw [hr.1]
 refine List.ext_getElem? λi=>?_
 rw [List.getElem?_map]
 by_cases hi:i < l.length
 .rw [List.getElem?_range hi,List.getElem?_eq_getElem hi,Option.map_some,hr.2 i,Env.get_eq,List.getElem?_eq_getElem hi]
  rfl
 .rw [List.getElem?_eq_none (by simpa using hi),List.getElem?_eq_none (by omega)]
  rfl
theorem zfy {e:FE} {l:Env} (hr:ERel e l) {A:Nat} {h:Heap} {q:FQ} (hh:zhb A e h q=true):zgL (za1 A l h) λx l' h'=>∃ e',ERel e' l'/\q x e' h'=true:=by
 unfold zhb at hh
 unfold za1
 split at hh
 .rename_i env ps assign body st pend hg
  rw [hg]
  cases st <;> cases pend <;> first|cases hh|exact ⟨e,hr,hh⟩|(rename_i c;cases c <;> first|exact ⟨e,hr,hh⟩|cases hh)
 .cases hh

theorem zaY {C:Fn->List Vly->Heap->FK->Bool} (hC:CF P T ov C) {rd:Option Nat} {fuel:Nat}:∀ (c:Code) (e:FE) (l:Env) (h:Heap) (q:FQ),ERel e l->zcu P T C rd fuel c e h q=true ->
 W P T ov rd c l h λx l' h'=>∃ e',ERel e' l'/\q x e' h'=true:=by
 intro c
 induction c with
 |skip=>intro e l h q hr hh;exact ⟨e,hr,hh⟩
 |region id ops d =>
  intro e l h q hr hh
  cases d with
  |false=>exact zcU hC _ _ _ _ _ hr hh
  |true=>exact zgb hC hr hh
 |seq a b iha ihb =>
  intro e l h q hr hh
  simp only [W]
  refine W.mono _ _ _ _ _ ?_ (iha e l h _ hr hh)
  rintro x l' h' ⟨e',hr',hq⟩
  cases x with
  |normal=>exact ihb e' l' h' q hr' hq
  |exit i=>exact ⟨e',hr',hq⟩
  |ret=>exact ⟨e',hr',hq⟩
 |cond c a b iha ihb =>
  intro e l h q hr hh
  have hh:zf9 (fval c e) (zcu P T C rd fuel a e h q) (zcu P T C rd fuel b e h q)=true:=hh
  rw [zad hr] at hh
  exact zga hh (iha e l h q hr) (ihb e l h q hr)
 |block id c ih =>
  intro e l h q hr hh
  simp only [W]
  refine W.mono _ _ _ _ _ ?_ (ih e l h _ hr hh)
  rintro x l' h' ⟨e',hr',hq⟩
  cases x with
  |normal=>exact ⟨e',hr',hq⟩
  |exit i =>
   have hq:(match Nat.beq i id with|true=>q .normal e' h'|false=>q (.exit i) e' h')=true:=hq
   split at hq
   .rename_i hb
    simp only [if_pos (Nat.eq_of_beq_eq_true hb)]
    exact ⟨e',hr',hq⟩
   .rename_i hb
    simp only [if_neg (Nat.ne_of_beq_eq_false hb)]
    exact ⟨e',hr',hq⟩
  |ret=>exact ⟨e',hr',hq⟩
 |loop c ih =>
  intro e l h q hr hh
  have hh:zh2 (zcu P T C rd fuel c) fuel e h q=true:=hh
  have key:∀ (n:Nat) (e:FE) (l:Env) (h:Heap),ERel e l->zh2 (zcu P T C rd fuel c) n e h q=true->WIter (W P T ov rd c) (λx l' h'=>∃ e',ERel e' l'/\q x e' h'=true) n l h:=by
   intro n
   induction n with
   |zero=>intro e l h _ hh;cases hh
   |succ n ihn =>
    intro e l h hr hh
    simp only [WIter]
    refine W.mono _ _ _ _ _ ?_ (ih e l h _ hr hh)
    rintro x l' h' ⟨e',hr',hq⟩
    cases x with
    |normal=>exact ihn e' l' h' hr' hq
    |exit i=>exact ⟨e',hr',hq⟩
    |ret=>exact ⟨e',hr',hq⟩
  exact ⟨fuel,key fuel e l h hr hh⟩
 |exit id=>intro e l h q hr hh;exact ⟨e,hr,hh⟩
 |ret=>intro e l h q hr hh;exact ⟨e,hr,hh⟩
 |label n=>intro e l h q hr hh;exact ⟨e,hr,hh⟩
 |rangeFunc g ps a b _ _ =>
  intro e l h q hr hh
  have hh:zf4 T C rd g ps a b (zcu P T C rd fuel a) (zcu P T C rd fuel b) e h q=true:=hh
  unfold zf4 at hh
  rw [zad hr,zhZ hr] at hh
  simp only [W,zeN]
  split at hh
  .rename_i hgv
   rw [hgv]
   simp only
   split at hh
   .rename_i hc
    refine ⟨hc,(hC _ _ _ _ hh).mono λv h2 hk=>?_⟩
    exact zfy hr hk
   .cases hh
  .cases hh
 |scope c ih=>intro e l h q hr hh;exact ih e l h q hr hh
 |goto l=>intro e l h q hr hh;cases hh
 |refuse s=>intro e l h q hr hh;cases hh

theorem zhf {e:FE} {l:Env} (hr:ERel e l) (h:Heap) (r:ResultVar):fRes T r e h=zbt T l h r:=by
 cases r with
 |tmp t=>simp only [fRes,zbt];rw [hr.2 t]
 |cell a y=>simp only [fRes,zbt];rw [hr.2 a]
theorem zcT {fn:Func} {k:FK} {x:Ex} {e:FE} {l:Env} {h:Heap} (hr:ERel e l) (hh:fFin T fn k x e h=true):(x=.ret\/x=.normal)/\∃ v,zao T fn l h=some v/\k v h=true:=by
 have go:(match fn.results.toList with
  | [r]=>zaO (fRes T r e h) h k
  |rs=>(match rs.mapM λr=>fRes T r e h with
   |some vs=>k (.tuple vs.toArray) h
   |none=>false))=true->∃ v,zao T fn l h=some v/\k v h=true:=by
  intro hh
  rw [show (λr=>fRes T r e h)=zbt T l h from funext (zhf hr h)] at hh
  unfold zao
  split at hh
  .rename_i r h1
   rw [h1]
   rw [zhf hr] at hh
   unfold zaO at hh
   split at hh
   .rename_i v h2;exact ⟨v,h2,hh⟩
   .cases hh
  .rename_i hne
   split
   .rename_i r h1;exact (hne r h1).elim
   .split at hh
    .rename_i vs h2;rw [h2];exact ⟨_,rfl,hh⟩
    .cases hh
 cases x with
 |exit i=>cases hh
 |normal=>exact ⟨.inr rfl,go hh⟩
 |ret=>exact ⟨.inl rfl,go hh⟩

theorem zby:∀ (args:List Vly) (i:Nat) (t:ET) (k:ET->Bool),zfA args i t k=true->∃ t',k t'=true/\∀ j,ET.get (zaR j) t'=if i<=j/\j < i+args.length then (args[j - i]?).getD undef else ET.get (zaR j) t
 | [],i,t,k,hh=>⟨t,hh,λj=>by rw [if_neg (by simp)]⟩
 |v::args,i,t,k,hh=>by
  have hh:ET.setK (zaR i) v t (λt=>zfA args (i+1) t k)=true:=hh
  rw [ET.setK_eq] at hh
  obtain ⟨t',h1,h2⟩:=zby args (i+1) _ k hh
  refine ⟨t',h1,λj=>?_⟩
  rw [h2 j,List.length_cons]
  by_cases hj:j=i
  .subst hj
   rw [if_neg (by omega),if_pos (by omega),(ET.get_set _ _ _ _).1 rfl]
   simp
  .by_cases hj2:i<=j/\j < i+(args.length+1)
   .rw [if_pos (by omega),if_pos hj2,show j - i=(j - (i+1))+1 by omega,List.getElem?_cons_succ]
   .rw [if_neg (by omega),if_neg hj2,(ET.get_set _ _ _ _).2 (λhp=>hj (zeL hp).symm)]

theorem zbo {A:Nat} {jump:Option Code} {h:Heap} {k:FK} (hh:zb7 A jump h k=true):optE (zaF A jump h) λv h'=>k v h'=true:=by
 unfold zb7 at hh
 unfold zaF
 split at hh
 .rename_i hg;rw [hg];exact hh
 .cases hh

theorem zcM:∀ (e:Env) (ps:List Tmp) (args:List Vly),(setAll e ps args).length=e.length
 |_,[],args=>by cases args <;> rfl
 |_,_::_,[]=>rfl
 |e,p::ps,v::args=>by simp only [setAll];rw [zcM,Env.length_set]

theorem zfu {args:List Vly} {n:Nat} {t:ET} (hle:args.length<=n) (hget:∀ j,ET.get (zaR j) t=if 0<=j/\j < 0+args.length then (args[j - 0]?).getD undef else ET.get (zaR j) .leaf):ERel ⟨n,t⟩ (args++List.replicate (n - args.length) undef):=by
 refine ⟨by simp;omega,λj=>?_⟩
 show ET.get (zaR j) t=_
 rw [hget j,Env.get_eq]
 by_cases hj:j < args.length
 .rw [if_pos (by omega),List.getElem?_append_left hj,Nat.sub_zero]
 .rw [if_neg (by omega),ET.get_leaf,List.getElem?_append_right (by omega)]
  by_cases hj2:j - args.length < n - args.length
  .simp [hj2]
  .simp [hj2]
theorem zeF {C:Fn->List Vly->Heap->FK->Bool} (hC:CF P T ov C) {fuel:Nat}:∀ (pre:List Code) (e:FE) (l:Env) (h:Heap) (k:FE->Heap->Bool),ERel e l->fPre (zcu P T C none fuel) pre e h k=true->WPre P T ov pre l h λl' h'=>∃ e',ERel e' l'/\k e' h'=true
 | [],e,l,h,k,hr,hh=>⟨e,hr,hh⟩
 |c::cs,e,l,h,k,hr,hh=>by
  simp only [fPre] at hh
  refine W.mono _ _ _ _ _ ?_ (zaY hC c e l h _ hr hh)
  rintro x l' h' ⟨e',hr',hq⟩
  cases x with
  |normal=>exact ⟨rfl,zeF hC cs e' l' h' k hr' hq⟩
  |exit id=>cases hq
  |ret=>cases hq
theorem zfz {C:Fn->List Vly->Heap->FK->Bool} (hC:CF P T ov C) {fuel:Nat} {f:FuncId} {fn:Func} {c:Code} {args:List Vly} {t0:ET} {h:Heap} {k:FK} (ho:ov f=none) (hf:T.fn f=some fn) (hc:fn.body=some c) (hdf:T.dfr f=true)
 (hr:ERel ⟨fn.ntmps,t0⟩ (args++List.replicate (fn.ntmps - args.length) undef)) (hh:zhc P T C (zcu P T C none fuel) fn c ⟨fn.ntmps,t0⟩ h k=true):Ok P T ov f args h λv h'=>k v h'=true:=by
 unfold zhc at hh
 split at hh
 .rename_i pre m t rest hsp
  split at hh
  .rename_i hnr
   refine Ok.enterD ho hf hc hdf hsp hnr ?_
   refine WPre.mono _ _ _ _ _ ?_ (zeF hC pre _ _ h _ hr hh)
   rintro l1 h1 ⟨e1,hr1,hq⟩
   refine WOp.mono (λv h2 hk=>?_) (zdq hC hr1 hq)
   obtain ⟨e2,hr2,hk⟩:=zbE hr1 hk
   refine W.mono _ _ _ _ _ ?_ (zaY hC rest e2 _ h2 _ hr2 hk)
   rintro x l3 h3 ⟨e3,hr3,hq3⟩
   have key:(x=.ret\/x=.normal)/\zhd T (zcu P T C none fuel) fn (ET.get (zaR t) e2.t) e3 h3 k=true:=by
    cases x with
    |normal=>exact ⟨.inr rfl,hq3⟩
    |exit id=>cases hq3
    |ret=>exact ⟨.inl rfl,hq3⟩
   obtain ⟨hx,hlv⟩:=key
   refine ⟨hx,?_⟩
   unfold zhd at hlv
   split at hlv
   .rename_i g fi ca hg
    split at hlv
    .rename_i fg hfg
     split at hlv
     .rename_i cg hcg
      split at hlv
      .rename_i hcond
       simp only [Bool.and_eq_true] at hcond
       obtain ⟨t4,ht4,hget⟩:=zby (fi.toList++ca.toList) 0 .leaf _ hlv
       refine ⟨g,fi,ca,fg,cg,by rw [<- hr2.2 t];exact hg,hfg,hcg,hcond.1,?_⟩
       refine W.mono _ _ _ _ _ ?_ (zaY hC cg ⟨fg.ntmps,t4⟩ _ h3 _ (zfu (Nat.le_of_ble_eq_true hcond.2) hget) ht4)
       rintro y l4 h4 ⟨e4,hr4,hq4⟩
       obtain ⟨hy,vg,hvg,hq5⟩:=zcT hr4 hq4
       obtain ⟨_,v5,hv5,hq6⟩:=zcT hr3 hq5
       exact ⟨hy,vg,v5,hvg,hv5,hq6⟩
      .cases hlv
     .cases hlv
    .cases hlv
   .cases hlv
  .cases hh
 .cases hh
theorem zdw (fuel:Nat):∀ n,CF P T ov (zgi P T ov fuel n)
 |0=>by intro f args h k hh;cases hh
 |n+1=>by
  intro f args h k hh
  have ih:=zdw fuel n
  cases f with
  |func f =>
   have hh:zh0 P T ov (zgi P T ov fuel n) (zcu P T (zgi P T ov fuel n) none fuel) f args h k=true:=hh
   unfold zh0 at hh
   split at hh
   .rename_i g hg
    unfold zck at hh
    split at hh
    .rename_i v h' hv
     exact Ok.over hg hv hh
    .cases hh
   .rename_i ho
    split at hh
    .rename_i fn hf
     split at hh
     .rename_i c hc
      split at hh
      .rename_i hle
       have hle:=Nat.le_of_ble_eq_true hle
       obtain ⟨t,ht,hget⟩:=zby args 0 .leaf _ hh
       have hE:=zfu hle hget
       split at ht
       .rename_i hdf
        exact zfz ih ho hf hc hdf hE ht
       .rename_i hdf
        refine Ok.enter ho hf hc hdf ?_
        refine W.mono _ _ _ _ _ ?_ (zaY ih c ⟨fn.ntmps,t⟩ (args++List.replicate (fn.ntmps - args.length) undef) h _ hE ht)
        rintro x l' h' ⟨e',hr',hq⟩
        exact zcT hr' hq
      .cases hh
     .cases hh
    .cases hh
  |yield A =>
   have hh:zhh (zcu P T (zgi P T ov fuel n) (some A) fuel) A args h k=true:=hh
   unfold zhh at hh
   split at hh
   .rename_i env ps assign body st pend hg
    split at hh
    .rename_i hl
     obtain ⟨t,ht,hget⟩:=zby _ 0 .leaf _ hh
     refine OkF.round hg (Nat.eq_of_beq_eq_true hl) ?_
     refine W.mono _ _ _ _ _ ?_ (zaY ih assign ⟨env.length,t⟩ (setAll env ps args) h _ ⟨?_,λj=>?_⟩ ht)
     .rintro x e1 h1 ⟨e',hr',hq⟩
      cases x with
      |normal =>
       refine ⟨rfl,?_⟩
       have hq:(match h1.get A with
        |some (.loop env ps assign body1 .ready pend)=>zcu P T (zgi P T ov fuel n) (some A) fuel body e' (h1.set A (.loop env ps assign body1 .busy pend)) (zfB A k)
        |_=>false)=true:=hq
       split at hq
       .rename_i env1 ps1 as1 bd1 pend1 hg1
        refine ⟨env1,ps1,as1,bd1,pend1,hg1,?_⟩
        refine W.mono _ _ _ _ _ ?_ (zaY ih body e' e1 _ _ hr' hq)
        rintro x l' h' ⟨e2,_,hk⟩
        cases x with
        |normal=>exact zbo hk
        |exit id=>exact zbo hk
        |ret=>exact zbo hk
       .cases hq
      |exit id=>cases hq
      |ret=>cases hq
     .rw [zcM]
     .show ET.get (zaR j) t=_
      rw [hget j,Env.get_eq]
      by_cases hj:j < (setAll env ps args).length
      .rw [if_pos (by omega),Nat.sub_zero]
      .rw [if_neg (by omega),ET.get_leaf,List.getElem?_eq_none (by omega)]
       rfl
    .cases hh
   .cases hh
  |_=>cases hh
end
end Go.Am
namespace Go.Am
open Go.ChangeShapes Go.WideShapes Go.ChangeAt Go.RowKit

section
variable {H:Type} {enc:TypeId × Vly->H} {P:Program}
theorem zht {f:Func} {s:ChangeSpec} {apart fresh handsOn again:Bool} {W W':World} {args:Array Vly} {v:Vly} {ds gs:List (DataW H)} {before pa pv:List MemPlace}
 (hW:DataW.Whole enc P f.params.toList s.vars apart W args.toList ds gs before)
 (hres:∀ (b:Nat) (sp:Nat->Bool) (hd:Bool),DataW.TrodAll enc P W' b sp hd f.resultTypes.toList (v.resultList f.resultTypes.size) (s.fn H (ds++gs)).results [])
 (hargs:∀ sp:Nat->Bool,(∀ p∈before,sp p.block=true)->DataW.TrodAll enc P W' 0 sp true f.params.toList args.toList (s.fn H (ds++gs)).args pa)
 (hvars:∀ sp:Nat->Bool,(∀ p∈before,sp p.block=true)->DataW.TrodVars enc P W' sp s.vars (s.fn H (ds++gs)).vars pv)
 (hps:before=pa++pv) (hb:Below W.heap.size W W')
 (hok:∀ (j:Nat) (t:TypeId) (r:Vly),f.resultTypes[j]? = some t->(v.resultList f.resultTypes.size)[j]? = some r->Value.okWide P W' .any 0 t r) :
 s.post enc P f apart fresh handsOn again W args v W':=by
 have below:∀ p∈before,p.block < W.heap.size:=λp hp=>hW.lt p hp
 have old:∀ p∈before,(λb=>decide (b < W.heap.size)) p.block=true:=λp hp=>by simpa using below p hp
 have mem:∀ p,p∈before↔p∈([]++pa)++pv:=λp=>by rw [hps];simp
 refine ⟨ds,gs,before,[],pa,pv,hW,hres _ _ _,hargs _ old,hvars _ old,World.keptBut_mono (λp hp=>⟨hp,?_⟩) (hb.frame (·∈before)),λ_=>?_⟩
 .rw [hps,List.mem_append] at hp
  exact .inr hp
 obtain ⟨_,_,_,_,_,hz,hn⟩:=hW
 refine ⟨hok,_,_,([]++pa)++pv,⟨[]++pa,pv,trodAll_append (hargs _ (λ_ _=>rfl)) (hres _ _ _),hvars _ (λ_ _=>rfl),rfl,λb off hp=>?_,λha=>?_⟩,?_⟩
 .have hin:=(mem _).2 hp
  rw [hb.frozen (below _ hin)]
  exact hz b off hin
 .have:=hn ha
  rw [hps] at this
  simpa using this
 .exact λp hp _=>(mem p).2 hp
end


end Go.Am
