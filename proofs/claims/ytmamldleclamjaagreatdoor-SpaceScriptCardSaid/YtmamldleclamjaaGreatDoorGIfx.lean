/- Walks: interfaces, entries of maps. No condition. -/
import Derived.Test.YtmamldleclamjaaGreatDoorG25
set_option linter.unusedSimpArgs false
set_option linter.unusedVariables false
namespace Go.Am
variable {H:Heap}
section
variable {P:Program} {T:bO} {ov:Ov} {d:Option Tmp} {ty:TypeId} {pos:String} {af:Array Edge} {g:Option (Nat × Bool)} {e:Env} {h:Heap} {K:aI}
theorem ZZ (t:TypeId) (x:Operand):cS P T ov ⟨d,.makeInterface t x,ty,pos,af,g⟩ e h K=aH (Jv T t (bz e x)) h K:=by rw [<- wP];rfl
theorem zif (x:Operand) (it t:TypeId) (ok:Bool):cS P T ov ⟨d,.typeAssert x it t ok,ty,pos,af,g⟩ e h K=aH (Qh T (bz e x) t ok) h K:=by rw [<- wP];rfl
theorem zvl (t:TypeId) (m k:Operand):cS P T ov ⟨d,.mapEntry t m k,ty,pos,af,g⟩ e h K=dw (DJ T t (bz e m) (bz e k) h) K:=rfl
theorem zp1 (t:TypeId) (m s x:Operand):cS P T ov ⟨d,.entryStore t m s x,ty,pos,af,g⟩ e h K=iq (yU (bz e m) (bz e s) (bz e x) h) K:=by
 show dw ((yU (bz e m) (bz e s) (bz e x) h).map λh'=>(undef,h')) K=_
 cases yU (bz e m) (bz e s) (bz e x) h <;> rfl
theorem zAc (t u:TypeId) (m k:Operand):cS P T ov ⟨d,.call ⟨.builtin .delete,#[m,k],#[t,u]⟩,ty,pos,af,g⟩ e h K=iq (Ac T t (bz e m) (bz e k) h) K:=by
 show dw ((Ac T t (bz e m) (bz e k) h).map λh'=>(undef,h')) K=_
 cases Ac T t (bz e m) (bz e k) h <;> rfl
def Gi (P:Program) (T:bO) (ov:Ov) (r:ah) (name:String) (args:List ah) (h:Heap) (K:aI):Prop:=match r with
 | .iface t x=>(match wS T t x name h with
  |some (f,y)=>Ok P T ov f (y::args) h K
  |none=>False)
 |_=>False
theorem uw (r:Operand) (name:String) (args:List Operand) (ats:Array TypeId):cS P T ov ⟨d,.call ⟨.invoke r name,⟨args⟩,ats⟩,ty,pos,af,g⟩ e h K=Gi P T ov (bz e r) name (Ak e args) h K:=by
 rw [<- P7]
 show (match bz e r with
  | .iface t x=>(match wS T t x name h with
   |some (f,y)=>Ok P T ov f (y::args.map (bz e)) h K
   |none=>False)
  |_=>False)=_
 cases bz e r <;> rfl
theorem uz {t:TypeId} {x y:ah} {name:String} {args:List ah} {f:FuncId} (hm:wS T t x name h=some (f,y)) (hk:Ok P T ov f (y::args) h K):Gi P T ov (.iface t x) name args h K:=by
 unfold Gi
 simp only [hm]
 exact hk
end
def dn (h:Heap) (A:Nat) (kv:List (au × ah)):Prop:=∃ es clock,Holds h A (.map es clock)/\es.map (λx:MapEntry=>(x.key,x.val))=kv.map (λp=>(Value.string p.1,p.2))/\(kv.map Prod.fst).Nodup/\(es.map (·.born)).Nodup/\∀ x∈es,x.born < clock
def dq (kv:List (au × ah)) (a:au):Option ah:=(kv.find? (λp=>decide (a=p.1))).map (·.2)
def gp (kv:List (au × ah)) (a:au) (v:ah):List (au × ah):=if (dq kv a).isSome then kv.map (λp=>if a=p.1 then (a,v) else p) else kv++[(a,v)]
def mX (kv:List (au × ah)) (a:au):List (au × ah):=kv.filter (λp => !decide (a=p.1))
theorem zo4 (a:au):dq [] a=none:=rfl
theorem vJ (p:au × ah) (kv:List (au × ah)) (a:au):dq (p::kv) a=if a=p.1 then some p.2 else dq kv a:=by
 unfold dq
 by_cases h:a=p.1
 .rw [List.find?_cons_of_pos (by simpa using h),aB h];rfl
 .rw [List.find?_cons_of_neg (by simpa using h),aA h]
theorem fm {kv:List (au × ah)} {a:au}:dq kv a=none↔a ∉ kv.map Prod.fst:=by
 induction kv with
 |nil=>simp [dq]
 |cons p kv ih =>
  rw [vJ]
  by_cases h:a=p.1
  .simp [h]
  .rw [aA h,ih]
   simp [h]
theorem zo3 (kv kw:List (au × ah)) (a:au):dq (kv++kw) a=(dq kv a).or (dq kw a):=by
 induction kv with
 |nil=>rw [pk,zo4];rfl
 |cons p kv ih =>
  rw [w8,vJ,vJ,ih]
  split <;> rfl
theorem G3 (kv:List (au × ah)) (a b:au) (v:ah):dq (gp kv a v) b=if b=a then some v else dq kv b:=by
 unfold gp
 split
 .rename_i hs
  have key:∀ l:List (au × ah),dq (l.map (λp=>if a=p.1 then (a,v) else p)) b=if b=a then (dq l a).map (λ_=>v) else dq l b:=by
   intro l
   induction l with
   |nil=>simp [dq]
   |cons p l ih =>
    rw [lA,vJ,ih,vJ,vJ]
    by_cases h1:a=p.1
    .rw [aB h1,aB h1]
     by_cases h2:b=a
     .rw [aB h2,aB (by exact h2)];rfl
     .rw [aA h2,aA (by exact h2),aA h2,aA (by rw [<- h1];exact h2)]
    .rw [aA h1,aA h1]
     by_cases h2:b=a
     .rw [aB h2,aB h2,aA (by rw [h2];exact h1)]
     .rw [aA h2,aA h2]
  rw [key]
  split
  .cases hl:dq kv a with
   |none=>rw [hl] at hs;cases hs
   |some w=>rfl
  .rfl
 .rename_i hs
  rw [zo3,vJ,zo4]
  have hn:dq kv a=none:=by
   cases hl:dq kv a with
   |none=>rfl
   |some w=>rw [hl] at hs;exact absurd rfl hs
  by_cases h2:b=a
  .rw [aB h2,h2,hn,aB rfl];rfl
  .rw [aA h2,aA h2]
   cases dq kv b <;> rfl
theorem zpF (kv:List (au × ah)) (a:au) (v:ah):(gp kv a v).map Prod.fst=if (dq kv a).isSome then kv.map Prod.fst else kv.map Prod.fst++[a]:=by
 unfold gp
 split
 .rw [List.map_map]
  congr 1
  funext p
  simp only [Function.comp]
  split
  .rename_i h;exact h
  .rfl
 .rw [Ar];rfl
theorem SQ {kv:List (au × ah)} (hn:(kv.map Prod.fst).Nodup) (a:au) (v:ah):((gp kv a v).map Prod.fst).Nodup:=by
 rw [zpF]
 split
 .exact hn
 .rename_i hs
  rw [QA]
  refine ⟨hn,by simp,λx hx y hy=>?_⟩
  rw [fH] at hy
  subst hy
  intro e
  subst e
  have:dq kv x=none:=by
   cases hl:dq kv x with
   |none=>rfl
   |some w=>rw [hl] at hs;exact absurd rfl hs
  exact fm.1 this hx
theorem zjP (kv:List (au × ah)) (a b:au):dq (mX kv a) b=if b=a then none else dq kv b:=by
 unfold mX
 induction kv with
 |nil=>simp [dq]
 |cons p kv ih =>
  by_cases h1:a=p.1
  .rw [Tk (by simpa using h1),ih,vJ]
   split
   .rfl
   .rw [aA (by rw [<- h1];assumption)]
  .rw [Tl (by simpa using h1),vJ,ih,vJ]
   by_cases h2:b=a
   .rw [aB h2,aB h2,aA (by rw [h2];exact h1)]
   .rw [aA h2,aA h2]
theorem zhm {kv:List (au × ah)} (hn:(kv.map Prod.fst).Nodup) (a:au):((mX kv a).map Prod.fst).Nodup:=List.Nodup.sublist (List.Sublist.map _ Qs) hn
theorem Jq {T:bO} {kt:TypeId} (hd:T.desc kt=some .string) (x y:au):fK T 20 kt (.string x) (.string y)=some (decide (x=y)):=by
 unfold fK
 simp only [hd]
 congr 1
 rw [Bool.eq_iff_iff,decide_eq_true_iff,beq_iff_eq]
 exact ⟨λh=>ByteArray.ext (JI.1 h),λh=>by rw [h]⟩
theorem QZ {T:bO} {kt:TypeId} {a:au} (heq:∀ x y:au,fK T 20 kt (.string x) (.string y)=some (decide (x=y))):∀ (es:List MapEntry) (kv:List (au × ah)) (i:Nat),es.map (λx:MapEntry=>(x.key,x.val))=kv.map (λp=>(Value.string p.1,p.2)) ->
 (dq kv a=none->qA T kt (.string a) es i=some none)/\∀ v,dq kv a=some v->∃ (j:Nat) (e:MapEntry),qA T kt (.string a) es i=some (some (i+j,v))/\es[j]? = some e/\e.key=.string a/\e.val=v/\kv[j]? = some (a,v)/\∀ k p,k < j->kv[k]? = some p->a≠p.1
 | [],kv,i,hk=>by
  cases kv with
  |nil=>exact ⟨λ_=>rfl,λn h=>by simp [dq] at h⟩
  |cons k kv=>simp at hk
 |e::es,kv,i,hk=>by
  cases kv with
  |nil=>simp at hk
  |cons k kv =>
   simp only [lA,List.cons.injEq,da] at hk
   obtain ⟨h1,h2⟩:=QZ heq es kv (i+1) hk.2
   unfold qA
   rw [hk.1.1,heq,vJ]
   by_cases hx:a=k.1
   .rw [pn hx,aB hx]
    refine ⟨(λh=>by cases h),λv hv=>?_⟩
    cases hv
    refine ⟨0,e,by simp [hk.1.2],rfl,by rw [hk.1.1,hx],hk.1.2,by rw [hx];rfl,λk ml=>by omega⟩
   .rw [oL hx,aA hx]
    simp only [dX,gB,if_false]
    refine ⟨h1,λv hv=>?_⟩
    obtain ⟨j,e',g1,g2,g3,g4,g5,g6⟩:=h2 v hv
    refine ⟨j+1,e',?_,by simpa using g2,g3,g4,by simpa using g5,λq p hq hp=>?_⟩
    .rw [g1,show i+1+j=i+(j+1) by omega]
    .cases q with
     |zero=>rw [Ca] at hp;cases hp;exact hx
     |succ q=>exact g6 q p (by omega) (by simpa using hp)
theorem TC {T:bO} {kt:TypeId} (a:au) (heq:∀ x y:au,fK T 20 kt (.string x) (.string y)=some (decide (x=y))):vZ T kt (.string a)=true:=by
 unfold vZ
 rw [show plain (.string a)=true from rfl,heq]
 simp
theorem zlO {kv:List (au × ah)} {a:au} {v w:ah}:∀ {j:Nat},kv[j]? = some (a,w)->(∀ k p,k < j->kv[k]? = some p->a≠p.1)->(kv.map Prod.fst).Nodup->kv.map (λp=>if a=p.1 then (a,v) else p)=kv.modify j (λp=>(a,v)):=by
 induction kv with
 |nil=>intro j h;simp at h
 |cons p kv ih =>
  intro j hj aW hn
  rw [lA,wg] at hn
  cases j with
  |zero =>
   rw [Ca] at hj
   cases hj
   rw [lA,aB rfl,List.modify_zero_cons]
   congr 1
   rw [JB (g:=id),List.map_id]
   intro q hq
   rw [aA]
   .rfl
   .intro e
    exact hn.1 (by show a∈_;rw [e];exact JC (f:=Prod.fst) hq)
  |succ j =>
   rw [lA,aA (aW 0 p (by omega) rfl),List.modify_succ_cons,ih (by simpa using hj) (λk q hk hq=>aW (k+1) q (by omega) (by simpa using hq)) hn.2]
section
variable {T:bO} {t kt et:TypeId} {A:Nat} {kv:List (au × ah)} {a:au} {v:ah} {h h1 h2:Heap} {bs:List ba} {w:Nat} {K:aI}
theorem dn.nodup (m:dn h A kv):(kv.map Prod.fst).Nodup:=by obtain ⟨es,cl,m1,m2,m3,m4⟩:=m;exact m3
theorem dn.lt (m:dn h A kv):A < h.size:=by obtain ⟨es,cl,m1,m2⟩:=m;exact m1.lt
theorem dn.hold (m:dn h A kv) (hO:∀ b,Holds h A b->Holds H A b):dn H A kv:=by
 obtain ⟨es,cl,m1,m2⟩:=m
 exact ⟨es,cl,hO _ m1,m2⟩
theorem dn.over (m:dn h1 A kv) (x:Ext (h1.lay bs w) h2):dn h2 A kv:=m.hold λb q=>q.over x
theorem dn.lay (m:dn h1 A kv) (bs:List ba) (w:Nat):dn (h1.lay bs w) A kv:=m.hold λb q=>q.on bs w
theorem dn.new (q:Holds h A (.map [] 0)):dn h A []:=⟨[],0,q,rfl,by simp,by simp,λ_ hx=>by simp at hx⟩
theorem dn.bK (m:dn h1 A kv) {B:Nat} (c:eX B (h1.lay bs w) h2) (aS:A≠B):dn h2 A kv:=m.hold λb q=>q.bK c aS
theorem GP {ok:Bool} {z:ah} (m:dn h1 A kv) (hd:T.desc t=some (.map kt et)) (hs:T.desc kt=some .string) (hz:T.zero et=some z)
 (hK:K (if ok then .tuple #[(dq kv a).getD z,.bool (dq kv a).isSome] else (dq kv a).getD z) (h1.lay bs w)):aH (B0 T t (.map (some A)) (.string a) ok (h1.lay bs w)) (h1.lay bs w) K:=by
 obtain ⟨es,cl,m1,m2,m3⟩:=m
 have heq:=Jq (T:=T) hs
 obtain ⟨f1,f2⟩:=QZ (a:=a) heq es kv 0 m2
 have hg:(h1.lay bs w).get A=some (.map es cl):=m1.lay bs w
 unfold B0
 simp only [hd,TC a heq,if_true,QX,hg,dX]
 cases hl:dq kv a with
 |none =>
  rw [hl] at hK
  rw [f1 hl]
  simp only [hz,dX,j2]
  exact hK
 |some n =>
  rw [hl] at hK
  obtain ⟨j,e,hj,_⟩:=f2 n hl
  rw [hj]
  simp only [dX,j2]
  exact hK
theorem Nu (m:dn h1 A kv) (hd:T.desc t=some (.map kt et)):bn T t (.map (some A)) (h1.lay bs w)=some (.int .i64 kv.length):=by
 obtain ⟨es,cl,m1,m2,m3⟩:=m
 have hg:(h1.lay bs w).get A=some (.map es cl):=m1.lay bs w
 have hl:es.length=kv.length:=by have:=congrArg List.length m2;simpa using this
 unfold bn
 simp only [hd,hg,hl]
theorem yY {b:ba} (hA:A < H.size):eX A H (H.set A b):=⟨by rw [Heap.size_set];exact bo _,λB hB aS=>by rw [Heap.aJ _ _ _ _ hA,aA aS],by rw [Heap.cd];omega⟩
theorem Du {b:ba} (hA:A < H.size):Holds (H.set A b) A b:=⟨by rw [Heap.size_set];exact hA,by rw [Heap.aJ _ _ _ _ hA,aB rfl]⟩
theorem zgm (a:au):Hg (.string a) (.string a)=true:=by unfold Hg HM;simp
theorem dn.put {es:List MapEntry} {cl:Nat} (hA:A < H.size) (m2:es.map (λx:MapEntry=>(x.key,x.val))=kv.map (λp=>(Value.string p.1,p.2))) (m3:(kv.map Prod.fst).Nodup) (m4:(es.map (·.born)).Nodup) (m5:∀ x∈es,x.born < cl) (hl:dq kv a=none) :
 dn (H.set A (.map (es++[{ key:=.string a,val:=v,born:=cl }]) (cl+1))) A (gp kv a v):=by
 have C4:gp kv a v=kv++[(a,v)]:=by unfold gp;rw [hl];rfl
 refine ⟨_,_,Du hA,?_,SQ m3 a v,?_,λx hx=>?_⟩
 .rw [C4,Ar,Ar,m2];rfl
 .rw [Ar,QA]
  refine ⟨m4,by simp,λx hx y hy=>?_⟩
  obtain ⟨e,he,rfl⟩:=nD.1 hx
  simp at hy
  have:=m5 e he
  omega
 .rcases iA.1 hx with hx|hx
  .have:=m5 x hx;omega
  .rw [fH.1 hx];exact so _
theorem dn.turn {es:List MapEntry} {cl j:Nat} {w:ah} {f:MapEntry->MapEntry} (hf:∀ e,(f e).key=.string a/\(f e).val=v/\(f e).born=e.born) (hA:A < H.size) (m2:es.map (λx:MapEntry=>(x.key,x.val))=kv.map (λp=>(Value.string p.1,p.2))) (m3:(kv.map Prod.fst).Nodup) (m4:(es.map (·.born)).Nodup) (m5:∀ x∈es,x.born < cl) (hl:dq kv a=some w)
 (g5:kv[j]? = some (a,w)) (g6:∀ k p,k < j->kv[k]? = some p->a≠p.1):dn (H.set A (.map (es.modify j f) cl)) A (gp kv a v):=by
 have C4:gp kv a v=kv.modify j (λp=>(a,v)):=by unfold gp;rw [hl];exact zlO g5 g6 m3
 have hb:(es.modify j f).map (·.born)=es.map (·.born):=by
  refine sq λi=>?_
  simp only [lS,Cb]
  cases es[i]? with
  |none=>rfl
  |some y=>by_cases dp:j=i <;> simp [dp,(hf y).2.2]
 refine ⟨_,_,Du hA,?_,SQ m3 a v,by rw [hb];exact m4,λx hx=>?_⟩
 .rw [C4]
  refine sq λi=>?_
  have hi:=congrArg (λl=>l[i]?) m2
  simp only [lS] at hi
  simp only [lS,Cb]
  by_cases dp:j=i
  .subst dp
   rw [g5] at hi ⊢
   cases he:es[j]? with
   |none=>rw [he] at hi;simp at hi
   |some y=>simp [(hf y).1,(hf y).2.1]
  .cases he:es[i]? with
   |none =>
    rw [he] at hi
    cases hk:kv[i]? with
    |none=>rfl
    |some p=>rw [hk] at hi;simp at hi
   |some y =>
    rw [he] at hi
    cases hk:kv[i]? with
    |none=>rw [hk] at hi;simp at hi
    |some p=>rw [hk] at hi;simpa [dp] using hi
 .have h1:x.born∈(es.modify j f).map (·.born):=JC (f:=λx:MapEntry=>x.born) hx
  rw [hb] at h1
  obtain ⟨y,hy,he⟩:=nD.1 h1
  rw [<- he]
  exact m5 y hy
theorem zs7 (m:dn h1 A kv) (hd:T.desc t=some (.map kt et)) (hs:T.desc kt=some .string)
 (hK:∀ h',dn h' A (gp kv a v)->eX A (h1.lay bs w) h'->K undef h'):iq (rz T t (.map (some A)) (.string a) v (h1.lay bs w)) K:=by
 obtain ⟨es,cl,m1,m2,m3,m4,m5⟩:=m
 have heq:=Jq (T:=T) hs
 obtain ⟨f1,f2⟩:=QZ (a:=a) heq es kv 0 m2
 have hg:(h1.lay bs w).get A=some (.map es cl):=m1.lay bs w
 have hA:A < (h1.lay bs w).size:=(m1.on bs w).lt
 unfold rz
 simp only [hd,hg,TC a heq,if_true]
 cases hl:dq kv a with
 |none =>
  rw [f1 hl]
  simp only [dX]
  exact hK _ (dn.put hA m2 m3 m4 m5 hl) (yY hA)
 |some n =>
  obtain ⟨j,e,hj,g2,g3,g4,g5,g6⟩:=f2 n hl
  rw [hj]
  simp only [dX,j3,g2,g3,zgm,if_true]
  exact hK _ (dn.turn (λ_=>⟨rfl,rfl,rfl⟩) hA m2 m3 m4 m5 hl g5 g6) (yY hA)
theorem SZ {Z β:Type} (f:Z->β):∀ (l:List Z) (i:Nat),(l.eraseIdx i).map f=(l.map f).eraseIdx i
 | [],i=>by simp
 |x::l,0=>by simp
 |x::l,i+1=>by rw [List.eraseIdx_cons_succ,lA,lA,List.eraseIdx_cons_succ,SZ f l i]
theorem zoB {kv:List (au × ah)} {a:au} {w:ah}:∀ {j:Nat},kv[j]? = some (a,w)->(∀ k p,k < j->kv[k]? = some p->a≠p.1)->(kv.map Prod.fst).Nodup->mX kv a=kv.eraseIdx j:=by
 induction kv with
 |nil=>intro j h;simp at h
 |cons p kv ih =>
  intro j hj aW hn
  rw [lA,wg] at hn
  unfold mX at ih ⊢
  cases j with
  |zero =>
   rw [Ca] at hj
   cases hj
   rw [Tk (by simp),List.eraseIdx_cons_zero,Qr]
   intro q hq
   rw [oL]
   .rfl
   .intro e
    exact hn.1 (by show a∈_;rw [e];exact JC (f:=Prod.fst) hq)
  |succ j =>
   rw [Tl (by simpa using aW 0 p (by omega) rfl),List.eraseIdx_cons_succ,ih (by simpa using hj) (λk q hk hq=>aW (k+1) q (by omega) (by simpa using hq)) hn.2]
theorem zv9 (m:dn h1 A kv) (hd:T.desc t=some (.map kt et)) (hs:T.desc kt=some .string)
 (hK:∀ h',dn h' A (mX kv a)->eX A (h1.lay bs w) h'->K undef h'):iq (Ac T t (.map (some A)) (.string a) (h1.lay bs w)) K:=by
 obtain ⟨es,cl,m1,m2,m3,m4,m5⟩:=m
 have heq:=Jq (T:=T) hs
 obtain ⟨f1,f2⟩:=QZ (a:=a) heq es kv 0 m2
 have hg:(h1.lay bs w).get A=some (.map es cl):=m1.lay bs w
 have hA:A < (h1.lay bs w).size:=(m1.on bs w).lt
 unfold Ac
 simp only [hd,hg,TC a heq,if_true]
 cases hl:dq kv a with
 |none =>
  rw [f1 hl]
  simp only [dX]
  have hdv:mX kv a=kv:=by
   unfold mX
   rw [Qr]
   intro q hq
   rw [oL]
   .rfl
   .intro e
    exact fm.1 hl (by rw [e];exact JC hq)
  refine hK _ ?_ (yY hA)
  rw [hdv]
  exact ⟨es,cl,Du hA,m2,m3,m4,m5⟩
 |some n =>
  obtain ⟨j,e,hj,g2,g3,g4,g5,g6⟩:=f2 n hl
  rw [hj]
  simp only [dX,j3]
  refine hK _ ⟨es.eraseIdx j,cl,Du hA,?_,zhm m3 a,?_,λx hx=>m5 x (List.mem_of_mem_eraseIdx hx)⟩ (yY hA)
  .rw [zoB g5 g6 m3,SZ,SZ,m2]
  .rw [SZ]
   exact List.Nodup.sublist (List.eraseIdx_sublist _ _) m4
theorem zob {es:List MapEntry}:∀ {j:Nat} {e:MapEntry} (i:Nat),(es.map (·.born)).Nodup->es[j]? = some e->JE (e.born:Int) es i=some (i+j):=by
 induction es with
 |nil=>intro j e i _ h;simp at h
 |cons x es ih =>
  intro j e i hn hj
  rw [lA,wg] at hn
  unfold JE
  cases j with
  |zero =>
   rw [Ca] at hj
   cases hj
   rw [aB rfl]
   rfl
  |succ j =>
   rw [List.getElem?_cons_succ] at hj
   have hm:e.born∈es.map (·.born):=JC (f:=λx:MapEntry=>x.born) (fW hj)
   have aS:¬ ((x.born:Int)=(e.born:Int)):=λhh=>hn.1 ((show x.born=e.born by omega) ▸ hm)
   rw [aA aS,ih (i+1) hn.2 hj,show i+1+j=i+(j+1) by omega]
theorem zqK {z:ah} (m:dn h1 A kv) (hd:T.desc t=some (.map kt et)) (hs:T.desc kt=some .string) (hz:T.zero et=some z)
 (hK:∀ h' x (s:Nat) b,Holds h' A b->eX A (h1.lay bs w) h'->(∀ (h2:Heap),Holds h2 A b->∀ v2 (K2:aI),(∀ h3,dn h3 A (gp kv a v2)->eX A h2 h3->K2 undef h3)->iq (yU (.map (some A)) (.int .i64 s) v2 h2) K2)->K (.tuple #[x,.int .i64 s]) h'):dw (DJ T t (.map (some A)) (.string a) (h1.lay bs w)) K:=by
 obtain ⟨es,cl,m1,m2,m3,m4,m5⟩:=m
 have heq:=Jq (T:=T) hs
 obtain ⟨f1,f2⟩:=QZ (a:=a) heq es kv 0 m2
 have hg:(h1.lay bs w).get A=some (.map es cl):=m1.lay bs w
 have hA:A < (h1.lay bs w).size:=(m1.on bs w).lt
 unfold DJ
 simp only [hd,hg,TC a heq,if_true]
 cases hl:dq kv a with
 |none =>
  rw [f1 hl]
  simp only [dX,hz,j2]
  have hm:=dn.put (v:=z) hA m2 m3 m4 m5 hl
  refine hK _ _ cl _ (Du hA) (yY hA) (λh2 q v2 K2 WM=>?_)
  have gw:((es++[({ key:=.string a,val:=z,born:=cl }:MapEntry)]).map (·.born)).Nodup:=by
   rw [Ar,QA]
   refine ⟨m4,by simp,λx hx y hy=>?_⟩
   obtain ⟨e,he,rfl⟩:=nD.1 hx
   simp at hy
   have:=m5 e he
   omega
  have Mj:=zob (es:=es++[({ key:=.string a,val:=z,born:=cl }:MapEntry)]) (j:=es.length) (e:={ key:=.string a,val:=z,born:=cl }) 0 gw (by simp)
  simp only [j3] at Mj
  unfold yU
  simp only [q.get,Mj,j2]
  refine WM _ ?_ (yY q.lt)
  have FJ:(es++[({ key:=.string a,val:=z,born:=cl }:MapEntry)]).modify es.length (λe=>{ e with val:=v2 })=es++[{ key:=.string a,val:=v2,born:=cl }]:=by
   refine sq λi=>?_
   rw [Cb,zh,zh]
   by_cases hi:i < es.length
   .rw [aB hi,aB hi]
    have aS:¬ es.length=i:=by omega
    cases es[i]? <;> simp [aS]
   .rw [aA hi,aA hi]
    by_cases Bc:es.length=i
    .subst Bc;simp
    .cases hq:i - es.length with
     |zero=>omega
     |succ q=>simp [Bc]
  rw [FJ]
  exact dn.put q.lt m2 m3 m4 m5 hl
 |some n =>
  obtain ⟨j,e,hj,g2,g3,g4,g5,g6⟩:=f2 n hl
  rw [hj]
  simp only [dX,j3,g2,g3,zgm,if_true]
  have hid:es.modify j (λe=>{ e with key:=.string a })=es:=by
   refine sq λi=>?_
   rw [Cb]
   by_cases dp:j=i
   .subst dp
    rw [g2]
    simp [<- g3]
   .cases es[i]? <;> simp [dp]
  rw [hid]
  refine hK _ _ e.born _ (Du hA) (yY hA) (λh2 q v2 K2 WM=>?_)
  have Mj:=zob 0 m4 g2
  simp only [j3] at Mj
  unfold yU
  simp only [q.get,Mj,j2]
  refine WM _ ?_ (yY q.lt)
  obtain ⟨LF,rfl⟩:∃ LF:List MapEntry,LF=es:=⟨_,rfl⟩
  have C4:gp kv a v2=kv.modify j (λp=>(a,v2)):=by unfold gp;rw [hl];exact zlO g5 g6 m3
  have Xr:LF.modify j (λe=>{ e with val:=v2 })=LF.modify j (λe=>{ e with key:=.string a,val:=v2 }):=by
   refine sq λi=>?_
   simp only [Cb]
   by_cases dp:j=i
   .subst dp
    rw [g2]
    simp [g3]
   .cases LF[i]? <;> simp [dp]
  rw [Xr]
  exact dn.turn (λ_=>⟨rfl,rfl,rfl⟩) q.lt m2 m3 m4 m5 hl g5 g6
end
end Go.Am
