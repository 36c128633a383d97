/- Walks: interfaces, entries of maps. No condition. -/
import Derived.Test.YtiapegieocgmfaaGreatDoorG22
set_option linter.unusedSimpArgs false
set_option linter.unusedVariables false
namespace Go.Am
variable {H:Heap}
section
variable {P:Program} {T:bI} {ov:Ov} {d:Option Tmp} {ty:TypeId} {pos:String} {af:Array Edge} {g:Option (Nat × Bool)} {e:Env} {h:Heap} {K:aF}
theorem zdN (t:TypeId) (x:Operand):cS P T ov ⟨d,.makeInterface t x,ty,pos,af,g⟩ e h K=aC (JS T t (bt e x)) h K:=by rw [<- xf];rfl
theorem zh9 (x:Operand) (it t:TypeId) (ok:Bool):cS P T ov ⟨d,.typeAssert x it t ok,ty,pos,af,g⟩ e h K=aC (Qz T (bt e x) t ok) h K:=by rw [<- xf];rfl
theorem zvb (t:TypeId) (m k:Operand):cS P T ov ⟨d,.mapEntry t m k,ty,pos,af,g⟩ e h K=dD (Em T t (bt e m) (bt e k) h) K:=rfl
theorem zpV (t:TypeId) (m s x:Operand):cS P T ov ⟨d,.entryStore t m s x,ty,pos,af,g⟩ e h K=iv (zr (bt e m) (bt e s) (bt e x) h) K:=by
 show dD ((zr (bt e m) (bt e s) (bt e x) h).map λh'=>(undef,h')) K=_
 cases zr (bt e m) (bt e s) (bt e x) h <;> rfl
theorem zzP (t u:TypeId) (m k:Operand):cS P T ov ⟨d,.call ⟨.builtin .delete,#[m,k],#[t,u]⟩,ty,pos,af,g⟩ e h K=iv (AA T t (bt e m) (bt e k) h) K:=by
 show dD ((AA T t (bt e m) (bt e k) h).map λh'=>(undef,h')) K=_
 cases AA T t (bt e m) (bt e k) h <;> rfl
def GQ (P:Program) (T:bI) (ov:Ov) (r:ab) (name:String) (args:List ab) (h:Heap) (K:aF):Prop:=match r with
 | .iface t x=>(match xh T t x name h with
  |some (f,y)=>Ok P T ov f (y::args) h K
  |none=>False)
 |_=>False
theorem uA (r:Operand) (name:String) (args:List Operand) (ats:Array TypeId):cS P T ov ⟨d,.call ⟨.invoke r name,⟨args⟩,ats⟩,ty,pos,af,g⟩ e h K=GQ P T ov (bt e r) name (AL e args) h K:=by
 rw [<- Qw]
 show (match bt e r with
  | .iface t x=>(match xh T t x name h with
   |some (f,y)=>Ok P T ov f (y::args.map (bt e)) h K
   |none=>False)
  |_=>False)=_
 cases bt e r <;> rfl
theorem uH {t:TypeId} {x y:ab} {name:String} {args:List ab} {f:FuncId} (hm:xh T t x name h=some (f,y)) (hk:Ok P T ov f (y::args) h K):GQ P T ov (.iface t x) name args h K:=by
 unfold GQ
 simp only [hm]
 exact hk
end
def dq (h:Heap) (A:Nat) (kv:List (au × ab)):Prop:=∃ es clock,Holds h A (.map es clock)/\es.map (λx:MapEntry=>(x.key,x.val))=kv.map (λp=>(Value.string p.1,p.2))/\(kv.map Prod.fst).Nodup/\(es.map (·.born)).Nodup/\∀ x∈es,x.born < clock
def dE (kv:List (au × ab)) (a:au):Option ab:=(kv.find? (λp=>decide (a=p.1))).map (·.2)
def fZ (kv:List (au × ab)) (a:au) (v:ab):List (au × ab):=if (dE kv a).isSome then kv.map (λp=>if a=p.1 then (a,v) else p) else kv++[(a,v)]
def nt (kv:List (au × ab)) (a:au):List (au × ab):=kv.filter (λp => !decide (a=p.1))
theorem zoU (a:au):dE [] a=none:=rfl
theorem vW (p:au × ab) (kv:List (au × ab)) (a:au):dE (p::kv) a=if a=p.1 then some p.2 else dE kv a:=by
 unfold dE
 by_cases h:a=p.1
 .rw [List.find?_cons_of_pos (by simpa using h),aE h];rfl
 .rw [List.find?_cons_of_neg (by simpa using h),az h]
theorem iO {kv:List (au × ab)} {a:au}:dE kv a=none↔a ∉ kv.map Prod.fst:=by
 induction kv with
 |nil=>simp [dE]
 |cons p kv ih =>
  rw [vW]
  by_cases h:a=p.1
  .simp [h]
  .rw [az h,ih]
   simp [h]
theorem zoT (kv kw:List (au × ab)) (a:au):dE (kv++kw) a=(dE kv a).or (dE kw a):=by
 induction kv with
 |nil=>rw [pE,zoU];rfl
 |cons p kv ih =>
  rw [xz,vW,vW,ih]
  split <;> rfl
theorem Hu (kv:List (au × ab)) (a b:au) (v:ab):dE (fZ kv a v) b=if b=a then some v else dE kv b:=by
 unfold fZ
 split
 .rename_i hs
  have key:∀ l:List (au × ab),dE (l.map (λp=>if a=p.1 then (a,v) else p)) b=if b=a then (dE l a).map (λ_=>v) else dE l b:=by
   intro l
   induction l with
   |nil=>simp [dE]
   |cons p l ih =>
    rw [lD,vW,ih,vW,vW]
    by_cases h1:a=p.1
    .rw [aE h1,aE h1]
     by_cases h2:b=a
     .rw [aE h2,aE (by exact h2)];rfl
     .rw [az h2,az (by exact h2),az h2,az (by rw [<- h1];exact h2)]
    .rw [az h1,az h1]
     by_cases h2:b=a
     .rw [aE h2,aE h2,az (by rw [h2];exact h1)]
     .rw [az h2,az h2]
  rw [key]
  split
  .cases hl:dE kv a with
   |none=>rw [hl] at hs;cases hs
   |some w=>rfl
  .rfl
 .rename_i hs
  rw [zoT,vW,zoU]
  have hn:dE kv a=none:=by
   cases hl:dE kv a with
   |none=>rfl
   |some w=>rw [hl] at hs;exact absurd rfl hs
  by_cases h2:b=a
  .rw [aE h2,h2,hn,aE rfl];rfl
  .rw [az h2,az h2]
   cases dE kv b <;> rfl
theorem zpA (kv:List (au × ab)) (a:au) (v:ab):(fZ kv a v).map Prod.fst=if (dE kv a).isSome then kv.map Prod.fst else kv.map Prod.fst++[a]:=by
 unfold fZ
 split
 .rw [CR]
  congr 1
  funext p
  simp only [Function.comp]
  split
  .rename_i h;exact h
  .rfl
 .rw [zL];rfl
theorem Ti {kv:List (au × ab)} (hn:(kv.map Prod.fst).Nodup) (a:au) (v:ab):((fZ kv a v).map Prod.fst).Nodup:=by
 rw [zpA]
 split
 .exact hn
 .rename_i hs
  rw [Q1]
  refine ⟨hn,by simp,λx hx y hy=>?_⟩
  rw [hU] at hy
  subst hy
  intro e
  subst e
  have:dE kv x=none:=by
   cases hl:dE kv x with
   |none=>rfl
   |some w=>rw [hl] at hs;exact absurd rfl hs
  exact iO.1 this hx
theorem zjk (kv:List (au × ab)) (a b:au):dE (nt kv a) b=if b=a then none else dE kv b:=by
 unfold nt
 induction kv with
 |nil=>simp [dE]
 |cons p kv ih =>
  by_cases h1:a=p.1
  .rw [TB (by simpa using h1),ih,vW]
   split
   .rfl
   .rw [az (by rw [<- h1];assumption)]
  .rw [TC (by simpa using h1),vW,ih,vW]
   by_cases h2:b=a
   .rw [aE h2,aE h2,az (by rw [h2];exact h1)]
   .rw [az h2,az h2]
theorem zho {kv:List (au × ab)} (hn:(kv.map Prod.fst).Nodup) (a:au):((nt kv a).map Prod.fst).Nodup:=List.Nodup.sublist (List.Sublist.map _ JE) hn
theorem JM {T:bI} {kt:TypeId} (hd:T.desc kt=some .string) (x y:au):fF T 20 kt (.string x) (.string y)=some (decide (x=y)):=by
 unfold fF
 simp only [hd]
 congr 1
 rw [Bool.eq_iff_iff,decide_eq_true_iff,beq_iff_eq]
 exact ⟨λh=>ByteArray.ext (AQ.1 h),λh=>by rw [h]⟩
theorem Rk {T:bI} {kt:TypeId} {a:au} (heq:∀ x y:au,fF T 20 kt (.string x) (.string y)=some (decide (x=y))):∀ (es:List MapEntry) (kv:List (au × ab)) (i:Nat),es.map (λx:MapEntry=>(x.key,x.val))=kv.map (λp=>(Value.string p.1,p.2)) ->
 (dE kv a=none->qJ T kt (.string a) es i=some none)/\∀ v,dE kv a=some v->∃ (j:Nat) (e:MapEntry),qJ T kt (.string a) es i=some (some (i+j,v))/\es[j]? = some e/\e.key=.string a/\e.val=v/\kv[j]? = some (a,v)/\∀ k p,k < j->kv[k]? = some p->a≠p.1
 | [],kv,i,hk=>by
  cases kv with
  |nil=>exact ⟨λ_=>rfl,λn h=>by simp [dE] at h⟩
  |cons k kv=>simp at hk
 |e::es,kv,i,hk=>by
  cases kv with
  |nil=>simp at hk
  |cons k kv =>
   simp only [lD,List.cons.injEq,cV] at hk
   obtain ⟨h1,h2⟩:=Rk heq es kv (i+1) hk.2
   unfold qJ
   rw [hk.1.1,heq,vW]
   by_cases hx:a=k.1
   .rw [uN hx,aE hx]
    refine ⟨(λh=>by cases h),λv hv=>?_⟩
    cases hv
    refine ⟨0,e,by simp [hk.1.2],rfl,by rw [hk.1.1,hx],hk.1.2,by rw [hx];rfl,λk kB=>by omega⟩
   .rw [tM hx,az hx]
    simp only [dM,gM,if_false]
    refine ⟨h1,λv hv=>?_⟩
    obtain ⟨j,e',g1,g2,g3,g4,g5,g6⟩:=h2 v hv
    refine ⟨j+1,e',?_,by simpa using g2,g3,g4,by simpa using g5,λq p hq hp=>?_⟩
    .rw [g1,show i+1+j=i+(j+1) by omega]
    .cases q with
     |zero=>rw [AK] at hp;cases hp;exact hx
     |succ q=>exact g6 q p (by omega) (by simpa using hp)
theorem TS {T:bI} {kt:TypeId} (a:au) (heq:∀ x y:au,fF T 20 kt (.string x) (.string y)=some (decide (x=y))):wk T kt (.string a)=true:=by
 unfold wk
 rw [show plain (.string a)=true from rfl,heq]
 simp
theorem zlx {kv:List (au × ab)} {a:au} {v w:ab}:∀ {j:Nat},kv[j]? = some (a,w)->(∀ k p,k < j->kv[k]? = some p->a≠p.1)->(kv.map Prod.fst).Nodup->kv.map (λp=>if a=p.1 then (a,v) else p)=kv.modify j (λp=>(a,v)):=by
 induction kv with
 |nil=>intro j h;simp at h
 |cons p kv ih =>
  intro j hj aT hn
  rw [lD,tN] at hn
  cases j with
  |zero =>
   rw [AK] at hj
   cases hj
   rw [lD,aE rfl,List.modify_zero_cons]
   congr 1
   rw [QQ (g:=id),List.map_id]
   intro q hq
   rw [az]
   .rfl
   .intro e
    exact hn.1 (by show a∈_;rw [e];exact QS (f:=Prod.fst) hq)
  |succ j =>
   rw [lD,az (aT 0 p (by omega) rfl),List.modify_succ_cons,ih (by simpa using hj) (λk q hk hq=>aT (k+1) q (by omega) (by simpa using hq)) hn.2]
section
variable {T:bI} {t kt et:TypeId} {A:Nat} {kv:List (au × ab)} {a:au} {v:ab} {h h1 h2:Heap} {bs:List ba} {w:Nat} {K:aF}
theorem dq.nodup (m:dq h A kv):(kv.map Prod.fst).Nodup:=by obtain ⟨es,cl,m1,m2,m3,m4⟩:=m;exact m3
theorem dq.lt (m:dq h A kv):A < h.size:=by obtain ⟨es,cl,m1,m2⟩:=m;exact m1.lt
theorem dq.hold (m:dq h A kv) (hO:∀ b,Holds h A b->Holds H A b):dq H A kv:=by
 obtain ⟨es,cl,m1,m2⟩:=m
 exact ⟨es,cl,hO _ m1,m2⟩
theorem dq.over (m:dq h1 A kv) (x:Ext (h1.lay bs w) h2):dq h2 A kv:=m.hold λb q=>q.over x
theorem dq.lay (m:dq h1 A kv) (bs:List ba) (w:Nat):dq (h1.lay bs w) A kv:=m.hold λb q=>q.on bs w
theorem dq.new (q:Holds h A (.map [] 0)):dq h A []:=⟨[],0,q,rfl,by simp,by simp,λ_ hx=>by simp at hx⟩
theorem dq.br (m:dq h1 A kv) {B:Nat} (c:eG B (h1.lay bs w) h2) (aQ:A≠B):dq h2 A kv:=m.hold λb q=>q.br c aQ
theorem Qa {ok:Bool} {z:ab} (m:dq h1 A kv) (hd:T.desc t=some (.map kt et)) (hs:T.desc kt=some .string) (hz:T.zero et=some z)
 (hK:K (if ok then .tuple #[(dE kv a).getD z,.bool (dE kv a).isSome] else (dE kv a).getD z) (h1.lay bs w)):aC (Cs T t (.map (some A)) (.string a) ok (h1.lay bs w)) (h1.lay bs w) K:=by
 obtain ⟨es,cl,m1,m2,m3⟩:=m
 have heq:=JM (T:=T) hs
 obtain ⟨f1,f2⟩:=Rk (a:=a) heq es kv 0 m2
 have hg:(h1.lay bs w).get A=some (.map es cl):=m1.lay bs w
 unfold Cs
 simp only [hd,TS a heq,if_true,Rw,hg,dM]
 cases hl:dE kv a with
 |none =>
  rw [hl] at hK
  rw [f1 hl]
  simp only [hz,dM,jn]
  exact hK
 |some n =>
  rw [hl] at hK
  obtain ⟨j,e,hj,_⟩:=f2 n hl
  rw [hj]
  simp only [dM,jn]
  exact hK
theorem Zb (m:dq h1 A kv) (hd:T.desc t=some (.map kt et)):bo T t (.map (some A)) (h1.lay bs w)=some (.int .i64 kv.length):=by
 obtain ⟨es,cl,m1,m2,m3⟩:=m
 have hg:(h1.lay bs w).get A=some (.map es cl):=m1.lay bs w
 have hl:es.length=kv.length:=by have:=congrArg List.length m2;simpa using this
 unfold bo
 simp only [hd,hg,hl]
theorem zu {b:ba} (hA:A < H.size):eG A H (H.set A b):=⟨by rw [Heap.size_set];exact bj _,λB hB aQ=>by rw [Heap.aJ _ _ _ _ hA,az aQ],by rw [Heap.bQ];omega⟩
theorem D3 {b:ba} (hA:A < H.size):Holds (H.set A b) A b:=⟨by rw [Heap.size_set];exact hA,by rw [Heap.aJ _ _ _ _ hA,aE rfl]⟩
theorem zgn (a:au):HH (.string a) (.string a)=true:=by unfold HH Ib;simp
theorem dq.put {es:List MapEntry} {cl:Nat} (hA:A < H.size) (m2:es.map (λx:MapEntry=>(x.key,x.val))=kv.map (λp=>(Value.string p.1,p.2))) (m3:(kv.map Prod.fst).Nodup) (m4:(es.map (·.born)).Nodup) (m5:∀ x∈es,x.born < cl) (hl:dE kv a=none) :
 dq (H.set A (.map (es++[{ key:=.string a,val:=v,born:=cl }]) (cl+1))) A (fZ kv a v):=by
 have DH:fZ kv a v=kv++[(a,v)]:=by unfold fZ;rw [hl];rfl
 refine ⟨_,_,D3 hA,?_,Ti m3 a v,?_,λx hx=>?_⟩
 .rw [DH,zL,zL,m2];rfl
 .rw [zL,Q1]
  refine ⟨m4,by simp,λx hx y hy=>?_⟩
  obtain ⟨e,he,rfl⟩:=oY.1 hx
  simp at hy
  have:=m5 e he
  omega
 .rcases mj.1 hx with hx|hx
  .have:=m5 x hx;omega
  .rw [hU.1 hx];exact wt _
theorem dq.turn {es:List MapEntry} {cl j:Nat} {w:ab} {f:MapEntry->MapEntry} (hf:∀ e,(f e).key=.string a/\(f e).val=v/\(f e).born=e.born) (hA:A < H.size) (m2:es.map (λx:MapEntry=>(x.key,x.val))=kv.map (λp=>(Value.string p.1,p.2))) (m3:(kv.map Prod.fst).Nodup) (m4:(es.map (·.born)).Nodup) (m5:∀ x∈es,x.born < cl) (hl:dE kv a=some w)
 (g5:kv[j]? = some (a,w)) (g6:∀ k p,k < j->kv[k]? = some p->a≠p.1):dq (H.set A (.map (es.modify j f) cl)) A (fZ kv a v):=by
 have DH:fZ kv a v=kv.modify j (λp=>(a,v)):=by unfold fZ;rw [hl];exact zlx g5 g6 m3
 have hb:(es.modify j f).map (·.born)=es.map (·.born):=by
  refine qN λi=>?_
  simp only [lC,CG]
  cases es[i]? with
  |none=>rfl
  |some y=>by_cases dK:j=i <;> simp [dK,(hf y).2.2]
 refine ⟨_,_,D3 hA,?_,Ti m3 a v,by rw [hb];exact m4,λx hx=>?_⟩
 .rw [DH]
  refine qN λi=>?_
  have hi:=congrArg (λl=>l[i]?) m2
  simp only [lC] at hi
  simp only [lC,CG]
  by_cases dK:j=i
  .subst dK
   rw [g5] at hi ⊢
   cases he:es[j]? with
   |none=>rw [he] at hi;simp at hi
   |some y=>simp [(hf y).1,(hf y).2.1]
  .cases he:es[i]? with
   |none =>
    rw [he] at hi
    cases hk:kv[i]? with
    |none=>rfl
    |some p=>rw [hk] at hi;simp at hi
   |some y =>
    rw [he] at hi
    cases hk:kv[i]? with
    |none=>rw [hk] at hi;simp at hi
    |some p=>rw [hk] at hi;simpa [dK] using hi
 .have h1:x.born∈(es.modify j f).map (·.born):=QS (f:=λx:MapEntry=>x.born) hx
  rw [hb] at h1
  obtain ⟨y,hy,he⟩:=oY.1 h1
  rw [<- he]
  exact m5 y hy
theorem zs1 (m:dq h1 A kv) (hd:T.desc t=some (.map kt et)) (hs:T.desc kt=some .string)
 (hK:∀ h',dq h' A (fZ kv a v)->eG A (h1.lay bs w) h'->K undef h'):iv (rO T t (.map (some A)) (.string a) v (h1.lay bs w)) K:=by
 obtain ⟨es,cl,m1,m2,m3,m4,m5⟩:=m
 have heq:=JM (T:=T) hs
 obtain ⟨f1,f2⟩:=Rk (a:=a) heq es kv 0 m2
 have hg:(h1.lay bs w).get A=some (.map es cl):=m1.lay bs w
 have hA:A < (h1.lay bs w).size:=(m1.on bs w).lt
 unfold rO
 simp only [hd,hg,TS a heq,if_true]
 cases hl:dE kv a with
 |none =>
  rw [f1 hl]
  simp only [dM]
  exact hK _ (dq.put hA m2 m3 m4 m5 hl) (zu hA)
 |some n =>
  obtain ⟨j,e,hj,g2,g3,g4,g5,g6⟩:=f2 n hl
  rw [hj]
  simp only [dM,jo,g2,g3,zgn,if_true]
  exact hK _ (dq.turn (λ_=>⟨rfl,rfl,rfl⟩) hA m2 m3 m4 m5 hl g5 g6) (zu hA)
theorem To {Z β:Type} (f:Z->β):∀ (l:List Z) (i:Nat),(l.eraseIdx i).map f=(l.map f).eraseIdx i
 | [],i=>by simp
 |x::l,0=>by simp
 |x::l,i+1=>by rw [List.eraseIdx_cons_succ,lD,lD,List.eraseIdx_cons_succ,To f l i]
theorem zow {kv:List (au × ab)} {a:au} {w:ab}:∀ {j:Nat},kv[j]? = some (a,w)->(∀ k p,k < j->kv[k]? = some p->a≠p.1)->(kv.map Prod.fst).Nodup->nt kv a=kv.eraseIdx j:=by
 induction kv with
 |nil=>intro j h;simp at h
 |cons p kv ih =>
  intro j hj aT hn
  rw [lD,tN] at hn
  unfold nt at ih ⊢
  cases j with
  |zero =>
   rw [AK] at hj
   cases hj
   rw [TB (by simp),List.eraseIdx_cons_zero,QP]
   intro q hq
   rw [tM]
   .rfl
   .intro e
    exact hn.1 (by show a∈_;rw [e];exact QS (f:=Prod.fst) hq)
  |succ j =>
   rw [TC (by simpa using aT 0 p (by omega) rfl),List.eraseIdx_cons_succ,ih (by simpa using hj) (λk q hk hq=>aT (k+1) q (by omega) (by simpa using hq)) hn.2]
theorem zvU (m:dq h1 A kv) (hd:T.desc t=some (.map kt et)) (hs:T.desc kt=some .string)
 (hK:∀ h',dq h' A (nt kv a)->eG A (h1.lay bs w) h'->K undef h'):iv (AA T t (.map (some A)) (.string a) (h1.lay bs w)) K:=by
 obtain ⟨es,cl,m1,m2,m3,m4,m5⟩:=m
 have heq:=JM (T:=T) hs
 obtain ⟨f1,f2⟩:=Rk (a:=a) heq es kv 0 m2
 have hg:(h1.lay bs w).get A=some (.map es cl):=m1.lay bs w
 have hA:A < (h1.lay bs w).size:=(m1.on bs w).lt
 unfold AA
 simp only [hd,hg,TS a heq,if_true]
 cases hl:dE kv a with
 |none =>
  rw [f1 hl]
  simp only [dM]
  have hdv:nt kv a=kv:=by
   unfold nt
   rw [QP]
   intro q hq
   rw [tM]
   .rfl
   .intro e
    exact iO.1 hl (by rw [e];exact QS hq)
  refine hK _ ?_ (zu hA)
  rw [hdv]
  exact ⟨es,cl,D3 hA,m2,m3,m4,m5⟩
 |some n =>
  obtain ⟨j,e,hj,g2,g3,g4,g5,g6⟩:=f2 n hl
  rw [hj]
  simp only [dM,jo]
  refine hK _ ⟨es.eraseIdx j,cl,D3 hA,?_,zho m3 a,?_,λx hx=>m5 x (List.mem_of_mem_eraseIdx hx)⟩ (zu hA)
  .rw [zow g5 g6 m3,To,To,m2]
  .rw [To]
   exact List.Nodup.sublist (List.eraseIdx_sublist _ _) m4
theorem zn5 {es:List MapEntry}:∀ {j:Nat} {e:MapEntry} (i:Nat),(es.map (·.born)).Nodup->es[j]? = some e->JH (e.born:Int) es i=some (i+j):=by
 induction es with
 |nil=>intro j e i _ h;simp at h
 |cons x es ih =>
  intro j e i hn hj
  rw [lD,tN] at hn
  unfold JH
  cases j with
  |zero =>
   rw [AK] at hj
   cases hj
   rw [aE rfl]
   rfl
  |succ j =>
   rw [List.getElem?_cons_succ] at hj
   have hm:e.born∈es.map (·.born):=QS (f:=λx:MapEntry=>x.born) (ic hj)
   have aQ:¬ ((x.born:Int)=(e.born:Int)):=λhh=>hn.1 ((show x.born=e.born by omega) ▸ hm)
   rw [az aQ,ih (i+1) hn.2 hj,show i+1+j=i+(j+1) by omega]
theorem zqJ {z:ab} (m:dq h1 A kv) (hd:T.desc t=some (.map kt et)) (hs:T.desc kt=some .string) (hz:T.zero et=some z)
 (hK:∀ h' x (s:Nat) b,Holds h' A b->eG A (h1.lay bs w) h'->(∀ (h2:Heap),Holds h2 A b->∀ v2 (K2:aF),(∀ h3,dq h3 A (fZ kv a v2)->eG A h2 h3->K2 undef h3)->iv (zr (.map (some A)) (.int .i64 s) v2 h2) K2)->K (.tuple #[x,.int .i64 s]) h'):dD (Em T t (.map (some A)) (.string a) (h1.lay bs w)) K:=by
 obtain ⟨es,cl,m1,m2,m3,m4,m5⟩:=m
 have heq:=JM (T:=T) hs
 obtain ⟨f1,f2⟩:=Rk (a:=a) heq es kv 0 m2
 have hg:(h1.lay bs w).get A=some (.map es cl):=m1.lay bs w
 have hA:A < (h1.lay bs w).size:=(m1.on bs w).lt
 unfold Em
 simp only [hd,hg,TS a heq,if_true]
 cases hl:dE kv a with
 |none =>
  rw [f1 hl]
  simp only [dM,hz,jn]
  have hm:=dq.put (v:=z) hA m2 m3 m4 m5 hl
  refine hK _ _ cl _ (D3 hA) (zu hA) (λh2 q v2 K2 WY=>?_)
  have iG:((es++[({ key:=.string a,val:=z,born:=cl }:MapEntry)]).map (·.born)).Nodup:=by
   rw [zL,Q1]
   refine ⟨m4,by simp,λx hx y hy=>?_⟩
   obtain ⟨e,he,rfl⟩:=oY.1 hx
   simp at hy
   have:=m5 e he
   omega
  have MC:=zn5 (es:=es++[({ key:=.string a,val:=z,born:=cl }:MapEntry)]) (j:=es.length) (e:={ key:=.string a,val:=z,born:=cl }) 0 iG (by simp)
  simp only [jo] at MC
  unfold zr
  simp only [q.get,MC,jn]
  refine WY _ ?_ (zu q.lt)
  have yF:(es++[({ key:=.string a,val:=z,born:=cl }:MapEntry)]).modify es.length (λe=>{ e with val:=v2 })=es++[{ key:=.string a,val:=v2,born:=cl }]:=by
   refine qN λi=>?_
   rw [CG,xw,xw]
   by_cases hi:i < es.length
   .rw [aE hi,aE hi]
    have aQ:¬ es.length=i:=by omega
    cases es[i]? <;> simp [aQ]
   .rw [az hi,az hi]
    by_cases wL:es.length=i
    .subst wL;simp
    .cases hq:i - es.length with
     |zero=>omega
     |succ q=>simp [wL]
  rw [yF]
  exact dq.put q.lt m2 m3 m4 m5 hl
 |some n =>
  obtain ⟨j,e,hj,g2,g3,g4,g5,g6⟩:=f2 n hl
  rw [hj]
  simp only [dM,jo,g2,g3,zgn,if_true]
  have hid:es.modify j (λe=>{ e with key:=.string a })=es:=by
   refine qN λi=>?_
   rw [CG]
   by_cases dK:j=i
   .subst dK
    rw [g2]
    simp [<- g3]
   .cases es[i]? <;> simp [dK]
  rw [hid]
  refine hK _ _ e.born _ (D3 hA) (zu hA) (λh2 q v2 K2 WY=>?_)
  have MC:=zn5 0 m4 g2
  simp only [jo] at MC
  unfold zr
  simp only [q.get,MC,jn]
  refine WY _ ?_ (zu q.lt)
  obtain ⟨LZ,rfl⟩:∃ LZ:List MapEntry,LZ=es:=⟨_,rfl⟩
  have DH:fZ kv a v2=kv.modify j (λp=>(a,v2)):=by unfold fZ;rw [hl];exact zlx g5 g6 m3
  have XC:LZ.modify j (λe=>{ e with val:=v2 })=LZ.modify j (λe=>{ e with key:=.string a,val:=v2 }):=by
   refine qN λi=>?_
   simp only [CG]
   by_cases dK:j=i
   .subst dK
    rw [g2]
    simp [g3]
   .cases LZ[i]? <;> simp [dK]
  rw [XC]
  exact dq.turn (λ_=>⟨rfl,rfl,rfl⟩) q.lt m2 m3 m4 m5 hl g5 g6
end
end Go.Am
