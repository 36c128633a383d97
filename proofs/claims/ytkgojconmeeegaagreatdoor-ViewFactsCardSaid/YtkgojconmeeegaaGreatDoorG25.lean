/- Walks: interfaces, entries of maps. No condition. -/
import Derived.Test.YtkgojconmeeegaaGreatDoorG24
set_option linter.unusedSimpArgs false
set_option linter.unusedVariables false
namespace Go.Am
variable {H:Heap}
section
variable {P:Program} {T:bL} {ov:Ov} {d:Option Tmp} {ty:TypeId} {pos:String} {af:Array Edge} {g:Option (Nat × Bool)} {e:Env} {h:Heap} {K:aG}
theorem zec (t:TypeId) (x:Operand):cy P T ov ⟨d,.makeInterface t x,ty,pos,af,g⟩ e h K=aD (JL T t (bz e x)) h K:=by rw [<- wV];rfl
theorem ziz (x:Operand) (it t:TypeId) (ok:Bool):cy P T ov ⟨d,.typeAssert x it t ok,ty,pos,af,g⟩ e h K=aD (RL T (bz e x) t ok) h K:=by rw [<- wV];rfl
theorem zwb (t:TypeId) (m k:Operand):cy P T ov ⟨d,.mapEntry t m k,ty,pos,af,g⟩ e h K=dx (EH T t (bz e m) (bz e k) h) K:=rfl
theorem zqx (t:TypeId) (m s x:Operand):cy P T ov ⟨d,.entryStore t m s x,ty,pos,af,g⟩ e h K=iH (zm (bz e m) (bz e s) (bz e x) h) K:=by
 show dx ((zm (bz e m) (bz e s) (bz e x) h).map λh'=>(undef,h')) K=_
 cases zm (bz e m) (bz e s) (bz e x) h <;> rfl
theorem zBg (t u:TypeId) (m k:Operand):cy P T ov ⟨d,.call ⟨.builtin .delete,#[m,k],#[t,u]⟩,ty,pos,af,g⟩ e h K=iH (AA T t (bz e m) (bz e k) h) K:=by
 show dx ((AA T t (bz e m) (bz e k) h).map λh'=>(undef,h')) K=_
 cases AA T t (bz e m) (bz e k) h <;> rfl
def G3 (P:Program) (T:bL) (ov:Ov) (r:ae) (name:String) (args:List ae) (h:Heap) (K:aG):Prop:=match r with
 | .iface t x=>(match wX T t x name h with
  |some (f,y)=>Ok P T ov f (y::args) h K
  |none=>False)
 |_=>False
theorem uL (r:Operand) (name:String) (args:List Operand) (iy:Array TypeId):cy P T ov ⟨d,.call ⟨.invoke r name,⟨args⟩,iy⟩,ty,pos,af,g⟩ e h K=G3 P T ov (bz e r) name (AK e args) h K:=by
 rw [<- Rz]
 show (match bz e r with
  | .iface t x=>(match wX T t x name h with
   |some (f,y)=>Ok P T ov f (y::args.map (bz e)) h K
   |none=>False)
  |_=>False)=_
 cases bz e r <;> rfl
theorem uS {t:TypeId} {x y:ae} {name:String} {args:List ae} {f:FuncId} (hm:wX T t x name h=some (f,y)) (hk:Ok P T ov f (y::args) h K):G3 P T ov (.iface t x) name args h K:=by
 unfold G3
 simp only [hm]
 exact hk
end
def dI (h:Heap) (A:Nat) (kv:List (aB × ae)):Prop:=∃ es clock,Holds h A (.map es clock)/\es.map (λx:MapEntry=>(x.key,x.val))=kv.map (λp=>(Value.string p.1,p.2))/\(kv.map Prod.fst).Nodup/\(es.map (·.born)).Nodup/\∀ x∈es,x.born < clock
def dV (kv:List (aB × ae)) (a:aB):Option ae:=(kv.find? (λp=>decide (a=p.1))).map (·.2)
def gz (kv:List (aB × ae)) (a:aB) (v:ae):List (aB × ae):=if (dV kv a).isSome then kv.map (λp=>if a=p.1 then (a,v) else p) else kv++[(a,v)]
def nh (kv:List (aB × ae)) (a:aB):List (aB × ae):=kv.filter (λp => !decide (a=p.1))
theorem zpn (a:aB):dV [] a=none:=rfl
theorem zi (p:aB × ae) (kv:List (aB × ae)) (a:aB):dV (p::kv) a=if a=p.1 then some p.2 else dV kv a:=by
 unfold dV
 by_cases h:a=p.1
 .rw [List.find?_cons_of_pos (by simpa using h),aE h];rfl
 .rw [List.find?_cons_of_neg (by simpa using h),az h]
theorem iG {kv:List (aB × ae)} {a:aB}:dV kv a=none↔a ∉ kv.map Prod.fst:=by
 induction kv with
 |nil=>simp [dV]
 |cons p kv ih =>
  rw [zi]
  by_cases h:a=p.1
  .simp [h]
  .rw [az h,ih]
   simp [h]
theorem zpm (kv kw:List (aB × ae)) (a:aB):dV (kv++kw) a=(dV kv a).or (dV kw a):=by
 induction kv with
 |nil=>rw [qu,zpn];rfl
 |cons p kv ih =>
  rw [wt,zi,zi,ih]
  split <;> rfl
theorem Rm (kv:List (aB × ae)) (a b:aB) (v:ae):dV (gz kv a v) b=if b=a then some v else dV kv b:=by
 unfold gz
 split
 .rename_i hs
  have key:∀ l:List (aB × ae),dV (l.map (λp=>if a=p.1 then (a,v) else p)) b=if b=a then (dV l a).map (λ_=>v) else dV l b:=by
   intro l
   induction l with
   |nil=>simp [dV]
   |cons p l ih =>
    rw [mZ,zi,ih,zi,zi]
    by_cases h1:a=p.1
    .rw [aE h1,aE h1]
     by_cases h2:b=a
     .rw [aE h2,aE (by exact h2)];rfl
     .rw [az h2,az (by exact h2),az h2,az (by rw [<- h1];exact h2)]
    .rw [az h1,az h1]
     by_cases h2:b=a
     .rw [aE h2,aE h2,az (by rw [h2];exact h1)]
     .rw [az h2,az h2]
  rw [key]
  split
  .cases hl:dV kv a with
   |none=>rw [hl] at hs;cases hs
   |some w=>rfl
  .rfl
 .rename_i hs
  rw [zpm,zi,zpn]
  have hn:dV kv a=none:=by
   cases hl:dV kv a with
   |none=>rfl
   |some w=>rw [hl] at hs;exact absurd rfl hs
  by_cases h2:b=a
  .rw [aE h2,h2,hn,aE rfl];rfl
  .rw [az h2,az h2]
   cases dV kv b <;> rfl
theorem zp9 (kv:List (aB × ae)) (a:aB) (v:ae):(gz kv a v).map Prod.fst=if (dV kv a).isSome then kv.map Prod.fst else kv.map Prod.fst++[a]:=by
 unfold gz
 split
 .rw [Ij]
  congr 1
  funext p
  simp only [Function.comp]
  split
  .rename_i h;exact h
  .rfl
 .rw [AU];rfl
theorem Us {kv:List (aB × ae)} (hn:(kv.map Prod.fst).Nodup) (a:aB) (v:ae):((gz kv a v).map Prod.fst).Nodup:=by
 rw [zp9]
 split
 .exact hn
 .rename_i hs
  rw [R4]
  refine ⟨hn,by simp,λx hx y hy=>?_⟩
  rw [iq] at hy
  subst hy
  intro e
  subst e
  have:dV kv x=none:=by
   cases hl:dV kv x with
   |none=>rfl
   |some w=>rw [hl] at hs;exact absurd rfl hs
  exact iG.1 this hx
theorem zjB (kv:List (aB × ae)) (a b:aB):dV (nh kv a) b=if b=a then none else dV kv b:=by
 unfold nh
 induction kv with
 |nil=>simp [dV]
 |cons p kv ih =>
  by_cases h1:a=p.1
  .rw [List.filter_cons_of_neg (by simpa using h1),ih,zi]
   split
   .rfl
   .rw [az (by rw [<- h1];assumption)]
  .rw [List.filter_cons_of_pos (by simpa using h1),zi,ih,zi]
   by_cases h2:b=a
   .rw [aE h2,aE h2,az (by rw [h2];exact h1)]
   .rw [az h2,az h2]
theorem zhG {kv:List (aB × ae)} (hn:(kv.map Prod.fst).Nodup) (a:aB):((nh kv a).map Prod.fst).Nodup:=List.Nodup.sublist (List.Sublist.map _ RY) hn
theorem JW {T:bL} {kt:TypeId} (hd:T.desc kt=some .string) (x y:aB):fH T 20 kt (.string x) (.string y)=some (decide (x=y)):=by
 unfold fH
 simp only [hd]
 congr 1
 rw [Bool.eq_iff_iff,decide_eq_true_iff,beq_iff_eq]
 exact ⟨λh=>ByteArray.ext (AR.1 h),λh=>by rw [h]⟩
theorem SK {T:bL} {kt:TypeId} {a:aB} (heq:∀ x y:aB,fH T 20 kt (.string x) (.string y)=some (decide (x=y))):∀ (es:List MapEntry) (kv:List (aB × ae)) (i:Nat),es.map (λx:MapEntry=>(x.key,x.val))=kv.map (λp=>(Value.string p.1,p.2)) ->
 (dV kv a=none->qO T kt (.string a) es i=some none)/\∀ v,dV kv a=some v->∃ (j:Nat) (e:MapEntry),qO T kt (.string a) es i=some (some (i+j,v))/\es[j]? = some e/\e.key=.string a/\e.val=v/\kv[j]? = some (a,v)/\∀ k p,k < j->kv[k]? = some p->a≠p.1
 | [],kv,i,hk=>by
  cases kv with
  |nil=>exact ⟨λ_=>rfl,λn h=>by simp [dV] at h⟩
  |cons k kv=>simp at hk
 |e::es,kv,i,hk=>by
  cases kv with
  |nil=>simp at hk
  |cons k kv =>
   simp only [mZ,List.cons.injEq,df] at hk
   obtain ⟨h1,h2⟩:=SK heq es kv (i+1) hk.2
   unfold qO
   rw [hk.1.1,heq,zi]
   by_cases hx:a=k.1
   .rw [sY hx,aE hx]
    refine ⟨(λh=>by cases h),λv hv=>?_⟩
    cases hv
    refine ⟨0,e,by simp [hk.1.2],rfl,by rw [hk.1.1,hx],hk.1.2,by rw [hx];rfl,λk jP=>by omega⟩
   .rw [uW hx,az hx]
    simp only [dX,gW,if_false]
    refine ⟨h1,λv hv=>?_⟩
    obtain ⟨j,e',g1,g2,g3,g4,g5,g6⟩:=h2 v hv
    refine ⟨j+1,e',?_,by simpa using g2,g3,g4,by simpa using g5,λq p hq hp=>?_⟩
    .rw [g1,show i+1+j=i+(j+1) by omega]
    .cases q with
     |zero=>rw [AH] at hp;cases hp;exact hx
     |succ q=>exact g6 q p (by omega) (by simpa using hp)
theorem US {T:bL} {kt:TypeId} (a:aB) (heq:∀ x y:aB,fH T 20 kt (.string x) (.string y)=some (decide (x=y))):wj T kt (.string a)=true:=by
 unfold wj
 rw [show plain (.string a)=true from rfl,heq]
 simp
theorem zlH {kv:List (aB × ae)} {a:aB} {v w:ae}:∀ {j:Nat},kv[j]? = some (a,w)->(∀ k p,k < j->kv[k]? = some p->a≠p.1)->(kv.map Prod.fst).Nodup->kv.map (λp=>if a=p.1 then (a,v) else p)=kv.modify j (λp=>(a,v)):=by
 induction kv with
 |nil=>intro j h;simp at h
 |cons p kv ih =>
  intro j hj aP hn
  rw [mZ,AV] at hn
  cases j with
  |zero =>
   rw [AH] at hj
   cases hj
   rw [mZ,aE rfl,List.modify_zero_cons]
   congr 1
   rw [RZ (g:=id),List.map_id]
   intro q hq
   rw [az]
   .rfl
   .intro e
    exact hn.1 (by show a∈_;rw [e];exact R0 (f:=Prod.fst) hq)
  |succ j =>
   rw [mZ,az (aP 0 p (by omega) rfl),List.modify_succ_cons,ih (by simpa using hj) (λk q hk hq=>aP (k+1) q (by omega) (by simpa using hq)) hn.2]
section
variable {T:bL} {t kt et:TypeId} {A:Nat} {kv:List (aB × ae)} {a:aB} {v:ae} {h h1 h2:Heap} {bs:List bh} {w:Nat} {K:aG}
theorem dI.lt (m:dI h A kv):A < h.size:=by obtain ⟨es,cl,m1,m2⟩:=m;exact m1.lt
theorem dI.hold (m:dI h A kv) (hO:∀ b,Holds h A b->Holds H A b):dI H A kv:=by
 obtain ⟨es,cl,m1,m2⟩:=m
 exact ⟨es,cl,hO _ m1,m2⟩
theorem dI.over (m:dI h1 A kv) (x:Ext (h1.lay bs w) h2):dI h2 A kv:=m.hold λb q=>q.over x
theorem dI.lay (m:dI h1 A kv) (bs:List bh) (w:Nat):dI (h1.lay bs w) A kv:=m.hold λb q=>q.on bs w
theorem dI.new (q:Holds h A (.map [] 0)):dI h A []:=⟨[],0,q,rfl,by simp,by simp,λ_ hx=>by simp at hx⟩
theorem dI.bj (m:dI h1 A kv) {B:Nat} (c:fB B (h1.lay bs w) h2) (ba:A≠B):dI h2 A kv:=m.hold λb q=>q.bj c ba
theorem Jh {ok:Bool} {z:ae} (m:dI h1 A kv) (hd:T.desc t=some (.map kt et)) (hs:T.desc kt=some .string) (hz:T.zero et=some z)
 (hK:K (if ok then .tuple #[(dV kv a).getD z,.bool (dV kv a).isSome] else (dV kv a).getD z) (h1.lay bs w)):aD (CR T t (.map (some A)) (.string a) ok (h1.lay bs w)) (h1.lay bs w) K:=by
 obtain ⟨es,cl,m1,m2,m3⟩:=m
 have heq:=JW (T:=T) hs
 obtain ⟨f1,f2⟩:=SK (a:=a) heq es kv 0 m2
 have hg:(h1.lay bs w).get A=some (.map es cl):=m1.lay bs w
 unfold CR
 simp only [hd,US a heq,if_true,SJ,hg,dX]
 cases hl:dV kv a with
 |none =>
  rw [hl] at hK
  rw [f1 hl]
  simp only [hz,dX,jZ]
  exact hK
 |some n =>
  rw [hl] at hK
  obtain ⟨j,e,hj,_⟩:=f2 n hl
  rw [hj]
  simp only [dX,jZ]
  exact hK
theorem Z3 (m:dI h1 A kv) (hd:T.desc t=some (.map kt et)):bt T t (.map (some A)) (h1.lay bs w)=some (.int .i64 kv.length):=by
 obtain ⟨es,cl,m1,m2,m3⟩:=m
 have hg:(h1.lay bs w).get A=some (.map es cl):=m1.lay bs w
 have hl:es.length=kv.length:=by have:=congrArg List.length m2;simpa using this
 unfold bt
 simp only [hd,hg,hl]
theorem zu {b:bh} (hA:A < H.size):fB A H (H.set A b):=⟨by rw [Heap.size_set];exact bo _,λB hB ba=>by rw [Heap.aR _ _ _ _ hA,az ba],by rw [Heap.bX];omega⟩
theorem Eu {b:bh} (hA:A < H.size):Holds (H.set A b) A b:=⟨by rw [Heap.size_set];exact hA,by rw [Heap.aR _ _ _ _ hA,aE rfl]⟩
theorem zgH (a:aB):HJ (.string a) (.string a)=true:=by unfold HJ Ii;simp
theorem dI.put {es:List MapEntry} {cl:Nat} (hA:A < H.size) (m2:es.map (λx:MapEntry=>(x.key,x.val))=kv.map (λp=>(Value.string p.1,p.2))) (m3:(kv.map Prod.fst).Nodup) (m4:(es.map (·.born)).Nodup) (m5:∀ x∈es,x.born < cl) (hl:dV kv a=none) :
 dI (H.set A (.map (es++[{ key:=.string a,val:=v,born:=cl }]) (cl+1))) A (gz kv a v):=by
 have D4:gz kv a v=kv++[(a,v)]:=by unfold gz;rw [hl];rfl
 refine ⟨_,_,Eu hA,?_,Us m3 a v,?_,λx hx=>?_⟩
 .rw [D4,AU,AU,m2];rfl
 .rw [AU,R4]
  refine ⟨m4,by simp,λx hx y hy=>?_⟩
  obtain ⟨e,he,rfl⟩:=ud.1 hx
  simp at hy
  have:=m5 e he
  omega
 .rcases oV.1 hx with hx|hx
  .have:=m5 x hx;omega
  .rw [iq.1 hx];exact xl _
theorem dI.turn {es:List MapEntry} {cl j:Nat} {w:ae} {f:MapEntry->MapEntry} (hf:∀ e,(f e).key=.string a/\(f e).val=v/\(f e).born=e.born) (hA:A < H.size) (m2:es.map (λx:MapEntry=>(x.key,x.val))=kv.map (λp=>(Value.string p.1,p.2))) (m3:(kv.map Prod.fst).Nodup) (m4:(es.map (·.born)).Nodup) (m5:∀ x∈es,x.born < cl) (hl:dV kv a=some w)
 (g5:kv[j]? = some (a,w)) (g6:∀ k p,k < j->kv[k]? = some p->a≠p.1):dI (H.set A (.map (es.modify j f) cl)) A (gz kv a v):=by
 have D4:gz kv a v=kv.modify j (λp=>(a,v)):=by unfold gz;rw [hl];exact zlH g5 g6 m3
 have hb:(es.modify j f).map (·.born)=es.map (·.born):=by
  refine r8 λi=>?_
  simp only [lB,C5]
  cases es[i]? with
  |none=>rfl
  |some y=>by_cases dF:j=i <;> simp [dF,(hf y).2.2]
 refine ⟨_,_,Eu hA,?_,Us m3 a v,by rw [hb];exact m4,λx hx=>?_⟩
 .rw [D4]
  refine r8 λi=>?_
  have hi:=congrArg (λl=>l[i]?) m2
  simp only [lB] at hi
  simp only [lB,C5]
  by_cases dF:j=i
  .subst dF
   rw [g5] at hi ⊢
   cases he:es[j]? with
   |none=>rw [he] at hi;simp at hi
   |some y=>simp [(hf y).1,(hf y).2.1]
  .cases he:es[i]? with
   |none =>
    rw [he] at hi
    cases hk:kv[i]? with
    |none=>rfl
    |some p=>rw [hk] at hi;simp at hi
   |some y =>
    rw [he] at hi
    cases hk:kv[i]? with
    |none=>rw [hk] at hi;simp at hi
    |some p=>rw [hk] at hi;simpa [dF] using hi
 .have h1:x.born∈(es.modify j f).map (·.born):=R0 (f:=λx:MapEntry=>x.born) hx
  rw [hb] at h1
  obtain ⟨y,hy,he⟩:=ud.1 h1
  rw [<- he]
  exact m5 y hy
theorem zA8 (m:dI h1 A kv) (hd:T.desc t=some (.map kt et)) (hs:T.desc kt=some .string)
 (hK:∀ h',dI h' A (gz kv a v)->fB A (h1.lay bs w) h'->K undef h'):iH (rT T t (.map (some A)) (.string a) v (h1.lay bs w)) K:=by
 obtain ⟨es,cl,m1,m2,m3,m4,m5⟩:=m
 have heq:=JW (T:=T) hs
 obtain ⟨f1,f2⟩:=SK (a:=a) heq es kv 0 m2
 have hg:(h1.lay bs w).get A=some (.map es cl):=m1.lay bs w
 have hA:A < (h1.lay bs w).size:=(m1.on bs w).lt
 unfold rT
 simp only [hd,hg,US a heq,if_true]
 cases hl:dV kv a with
 |none =>
  rw [f1 hl]
  simp only [dX]
  exact hK _ (dI.put hA m2 m3 m4 m5 hl) (zu hA)
 |some n =>
  obtain ⟨j,e,hj,g2,g3,g4,g5,g6⟩:=f2 n hl
  rw [hj]
  simp only [dX,iu,g2,g3,zgH,if_true]
  exact hK _ (dI.turn (λ_=>⟨rfl,rfl,rfl⟩) hA m2 m3 m4 m5 hl g5 g6) (zu hA)
theorem Un {Z β:Type} (f:Z->β):∀ (l:List Z) (i:Nat),(l.eraseIdx i).map f=(l.map f).eraseIdx i
 | [],i=>by simp
 |x::l,0=>by simp
 |x::l,i+1=>by rw [List.eraseIdx_cons_succ,mZ,mZ,List.eraseIdx_cons_succ,Un f l i]
theorem zoU {kv:List (aB × ae)} {a:aB} {w:ae}:∀ {j:Nat},kv[j]? = some (a,w)->(∀ k p,k < j->kv[k]? = some p->a≠p.1)->(kv.map Prod.fst).Nodup->nh kv a=kv.eraseIdx j:=by
 induction kv with
 |nil=>intro j h;simp at h
 |cons p kv ih =>
  intro j hj aP hn
  rw [mZ,AV] at hn
  unfold nh at ih ⊢
  cases j with
  |zero =>
   rw [AH] at hj
   cases hj
   rw [List.filter_cons_of_neg (by simp),List.eraseIdx_cons_zero,RX]
   intro q hq
   rw [uW]
   .rfl
   .intro e
    exact hn.1 (by show a∈_;rw [e];exact R0 (f:=Prod.fst) hq)
  |succ j =>
   rw [List.filter_cons_of_pos (by simpa using aP 0 p (by omega) rfl),List.eraseIdx_cons_succ,ih (by simpa using hj) (λk q hk hq=>aP (k+1) q (by omega) (by simpa using hq)) hn.2]
theorem zw1 (m:dI h1 A kv) (hd:T.desc t=some (.map kt et)) (hs:T.desc kt=some .string)
 (hK:∀ h',dI h' A (nh kv a)->fB A (h1.lay bs w) h'->K undef h'):iH (AA T t (.map (some A)) (.string a) (h1.lay bs w)) K:=by
 obtain ⟨es,cl,m1,m2,m3,m4,m5⟩:=m
 have heq:=JW (T:=T) hs
 obtain ⟨f1,f2⟩:=SK (a:=a) heq es kv 0 m2
 have hg:(h1.lay bs w).get A=some (.map es cl):=m1.lay bs w
 have hA:A < (h1.lay bs w).size:=(m1.on bs w).lt
 unfold AA
 simp only [hd,hg,US a heq,if_true]
 cases hl:dV kv a with
 |none =>
  rw [f1 hl]
  simp only [dX]
  have hdv:nh kv a=kv:=by
   unfold nh
   rw [RX]
   intro q hq
   rw [uW]
   .rfl
   .intro e
    exact iG.1 hl (by rw [e];exact R0 hq)
  refine hK _ ?_ (zu hA)
  rw [hdv]
  exact ⟨es,cl,Eu hA,m2,m3,m4,m5⟩
 |some n =>
  obtain ⟨j,e,hj,g2,g3,g4,g5,g6⟩:=f2 n hl
  rw [hj]
  simp only [dX,iu]
  refine hK _ ⟨es.eraseIdx j,cl,Eu hA,?_,zhG m3 a,?_,λx hx=>m5 x (List.mem_of_mem_eraseIdx hx)⟩ (zu hA)
  .rw [zoU g5 g6 m3,Un,Un,m2]
  .rw [Un]
   exact List.Nodup.sublist (List.eraseIdx_sublist _ _) m4
theorem zor {es:List MapEntry}:∀ {j:Nat} {e:MapEntry} (i:Nat),(es.map (·.born)).Nodup->es[j]? = some e->JS (e.born:Int) es i=some (i+j):=by
 induction es with
 |nil=>intro j e i _ h;simp at h
 |cons x es ih =>
  intro j e i hn hj
  rw [mZ,AV] at hn
  unfold JS
  cases j with
  |zero =>
   rw [AH] at hj
   cases hj
   rw [aE rfl]
   rfl
  |succ j =>
   rw [List.getElem?_cons_succ] at hj
   have hm:e.born∈es.map (·.born):=R0 (f:=λx:MapEntry=>x.born) (ig hj)
   have ba:¬ ((x.born:Int)=(e.born:Int)):=λhh=>hn.1 ((show x.born=e.born by omega) ▸ hm)
   rw [az ba,ih (i+1) hn.2 hj,show i+1+j=i+(j+1) by omega]
theorem zro {z:ae} (m:dI h1 A kv) (hd:T.desc t=some (.map kt et)) (hs:T.desc kt=some .string) (hz:T.zero et=some z)
 (hK:∀ h' x (s:Nat) b,Holds h' A b->fB A (h1.lay bs w) h'->(∀ (h2:Heap),Holds h2 A b->∀ v2 (K2:aG),(∀ h3,dI h3 A (gz kv a v2)->fB A h2 h3->K2 undef h3)->iH (zm (.map (some A)) (.int .i64 s) v2 h2) K2)->K (.tuple #[x,.int .i64 s]) h'):dx (EH T t (.map (some A)) (.string a) (h1.lay bs w)) K:=by
 obtain ⟨es,cl,m1,m2,m3,m4,m5⟩:=m
 have heq:=JW (T:=T) hs
 obtain ⟨f1,f2⟩:=SK (a:=a) heq es kv 0 m2
 have hg:(h1.lay bs w).get A=some (.map es cl):=m1.lay bs w
 have hA:A < (h1.lay bs w).size:=(m1.on bs w).lt
 unfold EH
 simp only [hd,hg,US a heq,if_true]
 cases hl:dV kv a with
 |none =>
  rw [f1 hl]
  simp only [dX,hz,jZ]
  have hm:=dI.put (v:=z) hA m2 m3 m4 m5 hl
  refine hK _ _ cl _ (Eu hA) (zu hA) (λh2 q v2 K2 XM=>?_)
  have i6:((es++[({ key:=.string a,val:=z,born:=cl }:MapEntry)]).map (·.born)).Nodup:=by
   rw [AU,R4]
   refine ⟨m4,by simp,λx hx y hy=>?_⟩
   obtain ⟨e,he,rfl⟩:=ud.1 hx
   simp at hy
   have:=m5 e he
   omega
  have Na:=zor (es:=es++[({ key:=.string a,val:=z,born:=cl }:MapEntry)]) (j:=es.length) (e:={ key:=.string a,val:=z,born:=cl }) 0 i6 (by simp)
  simp only [iu] at Na
  unfold zm
  simp only [q.get,Na,jZ]
  refine XM _ ?_ (zu q.lt)
  have yC:(es++[({ key:=.string a,val:=z,born:=cl }:MapEntry)]).modify es.length (λe=>{ e with val:=v2 })=es++[{ key:=.string a,val:=v2,born:=cl }]:=by
   refine r8 λi=>?_
   rw [C5,xj,xj]
   by_cases hi:i < es.length
   .rw [aE hi,aE hi]
    have ba:¬ es.length=i:=by omega
    cases es[i]? <;> simp [ba]
   .rw [az hi,az hi]
    by_cases wI:es.length=i
    .subst wI;simp
    .cases hq:i - es.length with
     |zero=>omega
     |succ q=>simp [wI]
  rw [yC]
  exact dI.put q.lt m2 m3 m4 m5 hl
 |some n =>
  obtain ⟨j,e,hj,g2,g3,g4,g5,g6⟩:=f2 n hl
  rw [hj]
  simp only [dX,iu,g2,g3,zgH,if_true]
  have hid:es.modify j (λe=>{ e with key:=.string a })=es:=by
   refine r8 λi=>?_
   rw [C5]
   by_cases dF:j=i
   .subst dF
    rw [g2]
    simp [<- g3]
   .cases es[i]? <;> simp [dF]
  rw [hid]
  refine hK _ _ e.born _ (Eu hA) (zu hA) (λh2 q v2 K2 XM=>?_)
  have Na:=zor 0 m4 g2
  simp only [iu] at Na
  unfold zm
  simp only [q.get,Na,jZ]
  refine XM _ ?_ (zu q.lt)
  obtain ⟨MF,rfl⟩:∃ MF:List MapEntry,MF=es:=⟨_,rfl⟩
  have D4:gz kv a v2=kv.modify j (λp=>(a,v2)):=by unfold gz;rw [hl];exact zlH g5 g6 m3
  have Yu:MF.modify j (λe=>{ e with val:=v2 })=MF.modify j (λe=>{ e with key:=.string a,val:=v2 }):=by
   refine r8 λi=>?_
   simp only [C5]
   by_cases dF:j=i
   .subst dF
    rw [g2]
    simp [g3]
   .cases MF[i]? <;> simp [dF]
  rw [Yu]
  exact dI.turn (λ_=>⟨rfl,rfl,rfl⟩) q.lt m2 m3 m4 m5 hl g5 g6
end
end Go.Am
namespace Go.Am
section
variable {Z:Type} {r:aJ Z} {h0 h1:Heap} {v:ae} {l:List Z} {t e:TypeId} {A k bytes:Nat} {z:List ae} {T:bL} {bs:List bh} {w:Nat} {K:aG}
theorem HP (hd:T.desc t=some (.slice e)) (hi:T.info e=some (k,bytes,z)) (DZ:r.k=k) (hk:0 < k) {u:TypeId} {ro:Bool} {cs:List ae} {i c:Nat} {x:Z} (hg:bs[i]? = some (.row cs u ro)) (hz:h0.size<=h1.size) (f:Ow r h0 h1 e A v l) (hr:r.R (kill A (h1.lay bs w)) cs x)
 (hb:(l.length+1)*bytes<=140737488355328) (hl:l.length+1<=1152921504606846976)
 (hK:∀ v' h' A',Ow r h0 h' e A' v' (l++[x])->fB A (h1.lay bs w) h'->(A'=A\/h1.size<=A')->K v' h'):dx (iP T t v (.slice (some ⟨h1.size+i,0,none⟩) 1 c) (h1.lay bs w)) K:=by
 have tD:(h1.lay bs w).get (h1.size+i)=some (.row cs u ro):=by rw [gH];exact hg
 obtain ⟨hs,lQ⟩:=CO (r:=r) (A:=A) (c:=c) (y:=x) (by omega) tD hr
 exact EB hd hi DZ hk hz f (by rw [<- DZ];exact hs) lQ hb hl hK
theorem CH {u:TypeId} {n o:Nat} {cs vs:List ae} {v:ae} (q:Holds h1 A (.row cs u false)) (hs:cN T t=some n) (hv:v.cells.toList=vs) (hl:vs.length=n) (hb:o+n<=cs.length) (bD:vs.all one=true)
 (hK:∀ h',Holds h' A (.row (aF cs o vs) u false)->fB A (h1.lay bs w) h'->K undef h'):iH (iS T t (.pointer (some ⟨A,o,none⟩)) v (h1.lay bs w)) K:=by
 have hg:(h1.lay bs w).get A=some (.row cs u false):=q.lay bs w
 have hA:A < (h1.lay bs w).size:=(q.on bs w).lt
 have dS:v.cells.size=n:=by rw [<- hl,<- hv];simp
 have he:iS T t (.pointer (some ⟨A,o,none⟩)) v (h1.lay bs w)=some ((h1.lay bs w).set A (.row (aF cs o vs) u false)):=by
  unfold iS
  simp only [hs,dX]
  rw [aE dS,hv]
  unfold kH
  rw [hg]
  simp only
  rw [aE (by simp only [dP,gY];exact ⟨by omega,bD⟩)]
 rw [he]
 refine hK _ ⟨by rw [Heap.size_set];exact hA,by rw [Heap.aR _ _ _ _ hA,aE rfl]⟩ ⟨by rw [Heap.size_set];exact bo _,λB hB ba=>by rw [Heap.aR _ _ _ _ hA,az ba],by rw [Heap.bX];omega⟩
end
section
variable {P:Program} {T:bL} {ov:Ov}
theorem zod {b:Nat} {ops:Array Oper} {l:List Oper} {j:Nat} {d:Option Tmp} {Q:Env->Heap->Prop} {e:Env} {hh:Heap} {xy bs:List bh} {w s:Nat} {v:ae} (hl:xy.length<=bs.length) (hb:b<=s) (hs:hh.size+xy.length<=s)
 (hk:cw P T ov b ops l (j+1) (put e d v) (hh.lay bs s) Q):C8 P T ov b ops l j d Q e (hh.lay xy w) v (hh.lay bs s):=by
 refine ⟨⟨⟨.inl ?_,?_,?_⟩,hk⟩⟩
 .rw [bf];exact hs
 .exact hb
 .rw [bf,bf];omega
end
theorem UL {h:Heap} {A B:Nat} (ba:B≠A):(kill A h).get B=h.get B:=by
 unfold kill
 split
 .rename_i hA
  rw [Heap.aR _ _ _ _ hA,az ba]
 .rfl
theorem zpi {h:Heap} {A:Nat} (hA:A < h.size):(kill A h).get A=some .dead:=by
 unfold kill
 rw [aE hA,Heap.aR _ _ _ _ hA,aE rfl]
structure Kin (B:Heap) (A:Nat) (h:Heap):Prop where
 lt:A < h.size
 inc:b8 B (kill A h)
section
variable {B h1 h2:Heap} {A A':Nat} {bs:List bh} {w:Nat}
theorem zzN {a b:Heap} (i:b8 a b):b8 (kill A a) (kill A b):=⟨by rw [Rk,Rk];exact i.size,λC hC hd=>by
 by_cases Tf:C=A
 .subst Tf
  rw [Rk] at hC
  exact absurd (zpi hC) hd
 .rw [Rk] at hC
  rw [UL Tf] at hd ⊢
  rw [UL Tf]
  exact i.get C hC hd⟩
end
section
variable {T:bL} {t e:TypeId} {v:ae} {B h1:Heap} {bs:List bh} {w:Nat} {K:aG} {kd:IntKind} {i:Int}
end
theorem b8.iW {a b d:Heap} {A:Nat} (i:b8 a b) (c:fB A b d) (hA:a.size<=A):b8 a d:=⟨il i.size c.size,λB hB hd=>(c.get B (eW hB i.size) (by omega)).trans (i.get B hB hd)⟩
theorem zAM {s:aB} (h:OI s):s.size<=300:=by have:=h.len;omega
theorem fM.size {t:aH} (h:fM t):t.s.size<=300:=by
 unfold fM at h
 split at h
 .have:=h.len;omega
 .exact zAM h.1
theorem zwd {l:List aN} {b x:aN} {i:Nat} (aC:∀ y∈l.take i,slt b.var y.var=false) (hx:l[i]? = some x) (hs:slt b.var x.var=true):uV l b=l.take i++b::l.drop i:=by
 have hi:i < l.length:=(dz.1 hx).1
 unfold uV
 obtain ⟨e1,e2⟩:=zfX (p:=λx:aN => !slt b.var x.var) (l:=l) (i:=i) (by omega) (λy hy=>by simp [aC y hy]) (λy hy=>by rw [hx] at hy;cases hy;simp [hs])
 rw [e1,e2]
theorem zzg {l:List aN} {b:aN} (aC:∀ y∈l,slt b.var y.var=false):uV l b=l++[b]:=by
 unfold uV
 obtain ⟨e1,e2⟩:=zfX (p:=λx:aN => !slt b.var x.var) (l:=l) (i:=l.length) (bo _) (λy hy=>by simp [aC y (List.mem_of_mem_take hy)]) (λy hy=>by simp at hy)
 rw [e1,e2]
 simp
end Go.Am
