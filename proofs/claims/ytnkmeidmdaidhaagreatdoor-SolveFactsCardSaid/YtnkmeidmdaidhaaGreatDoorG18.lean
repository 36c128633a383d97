/- Walks: sets of keys of any plain kind, as maps. No condition. -/
import Derived.Test.YtnkmeidmdaidhaaGreatDoorG15
set_option linter.unusedSimpArgs false
set_option linter.unusedVariables false
namespace Go.Am
def dt {κ:Type} (kv:κ->ai) (h:Heap) (A:Nat) (met:List κ):Prop:=∃ es clock,∃ ks:List κ,Holds h A (.map es clock)/\es.map (λx:MapEntry=>x.key)=ks.map kv/\(∀ a,a∈ks↔a∈met)/\∀ x∈es,x.val=.agg ⟨[]⟩
section
variable {κ:Type} {kv:κ->ai} {T:bJ} {t kt et:TypeId} {A:Nat} {met:List κ} {a:κ} {h1:Heap} {bs:List aZ} {w:Nat} {K:aJ} {z:ai}
theorem Yd [DecidableEq κ] (heq:∀ x y:κ,dC T 20 kt (kv x) (kv y)=some (decide (x=y))):∀ (es:List MapEntry) (ks:List κ) (i:Nat),es.map (λx:MapEntry=>x.key)=ks.map kv ->
 (a ∉ ks->mb T kt (kv a) es i=some none)/\(a∈ks->∃ (j:Nat) (e:MapEntry),mb T kt (kv a) es i=some (some (i+j,e.val))/\es[j]? = some e/\e.key=kv a)
 | [],ks,i,hk=>by
  cases ks with
  |nil=>exact ⟨λ_=>rfl,λh=>by simp at h⟩
  |cons k ks=>simp at hk
 |e::es,ks,i,hk=>by
  cases ks with
  |nil=>simp at hk
  |cons k ks =>
   simp only [qO,List.cons.injEq] at hk
   obtain ⟨h1,h2⟩:=Yd heq es ks (i+1) hk.2
   unfold mb
   rw [hk.1,heq]
   by_cases hx:a=k
   .subst hx
    refine ⟨λhn=>absurd np hn,λ_=>⟨0,e,by simp,rfl,hk.1⟩⟩
   .simp only [tn hx,dO,gX,if_false,df,hx,false_or]
    refine ⟨h1,λha=>?_⟩
    obtain ⟨j,e',g1,g2,g3⟩:=h2 ha
    refine ⟨j+1,e',?_,by simpa using g2,g3⟩
    rw [g1,show i+1+j=i+(j+1) by omega]
    simp
theorem YY [DecidableEq κ] (hp:∀ x:κ,plain (kv x)=true) (a:κ) (heq:∀ x y:κ,dC T 20 kt (kv x) (kv y)=some (decide (x=y))):sc T kt (kv a)=true:=by
 unfold sc
 rw [hp,heq]
 simp
theorem dt.over (m:dt kv h1 A met) {h2:Heap} (x:Ext (h1.lay bs w) h2):dt kv h2 A met:=by
 obtain ⟨es,cl,ks,m1,m2,m3⟩:=m
 exact ⟨es,cl,ks,m1.over x,m2,m3⟩
theorem dt.ext (m:dt kv h1 A met) {h2:Heap} (x:Ext h1 h2):dt kv h2 A met:=by
 obtain ⟨es,cl,ks,m1,m2,m3⟩:=m
 exact ⟨es,cl,ks,⟨dr m1.lt x.size,(x.get A m1.lt).trans m1.get⟩,m2,m3⟩
theorem dt.br (m:dt kv h1 A met) {B:Nat} {h2:Heap} (c:ff B (h1.lay bs w) h2) (aM:A≠B):dt kv h2 A met:=by
 obtain ⟨es,cl,ks,m1,m2,m3⟩:=m
 exact ⟨es,cl,ks,m1.br c aM,m2,m3⟩
theorem dt.lay (m:dt kv h1 A met) (bs:List aZ) (w:Nat):dt kv (h1.lay bs w) A met:=by
 obtain ⟨es,cl,ks,m1,m2,m3⟩:=m
 exact ⟨es,cl,ks,m1.on bs w,m2,m3⟩
theorem dt.new (q:Holds h1 A (.map [] 0)):dt kv h1 A ([]:List κ):=⟨[],0,[],q,rfl,λ_=>Iff.rfl,λ_ hx=>by simp at hx⟩
theorem dt.lt (m:dt kv h1 A met):A < h1.size:=by
 obtain ⟨es,cl,ks,m1,m2,m3⟩:=m
 exact m1.lt
theorem dt.hold {H:Heap} (m:dt kv h1 A met) (hO:∀ A b,Holds h1 A b->Holds H A b):dt kv H A met:=by
 obtain ⟨es,cl,ks,m1,m2,m3⟩:=m
 exact ⟨es,cl,ks,hO _ _ m1,m2,m3⟩
theorem dt.Cy (m:dt kv h1 A met) (row:List ai) (u:TypeId) (ro:Bool):h1.get A≠some (.row row u ro):=by
 obtain ⟨es,cl,ks,m1,m2,m3⟩:=m
 rw [m1.get]
 nofun
theorem Sl.LC {Z:Type} {r:aC Z} {v:ai} {l:List Z} (f:Sl r h1 v l) (ef:∀ h h' cs x,r.R h cs x->r.R h' cs x) (m:dt kv h1 A met) {h2:Heap} (c:ff A (h1.lay bs w) h2):Sl r h2 v l:=by
 rcases f with f|⟨B,o,n,row,u,ro,e1,e2,e3,e4,e5,e6⟩
 .exact .inl f
 .have aM:B≠A:=λe=>m.Cy row u ro (e ▸ e5)
  have hs:=c.size
  rw [bh] at hs
  refine .inr ⟨B,o,n,row,u,ro,e1,e2,e3,by omega,?_,λi x hx=>?_⟩
  .rw [c.get B (by rw [bh];omega) aM,sU _ _ _ e4,e5]
  .obtain ⟨cs,g1,g2⟩:=e6 i x hx
   exact ⟨cs,g1,ef _ _ _ _ g2⟩
theorem dt.same {nF:List κ} (m:dt kv h1 A met) (h:∀ a,a∈met↔a∈nF):dt kv h1 A nF:=by
 obtain ⟨es,cl,ks,m1,m2,m3,m4⟩:=m
 exact ⟨es,cl,ks,m1,m2,λa=>(m3 a).trans (h a),m4⟩
theorem zus [DecidableEq κ] (m:dt kv h1 A met) (hp:∀ x:κ,plain (kv x)=true) (hd:T.desc t=some (.map kt et)) (heq:∀ x y:κ,dC T 20 kt (kv x) (kv y)=some (decide (x=y))) (hz:T.zero et=some (.agg ⟨[]⟩))
 (jL:a∈met->K (.tuple #[.agg ⟨[]⟩,.bool true]) (h1.lay bs w)) (iJ:a ∉ met->K (.tuple #[.agg ⟨[]⟩,.bool false]) (h1.lay bs w)):aK (u9 T t (.map (some A)) (kv a) true (h1.lay bs w)) (h1.lay bs w) K:=by
 obtain ⟨es,cl,ks,m1,m2,m3,m4⟩:=m
 obtain ⟨f1,f2⟩:=Yd (a:=a) heq es ks 0 m2
 have hg:(h1.lay bs w).get A=some (.map es cl):=m1.lay bs w
 unfold u9
 simp only [hd,YY hp a heq,if_true,Gl,hg,dO]
 by_cases ha:a∈ks
 .obtain ⟨j,e,hr,hx,_⟩:=f2 ha
  rw [hr]
  have iu:e.val=.agg ⟨[]⟩:=m4 e (en hx)
  simp only [iu,dO,lu,if_true]
  exact jL ((m3 a).1 ha)
 .rw [f1 ha]
  simp only [hz,dO,lu,if_true]
  exact iJ (λhh=>ha ((m3 a).2 hh))
theorem zzX [DecidableEq κ] (m:dt kv h1 A met) (hp:∀ x:κ,plain (kv x)=true) (EN:∀ x:κ,CY (kv x) (kv x)=true) (hd:T.desc t=some (.map kt et)) (heq:∀ x y:κ,dC T 20 kt (kv x) (kv y)=some (decide (x=y)))
 (hK:∀ h',dt kv h' A (a::met)->ff A (h1.lay bs w) h'->K undef h'):lG (oG T t (.map (some A)) (kv a) (.agg ⟨[]⟩) (h1.lay bs w)) K:=by
 obtain ⟨es,cl,ks,m1,m2,m3,m4⟩:=m
 obtain ⟨f1,f2⟩:=Yd (a:=a) heq es ks 0 m2
 have hg:(h1.lay bs w).get A=some (.map es cl):=m1.lay bs w
 have hA:A < (h1.lay bs w).size:=(m1.on bs w).lt
 have hc:∀ b,ff A (h1.lay bs w) ((h1.lay bs w).set A b):=λb=>⟨by rw [Heap.size_set];exact aR _,λB hB aM=>by rw [Heap.aG _ _ _ _ hA,az aM],by rw [Heap.cM];omega⟩
 have hh:∀ b,Holds ((h1.lay bs w).set A b) A b:=λb=>⟨by rw [Heap.size_set];exact hA,by rw [Heap.aG _ _ _ _ hA,aD rfl]⟩
 by_cases ha:a∈ks
 .obtain ⟨j,e,hr,hx,hek⟩:=f2 ha
  have he:oG T t (.map (some A)) (kv a) (.agg ⟨[]⟩) (h1.lay bs w)=some ((h1.lay bs w).set A (.map (es.modify j λe=>{ e with key:=kv a,val:=.agg ⟨[]⟩ }) cl)):=by
   unfold oG
   simp only [hd,hg,YY hp a heq,if_true,hr,dO,iA,hx,hek,EN]
  rw [he]
  refine hK _ ⟨_,cl,ks,hh _,?_,λb=>?_,λx K9=>?_⟩ (hc _)
  .rw [<- m2]
   refine xZ (λi=>?_)
   simp only [lP,H5]
   by_cases fw:j=i
   .subst fw
    rw [hx]
    simp [hek]
   .cases es[i]? <;> simp [fw]
  .rw [m3,df]
   exact ⟨.inr,λh=>h.elim (λe=>e ▸ (m3 a).1 ha) id⟩
  .obtain ⟨i,hi⟩:=Gd K9
   rw [H5] at hi
   cases Kg:es[i]? with
   |none=>rw [Kg] at hi;simp at hi
   |some y =>
    rw [Kg] at hi
    simp only [Option.map_eq_map,lu,eh] at hi
    by_cases fw:j=i
    .rw [aD fw] at hi;rw [<- hi]
    .rw [az fw] at hi;rw [<- hi];exact m4 y (en Kg)
 .have he:oG T t (.map (some A)) (kv a) (.agg ⟨[]⟩) (h1.lay bs w)=some ((h1.lay bs w).set A (.map (es++[{ key:=kv a,val:=.agg ⟨[]⟩,born:=cl }]) (cl+1))):=by
   unfold oG
   simp only [hd,hg,YY hp a heq,if_true,f1 ha,dO]
  rw [he]
  refine hK _ ⟨_,_,ks++[a],hh _,by simp [m2],λb=>?_,λx hx=>?_⟩ (hc _)
  .rw [gg,ep,df,m3]
   exact Or.comm
  .rcases gg.1 hx with hx|hx
   .exact m4 x hx
   .rw [ep.1 hx]
end
end Go.Am
namespace Go.Am
variable {H:Heap}
section
variable {P:Program} {T:bJ} {ov:Ov} {d:Option Tmp} {ty:TypeId} {pos:String} {af:Array Edge} {g:Option (Nat × Bool)} {e:Env} {h:Heap} {K:aJ}
end
def eH (h:Heap) (A:Nat) (kv:List (aU × ai)):Prop:=∃ es clock,Holds h A (.map es clock)/\es.map (λx:MapEntry=>(x.key,x.val))=kv.map (λp=>(Value.string p.1,p.2))/\(kv.map Prod.fst).Nodup/\(es.map (·.born)).Nodup/\∀ x∈es,x.born < clock
def nn (kv:List (aU × ai)) (a:aU):Option ai:=(kv.find? (λp=>decide (a=p.1))).map (·.2)
def lH (kv:List (aU × ai)) (a:aU) (v:ai):List (aU × ai):=if (nn kv a).isSome then kv.map (λp=>if a=p.1 then (a,v) else p) else kv++[(a,v)]
theorem XU (p:aU × ai) (kv:List (aU × ai)) (a:aU):nn (p::kv) a=if a=p.1 then some p.2 else nn kv a:=by
 unfold nn
 by_cases h:a=p.1
 .rw [List.find?_cons_of_pos (by simpa using h),aD h];rfl
 .rw [List.find?_cons_of_neg (by simpa using h),az h]
theorem rS {kv:List (aU × ai)} {a:aU}:nn kv a=none↔a ∉ kv.map Prod.fst:=by
 induction kv with
 |nil=>simp [nn]
 |cons p kv ih =>
  rw [XU]
  by_cases h:a=p.1
  .simp [h]
  .rw [az h,ih]
   simp [h]
theorem zxL (kv:List (aU × ai)) (a:aU) (v:ai):(lH kv a v).map Prod.fst=if (nn kv a).isSome then kv.map Prod.fst else kv.map Prod.fst++[a]:=by
 unfold lH
 split
 .rw [List.map_map]
  congr 1
  funext p
  simp only [Function.comp]
  split
  .rename_i h;exact h
  .rfl
 .rw [sf];rfl
theorem zlO {kv:List (aU × ai)} (hn:(kv.map Prod.fst).Nodup) (a:aU) (v:ai):((lH kv a v).map Prod.fst).Nodup:=by
 rw [zxL]
 split
 .exact hn
 .rename_i hs
  rw [List.nodup_append]
  refine ⟨hn,by simp,λx hx y hy=>?_⟩
  rw [ep] at hy
  subst hy
  intro e
  subst e
  have:nn kv x=none:=by
   cases hl:nn kv x with
   |none=>rfl
   |some w=>rw [hl] at hs;exact absurd rfl hs
  exact rS.1 this hx
theorem zAj {T:bJ} {kt:TypeId} (hd:T.desc kt=some .string) (x y:aU):dC T 20 kt (.string x) (.string y)=some (decide (x=y)):=by
 unfold dC
 simp only [hd]
 congr 1
 rw [Bool.eq_iff_iff,decide_eq_true_iff,beq_iff_eq]
 exact ⟨λh=>ByteArray.ext (NO.1 h),λh=>by rw [h]⟩
theorem W8 {T:bJ} {kt:TypeId} {a:aU} (heq:∀ x y:aU,dC T 20 kt (.string x) (.string y)=some (decide (x=y))):∀ (es:List MapEntry) (kv:List (aU × ai)) (i:Nat),es.map (λx:MapEntry=>(x.key,x.val))=kv.map (λp=>(Value.string p.1,p.2)) ->
 (nn kv a=none->mb T kt (.string a) es i=some none)/\∀ v,nn kv a=some v->∃ (j:Nat) (e:MapEntry),mb T kt (.string a) es i=some (some (i+j,v))/\es[j]? = some e/\e.key=.string a/\e.val=v/\kv[j]? = some (a,v)/\∀ k p,k < j->kv[k]? = some p->a≠p.1
 | [],kv,i,hk=>by
  cases kv with
  |nil=>exact ⟨λ_=>rfl,λn h=>by simp [nn] at h⟩
  |cons k kv=>simp at hk
 |e::es,kv,i,hk=>by
  cases kv with
  |nil=>simp at hk
  |cons k kv =>
   simp only [qO,List.cons.injEq,cQ] at hk
   obtain ⟨h1,h2⟩:=W8 heq es kv (i+1) hk.2
   unfold mb
   rw [hk.1.1,heq,XU]
   by_cases hx:a=k.1
   .rw [sk hx,aD hx]
    refine ⟨(λh=>by cases h),λv hv=>?_⟩
    cases hv
    refine ⟨0,e,by simp [hk.1.2],rfl,by rw [hk.1.1,hx],hk.1.2,by rw [hx];rfl,λk ju=>by omega⟩
   .rw [tn hx,az hx]
    simp only [dO,gX,if_false]
    refine ⟨h1,λv hv=>?_⟩
    obtain ⟨j,e',g1,g2,g3,g4,g5,g6⟩:=h2 v hv
    refine ⟨j+1,e',?_,by simpa using g2,g3,g4,by simpa using g5,λq p hq hp=>?_⟩
    .rw [g1,show i+1+j=i+(j+1) by omega]
    .cases q with
     |zero=>rw [C7] at hp;cases hp;exact hx
     |succ q=>exact g6 q p (by omega) (by simpa using hp)
theorem zwP {T:bJ} {kt:TypeId} (a:aU) (heq:∀ x y:aU,dC T 20 kt (.string x) (.string y)=some (decide (x=y))):sc T kt (.string a)=true:=by
 unfold sc
 rw [show plain (.string a)=true from rfl,heq]
 simp
theorem zuy {kv:List (aU × ai)} {a:aU} {v w:ai}:∀ {j:Nat},kv[j]? = some (a,w)->(∀ k p,k < j->kv[k]? = some p->a≠p.1)->(kv.map Prod.fst).Nodup->kv.map (λp=>if a=p.1 then (a,v) else p)=kv.modify j (λp=>(a,v)):=by
 induction kv with
 |nil=>intro j h;simp at h
 |cons p kv ih =>
  intro j hj aT hn
  rw [qO,List.nodup_cons] at hn
  cases j with
  |zero =>
   rw [C7] at hj
   cases hj
   rw [qO,aD rfl,List.modify_zero_cons]
   congr 1
   rw [Dg (g:=id),List.map_id]
   intro q hq
   rw [az]
   .rfl
   .intro e
    exact hn.1 (by show a∈_;rw [e];exact List.mem_map_of_mem (f:=Prod.fst) hq)
  |succ j =>
   rw [qO,az (aT 0 p (by omega) rfl),List.modify_succ_cons,ih (by simpa using hj) (λk q hk hq=>aT (k+1) q (by omega) (by simpa using hq)) hn.2]
section
variable {T:bJ} {t kt et:TypeId} {A:Nat} {kv:List (aU × ai)} {a:aU} {v:ai} {h h1 h2:Heap} {bs:List aZ} {w:Nat} {K:aJ}
theorem eH.lt (m:eH h A kv):A < h.size:=by obtain ⟨es,cl,m1,m2⟩:=m;exact m1.lt
theorem eH.hold (m:eH h A kv) (hO:∀ b,Holds h A b->Holds H A b):eH H A kv:=by
 obtain ⟨es,cl,m1,m2⟩:=m
 exact ⟨es,cl,hO _ m1,m2⟩
theorem eH.over (m:eH h1 A kv) (x:Ext (h1.lay bs w) h2):eH h2 A kv:=m.hold λb q=>q.over x
theorem eH.lay (m:eH h1 A kv) (bs:List aZ) (w:Nat):eH (h1.lay bs w) A kv:=m.hold λb q=>q.on bs w
theorem eH.new (q:Holds h A (.map [] 0)):eH h A []:=⟨[],0,q,rfl,by simp,by simp,λ_ hx=>by simp at hx⟩
theorem eH.br (m:eH h1 A kv) {B:Nat} (c:ff B (h1.lay bs w) h2) (aM:A≠B):eH h2 A kv:=m.hold λb q=>q.br c aM
theorem zut {ok:Bool} {z:ai} (m:eH h1 A kv) (hd:T.desc t=some (.map kt et)) (hs:T.desc kt=some .string) (hz:T.zero et=some z)
 (hK:K (if ok then .tuple #[(nn kv a).getD z,.bool (nn kv a).isSome] else (nn kv a).getD z) (h1.lay bs w)):aK (u9 T t (.map (some A)) (.string a) ok (h1.lay bs w)) (h1.lay bs w) K:=by
 obtain ⟨es,cl,m1,m2,m3⟩:=m
 have heq:=zAj (T:=T) hs
 obtain ⟨f1,f2⟩:=W8 (a:=a) heq es kv 0 m2
 have hg:(h1.lay bs w).get A=some (.map es cl):=m1.lay bs w
 unfold u9
 simp only [hd,zwP a heq,if_true,Gl,hg,dO]
 cases hl:nn kv a with
 |none =>
  rw [hl] at hK
  rw [f1 hl]
  simp only [hz,dO,lu]
  exact hK
 |some n =>
  rw [hl] at hK
  obtain ⟨j,e,hj,_⟩:=f2 n hl
  rw [hj]
  simp only [dO,lu]
  exact hK
theorem Wg (m:eH h1 A kv) (hd:T.desc t=some (.map kt et)):bQ T t (.map (some A)) (h1.lay bs w)=some (.int .i64 kv.length):=by
 obtain ⟨es,cl,m1,m2,m3⟩:=m
 have hg:(h1.lay bs w).get A=some (.map es cl):=m1.lay bs w
 have hl:es.length=kv.length:=by have:=congrArg List.length m2;simpa using this
 unfold bQ
 simp only [hd,hg,hl]
theorem NA {b:aZ} (hA:A < H.size):ff A H (H.set A b):=⟨by rw [Heap.size_set];exact aR _,λB hB aM=>by rw [Heap.aG _ _ _ _ hA,az aM],by rw [Heap.cM];omega⟩
theorem P4 {b:aZ} (hA:A < H.size):Holds (H.set A b) A b:=⟨by rw [Heap.size_set];exact hA,by rw [Heap.aG _ _ _ _ hA,aD rfl]⟩
theorem zrp (a:aU):CY (.string a) (.string a)=true:=by unfold CY BC;simp
theorem eH.put {es:List MapEntry} {cl:Nat} (hA:A < H.size) (m2:es.map (λx:MapEntry=>(x.key,x.val))=kv.map (λp=>(Value.string p.1,p.2))) (m3:(kv.map Prod.fst).Nodup) (m4:(es.map (·.born)).Nodup) (m5:∀ x∈es,x.born < cl) (hl:nn kv a=none) :
 eH (H.set A (.map (es++[{ key:=.string a,val:=v,born:=cl }]) (cl+1))) A (lH kv a v):=by
 have K0:lH kv a v=kv++[(a,v)]:=by unfold lH;rw [hl];rfl
 refine ⟨_,_,P4 hA,?_,zlO m3 a v,?_,λx hx=>?_⟩
 .rw [K0,sf,sf,m2];rfl
 .rw [sf,List.nodup_append]
  refine ⟨m4,by simp,λx hx y hy=>?_⟩
  obtain ⟨e,he,rfl⟩:=pC.1 hx
  simp at hy
  have:=m5 e he
  omega
 .rcases gg.1 hx with hx|hx
  .have:=m5 x hx;omega
  .rw [ep.1 hx];exact ri _
theorem eH.turn {es:List MapEntry} {cl j:Nat} {w:ai} {f:MapEntry->MapEntry} (hf:∀ e,(f e).key=.string a/\(f e).val=v/\(f e).born=e.born) (hA:A < H.size) (m2:es.map (λx:MapEntry=>(x.key,x.val))=kv.map (λp=>(Value.string p.1,p.2))) (m3:(kv.map Prod.fst).Nodup) (m4:(es.map (·.born)).Nodup) (m5:∀ x∈es,x.born < cl) (hl:nn kv a=some w)
 (g5:kv[j]? = some (a,w)) (g6:∀ k p,k < j->kv[k]? = some p->a≠p.1):eH (H.set A (.map (es.modify j f) cl)) A (lH kv a v):=by
 have K0:lH kv a v=kv.modify j (λp=>(a,v)):=by unfold lH;rw [hl];exact zuy g5 g6 m3
 have hb:(es.modify j f).map (·.born)=es.map (·.born):=by
  refine xZ λi=>?_
  simp only [lP,H5]
  cases es[i]? with
  |none=>rfl
  |some y=>by_cases fw:j=i <;> simp [fw,(hf y).2.2]
 refine ⟨_,_,P4 hA,?_,zlO m3 a v,by rw [hb];exact m4,λx hx=>?_⟩
 .rw [K0]
  refine xZ λi=>?_
  have hi:=congrArg (λl=>l[i]?) m2
  simp only [lP] at hi
  simp only [lP,H5]
  by_cases fw:j=i
  .subst fw
   rw [g5] at hi ⊢
   cases he:es[j]? with
   |none=>rw [he] at hi;simp at hi
   |some y=>simp [(hf y).1,(hf y).2.1]
  .cases he:es[i]? with
   |none =>
    rw [he] at hi
    cases hk:kv[i]? with
    |none=>rfl
    |some p=>rw [hk] at hi;simp at hi
   |some y =>
    rw [he] at hi
    cases hk:kv[i]? with
    |none=>rw [hk] at hi;simp at hi
    |some p=>rw [hk] at hi;simpa [fw] using hi
 .have h1:x.born∈(es.modify j f).map (·.born):=List.mem_map_of_mem (f:=λx:MapEntry=>x.born) hx
  rw [hb] at h1
  obtain ⟨y,hy,he⟩:=pC.1 h1
  rw [<- he]
  exact m5 y hy
theorem zzY (m:eH h1 A kv) (hd:T.desc t=some (.map kt et)) (hs:T.desc kt=some .string)
 (hK:∀ h',eH h' A (lH kv a v)->ff A (h1.lay bs w) h'->K undef h'):lG (oG T t (.map (some A)) (.string a) v (h1.lay bs w)) K:=by
 obtain ⟨es,cl,m1,m2,m3,m4,m5⟩:=m
 have heq:=zAj (T:=T) hs
 obtain ⟨f1,f2⟩:=W8 (a:=a) heq es kv 0 m2
 have hg:(h1.lay bs w).get A=some (.map es cl):=m1.lay bs w
 have hA:A < (h1.lay bs w).size:=(m1.on bs w).lt
 unfold oG
 simp only [hd,hg,zwP a heq,if_true]
 cases hl:nn kv a with
 |none =>
  rw [f1 hl]
  simp only [dO]
  exact hK _ (eH.put hA m2 m3 m4 m5 hl) (NA hA)
 |some n =>
  obtain ⟨j,e,hj,g2,g3,g4,g5,g6⟩:=f2 n hl
  rw [hj]
  simp only [dO,iA,g2,g3,zrp,if_true]
  exact hK _ (eH.turn (λ_=>⟨rfl,rfl,rfl⟩) hA m2 m3 m4 m5 hl g5 g6) (NA hA)
end
end Go.Am
namespace Go.Am
variable {s:aU} {a b:ae} {l:aN}
def jx (c:Int):Prop:=(97<=c/\c<=122)\/(65<=c/\c<=90)\/(48<=c/\c<=57)\/c=95
def pQ (c:Int):Prop:=(97<=c/\c<=122)\/(48<=c/\c<=57)\/c=95
def HW (s:aU):Prop:=1<=s.size/\∀ i,i < s.size->pQ (j5 s i)
def Y4 (s:aU):Prop:=1<=s.size/\(65<=j5 s 0/\j5 s 0<=90)/\∀ i,i < s.size->jx (j5 s i)
def QE (t:ay):Prop:=if t.v then Y4 t.s else HW t.s
structure ru (a:ae):Prop where
 says:HW a.says
 pred:HW a.pred
 lo:0<=a.n
 hi:a.n<=4
 fx:∀ i:Nat,(i:Int) < a.n->QE (a.arg i)
 rest:∀ i:Nat,a.n<=(i:Int)->i < 4->a.arg i=bD
def Zg (s:aU):Bool:=decide (65<=j5 s 0) && decide (j5 s 0<=90)
structure gY (a:ae):Prop where
 says:Word a.says.data.toList
 pred:Word a.pred.data.toList
 lo:0<=a.n
 hi:a.n<=4
 fx:∀ i:Nat,(i:Int) < a.n->Word (a.arg i).s.data.toList/\(a.arg i).v=Zg (a.arg i).s
 rest:∀ i:Nat,a.n<=(i:Int)->i < 4->a.arg i=bD
theorem zll {c:UInt8} (h:c∈s.data.toList):∃ i,i < s.size/\j5 s i=c.toNat:=by
 obtain ⟨i,hi,he⟩:=zf h
 have ql:i < s.size:=by rw [<- Dz];exact hi
 refine ⟨i,ql,?_⟩
 unfold j5
 have:s[i]? = some s[i]:=by simp [ql]
 rw [this]
 simp only [zh]
 have h2:s[i]=c:=by rw [<- he];rfl
 rw [h2]
theorem YN (h:HW s):Word s.data.toList:=by
 intro c hc
 obtain ⟨i,hi,he⟩:=zll hc
 have:=h.2 i hi
 unfold pQ at this
 unfold oI
 omega
theorem zz4 (h:Y4 s):Word s.data.toList:=by
 intro c hc
 obtain ⟨i,hi,he⟩:=zll hc
 have:=h.2.2 i hi
 unfold jx at this
 unfold oI
 omega
theorem ru.plain (w:ru a):gY a:=by
 refine ⟨YN w.says,YN w.pred,w.lo,w.hi,λi hi=>?_,w.rest⟩
 have h:=w.fx i hi
 unfold QE at h
 cases hv:(a.arg i).v
 .rw [hv] at h
  have h:HW (a.arg i).s:=h
  refine ⟨YN h,?_⟩
  have:=h.2 0 h.1
  unfold pQ at this
  unfold Zg
  rw [eq_comm,Bool.and_eq_false_iff,decide_eq_false_iff_not,decide_eq_false_iff_not]
  omega
 .rw [hv] at h
  have h:Y4 (a.arg i).s:=h
  refine ⟨zz4 h,?_⟩
  unfold Zg
  rw [sk h.2.1.1,sk h.2.1.2]
  rfl
theorem zx2 (a:ae):iG a=Oe a.says.data.toList a.pred.data.toList (nK a):=by
 unfold iG Oe Ip nK Of gk
 cases h:a.args with
 |nil=>simp
 |cons t r=>simp
theorem args_at {i:Nat} (h:i < a.bx):a.args[i]? = some (a.arg i):=by
 have hc:a.bx<=4:=Ii _ _
 unfold ae.args
 rw [qN,aD h]
 have:i=0\/i=1\/i=2\/i=3:=by omega
 rcases this with rfl|rfl|rfl|rfl <;> rfl
theorem Nk (h0:a.says=b.says) (h1:a.pred=b.pred) (h2:a.n=b.n) (h:∀ i,i < 4->a.arg i=b.arg i):a=b:=by
 have e0:=h 0 (by omega)
 have e1:=h 1 (by omega)
 have e2:=h 2 (by omega)
 have e3:=h 3 (by omega)
 obtain ⟨s,p,n,t0,t1,t2,t3⟩:=a
 obtain ⟨s',p',n',u0,u1,u2,u3⟩:=b
 simp only [ae.arg] at e0 e1 e2 e3
 simp only at h0 h1 h2
 subst h0 h1 h2 e0 e1 e2 e3
 rfl
theorem zj1 (w:gY a):∀ x∈nK a,Word x:=by
 intro x hx
 obtain ⟨t,ht,rfl⟩:=pC.1 hx
 obtain ⟨i,hi⟩:=Gd ht
 have aT:i < a.bx:=by
  have h1:=(fG.1 hi).1
  unfold ae.args at h1
  rw [gR] at h1
  omega
 rw [args_at aT] at hi
 cases hi
 have:(i:Int) < a.n:=by
  have:a.bx<=a.n.toNat:=yb _ _
  omega
 exact (w.fx i this).1
theorem zpq (wa:gY a) (wb:gY b) (h:iG a=iG b):a=b:=by
 rw [zx2,zx2] at h
 obtain ⟨h1,h2,h3⟩:=zzR wa.says wb.says wa.pred wb.pred (zj1 wa) (zj1 wb) h
 have hlen:=congrArg List.length h3
 have jq:(a.bx:Int)=a.n:=by
  have:=wa.lo;have:=wa.hi
  unfold ae.bx
  omega
 have jN:(b.bx:Int)=b.n:=by
  have:=wb.lo;have:=wb.hi
  unfold ae.bx
  omega
 have O4:(nK a).length=a.bx:=by
  have:a.bx<=4:=Ii _ _
  unfold nK ae.args
  rw [gw,gR]
  simp only [ek,db]
  omega
 have Ae:(nK b).length=b.bx:=by
  have:b.bx<=4:=Ii _ _
  unfold nK ae.args
  rw [gw,gR]
  simp only [ek,db]
  omega
 rw [O4,Ae] at hlen
 have hn:a.n=b.n:=by omega
 refine Nk (F5 h1) (F5 h2) hn (λi hi=>?_)
 by_cases aP:(i:Int) < a.n
 .have e1:=args_at (a:=a) (i:=i) (by omega)
  have e2:=args_at (a:=b) (i:=i) (by omega)
  have e3:(nK a)[i]? = (nK b)[i]? := by rw [h3]
  unfold nK at e3
  rw [lP,lP,e1,e2] at e3
  simp only [lu,eh] at e3
  have es:=F5 e3
  have ev:=(wa.fx i aP).2
  have ew:=(wb.fx i (by omega)).2
  rw [es] at ev
  have:(a.arg i).v=(b.arg i).v:=ev.trans ew.symm
  calc a.arg i=⟨(a.arg i).v,(a.arg i).s⟩:=rfl
   _=⟨(b.arg i).v,(b.arg i).s⟩:=by rw [this,es]
   _=b.arg i:=rfl
 .rw [wa.rest i (by omega) hi,wb.rest i (by omega) hi]
theorem zxB (wa:gY a) (wb:gY b):bj a b=0↔a=b:=⟨λh=>zpq wa wb (je.1 h),λh=>by rw [h];exact FR _⟩
def lx (l:aN):Prop:=∀ x∈l,gY x
theorem lx.app {m:aN} (h:lx l) (g:lx m):lx (l++m):=λx hx=>(gg.1 hx).elim (h x) (g x)
theorem CP (h:lx l) {x:ae}:x∈gW l↔x∈l:=by
 refine ⟨λhx=>(yQ l).mem hx,λhx=>?_⟩
 obtain ⟨y,hy,e⟩:=(yQ l).BU x hx
 have:=zpq (h y ((yQ l).mem hy)) (h x hx) e
 subst this
 exact hy
theorem zxN {m:aN} (h:lx l) (g:lx m) (e:∀ x,x∈l↔x∈m):gW l=gW m :=
 Ia (yQ l).kJ (yQ m).kJ (λx=>by rw [CP h,CP g,e])
theorem ztH (p:ae->Bool) (h:gh l):gh (l.filter p):=h.sublist List.filter_sublist
end Go.Am
namespace Go.Am
variable {a:ae}
def kX (s:aU):Prop:=(⟨#[115,97,121,115]⟩:aU)=s\/(⟨#[105,102]⟩:aU)=s\/(⟨#[99,97,110,115,97,121]⟩:aU)=s\/(⟨#[112,114,105,110,99,105,112,97,108]⟩:aU)=s\/(⟨#[112,114,101,100]⟩:aU)=s\/(⟨#[99,108,101,97,114]⟩:aU)=s\/(⟨#[113,117,111,116,97]⟩:aU)=s\/(⟨#[98,117,100,103,101,116]⟩:aU)=s
structure AO (s:aU):Prop where
 pos:1<=s.size
 len:s.size<=255
 first:j5 s 0≠95
 all:∀ i,i < s.size->pQ (j5 s i)
def cJ (s:aU):Prop:=AO s/\¬ kX s
def qK (s:aU):Prop:=cJ s/\(97<=j5 s 0/\j5 s 0<=122)
structure qH (s:aU):Prop where
 pos:1<=s.size
 len:s.size<=255
 first:65<=j5 s 0/\j5 s 0<=90
 all:∀ i,i < s.size->jx (j5 s i)
def dh (t:ay):Prop:=if t.v=true then qH t.s else cJ t.s
structure bg (a:ae):Prop where
 says:qK a.says
 pred:qK a.pred
 lo:0<=a.n
 hi:a.n<=4
 fx:∀ i:Nat,(i:Int) < a.n->dh (a.arg i)
 rest:∀ i:Nat,a.n<=(i:Int)->i < 4->a.arg i=bD
theorem cJ.low {s:aU} (h:cJ s):HW s:=⟨h.1.pos,h.1.all⟩
theorem dh.ok {t:ay} (h:dh t):QE t:=by
 unfold dh at h
 unfold QE
 split at h
 .rename_i hv
  rw [hv]
  exact ⟨h.pos,h.first,h.all⟩
 .rename_i hv
  rw [show t.v=false by simpa using hv]
  exact h.low
theorem bg.valid (h:bg a):ru a:=⟨h.says.1.low,h.pred.1.low,h.lo,h.hi,λi hi=>(h.fx i hi).ok,h.rest⟩
def la (a:ae) (x:aU):Prop:=∃ i:Nat,i < 4/\(i:Int) < a.n/\(a.arg i).v=true/\(a.arg i).s=x
structure jI (c:ak):Prop where
 head:bg c.head
 body:∀ b∈c.body,bg b
 mM:∀ x,la c.head x->∃ b∈c.body,la b x
structure bF (a:ae):Prop where
 valid:bg a
 ground:a.ground=true
structure du (cl:List ak) (facts:aN):Prop where
 clauses:∀ c∈cl,jI c
 facts:∀ a∈facts,bF a
theorem lQ {t:ay}:t∈a.args↔∃ i:Nat,i < a.bx/\a.arg i=t:=by
 have h4:a.bx=0\/a.bx=1\/a.bx=2\/a.bx=3\/a.bx=4:=by unfold ae.bx;omega
 unfold ae.args
 have one:∀ {n:Nat} {P:Nat->Prop},(∃ i,i < n+1/\P i)↔(∃ i,i < n/\P i)\/P n:=by
  intro n P
  constructor
  .rintro ⟨i,hi,hp⟩
   by_cases e:i=n
   .subst e;exact .inr hp
   .exact .inl ⟨i,by omega,hp⟩
  .rintro (⟨i,hi,hp⟩|hp)
   .exact ⟨i,by omega,hp⟩
   .exact ⟨n,by omega,hp⟩
 rcases h4 with e|e|e|e|e <;> rw [e] <;> simp [one,ae.arg,eq_comm,or_assoc]
theorem dG:a.ground=true↔∀ i:Nat,i < a.bx->(a.arg i).v=false:=by
 unfold ae.ground
 rw [zi,NN]
 constructor
 .intro h i hi
  have:=h (a.arg i) (lQ.2 ⟨i,hi,rfl⟩)
  simpa using this
 .intro h t ht
  obtain ⟨i,hi,rfl⟩:=lQ.1 ht
  simpa using h i hi
theorem bX {i:Nat}:i < a.bx↔i < 4/\(i:Int) < a.n:=by
 unfold ae.bx
 omega
theorem jl {x:aU}:la a x↔∃ i:Nat,i < a.bx/\(a.arg i).v=true/\(a.arg i).s=x:=by
 constructor
 .rintro ⟨i,h1,h2,h3,h4⟩
  exact ⟨i,bX.2 ⟨h1,h2⟩,h3,h4⟩
 .rintro ⟨i,h1,h3,h4⟩
  exact ⟨i,(bX.1 h1).1,(bX.1 h1).2,h3,h4⟩
theorem MY {T:bJ} {t u:TypeId} {w n i:Nat} {cs vs:List ai} {v:ai} {h1:Heap} {bs:List aZ} {K:aJ} (hb:bs[i]? = some (.row cs u false)) (hs:dJ T t=some n) (hc:cs.length=n) (hv:v.cells.toList=vs) (hl:vs.length=n) (yA:vs.all one=true)
 (hK:K undef (h1.lay (bs.set i (.row vs u false)) (min w (h1.size+i)))):lG (i7 T t (.pointer (some ⟨h1.size+i,0,none⟩)) v (h1.lay bs w)) K:=by
 have hi:=(fG.1 hb).1
 have hg:(h1.lay bs w).get (h1.size+i)=some (.row cs u false):=by rw [jG];exact hb
 have dS:v.cells.size=n:=by rw [<- vu,hv,hl]
 have dD:aI cs 0 vs=vs:=by
  unfold aI
  rw [Dp,ya,List.drop_eq_nil_of_le (by omega),bC]
 have he:i7 T t (.pointer (some ⟨h1.size+i,0,none⟩)) v (h1.lay bs w)=some ((h1.lay bs w).set (h1.size+i) (.row vs u false)):=by
  unfold i7
  simp only [hs,dO]
  rw [aD dS,hv]
  unfold nM
  rw [hg]
  simp only
  rw [aD (by simp only [dK,jm];exact ⟨by omega,yA⟩),dD]
 rw [he,HV _ _ _ _ _ hi]
 exact hK
end Go.Am
namespace Go.Am
def atR (l:List bc) (a:ae):Int:=nA (λx=>decide (x.atom=a)) l
end Go.Am
