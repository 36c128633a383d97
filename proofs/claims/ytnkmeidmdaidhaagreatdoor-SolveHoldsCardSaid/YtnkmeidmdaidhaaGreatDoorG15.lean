/- Walks: interfaces, entries of maps. No condition. -/
import Derived.Test.YtnkmeidmdaidhaaGreatDoorG14
import Derived.Test.YtnkmeidmdaidhaaGreatDoorG6
set_option linter.unusedSimpArgs false
set_option linter.unusedVariables false
namespace Go.Am
variable {H:Heap}
section
variable {P:Program} {T:bN} {ov:Ov} {d:Option Tmp} {ty:TypeId} {pos:String} {af:Array Edge} {g:Option (Nat × Bool)} {e:Env} {h:Heap} {K:aO}
end
def ep (h:Heap) (A:Nat) (kv:List (aV × ai)):Prop:=∃ es clock,ak h A (.map es clock)/\es.map (λx:MapEntry=>(x.key,x.val))=kv.map (λp=>(Value.string p.1,p.2))/\(kv.map Prod.fst).Nodup/\(es.map (·.born)).Nodup/\∀ x∈es,x.born < clock
def mL (kv:List (aV × ai)) (a:aV):Option ai:=(kv.find? (λp=>decide (a=p.1))).map (·.2)
def la (kv:List (aV × ai)) (a:aV) (v:ai):List (aV × ai):=if (mL kv a).isSome then kv.map (λp=>if a=p.1 then (a,v) else p) else kv++[(a,v)]
theorem VL (p:aV × ai) (kv:List (aV × ai)) (a:aV):mL (p::kv) a=if a=p.1 then some p.2 else mL kv a:=by
 unfold mL
 by_cases h:a=p.1
 .rw [List.find?_cons_of_pos (by simpa using h),aB h];rfl
 .rw [List.find?_cons_of_neg (by simpa using h),aA h]
theorem rp {kv:List (aV × ai)} {a:aV}:mL kv a=none↔a ∉ kv.map Prod.fst:=by
 induction kv with
 |nil=>simp [mL]
 |cons p kv ih =>
  rw [VL]
  by_cases h:a=p.1
  .simp [h]
  .rw [aA h,ih]
   simp [h]
theorem zwK (kv:List (aV × ai)) (a:aV) (v:ai):(la kv a v).map Prod.fst=if (mL kv a).isSome then kv.map Prod.fst else kv.map Prod.fst++[a]:=by
 unfold la
 split
 .rw [List.map_map]
  congr 1
  funext p
  simp only [Function.comp]
  split
  .rename_i h;exact h
  .rfl
 .rw [sG];rfl
theorem zlB {kv:List (aV × ai)} (hn:(kv.map Prod.fst).Nodup) (a:aV) (v:ai):((la kv a v).map Prod.fst).Nodup:=by
 rw [zwK]
 split
 .exact hn
 .rename_i hs
  rw [List.nodup_append]
  refine ⟨hn,by simp,λx hx y hy=>?_⟩
  rw [eM] at hy
  subst hy
  intro e
  subst e
  have:mL kv x=none:=by
   cases hl:mL kv x with
   |none=>rfl
   |some w=>rw [hl] at hs;exact absurd rfl hs
  exact rp.1 this hx
theorem zzd {T:bN} {kt:TypeId} (hd:T.desc kt=some .string) (x y:aV):dy T 20 kt (.string x) (.string y)=some (decide (x=y)):=by
 unfold dy
 simp only [hd]
 congr 1
 rw [Bool.eq_iff_iff,decide_eq_true_iff,beq_iff_eq]
 exact ⟨λh=>ByteArray.ext (Md.1 h),λh=>by rw [h]⟩
theorem U9 {T:bN} {kt:TypeId} {a:aV} (heq:∀ x y:aV,dy T 20 kt (.string x) (.string y)=some (decide (x=y))):∀ (es:List MapEntry) (kv:List (aV × ai)) (i:Nat),es.map (λx:MapEntry=>(x.key,x.val))=kv.map (λp=>(Value.string p.1,p.2)) ->
 (mL kv a=none->lH T kt (.string a) es i=some none)/\∀ v,mL kv a=some v->∃ (j:Nat) (e:MapEntry),lH T kt (.string a) es i=some (some (i+j,v))/\es[j]? = some e/\e.key=.string a/\e.val=v/\kv[j]? = some (a,v)/\∀ k p,k < j->kv[k]? = some p->a≠p.1
 | [],kv,i,hk=>by
  cases kv with
  |nil=>exact ⟨λ_=>rfl,λn h=>by simp [mL] at h⟩
  |cons k kv=>simp at hk
 |e::es,kv,i,hk=>by
  cases kv with
  |nil=>simp at hk
  |cons k kv =>
   simp only [qG,List.cons.injEq,cR] at hk
   obtain ⟨h1,h2⟩:=U9 heq es kv (i+1) hk.2
   unfold lH
   rw [hk.1.1,heq,VL]
   by_cases hx:a=k.1
   .rw [sH hx,aB hx]
    refine ⟨(λh=>by cases h),λv hv=>?_⟩
    cases hv
    refine ⟨0,e,by simp [hk.1.2],rfl,by rw [hk.1.1,hx],hk.1.2,by rw [hx];rfl,λk je=>by omega⟩
   .rw [tO hx,aA hx]
    simp only [dH,gH,if_false]
    refine ⟨h1,λv hv=>?_⟩
    obtain ⟨j,e',g1,g2,g3,g4,g5,g6⟩:=h2 v hv
    refine ⟨j+1,e',?_,by simpa using g2,g3,g4,by simpa using g5,λq p hq hp=>?_⟩
    .rw [g1,show i+1+j=i+(j+1) by omega]
    .cases q with
     |zero=>rw [Cb] at hp;cases hp;exact hx
     |succ q=>exact g6 q p (by omega) (by simpa using hp)
theorem zvW {T:bN} {kt:TypeId} (a:aV) (heq:∀ x y:aV,dy T 20 kt (.string x) (.string y)=some (decide (x=y))):rJ T kt (.string a)=true:=by
 unfold rJ
 rw [show plain (.string a)=true from rfl,heq]
 simp
theorem ztM {kv:List (aV × ai)} {a:aV} {v w:ai}:∀ {j:Nat},kv[j]? = some (a,w)->(∀ k p,k < j->kv[k]? = some p->a≠p.1)->(kv.map Prod.fst).Nodup->kv.map (λp=>if a=p.1 then (a,v) else p)=kv.modify j (λp=>(a,v)):=by
 induction kv with
 |nil=>intro j h;simp at h
 |cons p kv ih =>
  intro j hj bc hn
  rw [qG,List.nodup_cons] at hn
  cases j with
  |zero =>
   rw [Cb] at hj
   cases hj
   rw [qG,aB rfl,List.modify_zero_cons]
   congr 1
   rw [Cd (g:=id),List.map_id]
   intro q hq
   rw [aA]
   .rfl
   .intro e
    exact hn.1 (by show a∈_;rw [e];exact List.mem_map_of_mem (f:=Prod.fst) hq)
  |succ j =>
   rw [qG,aA (bc 0 p (by omega) rfl),List.modify_succ_cons,ih (by simpa using hj) (λk q hk hq=>bc (k+1) q (by omega) (by simpa using hq)) hn.2]
section
variable {T:bN} {t kt et:TypeId} {A:Nat} {kv:List (aV × ai)} {a:aV} {v:ai} {h h1 h2:Heap} {bs:List aZ} {w:Nat} {K:aO}
theorem ep.lt (m:ep h A kv):A < h.size:=by obtain ⟨es,cl,m1,m2⟩:=m;exact m1.lt
theorem ep.hold (m:ep h A kv) (hO:∀ b,ak h A b->ak H A b):ep H A kv:=by
 obtain ⟨es,cl,m1,m2⟩:=m
 exact ⟨es,cl,hO _ m1,m2⟩
theorem ep.over (m:ep h1 A kv) (x:Ext (h1.lay bs w) h2):ep h2 A kv:=m.hold λb q=>q.over x
theorem ep.lay (m:ep h1 A kv) (bs:List aZ) (w:Nat):ep (h1.lay bs w) A kv:=m.hold λb q=>q.on bs w
theorem ep.new (q:ak h A (.map [] 0)):ep h A []:=⟨[],0,q,rfl,by simp,by simp,λ_ hx=>by simp at hx⟩
theorem ep.bB (m:ep h1 A kv) {B:Nat} (c:fc B (h1.lay bs w) h2) (aL:A≠B):ep h2 A kv:=m.hold λb q=>q.bB c aL
theorem ztI {ok:Bool} {z:ai} (m:ep h1 A kv) (hd:T.desc t=some (.map kt et)) (hs:T.desc kt=some .string) (hz:T.zero et=some z)
 (hK:K (if ok then .tuple #[(mL kv a).getD z,.bool (mL kv a).isSome] else (mL kv a).getD z) (h1.lay bs w)):aM (uq T t (.map (some A)) (.string a) ok (h1.lay bs w)) (h1.lay bs w) K:=by
 obtain ⟨es,cl,m1,m2,m3⟩:=m
 have heq:=zzd (T:=T) hs
 obtain ⟨f1,f2⟩:=U9 (a:=a) heq es kv 0 m2
 have hg:(h1.lay bs w).get A=some (.map es cl):=m1.lay bs w
 unfold uq
 simp only [hd,zvW a heq,if_true,Fq,hg,dH]
 cases hl:mL kv a with
 |none =>
  rw [hl] at hK
  rw [f1 hl]
  simp only [hz,dH,kK]
  exact hK
 |some n =>
  rw [hl] at hK
  obtain ⟨j,e,hj,_⟩:=f2 n hl
  rw [hj]
  simp only [dH,kK]
  exact hK
theorem Uq (m:ep h1 A kv) (hd:T.desc t=some (.map kt et)):bW T t (.map (some A)) (h1.lay bs w)=some (.int .i64 kv.length):=by
 obtain ⟨es,cl,m1,m2,m3⟩:=m
 have hg:(h1.lay bs w).get A=some (.map es cl):=m1.lay bs w
 have hl:es.length=kv.length:=by have:=congrArg List.length m2;simpa using this
 unfold bW
 simp only [hd,hg,hl]
theorem LO {b:aZ} (hA:A < H.size):fc A H (H.set A b):=⟨by rw [Heap.size_set];exact aQ _,λB hB aL=>by rw [Heap.aH _ _ _ _ hA,aA aL],by rw [Heap.cA];omega⟩
theorem Oo {b:aZ} (hA:A < H.size):ak (H.set A b) A b:=⟨by rw [Heap.size_set];exact hA,by rw [Heap.aH _ _ _ _ hA,aB rfl]⟩
theorem zqS (a:aV):B3 (.string a) (.string a)=true:=by unfold B3 Ap;simp
theorem ep.put {es:List MapEntry} {cl:Nat} (hA:A < H.size) (m2:es.map (λx:MapEntry=>(x.key,x.val))=kv.map (λp=>(Value.string p.1,p.2))) (m3:(kv.map Prod.fst).Nodup) (m4:(es.map (·.born)).Nodup) (m5:∀ x∈es,x.born < cl) (hl:mL kv a=none) :
 ep (H.set A (.map (es++[{ key:=.string a,val:=v,born:=cl }]) (cl+1))) A (la kv a v):=by
 have JG:la kv a v=kv++[(a,v)]:=by unfold la;rw [hl];rfl
 refine ⟨_,_,Oo hA,?_,zlB m3 a v,?_,λx hx=>?_⟩
 .rw [JG,sG,sG,m2];rfl
 .rw [sG,List.nodup_append]
  refine ⟨m4,by simp,λx hx y hy=>?_⟩
  obtain ⟨e,he,rfl⟩:=ph.1 hx
  simp at hy
  have:=m5 e he
  omega
 .rcases iT.1 hx with hx|hx
  .have:=m5 x hx;omega
  .rw [eM.1 hx];exact nj _
theorem ep.turn {es:List MapEntry} {cl j:Nat} {w:ai} {f:MapEntry->MapEntry} (hf:∀ e,(f e).key=.string a/\(f e).val=v/\(f e).born=e.born) (hA:A < H.size) (m2:es.map (λx:MapEntry=>(x.key,x.val))=kv.map (λp=>(Value.string p.1,p.2))) (m3:(kv.map Prod.fst).Nodup) (m4:(es.map (·.born)).Nodup) (m5:∀ x∈es,x.born < cl) (hl:mL kv a=some w)
 (g5:kv[j]? = some (a,w)) (g6:∀ k p,k < j->kv[k]? = some p->a≠p.1):ep (H.set A (.map (es.modify j f) cl)) A (la kv a v):=by
 have JG:la kv a v=kv.modify j (λp=>(a,v)):=by unfold la;rw [hl];exact ztM g5 g6 m3
 have hb:(es.modify j f).map (·.born)=es.map (·.born):=by
  refine xi λi=>?_
  simp only [lk,GU]
  cases es[i]? with
  |none=>rfl
  |some y=>by_cases fk:j=i <;> simp [fk,(hf y).2.2]
 refine ⟨_,_,Oo hA,?_,zlB m3 a v,by rw [hb];exact m4,λx hx=>?_⟩
 .rw [JG]
  refine xi λi=>?_
  have hi:=congrArg (λl=>l[i]?) m2
  simp only [lk] at hi
  simp only [lk,GU]
  by_cases fk:j=i
  .subst fk
   rw [g5] at hi ⊢
   cases he:es[j]? with
   |none=>rw [he] at hi;simp at hi
   |some y=>simp [(hf y).1,(hf y).2.1]
  .cases he:es[i]? with
   |none =>
    rw [he] at hi
    cases hk:kv[i]? with
    |none=>rfl
    |some p=>rw [hk] at hi;simp at hi
   |some y =>
    rw [he] at hi
    cases hk:kv[i]? with
    |none=>rw [hk] at hi;simp at hi
    |some p=>rw [hk] at hi;simpa [fk] using hi
 .have h1:x.born∈(es.modify j f).map (·.born):=List.mem_map_of_mem (f:=λx:MapEntry=>x.born) hx
  rw [hb] at h1
  obtain ⟨y,hy,he⟩:=ph.1 h1
  rw [<- he]
  exact m5 y hy
theorem zyS (m:ep h1 A kv) (hd:T.desc t=some (.map kt et)) (hs:T.desc kt=some .string)
 (hK:∀ h',ep h' A (la kv a v)->fc A (h1.lay bs w) h'->K undef h'):kX (nN T t (.map (some A)) (.string a) v (h1.lay bs w)) K:=by
 obtain ⟨es,cl,m1,m2,m3,m4,m5⟩:=m
 have heq:=zzd (T:=T) hs
 obtain ⟨f1,f2⟩:=U9 (a:=a) heq es kv 0 m2
 have hg:(h1.lay bs w).get A=some (.map es cl):=m1.lay bs w
 have hA:A < (h1.lay bs w).size:=(m1.on bs w).lt
 unfold nN
 simp only [hd,hg,zvW a heq,if_true]
 cases hl:mL kv a with
 |none =>
  rw [f1 hl]
  simp only [dH]
  exact hK _ (ep.put hA m2 m3 m4 m5 hl) (LO hA)
 |some n =>
  obtain ⟨j,e,hj,g2,g3,g4,g5,g6⟩:=f2 n hl
  rw [hj]
  simp only [dH,i5,g2,g3,zqS,if_true]
  exact hK _ (ep.turn (λ_=>⟨rfl,rfl,rfl⟩) hA m2 m3 m4 m5 hl g5 g6) (LO hA)
end
end Go.Am
namespace Go.Am
variable {a:ae}
def MB:List UInt8:=[32,115,97,121,115,32]
def fY:List UInt8:=[44,32]
def ng (a:ae):List (List UInt8):=a.args.map λt=>t.s.data.toList
def iu (a:ae):List UInt8:=a.says.data.toList++MB++a.pred.data.toList++(if a.args=[] then [] else [40]++Lib.join (ng a) fY++[41])
def bg (a b:ae):Int:=Lib.compareBytes (iu a) (iu b)
theorem L9 (a b:aV):(a++b).data.toList=a.data.toList++b.data.toList:=by
 rw [ByteArray.data_append,Array.toList_append]
theorem Cx (x:aV):x.data.toList.length=x.size:=by rw [uE];rfl
theorem zwR {row:List ai}:∀ (xs:List aV) (o:Nat),(∀ (i:Nat) (x:aV),xs[i]? = some x->cut row (o+i) 1=some [.string x])->cut row o xs.length=some (xs.map Value.string)\/xs=[]
 | [],o,h=>.inr rfl
 |x::xs,o,h=>by
  left
  have h0:=h 0 x rfl
  rw [gS] at h0
  have hr:=zwR xs (o+1) (λi y hy=>by
   have:=h (i+1) y hy
   rwa [show o+(i+1)=o+1+i by omega] at this)
  unfold cut at h0 hr ⊢
  split at h0
  .rename_i hle
   simp only [dR] at h0
   rcases hr with hr|rfl
   .split at hr
    .rename_i ahY
     simp only [dR] at hr
     rw [aB (by simp only [eB];omega)]
     simp only [eB,qG,dR]
     have e1:(row.drop o).take (xs.length+1)=(row.drop o).take 1++((row.drop o).drop 1).take xs.length:=by
      rw [Nat.add_comm,List.take_add]
     rw [e1,h0,Fh,hr]
     rfl
    .cases hr
   .rw [aB (by simp only [eB,dK];omega)]
    simp only [eB,dK,qG,List.map_nil]
    rw [h0]
  .cases h0
theorem zyF (xs:List aV):strs (xs.map Value.string)=some xs:=by
 induction xs with
 |nil=>rfl
 |cons x xs ih=>simp only [qG,strs,ih,kK]
theorem zAj {h:Heap} {v:ai} {xs:List aV} {sep:aV} (f:Sl aG.str h v xs) (aL:xs≠[]) (hl:xs.length<=1000) (hj:(Lib.join (xs.map (·.data.toList)) sep.data.toList).length<=100000) :
 Fm [v,.string sep] h=some (.string ⟨(Lib.join (xs.map (·.data.toList)) sep.data.toList).toArray⟩,h):=by
 rcases f with ⟨_,e⟩|⟨A,o,c,row,u,ro,rfl,_,_,_,hg,yN⟩
 .exact absurd e aL
 .have mf:xs.length≠0:=λe=>aL (Cc.1 e)
  have hc:cut row o xs.length=some (xs.map Value.string):=by
   rcases zwR (row:=row) xs o (λi x hx=>by
    obtain ⟨cs,g1,g2⟩:=yN i x hx
    have g2':cs=[.string x]:=g2
    rw [g2'] at g1
    have g1':cut row (o+i*1) 1=some [.string x]:=g1
    rwa [Nat.mul_one] at g1') with h1|h1
   .exact h1
   .exact absurd h1 aL
  unfold Fm
  simp only [mf,if_false,kA,hg,hc,dH,zyF]
  rw [aB ⟨by omega,by omega⟩]
theorem zAh {a b d:Heap} {A:Nat} (i:bP a b) (c:fc A b d) (hA:a.size<=A):bP a d:=⟨dZ i.size c.size,λB hB hd=>(c.get B (dt hB i.size) (by omega)).trans (i.get B hB hd)⟩
theorem zw4 (h:a.args.length=0):iu a=a.says.data.toList++MB++a.pred.data.toList:=by
 have:a.args=[]:=Cc.1 h
 unfold iu
 rw [aB this,bD]
theorem zA7 {s:aV} {l:List UInt8} (h:s.data.toList=l):s=⟨l.toArray⟩:=by
 apply EV
 rw [h]
theorem zrU:∀ (l:List (List UInt8)) (m:Nat),(∀ x∈l,x.length<=m)->(Lib.join l fY).length<=l.length*(m+2)
 | [],m,_=>by simp [Lib.join]
 | [x],m,h=>by
  rw [Lib.join_one]
  have:=h x (by simp)
  simp
  omega
 |x::y::l,m,h=>by
  have e:(Lib.join (x::y::l) fY).length=x.length+fY.length+(Lib.join (y::l) fY).length:=by simp [Lib.join,List.intercalate];omega
  have h1:=zrU (y::l) m (λz hz=>h z (by simp only [db] at hz ⊢;exact .inr hz))
  have h2:=h x (by simp)
  have h3:fY.length=2:=rfl
  rw [e]
  simp only [eB,uK] at h1 ⊢
  omega
theorem ztD (h:a.bQ=true):∀ t∈a.args,t.s.size<=300:=by
 intro t ht
 have h1:=List.mem_of_mem_take ht
 simp only [db,hY,or_false] at h1
 rcases h1 with rfl|rfl|rfl|rfl
 .exact Lo h 0
 .exact Lo h 1
 .exact Lo h 2
 .exact Lo h 3
theorem zty (h:a.bQ=true):(Lib.join (ng a) fY).length<=1300:=by
 have h1:=zrU (ng a) 300 (λx hx=>by
  unfold ng at hx
  obtain ⟨t,ht,rfl⟩:=ph.1 hx
  rw [Cx]
  exact ztD h t ht)
 have h2:(ng a).length<=4:=by
  unfold ng
  rw [gq,zL]
  unfold ae.bt
  omega
 have h3:(ng a).length*(300+2)<=4*302:=tN _ h2
 omega
theorem zw5 (h:¬ a.args.length=0):iu a=a.says.data.toList++MB++a.pred.data.toList++[40]++Lib.join (ng a) fY++[41]:=by
 have:a.args≠[]:=λe=>h (by rw [e];rfl)
 unfold iu
 rw [aA this]
 simp only [sE]
end Go.Am
