/- Walks: interfaces, entries of maps. No condition. -/
import Derived.Test.YtnkmeidmdaidhaaGreatDoorG15
import Derived.Test.YtnkmeidmdaidhaaGreatDoorG6
set_option linter.unusedSimpArgs false
set_option linter.unusedVariables false
namespace Go.Am
variable {H:Heap}
section
variable {P:Program} {T:bx} {ov:Ov} {d:Option Tmp} {ty:TypeId} {pos:String} {af:Array Edge} {g:Option (Nat × Bool)} {e:Env} {h:Heap} {K:aL}
end
def eB (h:Heap) (A:Nat) (kv:List (bf × ai)):Prop:=∃ es clock,ak h A (.map es clock)/\es.map (λx:MapEntry=>(x.key,x.val))=kv.map (λp=>(Value.string p.1,p.2))/\(kv.map Prod.fst).Nodup/\(es.map (·.born)).Nodup/\∀ x∈es,x.born < clock
def lj (kv:List (bf × ai)) (a:bf):Option ai:=(kv.find? (λp=>decide (a=p.1))).map (·.2)
def jN (kv:List (bf × ai)) (a:bf) (v:ai):List (bf × ai):=if (lj kv a).isSome then kv.map (λp=>if a=p.1 then (a,v) else p) else kv++[(a,v)]
theorem Tt (p:bf × ai) (kv:List (bf × ai)) (a:bf):lj (p::kv) a=if a=p.1 then some p.2 else lj kv a:=by
 unfold lj
 by_cases h:a=p.1
 .rw [List.find?_cons_of_pos (by simpa using h),aG h];rfl
 .rw [List.find?_cons_of_neg (by simpa using h),aA h]
theorem py {kv:List (bf × ai)} {a:bf}:lj kv a=none↔a ∉ kv.map Prod.fst:=by
 induction kv with
 |nil=>simp [lj]
 |cons p kv ih =>
  rw [Tt]
  by_cases h:a=p.1
  .simp [h]
  .rw [aA h,ih]
   simp [h]
theorem zvH (kv:List (bf × ai)) (a:bf) (v:ai):(jN kv a v).map Prod.fst=if (lj kv a).isSome then kv.map Prod.fst else kv.map Prod.fst++[a]:=by
 unfold jN
 split
 .rw [List.map_map]
  congr 1
  funext p
  simp only [Function.comp]
  split
  .rename_i h;exact h
  .rfl
 .rw [rM];rfl
theorem zkV {kv:List (bf × ai)} (hn:(kv.map Prod.fst).Nodup) (a:bf) (v:ai):((jN kv a v).map Prod.fst).Nodup:=by
 rw [zvH]
 split
 .exact hn
 .rename_i hs
  rw [List.nodup_append]
  refine ⟨hn,by simp,λx hx y hy=>?_⟩
  rw [ek] at hy
  subst hy
  intro e
  subst e
  have:lj kv x=none:=by
   cases hl:lj kv x with
   |none=>rfl
   |some w=>rw [hl] at hs;exact absurd rfl hs
  exact py.1 this hx
theorem zx4 {T:bx} {kt:TypeId} (hd:T.desc kt=some .string) (x y:bf):cV T 20 kt (.string x) (.string y)=some (decide (x=y)):=by
 unfold cV
 simp only [hd]
 congr 1
 rw [Bool.eq_iff_iff,decide_eq_true_iff,beq_iff_eq]
 exact ⟨λh=>ByteArray.ext (Ke.1 h),λh=>by rw [h]⟩
theorem U7 {T:bx} {kt:TypeId} {a:bf} (heq:∀ x y:bf,cV T 20 kt (.string x) (.string y)=some (decide (x=y))):∀ (es:List MapEntry) (kv:List (bf × ai)) (i:Nat),es.map (λx:MapEntry=>(x.key,x.val))=kv.map (λp=>(Value.string p.1,p.2)) ->
 (lj kv a=none->j6 T kt (.string a) es i=some none)/\∀ v,lj kv a=some v->∃ (j:Nat) (e:MapEntry),j6 T kt (.string a) es i=some (some (i+j,v))/\es[j]? = some e/\e.key=.string a/\e.val=v/\kv[j]? = some (a,v)/\∀ k p,k < j->kv[k]? = some p->a≠p.1
 | [],kv,i,hk=>by
  cases kv with
  |nil=>exact ⟨λ_=>rfl,λn h=>by simp [lj] at h⟩
  |cons k kv=>simp at hk
 |e::es,kv,i,hk=>by
  cases kv with
  |nil=>simp at hk
  |cons k kv =>
   simp only [pR,List.cons.injEq,cx] at hk
   obtain ⟨h1,h2⟩:=U7 heq es kv (i+1) hk.2
   unfold j6
   rw [hk.1.1,heq,Tt]
   by_cases hx:a=k.1
   .rw [wm hx,aG hx]
    refine ⟨(λh=>by cases h),λv hv=>?_⟩
    cases hv
    refine ⟨0,e,by simp [hk.1.2],rfl,by rw [hk.1.1,hx],hk.1.2,by rw [hx];rfl,λk iw=>by omega⟩
   .rw [su hx,aA hx]
    simp only [dz,fF,if_false]
    refine ⟨h1,λv hv=>?_⟩
    obtain ⟨j,e',g1,g2,g3,g4,g5,g6⟩:=h2 v hv
    refine ⟨j+1,e',?_,by simpa using g2,g3,g4,by simpa using g5,λq p hq hp=>?_⟩
    .rw [g1,show i+1+j=i+(j+1) by omega]
    .cases q with
     |zero=>rw [EO] at hp;cases hp;exact hx
     |succ q=>exact g6 q p (by omega) (by simpa using hp)
theorem zuY {T:bx} {kt:TypeId} (a:bf) (heq:∀ x y:bf,cV T 20 kt (.string x) (.string y)=some (decide (x=y))):pL T kt (.string a)=true:=by
 unfold pL
 rw [show plain (.string a)=true from rfl,heq]
 simp
theorem zsP {kv:List (bf × ai)} {a:bf} {v w:ai}:∀ {j:Nat},kv[j]? = some (a,w)->(∀ k p,k < j->kv[k]? = some p->a≠p.1)->(kv.map Prod.fst).Nodup->kv.map (λp=>if a=p.1 then (a,v) else p)=kv.modify j (λp=>(a,v)):=by
 induction kv with
 |nil=>intro j h;simp at h
 |cons p kv ih =>
  intro j hj aW hn
  rw [pR,List.nodup_cons] at hn
  cases j with
  |zero =>
   rw [EO] at hj
   cases hj
   rw [pR,aG rfl,List.modify_zero_cons]
   congr 1
   rw [Dh (g:=id),List.map_id]
   intro q hq
   rw [aA]
   .rfl
   .intro e
    exact hn.1 (by show a∈_;rw [e];exact List.mem_map_of_mem (f:=Prod.fst) hq)
  |succ j =>
   rw [pR,aA (aW 0 p (by omega) rfl),List.modify_succ_cons,ih (by simpa using hj) (λk q hk hq=>aW (k+1) q (by omega) (by simpa using hq)) hn.2]
section
variable {T:bx} {t kt et:TypeId} {A:Nat} {kv:List (bf × ai)} {a:bf} {v:ai} {h h1 h2:Heap} {bs:List bc} {w:Nat} {K:aL}
theorem eB.lt (m:eB h A kv):A < h.size:=by obtain ⟨es,cl,m1,m2⟩:=m;exact m1.lt
theorem eB.hold (m:eB h A kv) (hO:∀ b,ak h A b->ak H A b):eB H A kv:=by
 obtain ⟨es,cl,m1,m2⟩:=m
 exact ⟨es,cl,hO _ m1,m2⟩
theorem eB.over (m:eB h1 A kv) (x:Ext (h1.lay bs w) h2):eB h2 A kv:=m.hold λb q=>q.over x
theorem eB.lay (m:eB h1 A kv) (bs:List bc) (w:Nat):eB (h1.lay bs w) A kv:=m.hold λb q=>q.on bs w
theorem eB.new (q:ak h A (.map [] 0)):eB h A []:=⟨[],0,q,rfl,by simp,by simp,λ_ hx=>by simp at hx⟩
theorem eB.bC (m:eB h1 A kv) {B:Nat} (c:fW B (h1.lay bs w) h2) (aO:A≠B):eB h2 A kv:=m.hold λb q=>q.bC c aO
theorem zsK {ok:Bool} {z:ai} (m:eB h1 A kv) (hd:T.desc t=some (.map kt et)) (hs:T.desc kt=some .string) (hz:T.zero et=some z)
 (hK:K (if ok then .tuple #[(lj kv a).getD z,.bool (lj kv a).isSome] else (lj kv a).getD z) (h1.lay bs w)):aK (rZ T t (.map (some A)) (.string a) ok (h1.lay bs w)) (h1.lay bs w) K:=by
 obtain ⟨es,cl,m1,m2,m3⟩:=m
 have heq:=zx4 (T:=T) hs
 obtain ⟨f1,f2⟩:=U7 (a:=a) heq es kv 0 m2
 have hg:(h1.lay bs w).get A=some (.map es cl):=m1.lay bs w
 unfold rZ
 simp only [hd,zuY a heq,if_true,Du,hg,dz]
 cases hl:lj kv a with
 |none =>
  rw [hl] at hK
  rw [f1 hl]
  simp only [hz,dz,jT]
  exact hK
 |some n =>
  rw [hl] at hK
  obtain ⟨j,e,hj,_⟩:=f2 n hl
  rw [hj]
  simp only [dz,jT]
  exact hK
theorem Sc (m:eB h1 A kv) (hd:T.desc t=some (.map kt et)):bP T t (.map (some A)) (h1.lay bs w)=some (.int .i64 kv.length):=by
 obtain ⟨es,cl,m1,m2,m3⟩:=m
 have hg:(h1.lay bs w).get A=some (.map es cl):=m1.lay bs w
 have hl:es.length=kv.length:=by have:=congrArg List.length m2;simpa using this
 unfold bP
 simp only [hd,hg,hl]
theorem Ut {b:bc} (hA:A < H.size):fW A H (H.set A b):=⟨by rw [Heap.size_set];exact aS _,λB hB aO=>by rw [Heap.aM _ _ _ _ hA,aA aO],by rw [Heap.cC];omega⟩
theorem TW {b:bc} (hA:A < H.size):ak (H.set A b) A b:=⟨by rw [Heap.size_set];exact hA,by rw [Heap.aM _ _ _ _ hA,aG rfl]⟩
theorem zp1 (a:bf):zL (.string a) (.string a)=true:=by unfold zL yq;simp
theorem eB.put {es:List MapEntry} {cl:Nat} (hA:A < H.size) (m2:es.map (λx:MapEntry=>(x.key,x.val))=kv.map (λp=>(Value.string p.1,p.2))) (m3:(kv.map Prod.fst).Nodup) (m4:(es.map (·.born)).Nodup) (m5:∀ x∈es,x.born < cl) (hl:lj kv a=none) :
 eB (H.set A (.map (es++[{ key:=.string a,val:=v,born:=cl }]) (cl+1))) A (jN kv a v):=by
 have HB:jN kv a v=kv++[(a,v)]:=by unfold jN;rw [hl];rfl
 refine ⟨_,_,TW hA,?_,zkV m3 a v,?_,λx hx=>?_⟩
 .rw [HB,rM,rM,m2];rfl
 .rw [rM,List.nodup_append]
  refine ⟨m4,by simp,λx hx y hy=>?_⟩
  obtain ⟨e,he,rfl⟩:=sx.1 hx
  simp at hy
  have:=m5 e he
  omega
 .rcases ju.1 hx with hx|hx
  .have:=m5 x hx;omega
  .rw [ek.1 hx];exact pP _
theorem eB.turn {es:List MapEntry} {cl j:Nat} {w:ai} {f:MapEntry->MapEntry} (hf:∀ e,(f e).key=.string a/\(f e).val=v/\(f e).born=e.born) (hA:A < H.size) (m2:es.map (λx:MapEntry=>(x.key,x.val))=kv.map (λp=>(Value.string p.1,p.2))) (m3:(kv.map Prod.fst).Nodup) (m4:(es.map (·.born)).Nodup) (m5:∀ x∈es,x.born < cl) (hl:lj kv a=some w)
 (g5:kv[j]? = some (a,w)) (g6:∀ k p,k < j->kv[k]? = some p->a≠p.1):eB (H.set A (.map (es.modify j f) cl)) A (jN kv a v):=by
 have HB:jN kv a v=kv.modify j (λp=>(a,v)):=by unfold jN;rw [hl];exact zsP g5 g6 m3
 have hb:(es.modify j f).map (·.born)=es.map (·.born):=by
  refine uY λi=>?_
  simp only [jS,ES]
  cases es[i]? with
  |none=>rfl
  |some y=>by_cases ej:j=i <;> simp [ej,(hf y).2.2]
 refine ⟨_,_,TW hA,?_,zkV m3 a v,by rw [hb];exact m4,λx hx=>?_⟩
 .rw [HB]
  refine uY λi=>?_
  have hi:=congrArg (λl=>l[i]?) m2
  simp only [jS] at hi
  simp only [jS,ES]
  by_cases ej:j=i
  .subst ej
   rw [g5] at hi ⊢
   cases he:es[j]? with
   |none=>rw [he] at hi;simp at hi
   |some y=>simp [(hf y).1,(hf y).2.1]
  .cases he:es[i]? with
   |none =>
    rw [he] at hi
    cases hk:kv[i]? with
    |none=>rfl
    |some p=>rw [hk] at hi;simp at hi
   |some y =>
    rw [he] at hi
    cases hk:kv[i]? with
    |none=>rw [hk] at hi;simp at hi
    |some p=>rw [hk] at hi;simpa [ej] using hi
 .have h1:x.born∈(es.modify j f).map (·.born):=List.mem_map_of_mem (f:=λx:MapEntry=>x.born) hx
  rw [hb] at h1
  obtain ⟨y,hy,he⟩:=sx.1 h1
  rw [<- he]
  exact m5 y hy
theorem zxF (m:eB h1 A kv) (hd:T.desc t=some (.map kt et)) (hs:T.desc kt=some .string)
 (hK:∀ h',eB h' A (jN kv a v)->fW A (h1.lay bs w) h'->K undef h'):jM (mr T t (.map (some A)) (.string a) v (h1.lay bs w)) K:=by
 obtain ⟨es,cl,m1,m2,m3,m4,m5⟩:=m
 have heq:=zx4 (T:=T) hs
 obtain ⟨f1,f2⟩:=U7 (a:=a) heq es kv 0 m2
 have hg:(h1.lay bs w).get A=some (.map es cl):=m1.lay bs w
 have hA:A < (h1.lay bs w).size:=(m1.on bs w).lt
 unfold mr
 simp only [hd,hg,zuY a heq,if_true]
 cases hl:lj kv a with
 |none =>
  rw [f1 hl]
  simp only [dz]
  exact hK _ (eB.put hA m2 m3 m4 m5 hl) (Ut hA)
 |some n =>
  obtain ⟨j,e,hj,g2,g3,g4,g5,g6⟩:=f2 n hl
  rw [hj]
  simp only [dz,ia,g2,g3,zp1,if_true]
  exact hK _ (eB.turn (λ_=>⟨rfl,rfl,rfl⟩) hA m2 m3 m4 m5 hl g5 g6) (Ut hA)
end
end Go.Am
namespace Go.Am
variable {a:ae}
def Kx:List UInt8:=[32,115,97,121,115,32]
def eU:List UInt8:=[44,32]
def lN (a:ae):List (List UInt8):=a.args.map λt=>t.s.data.toList
def gu (a:ae):List UInt8:=a.says.data.toList++Kx++a.pred.data.toList++(if a.args=[] then [] else [40]++Lib.join (lN a) eU++[41])
def aZ (a b:ae):Int:=Lib.compareBytes (gu a) (gu b)
theorem Ka (a b:bf):(a++b).data.toList=a.data.toList++b.data.toList:=by
 rw [ByteArray.data_append,Array.toList_append]
theorem FY (x:bf):x.data.toList.length=x.size:=by rw [ss];rfl
theorem zvL {row:List ai}:∀ (xs:List bf) (o:Nat),(∀ (i:Nat) (x:bf),xs[i]? = some x->cut row (o+i) 1=some [.string x])->cut row o xs.length=some (xs.map Value.string)\/xs=[]
 | [],o,h=>.inr rfl
 |x::xs,o,h=>by
  left
  have h0:=h 0 x rfl
  rw [gw] at h0
  have hr:=zvL xs (o+1) (λi y hy=>by
   have:=h (i+1) y hy
   rwa [show o+(i+1)=o+1+i by omega] at this)
  unfold cut at h0 hr ⊢
  split at h0
  .rename_i hle
   simp only [dy] at h0
   rcases hr with hr|rfl
   .split at hr
    .rename_i afx
     simp only [dy] at hr
     rw [aG (by simp only [dB];omega)]
     simp only [dB,pR,dy]
     have e1:(row.drop o).take (xs.length+1)=(row.drop o).take 1++((row.drop o).drop 1).take xs.length:=by
      rw [Nat.add_comm,List.take_add]
     rw [e1,h0,yz,hr]
     rfl
    .cases hr
   .rw [aG (by simp only [dB,cW];omega)]
    simp only [dB,cW,pR,List.map_nil]
    rw [h0]
  .cases h0
theorem zxs (xs:List bf):strs (xs.map Value.string)=some xs:=by
 induction xs with
 |nil=>rfl
 |cons x xs ih=>simp only [pR,strs,ih,jT]
theorem zzc {h:Heap} {v:ai} {xs:List bf} {sep:bf} (f:Sl aF.str h v xs) (aO:xs≠[]) (hl:xs.length<=1000) (hj:(Lib.join (xs.map (·.data.toList)) sep.data.toList).length<=100000) :
 Dw [v,.string sep] h=some (.string ⟨(Lib.join (xs.map (·.data.toList)) sep.data.toList).toArray⟩,h):=by
 rcases f with ⟨_,e⟩|⟨A,o,c,row,u,ro,rfl,_,_,_,hg,wU⟩
 .exact absurd e aO
 .have aae:xs.length≠0:=λe=>aO (EP.1 e)
  have hc:cut row o xs.length=some (xs.map Value.string):=by
   rcases zvL (row:=row) xs o (λi x hx=>by
    obtain ⟨cs,g1,g2⟩:=wU i x hx
    have g2':cs=[.string x]:=g2
    rw [g2'] at g1
    have g1':cut row (o+i*1) 1=some [.string x]:=g1
    rwa [Nat.mul_one] at g1') with h1|h1
   .exact h1
   .exact absurd h1 aO
  unfold Dw
  simp only [aae,if_false,kL,hg,hc,dz,zxs]
  rw [aG ⟨by omega,by omega⟩]
theorem zza {a b d:Heap} {A:Nat} (i:bQ a b) (c:fW A b d) (hA:a.size<=A):bQ a d:=⟨dZ i.size c.size,λB hB hd=>(c.get B (dU hB i.size) (by omega)).trans (i.get B hB hd)⟩
theorem zvY (h:a.args.length=0):gu a=a.says.data.toList++Kx++a.pred.data.toList:=by
 have:a.args=[]:=EP.1 h
 unfold gu
 rw [aG this,bu]
theorem zz1 {s:bf} {l:List UInt8} (h:s.data.toList=l):s=⟨l.toArray⟩:=by
 apply C9
 rw [h]
theorem zq4:∀ (l:List (List UInt8)) (m:Nat),(∀ x∈l,x.length<=m)->(Lib.join l eU).length<=l.length*(m+2)
 | [],m,_=>by simp [Lib.join]
 | [x],m,h=>by
  rw [Lib.join_one]
  have:=h x (by simp)
  simp
  omega
 |x::y::l,m,h=>by
  have e:(Lib.join (x::y::l) eU).length=x.length+eU.length+(Lib.join (y::l) eU).length:=by simp [Lib.join,List.intercalate];omega
  have h1:=zq4 (y::l) m (λz hz=>h z (by simp only [dg] at hz ⊢;exact .inr hz))
  have h2:=h x (by simp)
  have h3:eU.length=2:=rfl
  rw [e]
  simp only [dB,yA] at h1 ⊢
  omega
theorem zsF (h:a.bE=true):∀ t∈a.args,t.s.size<=300:=by
 intro t ht
 have h1:=List.mem_of_mem_take ht
 simp only [dg,gS,or_false] at h1
 rcases h1 with rfl|rfl|rfl|rfl
 .exact JB h 0
 .exact JB h 1
 .exact JB h 2
 .exact JB h 3
theorem zsx (h:a.bE=true):(Lib.join (lN a) eU).length<=1300:=by
 have h1:=zq4 (lN a) 300 (λx hx=>by
  unfold lN at hx
  obtain ⟨t,ht,rfl⟩:=sx.1 hx
  rw [FY]
  exact zsF h t ht)
 have h2:(lN a).length<=4:=by
  unfold lN
  rw [fN,xV]
  unfold ae.cH
  omega
 have h3:(lN a).length*(300+2)<=4*302:=uV _ h2
 omega
theorem zvZ (h:¬ a.args.length=0):gu a=a.says.data.toList++Kx++a.pred.data.toList++[40]++Lib.join (lN a) eU++[41]:=by
 have:a.args≠[]:=λe=>h (by rw [e];rfl)
 unfold gu
 rw [aA this]
 simp only [uX]
end Go.Am
