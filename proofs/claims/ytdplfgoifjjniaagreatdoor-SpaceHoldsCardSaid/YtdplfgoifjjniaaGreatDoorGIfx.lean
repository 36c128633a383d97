/- Walks: interfaces, entries of maps. No condition. -/
import Derived.Test.YtdplfgoifjjniaaGreatDoorG26
set_option linter.unusedSimpArgs false
set_option linter.unusedVariables false
namespace Go.Am
section
variable {P:Program} {T:bD} {ov:Ov} {d:Option Tmp} {ty:TypeId} {pos:String} {af:Array Edge} {g:Option (Nat × Bool)} {e:Env} {h:Heap} {K:Value→Heap→Prop}
theorem Oj (t:TypeId) (x:Operand):bY P T ov ⟨d,.makeInterface t x,ty,pos,af,g⟩ e h K=aU (BD T t (aZ e x)) h K:=by rw [← sW];rfl
theorem zhS (x:Operand) (it t:TypeId) (ok:Bool):bY P T ov ⟨d,.typeAssert x it t ok,ty,pos,af,g⟩ e h K=aU (EC T (aZ e x) t ok) h K:=by rw [← sW];rfl
theorem zsB (t:TypeId) (m k:Operand):bY P T ov ⟨d,.mapEntry t m k,ty,pos,af,g⟩ e h K=bW (wo T t (aZ e m) (aZ e k) h) K:=rfl
theorem zn9 (t:TypeId) (m s x:Operand):bY P T ov ⟨d,.entryStore t m s x,ty,pos,af,g⟩ e h K=gv (sd (aZ e m) (aZ e s) (aZ e x) h) K:=by
 show bW ((sd (aZ e m) (aZ e s) (aZ e x) h).map fun h'=>(undef,h')) K=_
 cases sd (aZ e m) (aZ e s) (aZ e x) h <;> rfl
theorem zA2 (t u:TypeId) (m k:Operand):bY P T ov ⟨d,.call ⟨.builtin .delete,#[m,k],#[t,u]⟩,ty,pos,af,g⟩ e h K=gv (sY T t (aZ e m) (aZ e k) h) K:=by
 show bW ((sY T t (aZ e m) (aZ e k) h).map fun h'=>(undef,h')) K=_
 cases sY T t (aZ e m) (aZ e k) h <;> rfl
def DU (P:Program) (T:bD) (ov:Ov) (r:Value) (name:String) (args:List Value) (h:Heap) (K:Value→Heap→Prop):Prop:=match r with
 | .iface t x=>(match rf T t x name h with
  |some (f,y)=>Ok P T ov f (y::args) h K
  |none=>False)
 |_=>False
theorem q9 (r:Operand) (name:String) (args:List Operand) (eH:Array TypeId):bY P T ov ⟨d,.call ⟨.invoke r name,⟨args⟩,eH⟩,ty,pos,af,g⟩ e h K=DU P T ov (aZ e r) name (wy e args) h K:=by
 rw [← Mr]
 show (match aZ e r with
  | .iface t x=>(match rf T t x name h with
   |some (f,y)=>Ok P T ov f (y::args.map (aZ e)) h K
   |none=>False)
  |_=>False)=_
 cases aZ e r <;> rfl
theorem rj {t:TypeId} {x y:Value} {name:String} {args:List Value} {f:FuncId} (hm:rf T t x name h=some (f,y)) (hk:Ok P T ov f (y::args) h K):DU P T ov (.iface t x) name args h K:=by
 unfold DU
 simp only [hm]
 exact hk
end
/-! ### Maps from texts -/
def cC (h:Heap) (A:Nat) (kv:List (ByteArray × Value)):Prop:=∃ es clock,Holds h A (.map es clock)∧es.map (fun x:MapEntry=>(x.key,x.val))=kv.map (fun p=>(Value.string p.1,p.2))∧(kv.map Prod.fst).Nodup∧(es.map (·.born)).Nodup∧∀ x∈es,x.born < clock
def cZ (kv:List (ByteArray × Value)) (a:ByteArray):Option Value:=(kv.find? (fun p=>decide (a=p.1))).map (·.2)
def fo (kv:List (ByteArray × Value)) (a:ByteArray) (v:Value):List (ByteArray × Value):=if (cZ kv a).isSome then kv.map (fun p=>if a=p.1 then (a,v) else p) else kv++[(a,v)]
def k8 (kv:List (ByteArray × Value)) (a:ByteArray):List (ByteArray × Value):=kv.filter (fun p => !decide (a=p.1))
theorem zm8 (a:ByteArray):cZ [] a=none:=rfl
theorem vh (p:ByteArray × Value) (kv:List (ByteArray × Value)) (a:ByteArray):cZ (p::kv) a=if a=p.1 then some p.2 else cZ kv a:=by
 unfold cZ
 by_cases h:a=p.1
 ·rw [List.find?_cons_of_pos (by simpa using h),if_pos h];rfl
 ·rw [List.find?_cons_of_neg (by simpa using h),if_neg h]
theorem dq {kv:List (ByteArray × Value)} {a:ByteArray}:cZ kv a=none↔a ∉ kv.map Prod.fst:=by
 induction kv with
 |nil=>simp [cZ]
 |cons p kv ih =>
  rw [vh]
  by_cases h:a=p.1
  ·simp [h]
  ·rw [if_neg h,ih]
   simp [h]
theorem zm7 (kv kw:List (ByteArray × Value)) (a:ByteArray):cZ (kv++kw) a=(cZ kv a).or (cZ kw a):=by
 induction kv with
 |nil=>rw [List.nil_append,zm8];rfl
 |cons p kv ih =>
  rw [List.cons_append,vh,vh,ih]
  split <;> rfl
theorem Gh (kv:List (ByteArray × Value)) (a b:ByteArray) (v:Value):cZ (fo kv a v) b=if b=a then some v else cZ kv b:=by
 unfold fo
 split
 ·rename_i hs
  have key:∀ l:List (ByteArray × Value),cZ (l.map (fun p=>if a=p.1 then (a,v) else p)) b=if b=a then (cZ l a).map (fun _=>v) else cZ l b:=by
   intro l
   induction l with
   |nil=>simp [cZ]
   |cons p l ih =>
    rw [List.map_cons,vh,ih,vh,vh]
    by_cases h1:a=p.1
    ·rw [if_pos h1,if_pos h1]
     by_cases h2:b=a
     ·rw [if_pos h2,if_pos (by exact h2)];rfl
     ·rw [if_neg h2,if_neg (by exact h2),if_neg h2,if_neg (by rw [← h1];exact h2)]
    ·rw [if_neg h1,if_neg h1]
     by_cases h2:b=a
     ·rw [if_pos h2,if_pos h2,if_neg (by rw [h2];exact h1)]
     ·rw [if_neg h2,if_neg h2]
  rw [key]
  split
  ·cases hl:cZ kv a with
   |none=>rw [hl] at hs;cases hs
   |some w=>rfl
  ·rfl
 ·rename_i hs
  rw [zm7,vh,zm8]
  have hn:cZ kv a=none:=by
   cases hl:cZ kv a with
   |none=>rfl
   |some w=>rw [hl] at hs;exact absurd rfl hs
  by_cases h2:b=a
  ·rw [if_pos h2,h2,hn,if_pos rfl];rfl
  ·rw [if_neg h2,if_neg h2]
   cases cZ kv b <;> rfl
theorem znK (kv:List (ByteArray × Value)) (a:ByteArray) (v:Value):(fo kv a v).map Prod.fst=if (cZ kv a).isSome then kv.map Prod.fst else kv.map Prod.fst++[a]:=by
 unfold fo
 split
 ·rw [List.map_map]
  congr 1
  funext p
  simp only [Function.comp]
  split
  ·rename_i h;exact h
  ·rfl
 ·rw [List.map_append];rfl
theorem OS {kv:List (ByteArray × Value)} (hn:(kv.map Prod.fst).Nodup) (a:ByteArray) (v:Value):((fo kv a v).map Prod.fst).Nodup:=by
 rw [znK]
 split
 ·exact hn
 ·rename_i hs
  rw [List.nodup_append]
  refine ⟨hn,by simp,fun x hx y hy=>?_⟩
  rw [List.mem_singleton] at hy
  subst hy
  intro e
  subst e
  have:cZ kv x=none:=by
   cases hl:cZ kv x with
   |none=>rfl
   |some w=>rw [hl] at hs;exact absurd rfl hs
  exact dq.1 this hx
theorem Zf (kv:List (ByteArray × Value)) (a b:ByteArray):cZ (k8 kv a) b=if b=a then none else cZ kv b:=by
 unfold k8
 induction kv with
 |nil=>simp [cZ]
 |cons p kv ih =>
  by_cases h1:a=p.1
  ·rw [List.filter_cons_of_neg (by simpa using h1),ih,vh]
   split
   ·rfl
   ·rw [if_neg (by rw [← h1];assumption)]
  ·rw [List.filter_cons_of_pos (by simpa using h1),vh,ih,vh]
   by_cases h2:b=a
   ·rw [if_pos h2,if_pos h2,if_neg (by rw [h2];exact h1)]
   ·rw [if_neg h2,if_neg h2]
theorem YR {kv:List (ByteArray × Value)} (hn:(kv.map Prod.fst).Nodup) (a:ByteArray):((k8 kv a).map Prod.fst).Nodup:=List.Nodup.sublist (List.Sublist.map _ List.filter_sublist) hn
theorem GI {T:bD} {kt:TypeId} (hd:T.desc kt=some .string) (x y:ByteArray):eU T 20 kt (.string x) (.string y)=some (decide (x=y)):=by
 unfold eU
 simp only [hd]
 congr 1
 rw [Bool.eq_iff_iff,decide_eq_true_iff,beq_iff_eq]
 exact ⟨fun h=>ByteArray.ext (Array.toList_inj.1 h),fun h=>by rw [h]⟩
theorem M9 {T:bD} {kt:TypeId} {a:ByteArray} (heq:∀ x y:ByteArray,eU T 20 kt (.string x) (.string y)=some (decide (x=y))):∀ (es:List MapEntry) (kv:List (ByteArray × Value)) (i:Nat),es.map (fun x:MapEntry=>(x.key,x.val))=kv.map (fun p=>(Value.string p.1,p.2)) →
 (cZ kv a=none→oc T kt (.string a) es i=some none)∧∀ v,cZ kv a=some v→∃ (j:Nat) (e:MapEntry),oc T kt (.string a) es i=some (some (i+j,v))∧es[j]? = some e∧e.key=.string a∧e.val=v∧kv[j]? = some (a,v)∧∀ k p,k < j→kv[k]? = some p→a≠p.1
 | [],kv,i,hk=>by
  cases kv with
  |nil=>exact ⟨fun _=>rfl,fun n h=>by simp [cZ] at h⟩
  |cons k kv=>simp at hk
 |e::es,kv,i,hk=>by
  cases kv with
  |nil=>simp at hk
  |cons k kv =>
   simp only [List.map_cons,List.cons.injEq,Prod.mk.injEq] at hk
   obtain ⟨h1,h2⟩:=M9 heq es kv (i+1) hk.2
   unfold oc
   rw [hk.1.1,heq,vh]
   by_cases hx:a=k.1
   ·rw [decide_eq_true hx,if_pos hx]
    refine ⟨(fun h=>by cases h),fun v hv=>?_⟩
    cases hv
    refine ⟨0,e,by simp [hk.1.2],rfl,by rw [hk.1.1,hx],hk.1.2,by rw [hx];rfl,fun k kF=>by omega⟩
   ·rw [decide_eq_false hx,if_neg hx]
    simp only [Option.bind_some,Bool.false_eq_true,if_false]
    refine ⟨h1,fun v hv=>?_⟩
    obtain ⟨j,e',g1,g2,g3,g4,g5,g6⟩:=h2 v hv
    refine ⟨j+1,e',?_,by simpa using g2,g3,g4,by simpa using g5,fun q p hq hp=>?_⟩
    ·rw [g1,show i+1+j=i+(j+1) by omega]
    ·cases q with
     |zero=>rw [List.getElem?_cons_zero] at hp;cases hp;exact hx
     |succ q=>exact g6 q p (by omega) (by simpa using hp)
theorem Pq {T:bD} {kt:TypeId} (a:ByteArray) (heq:∀ x y:ByteArray,eU T 20 kt (.string x) (.string y)=some (decide (x=y))):sq T kt (.string a)=true:=by
 unfold sq
 rw [show plain (.string a)=true from rfl,heq]
 simp
theorem zkA {kv:List (ByteArray × Value)} {a:ByteArray} {v w:Value}:∀ {j:Nat},kv[j]? = some (a,w)→(∀ k p,k < j→kv[k]? = some p→a≠p.1)→(kv.map Prod.fst).Nodup→kv.map (fun p=>if a=p.1 then (a,v) else p)=kv.modify j (fun p=>(a,v)):=by
 induction kv with
 |nil=>intro j h;simp at h
 |cons p kv ih =>
  intro j hj aS hn
  rw [List.map_cons,List.nodup_cons] at hn
  cases j with
  |zero =>
   rw [List.getElem?_cons_zero] at hj
   cases hj
   rw [List.map_cons,if_pos rfl,List.modify_zero_cons]
   congr 1
   rw [List.map_congr_left (g:=id),List.map_id]
   intro q hq
   rw [if_neg]
   ·rfl
   ·intro e
    exact hn.1 (by show a∈_;rw [e];exact List.mem_map_of_mem (f:=Prod.fst) hq)
  |succ j =>
   rw [List.map_cons,if_neg (aS 0 p (by omega) rfl),List.modify_succ_cons,ih (by simpa using hj) (fun k q hk hq=>aS (k+1) q (by omega) (by simpa using hq)) hn.2]
section
variable {T:bD} {t kt et:TypeId} {A:Nat} {kv:List (ByteArray × Value)} {a:ByteArray} {v:Value} {h h1 h2:Heap} {bs:List bh} {w:Nat} {K:Value→Heap→Prop}
theorem cC.nodup (m:cC h A kv):(kv.map Prod.fst).Nodup:=by obtain ⟨es,cl,m1,m2,m3,m4⟩:=m;exact m3
theorem cC.lt (m:cC h A kv):A < h.size:=by obtain ⟨es,cl,m1,m2⟩:=m;exact m1.lt
theorem cC.hold {H:Heap} (m:cC h A kv) (hO:∀ b,Holds h A b→Holds H A b):cC H A kv:=by
 obtain ⟨es,cl,m1,m2⟩:=m
 exact ⟨es,cl,hO _ m1,m2⟩
theorem cC.over (m:cC h1 A kv) (x:Ext (h1.lay bs w) h2):cC h2 A kv:=m.hold fun b q=>q.over x
theorem cC.lay (m:cC h1 A kv) (bs:List bh) (w:Nat):cC (h1.lay bs w) A kv:=m.hold fun b q=>q.on bs w
theorem cC.new (q:Holds h A (.map [] 0)):cC h A []:=⟨[],0,q,rfl,by simp,by simp,fun _ hx=>by simp at hx⟩
theorem cC.bR (m:cC h1 A kv) {B:Nat} (c:fK B (h1.lay bs w) h2) (aO:A≠B):cC h2 A kv:=m.hold fun b q=>q.bR c aO
theorem Eo {ok:Bool} {z:Value} (m:cC h1 A kv) (hd:T.desc t=some (.map kt et)) (hs:T.desc kt=some .string) (hz:T.zero et=some z)
 (hK:K (if ok then .tuple #[(cZ kv a).getD z,.bool (cZ kv a).isSome] else (cZ kv a).getD z) (h1.lay bs w)):aU (vt T t (.map (some A)) (.string a) ok (h1.lay bs w)) (h1.lay bs w) K:=by
 obtain ⟨es,cl,m1,m2,m3⟩:=m
 have heq:=GI (T:=T) hs
 obtain ⟨f1,f2⟩:=M9 (a:=a) heq es kv 0 m2
 have hg:(h1.lay bs w).get A=some (.map es cl):=m1.lay bs w
 unfold vt
 simp only [hd,Pq a heq,if_true,M7,hg,Option.bind_some]
 cases hl:cZ kv a with
 |none =>
  rw [hl] at hK
  rw [f1 hl]
  simp only [hz,Option.bind_some,Option.map_some]
  exact hK
 |some n =>
  rw [hl] at hK
  obtain ⟨j,e,hj,_⟩:=f2 n hl
  rw [hj]
  simp only [Option.bind_some,Option.map_some]
  exact hK
theorem D6 (m:cC h1 A kv) (hd:T.desc t=some (.map kt et)):bd T t (.map (some A)) (h1.lay bs w)=some (.int .i64 kv.length):=by
 obtain ⟨es,cl,m1,m2,m3⟩:=m
 have hg:(h1.lay bs w).get A=some (.map es cl):=m1.lay bs w
 have hl:es.length=kv.length:=by have:=congrArg List.length m2;simpa using this
 unfold bd
 simp only [hd,hg,hl]
theorem vo {H:Heap} {b:bh} (hA:A < H.size):fK A H (H.set A b):=⟨by rw [Heap.size_set];exact Nat.le_refl _,fun B hB aO=>by rw [Heap.aC _ _ _ _ hA,if_neg aO],by rw [Heap.bX];omega⟩
theorem Bq {H:Heap} {b:bh} (hA:A < H.size):Holds (H.set A b) A b:=⟨by rw [Heap.size_set];exact hA,by rw [Heap.aC _ _ _ _ hA,if_pos rfl]⟩
theorem YW (a:ByteArray):EG (.string a) (.string a)=true:=by unfold EG Fe;simp
theorem cC.put {H:Heap} {es:List MapEntry} {cl:Nat} (hA:A < H.size) (m2:es.map (fun x:MapEntry=>(x.key,x.val))=kv.map (fun p=>(Value.string p.1,p.2))) (m3:(kv.map Prod.fst).Nodup) (m4:(es.map (·.born)).Nodup) (m5:∀ x∈es,x.born < cl) (hl:cZ kv a=none) :
 cC (H.set A (.map (es++[{ key:=.string a,val:=v,born:=cl }]) (cl+1))) A (fo kv a v):=by
 have A4:fo kv a v=kv++[(a,v)]:=by unfold fo;rw [hl];rfl
 refine ⟨_,_,Bq hA,?_,OS m3 a v,?_,fun x hx=>?_⟩
 ·rw [A4,List.map_append,List.map_append,m2];rfl
 ·rw [List.map_append,List.nodup_append]
  refine ⟨m4,by simp,fun x hx y hy=>?_⟩
  obtain ⟨e,he,rfl⟩:=List.mem_map.1 hx
  simp at hy
  have:=m5 e he
  omega
 ·rcases List.mem_append.1 hx with hx|hx
  ·have:=m5 x hx;omega
  ·rw [List.mem_singleton.1 hx];exact Nat.lt_succ_self _
theorem cC.turn {H:Heap} {es:List MapEntry} {cl j:Nat} {w:Value} {f:MapEntry→MapEntry} (hf:∀ e,(f e).key=.string a∧(f e).val=v∧(f e).born=e.born) (hA:A < H.size) (m2:es.map (fun x:MapEntry=>(x.key,x.val))=kv.map (fun p=>(Value.string p.1,p.2))) (m3:(kv.map Prod.fst).Nodup) (m4:(es.map (·.born)).Nodup) (m5:∀ x∈es,x.born < cl) (hl:cZ kv a=some w)
 (g5:kv[j]? = some (a,w)) (g6:∀ k p,k < j→kv[k]? = some p→a≠p.1):cC (H.set A (.map (es.modify j f) cl)) A (fo kv a v):=by
 have A4:fo kv a v=kv.modify j (fun p=>(a,v)):=by unfold fo;rw [hl];exact zkA g5 g6 m3
 have hb:(es.modify j f).map (·.born)=es.map (·.born):=by
  refine List.ext_getElem? fun i=>?_
  simp only [List.getElem?_map,List.getElem?_modify]
  cases es[i]? with
  |none=>rfl
  |some y=>by_cases dh:j=i <;> simp [dh,(hf y).2.2]
 refine ⟨_,_,Bq hA,?_,OS m3 a v,by rw [hb];exact m4,fun x hx=>?_⟩
 ·rw [A4]
  refine List.ext_getElem? fun i=>?_
  have hi:=congrArg (fun l=>l[i]?) m2
  simp only [List.getElem?_map] at hi
  simp only [List.getElem?_map,List.getElem?_modify]
  by_cases dh:j=i
  ·subst dh
   rw [g5] at hi ⊢
   cases he:es[j]? with
   |none=>rw [he] at hi;simp at hi
   |some y=>simp [(hf y).1,(hf y).2.1]
  ·cases he:es[i]? with
   |none =>
    rw [he] at hi
    cases hk:kv[i]? with
    |none=>rfl
    |some p=>rw [hk] at hi;simp at hi
   |some y =>
    rw [he] at hi
    cases hk:kv[i]? with
    |none=>rw [hk] at hi;simp at hi
    |some p=>rw [hk] at hi;simpa [dh] using hi
 ·have h1:x.born∈(es.modify j f).map (·.born):=List.mem_map_of_mem (f:=fun x:MapEntry=>x.born) hx
  rw [hb] at h1
  obtain ⟨y,hy,he⟩:=List.mem_map.1 h1
  rw [← he]
  exact m5 y hy
theorem zqH (m:cC h1 A kv) (hd:T.desc t=some (.map kt et)) (hs:T.desc kt=some .string)
 (hK:∀ h',cC h' A (fo kv a v)→fK A (h1.lay bs w) h'→K undef h'):gv (mS T t (.map (some A)) (.string a) v (h1.lay bs w)) K:=by
 obtain ⟨es,cl,m1,m2,m3,m4,m5⟩:=m
 have heq:=GI (T:=T) hs
 obtain ⟨f1,f2⟩:=M9 (a:=a) heq es kv 0 m2
 have hg:(h1.lay bs w).get A=some (.map es cl):=m1.lay bs w
 have hA:A < (h1.lay bs w).size:=(m1.on bs w).lt
 unfold mS
 simp only [hd,hg,Pq a heq,if_true]
 cases hl:cZ kv a with
 |none =>
  rw [f1 hl]
  simp only [Option.bind_some]
  exact hK _ (cC.put hA m2 m3 m4 m5 hl) (vo hA)
 |some n =>
  obtain ⟨j,e,hj,g2,g3,g4,g5,g6⟩:=f2 n hl
  rw [hj]
  simp only [Option.bind_some,Nat.zero_add,g2,g3,YW,if_true]
  exact hK _ (cC.turn (fun _=>⟨rfl,rfl,rfl⟩) hA m2 m3 m4 m5 hl g5 g6) (vo hA)
theorem OZ {α β:Type} (f:α→β):∀ (l:List α) (i:Nat),(l.eraseIdx i).map f=(l.map f).eraseIdx i
 | [],i=>by simp
 |x::l,0=>by simp
 |x::l,i+1=>by rw [List.eraseIdx_cons_succ,List.map_cons,List.map_cons,List.eraseIdx_cons_succ,OZ f l i]
theorem zmF {kv:List (ByteArray × Value)} {a:ByteArray} {w:Value}:∀ {j:Nat},kv[j]? = some (a,w)→(∀ k p,k < j→kv[k]? = some p→a≠p.1)→(kv.map Prod.fst).Nodup→k8 kv a=kv.eraseIdx j:=by
 induction kv with
 |nil=>intro j h;simp at h
 |cons p kv ih =>
  intro j hj aS hn
  rw [List.map_cons,List.nodup_cons] at hn
  unfold k8 at ih ⊢
  cases j with
  |zero =>
   rw [List.getElem?_cons_zero] at hj
   cases hj
   rw [List.filter_cons_of_neg (by simp),List.eraseIdx_cons_zero,List.filter_eq_self]
   intro q hq
   rw [decide_eq_false]
   ·rfl
   ·intro e
    exact hn.1 (by show a∈_;rw [e];exact List.mem_map_of_mem (f:=Prod.fst) hq)
  |succ j =>
   rw [List.filter_cons_of_pos (by simpa using aS 0 p (by omega) rfl),List.eraseIdx_cons_succ,ih (by simpa using hj) (fun k q hk hq=>aS (k+1) q (by omega) (by simpa using hq)) hn.2]
theorem ztb (m:cC h1 A kv) (hd:T.desc t=some (.map kt et)) (hs:T.desc kt=some .string)
 (hK:∀ h',cC h' A (k8 kv a)→fK A (h1.lay bs w) h'→K undef h'):gv (sY T t (.map (some A)) (.string a) (h1.lay bs w)) K:=by
 obtain ⟨es,cl,m1,m2,m3,m4,m5⟩:=m
 have heq:=GI (T:=T) hs
 obtain ⟨f1,f2⟩:=M9 (a:=a) heq es kv 0 m2
 have hg:(h1.lay bs w).get A=some (.map es cl):=m1.lay bs w
 have hA:A < (h1.lay bs w).size:=(m1.on bs w).lt
 unfold sY
 simp only [hd,hg,Pq a heq,if_true]
 cases hl:cZ kv a with
 |none =>
  rw [f1 hl]
  simp only [Option.bind_some]
  have hdv:k8 kv a=kv:=by
   unfold k8
   rw [List.filter_eq_self]
   intro q hq
   rw [decide_eq_false]
   ·rfl
   ·intro e
    exact dq.1 hl (by rw [e];exact List.mem_map_of_mem hq)
  refine hK _ ?_ (vo hA)
  rw [hdv]
  exact ⟨es,cl,Bq hA,m2,m3,m4,m5⟩
 |some n =>
  obtain ⟨j,e,hj,g2,g3,g4,g5,g6⟩:=f2 n hl
  rw [hj]
  simp only [Option.bind_some,Nat.zero_add]
  refine hK _ ⟨es.eraseIdx j,cl,Bq hA,?_,YR m3 a,?_,fun x hx=>m5 x (List.mem_of_mem_eraseIdx hx)⟩ (vo hA)
  ·rw [zmF g5 g6 m3,OZ,OZ,m2]
  ·rw [OZ]
   exact List.Nodup.sublist (List.eraseIdx_sublist _ _) m4
theorem zme {es:List MapEntry}:∀ {j:Nat} {e:MapEntry} (i:Nat),(es.map (·.born)).Nodup→es[j]? = some e→GD (e.born:Int) es i=some (i+j):=by
 induction es with
 |nil=>intro j e i _ h;simp at h
 |cons x es ih =>
  intro j e i hn hj
  rw [List.map_cons,List.nodup_cons] at hn
  unfold GD
  cases j with
  |zero =>
   rw [List.getElem?_cons_zero] at hj
   cases hj
   rw [if_pos rfl]
   rfl
  |succ j =>
   rw [List.getElem?_cons_succ] at hj
   have hm:e.born∈es.map (·.born):=List.mem_map_of_mem (f:=fun x:MapEntry=>x.born) (List.mem_of_getElem? hj)
   have aO:¬ ((x.born:Int)=(e.born:Int)):=fun hh=>hn.1 ((show x.born=e.born by omega) ▸ hm)
   rw [if_neg aO,ih (i+1) hn.2 hj,show i+1+j=i+(j+1) by omega]
theorem zoC {z:Value} (m:cC h1 A kv) (hd:T.desc t=some (.map kt et)) (hs:T.desc kt=some .string) (hz:T.zero et=some z)
 (hK:∀ h' x (s:Nat) b,Holds h' A b→fK A (h1.lay bs w) h'→(∀ (h2:Heap),Holds h2 A b→∀ v2 (K2:Value→Heap→Prop),(∀ h3,cC h3 A (fo kv a v2)→fK A h2 h3→K2 undef h3)→gv (sd (.map (some A)) (.int .i64 s) v2 h2) K2)→K (.tuple #[x,.int .i64 s]) h'):bW (wo T t (.map (some A)) (.string a) (h1.lay bs w)) K:=by
 obtain ⟨es,cl,m1,m2,m3,m4,m5⟩:=m
 have heq:=GI (T:=T) hs
 obtain ⟨f1,f2⟩:=M9 (a:=a) heq es kv 0 m2
 have hg:(h1.lay bs w).get A=some (.map es cl):=m1.lay bs w
 have hA:A < (h1.lay bs w).size:=(m1.on bs w).lt
 unfold wo
 simp only [hd,hg,Pq a heq,if_true]
 cases hl:cZ kv a with
 |none =>
  rw [f1 hl]
  simp only [Option.bind_some,hz,Option.map_some]
  have hm:=cC.put (v:=z) hA m2 m3 m4 m5 hl
  refine hK _ _ cl _ (Bq hA) (vo hA) (fun h2 q v2 K2 Vm=>?_)
  have iw:((es++[({ key:=.string a,val:=z,born:=cl }:MapEntry)]).map (·.born)).Nodup:=by
   rw [List.map_append,List.nodup_append]
   refine ⟨m4,by simp,fun x hx y hy=>?_⟩
   obtain ⟨e,he,rfl⟩:=List.mem_map.1 hx
   simp at hy
   have:=m5 e he
   omega
  have Jf:=zme (es:=es++[({ key:=.string a,val:=z,born:=cl }:MapEntry)]) (j:=es.length) (e:={ key:=.string a,val:=z,born:=cl }) 0 iw (by simp)
  simp only [Nat.zero_add] at Jf
  unfold sd
  simp only [q.get,Jf,Option.map_some]
  refine Vm _ ?_ (vo q.lt)
  have Dk:(es++[({ key:=.string a,val:=z,born:=cl }:MapEntry)]).modify es.length (fun e=>{ e with val:=v2 })=es++[{ key:=.string a,val:=v2,born:=cl }]:=by
   refine List.ext_getElem? fun i=>?_
   rw [List.getElem?_modify,List.getElem?_append,List.getElem?_append]
   by_cases hi:i < es.length
   ·rw [if_pos hi,if_pos hi]
    have aO:¬ es.length=i:=by omega
    cases es[i]? <;> simp [aO]
   ·rw [if_neg hi,if_neg hi]
    by_cases Jy:es.length=i
    ·subst Jy;simp
    ·cases hq:i - es.length with
     |zero=>omega
     |succ q=>simp [Jy]
  rw [Dk]
  exact cC.put q.lt m2 m3 m4 m5 hl
 |some n =>
  obtain ⟨j,e,hj,g2,g3,g4,g5,g6⟩:=f2 n hl
  rw [hj]
  simp only [Option.bind_some,Nat.zero_add,g2,g3,YW,if_true]
  have hid:es.modify j (fun e=>{ e with key:=.string a })=es:=by
   refine List.ext_getElem? fun i=>?_
   rw [List.getElem?_modify]
   by_cases dh:j=i
   ·subst dh
    rw [g2]
    simp [← g3]
   ·cases es[i]? <;> simp [dh]
  rw [hid]
  refine hK _ _ e.born _ (Bq hA) (vo hA) (fun h2 q v2 K2 Vm=>?_)
  have Jf:=zme 0 m4 g2
  simp only [Nat.zero_add] at Jf
  unfold sd
  simp only [q.get,Jf,Option.map_some]
  refine Vm _ ?_ (vo q.lt)
  obtain ⟨IC,rfl⟩:∃ IC:List MapEntry,IC=es:=⟨_,rfl⟩
  have A4:fo kv a v2=kv.modify j (fun p=>(a,v2)):=by unfold fo;rw [hl];exact zkA g5 g6 m3
  have VV:IC.modify j (fun e=>{ e with val:=v2 })=IC.modify j (fun e=>{ e with key:=.string a,val:=v2 }):=by
   refine List.ext_getElem? fun i=>?_
   simp only [List.getElem?_modify]
   by_cases dh:j=i
   ·subst dh
    rw [g2]
    simp [g3]
   ·cases IC[i]? <;> simp [dh]
  rw [VV]
  exact cC.turn (fun _=>⟨rfl,rfl,rfl⟩) q.lt m2 m3 m4 m5 hl g5 g6
end
end Go.Am
