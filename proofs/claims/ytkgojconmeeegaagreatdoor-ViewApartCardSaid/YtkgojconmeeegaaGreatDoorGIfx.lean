/- Walks: interfaces, entries of maps. No condition. -/
import Derived.Test.YtkgojconmeeegaaGreatDoorG23
set_option linter.unusedSimpArgs false
set_option linter.unusedVariables false
namespace Go.Am
section
variable {P:Program} {T:bK} {ov:Ov} {d:Option Tmp} {ty:TypeId} {pos:String} {af:Array Edge} {g:Option (Nat × Bool)} {e:Env} {h:Heap} {K:Value→Heap→Prop}
theorem WA (t:TypeId) (x:Operand):cu P T ov ⟨d,.makeInterface t x,ty,pos,af,g⟩ e h K=aW (EH T t (bn e x)) h K:=by rw [← vD];rfl
theorem ziv (x:Operand) (it t:TypeId) (ok:Bool):cu P T ov ⟨d,.typeAssert x it t ok,ty,pos,af,g⟩ e h K=aW (HM T (bn e x) t ok) h K:=by rw [← vD];rfl
theorem zuc (t:TypeId) (m k:Operand):cu P T ov ⟨d,.mapEntry t m k,ty,pos,af,g⟩ e h K=cq (zc T t (bn e m) (bn e k) h) K:=rfl
theorem zpl (t:TypeId) (m s x:Operand):cu P T ov ⟨d,.entryStore t m s x,ty,pos,af,g⟩ e h K=iw (uF (bn e m) (bn e s) (bn e x) h) K:=by
 show cq ((uF (bn e m) (bn e s) (bn e x) h).map fun h'=>(undef,h')) K=_
 cases uF (bn e m) (bn e s) (bn e x) h <;> rfl
theorem zEq (t u:TypeId) (m k:Operand):cu P T ov ⟨d,.call ⟨.builtin .delete,#[m,k],#[t,u]⟩,ty,pos,af,g⟩ e h K=iw (vE T t (bn e m) (bn e k) h) K:=by
 show cq ((vE T t (bn e m) (bn e k) h).map fun h'=>(undef,h')) K=_
 cases vE T t (bn e m) (bn e k) h <;> rfl
def G6 (P:Program) (T:bK) (ov:Ov) (r:Value) (name:String) (args:List Value) (h:Heap) (K:Value→Heap→Prop):Prop:=match r with
 | .iface t x=>(match tc T t x name h with
  |some (f,y)=>Ok P T ov f (y::args) h K
  |none=>False)
 |_=>False
theorem tf (r:Operand) (name:String) (args:List Operand) (fb:Array TypeId):cu P T ov ⟨d,.call ⟨.invoke r name,⟨args⟩,fb⟩,ty,pos,af,g⟩ e h K=G6 P T ov (bn e r) name (zi e args) h K:=by
 rw [← RO]
 show (match bn e r with
  | .iface t x=>(match tc T t x name h with
   |some (f,y)=>Ok P T ov f (y::args.map (bn e)) h K
   |none=>False)
  |_=>False)=_
 cases bn e r <;> rfl
theorem th {t:TypeId} {x y:Value} {name:String} {args:List Value} {f:FuncId} (hm:tc T t x name h=some (f,y)) (hk:Ok P T ov f (y::args) h K):G6 P T ov (.iface t x) name args h K:=by
 unfold G6
 simp only [hm]
 exact hk
end
/-! ### Maps from texts -/
def dp (h:Heap) (A:Nat) (kv:List (ByteArray × Value)):Prop:=∃ es clock,Holds h A (.map es clock)∧es.map (fun x:MapEntry=>(x.key,x.val))=kv.map (fun p=>(Value.string p.1,p.2))∧(kv.map Prod.fst).Nodup∧(es.map (·.born)).Nodup∧∀ x∈es,x.born < clock
def dG (kv:List (ByteArray × Value)) (a:ByteArray):Option Value:=(kv.find? (fun p=>decide (a=p.1))).map (·.2)
def gC (kv:List (ByteArray × Value)) (a:ByteArray) (v:Value):List (ByteArray × Value):=if (dG kv a).isSome then kv.map (fun p=>if a=p.1 then (a,v) else p) else kv++[(a,v)]
def mx (kv:List (ByteArray × Value)) (a:ByteArray):List (ByteArray × Value):=kv.filter (fun p => !decide (a=p.1))
theorem zof (a:ByteArray):dG [] a=none:=rfl
theorem xR (p:ByteArray × Value) (kv:List (ByteArray × Value)) (a:ByteArray):dG (p::kv) a=if a=p.1 then some p.2 else dG kv a:=by
 unfold dG
 by_cases h:a=p.1
 ·rw [List.find?_cons_of_pos (by simpa using h),if_pos h];rfl
 ·rw [List.find?_cons_of_neg (by simpa using h),if_neg h]
theorem iv {kv:List (ByteArray × Value)} {a:ByteArray}:dG kv a=none↔a ∉ kv.map Prod.fst:=by
 induction kv with
 |nil=>simp [dG]
 |cons p kv ih =>
  rw [xR]
  by_cases h:a=p.1
  ·simp [h]
  ·rw [if_neg h,ih]
   simp [h]
theorem zoe (kv kw:List (ByteArray × Value)) (a:ByteArray):dG (kv++kw) a=(dG kv a).or (dG kw a):=by
 induction kv with
 |nil=>rw [List.nil_append,zof];rfl
 |cons p kv ih =>
  rw [List.cons_append,xR,xR,ih]
  split <;> rfl
theorem RA (kv:List (ByteArray × Value)) (a b:ByteArray) (v:Value):dG (gC kv a v) b=if b=a then some v else dG kv b:=by
 unfold gC
 split
 ·rename_i hs
  have key:∀ l:List (ByteArray × Value),dG (l.map (fun p=>if a=p.1 then (a,v) else p)) b=if b=a then (dG l a).map (fun _=>v) else dG l b:=by
   intro l
   induction l with
   |nil=>simp [dG]
   |cons p l ih =>
    rw [List.map_cons,xR,ih,xR,xR]
    by_cases h1:a=p.1
    ·rw [if_pos h1,if_pos h1]
     by_cases h2:b=a
     ·rw [if_pos h2,if_pos (by exact h2)];rfl
     ·rw [if_neg h2,if_neg (by exact h2),if_neg h2,if_neg (by rw [← h1];exact h2)]
    ·rw [if_neg h1,if_neg h1]
     by_cases h2:b=a
     ·rw [if_pos h2,if_pos h2,if_neg (by rw [h2];exact h1)]
     ·rw [if_neg h2,if_neg h2]
  rw [key]
  split
  ·cases hl:dG kv a with
   |none=>rw [hl] at hs;cases hs
   |some w=>rfl
  ·rfl
 ·rename_i hs
  rw [zoe,xR,zof]
  have hn:dG kv a=none:=by
   cases hl:dG kv a with
   |none=>rfl
   |some w=>rw [hl] at hs;exact absurd rfl hs
  by_cases h2:b=a
  ·rw [if_pos h2,h2,hn,if_pos rfl];rfl
  ·rw [if_neg h2,if_neg h2]
   cases dG kv b <;> rfl
theorem zoR (kv:List (ByteArray × Value)) (a:ByteArray) (v:Value):(gC kv a v).map Prod.fst=if (dG kv a).isSome then kv.map Prod.fst else kv.map Prod.fst++[a]:=by
 unfold gC
 split
 ·rw [List.map_map]
  congr 1
  funext p
  simp only [Function.comp]
  split
  ·rename_i h;exact h
  ·rfl
 ·rw [List.map_append];rfl
theorem W9 {kv:List (ByteArray × Value)} (hn:(kv.map Prod.fst).Nodup) (a:ByteArray) (v:Value):((gC kv a v).map Prod.fst).Nodup:=by
 rw [zoR]
 split
 ·exact hn
 ·rename_i hs
  rw [List.nodup_append]
  refine ⟨hn,by simp,fun x hx y hy=>?_⟩
  rw [List.mem_singleton] at hy
  subst hy
  intro e
  subst e
  have:dG kv x=none:=by
   cases hl:dG kv x with
   |none=>rfl
   |some w=>rw [hl] at hs;exact absurd rfl hs
  exact iv.1 this hx
theorem T7 (kv:List (ByteArray × Value)) (a b:ByteArray):dG (mx kv a) b=if b=a then none else dG kv b:=by
 unfold mx
 induction kv with
 |nil=>simp [dG]
 |cons p kv ih =>
  by_cases h1:a=p.1
  ·rw [List.filter_cons_of_neg (by simpa using h1),ih,xR]
   split
   ·rfl
   ·rw [if_neg (by rw [← h1];assumption)]
  ·rw [List.filter_cons_of_pos (by simpa using h1),xR,ih,xR]
   by_cases h2:b=a
   ·rw [if_pos h2,if_pos h2,if_neg (by rw [h2];exact h1)]
   ·rw [if_neg h2,if_neg h2]
theorem TC {kv:List (ByteArray × Value)} (hn:(kv.map Prod.fst).Nodup) (a:ByteArray):((mx kv a).map Prod.fst).Nodup:=List.Nodup.sublist (List.Sublist.map _ List.filter_sublist) hn
theorem Ke {T:bK} {kt:TypeId} (hd:T.desc kt=some .string) (x y:ByteArray):fB T 20 kt (.string x) (.string y)=some (decide (x=y)):=by
 unfold fB
 simp only [hd]
 congr 1
 rw [Bool.eq_iff_iff,decide_eq_true_iff,beq_iff_eq]
 exact ⟨fun h=>ByteArray.ext (Array.toList_inj.1 h),fun h=>by rw [h]⟩
theorem SH {T:bK} {kt:TypeId} {a:ByteArray} (heq:∀ x y:ByteArray,fB T 20 kt (.string x) (.string y)=some (decide (x=y))):∀ (es:List MapEntry) (kv:List (ByteArray × Value)) (i:Nat),es.map (fun x:MapEntry=>(x.key,x.val))=kv.map (fun p=>(Value.string p.1,p.2)) →
 (dG kv a=none→pV T kt (.string a) es i=some none)∧∀ v,dG kv a=some v→∃ (j:Nat) (e:MapEntry),pV T kt (.string a) es i=some (some (i+j,v))∧es[j]? = some e∧e.key=.string a∧e.val=v∧kv[j]? = some (a,v)∧∀ k p,k < j→kv[k]? = some p→a≠p.1
 | [],kv,i,hk=>by
  cases kv with
  |nil=>exact ⟨fun _=>rfl,fun n h=>by simp [dG] at h⟩
  |cons k kv=>simp at hk
 |e::es,kv,i,hk=>by
  cases kv with
  |nil=>simp at hk
  |cons k kv =>
   simp only [List.map_cons,List.cons.injEq,Prod.mk.injEq] at hk
   obtain ⟨h1,h2⟩:=SH heq es kv (i+1) hk.2
   unfold pV
   rw [hk.1.1,heq,xR]
   by_cases hx:a=k.1
   ·rw [decide_eq_true hx,if_pos hx]
    refine ⟨(fun h=>by cases h),fun v hv=>?_⟩
    cases hv
    refine ⟨0,e,by simp [hk.1.2],rfl,by rw [hk.1.1,hx],hk.1.2,by rw [hx];rfl,fun k jW=>by omega⟩
   ·rw [decide_eq_false hx,if_neg hx]
    simp only [Option.bind_some,Bool.false_eq_true,if_false]
    refine ⟨h1,fun v hv=>?_⟩
    obtain ⟨j,e',g1,g2,g3,g4,g5,g6⟩:=h2 v hv
    refine ⟨j+1,e',?_,by simpa using g2,g3,g4,by simpa using g5,fun q p hq hp=>?_⟩
    ·rw [g1,show i+1+j=i+(j+1) by omega]
    ·cases q with
     |zero=>rw [List.getElem?_cons_zero] at hp;cases hp;exact hx
     |succ q=>exact g6 q p (by omega) (by simpa using hp)
theorem XB {T:bK} {kt:TypeId} (a:ByteArray) (heq:∀ x y:ByteArray,fB T 20 kt (.string x) (.string y)=some (decide (x=y))):uP T kt (.string a)=true:=by
 unfold uP
 rw [show plain (.string a)=true from rfl,heq]
 simp
theorem zlh {kv:List (ByteArray × Value)} {a:ByteArray} {v w:Value}:∀ {j:Nat},kv[j]? = some (a,w)→(∀ k p,k < j→kv[k]? = some p→a≠p.1)→(kv.map Prod.fst).Nodup→kv.map (fun p=>if a=p.1 then (a,v) else p)=kv.modify j (fun p=>(a,v)):=by
 induction kv with
 |nil=>intro j h;simp at h
 |cons p kv ih =>
  intro j hj aR hn
  rw [List.map_cons,List.nodup_cons] at hn
  cases j with
  |zero =>
   rw [List.getElem?_cons_zero] at hj
   cases hj
   rw [List.map_cons,if_pos rfl,List.modify_zero_cons]
   congr 1
   rw [List.map_congr_left (g:=id),List.map_id]
   intro q hq
   rw [if_neg]
   ·rfl
   ·intro e
    exact hn.1 (by show a∈_;rw [e];exact List.mem_map_of_mem (f:=Prod.fst) hq)
  |succ j =>
   rw [List.map_cons,if_neg (aR 0 p (by omega) rfl),List.modify_succ_cons,ih (by simpa using hj) (fun k q hk hq=>aR (k+1) q (by omega) (by simpa using hq)) hn.2]
section
variable {T:bK} {t kt et:TypeId} {A:Nat} {kv:List (ByteArray × Value)} {a:ByteArray} {v:Value} {h h1 h2:Heap} {bs:List bh} {w:Nat} {K:Value→Heap→Prop}
theorem dp.lt (m:dp h A kv):A < h.size:=by obtain ⟨es,cl,m1,m2⟩:=m;exact m1.lt
theorem dp.hold {H:Heap} (m:dp h A kv) (hO:∀ b,Holds h A b→Holds H A b):dp H A kv:=by
 obtain ⟨es,cl,m1,m2⟩:=m
 exact ⟨es,cl,hO _ m1,m2⟩
theorem dp.over (m:dp h1 A kv) (x:Ext (h1.lay bs w) h2):dp h2 A kv:=m.hold fun b q=>q.over x
theorem dp.lay (m:dp h1 A kv) (bs:List bh) (w:Nat):dp (h1.lay bs w) A kv:=m.hold fun b q=>q.on bs w
theorem dp.new (q:Holds h A (.map [] 0)):dp h A []:=⟨[],0,q,rfl,by simp,by simp,fun _ hx=>by simp at hx⟩
theorem dp.bE (m:dp h1 A kv) {B:Nat} (c:fp B (h1.lay bs w) h2) (aP:A≠B):dp h2 A kv:=m.hold fun b q=>q.bE c aP
theorem Rt {ok:Bool} {z:Value} (m:dp h1 A kv) (hd:T.desc t=some (.map kt et)) (hs:T.desc kt=some .string) (hz:T.zero et=some z)
 (hK:K (if ok then .tuple #[(dG kv a).getD z,.bool (dG kv a).isSome] else (dG kv a).getD z) (h1.lay bs w)):aW (xX T t (.map (some A)) (.string a) ok (h1.lay bs w)) (h1.lay bs w) K:=by
 obtain ⟨es,cl,m1,m2,m3⟩:=m
 have heq:=Ke (T:=T) hs
 obtain ⟨f1,f2⟩:=SH (a:=a) heq es kv 0 m2
 have hg:(h1.lay bs w).get A=some (.map es cl):=m1.lay bs w
 unfold xX
 simp only [hd,XB a heq,if_true,SK,hg,Option.bind_some]
 cases hl:dG kv a with
 |none =>
  rw [hl] at hK
  rw [f1 hl]
  simp only [hz,Option.bind_some,Option.map_some]
  exact hK
 |some n =>
  rw [hl] at hK
  obtain ⟨j,e,hj,_⟩:=f2 n hl
  rw [hj]
  simp only [Option.bind_some,Option.map_some]
  exact hK
theorem adD (m:dp h1 A kv) (hd:T.desc t=some (.map kt et)):bc T t (.map (some A)) (h1.lay bs w)=some (.int .i64 kv.length):=by
 obtain ⟨es,cl,m1,m2,m3⟩:=m
 have hg:(h1.lay bs w).get A=some (.map es cl):=m1.lay bs w
 have hl:es.length=kv.length:=by have:=congrArg List.length m2;simpa using this
 unfold bc
 simp only [hd,hg,hl]
theorem xV {H:Heap} {b:bh} (hA:A < H.size):fp A H (H.set A b):=⟨by rw [Heap.size_set];exact Nat.le_refl _,fun B hB aP=>by rw [Heap.aD _ _ _ _ hA,if_neg aP],by rw [Heap.bW];omega⟩
theorem Em {H:Heap} {b:bh} (hA:A < H.size):Holds (H.set A b) A b:=⟨by rw [Heap.size_set];exact hA,by rw [Heap.aD _ _ _ _ hA,if_pos rfl]⟩
theorem OH (a:ByteArray):HJ (.string a) (.string a)=true:=by unfold HJ Ig;simp
theorem dp.put {H:Heap} {es:List MapEntry} {cl:Nat} (hA:A < H.size) (m2:es.map (fun x:MapEntry=>(x.key,x.val))=kv.map (fun p=>(Value.string p.1,p.2))) (m3:(kv.map Prod.fst).Nodup) (m4:(es.map (·.born)).Nodup) (m5:∀ x∈es,x.born < cl) (hl:dG kv a=none) :
 dp (H.set A (.map (es++[{ key:=.string a,val:=v,born:=cl }]) (cl+1))) A (gC kv a v):=by
 have D5:gC kv a v=kv++[(a,v)]:=by unfold gC;rw [hl];rfl
 refine ⟨_,_,Em hA,?_,W9 m3 a v,?_,fun x hx=>?_⟩
 ·rw [D5,List.map_append,List.map_append,m2];rfl
 ·rw [List.map_append,List.nodup_append]
  refine ⟨m4,by simp,fun x hx y hy=>?_⟩
  obtain ⟨e,he,rfl⟩:=List.mem_map.1 hx
  simp at hy
  have:=m5 e he
  omega
 ·rcases List.mem_append.1 hx with hx|hx
  ·have:=m5 x hx;omega
  ·rw [List.mem_singleton.1 hx];exact Nat.lt_succ_self _
theorem dp.turn {H:Heap} {es:List MapEntry} {cl j:Nat} {w:Value} {f:MapEntry→MapEntry} (hf:∀ e,(f e).key=.string a∧(f e).val=v∧(f e).born=e.born) (hA:A < H.size) (m2:es.map (fun x:MapEntry=>(x.key,x.val))=kv.map (fun p=>(Value.string p.1,p.2))) (m3:(kv.map Prod.fst).Nodup) (m4:(es.map (·.born)).Nodup) (m5:∀ x∈es,x.born < cl) (hl:dG kv a=some w)
 (g5:kv[j]? = some (a,w)) (g6:∀ k p,k < j→kv[k]? = some p→a≠p.1):dp (H.set A (.map (es.modify j f) cl)) A (gC kv a v):=by
 have D5:gC kv a v=kv.modify j (fun p=>(a,v)):=by unfold gC;rw [hl];exact zlh g5 g6 m3
 have hb:(es.modify j f).map (·.born)=es.map (·.born):=by
  refine List.ext_getElem? fun i=>?_
  simp only [List.getElem?_map,List.getElem?_modify]
  cases es[i]? with
  |none=>rfl
  |some y=>by_cases di:j=i <;> simp [di,(hf y).2.2]
 refine ⟨_,_,Em hA,?_,W9 m3 a v,by rw [hb];exact m4,fun x hx=>?_⟩
 ·rw [D5]
  refine List.ext_getElem? fun i=>?_
  have hi:=congrArg (fun l=>l[i]?) m2
  simp only [List.getElem?_map] at hi
  simp only [List.getElem?_map,List.getElem?_modify]
  by_cases di:j=i
  ·subst di
   rw [g5] at hi ⊢
   cases he:es[j]? with
   |none=>rw [he] at hi;simp at hi
   |some y=>simp [(hf y).1,(hf y).2.1]
  ·cases he:es[i]? with
   |none =>
    rw [he] at hi
    cases hk:kv[i]? with
    |none=>rfl
    |some p=>rw [hk] at hi;simp at hi
   |some y =>
    rw [he] at hi
    cases hk:kv[i]? with
    |none=>rw [hk] at hi;simp at hi
    |some p=>rw [hk] at hi;simpa [di] using hi
 ·have h1:x.born∈(es.modify j f).map (·.born):=List.mem_map_of_mem (f:=fun x:MapEntry=>x.born) hx
  rw [hb] at h1
  obtain ⟨y,hy,he⟩:=List.mem_map.1 h1
  rw [← he]
  exact m5 y hy
theorem zEj (m:dp h1 A kv) (hd:T.desc t=some (.map kt et)) (hs:T.desc kt=some .string)
 (hK:∀ h',dp h' A (gC kv a v)→fp A (h1.lay bs w) h'→K undef h'):iw (oB T t (.map (some A)) (.string a) v (h1.lay bs w)) K:=by
 obtain ⟨es,cl,m1,m2,m3,m4,m5⟩:=m
 have heq:=Ke (T:=T) hs
 obtain ⟨f1,f2⟩:=SH (a:=a) heq es kv 0 m2
 have hg:(h1.lay bs w).get A=some (.map es cl):=m1.lay bs w
 have hA:A < (h1.lay bs w).size:=(m1.on bs w).lt
 unfold oB
 simp only [hd,hg,XB a heq,if_true]
 cases hl:dG kv a with
 |none =>
  rw [f1 hl]
  simp only [Option.bind_some]
  exact hK _ (dp.put hA m2 m3 m4 m5 hl) (xV hA)
 |some n =>
  obtain ⟨j,e,hj,g2,g3,g4,g5,g6⟩:=f2 n hl
  rw [hj]
  simp only [Option.bind_some,Nat.zero_add,g2,g3,OH,if_true]
  exact hK _ (dp.turn (fun _=>⟨rfl,rfl,rfl⟩) hA m2 m3 m4 m5 hl g5 g6) (xV hA)
theorem Xc {α β:Type} (f:α→β):∀ (l:List α) (i:Nat),(l.eraseIdx i).map f=(l.map f).eraseIdx i
 | [],i=>by simp
 |x::l,0=>by simp
 |x::l,i+1=>by rw [List.eraseIdx_cons_succ,List.map_cons,List.map_cons,List.eraseIdx_cons_succ,Xc f l i]
theorem znI {kv:List (ByteArray × Value)} {a:ByteArray} {w:Value}:∀ {j:Nat},kv[j]? = some (a,w)→(∀ k p,k < j→kv[k]? = some p→a≠p.1)→(kv.map Prod.fst).Nodup→mx kv a=kv.eraseIdx j:=by
 induction kv with
 |nil=>intro j h;simp at h
 |cons p kv ih =>
  intro j hj aR hn
  rw [List.map_cons,List.nodup_cons] at hn
  unfold mx at ih ⊢
  cases j with
  |zero =>
   rw [List.getElem?_cons_zero] at hj
   cases hj
   rw [List.filter_cons_of_neg (by simp),List.eraseIdx_cons_zero,List.filter_eq_self]
   intro q hq
   rw [decide_eq_false]
   ·rfl
   ·intro e
    exact hn.1 (by show a∈_;rw [e];exact List.mem_map_of_mem (f:=Prod.fst) hq)
  |succ j =>
   rw [List.filter_cons_of_pos (by simpa using aR 0 p (by omega) rfl),List.eraseIdx_cons_succ,ih (by simpa using hj) (fun k q hk hq=>aR (k+1) q (by omega) (by simpa using hq)) hn.2]
theorem zuN (m:dp h1 A kv) (hd:T.desc t=some (.map kt et)) (hs:T.desc kt=some .string)
 (hK:∀ h',dp h' A (mx kv a)→fp A (h1.lay bs w) h'→K undef h'):iw (vE T t (.map (some A)) (.string a) (h1.lay bs w)) K:=by
 obtain ⟨es,cl,m1,m2,m3,m4,m5⟩:=m
 have heq:=Ke (T:=T) hs
 obtain ⟨f1,f2⟩:=SH (a:=a) heq es kv 0 m2
 have hg:(h1.lay bs w).get A=some (.map es cl):=m1.lay bs w
 have hA:A < (h1.lay bs w).size:=(m1.on bs w).lt
 unfold vE
 simp only [hd,hg,XB a heq,if_true]
 cases hl:dG kv a with
 |none =>
  rw [f1 hl]
  simp only [Option.bind_some]
  have hdv:mx kv a=kv:=by
   unfold mx
   rw [List.filter_eq_self]
   intro q hq
   rw [decide_eq_false]
   ·rfl
   ·intro e
    exact iv.1 hl (by rw [e];exact List.mem_map_of_mem hq)
  refine hK _ ?_ (xV hA)
  rw [hdv]
  exact ⟨es,cl,Em hA,m2,m3,m4,m5⟩
 |some n =>
  obtain ⟨j,e,hj,g2,g3,g4,g5,g6⟩:=f2 n hl
  rw [hj]
  simp only [Option.bind_some,Nat.zero_add]
  refine hK _ ⟨es.eraseIdx j,cl,Em hA,?_,TC m3 a,?_,fun x hx=>m5 x (List.mem_of_mem_eraseIdx hx)⟩ (xV hA)
  ·rw [znI g5 g6 m3,Xc,Xc,m2]
  ·rw [Xc]
   exact List.Nodup.sublist (List.eraseIdx_sublist _ _) m4
theorem znd {es:List MapEntry}:∀ {j:Nat} {e:MapEntry} (i:Nat),(es.map (·.born)).Nodup→es[j]? = some e→Kj (e.born:Int) es i=some (i+j):=by
 induction es with
 |nil=>intro j e i _ h;simp at h
 |cons x es ih =>
  intro j e i hn hj
  rw [List.map_cons,List.nodup_cons] at hn
  unfold Kj
  cases j with
  |zero =>
   rw [List.getElem?_cons_zero] at hj
   cases hj
   rw [if_pos rfl]
   rfl
  |succ j =>
   rw [List.getElem?_cons_succ] at hj
   have hm:e.born∈es.map (·.born):=List.mem_map_of_mem (f:=fun x:MapEntry=>x.born) (List.mem_of_getElem? hj)
   have aP:¬ ((x.born:Int)=(e.born:Int)):=fun hh=>hn.1 ((show x.born=e.born by omega) ▸ hm)
   rw [if_neg aP,ih (i+1) hn.2 hj,show i+1+j=i+(j+1) by omega]
theorem zpP {z:Value} (m:dp h1 A kv) (hd:T.desc t=some (.map kt et)) (hs:T.desc kt=some .string) (hz:T.zero et=some z)
 (hK:∀ h' x (s:Nat) b,Holds h' A b→fp A (h1.lay bs w) h'→(∀ (h2:Heap),Holds h2 A b→∀ v2 (K2:Value→Heap→Prop),(∀ h3,dp h3 A (gC kv a v2)→fp A h2 h3→K2 undef h3)→iw (uF (.map (some A)) (.int .i64 s) v2 h2) K2)→K (.tuple #[x,.int .i64 s]) h'):cq (zc T t (.map (some A)) (.string a) (h1.lay bs w)) K:=by
 obtain ⟨es,cl,m1,m2,m3,m4,m5⟩:=m
 have heq:=Ke (T:=T) hs
 obtain ⟨f1,f2⟩:=SH (a:=a) heq es kv 0 m2
 have hg:(h1.lay bs w).get A=some (.map es cl):=m1.lay bs w
 have hA:A < (h1.lay bs w).size:=(m1.on bs w).lt
 unfold zc
 simp only [hd,hg,XB a heq,if_true]
 cases hl:dG kv a with
 |none =>
  rw [f1 hl]
  simp only [Option.bind_some,hz,Option.map_some]
  have hm:=dp.put (v:=z) hA m2 m3 m4 m5 hl
  refine hK _ _ cl _ (Em hA) (xV hA) (fun h2 q v2 K2 zP=>?_)
  have fU:((es++[({ key:=.string a,val:=z,born:=cl }:MapEntry)]).map (·.born)).Nodup:=by
   rw [List.map_append,List.nodup_append]
   refine ⟨m4,by simp,fun x hx y hy=>?_⟩
   obtain ⟨e,he,rfl⟩:=List.mem_map.1 hx
   simp at hy
   have:=m5 e he
   omega
  have Nq:=znd (es:=es++[({ key:=.string a,val:=z,born:=cl }:MapEntry)]) (j:=es.length) (e:={ key:=.string a,val:=z,born:=cl }) 0 fU (by simp)
  simp only [Nat.zero_add] at Nq
  unfold uF
  simp only [q.get,Nq,Option.map_some]
  refine zP _ ?_ (xV q.lt)
  have wZ:(es++[({ key:=.string a,val:=z,born:=cl }:MapEntry)]).modify es.length (fun e=>{ e with val:=v2 })=es++[{ key:=.string a,val:=v2,born:=cl }]:=by
   refine List.ext_getElem? fun i=>?_
   rw [List.getElem?_modify,List.getElem?_append,List.getElem?_append]
   by_cases hi:i < es.length
   ·rw [if_pos hi,if_pos hi]
    have aP:¬ es.length=i:=by omega
    cases es[i]? <;> simp [aP]
   ·rw [if_neg hi,if_neg hi]
    by_cases vj:es.length=i
    ·subst vj;simp
    ·cases hq:i - es.length with
     |zero=>omega
     |succ q=>simp [vj]
  rw [wZ]
  exact dp.put q.lt m2 m3 m4 m5 hl
 |some n =>
  obtain ⟨j,e,hj,g2,g3,g4,g5,g6⟩:=f2 n hl
  rw [hj]
  simp only [Option.bind_some,Nat.zero_add,g2,g3,OH,if_true]
  have hid:es.modify j (fun e=>{ e with key:=.string a })=es:=by
   refine List.ext_getElem? fun i=>?_
   rw [List.getElem?_modify]
   by_cases di:j=i
   ·subst di
    rw [g2]
    simp [← g3]
   ·cases es[i]? <;> simp [di]
  rw [hid]
  refine hK _ _ e.born _ (Em hA) (xV hA) (fun h2 q v2 K2 zP=>?_)
  have Nq:=znd 0 m4 g2
  simp only [Nat.zero_add] at Nq
  unfold uF
  simp only [q.get,Nq,Option.map_some]
  refine zP _ ?_ (xV q.lt)
  obtain ⟨MP,rfl⟩:∃ MP:List MapEntry,MP=es:=⟨_,rfl⟩
  have D5:gC kv a v2=kv.modify j (fun p=>(a,v2)):=by unfold gC;rw [hl];exact zlh g5 g6 m3
  have ab7:MP.modify j (fun e=>{ e with val:=v2 })=MP.modify j (fun e=>{ e with key:=.string a,val:=v2 }):=by
   refine List.ext_getElem? fun i=>?_
   simp only [List.getElem?_modify]
   by_cases di:j=i
   ·subst di
    rw [g2]
    simp [g3]
   ·cases MP[i]? <;> simp [di]
  rw [ab7]
  exact dp.turn (fun _=>⟨rfl,rfl,rfl⟩) q.lt m2 m3 m4 m5 hl g5 g6
end
end Go.Am
