/- Parts of slices; appending to a part that has no room. No condition. -/
import Derived.Test.YtdplfgoifjjniaaGreatDoorG19
set_option linter.unusedSimpArgs false
set_option linter.unusedVariables false
namespace Go.Am
section
variable {α:Type} {r:Rep α} {h0 h h1:Heap} {v:Value} {l:List α} {t e:TypeId} {T:Tab} {bs:List Blk} {w:Nat} {K:Value→Heap→Prop}
def BndIs (x:Option Value) (d n:Nat):Prop:=(x=none∧n=d)∨∃ kd,x=some (.int kd n)
theorem BndIs.no (n:Nat):BndIs none n n:=.inl ⟨rfl,rfl⟩
theorem BndIs.num (kd:IntKind) (d n:Nat):BndIs (some (.int kd n)) d n:=.inr ⟨kd,rfl⟩
theorem zcW {kd:IntKind} {n hi:Nat} (hn:n≤hi):zgQ (.int kd n) hi=some n:=by
 have:(0:Int)≤n∧(n:Int)≤hi:=by omega
 simp only [zgQ,this,and_self,if_true,Int.toNat_natCast]
theorem zdY {n c a b:Nat} {lo hi:Option Value} (hlo:BndIs lo 0 a) (hhi:BndIs hi n b) (hab:a≤b) (hbc:b≤c):zbH n c lo hi none=some (a,b,c):=by
 unfold zbH
 rcases hlo with ⟨rfl,rfl⟩|⟨kd,rfl⟩ <;> rcases hhi with ⟨rfl,rfl⟩|⟨kd2,rfl⟩ <;> simp [zcW,hab,hbc]
theorem zeW {n c i:Nat} {kd kd2:IntKind} (hi:i≤c):zbH n c none (some (.int kd i)) (some (.int kd2 i))=some (0,i,i):=by
 unfold zbH
 simp [zcW,hi]
theorem zxR:0 < G:=by unfold G;omega
theorem zcA {k q:Nat} (hk:0 < k) (hq:q < G):G≤G*k+q∧(G*k+q) / G=k∧(G*k+q) % G=q:=by
 obtain ⟨c1,c2,c3⟩:=zeu (k:=k) (q:=q) hk hq
 exact ⟨by omega,c3,c2⟩
theorem Sl.sub (f:Sl r h v l) (hk:0 < r.k) (hd:T.desc t=some (.slice e)) (hs:zau T e=some r.k) {a b:Nat} {lo hi:Option Value} (hlo:BndIs lo 0 a) (hhi:BndIs hi l.length b) (hab:a≤b) (hb:b≤l.length) :
 ∃ v',zbl T t v lo hi none=some v'∧Sl r h v' ((l.take b).drop a):=by
 have hlen:((l.take b).drop a).length=b - a:=by simp;omega
 have hel:∀ (i:Nat) (x:α),((l.take b).drop a)[i]? = some x→l[a+i]? = some x∧i < b - a:=by
  intro i x hx
  have:=(List.getElem?_eq_some_iff.1 hx).1
  rw [hlen] at this
  rw [List.getElem?_drop,List.getElem?_take_of_lt (by omega)] at hx
  exact ⟨hx,this⟩
 rcases f with ⟨rfl,rfl⟩|⟨A,o,c,row,u,ro,rfl,e2,e3,e4,e5,e6⟩
 ·have hb0:b=0:=by simpa using hb
  subst hb0
  have ha0:a=0:=by omega
  subst ha0
  refine ⟨.slice none 0 0,?_,by simpa using Sl.nil⟩
  unfold zbl
  simp only [hd,hs,Option.bind_some,if_pos zxR]
  have:=zdY (n:=0) (c:=0) hlo (by simpa using hhi) (Nat.le_refl 0) (Nat.le_refl 0)
  rw [this]
  rfl
 ·rcases e3 with ⟨c1,c2⟩|⟨c1,c2,c3⟩
  ·refine ⟨.slice (some ⟨A,if c=a then o else o+a*r.k,none⟩) (b - a) (c - a),?_,?_⟩
   ·unfold zbl
    simp only [hd,hs,Option.bind_some,if_pos c1]
    rw [zdY hlo hhi hab (by omega)]
    rfl
   ·refine .inr ⟨A,_,c - a,row,u,ro,by rw [hlen],by rw [hlen];omega,.inl ⟨by omega,by rw [hlen];omega⟩,e4,e5,fun i x hx=>?_⟩
    obtain ⟨hx,hi⟩:=hel i x hx
    obtain ⟨cs,g1,g2⟩:=e6 _ _ hx
    refine ⟨cs,?_,g2⟩
    rw [if_neg (by omega),Nat.add_assoc,← Nat.add_mul]
    exact g1
  ·refine ⟨.slice (some ⟨A,o+a*r.k,none⟩) (b - a) (G*r.k+(c % G - a)),?_,?_⟩
   ·unfold zbl
    simp only [hd,hs,Option.bind_some,if_neg (show ¬ c < G by omega),if_pos c2]
    rw [zdY hlo hhi hab (by omega)]
    rfl
   ·have hm:=Nat.mod_lt c zxR
    obtain ⟨d1,d2,d3⟩:=zcA (k:=r.k) (q:=c % G - a) hk (by omega)
    refine .inr ⟨A,_,_,row,u,ro,by rw [hlen],by rw [hlen];omega,.inr ⟨d1,d2,by rw [hlen,d3];omega⟩,e4,e5,fun i x hx=>?_⟩
    obtain ⟨hx,hi⟩:=hel i x hx
    obtain ⟨cs,g1,g2⟩:=e6 _ _ hx
    refine ⟨cs,?_,g2⟩
    rw [Nat.add_assoc,← Nat.add_mul]
    exact g1
theorem Sl.full (f:Sl r h v l) (hd:T.desc t=some (.slice e)) (hs:zau T e=some r.k) {i:Nat} {kd kd2:IntKind} (hi:i≤l.length) :
 ∃ base,zbl T t v none (some (.int kd i)) (some (.int kd2 i))=some (.slice base i i)∧Sl r h (.slice base i i) (l.take i):=by
 have hlen:(l.take i).length=i:=by simp;omega
 rcases f with ⟨rfl,rfl⟩|⟨A,o,c,row,u,ro,rfl,e2,e3,e4,e5,e6⟩
 ·have hb0:i=0:=by simpa using hi
  subst hb0
  refine ⟨none,?_,by simpa using Sl.nil⟩
  unfold zbl
  simp only [hd,hs,Option.bind_some,if_pos zxR]
  rw [zeW (Nat.le_refl 0)]
  rfl
 ·have hG:maxLen < G:=by decide
  have hel:Sl r h (.slice (some ⟨A,o,none⟩) i i) (l.take i):=by
   refine .inr ⟨A,o,i,row,u,ro,by rw [hlen],by rw [hlen];omega,.inl ⟨by omega,by rw [hlen];omega⟩,e4,e5,fun j x hx=>?_⟩
   have hj:=(List.getElem?_eq_some_iff.1 hx).1
   rw [hlen] at hj
   rw [List.getElem?_take_of_lt hj] at hx
   exact e6 _ _ hx
  refine ⟨some ⟨A,o,none⟩,?_,hel⟩
  rcases e3 with ⟨c1,c2⟩|⟨c1,c2,c3⟩
  ·unfold zbl
   simp only [hd,hs,Option.bind_some,if_pos c1]
   rw [zeW (by omega)]
   simp
  ·unfold zbl
   simp only [hd,hs,Option.bind_some,if_neg (show ¬ c < G by omega),if_pos c2]
   rw [zeW (by omega)]
   simp
end
end Go.Am
namespace Go.Am
def slt (a b:ByteArray):Bool:=Op.bytesLess a.data.toList b.data.toList
theorem zyc:∀ (x y:List UInt8),Op.bytesLess x y=decide (x < y)
 | [],[]=>by simp [Op.bytesLess]
 |_::_,[]=>by simp [Op.bytesLess]
 | [],_::_=>by simp [Op.bytesLess]
 |a::x,b::y=>by
  rw [Op.bytesLess,zyc x y]
  simp only [List.cons_lt_cons_iff]
  by_cases h1:a < b <;> by_cases h2:a=b <;> by_cases h3:x < y <;> simp [h1,h2,h3]
theorem zm0 {a b c:ByteArray} (h1:slt a b=true) (h2:slt b c=true):slt a c=true:=by
 unfold slt at *
 rw [zyc] at *
 simp only [decide_eq_true_eq] at *
 exact List.lt_trans h1 h2
theorem ztx {a b:ByteArray} (h1:slt a b=false) (h2:slt b a=false):a=b:=by
 unfold slt at *
 rw [zyc] at *
 simp only [decide_eq_false_iff_not,List.not_lt] at *
 exact zhZ (List.le_antisymm h2 h1)
def zly (l:List BindD) (m:Nat):Prop:=∀ k x y,k+1 < m→l[k]? = some x→l[k+1]? = some y→slt x.var y.var=true
theorem ztr {l:List BindD} (h:zly l l.length) {i j:Nat} {x y:BindD} (hij:i < j) (hx:l[i]? = some x) (hy:l[j]? = some y):slt x.var y.var=true:=by
 induction j generalizing y with
 |zero=>omega
 |succ j ih =>
  have hj:=(List.getElem?_eq_some_iff.1 hy).1
  have hz:l[j]? = some l[j]:=List.getElem?_eq_getElem (by omega)
  have h1:=h j l[j] y hj hz hy
  by_cases he:i=j
  ·subst he
   rw [hz] at hx
   cases hx
   exact h1
  ·exact zm0 (ih (by omega) hz) h1
def zfT (l:List BindD) (s:ByteArray):TermD × Bool:=match l.find? (fun x=>decide (x.var=s)) with
 |some x=>(x.term,true)
 |none=>(zaX,false)
def znn (l:List BindD) (b:BindD):List BindD:=l.takeWhile (fun x => !slt b.var x.var)++b::l.dropWhile (fun x => !slt b.var x.var)
end Go.Am
namespace Go.Am
section
variable {P:Program} {T:Tab} {ov:Ov} {d:Option Tmp} {ty:TypeId} {pos:String} {af:Array Edge} {g:Option (Nat × Bool)} {e:Env} {h:Heap} {K:Value→Heap→Prop}
theorem zfn (t:TypeId):WOp P T ov ⟨d,.makeMap t none,ty,pos,af,g⟩ e h K=K (.map (some h.size)) (h.push (.map [] 0)):=rfl
theorem zeE (t:TypeId) (x k:Operand) (ok:Bool):WOp P T ov ⟨d,.lookup t x k ok,ty,pos,af,g⟩ e h K=valE (zdB T t (zab e x) (zab e k) ok h) h K:=by rw [← zcg];rfl
theorem zeF (t:TypeId) (m k x:Operand):WOp P T ov ⟨d,.mapUpdate t m k x,ty,pos,af,g⟩ e h K=memE (zbE T t (zab e m) (zab e k) (zab e x) h) K:=by
 show optE ((zbE T t (zab e m) (zab e k) (zab e x) h).map fun h'=>(undef,h')) K=_
 cases zbE T t (zab e m) (zab e k) (zab e x) h <;> rfl
end
def MapA (h:Heap) (A:Nat) (met:List AtomD):Prop:=∃ es clock,∃ ks:List AtomD,Holds h A (.map es clock)∧es.map (fun x:MapEntry=>x.key)=ks.map AtomD.val∧(∀ a,a∈ks↔a∈met)∧∀ x∈es,x.val=.agg ⟨[]⟩
section
variable {T:Tab} {t kt et:TypeId} {A:Nat} {met:List AtomD} {a:AtomD} {h1:Heap} {bs:List Blk} {w:Nat} {K:Value→Heap→Prop} {z:Value}
theorem MapA.over (m:MapA h1 A met) {h2:Heap} (x:Ext (h1.lay bs w) h2):MapA h2 A met:=by
 obtain ⟨es,cl,ks,m1,m2,m3⟩:=m
 exact ⟨es,cl,ks,m1.over x,m2,m3⟩
theorem MapA.ext (m:MapA h1 A met) {h2:Heap} (x:Ext h1 h2):MapA h2 A met:=by
 obtain ⟨es,cl,ks,m1,m2,m3⟩:=m
 exact ⟨es,cl,ks,⟨Nat.lt_of_lt_of_le m1.lt x.size,(x.get A m1.lt).trans m1.get⟩,m2,m3⟩
theorem MapA.top {h2:Heap} {i:Nat} (x:Ext (h1.lay bs w) h2) (hi:bs[i]? = some (.map [] 0)):MapA h2 (h1.size+i) []:=⟨[],0,[],Holds.top x hi,rfl,fun _=>Iff.rfl,fun _ hx=>by simp at hx⟩
end
theorem zjj {T:Tab} {t u:TypeId} {A n:Nat} {cs:List Value} {v:Value} {h1:Heap} {bs:List Blk} {w:Nat} {K:Value→Heap→Prop} (q:Holds h1 A (.row cs u false)) (hs:zau T t=some n) (hv:v.cells.toList.length=n) (hl:cs.length=n) (h1':v.cells.toList.all one=true)
 (hK:∀ h',Holds h' A (.row v.cells.toList u false)→Chg A (h1.lay bs w) h'→K undef h'):memE (zaZ T t (.pointer (some ⟨A,0,none⟩)) v (h1.lay bs w)) K:=by
 have hg:(h1.lay bs w).get A=some (.row cs u false):=q.lay bs w
 have hA:A < (h1.lay bs w).size:=(q.on bs w).lt
 have hsz:v.cells.size=n:=by rw [← hv];simp
 have hw:zbQ A 0 v.cells.toList (h1.lay bs w)=some ((h1.lay bs w).set A (.row v.cells.toList u false)):=by
  unfold zbQ
  rw [hg]
  simp only
  rw [if_pos (by simp only [Bool.and_eq_true,decide_eq_true_eq];exact ⟨by omega,h1'⟩)]
  congr 2
  unfold splice
  rw [List.take_zero,List.nil_append,List.drop_of_length_le (by omega),List.append_nil]
 have he:zaZ T t (.pointer (some ⟨A,0,none⟩)) v (h1.lay bs w)=some ((h1.lay bs w).set A (.row v.cells.toList u false)):=by
  unfold zaZ
  simp only [hs,Option.bind_some]
  rw [if_pos hsz]
  exact hw
 rw [he]
 refine hK _ ⟨by rw [Heap.size_set];exact hA,by rw [Heap.get_set _ _ _ _ hA,if_pos rfl]⟩ ⟨by rw [Heap.size_set];exact Nat.le_refl _,fun B hB hne=>by rw [Heap.get_set _ _ _ _ hA,if_neg hne],by rw [Heap.low_set];omega⟩
theorem zpY (t:TermD):t.val.cells.toList=t.cells:=rfl
end Go.Am
namespace Go.Am
def MapK {κ:Type} (kv:κ→Value) (h:Heap) (A:Nat) (met:List κ):Prop:=∃ es clock,∃ ks:List κ,Holds h A (.map es clock)∧es.map (fun x:MapEntry=>x.key)=ks.map kv∧(∀ a,a∈ks↔a∈met)∧∀ x∈es,x.val=.agg ⟨[]⟩
section
variable {κ:Type} {kv:κ→Value} {T:Tab} {t kt et:TypeId} {A:Nat} {met:List κ} {a:κ} {h1:Heap} {bs:List Blk} {w:Nat} {K:Value→Heap→Prop} {z:Value}
theorem zii [DecidableEq κ] (heq:∀ x y:κ,eqIn T 20 kt (kv x) (kv y)=some (decide (x=y))):∀ (es:List MapEntry) (ks:List κ) (i:Nat),es.map (fun x:MapEntry=>x.key)=ks.map kv →
 (a ∉ ks→zeQ T kt (kv a) es i=some none)∧(a∈ks→∃ (j:Nat) (e:MapEntry),zeQ T kt (kv a) es i=some (some (i+j,e.val))∧es[j]? = some e∧e.key=kv a)
 | [],ks,i,hk=>by
  cases ks with
  |nil=>exact ⟨fun _=>rfl,fun h=>by simp at h⟩
  |cons k ks=>simp at hk
 |e::es,ks,i,hk=>by
  cases ks with
  |nil=>simp at hk
  |cons k ks =>
   simp only [List.map_cons,List.cons.injEq] at hk
   obtain ⟨h1,h2⟩:=zii heq es ks (i+1) hk.2
   unfold zeQ
   rw [hk.1,heq]
   by_cases hx:a=k
   ·subst hx
    refine ⟨fun hn=>absurd List.mem_cons_self hn,fun _=>⟨0,e,by simp,rfl,hk.1⟩⟩
   ·simp only [decide_eq_false hx,Option.bind_some,Bool.false_eq_true,if_false,List.mem_cons,hx,false_or]
    refine ⟨h1,fun ha=>?_⟩
    obtain ⟨j,e',g1,g2,g3⟩:=h2 ha
    refine ⟨j+1,e',?_,by simpa using g2,g3⟩
    rw [g1,show i+1+j=i+(j+1) by omega]
    simp
theorem zob [DecidableEq κ] (hp:∀ x:κ,plain (kv x)=true) (a:κ) (heq:∀ x y:κ,eqIn T 20 kt (kv x) (kv y)=some (decide (x=y))):zg7 T kt (kv a)=true:=by
 unfold zg7
 rw [hp,heq]
 simp
theorem MapK.over (m:MapK kv h1 A met) {h2:Heap} (x:Ext (h1.lay bs w) h2):MapK kv h2 A met:=by
 obtain ⟨es,cl,ks,m1,m2,m3⟩:=m
 exact ⟨es,cl,ks,m1.over x,m2,m3⟩
theorem MapK.ext (m:MapK kv h1 A met) {h2:Heap} (x:Ext h1 h2):MapK kv h2 A met:=by
 obtain ⟨es,cl,ks,m1,m2,m3⟩:=m
 exact ⟨es,cl,ks,⟨Nat.lt_of_lt_of_le m1.lt x.size,(x.get A m1.lt).trans m1.get⟩,m2,m3⟩
theorem MapK.stepL (m:MapK kv h1 A met) {B:Nat} {h2:Heap} (c:Chg B (h1.lay bs w) h2) (hne:A≠B):MapK kv h2 A met:=by
 obtain ⟨es,cl,ks,m1,m2,m3⟩:=m
 exact ⟨es,cl,ks,m1.stepL c hne,m2,m3⟩
theorem MapK.lay (m:MapK kv h1 A met) (bs:List Blk) (w:Nat):MapK kv (h1.lay bs w) A met:=by
 obtain ⟨es,cl,ks,m1,m2,m3⟩:=m
 exact ⟨es,cl,ks,m1.on bs w,m2,m3⟩
theorem MapK.new (q:Holds h1 A (.map [] 0)):MapK kv h1 A ([]:List κ):=⟨[],0,[],q,rfl,fun _=>Iff.rfl,fun _ hx=>by simp at hx⟩
theorem MapK.lt (m:MapK kv h1 A met):A < h1.size:=by
 obtain ⟨es,cl,ks,m1,m2,m3⟩:=m
 exact m1.lt
theorem MapK.hold {H:Heap} (m:MapK kv h1 A met) (hO:∀ A b,Holds h1 A b→Holds H A b):MapK kv H A met:=by
 obtain ⟨es,cl,ks,m1,m2,m3⟩:=m
 exact ⟨es,cl,ks,hO _ _ m1,m2,m3⟩
theorem MapK.same {met2:List κ} (m:MapK kv h1 A met) (h:∀ a,a∈met↔a∈met2):MapK kv h1 A met2:=by
 obtain ⟨es,cl,ks,m1,m2,m3,m4⟩:=m
 exact ⟨es,cl,ks,m1,m2,fun a=>(m3 a).trans (h a),m4⟩
theorem zqm [DecidableEq κ] (m:MapK kv h1 A met) (hp:∀ x:κ,plain (kv x)=true) (hd:T.desc t=some (.map kt et)) (heq:∀ x y:κ,eqIn T 20 kt (kv x) (kv y)=some (decide (x=y))) (hz:T.zero et=some (.agg ⟨[]⟩))
 (h1k:a∈met→K (.tuple #[.agg ⟨[]⟩,.bool true]) (h1.lay bs w)) (h2k:a ∉ met→K (.tuple #[.agg ⟨[]⟩,.bool false]) (h1.lay bs w)):valE (zdB T t (.map (some A)) (kv a) true (h1.lay bs w)) (h1.lay bs w) K:=by
 obtain ⟨es,cl,ks,m1,m2,m3,m4⟩:=m
 obtain ⟨f1,f2⟩:=zii (a:=a) heq es ks 0 m2
 have hg:(h1.lay bs w).get A=some (.map es cl):=m1.lay bs w
 unfold zdB
 simp only [hd,zob hp a heq,if_true,zsE,hg,Option.bind_some]
 by_cases ha:a∈ks
 ·obtain ⟨j,e,hr,hx,_⟩:=f2 ha
  rw [hr]
  have hr2:e.val=.agg ⟨[]⟩:=m4 e (List.mem_of_getElem? hx)
  simp only [hr2,Option.bind_some,Option.map_some,if_true]
  exact h1k ((m3 a).1 ha)
 ·rw [f1 ha]
  simp only [hz,Option.bind_some,Option.map_some,if_true]
  exact h2k (fun hh=>ha ((m3 a).2 hh))
theorem zw7 [DecidableEq κ] (m:MapK kv h1 A met) (hp:∀ x:κ,plain (kv x)=true) (hsk:∀ x:κ,zf7 (kv x) (kv x)=true) (hd:T.desc t=some (.map kt et)) (heq:∀ x y:κ,eqIn T 20 kt (kv x) (kv y)=some (decide (x=y)))
 (hK:∀ h',MapK kv h' A (a::met)→Chg A (h1.lay bs w) h'→K undef h'):memE (zbE T t (.map (some A)) (kv a) (.agg ⟨[]⟩) (h1.lay bs w)) K:=by
 obtain ⟨es,cl,ks,m1,m2,m3,m4⟩:=m
 obtain ⟨f1,f2⟩:=zii (a:=a) heq es ks 0 m2
 have hg:(h1.lay bs w).get A=some (.map es cl):=m1.lay bs w
 have hA:A < (h1.lay bs w).size:=(m1.on bs w).lt
 have hc:∀ b,Chg A (h1.lay bs w) ((h1.lay bs w).set A b):=fun b=>⟨by rw [Heap.size_set];exact Nat.le_refl _,fun B hB hne=>by rw [Heap.get_set _ _ _ _ hA,if_neg hne],by rw [Heap.low_set];omega⟩
 have hh:∀ b,Holds ((h1.lay bs w).set A b) A b:=fun b=>⟨by rw [Heap.size_set];exact hA,by rw [Heap.get_set _ _ _ _ hA,if_pos rfl]⟩
 by_cases ha:a∈ks
 ·obtain ⟨j,e,hr,hx,hek⟩:=f2 ha
  have he:zbE T t (.map (some A)) (kv a) (.agg ⟨[]⟩) (h1.lay bs w)=some ((h1.lay bs w).set A (.map (es.modify j fun e=>{ e with key:=kv a,val:=.agg ⟨[]⟩ }) cl)):=by
   unfold zbE
   simp only [hd,hg,zob hp a heq,if_true,hr,Option.bind_some,Nat.zero_add,hx,hek,hsk]
  rw [he]
  refine hK _ ⟨_,cl,ks,hh _,?_,fun b=>?_,fun x hx2=>?_⟩ (hc _)
  ·rw [← m2]
   refine List.ext_getElem? (fun i=>?_)
   simp only [List.getElem?_map,List.getElem?_modify]
   by_cases hij:j=i
   ·subst hij
    rw [hx]
    simp [hek]
   ·cases es[i]? <;> simp [hij]
  ·rw [m3,List.mem_cons]
   exact ⟨.inr,fun h=>h.elim (fun e=>e ▸ (m3 a).1 ha) id⟩
  ·obtain ⟨i,hi⟩:=List.getElem?_of_mem hx2
   rw [List.getElem?_modify] at hi
   cases hes:es[i]? with
   |none=>rw [hes] at hi;simp at hi
   |some y =>
    rw [hes] at hi
    simp only [Option.map_eq_map,Option.map_some,Option.some.injEq] at hi
    by_cases hij:j=i
    ·rw [if_pos hij] at hi;rw [← hi]
    ·rw [if_neg hij] at hi;rw [← hi];exact m4 y (List.mem_of_getElem? hes)
 ·have he:zbE T t (.map (some A)) (kv a) (.agg ⟨[]⟩) (h1.lay bs w)=some ((h1.lay bs w).set A (.map (es++[{ key:=kv a,val:=.agg ⟨[]⟩,born:=cl }]) (cl+1))):=by
   unfold zbE
   simp only [hd,hg,zob hp a heq,if_true,f1 ha,Option.bind_some]
  rw [he]
  refine hK _ ⟨_,_,ks++[a],hh _,by simp [m2],fun b=>?_,fun x hx=>?_⟩ (hc _)
  ·rw [List.mem_append,List.mem_singleton,List.mem_cons,m3]
   exact Or.comm
  ·rcases List.mem_append.1 hx with hx|hx
   ·exact m4 x hx
   ·rw [List.mem_singleton.1 hx]
end
end Go.Am
