/- Parts of slices; appending to a part that has no room. No condition. -/
import Derived.Test.YtdplfgoifjjniaaGreatDoorG13
import Derived.Test.YtdplfgoifjjniaaGreatDoorGOv
import Derived.Shelf.Sort.Plain
import Derived.Shelf.Slices.In.SortNone
import Derived.Shelf.Slices.CompactS
namespace Go.Am
set_option linter.unusedVariables false
section
variable {α:Type} {r:Rep α} {h0 h h1:Heap} {v:Value} {l:List α} {t e:TypeId} {T:Tab} {bs:List Blk} {w:Nat} {K:Value→Heap→Prop}
def BndIs (x:Option Value) (d n:Nat):Prop:=(x=none∧n=d)∨∃ kd,x=some (.int kd n)
theorem BndIs.no (n:Nat):BndIs none n n:=.inl ⟨rfl,rfl⟩
theorem BndIs.num (kd:IntKind) (d n:Nat):BndIs (some (.int kd n)) d n:=.inr ⟨kd,rfl⟩
theorem zc3 {kd:IntKind} {n hi:Nat} (hn:n≤hi):zg1 (.int kd n) hi=some n:=by
 have:(0:Int)≤n∧(n:Int)≤hi:=by omega
 simp only [zg1,this,and_self,if_true,Int.toNat_natCast]
theorem zei {n c a b:Nat} {lo hi:Option Value} (hlo:BndIs lo 0 a) (hhi:BndIs hi n b) (hab:a≤b) (hbc:b≤c):zbJ n c lo hi none=some (a,b,c):=by
 unfold zbJ
 rcases hlo with ⟨rfl,rfl⟩|⟨kd,rfl⟩ <;> rcases hhi with ⟨rfl,rfl⟩|⟨kd2,rfl⟩ <;> simp [zc3,hab,hbc]
theorem zfl {n c i:Nat} {kd kd2:IntKind} (hi:i≤c):zbJ n c none (some (.int kd i)) (some (.int kd2 i))=some (0,i,i):=by
 unfold zbJ
 simp [zc3,hi]
theorem zAF:0 < G:=by unfold G;omega
theorem zcA {k q:Nat} (hk:0 < k) (hq:q < G):G≤G*k+q∧(G*k+q) / G=k∧(G*k+q) % G=q:=by
 obtain ⟨c1,c2,c3⟩:=zev (k:=k) (q:=q) hk hq
 exact ⟨by omega,c3,c2⟩
theorem Sl.sub (f:Sl r h v l) (hk:0 < r.k) (hd:T.desc t=some (.slice e)) (hs:zay T e=some r.k) {a b:Nat} {lo hi:Option Value} (hlo:BndIs lo 0 a) (hhi:BndIs hi l.length b) (hab:a≤b) (hb:b≤l.length) :
 ∃ v',zbn T t v lo hi none=some v'∧Sl r h v' ((l.take b).drop a):=by
 have hlen:((l.take b).drop a).length=b - a:=by simp;omega
 have hel:∀ (i:Nat) (x:α),((l.take b).drop a)[i]? = some x→l[a+i]? = some x∧i < b - a:=by
  intro i x hx
  have:=(List.getElem?_eq_some_iff.1 hx).1
  rw [hlen] at this
  rw [List.getElem?_drop,List.getElem?_take_of_lt (by omega)] at hx
  exact ⟨hx,this⟩
 rcases f with ⟨rfl,rfl⟩|⟨A,o,c,row,u,ro,rfl,e2,e3,e4,e5,e6⟩
 ·have hb0:b=0:=by simpa using hb
  subst hb0
  have ha0:a=0:=by omega
  subst ha0
  refine ⟨.slice none 0 0,?_,by simpa using Sl.nil⟩
  unfold zbn
  simp only [hd,hs,Option.bind_some,if_pos zAF]
  have:=zei (n:=0) (c:=0) hlo (by simpa using hhi) (Nat.le_refl 0) (Nat.le_refl 0)
  rw [this]
  rfl
 ·rcases e3 with ⟨c1,c2⟩|⟨c1,c2,c3⟩
  ·refine ⟨.slice (some ⟨A,if c=a then o else o+a*r.k,none⟩) (b - a) (c - a),?_,?_⟩
   ·unfold zbn
    simp only [hd,hs,Option.bind_some,if_pos c1]
    rw [zei hlo hhi hab (by omega)]
    rfl
   ·refine .inr ⟨A,_,c - a,row,u,ro,by rw [hlen],by rw [hlen];omega,.inl ⟨by omega,by rw [hlen];omega⟩,e4,e5,fun i x hx=>?_⟩
    obtain ⟨hx,hi⟩:=hel i x hx
    obtain ⟨cs,g1,g2⟩:=e6 _ _ hx
    refine ⟨cs,?_,g2⟩
    rw [if_neg (by omega),Nat.add_assoc,← Nat.add_mul]
    exact g1
  ·refine ⟨.slice (some ⟨A,o+a*r.k,none⟩) (b - a) (G*r.k+(c % G - a)),?_,?_⟩
   ·unfold zbn
    simp only [hd,hs,Option.bind_some,if_neg (show ¬ c < G by omega),if_pos c2]
    rw [zei hlo hhi hab (by omega)]
    rfl
   ·have hm:=Nat.mod_lt c zAF
    obtain ⟨d1,d2,d3⟩:=zcA (k:=r.k) (q:=c % G - a) hk (by omega)
    refine .inr ⟨A,_,_,row,u,ro,by rw [hlen],by rw [hlen];omega,.inr ⟨d1,d2,by rw [hlen,d3];omega⟩,e4,e5,fun i x hx=>?_⟩
    obtain ⟨hx,hi⟩:=hel i x hx
    obtain ⟨cs,g1,g2⟩:=e6 _ _ hx
    refine ⟨cs,?_,g2⟩
    rw [Nat.add_assoc,← Nat.add_mul]
    exact g1
theorem Sl.full (f:Sl r h v l) (hd:T.desc t=some (.slice e)) (hs:zay T e=some r.k) {i:Nat} {kd kd2:IntKind} (hi:i≤l.length) :
 ∃ base,zbn T t v none (some (.int kd i)) (some (.int kd2 i))=some (.slice base i i)∧Sl r h (.slice base i i) (l.take i):=by
 have hlen:(l.take i).length=i:=by simp;omega
 rcases f with ⟨rfl,rfl⟩|⟨A,o,c,row,u,ro,rfl,e2,e3,e4,e5,e6⟩
 ·have hb0:i=0:=by simpa using hi
  subst hb0
  refine ⟨none,?_,by simpa using Sl.nil⟩
  unfold zbn
  simp only [hd,hs,Option.bind_some,if_pos zAF]
  rw [zfl (Nat.le_refl 0)]
  rfl
 ·have hG:maxLen < G:=by decide
  have hel:Sl r h (.slice (some ⟨A,o,none⟩) i i) (l.take i):=by
   refine .inr ⟨A,o,i,row,u,ro,by rw [hlen],by rw [hlen];omega,.inl ⟨by omega,by rw [hlen];omega⟩,e4,e5,fun j x hx=>?_⟩
   have hj:=(List.getElem?_eq_some_iff.1 hx).1
   rw [hlen] at hj
   rw [List.getElem?_take_of_lt hj] at hx
   exact e6 _ _ hx
  refine ⟨some ⟨A,o,none⟩,?_,hel⟩
  rcases e3 with ⟨c1,c2⟩|⟨c1,c2,c3⟩
  ·unfold zbn
   simp only [hd,hs,Option.bind_some,if_pos c1]
   rw [zfl (by omega)]
   simp
  ·unfold zbn
   simp only [hd,hs,Option.bind_some,if_neg (show ¬ c < G by omega),if_pos c2]
   rw [zfl (by omega)]
   simp
end
end Go.Am
namespace Go.Am
set_option linter.unusedVariables false
def slt (a b:ByteArray):Bool:=Op.bytesLess a.data.toList b.data.toList
theorem zBA:∀ (x y:List UInt8),Op.bytesLess x y=decide (x < y)
 | [],[]=>by simp [Op.bytesLess]
 |_::_,[]=>by simp [Op.bytesLess]
 | [],_::_=>by simp [Op.bytesLess]
 |a::x,b::y=>by
  rw [Op.bytesLess,zBA x y]
  simp only [List.cons_lt_cons_iff]
  by_cases h1:a < b <;> by_cases h2:a=b <;> by_cases h3:x < y <;> simp [h1,h2,h3]
theorem zl7 {a b c:ByteArray} (h1:slt a b=true) (h2:slt b c=true):slt a c=true:=by
 unfold slt at *
 rw [zBA] at *
 simp only [decide_eq_true_eq] at *
 exact List.lt_trans h1 h2
theorem zus {a b:ByteArray} (h1:slt a b=false) (h2:slt b a=false):a=b:=by
 unfold slt at *
 rw [zBA] at *
 simp only [decide_eq_false_iff_not,List.not_lt] at *
 exact zjh (List.le_antisymm h2 h1)
def zmi (l:List BindD) (m:Nat):Prop:=∀ k x y,k+1 < m→l[k]? = some x→l[k+1]? = some y→slt x.var y.var=true
theorem zuX {l:List BindD} (h:zmi l l.length) {i j:Nat} {x y:BindD} (hij:i < j) (hx:l[i]? = some x) (hy:l[j]? = some y):slt x.var y.var=true:=by
 induction j generalizing y with
 |zero=>omega
 |succ j ih =>
  have hj:=(List.getElem?_eq_some_iff.1 hy).1
  have hz:l[j]? = some l[j]:=List.getElem?_eq_getElem (by omega)
  have h1:=h j l[j] y hj hz hy
  by_cases he:i=j
  ·subst he
   rw [hz] at hx
   cases hx
   exact h1
  ·exact zl7 (ih (by omega) hz) h1
def zfK (l:List BindD) (s:ByteArray):TermD × Bool:=match l.find? (fun x=>decide (x.var=s)) with
 |some x=>(x.term,true)
 |none=>(zcl,false)
def zmL (l:List BindD) (b:BindD):List BindD:=l.takeWhile (fun x => !slt b.var x.var)++b::l.dropWhile (fun x => !slt b.var x.var)
end Go.Am
namespace Go.Am
set_option linter.unusedVariables false
set_option linter.unusedSimpArgs false
section
variable {P:Program} {T:Tab} {ov:Ov} {d:Option Tmp} {ty:TypeId} {pos:String} {af:Array Edge} {g:Option (Nat × Bool)} {e:Env} {h:Heap} {K:Value→Heap→Prop}
theorem ze3 (t:TypeId):WOp P T ov ⟨d,.makeMap t none,ty,pos,af,g⟩ e h K=K (.map (some h.size)) (h.push (.map [] 0)):=rfl
theorem zdf (t:TypeId) (x k:Operand) (ok:Bool):WOp P T ov ⟨d,.lookup t x k ok,ty,pos,af,g⟩ e h K=valE (zdv T t (zab e x) (zab e k) ok h) h K:=by rw [← zcj];rfl
theorem zeu (t:TypeId) (m k x:Operand):WOp P T ov ⟨d,.mapUpdate t m k x,ty,pos,af,g⟩ e h K=memE (zbC T t (zab e m) (zab e k) (zab e x) h) K:=by
 show optE ((zbC T t (zab e m) (zab e k) (zab e x) h).map fun h'=>(undef,h')) K=_
 cases zbC T t (zab e m) (zab e k) (zab e x) h <;> rfl
end
def MapA (h:Heap) (A:Nat) (met:List AtomD):Prop:=∃ es clock,∃ ks:List AtomD,Holds h A (.map es clock)∧es.map (fun x:MapEntry=>x.key)=ks.map AtomD.val∧(∀ a,a∈ks↔a∈met)∧∀ x∈es,x.val=.agg ⟨[]⟩
section
variable {T:Tab} {t kt et:TypeId} {A:Nat} {met:List AtomD} {a:AtomD} {h1:Heap} {bs:List Blk} {w:Nat} {K:Value→Heap→Prop} {z:Value}
theorem MapA.over (m:MapA h1 A met) {h2:Heap} (x:Ext (h1.lay bs w) h2):MapA h2 A met:=by
 obtain ⟨es,cl,ks,m1,m2,m3⟩:=m
 exact ⟨es,cl,ks,m1.over x,m2,m3⟩
theorem MapA.ext (m:MapA h1 A met) {h2:Heap} (x:Ext h1 h2):MapA h2 A met:=by
 obtain ⟨es,cl,ks,m1,m2,m3⟩:=m
 exact ⟨es,cl,ks,⟨Nat.lt_of_lt_of_le m1.lt x.size,(x.get A m1.lt).trans m1.get⟩,m2,m3⟩
theorem MapA.top {h2:Heap} {i:Nat} (x:Ext (h1.lay bs w) h2) (hi:bs[i]? = some (.map [] 0)):MapA h2 (h1.size+i) []:=⟨[],0,[],Holds.top x hi,rfl,fun _=>Iff.rfl,fun _ hx=>by simp at hx⟩
end
theorem zuG {T:Tab} {t u:TypeId} {A n:Nat} {cs:List Value} {v:Value} {h1:Heap} {bs:List Blk} {w:Nat} {K:Value→Heap→Prop} (q:Holds h1 A (.row cs u false)) (hs:zay T t=some n) (hv:v.cells.toList.length=n) (hl:cs.length=n) (h1':v.cells.toList.all one=true)
 (hK:∀ h',Holds h' A (.row v.cells.toList u false)→Chg A (h1.lay bs w) h'→K undef h'):memE (za8 T t (.pointer (some ⟨A,0,none⟩)) v (h1.lay bs w)) K:=by
 have hg:(h1.lay bs w).get A=some (.row cs u false):=q.lay bs w
 have hA:A < (h1.lay bs w).size:=(q.on bs w).lt
 have hsz:v.cells.size=n:=by rw [← hv];simp
 have hw:zbV A 0 v.cells.toList (h1.lay bs w)=some ((h1.lay bs w).set A (.row v.cells.toList u false)):=by
  unfold zbV
  rw [hg]
  simp only
  rw [if_pos (by simp only [Bool.and_eq_true,decide_eq_true_eq];exact ⟨by omega,h1'⟩)]
  congr 2
  unfold splice
  rw [List.take_zero,List.nil_append,List.drop_of_length_le (by omega),List.append_nil]
 have he:za8 T t (.pointer (some ⟨A,0,none⟩)) v (h1.lay bs w)=some ((h1.lay bs w).set A (.row v.cells.toList u false)):=by
  unfold za8
  simp only [hs,Option.bind_some]
  rw [if_pos hsz]
  exact hw
 rw [he]
 refine hK _ ⟨by rw [Heap.size_set];exact hA,by rw [Heap.get_set _ _ _ _ hA,if_pos rfl]⟩ ⟨by rw [Heap.size_set];exact Nat.le_refl _,fun B hB hne=>by rw [Heap.get_set _ _ _ _ hA,if_neg hne],by rw [Heap.low_set];omega⟩
theorem zrJ (t:TermD):t.val.cells.toList=t.cells:=rfl
end Go.Am
namespace Go.Am
set_option linter.unusedVariables false
def zuy:List UInt8:=[32,115,97,121,115,32]
def commaB:List UInt8:=[44,32]
def zcd (a:AtomD):List (List UInt8):=a.args.map fun t=>t.s.data.toList
def zaU (a:AtomD):List UInt8:=a.says.data.toList++zuy++a.pred.data.toList++(if a.args=[] then [] else [40]++Lib.join (zcd a) commaB++[41])
def cmpD (a b:AtomD):Int:=Lib.compareBytes (zaU a) (zaU b)
theorem zmA (a b:ByteArray):(a++b).data.toList=a.data.toList++b.data.toList:=by
 rw [ByteArray.data_append,Array.toList_append]
theorem bsz2 (x:ByteArray):x.data.toList.length=x.size:=by rw [Array.length_toList];rfl
theorem zuj {row:List Value}:∀ (xs:List ByteArray) (o:Nat),(∀ (i:Nat) (x:ByteArray),xs[i]? = some x→cut row (o+i) 1=some [.string x])→cut row o xs.length=some (xs.map Value.string)∨xs=[]
 | [],o,h=>.inr rfl
 |x::xs,o,h=>by
  left
  have h0:=h 0 x rfl
  rw [Nat.add_zero] at h0
  have hr:=zuj xs (o+1) (fun i y hy=>by
   have:=h (i+1) y hy
   rwa [show o+(i+1)=o+1+i by omega] at this)
  unfold cut at h0 hr ⊢
  split at h0
  ·rename_i hle
   simp only [Option.some.injEq] at h0
   rcases hr with hr|rfl
   ·split at hr
    ·rename_i hle2
     simp only [Option.some.injEq] at hr
     rw [if_pos (by simp only [List.length_cons];omega)]
     simp only [List.length_cons,List.map_cons,Option.some.injEq]
     have e1:(row.drop o).take (xs.length+1)=(row.drop o).take 1++((row.drop o).drop 1).take xs.length:=by
      rw [Nat.add_comm,List.take_add]
     rw [e1,h0,List.drop_drop,hr]
     rfl
    ·cases hr
   ·rw [if_pos (by simp only [List.length_cons,List.length_nil];omega)]
    simp only [List.length_cons,List.length_nil,List.map_cons,List.map_nil]
    rw [h0]
  ·cases h0
theorem zxx (xs:List ByteArray):strs (xs.map Value.string)=some xs:=by
 induction xs with
 |nil=>rfl
 |cons x xs ih=>simp only [List.map_cons,strs,ih,Option.map_some]
theorem zAw {h:Heap} {v:Value} {xs:List ByteArray} {sep:ByteArray} (f:Sl Rep.str h v xs) (hne:xs≠[]) (hl:xs.length≤1000) (hj:(Lib.join (xs.map (·.data.toList)) sep.data.toList).length≤100000) :
 znC [v,.string sep] h=some (.string ⟨(Lib.join (xs.map (·.data.toList)) sep.data.toList).toArray⟩,h):=by
 rcases f with ⟨_,e⟩|⟨A,o,c,row,u,ro,rfl,_,_,_,hg,hel⟩
 ·exact absurd e hne
 ·have hpos:xs.length≠0:=fun e=>hne (List.length_eq_zero_iff.1 e)
  have hc:cut row o xs.length=some (xs.map Value.string):=by
   rcases zuj (row:=row) xs o (fun i x hx=>by
    obtain ⟨cs,g1,g2⟩:=hel i x hx
    have g2':cs=[.string x]:=g2
    rw [g2'] at g1
    have g1':cut row (o+i*1) 1=some [.string x]:=g1
    rwa [Nat.mul_one] at g1') with h1|h1
   ·exact h1
   ·exact absurd h1 hne
  unfold znC
  simp only [hpos,if_false,zaN,hg,hc,Option.bind_some,zxx]
  rw [if_pos ⟨by omega,by omega⟩]
theorem zBd {a b d:Heap} {A:Nat} (i:Inc a b) (c:Chg A b d) (hA:a.size≤A):Inc a d:=⟨Nat.le_trans i.size c.size,fun B hB hd=>(c.get B (Nat.lt_of_lt_of_le hB i.size) (by omega)).trans (i.get B hB hd)⟩
theorem zt9 {a:AtomD} (h:a.args.length=0):zaU a=a.says.data.toList++zuy++a.pred.data.toList:=by
 have:a.args=[]:=List.length_eq_zero_iff.1 h
 unfold zaU
 rw [if_pos this,List.append_nil]
theorem zBR {s:ByteArray} {l:List UInt8} (h:s.data.toList=l):s=⟨l.toArray⟩:=by
 apply zjh
 rw [h]
theorem zpG:∀ (l:List (List UInt8)) (m:Nat),(∀ x∈l,x.length≤m)→(Lib.join l commaB).length≤l.length*(m+2)
 | [],m,_=>by simp [Lib.join]
 | [x],m,h=>by
  rw [Lib.join_one]
  have:=h x (by simp)
  simp
  omega
 |x::y::l,m,h=>by
  have e:(Lib.join (x::y::l) commaB).length=x.length+commaB.length+(Lib.join (y::l) commaB).length:=by simp [Lib.join,List.intercalate];omega
  have h1:=zpG (y::l) m (fun z hz=>h z (by simp only [List.mem_cons] at hz ⊢;exact .inr hz))
  have h2:=h x (by simp)
  have h3:commaB.length=2:=rfl
  rw [e]
  simp only [List.length_cons,Nat.succ_mul] at h1 ⊢
  omega
theorem zq3 {a:AtomD} (h:a.light=true):∀ t∈a.args,t.s.size≤300:=by
 intro t ht
 have h1:=List.mem_of_mem_take ht
 simp only [List.mem_cons,List.not_mem_nil,or_false] at h1
 rcases h1 with rfl|rfl|rfl|rfl
 ·exact zgh h 0
 ·exact zgh h 1
 ·exact zgh h 2
 ·exact zgh h 3
theorem zq2 {a:AtomD} (h:a.light=true):(Lib.join (zcd a) commaB).length≤1300:=by
 have h1:=zpG (zcd a) 300 (fun x hx=>by
  unfold zcd at hx
  obtain ⟨t,ht,rfl⟩:=List.mem_map.1 hx
  rw [bsz2]
  exact zq3 h t ht)
 have h2:(zcd a).length≤4:=by
  unfold zcd
  rw [List.length_map,zbw]
  unfold AtomD.cnt
  omega
 have h3:(zcd a).length*(300+2)≤4*302:=Nat.mul_le_mul_right _ h2
 omega
theorem ztt {a:AtomD} (h:¬ a.args.length=0):zaU a=a.says.data.toList++zuy++a.pred.data.toList++[40]++Lib.join (zcd a) commaB++[41]:=by
 have:a.args≠[]:=fun e=>h (by rw [e];rfl)
 unfold zaU
 rw [if_neg this]
 simp only [List.append_assoc]
end Go.Am
namespace Go.Am
open Go.RowKit Go.Sort Go.Proofs
set_option linter.unusedVariables false
set_option linter.unusedSimpArgs false
section
variable {P:Program} {gs:List Nat}
/-! ### slices.Compact -/
end
end Go.Am
