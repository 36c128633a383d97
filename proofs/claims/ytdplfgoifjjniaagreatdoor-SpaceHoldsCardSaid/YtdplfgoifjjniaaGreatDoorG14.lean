/- Parts of slices; appending to a part that has no room. No condition. -/
import Derived.Test.YtdplfgoifjjniaaGreatDoorG13
import Derived.Test.YtdplfgoifjjniaaGreatDoorGOv
import Derived.Shelf.Sort.Plain
import Derived.Shelf.Slices.In.SortNone
import Derived.Shelf.Slices.CompactS
set_option linter.unusedSimpArgs false
set_option linter.unusedVariables false
namespace Go.Am
section
variable {α:Type} {r:aK α} {h0 h h1:Heap} {v:Value} {l:List α} {t e:TypeId} {T:bD} {bs:List bh} {w:Nat} {K:Value→Heap→Prop}
def gB (x:Option Value) (d n:Nat):Prop:=(x=none∧n=d)∨∃ kd,x=some (.int kd n)
theorem gB.no (n:Nat):gB none n n:=.inl ⟨rfl,rfl⟩
theorem gB.num (kd:IntKind) (d n:Nat):gB (some (.int kd n)) d n:=.inr ⟨kd,rfl⟩
theorem Ge {kd:IntKind} {n hi:Nat} (hn:n≤hi):vA (.int kd n) hi=some n:=by
 have:(0:Int)≤n∧(n:Int)≤hi:=by omega
 simp only [vA,this,and_self,if_true,Int.toNat_natCast]
theorem L5 {n c a b:Nat} {lo hi:Option Value} (cR:gB lo 0 a) (kT:gB hi n b) (CN:a≤b) (hbc:b≤c):pF n c lo hi none=some (a,b,c):=by
 unfold pF
 rcases cR with ⟨rfl,rfl⟩|⟨kd,rfl⟩ <;> rcases kT with ⟨rfl,rfl⟩|⟨kd2,rfl⟩ <;> simp [Ge,CN,hbc]
theorem zDs:0 < G:=by unfold G;omega
theorem Bo {k q:Nat} (hk:0 < k) (hq:q < G):G≤G*k+q∧(G*k+q) / G=k∧(G*k+q) % G=q:=by
 obtain ⟨c1,c2,c3⟩:=zP (k:=k) (q:=q) hk hq
 exact ⟨by omega,c3,c2⟩
theorem Sl.sub (f:Sl r h v l) (hk:0 < r.k) (hd:T.desc t=some (.slice e)) (hs:bO T e=some r.k) {a b:Nat} {lo hi:Option Value} (cR:gB lo 0 a) (kT:gB hi l.length b) (CN:a≤b) (hb:b≤l.length) :
 ∃ v',kf T t v lo hi none=some v'∧Sl r h v' ((l.take b).drop a):=by
 have hlen:((l.take b).drop a).length=b - a:=by simp;omega
 have sF:∀ (i:Nat) (x:α),((l.take b).drop a)[i]? = some x→l[a+i]? = some x∧i < b - a:=by
  intro i x hx
  have:=(List.getElem?_eq_some_iff.1 hx).1
  rw [hlen] at this
  rw [List.getElem?_drop,List.getElem?_take_of_lt (by omega)] at hx
  exact ⟨hx,this⟩
 rcases f with ⟨rfl,rfl⟩|⟨A,o,c,row,u,ro,rfl,e2,e3,e4,e5,e6⟩
 ·have Jd:b=0:=by simpa using hb
  subst Jd
  have I7:a=0:=by omega
  subst I7
  refine ⟨.slice none 0 0,?_,by simpa using Sl.nil⟩
  unfold kf
  simp only [hd,hs,Option.bind_some,if_pos zDs]
  have:=L5 (n:=0) (c:=0) cR (by simpa using kT) (Nat.le_refl 0) (Nat.le_refl 0)
  rw [this]
  rfl
 ·rcases e3 with ⟨c1,c2⟩|⟨c1,c2,c3⟩
  ·refine ⟨.slice (some ⟨A,if c=a then o else o+a*r.k,none⟩) (b - a) (c - a),?_,?_⟩
   ·unfold kf
    simp only [hd,hs,Option.bind_some,if_pos c1]
    rw [L5 cR kT CN (by omega)]
    rfl
   ·refine .inr ⟨A,_,c - a,row,u,ro,by rw [hlen],by rw [hlen];omega,.inl ⟨by omega,by rw [hlen];omega⟩,e4,e5,fun i x hx=>?_⟩
    obtain ⟨hx,hi⟩:=sF i x hx
    obtain ⟨cs,g1,g2⟩:=e6 _ _ hx
    refine ⟨cs,?_,g2⟩
    rw [if_neg (by omega),Nat.add_assoc,← Nat.add_mul]
    exact g1
  ·refine ⟨.slice (some ⟨A,o+a*r.k,none⟩) (b - a) (G*r.k+(c % G - a)),?_,?_⟩
   ·unfold kf
    simp only [hd,hs,Option.bind_some,if_neg (show ¬ c < G by omega),if_pos c2]
    rw [L5 cR kT CN (by omega)]
    rfl
   ·have hm:=Nat.mod_lt c zDs
    obtain ⟨d1,d2,d3⟩:=Bo (k:=r.k) (q:=c % G - a) hk (by omega)
    refine .inr ⟨A,_,_,row,u,ro,by rw [hlen],by rw [hlen];omega,.inr ⟨d1,d2,by rw [hlen,d3];omega⟩,e4,e5,fun i x hx=>?_⟩
    obtain ⟨hx,hi⟩:=sF i x hx
    obtain ⟨cs,g1,g2⟩:=e6 _ _ hx
    refine ⟨cs,?_,g2⟩
    rw [Nat.add_assoc,← Nat.add_mul]
    exact g1
end
end Go.Am
namespace Go.Am
def slt (a b:ByteArray):Bool:=Op.bytesLess a.data.toList b.data.toList
def zDt (l:List gR) (m:Nat):Prop:=∀ k x y,k+1 < m→l[k]? = some x→l[k+1]? = some y→slt x.var y.var=true
end Go.Am
namespace Go.Am
section
variable {P:Program} {T:bD} {ov:Ov} {d:Option Tmp} {ty:TypeId} {pos:String} {af:Array Edge} {g:Option (Nat × Bool)} {e:Env} {h:Heap} {K:Value→Heap→Prop}
theorem Gl (t:TypeId):bY P T ov ⟨d,.makeMap t none,ty,pos,af,g⟩ e h K=K (.map (some h.size)) (h.push (.map [] 0)):=rfl
theorem v8 (t:TypeId) (x k:Operand) (ok:Bool):bY P T ov ⟨d,.lookup t x k ok,ty,pos,af,g⟩ e h K=aU (vt T t (aZ e x) (aZ e k) ok h) h K:=by rw [← sW];rfl
theorem LW (t:TypeId) (m k x:Operand):bY P T ov ⟨d,.mapUpdate t m k x,ty,pos,af,g⟩ e h K=gv (mS T t (aZ e m) (aZ e k) (aZ e x) h) K:=by
 show bW ((mS T t (aZ e m) (aZ e k) (aZ e x) h).map fun h'=>(undef,h')) K=_
 cases mS T t (aZ e m) (aZ e k) (aZ e x) h <;> rfl
end
section
variable {T:bD} {t kt et:TypeId} {A:Nat} {met:List ab} {a:ab} {h1:Heap} {bs:List bh} {w:Nat} {K:Value→Heap→Prop} {z:Value}
end
theorem zuM {T:bD} {t u:TypeId} {A n:Nat} {cs:List Value} {v:Value} {h1:Heap} {bs:List bh} {w:Nat} {K:Value→Heap→Prop} (q:Holds h1 A (.row cs u false)) (hs:bO T t=some n) (hv:v.cells.toList.length=n) (hl:cs.length=n) (bE:v.cells.toList.all one=true)
 (hK:∀ h',Holds h' A (.row v.cells.toList u false)→fK A (h1.lay bs w) h'→K undef h'):gv (gA T t (.pointer (some ⟨A,0,none⟩)) v (h1.lay bs w)) K:=by
 have hg:(h1.lay bs w).get A=some (.row cs u false):=q.lay bs w
 have hA:A < (h1.lay bs w).size:=(q.on bs w).lt
 have dB:v.cells.size=n:=by rw [← hv];simp
 have hw:kW A 0 v.cells.toList (h1.lay bs w)=some ((h1.lay bs w).set A (.row v.cells.toList u false)):=by
  unfold kW
  rw [hg]
  simp only
  rw [if_pos (by simp only [Bool.and_eq_true,decide_eq_true_eq];exact ⟨by omega,bE⟩)]
  congr 2
  unfold ay
  rw [List.take_zero,List.nil_append,List.drop_of_length_le (by omega),List.append_nil]
 have he:gA T t (.pointer (some ⟨A,0,none⟩)) v (h1.lay bs w)=some ((h1.lay bs w).set A (.row v.cells.toList u false)):=by
  unfold gA
  simp only [hs,Option.bind_some]
  rw [if_pos dB]
  exact hw
 rw [he]
 refine hK _ ⟨by rw [Heap.size_set];exact hA,by rw [Heap.aC _ _ _ _ hA,if_pos rfl]⟩ ⟨by rw [Heap.size_set];exact Nat.le_refl _,fun B hB aO=>by rw [Heap.aC _ _ _ _ hA,if_neg aO],by rw [Heap.bX];omega⟩
theorem zq1 (t:aQ):t.val.cells.toList=t.cells:=rfl
end Go.Am
namespace Go.Am
def GV:List UInt8:=[32,115,97,121,115,32]
def cT:List UInt8:=[44,32]
def iC (a:ab):List (List UInt8):=a.args.map fun t=>t.s.data.toList
def cO (a:ab):List UInt8:=a.says.data.toList++GV++a.pred.data.toList++(if a.args=[] then [] else [40]++Lib.join (iC a) cT++[41])
def aM (a b:ab):Int:=Lib.compareBytes (cO a) (cO b)
theorem s8 (a b:ByteArray):(a++b).data.toList=a.data.toList++b.data.toList:=by
 rw [ByteArray.data_append,Array.toList_append]
theorem Cc (x:ByteArray):x.data.toList.length=x.size:=by rw [Array.length_toList];rfl
theorem zuN {row:List Value}:∀ (xs:List ByteArray) (o:Nat),(∀ (i:Nat) (x:ByteArray),xs[i]? = some x→cut row (o+i) 1=some [.string x])→cut row o xs.length=some (xs.map Value.string)∨xs=[]
 | [],o,h=>.inr rfl
 |x::xs,o,h=>by
  left
  have h0:=h 0 x rfl
  rw [Nat.add_zero] at h0
  have hr:=zuN xs (o+1) (fun i y hy=>by
   have:=h (i+1) y hy
   rwa [show o+(i+1)=o+1+i by omega] at this)
  unfold cut at h0 hr ⊢
  split at h0
  ·rename_i hle
   simp only [Option.some.injEq] at h0
   rcases hr with hr|rfl
   ·split at hr
    ·rename_i ak9
     simp only [Option.some.injEq] at hr
     rw [if_pos (by simp only [List.length_cons];omega)]
     simp only [List.length_cons,List.map_cons,Option.some.injEq]
     have e1:(row.drop o).take (xs.length+1)=(row.drop o).take 1++((row.drop o).drop 1).take xs.length:=by
      rw [Nat.add_comm,List.take_add]
     rw [e1,h0,List.drop_drop,hr]
     rfl
    ·cases hr
   ·rw [if_pos (by simp only [List.length_cons,List.length_nil];omega)]
    simp only [List.length_cons,List.length_nil,List.map_cons,List.map_nil]
    rw [h0]
  ·cases h0
theorem zzn (xs:List ByteArray):strs (xs.map Value.string)=some xs:=by
 induction xs with
 |nil=>rfl
 |cons x xs ih=>simp only [List.map_cons,strs,ih,Option.map_some]
theorem zCG {h:Heap} {v:Value} {xs:List ByteArray} {sep:ByteArray} (f:Sl aK.str h v xs) (aO:xs≠[]) (hl:xs.length≤1000) (hj:(Lib.join (xs.map (·.data.toList)) sep.data.toList).length≤100000) :
 EZ [v,.string sep] h=some (.string ⟨(Lib.join (xs.map (·.data.toList)) sep.data.toList).toArray⟩,h):=by
 rcases f with ⟨_,e⟩|⟨A,o,c,row,u,ro,rfl,_,_,_,hg,sF⟩
 ·exact absurd e aO
 ·have jB:xs.length≠0:=fun e=>aO (List.length_eq_zero_iff.1 e)
  have hc:cut row o xs.length=some (xs.map Value.string):=by
   rcases zuN (row:=row) xs o (fun i x hx=>by
    obtain ⟨cs,g1,g2⟩:=sF i x hx
    have g2':cs=[.string x]:=g2
    rw [g2'] at g1
    have g1':cut row (o+i*1) 1=some [.string x]:=g1
    rwa [Nat.mul_one] at g1') with h1|h1
   ·exact h1
   ·exact absurd h1 aO
  unfold EZ
  simp only [jB,if_false,gL,hg,hc,Option.bind_some,zzn]
  rw [if_pos ⟨by omega,by omega⟩]
theorem zCB {a b d:Heap} {A:Nat} (i:cP a b) (c:fK A b d) (hA:a.size≤A):cP a d:=⟨Nat.le_trans i.size c.size,fun B hB hd=>(c.get B (Nat.lt_of_lt_of_le hB i.size) (by omega)).trans (i.get B hB hd)⟩
theorem zvP {a:ab} (h:a.args.length=0):cO a=a.says.data.toList++GV++a.pred.data.toList:=by
 have:a.args=[]:=List.length_eq_zero_iff.1 h
 unfold cO
 rw [if_pos this,List.append_nil]
theorem X6 {s:ByteArray} {l:List UInt8} (h:s.data.toList=l):s=⟨l.toArray⟩:=by
 apply GC
 rw [h]
theorem zqh:∀ (l:List (List UInt8)) (m:Nat),(∀ x∈l,x.length≤m)→(Lib.join l cT).length≤l.length*(m+2)
 | [],m,_=>by simp [Lib.join]
 | [x],m,h=>by
  rw [Lib.join_one]
  have:=h x (by simp)
  simp
  omega
 |x::y::l,m,h=>by
  have e:(Lib.join (x::y::l) cT).length=x.length+cT.length+(Lib.join (y::l) cT).length:=by simp [Lib.join,List.intercalate];omega
  have h1:=zqh (y::l) m (fun z hz=>h z (by simp only [List.mem_cons] at hz ⊢;exact .inr hz))
  have h2:=h x (by simp)
  have h3:cT.length=2:=rfl
  rw [e]
  simp only [List.length_cons,Nat.succ_mul] at h1 ⊢
  omega
theorem zro {a:ab} (h:a.ba=true):∀ t∈a.args,t.s.size≤300:=by
 intro t ht
 have h1:=List.mem_of_mem_take ht
 simp only [List.mem_cons,List.not_mem_nil,or_false] at h1
 rcases h1 with rfl|rfl|rfl|rfl
 ·exact Me h 0
 ·exact Me h 1
 ·exact Me h 2
 ·exact Me h 3
theorem zrk {a:ab} (h:a.ba=true):(Lib.join (iC a) cT).length≤1300:=by
 have h1:=zqh (iC a) 300 (fun x hx=>by
  unfold iC at hx
  obtain ⟨t,ht,rfl⟩:=List.mem_map.1 hx
  rw [Cc]
  exact zro h t ht)
 have h2:(iC a).length≤4:=by
  unfold iC
  rw [List.length_map,sS]
  unfold ab.cx
  omega
 have h3:(iC a).length*(300+2)≤4*302:=Nat.mul_le_mul_right _ h2
 omega
theorem zvR {a:ab} (h:¬ a.args.length=0):cO a=a.says.data.toList++GV++a.pred.data.toList++[40]++Lib.join (iC a) cT++[41]:=by
 have:a.args≠[]:=fun e=>h (by rw [e];rfl)
 unfold cO
 rw [if_neg this]
 simp only [List.append_assoc]
end Go.Am
namespace Go.Am
open Go.RowKit Go.Sort Go.Proofs
section
variable {P:Program} {gs:List Nat}
/-! ### slices.Compact -/
end
end Go.Am
