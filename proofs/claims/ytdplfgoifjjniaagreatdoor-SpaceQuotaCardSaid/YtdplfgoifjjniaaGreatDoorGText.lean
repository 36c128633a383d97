/- Texts of atoms, in plain terms; joining what a slice holds. No condition. -/
import Derived.Test.YtdplfgoifjjniaaGreatDoorG20
set_option linter.unusedVariables false
namespace Go.Am
def ztu:List UInt8:=[32,115,97,121,115,32]
def commaB:List UInt8:=[44,32]
def zcd (a:AtomD):List (List UInt8):=a.args.map fun t=>t.s.data.toList
def zaP (a:AtomD):List UInt8:=a.says.data.toList++ztu++a.pred.data.toList++(if a.args=[] then [] else [40]++Lib.join (zcd a) commaB++[41])
def cmpD (a b:AtomD):Int:=Lib.compareBytes (zaP a) (zaP b)
theorem zlJ (a b:ByteArray):(a++b).data.toList=a.data.toList++b.data.toList:=by
 rw [ByteArray.data_append,Array.toList_append]
theorem bsz2 (x:ByteArray):x.data.toList.length=x.size:=by rw [Array.length_toList];rfl
theorem ztA {row:List Value}:∀ (xs:List ByteArray) (o:Nat),(∀ (i:Nat) (x:ByteArray),xs[i]? = some x→cut row (o+i) 1=some [.string x])→cut row o xs.length=some (xs.map Value.string)∨xs=[]
 | [],o,h=>.inr rfl
 |x::xs,o,h=>by
  left
  have h0:=h 0 x rfl
  rw [Nat.add_zero] at h0
  have hr:=ztA xs (o+1) (fun i y hy=>by
   have:=h (i+1) y hy
   rwa [show o+(i+1)=o+1+i by omega] at this)
  unfold cut at h0 hr ⊢
  split at h0
  ·rename_i hle
   simp only [Option.some.injEq] at h0
   rcases hr with hr|rfl
   ·split at hr
    ·rename_i hle2
     simp only [Option.some.injEq] at hr
     rw [if_pos (by simp only [List.length_cons];omega)]
     simp only [List.length_cons,List.map_cons,Option.some.injEq]
     have e1:(row.drop o).take (xs.length+1)=(row.drop o).take 1++((row.drop o).drop 1).take xs.length:=by
      rw [Nat.add_comm,List.take_add]
     rw [e1,h0,List.drop_drop,hr]
     rfl
    ·cases hr
   ·rw [if_pos (by simp only [List.length_cons,List.length_nil];omega)]
    simp only [List.length_cons,List.length_nil,List.map_cons,List.map_nil]
    rw [h0]
  ·cases h0
theorem zv2 (xs:List ByteArray):strs (xs.map Value.string)=some xs:=by
 induction xs with
 |nil=>rfl
 |cons x xs ih=>simp only [List.map_cons,strs,ih,Option.map_some]
theorem zyR {h:Heap} {v:Value} {xs:List ByteArray} {sep:ByteArray} (f:Sl Rep.str h v xs) (hne:xs≠[]) (hl:xs.length≤1000) (hj:(Lib.join (xs.map (·.data.toList)) sep.data.toList).length≤100000) :
 zoc [v,.string sep] h=some (.string ⟨(Lib.join (xs.map (·.data.toList)) sep.data.toList).toArray⟩,h):=by
 rcases f with ⟨_,e⟩|⟨A,o,c,row,u,ro,rfl,_,_,_,hg,hel⟩
 ·exact absurd e hne
 ·have hpos:xs.length≠0:=fun e=>hne (List.length_eq_zero_iff.1 e)
  have hc:cut row o xs.length=some (xs.map Value.string):=by
   rcases ztA (row:=row) xs o (fun i x hx=>by
    obtain ⟨cs,g1,g2⟩:=hel i x hx
    have g2':cs=[.string x]:=g2
    rw [g2'] at g1
    have g1':cut row (o+i*1) 1=some [.string x]:=g1
    rwa [Nat.mul_one] at g1') with h1|h1
   ·exact h1
   ·exact absurd h1 hne
  unfold zoc
  simp only [hpos,if_false,zaI,hg,hc,Option.bind_some,zv2]
  rw [if_pos ⟨by omega,by omega⟩]
theorem zyM {a b d:Heap} {A:Nat} (i:Inc a b) (c:Chg A b d) (hA:a.size≤A):Inc a d:=⟨Nat.le_trans i.size c.size,fun B hB hd=>(c.get B (Nat.lt_of_lt_of_le hB i.size) (by omega)).trans (i.get B hB hd)⟩
theorem zur {a:AtomD} (h:a.args.length=0):zaP a=a.says.data.toList++ztu++a.pred.data.toList:=by
 have:a.args=[]:=List.length_eq_zero_iff.1 h
 unfold zaP
 rw [if_pos this,List.append_nil]
theorem zzW {s:ByteArray} {l:List UInt8} (h:s.data.toList=l):s=⟨l.toArray⟩:=by
 apply zhZ
 rw [h]
theorem zpm:∀ (l:List (List UInt8)) (m:Nat),(∀ x∈l,x.length≤m)→(Lib.join l commaB).length≤l.length*(m+2)
 | [],m,_=>by simp [Lib.join]
 | [x],m,h=>by
  rw [Lib.join_one]
  have:=h x (by simp)
  simp
  omega
 |x::y::l,m,h=>by
  have e:(Lib.join (x::y::l) commaB).length=x.length+commaB.length+(Lib.join (y::l) commaB).length:=by simp [Lib.join,List.intercalate];omega
  have h1:=zpm (y::l) m (fun z hz=>h z (by simp only [List.mem_cons] at hz ⊢;exact .inr hz))
  have h2:=h x (by simp)
  have h3:commaB.length=2:=rfl
  rw [e]
  simp only [List.length_cons,Nat.succ_mul] at h1 ⊢
  omega
theorem zqi {a:AtomD} (h:a.light=true):∀ t∈a.args,t.s.size≤300:=by
 intro t ht
 have h1:=List.mem_of_mem_take ht
 simp only [List.mem_cons,List.not_mem_nil,or_false] at h1
 rcases h1 with rfl|rfl|rfl|rfl
 ·exact zgu h 0
 ·exact zgu h 1
 ·exact zgu h 2
 ·exact zgu h 3
theorem zqf {a:AtomD} (h:a.light=true):(Lib.join (zcd a) commaB).length≤1300:=by
 have h1:=zpm (zcd a) 300 (fun x hx=>by
  unfold zcd at hx
  obtain ⟨t,ht,rfl⟩:=List.mem_map.1 hx
  rw [bsz2]
  exact zqi h t ht)
 have h2:(zcd a).length≤4:=by
  unfold zcd
  rw [List.length_map,zbt]
  unfold AtomD.cnt
  omega
 have h3:(zcd a).length*(300+2)≤4*302:=Nat.mul_le_mul_right _ h2
 omega
theorem zus {a:AtomD} (h:¬ a.args.length=0):zaP a=a.says.data.toList++ztu++a.pred.data.toList++[40]++Lib.join (zcd a) commaB++[41]:=by
 have:a.args≠[]:=fun e=>h (by rw [e];rfl)
 unfold zaP
 rw [if_neg this]
 simp only [List.append_assoc]
end Go.Am
