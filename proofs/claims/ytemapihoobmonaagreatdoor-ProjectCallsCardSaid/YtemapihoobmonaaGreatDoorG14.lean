/- Walks: maps of atoms. No condition. -/
import Derived.Test.YtemapihoobmonaaGreatDoorG13
import Derived.Test.YtemapihoobmonaaGreatDoorG9
import Derived.Shelf.Sort.Plain
import Derived.Shelf.Slices.In.SortNone
import Derived.Shelf.Slices.CompactS
namespace Go.Am
set_option linter.unusedVariables false
set_option linter.unusedSimpArgs false
section
variable {P:Program} {T:Tab} {ov:Ov} {d:Option Tmp} {ty:TypeId} {pos:String} {af:Array Edge} {g:Option (Nat × Bool)} {e:Env} {h:Heap} {K:Value→Heap→Prop}
end
def MapA (h:Heap) (A:Nat) (met:List AtomD):Prop:=∃ es clock,∃ ks:List AtomD,Holds h A (.map es clock)∧es.map (fun x:MapEntry=>x.key)=ks.map AtomD.val∧(∀ a,a∈ks↔a∈met)∧∀ x∈es,x.val=.agg ⟨[]⟩
section
variable {T:Tab} {t kt et:TypeId} {A:Nat} {met:List AtomD} {a:AtomD} {h1:Heap} {bs:List Blk} {w:Nat} {K:Value→Heap→Prop} {z:Value}
theorem MapA.over (m:MapA h1 A met) {h2:Heap} (x:Ext (h1.lay bs w) h2):MapA h2 A met:=by
  obtain ⟨es,cl,ks,m1,m2,m3⟩:=m
  exact ⟨es,cl,ks,m1.over x,m2,m3⟩
theorem MapA.ext (m:MapA h1 A met) {h2:Heap} (x:Ext h1 h2):MapA h2 A met:=by
  obtain ⟨es,cl,ks,m1,m2,m3⟩:=m
  exact ⟨es,cl,ks,⟨Nat.lt_of_lt_of_le m1.lt x.size,(x.get A m1.lt).trans m1.get⟩,m2,m3⟩
theorem MapA.top {h2:Heap} {i:Nat} (x:Ext (h1.lay bs w) h2) (hi:bs[i]? = some (.map [] 0)):MapA h2 (h1.size+i) []:=⟨[],0,[],Holds.top x hi,rfl,fun _=>Iff.rfl,fun _ hx=>by simp at hx⟩
end
theorem zsP (t:TermD):t.val.cells.toList=t.cells:=rfl
end Go.Am
namespace Go.Am
set_option linter.unusedVariables false
def zAT:List UInt8:=[32,115,97,121,115,32]
def zyQ:List UInt8:=[44,32]
def ze1 (a:AtomD):List (List UInt8):=a.args.map fun t=>t.s.data.toList
def zd3 (a:AtomD):List UInt8:=a.says.data.toList++zAT++a.pred.data.toList++(if a.args=[] then [] else [40]++Lib.join (ze1 a) zyQ++[41])
def cmpD (a b:AtomD):Int:=Lib.compareBytes (zd3 a) (zd3 b)
theorem bsz2 (x:ByteArray):x.data.toList.length=x.size:=by rw [Array.length_toList]; rfl
end Go.Am
namespace Go.Am
open Go.RowKit Go.Sort Go.Proofs
set_option linter.unusedVariables false
set_option linter.unusedSimpArgs false
def zn5 (xs:List ByteArray):List ByteArray:=((xs.map (·.data.toList)).mergeSort fun x y=>decide (x≤y)).map fun l=>⟨l.toArray⟩
theorem zc0 (xs:List ByteArray):(zn5 xs).length=xs.length:=by simp [zn5]
theorem zth (xs:List ByteArray):(zn5 xs).Perm xs:=by
  have h:=(List.mergeSort_perm (xs.map (·.data.toList)) (fun x y=>decide (x≤y))).map (fun l:List UInt8=>(⟨l.toArray⟩:ByteArray))
  rw [List.map_map] at h
  have e:(fun l:List UInt8=>(⟨l.toArray⟩:ByteArray))∘(fun x:ByteArray=>x.data.toList)=id:=by
    funext x
    exact zgu (by simp)
  rw [e,List.map_id] at h
  exact h
def ziP (args:List Value) (h:Heap):Option (Value × Heap):=match args with
  | [.slice a n _] =>
    if n=0 then some (.tuple #[],h) else
    match a with
    | some ⟨A,o,none⟩=>(za0 A o n h).bind fun l=>(strs l).bind fun xs =>
      if n < 4611686018427387904 then (zbW A o ((zn5 xs).map Value.string) h).map fun h'=>(.tuple #[],h') else none
    | _=>none
  | _=>none
theorem zi2:∀ (l:List Value) (xs:List ByteArray),strs l=some xs→l=xs.map Value.string
  | [],xs,hx=>by simp only [strs,Option.some.injEq] at hx; subst hx; rfl
  | v::l,xs,hx=>by
    cases v with
    | string s =>
      simp only [strs,Option.map_eq_some_iff] at hx
      obtain ⟨ys,hy,rfl⟩:=hx
      rw [zi2 l ys hy]
      rfl
    | _=>simp [strs] at hx
theorem ziK {ρ:Rho}:∀ (xs:List ByteArray) (m:List Value),VRs ρ (xs.map Value.string) m→m=xs.map Value.string
  | [],m,h=>h.of_nil
  | x::xs,m,h=>by
    obtain ⟨y,m',rfl,hy,h'⟩:=VRs.of_cons h
    cases hy
    rw [ziK xs m' h']
    rfl
section
variable {P:Program} {gs:List Nat}
theorem zi3 (off:Nat) (ss:List (List UInt8)) (c:Array Value) (h:off+ss.length≤c.size):(putCells encStr off ss.toArray c).toList=splice c.toList off (ss.map encStr):=by
  apply List.ext_getElem?
  intro k
  rw [getElem?_splice _ _ _ _ (by simpa using h)]
  simp only [putCells,Array.getElem?_toList,Array.getElem?_mapIdx,List.length_map,List.size_toArray]
  by_cases h1:k < off
  · rw [if_pos h1]
    cases hc:c[k]? with
    | none=>rfl
    | some x=>simp only [Option.map_some]; rw [if_neg (by omega)]
  · rw [if_neg h1]
    by_cases h2:k < off+ss.length
    · rw [if_pos h2]
      have hk:k < c.size:=by omega
      rw [Array.getElem?_eq_getElem hk,Option.map_some,if_pos ⟨by omega,h2⟩,List.getElem?_map]
      have h3:k - off < ss.length:=by omega
      rw [List.getElem?_eq_getElem h3,Option.map_some]
      simp [h3]
    · rw [if_neg h2]
      cases hc:c[k]? with
      | none=>rfl
      | some x=>simp only [Option.map_some]; rw [if_neg (by omega)]
theorem zkz {ρ:Rho} {h:Heap} {w:World} (hs:Sim ρ h w) {A o n:Nat} {L:Loc} {cs:List Value} {e:TypeId} {xs ys:List ByteArray} (hA:ρ A=some L) (hg:h.get A=some (.row cs e false)) (hl:cut cs o n=some (xs.map Value.string)) (hy:ys.length=n) :
    xs.length=n∧Go.Sort.Holds encStr w L.b (L.s+o) (xs.map (·.data.toList)).toArray∧∀ (zs:List (List UInt8)),zs.map encStr=ys.map Value.string→∀ (q:Nat) (os:Array Obj),
      Fr ρ ρ h (h.set A (.row (splice cs o (ys.map Value.string)) e false)) w (grow (putRow encStr (Go.Sort.ahead w q) L.b (L.s+o) zs.toArray) os)∧Sim ρ (h.set A (.row (splice cs o (ys.map Value.string)) e false)) (grow (putRow encStr (Go.Sort.ahead w q) L.b (L.s+o) zs.toArray) os):=by
  have hb:=hs.blk A L hA
  rw [hg] at hb
  obtain ⟨cur,fz,hcur,hth,htot,m,hm,hvm⟩:=hb
  obtain ⟨k1,k2,k3⟩:=zca hm
  obtain ⟨l1,l2,l3⟩:=zca hl
  have hxl:xs.length=n:=by rw [← l2,List.length_map]
  obtain ⟨d,hd1,hd2⟩:=hvm.cut hl
  have hde:=ziK xs d hd2
  obtain ⟨d1,d2,d3⟩:=zca hd1
  have k1':L.s+cs.length≤cur.size:=by simpa only [Array.length_toList] using k1
  have hcell:∀ j (x:ByteArray),xs[j]? = some x→cur[L.s+o+j]? = some (.string x):=by
    intro j x hj
    have hjn:j < n:=by rw [← hxl]; exact (List.getElem?_eq_some_iff.1 hj).1
    have e1:=d3 j hjn
    rw [hde,List.getElem?_map,hj,k3 (o+j) (by omega),Array.getElem?_toList] at e1
    rw [Nat.add_assoc]
    exact e1.symm
  refine ⟨hxl,?_,?_⟩
  · intro j hj
    rw [List.size_toArray,List.length_map] at hj
    have hx:=hcell j _ (List.getElem?_eq_getElem hj)
    have hin:=(Array.getElem?_eq_some_iff.1 hx).1
    have he:encStr ((xs.map (·.data.toList)).toArray)[j]! = .string xs[j]:=by
      have:((xs.map (·.data.toList)).toArray)[j]! = xs[j].data.toList:=by simp [hj]
      rw [this]
    refine ⟨?_,?_⟩
    · rw [he]
      simp only [World.cell?,hcur]
      simpa using hx
    · have h0:=hth.in' _ hin
      obtain ⟨lo,hi'⟩:=fz
      simp only [World.frozen?,hcur,Bool.and_eq_false_iff,decide_eq_false_iff_not]
      simp only at h0
      omega
  · intro zs hz q os
    have hzl:zs.length=n:=by have:=congrArg List.length hz; rw [List.length_map,List.length_map] at this; omega
    let W:=putRow encStr w L.b (L.s+o) zs.toArray
    have hcurW:W.heap[L.b]? = some (.cells (putCells encStr (L.s+o) zs.toArray cur) e fz):=by
      simp only [W,putRow,mapBlock,Array.getElem?_modify,if_true,hcur,Option.map_some,onCells]
    have hsp:=zi3 (L.s+o) zs cur (by rw [hzl]; omega)
    rw [hz] at hsp
    have hsz:(putCells encStr (L.s+o) zs.toArray cur).size=cur.size:=by simp [putCells]
    have hself:VRs ρ (ys.map Value.string) (ys.map Value.string):=VRs.plain ρ (by rw [List.all_map]; exact List.all_eq_true.2 (fun _ _=>rfl))
    obtain ⟨f1,f2⟩:=zdp (W:=W) (b':=.row (splice cs o (ys.map Value.string)) e false) hs hA hg (by simp) (by simp) rfl rfl rfl (by simp [W])
      (fun k hk=>by simp only [W,putRow,mapBlock,Array.getElem?_modify]; rw [if_neg (fun h=>hk h.symm)])
      ⟨_,fz,hcurW,by rw [hsz]; exact hth,by rw [hsz]; exact htot,splice m o (ys.map Value.string),by
        rw [hsp,zbp (by rw [List.length_map,hy]; omega)]
        exact zkq hm (by rw [List.length_map,hy]; omega),hvm.splice o hself⟩
    have hbel:Below W.heap.size W (grow (putRow encStr (Go.Sort.ahead w q) L.b (L.s+o) zs.toArray) os):=by
      refine ⟨rfl,rfl,rfl,?_,fun k hk=>?_⟩
      · rw [size_grow]; simp [W]
      · show ((putRow encStr w L.b (L.s+o) _).heap++os)[k]? = _
        rw [Array.getElem?_append_left hk]
    exact ⟨f1.trans (.of_below ρ _ hbel),f2.below hbel⟩
theorem zwv {f:FuncId} (henter:∀ cargs w,(callFunc f cargs).run P w=.ok (.enter f cargs) w)
    (h0:∀ (a:Option Addr) (c:Nat) (w:World),Calls P f #[.slice a 0 c] w fun e w'=>e=.returned (.tuple #[])∧w'=w)
    (hS:∀ (blk off cap:Nat) (ss:List (List UInt8)) (w:World),Go.Sort.Holds encStr w blk off ss.toArray→blk < w.heap.size→ss.length < 4611686018427387904 →
      Calls P f #[.slice (some ⟨blk,off,none⟩) ss.length cap] w fun e w'=>e=.returned (.tuple #[])∧∃ n os,w'=grow (putRow encStr (Go.Sort.ahead w n) blk off (ss.mergeSort fun x y=>decide (x≤y)).toArray) os):Ov1 P gs f ziP:=by
  intro args h v h' hev
  unfold ziP at hev
  split at hev
  rotate_left
  · cases hev
  rename_i a n c
  split at hev
  · rename_i hn
    cases hev
    subst hn
    refine ⟨.refl _,fun ρ w cargs _ hs hfree hv=>.inr ⟨henter cargs w,?_⟩⟩
    obtain ⟨x,m,h1,hx,hv⟩:=hv.of_cons
    have:=hv.of_nil
    subst this
    have hxs:∃ a' c',x=.slice a' 0 c':=by cases hx <;> exact ⟨_,_,rfl⟩
    obtain ⟨a',c',rfl⟩:=hxs
    have hca:cargs=#[.slice a' 0 c']:=by rw [← Array.toList_inj]; exact h1
    subst hca
    refine (h0 a' c' w).mono ?_
    rintro e w' ⟨rfl,rfl⟩
    exact ⟨ρ,.tuple #[],rfl,.refl ρ h w',hs,.tuple rfl (fun i x y hx=>by simp at hx)⟩
  · rename_i hn
    split at hev
    rotate_left
    · cases hev
    rename_i A o
    simp only [Option.bind_eq_some_iff] at hev
    obtain ⟨l,hl,xs,hxs,hev⟩:=hev
    split at hev
    rotate_left
    · cases hev
    rename_i hnb
    simp only [Option.map_eq_some_iff,Prod.mk.injEq] at hev
    obtain ⟨h2,hw,rfl,rfl⟩:=hev
    refine ⟨zcx hw,fun ρ w cargs _ hs hfree hv=>.inr ⟨henter cargs w,?_⟩⟩
    obtain ⟨x,m0,h1,hx,hv⟩:=hv.of_cons
    have:=hv.of_nil
    subst this
    have key:∃ L c',ρ A=some L∧x=.slice (some ⟨L.b,L.s+o,none⟩) n c':=by
      cases hx with
      | slice hA hc hnc had=>exact ⟨_,_,hA,by rw [had (by omega)]⟩
      | sliceG hA hc hlo hnc hk hm had=>exact ⟨_,_,hA,by rw [(had (by omega)).1]⟩
    obtain ⟨L,c',hA,rfl⟩:=key
    have hca:cargs=#[.slice (some ⟨L.b,L.s+o,none⟩) n c']:=by rw [← Array.toList_inj]; exact h1
    subst hca
    unfold zbW at hw
    split at hw
    rotate_left
    · cases hw
    rename_i cs e hg
    split at hw
    rotate_left
    · cases hw
    cases hw
    simp only [za0,hg] at hl
    obtain ⟨l1,l2,l3⟩:=zca hl
    have hle:=zi2 l xs hxs
    rw [hle] at hl
    have hsl:=zc0 xs
    have hxl:xs.length=n:=by rw [← l2,hle,List.length_map]
    obtain ⟨_,hH,hres⟩:=zkz hs hA hg hl (ys:=zn5 xs) (by omega)
    have hcall:=hS L.b (L.s+o) c' (xs.map (·.data.toList)) w hH (hs.lt hA) (by rw [List.length_map]; omega)
    rw [List.length_map,hxl] at hcall
    refine hcall.mono ?_
    rintro e' w' ⟨rfl,nn,os,rfl⟩
    obtain ⟨f1,f2⟩:=hres ((xs.map (·.data.toList)).mergeSort fun x y=>decide (x≤y)) (by simp only [zn5,List.map_map]; rfl) nn os
    exact ⟨ρ,.tuple #[],rfl,f1,f2,.tuple rfl (fun i x y hx=>by simp at hx)⟩
/-! ### slices.Compact -/
def ze0 (xs:List ByteArray):List ByteArray:=(Lib.compact (xs.map (·.data.toList))).map fun l=>⟨l.toArray⟩
def zka (xs:List ByteArray):List ByteArray:=ze0 xs++List.replicate (xs.length - (ze0 xs).length) ⟨#[]⟩
def zjn (args:List Value) (h:Heap):Option (Value × Heap):=match args with
  | [.slice a n c] =>
    if n=0 then some (.slice a n c,h) else
    match a with
    | some ⟨A,o,none⟩=>(za0 A o n h).bind fun l=>(strs l).bind fun xs =>
      if n≤9223372036854775807∧(ze0 xs).length≤xs.length then (zbW A o ((zka xs).map Value.string) h).map fun h'=>(.slice a (ze0 xs).length c,h') else none
    | _=>none
  | _=>none
theorem zoh {f:FuncId} (henter:∀ cargs w,(callFunc f cargs).run P w=.ok (.enter f cargs) w)
    (h0:∀ (a:Option Addr) (c:Nat) (w:World),Calls P f #[.slice a 0 c] w fun e w'=>e=.returned (.slice a 0 c)∧w'=w)
    (hS:∀ (blk off cap:Nat) (ss:List (List UInt8)) (w:World),Go.Sort.Holds encStr w blk off ss.toArray→ss.length≤9223372036854775807→ss.length≤cap →
      Calls P f #[.slice (some ⟨blk,off,none⟩) ss.length cap] w fun e w'=>e=.returned (.slice (some ⟨blk,off,none⟩) (Lib.compact ss).length cap)∧∃ q,w'=putRow encStr (Go.Sort.ahead w q) blk off (Lib.compact ss++List.replicate (ss.length - (Lib.compact ss).length) []).toArray):Ov1 P gs f zjn:=by
  intro args h v h' hev
  unfold zjn at hev
  split at hev
  rotate_left
  · cases hev
  rename_i a n c
  split at hev
  · rename_i hn
    cases hev
    subst hn
    refine ⟨.refl _,fun ρ w cargs _ hs hfree hv=>.inr ⟨henter cargs w,?_⟩⟩
    obtain ⟨x,m,h1,hx,hv⟩:=hv.of_cons
    have:=hv.of_nil
    subst this
    have hxs:∃ a' c',x=.slice a' 0 c':=by cases hx <;> exact ⟨_,_,rfl⟩
    obtain ⟨a',c',rfl⟩:=hxs
    have hca:cargs=#[.slice a' 0 c']:=by rw [← Array.toList_inj]; exact h1
    subst hca
    refine (h0 a' c' w).mono ?_
    rintro e w' ⟨rfl,rfl⟩
    exact ⟨ρ,_,rfl,.refl ρ h w',hs,hx⟩
  · rename_i hn
    split at hev
    rotate_left
    · cases hev
    rename_i A o
    simp only [Option.bind_eq_some_iff] at hev
    obtain ⟨l,hl,xs,hxs,hev⟩:=hev
    split at hev
    rotate_left
    · cases hev
    rename_i hnb
    simp only [Option.map_eq_some_iff,Prod.mk.injEq] at hev
    obtain ⟨h2,hw,rfl,rfl⟩:=hev
    refine ⟨zcx hw,fun ρ w cargs _ hs hfree hv=>.inr ⟨henter cargs w,?_⟩⟩
    obtain ⟨x,m0,h1,hx,hv⟩:=hv.of_cons
    have:=hv.of_nil
    subst this
    unfold zbW at hw
    split at hw
    rotate_left
    · cases hw
    rename_i cs e hg
    split at hw
    rotate_left
    · cases hw
    cases hw
    simp only [za0,hg] at hl
    obtain ⟨l1,l2,l3⟩:=zca hl
    have hle:=zi2 l xs hxs
    rw [hle] at hl
    have hxl:xs.length=n:=by rw [← l2,hle,List.length_map]
    have key:∃ L c',ρ A=some L∧x=.slice (some ⟨L.b,L.s+o,none⟩) n c'∧n≤c'∧VR ρ (.slice (some ⟨A,o,none⟩) (ze0 xs).length c) (.slice (some ⟨L.b,L.s+o,none⟩) (ze0 xs).length c'):=by
      cases hx with
      | slice hA hc hnc had =>
        have had':=had (by omega)
        subst had'
        exact ⟨_,_,hA,rfl,hnc,.slice hA hc (by omega) had⟩
      | sliceG hA hc hlo hnc hk hm had =>
        have had':=(had (by omega)).1
        subst had'
        exact ⟨_,_,hA,rfl,by omega,.sliceG hA hc hlo (by omega) hk hm had⟩
    obtain ⟨L,c',hA,rfl,hnc,hvr⟩:=key
    have hca:cargs=#[.slice (some ⟨L.b,L.s+o,none⟩) n c']:=by rw [← Array.toList_inj]; exact h1
    subst hca
    have hcl:(zka xs).length=n:=by simp only [zka,List.length_append,List.length_replicate]; omega
    obtain ⟨_,hH,hres⟩:=zkz hs hA hg hl (ys:=zka xs) hcl
    have hcall:=hS L.b (L.s+o) c' (xs.map (·.data.toList)) w hH (by rw [List.length_map]; omega) (by rw [List.length_map]; omega)
    rw [List.length_map,hxl] at hcall
    have hlen:(ze0 xs).length=(Lib.compact (xs.map (·.data.toList))).length:=by simp [ze0]
    refine hcall.mono ?_
    rintro e' w' ⟨rfl,q,rfl⟩
    obtain ⟨f1,f2⟩:=hres (Lib.compact (xs.map (·.data.toList))++List.replicate (n - (Lib.compact (xs.map (·.data.toList))).length) []) (by
      rw [← hlen,← hxl]
      simp only [zka,ze0,List.map_append,List.map_map,List.map_replicate,List.length_map]
      rfl) q #[]
    rw [grow_empty] at f1 f2
    rw [← hlen]
    rw [hlen]
    exact ⟨ρ,_,rfl,f1,f2,by rw [← hlen]; exact hvr⟩
end
end Go.Am
