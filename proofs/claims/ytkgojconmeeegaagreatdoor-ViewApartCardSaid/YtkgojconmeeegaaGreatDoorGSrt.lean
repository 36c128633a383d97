/- slices.Sort of strings, in place of its text. No condition. -/
import Derived.Test.YtkgojconmeeegaaGreatDoorG10
import Derived.Shelf.Sort.Plain
import Derived.Shelf.Slices.In.SortNone
import Derived.Shelf.Slices.CompactS
set_option linter.unusedSimpArgs false
set_option linter.unusedVariables false
namespace Go.Am
open Go.RowKit Go.Sort Go.Proofs
def ES (xs:List ByteArray):List ByteArray:=((xs.map (·.data.toList)).mergeSort fun x y=>decide (x≤y)).map fun l=>⟨l.toArray⟩
theorem Rn (xs:List ByteArray):(ES xs).length=xs.length:=by simp [ES]
theorem zlx (xs:List ByteArray):(ES xs).Perm xs:=by
 have h:=(List.mergeSort_perm (xs.map (·.data.toList)) (fun x y=>decide (x≤y))).map (fun l:List UInt8=>(⟨l.toArray⟩:ByteArray))
 rw [List.map_map] at h
 have e:(fun l:List UInt8=>(⟨l.toArray⟩:ByteArray))∘(fun x:ByteArray=>x.data.toList)=id:=by
  funext x
  exact Dd (by simp)
 rw [e,List.map_id] at h
 exact h
def H5 (args:List Value) (h:Heap):Option (Value × Heap):=match args with
 | [.slice a n _] =>
  if n=0 then some (.tuple #[],h) else
  match a with
  |some ⟨A,o,none⟩=>(gQ A o n h).bind fun l=>(strs l).bind fun xs =>
   if n < 4611686018427387904 then (kj A o ((ES xs).map Value.string) h).map fun h'=>(.tuple #[],h') else none
  |_=>none
 |_=>none
theorem T9:∀ (l:List Value) (xs:List ByteArray),strs l=some xs→l=xs.map Value.string
 | [],xs,hx=>by simp only [strs,Option.some.injEq] at hx;subst hx;rfl
 |v::l,xs,hx=>by
  cases v with
  |string s =>
   simp only [strs,Option.map_eq_some_iff] at hx
   obtain ⟨ys,hy,rfl⟩:=hx
   rw [T9 l ys hy]
   rfl
  |_=>simp [strs] at hx
theorem zkl {ρ:cE}:∀ (xs:List ByteArray) (m:List Value),cD ρ (xs.map Value.string) m→m=xs.map Value.string
 | [],m,h=>h.of_nil
 |x::xs,m,h=>by
  obtain ⟨y,m',rfl,hy,h'⟩:=cD.of_cons h
  cases hy
  rw [zkl xs m' h']
  rfl
section
variable {P:Program} {gs:List Nat}
theorem zj2 (off:Nat) (ss:List (List UInt8)) (c:Array Value) (h:off+ss.length≤c.size):(putCells encStr off ss.toArray c).toList=az c.toList off (ss.map encStr):=by
 apply List.ext_getElem?
 intro k
 rw [bI _ _ _ _ (by simpa using h)]
 simp only [putCells,Array.getElem?_toList,Array.getElem?_mapIdx,List.length_map,List.size_toArray]
 by_cases h1:k < off
 ·rw [if_pos h1]
  cases hc:c[k]? with
  |none=>rfl
  |some x=>simp only [Option.map_some];rw [if_neg (by omega)]
 ·rw [if_neg h1]
  by_cases h2:k < off+ss.length
  ·rw [if_pos h2]
   have hk:k < c.size:=by omega
   rw [Array.getElem?_eq_getElem hk,Option.map_some,if_pos ⟨by omega,h2⟩,List.getElem?_map]
   have h3:k - off < ss.length:=by omega
   rw [List.getElem?_eq_getElem h3,Option.map_some]
   simp [h3]
  ·rw [if_neg h2]
   cases hc:c[k]? with
   |none=>rfl
   |some x=>simp only [Option.map_some];rw [if_neg (by omega)]
theorem zlq {ρ:cE} {h:Heap} {w:World} (hs:bP ρ h w) {A o n:Nat} {L:Loc} {cs:List Value} {e:TypeId} {xs ys:List ByteArray} (hA:ρ A=some L) (hg:h.get A=some (.row cs e false)) (hl:cut cs o n=some (xs.map Value.string)) (hy:ys.length=n) :
 xs.length=n∧Go.Sort.Holds encStr w L.b (L.s+o) (xs.map (·.data.toList)).toArray∧∀ (zs:List (List UInt8)),zs.map encStr=ys.map Value.string→∀ (q:Nat) (os:Array Obj),
  Fr ρ ρ h (h.set A (.row (az cs o (ys.map Value.string)) e false)) w (grow (putRow encStr (Go.Sort.ahead w q) L.b (L.s+o) zs.toArray) os)∧bP ρ (h.set A (.row (az cs o (ys.map Value.string)) e false)) (grow (putRow encStr (Go.Sort.ahead w q) L.b (L.s+o) zs.toArray) os):=by
 have hb:=hs.fG A L hA
 rw [hg] at hb
 obtain ⟨cur,fz,gr,np,mS,m,hm,IZ⟩:=hb
 obtain ⟨k1,k2,k3⟩:=pB hm
 obtain ⟨l1,l2,l3⟩:=pB hl
 have uo:xs.length=n:=by rw [← l2,List.length_map]
 obtain ⟨d,tN,fj⟩:=IZ.cut hl
 have vf:=zkl xs d fj
 obtain ⟨d1,d2,d3⟩:=pB tN
 have k1':L.s+cs.length≤cur.size:=by simpa only [Array.length_toList] using k1
 have eQ:∀ j (x:ByteArray),xs[j]? = some x→cur[L.s+o+j]? = some (.string x):=by
  intro j x hj
  have NP:j < n:=by rw [← uo];exact (List.getElem?_eq_some_iff.1 hj).1
  have e1:=d3 j NP
  rw [vf,List.getElem?_map,hj,k3 (o+j) (by omega),Array.getElem?_toList] at e1
  rw [Nat.add_assoc]
  exact e1.symm
 refine ⟨uo,?_,?_⟩
 ·intro j hj
  rw [List.size_toArray,List.length_map] at hj
  have hx:=eQ j _ (List.getElem?_eq_getElem hj)
  have aL:=(Array.getElem?_eq_some_iff.1 hx).1
  have he:encStr ((xs.map (·.data.toList)).toArray)[j]! = .string xs[j]:=by
   have:((xs.map (·.data.toList)).toArray)[j]! = xs[j].data.toList:=by simp [hj]
   rw [this]
  refine ⟨?_,?_⟩
  ·rw [he]
   simp only [World.cell?,gr]
   simpa using hx
  ·have h0:=np.BP _ aL
   obtain ⟨lo,pM⟩:=fz
   simp only [World.frozen?,gr,Bool.and_eq_false_iff,decide_eq_false_iff_not]
   simp only at h0
   omega
 ·intro zs hz q os
  have ur:zs.length=n:=by have:=congrArg List.length hz;rw [List.length_map,List.length_map] at this;omega
  let W:=putRow encStr w L.b (L.s+o) zs.toArray
  have Ny:W.heap[L.b]? = some (.cells (putCells encStr (L.s+o) zs.toArray cur) e fz):=by
   simp only [W,putRow,mapBlock,Array.getElem?_modify,if_true,gr,Option.map_some,onCells]
  have cF:=zj2 (L.s+o) zs cur (by rw [ur];omega)
  rw [hz] at cF
  have dz:(putCells encStr (L.s+o) zs.toArray cur).size=cur.size:=by simp [putCells]
  have gU:cD ρ (ys.map Value.string) (ys.map Value.string):=cD.plain ρ (by rw [List.all_map];exact List.all_eq_true.2 (fun _ _=>rfl))
  obtain ⟨f1,f2⟩:=JB (W:=W) (b':=.row (az cs o (ys.map Value.string)) e false) hs hA hg (by simp) (by simp) rfl rfl rfl (by simp [W])
   (fun k hk=>by simp only [W,putRow,mapBlock,Array.getElem?_modify];rw [if_neg (fun h=>hk h.symm)])
   ⟨_,fz,Ny,by rw [dz];exact np,by rw [dz];exact mS,az m o (ys.map Value.string),by
    rw [cF,nS (by rw [List.length_map,hy];omega)]
    exact zkZ hm (by rw [List.length_map,hy];omega),IZ.az o gU⟩
  have Np:Below W.heap.size W (grow (putRow encStr (Go.Sort.ahead w q) L.b (L.s+o) zs.toArray) os):=by
   refine ⟨rfl,rfl,rfl,?_,fun k hk=>?_⟩
   ·rw [size_grow];simp [W]
   ·show ((putRow encStr w L.b (L.s+o) _).heap++os)[k]? = _
    rw [Array.getElem?_append_left hk]
  exact ⟨f1.trans (.mY ρ _ Np),f2.below Np⟩
theorem zzK {f:FuncId} (cU:∀ aG w,(callFunc f aG).run P w=.ok (.enter f aG) w)
 (h0:∀ (a:Option Addr) (c:Nat) (w:World),Calls P f #[.slice a 0 c] w fun e w'=>e=.returned (.tuple #[])∧w'=w)
 (hS:∀ (fG off cap:Nat) (ss:List (List UInt8)) (w:World),Go.Sort.Holds encStr w fG off ss.toArray→fG < w.heap.size→ss.length < 4611686018427387904 →
  Calls P f #[.slice (some ⟨fG,off,none⟩) ss.length cap] w fun e w'=>e=.returned (.tuple #[])∧∃ n os,w'=grow (putRow encStr (Go.Sort.ahead w n) fG off (ss.mergeSort fun x y=>decide (x≤y)).toArray) os):zm P gs f H5:=by
 intro args h v h' ak
 unfold H5 at ak
 split at ak
 rotate_left
 ·cases ak
 rename_i a n c
 split at ak
 ·rename_i hn
  cases ak
  subst hn
  refine ⟨.refl _,fun ρ w aG _ hs bN hv=>.inr ⟨cU aG w,?_⟩⟩
  obtain ⟨x,m,h1,hx,hv⟩:=hv.of_cons
  have:=hv.of_nil
  subst this
  have kT:∃ a' c',x=.slice a' 0 c':=by cases hx <;> exact ⟨_,_,rfl⟩
  obtain ⟨a',c',rfl⟩:=kT
  have lN:aG=#[.slice a' 0 c']:=by rw [← Array.toList_inj];exact h1
  subst lN
  refine (h0 a' c' w).mono ?_
  rintro e w' ⟨rfl,rfl⟩
  exact ⟨ρ,.tuple #[],rfl,.refl ρ h w',hs,.tuple rfl (fun i x y hx=>by simp at hx)⟩
 ·rename_i hn
  split at ak
  rotate_left
  ·cases ak
  rename_i A o
  simp only [Option.bind_eq_some_iff] at ak
  obtain ⟨l,hl,xs,kT,ak⟩:=ak
  split at ak
  rotate_left
  ·cases ak
  rename_i Bz
  simp only [Option.map_eq_some_iff,Prod.mk.injEq] at ak
  obtain ⟨h2,hw,rfl,rfl⟩:=ak
  refine ⟨Jw hw,fun ρ w aG _ hs bN hv=>.inr ⟨cU aG w,?_⟩⟩
  obtain ⟨x,m0,h1,hx,hv⟩:=hv.of_cons
  have:=hv.of_nil
  subst this
  have key:∃ L c',ρ A=some L∧x=.slice (some ⟨L.b,L.s+o,none⟩) n c':=by
   cases hx with
   |slice hA hc pN ea=>exact ⟨_,_,hA,by rw [ea (by omega)]⟩
   |ck hA hc cV pN hk hm ea=>exact ⟨_,_,hA,by rw [(ea (by omega)).1]⟩
  obtain ⟨L,c',hA,rfl⟩:=key
  have lN:aG=#[.slice (some ⟨L.b,L.s+o,none⟩) n c']:=by rw [← Array.toList_inj];exact h1
  subst lN
  unfold kj at hw
  split at hw
  rotate_left
  ·cases hw
  rename_i cs e hg
  split at hw
  rotate_left
  ·cases hw
  cases hw
  simp only [gQ,hg] at hl
  obtain ⟨l1,l2,l3⟩:=pB hl
  have hle:=T9 l xs kT
  rw [hle] at hl
  have rW:=Rn xs
  have uo:xs.length=n:=by rw [← l2,hle,List.length_map]
  obtain ⟨_,hH,iM⟩:=zlq hs hA hg hl (ys:=ES xs) (by omega)
  have iC:=hS L.b (L.s+o) c' (xs.map (·.data.toList)) w hH (hs.lt hA) (by rw [List.length_map];omega)
  rw [List.length_map,uo] at iC
  refine iC.mono ?_
  rintro e' w' ⟨rfl,nn,os,rfl⟩
  obtain ⟨f1,f2⟩:=iM ((xs.map (·.data.toList)).mergeSort fun x y=>decide (x≤y)) (by simp only [ES,List.map_map];rfl) nn os
  exact ⟨ρ,.tuple #[],rfl,f1,f2,.tuple rfl (fun i x y hx=>by simp at hx)⟩
/-! ### slices.Compact -/
def yd (xs:List ByteArray):List ByteArray:=(Lib.compact (xs.map (·.data.toList))).map fun l=>⟨l.toArray⟩
def H8 (xs:List ByteArray):List ByteArray:=yd xs++List.replicate (xs.length - (yd xs).length) ⟨#[]⟩
def HO (args:List Value) (h:Heap):Option (Value × Heap):=match args with
 | [.slice a n c] =>
  if n=0 then some (.slice a n c,h) else
  match a with
  |some ⟨A,o,none⟩=>(gQ A o n h).bind fun l=>(strs l).bind fun xs =>
   if n≤9223372036854775807∧(yd xs).length≤xs.length then (kj A o ((H8 xs).map Value.string) h).map fun h'=>(.slice a (yd xs).length c,h') else none
  |_=>none
 |_=>none
theorem zoC {f:FuncId} (cU:∀ aG w,(callFunc f aG).run P w=.ok (.enter f aG) w)
 (h0:∀ (a:Option Addr) (c:Nat) (w:World),Calls P f #[.slice a 0 c] w fun e w'=>e=.returned (.slice a 0 c)∧w'=w)
 (hS:∀ (fG off cap:Nat) (ss:List (List UInt8)) (w:World),Go.Sort.Holds encStr w fG off ss.toArray→ss.length≤9223372036854775807→ss.length≤cap →
  Calls P f #[.slice (some ⟨fG,off,none⟩) ss.length cap] w fun e w'=>e=.returned (.slice (some ⟨fG,off,none⟩) (Lib.compact ss).length cap)∧∃ q,w'=putRow encStr (Go.Sort.ahead w q) fG off (Lib.compact ss++List.replicate (ss.length - (Lib.compact ss).length) []).toArray):zm P gs f HO:=by
 intro args h v h' ak
 unfold HO at ak
 split at ak
 rotate_left
 ·cases ak
 rename_i a n c
 split at ak
 ·rename_i hn
  cases ak
  subst hn
  refine ⟨.refl _,fun ρ w aG _ hs bN hv=>.inr ⟨cU aG w,?_⟩⟩
  obtain ⟨x,m,h1,hx,hv⟩:=hv.of_cons
  have:=hv.of_nil
  subst this
  have kT:∃ a' c',x=.slice a' 0 c':=by cases hx <;> exact ⟨_,_,rfl⟩
  obtain ⟨a',c',rfl⟩:=kT
  have lN:aG=#[.slice a' 0 c']:=by rw [← Array.toList_inj];exact h1
  subst lN
  refine (h0 a' c' w).mono ?_
  rintro e w' ⟨rfl,rfl⟩
  exact ⟨ρ,_,rfl,.refl ρ h w',hs,hx⟩
 ·rename_i hn
  split at ak
  rotate_left
  ·cases ak
  rename_i A o
  simp only [Option.bind_eq_some_iff] at ak
  obtain ⟨l,hl,xs,kT,ak⟩:=ak
  split at ak
  rotate_left
  ·cases ak
  rename_i Bz
  simp only [Option.map_eq_some_iff,Prod.mk.injEq] at ak
  obtain ⟨h2,hw,rfl,rfl⟩:=ak
  refine ⟨Jw hw,fun ρ w aG _ hs bN hv=>.inr ⟨cU aG w,?_⟩⟩
  obtain ⟨x,m0,h1,hx,hv⟩:=hv.of_cons
  have:=hv.of_nil
  subst this
  unfold kj at hw
  split at hw
  rotate_left
  ·cases hw
  rename_i cs e hg
  split at hw
  rotate_left
  ·cases hw
  cases hw
  simp only [gQ,hg] at hl
  obtain ⟨l1,l2,l3⟩:=pB hl
  have hle:=T9 l xs kT
  rw [hle] at hl
  have uo:xs.length=n:=by rw [← l2,hle,List.length_map]
  have key:∃ L c',ρ A=some L∧x=.slice (some ⟨L.b,L.s+o,none⟩) n c'∧n≤c'∧VR ρ (.slice (some ⟨A,o,none⟩) (yd xs).length c) (.slice (some ⟨L.b,L.s+o,none⟩) (yd xs).length c'):=by
   cases hx with
   |slice hA hc pN ea =>
    have F3:=ea (by omega)
    subst F3
    exact ⟨_,_,hA,rfl,pN,.slice hA hc (by omega) ea⟩
   |ck hA hc cV pN hk hm ea =>
    have F3:=(ea (by omega)).1
    subst F3
    exact ⟨_,_,hA,rfl,by omega,.ck hA hc cV (by omega) hk hm ea⟩
  obtain ⟨L,c',hA,rfl,pN,ph⟩:=key
  have lN:aG=#[.slice (some ⟨L.b,L.s+o,none⟩) n c']:=by rw [← Array.toList_inj];exact h1
  subst lN
  have ky:(H8 xs).length=n:=by simp only [H8,List.length_append,List.length_replicate];omega
  obtain ⟨_,hH,iM⟩:=zlq hs hA hg hl (ys:=H8 xs) ky
  have iC:=hS L.b (L.s+o) c' (xs.map (·.data.toList)) w hH (by rw [List.length_map];omega) (by rw [List.length_map];omega)
  rw [List.length_map,uo] at iC
  have hlen:(yd xs).length=(Lib.compact (xs.map (·.data.toList))).length:=by simp [yd]
  refine iC.mono ?_
  rintro e' w' ⟨rfl,q,rfl⟩
  obtain ⟨f1,f2⟩:=iM (Lib.compact (xs.map (·.data.toList))++List.replicate (n - (Lib.compact (xs.map (·.data.toList))).length) []) (by
   rw [← hlen,← uo]
   simp only [H8,yd,List.map_append,List.map_map,List.map_replicate,List.length_map]
   rfl) q #[]
  rw [grow_empty] at f1 f2
  rw [← hlen]
  rw [hlen]
  exact ⟨ρ,_,rfl,f1,f2,by rw [← hlen];exact ph⟩
end
end Go.Am
