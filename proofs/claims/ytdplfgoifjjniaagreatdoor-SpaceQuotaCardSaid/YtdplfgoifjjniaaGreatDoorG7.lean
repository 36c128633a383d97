/- Arguments of any plain type laid in the plain heap: each block of the world, from each place on, is a row that is read alone. No condition. -/
import Derived.Test.YtdplfgoifjjniaaGreatDoorG4
import Derived.Test.YtdplfgoifjjniaaGreatDoorG6
import Derived.OpenShut
import Derived.HandedShaped
import Derived.WideKeyArgs
namespace Go.Am
open Go.RowKit Go.ChangeShapes Go.WideShapes Go.ChangeAt

def opnB (S M:Nat):Value→Bool
 | .bool _ | .int _ _ | .string _=>true
 | .slice none n c=>n == 0 && c == 0
 | .slice (some a) n c=>decide (n≤c) && (decide (c < G) && (c == 0 || (decide (a.block < S) && (a.spot.isNone && decide (a.off < M)))))
 |_=>false
def img (N M:Nat):Value→Value
 | .slice (some a) n c=>if c=0 then .slice (some ⟨N,0,none⟩) n c else .slice (some ⟨N+(a.block*M+a.off),0,none⟩) n c
 |v=>v
def zgE (W:World) (b:Nat):List Value:=match W.heap[b]? with
 |some (.cells c _ _)=>c.toList
 |_=>[]
def ze2 (W:World) (N M:Nat) (b off:Nat):List Value:=(((zgE W b).drop off).takeWhile (opnB W.heap.size M)).map (img N M)
def zo6 (W:World) (N M:Nat):List Blk:=(List.range (W.heap.size*M)).map fun i=>.row (ze2 W N M (i / M) (i % M)) 0 true
def zb5 (W:World) (h:Heap) (M:Nat):Heap:=h.lay (zo6 W h.size M) (h.size+W.heap.size*M)
def zb2 (W:World) (h:Heap) (ρ:Rho) (M:Nat):Rho:=fun A=>if h.size≤A∧A < h.size+W.heap.size*M then some ⟨(A - h.size) / M,(A - h.size) % M,0⟩ else ρ A

section
variable {P:Program} {W:World} {h:Heap} {ρ:Rho} {M:Nat}
theorem zkD (N:Nat):(zo6 W N M).length=W.heap.size*M:=by simp [zo6]
theorem zcB:(zb5 W h M).size=h.size+W.heap.size*M:=by unfold zb5;rw [zad,zkD]
theorem zdL {i:Nat} (hi:i < W.heap.size*M):(zb5 W h M).get (h.size+i)=some (.row (ze2 W h.size M (i / M) (i % M)) 0 true):=by
 unfold zb5
 rw [zbd]
 simp [zo6,hi]
theorem zfe {A:Nat} (hA:A < h.size):(zb5 W h M).get A=h.get A:=za9 _ _ _ hA
theorem zh3 {b off:Nat} (hb:b < W.heap.size) (ho:off < M):b*M+off < W.heap.size*M:=by
 calc b*M+off < b*M+M:=by omega
  _=(b+1)*M:=by rw [Nat.succ_mul]
  _≤W.heap.size*M:=Nat.mul_le_mul_right _ hb
theorem zkK {b off:Nat} (ho:off < M):(b*M+off) / M=b:=by
 rw [Nat.mul_comm,Nat.mul_add_div (by omega),Nat.div_eq_of_lt ho,Nat.add_zero]
theorem zkL {b off:Nat} (ho:off < M):(b*M+off) % M=off:=by
 rw [Nat.mul_comm,Nat.mul_add_mod,Nat.mod_eq_of_lt ho]
theorem zff {b off:Nat} (hb:b < W.heap.size) (ho:off < M):zb2 W h ρ M (h.size+(b*M+off))=some ⟨b,off,0⟩:=by
 have h1:=zh3 (W:=W) hb ho
 unfold zb2
 rw [if_pos ⟨by omega,by omega⟩,Nat.add_sub_cancel_left,zkK ho,zkL ho]
theorem zmF (hfree:∀ A,h.size≤A→ρ A=none) (A:Nat) (L:Loc) (hA:ρ A=some L):zb2 W h ρ M A=some L:=by
 unfold zb2
 rw [if_neg]
 ·exact hA
 ·rintro ⟨h1,_⟩
  rw [hfree A h1] at hA
  cases hA
theorem zsw (hS:0 < W.heap.size) (hM:0 < M) {u:Value} (hu:opnB W.heap.size M u=true):VR (zb2 W h ρ M) (img h.size M u) u:=by
 cases u with
 |bool b=>exact .bool b
 |int k n=>exact .int k n
 |string s=>exact .string s
 |slice a n c =>
  cases a with
  |none =>
   simp [opnB] at hu
   obtain ⟨rfl,rfl⟩:=hu
   exact .sliceNil
  |some a =>
   simp only [opnB,Bool.and_eq_true,decide_eq_true_eq,Bool.or_eq_true,beq_iff_eq] at hu
   obtain ⟨h1,h2,h3⟩:=hu
   by_cases hc:c=0
   ·subst hc
    have hr:zb2 W h ρ M h.size=some ⟨0,0,0⟩:=by
     have:=zff (h:=h) (ρ:=ρ) hS hM
     simpa using this
    exact VR.slice (L:=⟨0,0,0⟩) hr h2 h1 (fun hh=>absurd rfl hh)
   ·rcases h3 with h3|⟨h3,h4,h5⟩
    ·exact absurd h3 hc
    ·simp only [img,if_neg hc]
     refine VR.slice (zff h3 h5) h2 h1 (fun _=>?_)
     obtain ⟨b,o,s⟩:=a
     simp at h4
     subst h4
     simp
 |_=>simp [opnB] at hu
theorem zAG {α:Type} {p:α→Bool} {l:List α} {x:α} (h:x∈l.takeWhile p):p x=true:=by
 induction l with
 |nil=>simp at h
 |cons a l ih =>
  by_cases ha:p a=true
  ·rw [List.takeWhile_cons_of_pos ha,List.mem_cons] at h
   rcases h with rfl|h
   ·exact ha
   ·exact ih h
  ·rw [List.takeWhile_cons_of_neg ha] at h
   simp at h
theorem zst {N b off i:Nat} {v:Value} (hv:(ze2 W N M b off)[i]? = some v):∃ u,W.cell? ⟨b,off+i,none⟩=some u∧opnB W.heap.size M u=true∧v=img N M u:=by
 unfold ze2 at hv
 rw [List.getElem?_map,Option.map_eq_some_iff] at hv
 obtain ⟨u,hu,rfl⟩:=hv
 have hmem:=List.mem_of_getElem? hu
 have hp:=zAG hmem
 refine ⟨u,?_,hp,rfl⟩
 have hpre:((zgE W b).drop off).takeWhile (opnB W.heap.size M) <+: (zgE W b).drop off:=List.takeWhile_prefix _
 have h2:((zgE W b).drop off)[i]? = some u:=by
  obtain ⟨t,ht⟩:=hpre
  rw [← ht,List.getElem?_append_left (List.getElem?_eq_some_iff.1 hu).1]
  exact hu
 rw [List.getElem?_drop] at h2
 unfold zgE at h2
 unfold World.cell?
 split at h2
 ·rename_i c e fz hc
  simp only [hc]
  simpa using h2
 ·simp at h2
theorem zvO (hs:Sim ρ h W) (hfree:∀ A,h.size≤A→ρ A=none) (hro:∀ A L,ρ A=some L→isRo h A) (hM:0 < M):Sim (zb2 W h ρ M) (zb5 W h M) W:=by
 have hn:∀ A,h.size≤A∧A < h.size+W.heap.size*M→∃ b off,b < W.heap.size∧off < M∧A=h.size+(b*M+off):=by
  rintro A ⟨h1,h2⟩
  refine ⟨(A - h.size) / M,(A - h.size) % M,?_,Nat.mod_lt _ hM,?_⟩
  ·exact Nat.div_lt_of_lt_mul (by rw [Nat.mul_comm];omega)
  ·have:=Nat.div_add_mod (A - h.size) M
   rw [Nat.mul_comm] at this
   omega
 have old:∀ A L,zb2 W h ρ M A=some L→¬ (h.size≤A∧A < h.size+W.heap.size*M)→ρ A=some L:=by
  intro A L hA hc
  unfold zb2 at hA
  rwa [if_neg hc] at hA
 have lt:∀ A L,ρ A=some L→A < h.size:=by
  intro A L hA
  apply Nat.lt_of_not_le
  intro hh
  rw [hfree A hh] at hA
  cases hA
 have ro:∀ A L,zb2 W h ρ M A=some L→isRo (zb5 W h M) A:=by
  intro A L hA
  by_cases hc:h.size≤A∧A < h.size+W.heap.size*M
  ·obtain ⟨b,off,hb,ho,rfl⟩:=hn A hc
   exact ⟨_,_,zdL (zh3 hb ho)⟩
  ·have h1:=old A L hA hc
   obtain ⟨cs,e,hg⟩:=hro A L h1
   exact ⟨cs,e,(zfe (lt A L h1)).trans hg⟩
 constructor
 ·intro A L hA
  by_cases hc:h.size≤A∧A < h.size+W.heap.size*M
  ·obtain ⟨b,off,hb,ho,rfl⟩:=hn A hc
   rw [zff hb ho] at hA
   cases hA
   rw [zdL (zh3 hb ho),zkK ho,zkL ho]
   refine ⟨⟨hb,fun hh=>absurd hh (by decide)⟩,fun i v hv=>?_⟩
   obtain ⟨u,h1,h2,rfl⟩:=zst hv
   exact ⟨u,h1,zsw (Nat.lt_of_le_of_lt (Nat.zero_le _) hb) hM h2⟩
  ·have h1:=old A L hA hc
   rw [zfe (lt A L h1)]
   exact (hs.blk A L h1).keep (zmF hfree) (Nat.le_refl _) fun _=>rfl
 ·intro A A' L L' hA hA' hne hb
  exact .inr (.inr ⟨ro A L hA,ro A' L' hA'⟩)
end

def Shp (P:Program) (h:Heap):Nat→TypeId→List Value→Prop
 |0,_,_=>False
 |n+1,t,cs=>match P.underlying t with
  |some .bool=>∃ b,cs=[.bool b]
  |some (.int k)=>∃ i,cs=[.int k i]∧(Lit.int k i).wf=true
  |some .string=>∃ s:ByteArray,cs=[.string s]∧s.size≤maxLen
  |some (.slice e)=>cs=[.slice none 0 0]∨∃ A len cap row u,cs=[.slice (some ⟨A,0,none⟩) len cap]∧len≤cap∧cap≤maxLen∧A < h.size∧h.get A=some (.row row u true)∧len*P.cellsOf e≤row.length ∧
   ∀ i,i < len→Shp P h n e ((row.drop (i*P.cellsOf e)).take (P.cellsOf e))
  |some (.struct fs)=>cs.length=P.cellsOf t∧∀ (i:Nat) (f:Field),fs[i]? = some f→Shp P h n f.type ((cs.drop f.offset).take (P.cellsOf f.type))
  |some (.array m e)=>cs.length=P.cellsOf t∧∀ i,i < m→Shp P h n e ((cs.drop (i*P.cellsOf e)).take (P.cellsOf e))
  |_=>False
def zeZ (P:Program):Nat→TypeId→Bool
 |0,_=>false
 |n+1,t=>match P.underlying t with
  |some .bool|some (.int _)|some .string=>true
  |some (.slice e)=>decide (0 < P.cellsOf e) && zeZ P n e
  |some (.struct fs)=>(List.range (P.cellsOf t)).all (fun j=>fs.toList.any fun f=>decide (f.offset≤j∧j < f.offset+P.cellsOf f.type)) && fs.toList.all fun f=>zeZ P n f.type
  |some (.array m e)=>decide (P.cellsOf t=m*P.cellsOf e) && (decide (0 < P.cellsOf e) && zeZ P n e)
  |_=>false

section
variable {P:Program} {W:World} {h:Heap} {M:Nat} {H:Type} {enc:TypeId × Value→H}
def Wide (W:World) (M:Nat):Prop:=∀ b,b < W.heap.size→(zgE W b).length < M
theorem zkG {a:Addr} {u:Value} (hc:W.cell? a=some u):a.block < W.heap.size∧a.spot=none∧(zgE W a.block)[a.off]? = some u:=by
 unfold World.cell? at hc
 split at hc
 ·rename_i c e fz hb
  split at hc
  ·cases hc
  ·rename_i hs
   refine ⟨(Array.getElem?_eq_some_iff.1 hb).1,by simpa using hs,?_⟩
   simp only [zgE,hb]
   simpa using hc
 ·cases hc
theorem zss {N b off n:Nat} (hall:∀ i,i < n→∃ u,(zgE W b)[off+i]? = some u∧opnB W.heap.size M u=true) :
 n≤(ze2 W N M b off).length∧∀ i,i < n→(ze2 W N M b off)[i]? = ((zgE W b)[off+i]?).map (img N M):=by
 have key:∀ (l:List Value) (n:Nat),(∀ i,i < n→∃ u,l[i]? = some u∧opnB W.heap.size M u=true)→n≤(l.takeWhile (opnB W.heap.size M)).length∧∀ i,i < n→(l.takeWhile (opnB W.heap.size M))[i]? = l[i]? := by
  intro l
  induction l with
  |nil =>
   intro n hh
   cases n with
   |zero=>exact ⟨Nat.zero_le _,fun i hi=>absurd hi (Nat.not_lt_zero _)⟩
   |succ n=>obtain ⟨u,hu,_⟩:=hh 0 (by omega);simp at hu
  |cons x l ih =>
   intro n hh
   cases n with
   |zero=>exact ⟨Nat.zero_le _,fun i hi=>absurd hi (Nat.not_lt_zero _)⟩
   |succ n =>
    obtain ⟨u,hu,hb⟩:=hh 0 (by omega)
    simp at hu
    subst hu
    obtain ⟨h1,h2⟩:=ih n fun i hi=>by
     obtain ⟨u,hu,hb⟩:=hh (i+1) (by omega)
     exact ⟨u,by simpa using hu,hb⟩
    rw [List.takeWhile_cons_of_pos hb]
    refine ⟨by simpa using h1,fun i hi=>?_⟩
    cases i with
    |zero=>rfl
    |succ i=>simpa using h2 i (by omega)
 obtain ⟨h1,h2⟩:=key ((zgE W b).drop off) n fun i hi=>by
  obtain ⟨u,hu,hb⟩:=hall i hi
  exact ⟨u,by rw [List.getElem?_drop];exact hu,hb⟩
 unfold ze2
 refine ⟨by rw [List.length_map];exact h1,fun i hi=>?_⟩
 rw [List.getElem?_map,h2 i hi,List.getElem?_drop]
theorem zxo {α β:Type} (f:α→β) (l:List α) (a b:Nat):(((l.map f).drop a).take b)=((l.drop a).take b).map f:=by
 rw [List.map_take,List.map_drop]
theorem zqN (hS:0 < W.heap.size) (hMw:Wide W M):∀ (n:Nat) (t:TypeId) (cs:List Value) (fuel:Nat) (x:DataW H × List MemPlace),zeZ P n t=true→DataW.trod enc P W 0 (fun _=>true) true fuel t cs=some x →
 (∀ u∈cs,opnB W.heap.size M u=true)∧Shp P (zb5 W h M) n t (cs.map (img h.size M)):=by
 intro n
 induction n with
 |zero=>intro t cs fuel x hc;simp [zeZ] at hc
 |succ n ih =>
  intro t cs fuel x hc hx
  have hM:0 < M:=Nat.lt_of_le_of_lt (Nat.zero_le _) (hMw 0 hS)
  unfold zeZ at hc
  unfold Shp
  cases hu:P.underlying t with
  |none=>rw [hu] at hc;cases hc
  |some d =>
   rw [hu] at hc
   cases d with
   |bool =>
    obtain ⟨b,rfl,_⟩:=DataW.trod_bool hu hx
    exact ⟨by simp [opnB],b,rfl⟩
   |int k =>
    obtain ⟨i,rfl,_,hw⟩:=DataW.trod_int hu hx
    exact ⟨by simp [opnB],i,rfl,hw⟩
   |string =>
    obtain ⟨s,rfl,_,hw⟩:=DataW.trod_string hu hx
    exact ⟨by simp [opnB],s,rfl,hw⟩
   |slice e =>
    simp only [Bool.and_eq_true,decide_eq_true_eq] at hc
    rcases DataW.trod_slice hu hx with ⟨rfl,_⟩|⟨a,len,cap,elems,rest,m,_,rfl,_,_,hle,hcap,hel,hread,hspare,_⟩
    ·exact ⟨by simp [opnB],.inl rfl⟩
    ·obtain ⟨hrl,hrest⟩:=hspare rfl
     -- each cell up to the capacity
     have hall:∀ i,i < cap→∃ cs' y,W.cells? 0 (a.add (i*P.cellsOf e)) (P.cellsOf e)=some cs'∧DataW.trod enc P W 0 (fun _=>true) true m e cs'=some y:=by
      intro i hi
      by_cases hil:i < len
      ·have h1:=hread i hil
       have h2:i < elems.length:=by omega
       rw [List.getElem?_eq_getElem h2,Option.bind_eq_some_iff] at h1
       obtain ⟨cs',h3,h4⟩:=h1
       exact ⟨cs',_,h3,h4⟩
      ·have h1:=hrest (i - len) (by omega)
       have h2:i - len < rest.length:=by omega
       rw [List.getElem?_eq_getElem h2,Option.bind_eq_some_iff,show len+(i - len)=i by omega] at h1
       obtain ⟨cs',h3,h4⟩:=h1
       exact ⟨cs',_,h3,h4⟩
     by_cases hc0:cap=0
     ·subst hc0
      have hl0:len=0:=by omega
      subst hl0
      refine ⟨by simp [opnB,G],.inr ⟨h.size,0,0,_,_,rfl,Nat.le_refl _,Nat.zero_le _,?_,zdL (h:=h) (i:=0) (Nat.mul_pos hS hM),by simp,fun i hi=>absurd hi (Nat.not_lt_zero _)⟩⟩
      rw [zcB];have:=Nat.mul_pos hS hM;omega
     ·have hcell:∀ i,i < cap→∀ j,j < P.cellsOf e→∃ u,(zgE W a.block)[a.off+(i*P.cellsOf e+j)]? = some u∧a.block < W.heap.size∧a.spot=none∧opnB W.heap.size M u=true:=by
       intro i hi j hj
       obtain ⟨cs',y,h1,h2⟩:=hall i hi
       obtain ⟨_,h3,h4⟩:=World.cells?_some h1
       have h5:=h4 j hj
       have h6:j < cs'.length:=by omega
       rw [List.getElem?_eq_getElem h6] at h5
       obtain ⟨h7,h8,h9⟩:=zkG h5
       have e1:((a.add (i*P.cellsOf e)).add j).block=a.block:=by unfold Addr.add;split <;> split <;> rfl
       have e2:((a.add (i*P.cellsOf e)).add j).off=a.off+(i*P.cellsOf e+j):=by unfold Addr.add;split <;> split <;> simp_all;omega
       rw [e1,e2] at h9
       rw [e1] at h7
       refine ⟨_,h9,h7,?_,(ih e cs' m y hc.2 h2).1 _ (List.getElem_mem h6)⟩
       obtain ⟨cs0,y0,g1,_⟩:=hall 0 (by omega)
       obtain ⟨_,g3,g4⟩:=World.cells?_some g1
       have g5:=g4 0 hc.1
       have g6:0 < cs0.length:=by omega
       rw [List.getElem?_eq_getElem g6] at g5
       have g8:=(zkG g5).2.1
       simpa [Addr.add] using g8
      obtain ⟨u0,hu0,hb,hsp,_⟩:=hcell 0 (by omega) 0 hc.1
      have hoff:a.off < M:=by
       have:=(List.getElem?_eq_some_iff.1 hu0).1
       have:=hMw _ hb
       omega
      have hG:cap < G:=by unfold G;unfold maxLen at hcap;omega
      refine ⟨?_,.inr ⟨h.size+(a.block*M+a.off),len,cap,_,_,?_,hle,hcap,?_,zdL (zh3 hb hoff),?_,?_⟩⟩
      ·intro u hu'
       simp only [List.mem_singleton] at hu'
       subst hu'
       simp [opnB,hle,hG,hb,hsp,hoff]
      ·simp [img,hc0]
      ·rw [zcB];have:=zh3 (W:=W) hb hoff;omega
      all_goals rw [zkK hoff,zkL hoff]
      all_goals
       have hfr:=zss (N:=h.size) (M:=M) (W:=W) (b:=a.block) (off:=a.off) (n:=cap*P.cellsOf e) (fun i hi=>by
        have hk:=hc.1
        obtain ⟨u,h1,_,_,h2⟩:=hcell (i / P.cellsOf e) (Nat.div_lt_of_lt_mul (by rw [Nat.mul_comm];exact hi)) (i % P.cellsOf e) (Nat.mod_lt _ hk)
        refine ⟨u,?_,h2⟩
        rw [← h1,Nat.mul_comm,Nat.div_add_mod])
      ·exact Nat.le_trans (Nat.mul_le_mul_right _ hle) hfr.1
      ·intro i hi
       obtain ⟨cs',y,h1,h2⟩:=hall i (by omega)
       have h3:=(ih e cs' m y hc.2 h2).2
       have h4:((ze2 W h.size M a.block a.off).drop (i*P.cellsOf e)).take (P.cellsOf e)=cs'.map (img h.size M):=by
        obtain ⟨_,g2,g3⟩:=World.cells?_some h1
        have hin:(i+1)*P.cellsOf e≤cap*P.cellsOf e:=Nat.mul_le_mul_right _ (by omega)
        rw [Nat.succ_mul] at hin
        apply List.ext_getElem?
        intro j
        by_cases hj:j < P.cellsOf e
        ·rw [List.getElem?_take_of_lt hj,List.getElem?_drop,hfr.2 _ (by omega),List.getElem?_map]
         congr 1
         have h5:=g3 j hj
         have h6:j < cs'.length:=by omega
         rw [List.getElem?_eq_getElem h6] at h5 ⊢
         obtain ⟨h7,h8,h9⟩:=zkG h5
         have e1:((a.add (i*P.cellsOf e)).add j).block=a.block:=by unfold Addr.add;split <;> split <;> rfl
         have e2:((a.add (i*P.cellsOf e)).add j).off=a.off+(i*P.cellsOf e+j):=by unfold Addr.add;split <;> split <;> simp_all;omega
         rw [e1,e2] at h9
         exact h9
        ·rw [List.getElem?_eq_none (by simp;omega),List.getElem?_eq_none (by simp;omega)]
       rw [h4]
       exact h3
   |struct fs =>
    simp only [Bool.and_eq_true,List.all_eq_true,List.any_eq_true,decide_eq_true_eq,List.mem_range] at hc
    obtain ⟨xs,m,_,_,hl,hxl,hf⟩:=DataW.trod_struct hu hx
    have hfield:∀ (i:Nat) (f:Field),fs[i]? = some f→∃ y,DataW.trod enc P W 0 (fun _=>true) true m f.type ((cs.drop f.offset).take (P.cellsOf f.type))=some y:=by
     intro i f hfi
     have hi:=(Array.getElem?_eq_some_iff.1 hfi).1
     have:=hf i f hfi
     rw [List.getElem?_eq_getElem (by omega)] at this
     exact ⟨_,this⟩
    refine ⟨?_,by rw [List.length_map];exact hl,?_⟩
    ·intro u hu'
     obtain ⟨j,hj,rfl⟩:=List.getElem_of_mem hu'
     obtain ⟨f,hfm,h1,h2⟩:=hc.1 j (by omega)
     obtain ⟨i,hi⟩:=List.getElem?_of_mem hfm
     have hi':fs[i]? = some f:=by simpa using hi
     obtain ⟨y,hy⟩:=hfield i f hi'
     refine (ih f.type _ m y (hc.2 f hfm) hy).1 _ ?_
     refine List.mem_of_getElem? (i:=j - f.offset) ?_
     rw [List.getElem?_take_of_lt (by omega),List.getElem?_drop,show f.offset+(j - f.offset)=j by omega,List.getElem?_eq_getElem hj]
    ·intro i f hfi
     obtain ⟨y,hy⟩:=hfield i f hfi
     rw [zxo]
     exact (ih f.type _ m y (hc.2 f (by simpa using Array.mem_of_getElem? hfi)) hy).2
   |array m e =>
    simp only [Bool.and_eq_true,decide_eq_true_eq] at hc
    obtain ⟨xs,fu,_,_,hl,hxl,hf⟩:=DataW.trod_array hu hx
    have hfield:∀ i,i < m→∃ y,DataW.trod enc P W 0 (fun _=>true) true fu e ((cs.drop (i*P.cellsOf e)).take (P.cellsOf e))=some y:=by
     intro i hi
     have:=hf i hi
     rw [List.getElem?_eq_getElem (by omega)] at this
     exact ⟨_,this⟩
    refine ⟨?_,by rw [List.length_map];exact hl,?_⟩
    ·intro u hu'
     obtain ⟨j,hj,rfl⟩:=List.getElem_of_mem hu'
     have hjm:j / P.cellsOf e < m:=Nat.div_lt_of_lt_mul (by rw [Nat.mul_comm];omega)
     obtain ⟨y,hy⟩:=hfield _ hjm
     refine (ih e _ fu y hc.2.2 hy).1 _ ?_
     refine List.mem_of_getElem? (i:=j % P.cellsOf e) ?_
     rw [List.getElem?_take_of_lt (Nat.mod_lt _ hc.2.1),List.getElem?_drop,Nat.mul_comm,Nat.div_add_mod,List.getElem?_eq_getElem hj]
    ·intro i hi
     obtain ⟨y,hy⟩:=hfield i hi
     rw [zxo]
     exact (ih e _ fu y hc.2.2 hy).2
   |_=>simp at hc
end
end Go.Am
namespace Go.Am
open Go.RowKit Go.ChangeShapes Go.WideShapes Go.ChangeAt
section
variable {P:Program} {T:Tab} {ov:Ov} {W:World} {H:Type} {enc:TypeId × Value→H}
theorem zo1 (W:World):∃ M,Wide W M:=by
 have key:∀ n,∃ M,∀ b,b < n→(zgE W b).length < M:=by
  intro n
  induction n with
  |zero=>exact ⟨0,fun b hb=>absurd hb (Nat.not_lt_zero _)⟩
  |succ n ih =>
   obtain ⟨M,hM⟩:=ih
   refine ⟨max M ((zgE W n).length+1),fun b hb=>?_⟩
   by_cases h:b < n
   ·have:=hM b h;omega
   ·have:b=n:=by omega
    subst this;omega
 exact key W.heap.size
theorem zpU (hmix:P.follows .mixedOrders=true) (hT:T.Fits P) (hov:OvS P T.gs ov) {f:FuncId} {h:Heap} {ρ:Rho} (hf:ov f=none) {args:List Value} {cargs:Array Value}
 (hG:GlobOk T.gs ρ) (hs:Sim ρ h W) (hfree:∀ A,h.size≤A→ρ A=none) (hl:h.low=h.size) (hv:VRs ρ args cargs.toList) (hok:Ok P T ov f args h fun v h'=>v=.bool true∧Ext h h') :
 Calls P f cargs W fun e w'=>e=.returned (.bool true)∧Below W.heap.size W w':=by
 obtain ⟨n,v,h',hrun,rfl,hx⟩:=hok
 have hcs:=(zgT hmix hT hov n).fn f args h (.bool true) h' hrun ρ W cargs hG hs (fun A h1 _=>hfree A h1) hv
 rcases hcs with ⟨ρ',u,w',h1,_⟩|⟨_,h1⟩
 ·exfalso
  cases n with
  |zero=>simp [call] at hrun
  |succ n =>
   simp only [call,hf,Option.bind_eq_some_iff] at hrun
   obtain ⟨fn,hfn,c,hc,_⟩:=hrun
   obtain ⟨hP,hname,_⟩:=hT.fn f fn hfn
   have hname':¬ fn.name="runtime.NumGoroutine":=by simpa using hname
   simp [callFunc,hP,hname',hc] at h1
 ·refine h1.mono ?_
  rintro e w' ⟨ρ',u,rfl,f1,s1,hv⟩
  refine ⟨?_,f1.below fun A L hA=>?_⟩
  ·rw [hv.eq_plain rfl]
  ·have h2:A < h.size:=by
    apply Nat.lt_of_not_le
    intro hh
    rw [hfree A hh] at hA
    cases hA
   have:=hx.low
   omega

def zjL (P:Program) (h:Heap) (n:Nat) (t:TypeId) (v:Value):Prop:=match P.underlying t with
 |some (.struct _)|some (.array _ _)=>∃ cs,v=.agg ⟨cs⟩∧Shp P h n t cs
 |_=>Shp P h n t [v]
def zdR (P:Program) (h:Heap) (n:Nat):List TypeId→List Value→Prop
 | [],[]=>True
 |t::ts,v::vs=>zjL P h n t v∧zdR P h n ts vs
 |_,_=>False
def imgV (N M:Nat):Value→Value
 | .agg cs=>.agg ⟨cs.toList.map (img N M)⟩
 |v=>img N M v

theorem zxT {ρ:Rho} {h:Heap} {M:Nat} (hS:0 < W.heap.size) (hM:0 < M) {cs:List Value} (hc:∀ u∈cs,opnB W.heap.size M u=true):VRs (zb2 W h ρ M) (cs.map (img h.size M)) cs:=by
 refine ⟨by simp,fun i x y hx hy=>?_⟩
 rw [List.getElem?_map,hy] at hx
 cases hx
 exact zsw hS hM (hc y (List.mem_of_getElem? hy))

theorem zvM {h:Heap} {ρ:Rho} {M n base:Nat} {t:TypeId} {v:Value} {d:DataW H} {ps:List MemPlace} (hS:0 < W.heap.size) (hMw:Wide W M) (hc:zeZ P n t=true) (hval:Value.okWide P W .any base t v) (ht:DataW.Trod enc P W 0 (fun _=>true) true t v d ps) :
 VR (zb2 W h ρ M) (imgV h.size M v) v∧zjL P (zb5 W h M) n t (imgV h.size M v):=by
 have hM:0 < M:=Nat.lt_of_le_of_lt (Nat.zero_le _) (hMw 0 hS)
 obtain ⟨fuel,ht⟩:=ht
 obtain ⟨h1,h2⟩:=zqN (h:=h) hS hMw n t _ fuel _ hc ht
 have agg:∀ cs,v=.agg cs→VR (zb2 W h ρ M) (imgV h.size M v) v∧imgV h.size M v=.agg ⟨v.cells.toList.map (img h.size M)⟩:=by
  rintro cs rfl
  refine ⟨?_,rfl⟩
  have:=zxT (ρ:=ρ) (h:=h) hS hM h1
  have:=this.toArray
  simpa [imgV,Value.cells] using this
 have one:v.cells=#[v]→VR (zb2 W h ρ M) (imgV h.size M v) v∧v.cells.toList.map (img h.size M)=[imgV h.size M v]:=by
  intro hv
  rw [hv] at h1 ⊢
  have hb:=h1 v (by simp)
  have hi:imgV h.size M v=img h.size M v:=by
   cases v with
   |agg cs=>simp [opnB] at hb
   |_=>rfl
  rw [hi]
  exact ⟨zsw hS hM hb,rfl⟩
 unfold zjL
 unfold Value.okWide at hval
 cases n with
 |zero=>simp [zeZ] at hc
 |succ n =>
  simp only [zeZ] at hc
  cases hu:P.underlying t with
  |none=>rw [hu] at hc;simp at hc
  |some dd =>
   rw [hu] at hc hval
   cases dd with
   |struct fs =>
    obtain ⟨cs,hv,_⟩:=hval
    obtain ⟨a1,a2⟩:=agg cs hv
    exact ⟨a1,_,a2,h2⟩
   |array m e =>
    obtain ⟨cs,hv,_⟩:=hval
    obtain ⟨a1,a2⟩:=agg cs hv
    exact ⟨a1,_,a2,h2⟩
   |bool =>
    simp only [Cell.okWide,Cell.ok,hu] at hval
    cases v <;> simp at hval
    obtain ⟨a1,a2⟩:=one rfl
    exact ⟨a1,by rw [← a2];exact h2⟩
   |int k =>
    simp only [Cell.okWide,Cell.ok,hu] at hval
    cases v <;> simp at hval
    obtain ⟨a1,a2⟩:=one rfl
    exact ⟨a1,by rw [← a2];exact h2⟩
   |string =>
    simp only [Cell.okWide,Cell.ok,hu] at hval
    cases v <;> simp at hval
    obtain ⟨a1,a2⟩:=one rfl
    exact ⟨a1,by rw [← a2];exact h2⟩
   |slice e =>
    simp only [Cell.okWide,Cell.ok,hu] at hval
    cases v <;> simp at hval
    obtain ⟨a1,a2⟩:=one rfl
    exact ⟨a1,by rw [← a2];exact h2⟩
   |_=>simp at hc

theorem zmG {h:Heap} {ρ:Rho} {M n base:Nat} (hS:0 < W.heap.size) (hMw:Wide W M):∀ (ts:List TypeId) (vs:List Value) (ds:List (DataW H)) (ps:List MemPlace),ts.all (zeZ P n)=true →
 (∀ (j:Nat) t v,ts[j]? = some t→vs[j]? = some v→Value.okWide P W .any base t v)→DataW.TrodAll enc P W 0 (fun _=>true) true ts vs ds ps →
 VRs (zb2 W h ρ M) (vs.map (imgV h.size M)) vs∧zdR P (zb5 W h M) n ts (vs.map (imgV h.size M))
 | [],[],[],_,_,_,_=>⟨.nil _,trivial⟩
 |t::ts,v::vs,d::ds,ps,hc,hval,ht=>by
  simp only [List.all_cons,Bool.and_eq_true] at hc
  obtain ⟨p,q,h1,h2,_⟩:=ht
  obtain ⟨a1,a2⟩:=zvM (h:=h) (ρ:=ρ) hS hMw hc.1 (hval 0 t v rfl rfl) h1
  obtain ⟨b1,b2⟩:=zmG (h:=h) (ρ:=ρ) hS hMw ts vs ds q hc.2 (fun j t v h3 h4=>hval (j+1) t v (by simpa using h3) (by simpa using h4)) h2
  exact ⟨.cons a1 b1,a2,b2⟩
 | [],[],_::_,_,_,_,ht=>ht.elim
 | [],_::_,_,_,_,_,ht=>by cases ht
 |_::_,[],_,_,_,_,ht=>by cases ht
 |_::_,_::_,[],_,_,_,ht=>by cases ht

theorem zgK (hl:laidOutB P=true) {W W':World} (hb:Below W.heap.size W W') (sp:Nat→Bool):∀ (ts:List TypeId) (vs:List Value) (ds:List (DataW H)) (ps:List MemPlace),ts.all (fun t=>P.readableRec t && decide (t < P.types.size))=true →
 (∀ x∈ps,x.block < W.heap.size)→(∀ x∈ps,sp x.block=true)→DataW.TrodAll enc P W 0 (fun _=>true) true ts vs ds ps→DataW.TrodAll enc P W' 0 sp true ts vs ds ps
 | [],[],[],_,_,_,_,h=>h
 |t::ts,v::vs,d::ds,ps,hr,hlt,hsp,h=>by
  simp only [List.all_cons,Bool.and_eq_true,decide_eq_true_eq] at hr
  obtain ⟨p,q,h1,h2,rfl⟩:=h
  exact ⟨p,q,WideElems.Trod_stays hl hr.1.1 hr.1.2 h1 (fun x hx=>hb.same (hlt x (by simp [hx]))) (fun x hx=>hsp x (by simp [hx])),
   zgK hl hb sp ts vs ds q hr.2 (fun x hx=>hlt x (by simp [hx])) (fun x hx=>hsp x (by simp [hx])) h2,rfl⟩
 | [],[],_::_,_,_,_,_,h=>h.elim
 | [],_::_,_,_,_,_,_,h=>by cases h
 |_::_,[],_,_,_,_,_,h=>by cases h
 |_::_,_::_,[],_,_,_,_,h=>by cases h

end
end Go.Am
