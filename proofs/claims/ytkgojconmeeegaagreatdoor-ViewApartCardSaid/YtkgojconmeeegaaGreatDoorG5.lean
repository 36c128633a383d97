/- Arguments of any plain type laid in the plain heap: each block of the world, from each place on, is a row that is read alone. No condition. -/
import Derived.Test.YtkgojconmeeegaaGreatDoorG4
import Derived.OpenShut
import Derived.HandedShaped
import Derived.WideKeyArgs
namespace Go.Am
open Go.RowKit Go.ChangeShapes Go.WideShapes Go.ChangeAt

def gM (S M:Nat):Value→Bool
 | .bool _ | .int _ _ | .string _=>true
 | .slice none n c=>n == 0 && c == 0
 | .slice (some a) n c=>decide (n≤c) && (decide (c < G) && (c == 0 || (decide (a.block < S) && (a.spot.isNone && decide (a.off < M)))))
 |_=>false
def sU (N M:Nat):Value→Value
 | .slice (some a) n c=>if c=0 then .slice (some ⟨N,0,none⟩) n c else .slice (some ⟨N+(a.block*M+a.off),0,none⟩) n c
 |v=>v
def tq (W:World) (b:Nat):List Value:=match W.heap[b]? with
 |some (.cells c _ _)=>c.toList
 |_=>[]
def Et (W:World) (N M:Nat) (b off:Nat):List Value:=(((tq W b).drop off).takeWhile (gM W.heap.size M)).map (sU N M)
def XG (W:World) (N M:Nat):List bh:=(List.range (W.heap.size*M)).map fun i=>.row (Et W N M (i / M) (i % M)) 0 true
def uH (W:World) (h:Heap) (M:Nat):Heap:=h.lay (XG W h.size M) (h.size+W.heap.size*M)
def qU (W:World) (h:Heap) (ρ:cE) (M:Nat):cE:=fun A=>if h.size≤A∧A < h.size+W.heap.size*M then some ⟨(A - h.size) / M,(A - h.size) % M,0⟩ else ρ A

section
variable {P:Program} {W:World} {h:Heap} {ρ:cE} {M:Nat}
theorem zlT (N:Nat):(XG W N M).length=W.heap.size*M:=by simp [XG]
theorem Rb:(uH W h M).size=h.size+W.heap.size*M:=by unfold uH;rw [bm,zlT]
theorem WU {i:Nat} (hi:i < W.heap.size*M):(uH W h M).get (h.size+i)=some (.row (Et W h.size M (i / M) (i % M)) 0 true):=by
 unfold uH
 rw [iR]
 simp [XG,hi]
theorem Ia {A:Nat} (hA:A < h.size):(uH W h M).get A=h.get A:=Ek _ _ _ hA
theorem RW {b off:Nat} (hb:b < W.heap.size) (ho:off < M):b*M+off < W.heap.size*M:=by
 calc b*M+off < b*M+M:=by omega
  _=(b+1)*M:=by rw [Nat.succ_mul]
  _≤W.heap.size*M:=Nat.mul_le_mul_right _ hb
theorem Ue {b off:Nat} (ho:off < M):(b*M+off) / M=b:=by
 rw [Nat.mul_comm,Nat.mul_add_div (by omega),Nat.div_eq_of_lt ho,Nat.add_zero]
theorem Uf {b off:Nat} (ho:off < M):(b*M+off) % M=off:=by
 rw [Nat.mul_comm,Nat.mul_add_mod,Nat.mod_eq_of_lt ho]
theorem Ie {b off:Nat} (hb:b < W.heap.size) (ho:off < M):qU W h ρ M (h.size+(b*M+off))=some ⟨b,off,0⟩:=by
 have h1:=RW (W:=W) hb ho
 unfold qU
 rw [if_pos ⟨by omega,by omega⟩,Nat.add_sub_cancel_left,Ue ho,Uf ho]
theorem zoA (bN:∀ A,h.size≤A→ρ A=none) (A:Nat) (L:Loc) (hA:ρ A=some L):qU W h ρ M A=some L:=by
 unfold qU
 rw [if_neg]
 ·exact hA
 ·rintro ⟨h1,_⟩
  rw [bN A h1] at hA
  cases hA
theorem U7 (hS:0 < W.heap.size) (hM:0 < M) {u:Value} (hu:gM W.heap.size M u=true):VR (qU W h ρ M) (sU h.size M u) u:=by
 cases u with
 |bool b=>exact .bool b
 |int k n=>exact .int k n
 |string s=>exact .string s
 |slice a n c =>
  cases a with
  |none =>
   simp [gM] at hu
   obtain ⟨rfl,rfl⟩:=hu
   exact .dt
  |some a =>
   simp only [gM,Bool.and_eq_true,decide_eq_true_eq,Bool.or_eq_true,beq_iff_eq] at hu
   obtain ⟨h1,h2,h3⟩:=hu
   by_cases hc:c=0
   ·subst hc
    have hr:qU W h ρ M h.size=some ⟨0,0,0⟩:=by
     have:=Ie (h:=h) (ρ:=ρ) hS hM
     simpa using this
    exact VR.slice (L:=⟨0,0,0⟩) hr h2 h1 (fun hh=>absurd rfl hh)
   ·rcases h3 with h3|⟨h3,h4,h5⟩
    ·exact absurd h3 hc
    ·simp only [sU,if_neg hc]
     refine VR.slice (Ie h3 h5) h2 h1 (fun _=>?_)
     obtain ⟨b,o,s⟩:=a
     simp at h4
     subst h4
     simp
 |_=>simp [gM] at hu
theorem zHV {α:Type} {p:α→Bool} {l:List α} {x:α} (h:x∈l.takeWhile p):p x=true:=by
 induction l with
 |nil=>simp at h
 |cons a l ih =>
  by_cases ha:p a=true
  ·rw [List.takeWhile_cons_of_pos ha,List.mem_cons] at h
   rcases h with rfl|h
   ·exact ha
   ·exact ih h
  ·rw [List.takeWhile_cons_of_neg ha] at h
   simp at h
theorem zvi {N b off i:Nat} {v:Value} (hv:(Et W N M b off)[i]? = some v):∃ u,W.cell? ⟨b,off+i,none⟩=some u∧gM W.heap.size M u=true∧v=sU N M u:=by
 unfold Et at hv
 rw [List.getElem?_map,Option.map_eq_some_iff] at hv
 obtain ⟨u,hu,rfl⟩:=hv
 have cd:=List.mem_of_getElem? hu
 have hp:=zHV cd
 refine ⟨u,?_,hp,rfl⟩
 have mQ:((tq W b).drop off).takeWhile (gM W.heap.size M) <+: (tq W b).drop off:=List.takeWhile_prefix _
 have h2:((tq W b).drop off)[i]? = some u:=by
  obtain ⟨t,ht⟩:=mQ
  rw [← ht,List.getElem?_append_left (List.getElem?_eq_some_iff.1 hu).1]
  exact hu
 rw [List.getElem?_drop] at h2
 unfold tq at h2
 unfold World.cell?
 split at h2
 ·rename_i c e fz hc
  simp only [hc]
  simpa using h2
 ·simp at h2
theorem zzJ (hs:bP ρ h W) (bN:∀ A,h.size≤A→ρ A=none) (sO:∀ A L,ρ A=some L→mT h A) (hM:0 < M):bP (qU W h ρ M) (uH W h M) W:=by
 have hn:∀ A,h.size≤A∧A < h.size+W.heap.size*M→∃ b off,b < W.heap.size∧off < M∧A=h.size+(b*M+off):=by
  rintro A ⟨h1,h2⟩
  refine ⟨(A - h.size) / M,(A - h.size) % M,?_,Nat.mod_lt _ hM,?_⟩
  ·exact Nat.div_lt_of_lt_mul (by rw [Nat.mul_comm];omega)
  ·have:=Nat.div_add_mod (A - h.size) M
   rw [Nat.mul_comm] at this
   omega
 have eJ:∀ A L,qU W h ρ M A=some L→¬ (h.size≤A∧A < h.size+W.heap.size*M)→ρ A=some L:=by
  intro A L hA hc
  unfold qU at hA
  rwa [if_neg hc] at hA
 have lt:∀ A L,ρ A=some L→A < h.size:=by
  intro A L hA
  apply Nat.lt_of_not_le
  intro hh
  rw [bN A hh] at hA
  cases hA
 have ro:∀ A L,qU W h ρ M A=some L→mT (uH W h M) A:=by
  intro A L hA
  by_cases hc:h.size≤A∧A < h.size+W.heap.size*M
  ·obtain ⟨b,off,hb,ho,rfl⟩:=hn A hc
   exact ⟨_,_,WU (RW hb ho)⟩
  ·have h1:=eJ A L hA hc
   obtain ⟨cs,e,hg⟩:=sO A L h1
   exact ⟨cs,e,(Ia (lt A L h1)).trans hg⟩
 constructor
 ·intro A L hA
  by_cases hc:h.size≤A∧A < h.size+W.heap.size*M
  ·obtain ⟨b,off,hb,ho,rfl⟩:=hn A hc
   rw [Ie hb ho] at hA
   cases hA
   rw [WU (RW hb ho),Ue ho,Uf ho]
   refine ⟨⟨hb,fun hh=>absurd hh (by decide)⟩,fun i v hv=>?_⟩
   obtain ⟨u,h1,h2,rfl⟩:=zvi hv
   exact ⟨u,h1,U7 (Nat.lt_of_le_of_lt (Nat.zero_le _) hb) hM h2⟩
  ·have h1:=eJ A L hA hc
   rw [Ia (lt A L h1)]
   exact (hs.fG A L h1).keep (zoA bN) (Nat.le_refl _) fun _=>rfl
 ·intro A A' L L' hA ei aP hb
  exact .inr (.inr ⟨ro A L hA,ro A' L' ei⟩)
end

def ep (P:Program) (h:Heap):Nat→TypeId→List Value→Prop
 |0,_,_=>False
 |n+1,t,cs=>match P.underlying t with
  |some .bool=>∃ b,cs=[.bool b]
  |some (.int k)=>∃ i,cs=[.int k i]∧(Lit.int k i).wf=true
  |some .string=>∃ s:ByteArray,cs=[.string s]∧s.size≤maxLen
  |some (.slice e)=>cs=[.slice none 0 0]∨∃ A len cap row u,cs=[.slice (some ⟨A,0,none⟩) len cap]∧len≤cap∧cap≤maxLen∧A < h.size∧h.get A=some (.row row u true)∧len*P.cellsOf e≤row.length ∧
   ∀ i,i < len→ep P h n e ((row.drop (i*P.cellsOf e)).take (P.cellsOf e))
  |some (.struct fs)=>cs.length=P.cellsOf t∧∀ (i:Nat) (f:Field),fs[i]? = some f→ep P h n f.type ((cs.drop f.offset).take (P.cellsOf f.type))
  |some (.array m e)=>cs.length=P.cellsOf t∧∀ i,i < m→ep P h n e ((cs.drop (i*P.cellsOf e)).take (P.cellsOf e))
  |_=>False
def yc (P:Program):Nat→TypeId→Bool
 |0,_=>false
 |n+1,t=>match P.underlying t with
  |some .bool|some (.int _)|some .string=>true
  |some (.slice e)=>decide (0 < P.cellsOf e) && yc P n e
  |some (.struct fs)=>(List.range (P.cellsOf t)).all (fun j=>fs.toList.any fun f=>decide (f.offset≤j∧j < f.offset+P.cellsOf f.type)) && fs.toList.all fun f=>yc P n f.type
  |some (.array m e)=>decide (P.cellsOf t=m*P.cellsOf e) && (decide (0 < P.cellsOf e) && yc P n e)
  |_=>false

section
variable {P:Program} {W:World} {h:Heap} {M:Nat} {H:Type} {enc:TypeId × Value→H}
def zo (W:World) (M:Nat):Prop:=∀ b,b < W.heap.size→(tq W b).length < M
theorem Um {a:Addr} {u:Value} (hc:W.cell? a=some u):a.block < W.heap.size∧a.spot=none∧(tq W a.block)[a.off]? = some u:=by
 unfold World.cell? at hc
 split at hc
 ·rename_i c e fz hb
  split at hc
  ·cases hc
  ·rename_i hs
   refine ⟨(Array.getElem?_eq_some_iff.1 hb).1,by simpa using hs,?_⟩
   simp only [tq,hb]
   simpa using hc
 ·cases hc
theorem zvh {N b off n:Nat} (aB:∀ i,i < n→∃ u,(tq W b)[off+i]? = some u∧gM W.heap.size M u=true) :
 n≤(Et W N M b off).length∧∀ i,i < n→(Et W N M b off)[i]? = ((tq W b)[off+i]?).map (sU N M):=by
 have key:∀ (l:List Value) (n:Nat),(∀ i,i < n→∃ u,l[i]? = some u∧gM W.heap.size M u=true)→n≤(l.takeWhile (gM W.heap.size M)).length∧∀ i,i < n→(l.takeWhile (gM W.heap.size M))[i]? = l[i]? := by
  intro l
  induction l with
  |nil =>
   intro n hh
   cases n with
   |zero=>exact ⟨Nat.zero_le _,fun i hi=>absurd hi (Nat.not_lt_zero _)⟩
   |succ n=>obtain ⟨u,hu,_⟩:=hh 0 (by omega);simp at hu
  |cons x l ih =>
   intro n hh
   cases n with
   |zero=>exact ⟨Nat.zero_le _,fun i hi=>absurd hi (Nat.not_lt_zero _)⟩
   |succ n =>
    obtain ⟨u,hu,hb⟩:=hh 0 (by omega)
    simp at hu
    subst hu
    obtain ⟨h1,h2⟩:=ih n fun i hi=>by
     obtain ⟨u,hu,hb⟩:=hh (i+1) (by omega)
     exact ⟨u,by simpa using hu,hb⟩
    rw [List.takeWhile_cons_of_pos hb]
    refine ⟨by simpa using h1,fun i hi=>?_⟩
    cases i with
    |zero=>rfl
    |succ i=>simpa using h2 i (by omega)
 obtain ⟨h1,h2⟩:=key ((tq W b).drop off) n fun i hi=>by
  obtain ⟨u,hu,hb⟩:=aB i hi
  exact ⟨u,by rw [List.getElem?_drop];exact hu,hb⟩
 unfold Et
 refine ⟨by rw [List.length_map];exact h1,fun i hi=>?_⟩
 rw [List.getElem?_map,h2 i hi,List.getElem?_drop]
theorem Ji {α β:Type} (f:α→β) (l:List α) (a b:Nat):(((l.map f).drop a).take b)=((l.drop a).take b).map f:=by
 rw [List.map_take,List.map_drop]
theorem ztq (hS:0 < W.heap.size) (wy:zo W M):∀ (n:Nat) (t:TypeId) (cs:List Value) (fuel:Nat) (x:DataW H × List MemPlace),yc P n t=true→DataW.trod enc P W 0 (fun _=>true) true fuel t cs=some x →
 (∀ u∈cs,gM W.heap.size M u=true)∧ep P (uH W h M) n t (cs.map (sU h.size M)):=by
 intro n
 induction n with
 |zero=>intro t cs fuel x hc;simp [yc] at hc
 |succ n ih =>
  intro t cs fuel x hc hx
  have hM:0 < M:=Nat.lt_of_le_of_lt (Nat.zero_le _) (wy 0 hS)
  unfold yc at hc
  unfold ep
  cases hu:P.underlying t with
  |none=>rw [hu] at hc;cases hc
  |some d =>
   rw [hu] at hc
   cases d with
   |bool =>
    obtain ⟨b,rfl,_⟩:=DataW.trod_bool hu hx
    exact ⟨by simp [gM],b,rfl⟩
   |int k =>
    obtain ⟨i,rfl,_,hw⟩:=DataW.trod_int hu hx
    exact ⟨by simp [gM],i,rfl,hw⟩
   |string =>
    obtain ⟨s,rfl,_,hw⟩:=DataW.trod_string hu hx
    exact ⟨by simp [gM],s,rfl,hw⟩
   |slice e =>
    simp only [Bool.and_eq_true,decide_eq_true_eq] at hc
    rcases DataW.trod_slice hu hx with ⟨rfl,_⟩|⟨a,len,cap,elems,rest,m,_,rfl,_,_,hle,oX,vh,od,GN,_⟩
    ·exact ⟨by simp [gM],.inl rfl⟩
    ·obtain ⟨kD,gf⟩:=GN rfl
     -- each cell up to the capacity
     have aB:∀ i,i < cap→∃ oP y,W.cells? 0 (a.add (i*P.cellsOf e)) (P.cellsOf e)=some oP∧DataW.trod enc P W 0 (fun _=>true) true m e oP=some y:=by
      intro i hi
      by_cases iK:i < len
      ·have h1:=od i iK
       have h2:i < elems.length:=by omega
       rw [List.getElem?_eq_getElem h2,Option.bind_eq_some_iff] at h1
       obtain ⟨oP,h3,h4⟩:=h1
       exact ⟨oP,_,h3,h4⟩
      ·have h1:=gf (i - len) (by omega)
       have h2:i - len < rest.length:=by omega
       rw [List.getElem?_eq_getElem h2,Option.bind_eq_some_iff,show len+(i - len)=i by omega] at h1
       obtain ⟨oP,h3,h4⟩:=h1
       exact ⟨oP,_,h3,h4⟩
     by_cases pJ:cap=0
     ·subst pJ
      have IQ:len=0:=by omega
      subst IQ
      refine ⟨by simp [gM,G],.inr ⟨h.size,0,0,_,_,rfl,Nat.le_refl _,Nat.zero_le _,?_,WU (h:=h) (i:=0) (Nat.mul_pos hS hM),by simp,fun i hi=>absurd hi (Nat.not_lt_zero _)⟩⟩
      rw [Rb];have:=Nat.mul_pos hS hM;omega
     ·have eQ:∀ i,i < cap→∀ j,j < P.cellsOf e→∃ u,(tq W a.block)[a.off+(i*P.cellsOf e+j)]? = some u∧a.block < W.heap.size∧a.spot=none∧gM W.heap.size M u=true:=by
       intro i hi j hj
       obtain ⟨oP,y,h1,h2⟩:=aB i hi
       obtain ⟨_,h3,h4⟩:=World.cells?_some h1
       have h5:=h4 j hj
       have h6:j < oP.length:=by omega
       rw [List.getElem?_eq_getElem h6] at h5
       obtain ⟨h7,h8,h9⟩:=Um h5
       have e1:((a.add (i*P.cellsOf e)).add j).block=a.block:=by unfold Addr.add;split <;> split <;> rfl
       have e2:((a.add (i*P.cellsOf e)).add j).off=a.off+(i*P.cellsOf e+j):=by unfold Addr.add;split <;> split <;> simp_all;omega
       rw [e1,e2] at h9
       rw [e1] at h7
       refine ⟨_,h9,h7,?_,(ih e oP m y hc.2 h2).1 _ (List.getElem_mem h6)⟩
       obtain ⟨cs0,y0,g1,_⟩:=aB 0 (by omega)
       obtain ⟨_,g3,g4⟩:=World.cells?_some g1
       have g5:=g4 0 hc.1
       have g6:0 < cs0.length:=by omega
       rw [List.getElem?_eq_getElem g6] at g5
       have g8:=(Um g5).2.1
       simpa [Addr.add] using g8
      obtain ⟨u0,BH,hb,cF,_⟩:=eQ 0 (by omega) 0 hc.1
      have rT:a.off < M:=by
       have:=(List.getElem?_eq_some_iff.1 BH).1
       have:=wy _ hb
       omega
      have hG:cap < G:=by unfold G;unfold maxLen at oX;omega
      refine ⟨?_,.inr ⟨h.size+(a.block*M+a.off),len,cap,_,_,?_,hle,oX,?_,WU (RW hb rT),?_,?_⟩⟩
      ·intro u yz
       simp only [List.mem_singleton] at yz
       subst yz
       simp [gM,hle,hG,hb,cF,rT]
      ·simp [sU,pJ]
      ·rw [Rb];have:=RW (W:=W) hb rT;omega
      all_goals rw [Ue rT,Uf rT]
      all_goals
       have df:=zvh (N:=h.size) (M:=M) (W:=W) (b:=a.block) (off:=a.off) (n:=cap*P.cellsOf e) (fun i hi=>by
        have hk:=hc.1
        obtain ⟨u,h1,_,_,h2⟩:=eQ (i / P.cellsOf e) (Nat.div_lt_of_lt_mul (by rw [Nat.mul_comm];exact hi)) (i % P.cellsOf e) (Nat.mod_lt _ hk)
        refine ⟨u,?_,h2⟩
        rw [← h1,Nat.mul_comm,Nat.div_add_mod])
      ·exact Nat.le_trans (Nat.mul_le_mul_right _ hle) df.1
      ·intro i hi
       obtain ⟨oP,y,h1,h2⟩:=aB i (by omega)
       have h3:=(ih e oP m y hc.2 h2).2
       have h4:((Et W h.size M a.block a.off).drop (i*P.cellsOf e)).take (P.cellsOf e)=oP.map (sU h.size M):=by
        obtain ⟨_,g2,g3⟩:=World.cells?_some h1
        have aL:(i+1)*P.cellsOf e≤cap*P.cellsOf e:=Nat.mul_le_mul_right _ (by omega)
        rw [Nat.succ_mul] at aL
        apply List.ext_getElem?
        intro j
        by_cases hj:j < P.cellsOf e
        ·rw [List.getElem?_take_of_lt hj,List.getElem?_drop,df.2 _ (by omega),List.getElem?_map]
         congr 1
         have h5:=g3 j hj
         have h6:j < oP.length:=by omega
         rw [List.getElem?_eq_getElem h6] at h5 ⊢
         obtain ⟨h7,h8,h9⟩:=Um h5
         have e1:((a.add (i*P.cellsOf e)).add j).block=a.block:=by unfold Addr.add;split <;> split <;> rfl
         have e2:((a.add (i*P.cellsOf e)).add j).off=a.off+(i*P.cellsOf e+j):=by unfold Addr.add;split <;> split <;> simp_all;omega
         rw [e1,e2] at h9
         exact h9
        ·rw [List.getElem?_eq_none (by simp;omega),List.getElem?_eq_none (by simp;omega)]
       rw [h4]
       exact h3
   |struct fs =>
    simp only [Bool.and_eq_true,List.all_eq_true,List.any_eq_true,decide_eq_true_eq,List.mem_range] at hc
    obtain ⟨xs,m,_,_,hl,uo,hf⟩:=DataW.trod_struct hu hx
    have mN:∀ (i:Nat) (f:Field),fs[i]? = some f→∃ y,DataW.trod enc P W 0 (fun _=>true) true m f.type ((cs.drop f.offset).take (P.cellsOf f.type))=some y:=by
     intro i f Gg
     have hi:=(Array.getElem?_eq_some_iff.1 Gg).1
     have:=hf i f Gg
     rw [List.getElem?_eq_getElem (by omega)] at this
     exact ⟨_,this⟩
    refine ⟨?_,by rw [List.length_map];exact hl,?_⟩
    ·intro u yz
     obtain ⟨j,hj,rfl⟩:=List.getElem_of_mem yz
     obtain ⟨f,Yf,h1,h2⟩:=hc.1 j (by omega)
     obtain ⟨i,hi⟩:=List.getElem?_of_mem Yf
     have pM:fs[i]? = some f:=by simpa using hi
     obtain ⟨y,hy⟩:=mN i f pM
     refine (ih f.type _ m y (hc.2 f Yf) hy).1 _ ?_
     refine List.mem_of_getElem? (i:=j - f.offset) ?_
     rw [List.getElem?_take_of_lt (by omega),List.getElem?_drop,show f.offset+(j - f.offset)=j by omega,List.getElem?_eq_getElem hj]
    ·intro i f Gg
     obtain ⟨y,hy⟩:=mN i f Gg
     rw [Ji]
     exact (ih f.type _ m y (hc.2 f (by simpa using Array.mem_of_getElem? Gg)) hy).2
   |array m e =>
    simp only [Bool.and_eq_true,decide_eq_true_eq] at hc
    obtain ⟨xs,fu,_,_,hl,uo,hf⟩:=DataW.trod_array hu hx
    have mN:∀ i,i < m→∃ y,DataW.trod enc P W 0 (fun _=>true) true fu e ((cs.drop (i*P.cellsOf e)).take (P.cellsOf e))=some y:=by
     intro i hi
     have:=hf i hi
     rw [List.getElem?_eq_getElem (by omega)] at this
     exact ⟨_,this⟩
    refine ⟨?_,by rw [List.length_map];exact hl,?_⟩
    ·intro u yz
     obtain ⟨j,hj,rfl⟩:=List.getElem_of_mem yz
     have NO:j / P.cellsOf e < m:=Nat.div_lt_of_lt_mul (by rw [Nat.mul_comm];omega)
     obtain ⟨y,hy⟩:=mN _ NO
     refine (ih e _ fu y hc.2.2 hy).1 _ ?_
     refine List.mem_of_getElem? (i:=j % P.cellsOf e) ?_
     rw [List.getElem?_take_of_lt (Nat.mod_lt _ hc.2.1),List.getElem?_drop,Nat.mul_comm,Nat.div_add_mod,List.getElem?_eq_getElem hj]
    ·intro i hi
     obtain ⟨y,hy⟩:=mN i hi
     rw [Ji]
     exact (ih e _ fu y hc.2.2 hy).2
   |_=>simp at hc
end
end Go.Am
namespace Go.Am
open Go.RowKit Go.ChangeShapes Go.WideShapes Go.ChangeAt
section
variable {P:Program} {T:bK} {ov:Ov} {W:World} {H:Type} {enc:TypeId × Value→H}
theorem zrc (W:World):∃ M,zo W M:=by
 have key:∀ n,∃ M,∀ b,b < n→(tq W b).length < M:=by
  intro n
  induction n with
  |zero=>exact ⟨0,fun b hb=>absurd hb (Nat.not_lt_zero _)⟩
  |succ n ih =>
   obtain ⟨M,hM⟩:=ih
   refine ⟨max M ((tq W n).length+1),fun b hb=>?_⟩
   by_cases h:b < n
   ·have:=hM b h;omega
   ·have:b=n:=by omega
    subst this;omega
 exact key W.heap.size
theorem zsn (lj:P.follows .mixedOrders=true) (hT:T.Fits P) (pO:Dk P T.gs ov) {f:FuncId} {h:Heap} {ρ:cE} (hf:ov f=none) {args:List Value} {aG:Array Value}
 (hG:da T.gs ρ) (hs:bP ρ h W) (bN:∀ A,h.size≤A→ρ A=none) (hl:h.low=h.size) (hv:cD ρ args aG.toList) (dy:Ok P T ov f args h fun v h'=>v=.bool true∧Ext h h') :
 Calls P f aG W fun e w'=>e=.returned (.bool true)∧Below W.heap.size W w':=by
 obtain ⟨n,v,h',dX,rfl,hx⟩:=dy
 have k8:=(TQ lj hT pO n).fn f args h (.bool true) h' dX ρ W aG hG hs (fun A h1 _=>bN A h1) hv
 rcases k8 with ⟨ρ',u,w',h1,_⟩|⟨_,h1⟩
 ·exfalso
  cases n with
  |zero=>simp [call] at dX
  |succ n =>
   simp only [call,hf,Option.bind_eq_some_iff] at dX
   obtain ⟨fn,tP,c,hc,_⟩:=dX
   obtain ⟨hP,fA,_⟩:=hT.fn f fn tP
   have fZ:¬ fn.name="runtime.NumGoroutine":=by simpa using fA
   simp [callFunc,hP,fZ,hc] at h1
 ·refine h1.mono ?_
  rintro e w' ⟨ρ',u,rfl,f1,s1,hv⟩
  refine ⟨?_,f1.below fun A L hA=>?_⟩
  ·rw [hv.bM rfl]
  ·have h2:A < h.size:=by
    apply Nat.lt_of_not_le
    intro hh
    rw [bN A hh] at hA
    cases hA
   have:=hx.low
   omega

def vG (P:Program) (h:Heap) (n:Nat) (t:TypeId) (v:Value):Prop:=match P.underlying t with
 |some (.struct _)|some (.array _ _)=>∃ cs,v=.agg ⟨cs⟩∧ep P h n t cs
 |_=>ep P h n t [v]
def y8 (P:Program) (h:Heap) (n:Nat):List TypeId→List Value→Prop
 | [],[]=>True
 |t::ts,v::vs=>vG P h n t v∧y8 P h n ts vs
 |_,_=>False
def nN (N M:Nat):Value→Value
 | .agg cs=>.agg ⟨cs.toList.map (sU N M)⟩
 |v=>sU N M v

theorem zER {ρ:cE} {h:Heap} {M:Nat} (hS:0 < W.heap.size) (hM:0 < M) {cs:List Value} (hc:∀ u∈cs,gM W.heap.size M u=true):cD (qU W h ρ M) (cs.map (sU h.size M)) cs:=by
 refine ⟨by simp,fun i x y hx hy=>?_⟩
 rw [List.getElem?_map,hy] at hx
 cases hx
 exact U7 hS hM (hc y (List.mem_of_getElem? hy))

theorem zzH {h:Heap} {ρ:cE} {M n base:Nat} {t:TypeId} {v:Value} {d:DataW H} {ps:List MemPlace} (hS:0 < W.heap.size) (wy:zo W M) (hc:yc P n t=true) (eC:Value.okWide P W .any base t v) (ht:DataW.Trod enc P W 0 (fun _=>true) true t v d ps) :
 VR (qU W h ρ M) (nN h.size M v) v∧vG P (uH W h M) n t (nN h.size M v):=by
 have hM:0 < M:=Nat.lt_of_le_of_lt (Nat.zero_le _) (wy 0 hS)
 obtain ⟨fuel,ht⟩:=ht
 obtain ⟨h1,h2⟩:=ztq (h:=h) hS wy n t _ fuel _ hc ht
 have agg:∀ cs,v=.agg cs→VR (qU W h ρ M) (nN h.size M v) v∧nN h.size M v=.agg ⟨v.cells.toList.map (sU h.size M)⟩:=by
  rintro cs rfl
  refine ⟨?_,rfl⟩
  have:=zER (ρ:=ρ) (h:=h) hS hM h1
  have:=this.toArray
  simpa [nN,Value.cells] using this
 have one:v.cells=#[v]→VR (qU W h ρ M) (nN h.size M v) v∧v.cells.toList.map (sU h.size M)=[nN h.size M v]:=by
  intro hv
  rw [hv] at h1 ⊢
  have hb:=h1 v (by simp)
  have hi:nN h.size M v=sU h.size M v:=by
   cases v with
   |agg cs=>simp [gM] at hb
   |_=>rfl
  rw [hi]
  exact ⟨U7 hS hM hb,rfl⟩
 unfold vG
 unfold Value.okWide at eC
 cases n with
 |zero=>simp [yc] at hc
 |succ n =>
  simp only [yc] at hc
  cases hu:P.underlying t with
  |none=>rw [hu] at hc;simp at hc
  |some dd =>
   rw [hu] at hc eC
   cases dd with
   |struct fs =>
    obtain ⟨cs,hv,_⟩:=eC
    obtain ⟨a1,a2⟩:=agg cs hv
    exact ⟨a1,_,a2,h2⟩
   |array m e =>
    obtain ⟨cs,hv,_⟩:=eC
    obtain ⟨a1,a2⟩:=agg cs hv
    exact ⟨a1,_,a2,h2⟩
   |bool =>
    simp only [Cell.okWide,Cell.ok,hu] at eC
    cases v <;> simp at eC
    obtain ⟨a1,a2⟩:=one rfl
    exact ⟨a1,by rw [← a2];exact h2⟩
   |int k =>
    simp only [Cell.okWide,Cell.ok,hu] at eC
    cases v <;> simp at eC
    obtain ⟨a1,a2⟩:=one rfl
    exact ⟨a1,by rw [← a2];exact h2⟩
   |string =>
    simp only [Cell.okWide,Cell.ok,hu] at eC
    cases v <;> simp at eC
    obtain ⟨a1,a2⟩:=one rfl
    exact ⟨a1,by rw [← a2];exact h2⟩
   |slice e =>
    simp only [Cell.okWide,Cell.ok,hu] at eC
    cases v <;> simp at eC
    obtain ⟨a1,a2⟩:=one rfl
    exact ⟨a1,by rw [← a2];exact h2⟩
   |_=>simp at hc

theorem zoB {h:Heap} {ρ:cE} {M n base:Nat} (hS:0 < W.heap.size) (wy:zo W M):∀ (ts:List TypeId) (vs:List Value) (ds:List (DataW H)) (ps:List MemPlace),ts.all (yc P n)=true →
 (∀ (j:Nat) t v,ts[j]? = some t→vs[j]? = some v→Value.okWide P W .any base t v)→DataW.TrodAll enc P W 0 (fun _=>true) true ts vs ds ps →
 cD (qU W h ρ M) (vs.map (nN h.size M)) vs∧y8 P (uH W h M) n ts (vs.map (nN h.size M))
 | [],[],[],_,_,_,_=>⟨.nil _,trivial⟩
 |t::ts,v::vs,d::ds,ps,hc,eC,ht=>by
  simp only [List.all_cons,Bool.and_eq_true] at hc
  obtain ⟨p,q,h1,h2,_⟩:=ht
  obtain ⟨a1,a2⟩:=zzH (h:=h) (ρ:=ρ) hS wy hc.1 (eC 0 t v rfl rfl) h1
  obtain ⟨b1,b2⟩:=zoB (h:=h) (ρ:=ρ) hS wy ts vs ds q hc.2 (fun j t v h3 h4=>eC (j+1) t v (by simpa using h3) (by simpa using h4)) h2
  exact ⟨.cons a1 b1,a2,b2⟩
 | [],[],_::_,_,_,_,ht=>ht.elim
 | [],_::_,_,_,_,_,ht=>by cases ht
 |_::_,[],_,_,_,_,ht=>by cases ht
 |_::_,_::_,[],_,_,_,ht=>by cases ht

theorem zhs (hl:laidOutB P=true) {W W':World} (hb:Below W.heap.size W W') (sp:Nat→Bool):∀ (ts:List TypeId) (vs:List Value) (ds:List (DataW H)) (ps:List MemPlace),ts.all (fun t=>P.readableRec t && decide (t < P.types.size))=true →
 (∀ x∈ps,x.block < W.heap.size)→(∀ x∈ps,sp x.block=true)→DataW.TrodAll enc P W 0 (fun _=>true) true ts vs ds ps→DataW.TrodAll enc P W' 0 sp true ts vs ds ps
 | [],[],[],_,_,_,_,h=>h
 |t::ts,v::vs,d::ds,ps,hr,aR,cF,h=>by
  simp only [List.all_cons,Bool.and_eq_true,decide_eq_true_eq] at hr
  obtain ⟨p,q,h1,h2,rfl⟩:=h
  exact ⟨p,q,WideElems.Trod_stays hl hr.1.1 hr.1.2 h1 (fun x hx=>hb.same (aR x (by simp [hx]))) (fun x hx=>cF x (by simp [hx])),
   zhs hl hb sp ts vs ds q hr.2 (fun x hx=>aR x (by simp [hx])) (fun x hx=>cF x (by simp [hx])) h2,rfl⟩
 | [],[],_::_,_,_,_,_,h=>h.elim
 | [],_::_,_,_,_,_,_,h=>by cases h
 |_::_,[],_,_,_,_,_,h=>by cases h
 |_::_,_::_,[],_,_,_,_,h=>by cases h

end
end Go.Am
