/- One element appended, cells stored within a row. No condition. -/
import Derived.Test.YtemapihoobmonaaGreatDoorGJoin
import Derived.Test.YtemapihoobmonaaGreatDoorG14
import Derived.Test.YtemapihoobmonaaGreatDoorG15
import Derived.Test.YtemapihoobmonaaGreatDoorG18
namespace Go.Am
set_option linter.unusedVariables false
section
variable {α:Type} {r:Rep α} {h0 h1:Heap} {v:Value} {l:List α} {t e:TypeId} {A k bytes:Nat} {z:List Value} {T:Tab} {bs:List Blk} {w:Nat} {K:Value→Heap→Prop}
theorem zdD (hd:T.desc t=some (.slice e)) (hi:T.info e=some (k,bytes,z)) (hrk:r.k=k) (hk:0 < k) {u:TypeId} {ro:Bool} {cs:List Value} {i c:Nat} {x:α} (hg:bs[i]? = some (.row cs u ro)) (hz:h0.size≤h1.size) (f:Ow r h0 h1 e A v l) (hr:r.R (kill A (h1.lay bs w)) cs x)
    (hb:(l.length+1)*bytes≤140737488355328) (hl:l.length+1≤1152921504606846976)
    (hK:∀ v' h' A',Ow r h0 h' e A' v' (l++[x])→Chg A (h1.lay bs w) h'→(A'=A∨h1.size≤A')→K v' h'):optE (zbo T t v (.slice (some ⟨h1.size+i,0,none⟩) 1 c) (h1.lay bs w)) K:=by
  have hgt:(h1.lay bs w).get (h1.size+i)=some (.row cs u ro):=by rw [zbc]; exact hg
  obtain ⟨hs,hsr⟩:=zzH (r:=r) (A:=A) (c:=c) (y:=x) (by omega) hgt hr
  exact zy1 hd hi hrk hk hz f (by rw [← hrk]; exact hs) hsr hb hl hK
theorem zae {u:TypeId} {n o:Nat} {cs vs:List Value} {v:Value} (q:Holds h1 A (.row cs u false)) (hs:zaM T t=some n) (hv:v.cells.toList=vs) (hl:vs.length=n) (hb:o+n≤cs.length) (h1':vs.all one=true)
    (hK:∀ h',Holds h' A (.row (splice cs o vs) u false)→Chg A (h1.lay bs w) h'→K undef h'):memE (zbd T t (.pointer (some ⟨A,o,none⟩)) v (h1.lay bs w)) K:=by
  have hg:(h1.lay bs w).get A=some (.row cs u false):=q.lay bs w
  have hA:A < (h1.lay bs w).size:=(q.on bs w).lt
  have hsz:v.cells.size=n:=by rw [← hl,← hv]; simp
  have he:zbd T t (.pointer (some ⟨A,o,none⟩)) v (h1.lay bs w)=some ((h1.lay bs w).set A (.row (splice cs o vs) u false)):=by
    unfold zbd
    simp only [hs,Option.bind_some]
    rw [if_pos hsz,hv]
    unfold zbW
    rw [hg]
    simp only
    rw [if_pos (by simp only [Bool.and_eq_true,decide_eq_true_eq]; exact ⟨by omega,h1'⟩)]
  rw [he]
  refine hK _ ⟨by rw [Heap.size_set]; exact hA,by rw [Heap.get_set _ _ _ _ hA,if_pos rfl]⟩ ⟨by rw [Heap.size_set]; exact Nat.le_refl _,fun B hB hne=>by rw [Heap.get_set _ _ _ _ hA,if_neg hne],by rw [Heap.low_set]; omega⟩
end
section
variable {P:Program} {T:Tab} {ov:Ov}
end
/-! ### Heaps without one block -/
theorem zcB {h:Heap} {A B:Nat} (hne:B≠A):(kill A h).get B=h.get B:=by
  unfold kill
  split
  · rename_i hA
    rw [Heap.get_set _ _ _ _ hA,if_neg hne]
  · rfl
theorem zd8 {h:Heap} {A:Nat} (hA:A < h.size):(kill A h).get A=some .dead:=by
  unfold kill
  rw [if_pos hA,Heap.get_set _ _ _ _ hA,if_pos rfl]
structure Kin (B:Heap) (A:Nat) (h:Heap):Prop where
  lt:A < h.size
  inc:Inc B (kill A h)
section
variable {B h1 h2:Heap} {A A':Nat} {bs:List Blk} {w:Nat}
theorem Kin.all (k:Kin B A h1):Inc B h1:=k.inc.trans (zgh _ _)
theorem ziz {a b:Heap} (i:Inc a b):Inc (kill A a) (kill A b):=⟨by rw [zbu,zbu]; exact i.size,fun C hC hd=>by
  by_cases hCA:C=A
  · subst hCA
    rw [zbu] at hC
    exact absurd (zd8 hC) hd
  · rw [zbu] at hC
    rw [zcB hCA] at hd ⊢
    rw [zcB hCA]
    exact i.get C hC hd⟩
theorem Kin.mono (k:Kin B A h1) (i:Inc h1 h2):Kin B A h2:=⟨Nat.lt_of_lt_of_le k.lt i.size,k.inc.trans (ziz i)⟩
theorem Kin.over (k:Kin B A h1) (x:Ext (h1.lay bs w) h2):Kin B A h2:=k.mono ((Inc.lay _ _ _).trans x.inc)
theorem Kin.lay (k:Kin B A h1) (bs:List Blk) (w:Nat):Kin B A (h1.lay bs w):=k.mono (Inc.lay _ _ _)
theorem Kin.step (k:Kin B A h1) (c:Chg A (h1.lay bs w) h2) (hA:A'=A∨h1.size≤A') (hl:A' < h2.size):Kin B A' h2:=by
  have hs:h1.size≤(h1.lay bs w).size:=by rw [zag]; omega
  refine ⟨hl,⟨by rw [zbu]; exact Nat.le_trans k.all.size (Nat.le_trans hs c.size),fun C hC hd=>?_⟩⟩
  have h3:=k.inc.get C hC hd
  have hCA:C≠A:=by
    intro e
    subst e
    rw [zd8 k.lt] at h3
    exact hd h3.symm
  have hC1:C < h1.size:=Nat.lt_of_lt_of_le hC k.all.size
  rw [zcB hCA] at h3
  rw [zcB (by rcases hA with e | e <;> omega),c.get C (by omega) hCA,zbz _ _ _ hC1]
  exact h3
theorem Kin.trans (k:Kin B A h1) (k2:Kin (kill A (h1.lay bs w)) A' h2):Kin B A' h2:=⟨k2.lt,(k.lay bs w).inc.trans k2.inc⟩
theorem Kin.holds {C:Nat} {cs:List Value} {u:TypeId} {ro:Bool} (k:Kin B A h1) (q:Holds B C (.row cs u ro)):Holds h1 C (.row cs u ro)∧C≠A:=by
  refine ⟨q.mono k.all,fun e=>?_⟩
  have:=k.inc.get C q.lt (by rw [q.get]; nofun)
  rw [e,zd8 k.lt,← e,q.get] at this
  cases this
theorem Kin.keep {C:Nat} {cs:List Value} {u:TypeId} {ro:Bool} (k:Kin (kill A (h1.lay bs w)) A' h2) (q:Holds h1 C (.row cs u ro)) (hne:C≠A):Holds h2 C (.row cs u ro)∧C≠A' :=
  k.holds ⟨by rw [zbu]; exact (q.on bs w).lt,(zcB hne).trans (q.on bs w).get⟩
end
section
variable {T:Tab} {t e:TypeId} {v:Value} {B h1:Heap} {bs:List Blk} {w:Nat} {K:Value→Heap→Prop} {kd:IntKind} {i:Int}
end
theorem Inc.chg {a b d:Heap} {A:Nat} (i:Inc a b) (c:Chg A b d) (hA:a.size≤A):Inc a d:=⟨Nat.le_trans i.size c.size,fun B hB hd=>(c.get B (Nat.lt_of_lt_of_le hB i.size) (by omega)).trans (i.get B hB hd)⟩
theorem zgJ {h h2:Heap} {A:Nat} (i:Inc h h2) (hA:h.size≤A):Inc h (kill A h2):=⟨by rw [zbu]; exact i.size,fun C hC hd=>by rw [zcB (by omega)]; exact i.get C hC hd⟩
/-! ### Sizes -/
theorem zmb {s:ByteArray} (h:lowX s):s.size≤300:=by have:=h.len; omega
theorem termX.size {t:TermD} (h:termX t):t.s.size≤300:=by
  unfold termX at h
  split at h
  · have:=h.len; omega
  · exact zmb h.1
theorem zvA {a:AtomD} (h0:a.says.size≤300) (h1:a.pred.size≤300) (h:∀ i,i < 4→(a.arg i).s.size≤300):a.light=true:=by
  unfold AtomD.light
  simp only [Bool.and_eq_true,decide_eq_true_eq]
  exact ⟨h0,h1,h 0 (by omega),h 1 (by omega),h 2 (by omega),h 3 (by omega)⟩
theorem ValidX.light {a:AtomD} (h:ValidX a):a.light=true:=by
  refine zvA (zmb h.says.1.1) (zmb h.pred.1.1) (fun i hi=>?_)
  by_cases hn:(i:Int) < a.n
  · exact (h.terms i hn).size
  · rw [h.rest i (by omega) hi]
    decide
end Go.Am
namespace Go.Am
set_option linter.unusedVariables false
set_option linter.unusedSimpArgs false
def MapK {κ:Type} (kv:κ→Value) (h:Heap) (A:Nat) (met:List κ):Prop:=∃ es clock,∃ ks:List κ,Holds h A (.map es clock)∧es.map (fun x:MapEntry=>x.key)=ks.map kv∧(∀ a,a∈ks↔a∈met)∧∀ x∈es,x.val=.agg ⟨[]⟩
section
variable {κ:Type} {kv:κ→Value} {T:Tab} {t kt et:TypeId} {A:Nat} {met:List κ} {a:κ} {h1:Heap} {bs:List Blk} {w:Nat} {K:Value→Heap→Prop} {z:Value}
theorem MapK.over (m:MapK kv h1 A met) {h2:Heap} (x:Ext (h1.lay bs w) h2):MapK kv h2 A met:=by
  obtain ⟨es,cl,ks,m1,m2,m3⟩:=m
  exact ⟨es,cl,ks,m1.over x,m2,m3⟩
theorem MapK.ext (m:MapK kv h1 A met) {h2:Heap} (x:Ext h1 h2):MapK kv h2 A met:=by
  obtain ⟨es,cl,ks,m1,m2,m3⟩:=m
  exact ⟨es,cl,ks,⟨Nat.lt_of_lt_of_le m1.lt x.size,(x.get A m1.lt).trans m1.get⟩,m2,m3⟩
theorem MapK.stepL (m:MapK kv h1 A met) {B:Nat} {h2:Heap} (c:Chg B (h1.lay bs w) h2) (hne:A≠B):MapK kv h2 A met:=by
  obtain ⟨es,cl,ks,m1,m2,m3⟩:=m
  exact ⟨es,cl,ks,m1.stepL c hne,m2,m3⟩
theorem MapK.lay (m:MapK kv h1 A met) (bs:List Blk) (w:Nat):MapK kv (h1.lay bs w) A met:=by
  obtain ⟨es,cl,ks,m1,m2,m3⟩:=m
  exact ⟨es,cl,ks,m1.on bs w,m2,m3⟩
theorem MapK.new (q:Holds h1 A (.map [] 0)):MapK kv h1 A ([]:List κ):=⟨[],0,[],q,rfl,fun _=>Iff.rfl,fun _ hx=>by simp at hx⟩
theorem MapK.lt (m:MapK kv h1 A met):A < h1.size:=by
  obtain ⟨es,cl,ks,m1,m2,m3⟩:=m
  exact m1.lt
theorem MapK.hold {H:Heap} (m:MapK kv h1 A met) (hO:∀ A b,Holds h1 A b→Holds H A b):MapK kv H A met:=by
  obtain ⟨es,cl,ks,m1,m2,m3⟩:=m
  exact ⟨es,cl,ks,hO _ _ m1,m2,m3⟩
theorem MapK.same {met2:List κ} (m:MapK kv h1 A met) (h:∀ a,a∈met↔a∈met2):MapK kv h1 A met2:=by
  obtain ⟨es,cl,ks,m1,m2,m3,m4⟩:=m
  exact ⟨es,cl,ks,m1,m2,fun a=>(m3 a).trans (h a),m4⟩
end
end Go.Am
namespace Go.Am
set_option linter.unusedVariables false
def dk (M X A:Nat) (h:Heap):Heap:=kill A (kill X (kill M h))
theorem zfP (M X A:Nat) (h:Heap):(dk M X A h).size=h.size:=by unfold dk; rw [zbu,zbu,zbu]
theorem zBD (M X A:Nat) (h:Heap):Inc (dk M X A h) h:=(zgh _ _).trans ((zgh _ _).trans (zgh _ _))
theorem zga {M X A C:Nat} {h:Heap} (h1:C≠A) (h2:C≠X) (h3:C≠M):(dk M X A h).get C=h.get C:=by
  unfold dk
  rw [zcB h1,zcB h2,zcB h3]
theorem zqn {M X A C:Nat} {h:Heap} (hC:C < h.size) (hd:C=A∨C=X∨C=M):(dk M X A h).get C=some .dead:=by
  unfold dk
  by_cases h1:C=A
  · subst h1
    exact zd8 (by rw [zbu,zbu]; exact hC)
  rw [zcB h1]
  by_cases h2:C=X
  · subst h2
    exact zd8 (by rw [zbu]; exact hC)
  rw [zcB h2]
  have h3:C=M:=by rcases hd with h | h | h <;> first | exact absurd h h1 | exact absurd h h2 | exact h
  subst h3
  exact zd8 hC
theorem zxH {M X A C:Nat} {h:Heap} (hC:C < h.size) (hd:(dk M X A h).get C≠some .dead):C≠A∧C≠X∧C≠M :=
  ⟨fun e=>hd (zqn hC (.inl e)),fun e=>hd (zqn hC (.inr (.inl e))),fun e=>hd (zqn hC (.inr (.inr e)))⟩
structure Kn (M X:Nat) (B:Heap) (A:Nat) (h:Heap):Prop where
  m:M < h.size
  x:X < h.size
  lt:A < h.size
  inc:Inc B (dk M X A h)
section
variable {M X A A' C:Nat} {B h h1 h2:Heap} {bs:List Blk} {w:Nat} {b:Blk}
theorem zBo {a d:Heap} (i:Inc a d):Inc (dk M X A a) (dk M X A d):=ziz (ziz (ziz i))
theorem Kn.all (k:Kn M X B A h1):Inc B h1:=k.inc.trans (zBD _ _ _ _)
theorem Kn.mono (k:Kn M X B A h1) (i:Inc h1 h2):Kn M X B A h2:=⟨Nat.lt_of_lt_of_le k.m i.size,Nat.lt_of_lt_of_le k.x i.size,Nat.lt_of_lt_of_le k.lt i.size,k.inc.trans (zBo i)⟩
theorem Kn.over (k:Kn M X B A h1) (x:Ext (h1.lay bs w) h2):Kn M X B A h2:=k.mono ((Inc.lay _ _ _).trans x.inc)
theorem Kn.lay (k:Kn M X B A h1) (bs:List Blk) (w:Nat):Kn M X B A (h1.lay bs w):=k.mono (Inc.lay _ _ _)
theorem Kn.trans (k:Kn M X B A h1) (k2:Kn M X (dk M X A h1) A' h2):Kn M X B A' h2:=⟨k2.m,k2.x,k2.lt,k.inc.trans k2.inc⟩
theorem Kn.holds (k:Kn M X B A h1) (q:Holds B C b) (hb:b≠.dead):Holds h1 C b∧C≠A∧C≠X∧C≠M:=by
  have hC:C < h1.size:=Nat.lt_of_lt_of_le q.lt k.all.size
  have hg:=k.inc.get C q.lt (by rw [q.get]; exact fun e=>hb (Option.some.inj e))
  rw [q.get] at hg
  have hne:=zxH hC (by rw [hg]; exact fun e=>hb (Option.some.inj e))
  exact ⟨⟨hC,by rw [← hg,zga hne.1 hne.2.1 hne.2.2]⟩,hne⟩
theorem Holds.dk (q:Holds h1 C b) (hA:C≠A) (hX:C≠X) (hM:C≠M):Holds (dk M X A h1) C b:=⟨by rw [zfP]; exact q.lt,by rw [zga hA hX hM]; exact q.get⟩
theorem Kn.keep (k:Kn M X (Go.Am.dk M X A h1) A' h2) (q:Holds h1 C b) (hA:C≠A) (hX:C≠X) (hM:C≠M) (hb:b≠.dead):Holds h2 C b∧C≠A' :=
  have:=k.holds (q.dk hA hX hM) hb
  ⟨this.1,this.2.1⟩
theorem Kn.step (k:Kn M X B A h1) (c:Chg A (h1.lay bs w) h2) (hA:A'=A∨h1.size≤A') (hl:A' < h2.size):Kn M X B A' h2:=by
  have hs:h1.size≤(h1.lay bs w).size:=by rw [zag]; omega
  have hs2:=c.size
  refine ⟨Nat.lt_of_lt_of_le k.m (by omega),Nat.lt_of_lt_of_le k.x (by omega),hl,⟨by rw [zfP]; exact Nat.le_trans k.all.size (by omega),fun C hC hd=>?_⟩⟩
  have h3:=k.inc.get C hC hd
  have hC1:C < h1.size:=Nat.lt_of_lt_of_le hC k.all.size
  have hne:=zxH hC1 (by rw [h3]; exact hd)
  rw [zga hne.1 hne.2.1 hne.2.2] at h3
  rw [zga (by rcases hA with e | e <;> omega) hne.2.1 hne.2.2,c.get C (by omega) hne.1,zbz _ _ _ hC1]
  exact h3
theorem Kn.round {L:Nat} {h3:Heap} (c:Chg L h h1) (k:Kn M X (Go.Am.dk M X A h1) A' h2) (c2:Chg L h2 h3) (hb:h3.get L=h.get L) (hL:L≠A'∧L≠X∧L≠M):Kn M X (Go.Am.dk M X A h) A' h3:=by
  have hs:=c.size
  have hs2:=c2.size
  have hks:=k.all.size
  rw [zfP] at hks
  refine ⟨Nat.lt_of_lt_of_le k.m hs2,Nat.lt_of_lt_of_le k.x hs2,Nat.lt_of_lt_of_le k.lt hs2,⟨by rw [zfP,zfP]; omega,fun D hD hd=>?_⟩⟩
  rw [zfP] at hD
  have hne:=zxH hD hd
  rw [zga hne.1 hne.2.1 hne.2.2] at hd ⊢
  by_cases hDL:D=L
  · subst hDL
    rw [zga hL.1 hL.2.1 hL.2.2,hb]
  · have g1:=c.get D hD hDL
    have g2:=k.inc.get D (by rw [zfP]; omega) (by rw [zga hne.1 hne.2.1 hne.2.2,g1]; exact hd)
    rw [zga hne.1 hne.2.1 hne.2.2,g1] at g2
    have hne2:=zxH (h:=h2) (M:=M) (X:=X) (A:=A') (C:=D) (by omega) (by rw [g2]; exact hd)
    rw [zga hne2.1 hne2.2.1 hne2.2.2] at g2 ⊢
    rw [c2.get D (by omega) hDL,g2]
end
theorem Ow.low {α:Type} {r:Rep α} {h0 h1 h:Heap} {e A:Nat} {v:Value} {l:List α} (hs:h0.size≤h1.size) (f:Ow r h1 h e A v l):Ow r h0 h e A v l:=by
  rcases f with ⟨e1,e2,e3⟩ | ⟨row,e1,e2,e3,e4⟩
  · refine .inl ⟨by omega,e2,?_⟩
    rcases e3 with e3 | ⟨B,o,g1,g2,g3⟩
    · exact .inl e3
    · exact .inr ⟨B,o,g1,by omega,g3⟩
  · exact .inr ⟨row,e1,e2,by omega,e4⟩
def OwE {α:Type} (r:Rep α) (h0 h:Heap) (e:TypeId) (v:Value) (l:List α):Prop:=∃ A,Ow r h0 h e A v l
section
variable {α:Type} {r:Rep α} {h0 h0' h h' h1 h2:Heap} {e:TypeId} {v:Value} {l:List α}
theorem OwE.mono (f:OwE r h0 h e v l) (i:Inc h h'):OwE r h0 h' e v l:=f.elim fun A o=>⟨A,o.mono i⟩
theorem OwE.over {bs:List Blk} {w:Nat} (f:OwE r h0 h1 e v l) (x:Ext (h1.lay bs w) h2):OwE r h0 h2 e v l:=f.elim fun A o=>⟨A,o.over x⟩
theorem OwE.lay (f:OwE r h0 h e v l) (bs:List Blk) (w:Nat):OwE r h0 (h.lay bs w) e v l:=f.mono (Inc.lay _ _ _)
theorem OwE.low (hs:h0'.size≤h0.size) (f:OwE r h0 h e v l):OwE r h0' h e v l:=f.elim fun A o=>⟨A,o.low hs⟩
theorem OwE.sl (f:OwE r h0 h e v l) (hk:0 < r.k):Sl r h v l:=f.elim fun A o=>o.sl hk
theorem OwE.dk {M X A:Nat} (f:OwE r h0 h e v l) (hk:0 < r.k) (hflat:∀ h h' cs x,r.R h cs x→r.R h' cs x) (hM:M < h0.size) (hX:X < h0.size) (hA:A < h0.size):Sl r (dk M X A h) v l :=
  f.elim fun B o=>(((o.kill hflat hM).kill hflat hX).kill hflat hA).sl hk
end
section
variable {P:Program} {T:Tab} {ov:Ov} {M X:Nat} {h0:Heap} {J:List (List BindD)→Nat→Heap→Prop} {fy:Value}
structure Sm (L:Nat) (h h':Heap):Prop where
  size:h.size≤h'.size
  get:∀ B,B < h.size→B≠L→h'.get B=h.get B
theorem Chg.sm {L:Nat} {h h':Heap} (c:Chg L h h'):Sm L h h':=⟨c.size,c.get⟩
theorem Ext.sm {h h':Heap} (x:Ext h h') (L:Nat):Sm L h h':=⟨x.size,fun B hB _=>x.get B hB⟩
theorem zyR (h:Heap) (bs:List Blk) (w L:Nat):Sm L h (h.lay bs w):=⟨by rw [zag]; omega,fun B hB _=>zbz h bs w hB⟩
theorem Holds.sm {L C:Nat} {h h':Heap} {b:Blk} (q:Holds h C b) (s:Sm L h h') (hne:C≠L):Holds h' C b:=⟨Nat.lt_of_lt_of_le q.lt s.size,(s.get C q.lt hne).trans q.get⟩
structure Stb (N M X:Nat) (J:List (List BindD)→Nat→Heap→Prop):Prop where
  m:M < N
  x:X < N
  lt:∀ {done A h},J done A h→M < h.size∧X < h.size∧A < h.size
  sm:∀ {done A h1 h2 L},J done A h1→Sm L h1 h2→N≤L→L≠A→J done A h2
theorem Stb.lay {N:Nat} (s:Stb N M X J) {done:List (List BindD)} {A:Nat} {h1:Heap} (j:J done A h1) (bs:List Blk) (w:Nat):J done A (h1.lay bs w):=by
  have hl:=s.lt j
  exact s.sm (L:=N+h1.size) j (zyR _ _ _ _) (by omega) (by omega)
theorem Stb.over {N:Nat} (s:Stb N M X J) {done:List (List BindD)} {A w:Nat} {h1 h2:Heap} {bs:List Blk} (j:J done A h1) (x:Ext (h1.lay bs w) h2):J done A h2:=by
  have hl:=s.lt j
  exact s.sm (L:=N+h1.size) (s.lay j bs w) (x.sm _) (by omega) (by omega)
structure JJ (N M X:Nat) (J:List (List BindD)→Nat→Heap→Prop) (done:List (List BindD)) (A:Nat) (h:Heap):Prop where
  st:Stb N M X J
  j:J done A h
theorem JJ.lay {N:Nat} {done:List (List BindD)} {A:Nat} {h1:Heap} (f:JJ N M X J done A h1) (bs:List Blk) (w:Nat):JJ N M X J done A (h1.lay bs w):=⟨f.st,f.st.lay f.j bs w⟩
theorem JJ.over {N:Nat} {done:List (List BindD)} {A w:Nat} {h1 h2:Heap} {bs:List Blk} (f:JJ N M X J done A h1) (x:Ext (h1.lay bs w) h2):JJ N M X J done A h2:=⟨f.st,f.st.over f.j x⟩
end
theorem ztt {T:Tab} {t e:TypeId} {α:Type} {r:Rep α} {B:Heap} {v:Value} {l:List α} (f:Sl r B v l) (hk:0 < r.k) (hd:T.desc t=some (.slice e)) (hs:zaM T e=some r.k) {a:Nat} {kd:IntKind} (ha:a≤l.length) :
    ∃ v',zba T t v (some (.int kd a)) none none=some v'∧Sl r B v' (l.drop a):=by
  have h:=ztJ (bs:=[]) (w:=B.low) f hk hd hs (kd:=kd) ha (K:=fun v' _=>Sl r B v' (l.drop a)) (fun _ h=>h)
  cases e:zba T t v (some (.int kd a)) none none with
  | none=>rw [e] at h; exact h.elim
  | some v'=>rw [e] at h; exact ⟨v',rfl,h⟩
theorem Ow.sm {α:Type} {r:Rep α} {h0 h h':Heap} {e:TypeId} {A L:Nat} {v:Value} {l:List α} (hflat:∀ h h' cs x,r.R h cs x→r.R h' cs x) (f:Ow r h0 h e A v l) (c:Sm L h h') (hL:L≠A) (hn:l=[]→∀ B o x n c,v=.slice (some ⟨B,o,x⟩) n c→B≠L):Ow r h0 h' e A v l:=by
  rcases f with ⟨e1,e2,e3⟩ | ⟨row,e1,e2,e3,e4,e5,e6,e7,e8⟩
  · refine .inl ⟨e1,e2,?_⟩
    rcases e3 with e3 | ⟨B,o,g1,g2,g3,row,u,ro,g4⟩
    · exact .inl e3
    · exact .inr ⟨B,o,g1,g2,Nat.lt_of_lt_of_le g3 c.size,row,u,ro,by rw [c.get B g3 (hn e2 _ _ _ _ _ g1)]; exact g4⟩
  · refine .inr ⟨row,e1,e2,e3,Nat.lt_of_lt_of_le e4 c.size,by rw [c.get A e4 (Ne.symm hL)]; exact e5,e6,e7,fun i x hx=>?_⟩
    obtain ⟨cs,g1,g2⟩:=e8 i x hx
    exact ⟨cs,g1,hflat _ _ _ _ g2⟩
theorem MapK.sm {κ:Type} {kv:κ→Value} {h h':Heap} {A L:Nat} {met:List κ} (m:MapK kv h A met) (c:Sm L h h') (hne:A≠L):MapK kv h' A met:=by
  obtain ⟨es,cl,ks,m1,m2,m3⟩:=m
  exact ⟨es,cl,ks,m1.sm c hne,m2,m3⟩
structure RJ (hb:Heap) (N:Nat) (u1 u2:TypeId) (M X:Nat) (facts heads:List AtomD) (A:Nat) (h:Heap):Prop where
  lt:M < h.size∧X < h.size∧A < h.size
  map:∃ met,MapK AtomD.val h M met∧∀ a,a∈met↔a∈heads
  out:∃ (v:Value) (out:List AtomD),Holds h X (.row [v] u1 false)∧(∀ a,a∈out↔a∈facts∨a∈heads)∧out.length≤facts.length+heads.length∧Ow Rep.atom hb h u2 A v out∧(out≠[]→A≠X∧A≠M)∧(out=[]→A=X∧∀ B o x n c,v=.slice (some ⟨B,o,x⟩) n c→B < N)
theorem RJ.sm {hb h1 h2:Heap} {N M X A L:Nat} {u1 u2:TypeId} {facts heads:List AtomD} (f:RJ hb N u1 u2 M X facts heads A h1) (hM:M < N) (hX:X < N) (c:Sm L h1 h2) (hN:N≤L) (hL:L≠A):RJ hb N u1 u2 M X facts heads A h2:=by
  obtain ⟨⟨f1,f2,f3⟩,⟨met,m1,m2⟩,v,out,o1,o2,o3,o4,o5,o6⟩:=f
  have hs:=c.size
  exact ⟨by omega,⟨met,m1.sm c (by omega),m2⟩,v,out,o1.sm c (by omega),o2,o3,o4.sm (fun _ _ _ _ h=>h) c hL (fun e B o x n c hv=>by have:=(o6 e).2 B o x n c hv; omega),o5,o6⟩
theorem RJ.over {hb h1 h2:Heap} {N M X A w:Nat} {u1 u2:TypeId} {bs:List Blk} {facts heads:List AtomD} (f:RJ hb N u1 u2 M X facts heads A h1) (x:Ext (h1.lay bs w) h2):RJ hb N u1 u2 M X facts heads A h2:=by
  obtain ⟨⟨f1,f2,f3⟩,⟨met,m1,m2⟩,v,out,o1,o2,o3,o4,o5⟩:=f
  have hs:=x.size
  rw [zag] at hs
  exact ⟨by omega,⟨met,m1.over x,m2⟩,v,out,o1.over x,o2,o3,o4.over x,o5⟩
theorem RJ.lay {hb h1:Heap} {N M X A:Nat} {u1 u2:TypeId} {facts heads:List AtomD} (f:RJ hb N u1 u2 M X facts heads A h1) (bs:List Blk) (w:Nat):RJ hb N u1 u2 M X facts heads A (h1.lay bs w):=f.over (Ext.refl _)
end Go.Am
