/- Ranks: their bounds; a row of numbers of one's own. No condition. -/
import Derived.Test.YtemapihoobmonaaGreatDoorG18
import Derived.Test.YtemapihoobmonaaGreatDoorG14
import Derived.Test.YtemapihoobmonaaGreatDoorGJoin
import Derived.Test.YtemapihoobmonaaGreatDoorG20
import Derived.Test.YtemapihoobmonaaGreatDoorG39
namespace Go.Am
set_option linter.unusedVariables false
set_option linter.unusedSimpArgs false
def ints (l:List Int):List Value:=l.map (Value.int .i64)
end Go.Am
namespace Go.Am
set_option linter.unusedVariables false
section
variable {cl cl2:List ClauseD} {facts facts2:List AtomD}
theorem zqO (hc:∀ c,c∈cl↔c∈cl2) (hf:∀ a,a∈facts↔a∈facts2):MayX cl facts↔MayX cl2 facts2 :=
  ⟨fun h=>⟨fun c hh=>h.clauses c ((hc c).2 hh),fun a hh=>h.facts a ((hf a).2 hh)⟩,fun h=>⟨fun c hh=>h.clauses c ((hc c).1 hh),fun a hh=>h.facts a ((hf a).1 hh)⟩⟩
theorem zoJ (hm:MayX cl facts) (hc:∀ c,c∈cl↔c∈cl2) (hf:∀ a,a∈facts↔a∈facts2):∀ n,zbJ cl facts n=zbJ cl2 facts2 n
  | 0=>rfl
  | n+1=>by
    have hm2:=(zqO hc hf).1 hm
    show zjq cl facts (zbJ cl facts n)=zjq cl2 facts2 (zbJ cl2 facts2 n)
    rw [zoJ hm hc hf n]
    refine zuU (zqo (ziv hm (zef hm2 n))) (zqo (ziv hm2 (zef hm2 n))) (fun x=>⟨fun h=>?_,fun h=>?_⟩)
    · exact zl4 (fun c=>(hc c).1) (fun a=>(hf a).1) (fun _ h=>h) h
    · exact zl4 (fun c=>(hc c).2) (fun a=>(hf a).2) (fun _ h=>h) h
theorem zyZ (hm:MayX cl facts) {n m:Nat} (h:n≤m):∀ a∈zbJ cl facts n,a∈zbJ cl facts m:=by
  induction m with
  | zero=>obtain rfl:n=0:=by omega
          exact fun _ h=>h
  | succ m ih =>
    by_cases e:n=m+1
    · subst e; exact fun _ h=>h
    · exact fun a ha=>zuj hm m a (ih (by omega) a ha)
theorem zwD (hm:MayX cl facts) {n m:Nat} (h:n≤m):(zbJ cl facts n).length≤(zbJ cl facts m).length:=(zzs (zq4 cl facts n) (zq4 cl facts m) (zyZ hm h)).1
theorem zkE {k:Nat} (h:zbJ cl facts (k+1)=zbJ cl facts k):∀ n,zbJ cl facts (k+n)=zbJ cl facts k
  | 0=>rfl
  | n+1=>by
    show zjq cl facts (zbJ cl facts (k+n))=_
    rw [zkE h n]
    exact h
inductive LfpX (cl:List ClauseD) (facts:List AtomD):List AtomD→Nat→Int→Prop
  | bad:¬ MayX cl facts→LfpX cl facts [] 0 2
  | all (k:Nat):MayX cl facts→(∀ i,i < k→(zbJ cl facts i).length < (zbJ cl facts (i+1)).length)→(zbJ cl facts k).length≤24→zbJ cl facts (k+1)=zbJ cl facts k→LfpX cl facts (zbJ cl facts k) k 0
  | much (k:Nat):MayX cl facts→(∀ i,i < k→(zbJ cl facts i).length < (zbJ cl facts (i+1)).length)→24 < (zbJ cl facts (k+1)).length→LfpX cl facts [] 0 14
theorem LfpX.len {l:List AtomD} {n:Nat} {e:Int} (h:LfpX cl facts l n e):l.length≤24:=by
  cases h with
  | bad _=>exact Nat.zero_le _
  | all k _ _ h _=>exact h
  | much k _ _ _=>exact Nat.zero_le _
theorem LfpX.fact {l:List AtomD} {n:Nat} {e:Int} (h:LfpX cl facts l n e):∀ a∈l,FactX a:=by
  cases h with
  | bad _=>nofun
  | all _ hm _ _ _=>exact zef hm n
  | much k _ _ _=>nofun
theorem zvJ {k:Nat} (hm:MayX cl facts) (hb:∀ i,i < k→(zbJ cl facts i).length < (zbJ cl facts (i+1)).length):∀ i,i≤k→i≤(zbJ cl facts i).length
  | 0,_=>Nat.zero_le _
  | i+1,h=>by
    have:=zvJ hm hb i (by omega)
    have:=hb i (by omega)
    omega
theorem LfpX.round {l:List AtomD} {n:Nat} {e:Int} (h:LfpX cl facts l n e):n≤24:=by
  cases h with
  | bad _=>exact Nat.zero_le _
  | all _ hm hb h _=>exact Nat.le_trans (zvJ hm hb n (Nat.le_refl _)) h
  | much k _ _ _=>exact Nat.zero_le _
theorem zrh {k k2:Nat} (hm:MayX cl facts) (h4:(zbJ cl facts k).length≤24) (hs:zbJ cl facts (k+1)=zbJ cl facts k) (h:24 < (zbJ cl facts k2).length):False:=by
  by_cases hk:k2≤k
  · have:=zwD hm hk
    omega
  · have:=zkE hs (k2 - k)
    rw [show k+(k2 - k)=k2 by omega] at this
    rw [this] at h
    omega
theorem LfpX.one {l l2:List AtomD} {n n2:Nat} {e e2:Int} (h:LfpX cl facts l n e) (h2:LfpX cl facts l2 n2 e2):l=l2∧n=n2∧e=e2:=by
  cases h with
  | bad hm =>
    cases h2 with
    | bad _=>exact ⟨rfl,rfl,rfl⟩
    | all k hm2=>exact absurd hm2 hm
    | much k hm2=>exact absurd hm2 hm
  | all _ hm hb h4 hs =>
    cases h2 with
    | bad hm2=>exact absurd hm hm2
    | all _ hm2 hb2 h42 hs2 =>
      have hn:n=n2:=by
        rcases Nat.lt_trichotomy n n2 with hlt | he | hgt
        · have:=hb2 n hlt
          rw [hs] at this
          omega
        · exact he
        · have:=hb n2 hgt
          rw [hs2] at this
          omega
      subst hn
      exact ⟨rfl,rfl,rfl⟩
    | much k2 hm2 hb2 h2=>exact (zrh hm h4 hs h2).elim
  | much k hm hb h =>
    cases h2 with
    | bad hm2=>exact absurd hm hm2
    | all _ hm2 hb2 h42 hs2=>exact (zrh hm h42 hs2 h).elim
    | much k2 _ _ _=>exact ⟨rfl,rfl,rfl⟩
theorem LfpX.zero {l:List AtomD} {n:Nat} (h:LfpX cl facts l n 0):MayX cl facts∧l=zbJ cl facts n∧(∀ i,i < n→(zbJ cl facts i).length < (zbJ cl facts (i+1)).length)∧l.length≤24∧zbJ cl facts (n+1)=l:=by
  cases h with
  | all _ hm hb h4 hs=>exact ⟨hm,rfl,hb,h4,hs⟩
theorem LfpX.iter {l:List AtomD} {n:Nat} {e:Int} (hm:MayX cl facts↔MayX cl2 facts2) (hi:MayX cl facts→∀ n,zbJ cl facts n=zbJ cl2 facts2 n) (h:LfpX cl facts l n e):LfpX cl2 facts2 l n e:=by
  cases h with
  | bad h=>exact .bad (fun x=>h (hm.2 x))
  | all _ h hb h4 hs =>
    rw [hi h n] at h4 ⊢
    rw [hi h,hi h] at hs
    exact .all n (hm.1 h) (fun i hh=>by rw [← hi h,← hi h]; exact hb i hh) h4 hs
  | much k h hb h4 =>
    rw [hi h] at h4
    exact .much k (hm.1 h) (fun i hh=>by rw [← hi h,← hi h]; exact hb i hh) h4
theorem LfpX.same {l:List AtomD} {n:Nat} {e:Int} (hc:∀ c,c∈cl↔c∈cl2) (hf:∀ a,a∈facts↔a∈facts2) (h:LfpX cl facts l n e):LfpX cl2 facts2 l n e :=
  h.iter (zqO hc hf) (fun hm=>zoJ hm hc hf)
end
def Rep.old {α:Type} (r:Rep α) (B:Heap):Rep α:={ k:=r.k,R:=fun h cs x=>Inc B h∧r.R B cs x,len:=fun h cs x hh=>r.len _ _ _ hh.2,mono:=fun h h' cs x i hh=>⟨hh.1.trans i,hh.2⟩,ones:=fun h cs x hh=>r.ones _ _ _ hh.2 }
theorem Sl.old {α:Type} {r:Rep α} {B:Heap} {v:Value} {l:List α} (f:Sl r B v l):Sl (r.old B) B v l:=by
  rcases f with f | ⟨A,o,c,row,u,ro,e1,e2,e3,e4,e5,e6⟩
  · exact .inl f
  · refine .inr ⟨A,o,c,row,u,ro,e1,e2,e3,e4,e5,fun i x hx=>?_⟩
    obtain ⟨cs,g1,g2⟩:=e6 i x hx
    exact ⟨cs,g1,Inc.refl _,g2⟩
theorem zit {α:Type} {r:Rep α} {B h:Heap} {A:Nat} {v:Value} {l:List α} (hk:0 < r.k) (f:Sl r B v l) (i:Inc B h) (i2:Inc B (kill A h)):∃ news,srcA v r.k h=some (l.length,news)∧Src r (kill A h) l.length news l:=by
  obtain ⟨news,h1,h2,h3,h4,h5⟩:=ziW (r:=r.old B) (A:=A) (h:=h) hk (f.old.mono i) (fun cs y hr=>⟨i2,hr.2⟩)
  refine ⟨news,h1,h2,h3,h4,fun j y hy=>?_⟩
  obtain ⟨cs,g1,g2,g3⟩:=h5 j y hy
  exact ⟨cs,g1,r.mono _ _ _ _ i2 g3⟩
theorem zzD {T:Tab} {t e:TypeId} {α:Type} {r:Rep α} {B:Heap} {v:Value} {l:List α} (f:Sl r B v l) (hk:0 < r.k) (hd:T.desc t=some (.slice e)) (hs:zaM T e=some r.k) {b:Nat} {kd:IntKind} (hb:b≤l.length) :
    ∃ v',zba T t v none (some (.int kd b)) none=some v'∧Sl r B v' (l.take b):=by
  have h:=zzJ (bs:=[]) (w:=B.low) f hk hd hs (kd:=kd) hb (K:=fun v' _=>Sl r B v' (l.take b)) (fun _ h=>h)
  cases e:zba T t v none (some (.int kd b)) none with
  | none=>rw [e] at h; exact h.elim
  | some v'=>rw [e] at h; exact ⟨v',rfl,h⟩
end Go.Am
namespace Go.Proofs.YtemapihoobmonaaGreatDoor
open Go.Am
set_option linter.unusedSimpArgs false
set_option linter.unusedVariables false
set_option maxRecDepth 100000
set_option maxHeartbeats 0
theorem zn2:zeL tab 49 49=true:=by kernel_rfl
theorem zvU (l:List ByteArray) (x:ByteArray) (i:Nat) (y:ByteArray):y∈(l.take i++[x])++l.drop i↔y=x∨y∈l:=by
  rw [List.mem_append,List.mem_append,List.mem_singleton]
  conv=>rhs; rw [← List.take_append_drop i l,List.mem_append]
  constructor
  · rintro ((h | h) | h)
    · exact .inr (.inl h)
    · exact .inl h
    · exact .inr (.inr h)
  · rintro (h | h | h)
    · exact .inl (.inr h)
    · exact .inl (.inl h)
    · exact .inr h
theorem zAG (l:List ByteArray) (v:Value) (x0:ByteArray) (h:Heap) (hl:Sl Rep.str h v l) (hn:l.length≤1000) (K:Value→Heap→Prop)
    (hk:∀ h' w l2,Ext h h'→Sl Rep.str h' w l2→(∀ y,y∈l2↔y=x0∨y∈l)→l2.length≤l.length+1→K w h'):Ok Tryz.prog tab ov 75 [v,.string x0] h K:=by
  rw [zaa h]
  have z:=Ext.refl h
  have hv:=zaR v
  have hlv:=fun (hh:Heap)=>hl.lenA ds49 hh
  have hva:∀ (s:ByteArray) (h:Heap) (K:Value→Heap→Prop),valE (some (.string s)) h K=K (.string s) h:=fun _ _ _=>rfl
  refine Ok.into rfl zwJ (zaD N75) rfl (m:=46) rfl ?_
  simp -implicitDefEqProofs only [syms,symx,seval,c75]
  obtain ⟨I1,hI1⟩:∃ I:Nat→Env→Heap→Prop,I=(fun n e h'=>∃ (i:Nat) (h1:Heap),h'=h1.lay [] h1.low∧Ext h h1∧(n=l.length - i∧i≤l.length)∧∃ J:Nat→Value,e=(v::.string x0::jr J 2 3 (.int .i64 i::jr J 6 42 ([])))):=⟨_,rfl⟩
  refine zaC I1 _ (by rw [hI1]; exact ⟨0,_,rfl,z,⟨rfl,by omega⟩,junk (by kernel_rfl)⟩) ?_
  intro n e h' hin
  rw [hI1] at hin
  obtain ⟨i,h1',rfl,z,hinv,J,rfl⟩:=hin
  obtain ⟨rfl,hi⟩:=hinv
  have hw:IntKind.i64.wrap ((i:Int)+1)=((i+1:Nat):Int):=by rw [zad (by omega) (by omega)]; omega
  obtain ⟨v1,hv1,sv1⟩:=zzD (kd:=.i64) hl (by decide) ds49 sz9 hi
  obtain ⟨v2,hv2,sv2⟩:=ztt (kd:=.i64) hl (by decide) ds49 sz9 hi
  have hvv1:=zaR v1
  have hvv2:=zaR v2
  have hzz:=z.size
  simp -implicitDefEqProofs only [syms,symx,seval,c75,hv,hlv]
  refine zar (fun hlt=>?_) (fun hlt=>?_)
  · obtain ⟨r,hr,hr'⟩:=zaY (l:=l) (i:=i) (by omega)
    simp -implicitDefEqProofs only [syms,symx,seval,c75,hv,hlv]
    repeat' ((first | with_reducible_and_instances refine zeh (hl.mono z.inc) ds49 sz9 (by omega) hr (fun p hp=>?_) | with_reducible_and_instances refine zbF hp ag9 ?_) <;> simp -implicitDefEqProofs only [syms,symx,seval,c75,hv,hlv])
    rw [zzj]
    generalize Op.bytesLess r.data.toList x0.data.toList=bb
    cases bb
    · simp -implicitDefEqProofs only [syms,symx,seval,c75,hv,hlv]
      refine zar (fun _=>?_) (fun hx=>absurd hlt hx)
      simp -implicitDefEqProofs only [syms,symx,seval,c75,hv,hlv]
      repeat' ((first | ((with_reducible  apply zar ) <;> intro _) | with_reducible_and_instances refine zeh (hl.mono z.inc) ds49 sz9 (by omega) hr (fun p hp=>?_) | with_reducible_and_instances refine zbF hp ag9 ?_) <;> simp -implicitDefEqProofs only [syms,symx,seval,c75,hv,hlv])
      · have he:r=x0:=by assumption
        (try simp -implicitDefEqProofs only [syms,symx,seval,c75,hv])
        exact hk _ _ l (z.upW _ _ (by omega)) ((hl.mono z.inc).lay _ _) (fun y=>⟨.inr,fun hy=>hy.elim (fun e=>by rw [e,← he]; exact List.mem_of_getElem? hr') id⟩) (by omega)
      · clear hp
        (try simp -implicitDefEqProofs only [syms,symx,seval,c75,hv,hv1,hvv1])
        repeat' ((first | ((with_reducible first | apply zar | apply zd9 | apply ze2 | apply zeP | apply zf0) <;> intro _) | with_reducible_and_instances refine zeh (hl.mono z.inc) ds49 sz9 (by omega) hr (fun p hp=>?_) | with_reducible_and_instances refine zbF hp ag9 ?_) <;> simp -implicitDefEqProofs only [syms,symx,seval,c75,hv,hv1,hvv1])
        simp -implicitDefEqProofs only [syms,symx,seval,c75,za3,zn2]
        have f0:Ow Rep.str h (h1'.lay [Blk.row [] 9 false] h1'.low) 9 (h1'.size+1) (.slice (some ⟨h1'.size+0,0,none⟩) 0 0) [] :=
          .inl ⟨by omega,rfl,.inr ⟨h1'.size+0,0,rfl,by omega,by rw [zag]; simp,[],9,false,by rw [zbc]; rfl⟩⟩
        obtain ⟨news1,hs1,hsr1⟩:=zit (A:=h1'.size+1) (h:=h1'.lay [Blk.row [] 9 false] h1'.low) (r:=Rep.str) (by decide) sv1 (z.inc.trans (Inc.lay _ _ _)) (zgJ (z.inc.trans (Inc.lay _ _ _)) (by omega))
        obtain ⟨w3,h3,A3,g1,o3,cg3,g4,g5⟩:=zhV (t:=49) ds49 zcf rfl (by decide) (by rw [zag]; omega) f0 hs1 hsr1 (by rw [List.length_take]; simp only [List.length_nil]; omega) (by rw [List.length_take]; simp only [List.length_nil]; omega)
        rw [g1]
        replace z:=z.stepW cg3 (by omega) (by omega)
        rw [List.nil_append] at o3
        have hvw3:=zaR w3
        have hz3:=z.size
        rw [zaa h3]
        repeat' ( simp -implicitDefEqProofs only [syms,symx,seval,c75,hvw3,hva])
        simp -implicitDefEqProofs only [syms,symx,seval,c75,za3,zn2,hvw3]
        refine zdD (i:=0) (cs:=[.string x0]) (x:=x0) ds49 zcf rfl (by decide) (by rfl) hz3 o3 rfl (by rw [List.length_take]; omega) (by rw [List.length_take]; omega) (fun w4 h4 A4 o4 cg4 hA4=>?_)
        have hfA3:=o3.fresh
        replace z:=z.stepW cg4 hfA3 (by omega)
        have hvw4:=zaR w4
        have hz4:=z.size
        have hfA4:=o4.fresh
        rw [zaa h4]
        repeat' ( simp -implicitDefEqProofs only [syms,symx,seval,c75,hvw4,hv,hv2,hvv2])
        simp -implicitDefEqProofs only [syms,symx,seval,c75,za3,zn2,hvw4]
        obtain ⟨news5,hs5,hsr5⟩:=zit (A:=A4) (h:=h4.lay [] h4.low) (r:=Rep.str) (by decide) sv2 (z.inc.trans (Inc.lay _ _ _)) (zgJ (z.inc.trans (Inc.lay _ _ _)) (by omega))
        obtain ⟨w5,h5,A5,g6,o5,cg5,g7,g8⟩:=zhV (t:=49) ds49 zcf rfl (by decide) (by rw [zag,]; omega) (o4.mono (Inc.lay _ _ _)) hs5 hsr5 (by rw [List.length_append,List.length_take,List.length_drop]; simp only [List.length_singleton]; omega) (by rw [List.length_append,List.length_take,List.length_drop]; simp only [List.length_singleton]; omega)
        rw [g6]
        replace z:=z.stepW cg5 hfA4 (by omega)
        have s5:=o5.sl (by decide)
        have hvw5:=zaR w5
        rw [zaa h5]
        simp -implicitDefEqProofs only [syms,symx,seval,c75,hvw5]
        exact hk _ _ _ (z.upW _ _ (by omega)) (s5.lay _ _) (zvU l x0 i) (by rw [List.length_append,List.length_append,List.length_take,List.length_drop]; simp only [List.length_singleton]; omega)
    · simp -implicitDefEqProofs only [syms,symx,seval,c75]
      rw [hw]
      (rw [hI1]; with_reducible refine zac (m:=_) ?_ ⟨i+1,_,rfl,z,⟨rfl,by omega⟩,junk (by kernel_rfl)⟩; omega)
  · simp -implicitDefEqProofs only [syms,symx,seval,c75,hv,hlv]
    refine zar (fun hx=>absurd hx hlt) (fun _=>?_)
    repeat' ( simp -implicitDefEqProofs only [syms,symx,seval,c75,hv,hv1,hvv1])
    simp -implicitDefEqProofs only [syms,symx,seval,c75,za3,zn2]
    have f0:Ow Rep.str h (h1'.lay [Blk.row [] 9 false] h1'.low) 9 (h1'.size+1) (.slice (some ⟨h1'.size+0,0,none⟩) 0 0) [] :=
      .inl ⟨by omega,rfl,.inr ⟨h1'.size+0,0,rfl,by omega,by rw [zag]; simp,[],9,false,by rw [zbc]; rfl⟩⟩
    obtain ⟨news1,hs1,hsr1⟩:=zit (A:=h1'.size+1) (h:=h1'.lay [Blk.row [] 9 false] h1'.low) (r:=Rep.str) (by decide) sv1 (z.inc.trans (Inc.lay _ _ _)) (zgJ (z.inc.trans (Inc.lay _ _ _)) (by omega))
    obtain ⟨w3,h3,A3,g1,o3,cg3,g4,g5⟩:=zhV (t:=49) ds49 zcf rfl (by decide) (by rw [zag]; omega) f0 hs1 hsr1 (by rw [List.length_take]; simp only [List.length_nil]; omega) (by rw [List.length_take]; simp only [List.length_nil]; omega)
    rw [g1]
    replace z:=z.stepW cg3 (by omega) (by omega)
    rw [List.nil_append] at o3
    have hvw3:=zaR w3
    have hz3:=z.size
    rw [zaa h3]
    repeat' ( simp -implicitDefEqProofs only [syms,symx,seval,c75,hvw3,hva])
    simp -implicitDefEqProofs only [syms,symx,seval,c75,za3,zn2,hvw3]
    refine zdD (i:=0) (cs:=[.string x0]) (x:=x0) ds49 zcf rfl (by decide) (by rfl) hz3 o3 rfl (by rw [List.length_take]; omega) (by rw [List.length_take]; omega) (fun w4 h4 A4 o4 cg4 hA4=>?_)
    have hfA3:=o3.fresh
    replace z:=z.stepW cg4 hfA3 (by omega)
    have hvw4:=zaR w4
    have hz4:=z.size
    have hfA4:=o4.fresh
    rw [zaa h4]
    repeat' ( simp -implicitDefEqProofs only [syms,symx,seval,c75,hvw4,hv,hv2,hvv2])
    simp -implicitDefEqProofs only [syms,symx,seval,c75,za3,zn2,hvw4]
    obtain ⟨news5,hs5,hsr5⟩:=zit (A:=A4) (h:=h4.lay [] h4.low) (r:=Rep.str) (by decide) sv2 (z.inc.trans (Inc.lay _ _ _)) (zgJ (z.inc.trans (Inc.lay _ _ _)) (by omega))
    obtain ⟨w5,h5,A5,g6,o5,cg5,g7,g8⟩:=zhV (t:=49) ds49 zcf rfl (by decide) (by rw [zag,]; omega) (o4.mono (Inc.lay _ _ _)) hs5 hsr5 (by rw [List.length_append,List.length_take,List.length_drop]; simp only [List.length_singleton]; omega) (by rw [List.length_append,List.length_take,List.length_drop]; simp only [List.length_singleton]; omega)
    rw [g6]
    replace z:=z.stepW cg5 hfA4 (by omega)
    have s5:=o5.sl (by decide)
    have hvw5:=zaR w5
    rw [zaa h5]
    simp -implicitDefEqProofs only [syms,symx,seval,c75,hvw5]
    exact hk _ _ _ (z.upW _ _ (by omega)) (s5.lay _ _) (zvU l x0 i) (by rw [List.length_append,List.length_append,List.length_take,List.length_drop]; simp only [List.length_singleton]; omega)
theorem zpa {l:List ClearD} {i:Nat} {c:ClearD} {who:ByteArray} (hc:l[i]? = some c) (hw:c.who=who) (hall:∀ e∈l.take i,¬ e.who=who):zc7 l who=c.reads:=by
  have hi:=(List.getElem?_eq_some_iff.1 hc).1
  have e:l=l.take i++c::l.drop (i+1):=by
    conv=>lhs; rw [← List.take_append_drop i l,List.drop_eq_getElem_cons hi,(List.getElem?_eq_some_iff.1 hc).2]
  have h1:(l.take i).find? (fun c:ClearD=>decide (c.who=who))=none:=List.find?_eq_none.2 fun x hx=>by simpa using hall x hx
  unfold zc7
  rw [e,List.find?_append,h1,Option.none_or,List.find?_cons_of_pos (by simpa using hw)]
theorem zuc {l:List ClearD} {who:ByteArray} (hall:∀ e∈l,¬ e.who=who):zc7 l who=[]:=by
  unfold zc7
  rw [List.find?_eq_none.2 fun x hx=>by simpa using hall x hx]
theorem zpn (d:PolicyD) (who:ByteArray) (p0 p1 p2 p5 p6:Value) (q b:Int) (h:Heap) (hone:(zaE p0 p1 p2 p5 p6 q b).all Am.one=true) (hd:PolK h p0 p1 p2 p5 p6 d) (hps:d.principals.length≤1000) (hcl:d.clears.length≤1000) (hrl:∀ c∈d.clears,c.reads.length≤40) (K:Value→Heap→Prop)
    (hk:∀ h' w l,Ext h h'→Sl Rep.str h' w l→l.length≤41→(∀ y,hasB l y=zer d who y)→K w h'):Ok Tryz.prog tab ov 27 [zbZ p0 p1 p2 p5 p6 q b,.string who] h K:=by
  rw [zaa h]
  have z:=Ext.refl h
  have hv2:=zaR p2
  have hlc:=fun (hh:Heap)=>hd.s2.lenA ds51 hh
  have hva:∀ (s:ByteArray) (h:Heap) (K:Value→Heap→Prop),valE (some (.string s)) h K=K (.string s) h:=fun _ _ _=>rfl
  refine Ok.into rfl zx0 (zaD N27) rfl (m:=50) rfl ?_
  repeat' ( simp -implicitDefEqProofs only [syms,symx,seval,c27,zaq,↓zaJ,zaI,zaz,hva])
  refine zzr d.principals who _ _ _ _ _ _ _ _ (hd.s0.lay _ _) _ (fun h' x=>?_)
  have q0:=Holds.top (i:=0) x rfl
  ((skip); replace z:=z.overW x (by (try simp only [lsz]); omega); rw [zaa h'])
  obtain ⟨P0,hP0⟩:∃ P0,P0=h.size+0:=⟨_,rfl⟩
  rw [← hP0] at q0 ⊢
  cases hh:hasS d.principals who
  · repeat' (first | simp -implicitDefEqProofs only [syms,symx,seval,c27,Bool.not_false] | ((with_reducible_and_instances apply zap); (· rfl)))
    exact hk _ _ [] (z.upW _ _ (by omega)) Sl.nil (by simp) (fun y=>by unfold zer; rw [show hasB d.principals who=false from hh]; rfl)
  have hse:∀ y,zer d who y=(decide (who=y) || hasB (zc7 d.clears who) y):=fun y=>by unfold zer; rw [show hasB d.principals who=true from hh,Bool.true_and]
  have hz0:=z.size
  repeat' (first | simp -implicitDefEqProofs only [syms,symx,seval,c27,Bool.not_true,hva] | ((with_reducible_and_instances apply zap); (· rfl)))
  refine zjc (fun h' x hq=>?_)
  have e0:=hq 0 _ rfl
  clear hq
  (replace z:=z.overW x (by (try simp only [lsz]); omega); (try replace q0:=q0.over x); rw [zaa h'])
  have hG:=zlu
  have s0:=StrRow.sl (l:=[who]) ⟨1,rfl,.inl ⟨by omega,Nat.le_refl _⟩,e0⟩ (by simp)
  obtain ⟨I1,hI1⟩:∃ I:Nat→Env→Heap→Prop,I=(fun n e h'=>∃ (i:Nat) (wv:Value) (h1:Heap),h'=h1.lay [] h1.low∧Ext h h1∧(n=d.clears.length - i∧i≤d.clears.length∧(∀ c∈d.clears.take i,¬ c.who=who)∧Sl Rep.str h1 wv [who]∧Holds h1 P0 (.row (zaE p0 p1 p2 p5 p6 q b) 55 false))∧∃ J:Nat→Value,e=(J 0::.string who::.pointer (some ⟨P0,0,none⟩)::jr J 3 2 (wv::.int .i64 i::jr J 7 45 ([])))):=⟨_,rfl⟩
  refine zaC I1 _ (by rw [hI1]; exact ⟨0,_,_,rfl,z,⟨rfl,by omega,by simp,s0,q0⟩,junk (by kernel_rfl)⟩) ?_
  intro n e h' hin
  rw [hI1] at hin
  obtain ⟨i,wv,h1',rfl,z,hinv,J,rfl⟩:=hin
  clear q0 s0 e0
  obtain ⟨rfl,hi,hno,sv,q0⟩:=hinv
  have hwi:IntKind.i64.wrap ((i:Int)+1)=((i+1:Nat):Int):=by rw [zad (by omega) (by omega)]; omega
  have hvw:=zaR wv
  simp -implicitDefEqProofs only [syms,symx,seval,c27,q0.lay,pol2,hv2,hlc]
  refine zar (fun hlt=>?_) (fun hlt=>?_)
  · obtain ⟨c,hc,hc'⟩:=zaY (l:=d.clears) (i:=i) (by omega)
    have hcm:=List.mem_of_getElem? hc'
    have hcr:=hrl c hcm
    simp -implicitDefEqProofs only [syms,symx,seval,c27,q0.lay,pol2,hv2,hlc]
    repeat' ((first | ((with_reducible  apply zar ) <;> intro _) | with_reducible_and_instances refine zi1 (hd.s2.mono z.inc) ds51 zkl (by omega) hc (fun p bd hbd hp=>?_) | with_reducible_and_instances refine fdP0 hp zjN (fun qq hq=>?_) | with_reducible_and_instances refine zbF hq ag9 ?_) <;> simp -implicitDefEqProofs only [syms,symx,seval,c27,q0.lay,pol2,hv2,hlc,hva])
    · have hcw:c.who=who:=by assumption
      have hrd:=zpa hc' hcw hno
      clear hp hq
      have hbd0:=hbd
      obtain ⟨I2,hI2⟩:∃ I:Nat→Env→Heap→Prop,I=(fun n e h'=>∃ (k:Nat) (wu:Value) (lu:List ByteArray) (h1:Heap),h'=h1.lay [] h1.low∧Ext h h1∧(n=c.reads.length - k∧k≤c.reads.length∧Sl Rep.str h1 wu lu∧lu.length≤k+1∧(∀ y,y∈lu↔y=who∨y∈c.reads.take k)∧Holds h1 P0 (.row (zaE p0 p1 p2 p5 p6 q b) 55 false))∧∃ J:Nat→Value,e=(J 0::.string who::.pointer (some ⟨P0,0,none⟩)::jr J 3 2 (wu::.int .i64 i::.int .i64 k::jr J 8 44 ([])))):=⟨_,rfl⟩
      refine zaC I2 _ (by rw [hI2]; exact ⟨0,_,[who],_,rfl,z,⟨rfl,by omega,sv,by simp,by simp,q0⟩,junk (by kernel_rfl)⟩) ?_
      intro n e h' hin
      rw [hI2] at hin
      obtain ⟨k,wu,lu,h2',rfl,z,hinv,J,rfl⟩:=hin
      clear q0 sv hbd hbd0
      obtain ⟨rfl,hki,su,hul,hum,q0⟩:=hinv
      have hwk:IntKind.i64.wrap ((k:Int)+1)=((k+1:Nat):Int):=by rw [zad (by omega) (by omega)]; omega
      have hvu:=zaR wu
      simp -implicitDefEqProofs only [syms,symx,seval,c27,q0.lay,pol2,hv2,hlc]
      repeat' ((first | with_reducible_and_instances refine zi1 (hd.s2.mono z.inc) ds51 zkl (by omega) hc (fun p bd hbd hp=>?_) | with_reducible_and_instances refine fdP1 hp zf3 (fun qq hq=>?_) | with_reducible_and_instances refine zbF hq ag49 ?_) <;> simp -implicitDefEqProofs only [syms,symx,seval,c27,q0.lay,pol2,hv2,hlc])
      have hlb:=fun (hh:Heap)=>hbd.lenA ds49 hh
      simp -implicitDefEqProofs only [syms,symx,seval,c27,hlb]
      refine zar (fun hlk=>?_) (fun hlk=>?_)
      · obtain ⟨r,hr,hr'⟩:=zaY (l:=c.reads) (i:=k) (by omega)
        clear hp hq
        simp -implicitDefEqProofs only [syms,symx,seval,c27,q0.lay,pol2,hv2,hvu]
        repeat' ((first | with_reducible_and_instances refine zi1 (hd.s2.mono z.inc) ds51 zkl (by omega) hc (fun p bd2 hbd2 hp=>?_) | with_reducible_and_instances refine fdP1 hp zf3 (fun qq hq=>?_) | with_reducible_and_instances refine zbF hq ag49 ?_ | with_reducible_and_instances refine zeh hbd2 ds49 sz9 (by omega) hr (fun p hp=>?_) | with_reducible_and_instances refine zbF hp ag9 ?_) <;> simp -implicitDefEqProofs only [syms,symx,seval,c27,q0.lay,pol2,hv2,hvu,hva])
        refine zAG lu wu r _ (su.lay _ _) (by omega) _ (fun h' w2 l2 x s2 hm2 hl2=>?_)
        ((skip); replace z:=z.overW x (by (try simp only [lsz]); omega); (try replace q0:=q0.over x); rw [zaa h'])
        have hvw2:=zaR w2
        repeat' ( simp -implicitDefEqProofs only [syms,symx,seval,c27,hvw2])
        rw [hwk]
        (rw [hI2]; with_reducible refine zac (m:=_) ?_ ⟨k+1,w2,l2,_,rfl,z,⟨rfl,by omega,s2,by omega,fun y=>by
          rw [hm2,hum,List.take_add_one,hr',List.mem_append,Option.toList_some,List.mem_singleton]
          exact ⟨fun h=>h.elim (fun e=>.inr (.inr e)) (fun h=>h.elim .inl (fun e=>.inr (.inl e))),fun h=>h.elim (fun e=>.inr (.inl e)) (fun h=>h.elim (fun e=>.inr (.inr e)) .inl)⟩,q0⟩,junk (by kernel_rfl)⟩; omega)
      · rw [List.take_of_length_le (by omega)] at hum
        have hb1:∀ (Q:Ex→Env→Heap→Prop) (e:Env) (h:Heap),zeX 3 Q (.exit 2) e h=Q (.exit 2) e h:=fun Q e h=>rfl
        have hb2:∀ (Q:Ex→Env→Heap→Prop) (e:Env) (h:Heap),zeX 1 Q (.exit 0) e h=Q (.exit 0) e h:=fun Q e h=>rfl
        repeat' ( simp -implicitDefEqProofs only [syms,symx,seval,c27,hvu,hb1,hb2])
        exact hk _ _ lu (z.upW _ _ (by omega)) (su.lay _ _) (by omega) (fun y=>by
          rw [Bool.eq_iff_iff,hasB_iff,hum,hse,Bool.or_eq_true,decide_eq_true_iff,hasB_iff,hrd]
          exact ⟨fun h=>h.imp Eq.symm id,fun h=>h.imp Eq.symm id⟩)
    · have hcw:¬ c.who=who:=by assumption
      rw [hwi]
      (rw [hI1]; with_reducible refine zac (m:=_) ?_ ⟨i+1,wv,_,rfl,z,⟨rfl,by omega,zci (i:=i) (P:=fun e:ClearD=>¬ e.who=who) hc' hno hcw,sv,q0⟩,junk (by kernel_rfl)⟩; omega)
  · have hrd:=zuc (l:=d.clears) (who:=who) (by rw [List.take_of_length_le (by omega)] at hno; exact hno)
    repeat' ( simp -implicitDefEqProofs only [syms,symx,seval,c27,hvw])
    exact hk _ _ [who] (z.upW _ _ (by omega)) (sv.lay _ _) (by simp) (fun y=>by rw [hse,hrd]; simp [hasB])
end Go.Proofs.YtemapihoobmonaaGreatDoor
