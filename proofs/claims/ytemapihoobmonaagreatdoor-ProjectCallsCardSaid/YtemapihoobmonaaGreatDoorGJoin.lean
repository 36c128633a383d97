/- Matching, joining and rounds as plain functions: what they give, and that nothing is missed. No condition. -/
import Derived.Test.YtemapihoobmonaaGreatDoorG17
import Derived.Test.YtemapihoobmonaaGreatDoorG18
namespace Go.Am
set_option linter.unusedVariables false
/-! ### Bindings of ground terms -/
structure Good (l:List BindD):Prop where
  up:zi8 l l.length
  ok:∀ b∈l,b.term.v=false∧b.term.s≠⟨#[]⟩
theorem Good.chk {l:List BindD} (h:Good l):ChkD l:=⟨h.up,fun b hb=>⟨(h.ok b hb).2,by rw [(h.ok b hb).1]; simp⟩⟩
theorem zxj:Good []:=⟨zrR (Nat.zero_le _),nofun⟩
theorem zbV (x:BindD) (l:List BindD) (s:ByteArray):za2 (x::l) s=if x.var=s then (x.term,true) else za2 l s:=by
  unfold za2
  rw [List.find?_cons]
  by_cases h:x.var=s <;> simp [h]
theorem zsT {l:List BindD} {s:ByteArray} {t:TermD} (h:za2 l s=(t,true)):⟨s,t⟩∈l:=by
  induction l with
  | nil=>cases h
  | cons x l ih =>
    rw [zbV] at h
    split at h
    · rename_i hx
      cases h
      subst hx
      exact List.mem_cons_self
    · exact List.mem_cons_of_mem _ (ih h)
theorem zku {l:List BindD} {s:ByteArray} (h:(za2 l s).2=false):∀ b∈l,b.var≠s:=by
  induction l with
  | nil=>intro b hb; cases hb
  | cons x l ih =>
    rw [zbV] at h
    split at h
    · cases h
    · rename_i hx
      intro b hb
      rcases List.mem_cons.1 hb with rfl | hb
      · exact hx
      · exact ih h b hb
theorem znm {l:List BindD} {s:ByteArray} (h:(za2 l s).2=true):za2 l s=((za2 l s).1,true):=by
  rw [← h]
theorem zjX (b:BindD):zh3 [] b=[b]:=rfl
theorem zhn (x:BindD) (l:List BindD) (b:BindD):zh3 (x::l) b=if slt b.var x.var=true then b::x::l else x::zh3 l b:=by
  unfold zh3
  rw [List.takeWhile_cons,List.dropWhile_cons]
  cases h:slt b.var x.var <;> simp
theorem mem_withD {l:List BindD} {b y:BindD}:y∈zh3 l b↔y=b∨y∈l:=by
  induction l with
  | nil=>simp [zjX]
  | cons x l ih =>
    rw [zhn]
    split
    · simp
    · simp only [List.mem_cons,ih]
      constructor
      · rintro (h | h | h)
        · exact .inr (.inl h)
        · exact .inl h
        · exact .inr (.inr h)
      · rintro (h | h | h)
        · exact .inr (.inl h)
        · exact .inl h
        · exact .inr (.inr h)
theorem zfR {l:List BindD} {b:BindD} (hn:(za2 l b.var).2=false) (s:ByteArray):za2 (zh3 l b) s=if b.var=s then (b.term,true) else za2 l s:=by
  induction l with
  | nil=>rw [zjX,zbV]
  | cons x l ih =>
    have hx:=zku hn x List.mem_cons_self
    rw [zbV,if_neg hx] at hn
    rw [zhn]
    split
    · rw [zbV]
    · rw [zbV,ih hn,zbV]
      by_cases h:x.var=s
      · subst h
        rw [if_pos rfl,if_neg (fun e=>hx e.symm),if_pos rfl]
      · rw [if_neg h,if_neg h]
theorem zry {l:List BindD}:zi8 l l.length↔l.Pairwise fun x y=>slt x.var y.var=true:=by
  constructor
  · intro h
    rw [List.pairwise_iff_getElem]
    intro i j hi hj hij
    exact zu7 h hij (List.getElem?_eq_getElem hi) (List.getElem?_eq_getElem hj)
  · intro h k x y hk hx hy
    rw [List.pairwise_iff_getElem] at h
    obtain ⟨h1,e1⟩:=List.getElem?_eq_some_iff.1 hx
    obtain ⟨h2,e2⟩:=List.getElem?_eq_some_iff.1 hy
    have:=h k (k+1) h1 h2 (Nat.lt_succ_self _)
    rw [e1,e2] at this
    exact this
theorem zpi {l:List BindD} {b:BindD} (h:zi8 l l.length) (hn:(za2 l b.var).2=false):zi8 (zh3 l b) (zh3 l b).length:=by
  rw [zry] at h ⊢
  induction l with
  | nil=>rw [zjX]; exact List.pairwise_singleton _ _
  | cons x l ih =>
    have hx:=zku hn x List.mem_cons_self
    rw [zbV,if_neg hx] at hn
    rw [List.pairwise_cons] at h
    rw [zhn]
    split
    · rename_i hs
      refine List.pairwise_cons.2 ⟨fun y hy=>?_,List.pairwise_cons.2 h⟩
      rcases List.mem_cons.1 hy with rfl | hy
      · exact hs
      · exact znz hs (h.1 y hy)
    · rename_i hs
      refine List.pairwise_cons.2 ⟨fun y hy=>?_,ih h.2 hn⟩
      rcases mem_withD.1 hy with rfl | hy
      · cases hq:slt x.var y.var
        · exact absurd (zwm hq (by simpa using hs)) hx
        · rfl
      · exact h.1 y hy
theorem Good.get {l:List BindD} (h:Good l) {s:ByteArray} {t:TermD} (e:za2 l s=(t,true)):t.v=false∧t.s≠⟨#[]⟩:=h.ok _ (zsT e)
theorem Good.with {l:List BindD} (h:Good l) {b:BindD} (hn:(za2 l b.var).2=false) (hv:b.term.v=false) (hs:b.term.s≠⟨#[]⟩):Good (zh3 l b) :=
  ⟨zpi h.up hn,fun y hy=>(mem_withD.1 hy).elim (fun e=>by rw [e]; exact ⟨hv,hs⟩) (h.ok y)⟩
theorem zc2 {l:List BindD} {t:TermD} (h:t.v=false):zdW l t=t:=by
  unfold zdW
  rw [if_neg (by rw [h]; simp)]
theorem zeB {l:List BindD} {t u:TermD} (h:za2 l t.s=(u,true)) (hv:t.v=true):zdW l t=u:=by
  unfold zdW
  rw [h,if_pos ⟨rfl,hv⟩]
theorem zkH {l:List BindD} {t u:TermD} (h:zdW l t=u) (hv:t.v=true) (hu:u.v=false):za2 l t.s=(u,true):=by
  unfold zdW at h
  split at h
  · rename_i hc
    rw [znm hc.1,h]
  · rw [h,hu] at hv
    cases hv
theorem zpP {l m:List BindD} (h:Good l):ztW l m=l:=by
  unfold ztW
  conv=>rhs; rw [← List.map_id l]
  refine List.map_congr_left (fun b hb=>?_)
  rw [zc2 (h.ok b hb).1]
  rfl
theorem zsZ {l:List BindD} (h:Good l) {v:ByteArray} {t:TermD} (hv:v≠⟨#[]⟩) (ht:t.v=false) (hs:t.s≠⟨#[]⟩) (hn:(za2 l v).2=false):ztP l v t=some (zh3 l ⟨v,t⟩):=by
  unfold ztP
  rw [if_neg (by simpa using h.chk),if_neg (fun e=>e.elim hv hs),if_neg (by rw [hn]; decide),zc2 ht,if_neg (by unfold ownD; simp [ht]),zpP h]
theorem zrr {l m:List BindD} {v:ByteArray} {t:TermD} (h:ztP l v t=some m):v≠⟨#[]⟩∧t.s≠⟨#[]⟩∧(za2 l v).2=false:=by
  unfold ztP at h
  split at h
  · cases h
  split at h
  · cases h
  rename_i h2
  split at h
  · cases h
  rename_i h3
  exact ⟨fun e=>h2 (.inl e),fun e=>h2 (.inr e),by simpa using h3⟩
/-! ### One place of a pattern -/
def LeB (l m:List BindD):Prop:=∀ s t,za2 l s=(t,true)→za2 m s=(t,true)
theorem LeB.refl (l:List BindD):LeB l l:=fun _ _ h=>h
theorem LeB.trans {a b c:List BindD} (h:LeB a b) (g:LeB b c):LeB a c:=fun s t e=>g s t (h s t e)
theorem zw6 {l:List BindD} {b:BindD} (hn:(za2 l b.var).2=false):LeB l (zh3 l b):=fun s t h=>by
  rw [zfR hn,if_neg]
  · exact h
  · intro e
    rw [e,h] at hn
    cases hn
theorem zqI {l m:List BindD} {x y:TermD} (h:LeB l m) (e:zdW l x=y) (hy:y.v=false):zdW m x=y:=by
  cases hv:x.v
  · rw [zc2 hv] at e ⊢
    exact e
  · exact zeB (h _ _ (zkH e hv hy)) hv
theorem zqc {out m:List BindD} {x y:TermD} (h:Good out) (hy:y.v=false) (e:zqN out x y=some m) :
    Good m∧LeB out m∧zdW m x=y∧∀ s t,za2 m s=(t,true)→za2 out s=(t,true)∨(x.v=true∧x.s=s∧t=y):=by
  unfold zqN at e
  split at e
  · rename_i hx
    split at e
    · rename_i hxy
      cases e
      subst hxy
      exact ⟨h,LeB.refl _,zc2 hx,fun s t g=>.inl g⟩
    · cases e
  · rename_i hx
    have hx:x.v=true:=by simpa using hx
    split at e
    · rename_i hb
      split at e
      · rename_i hz
        cases e
        refine ⟨h,LeB.refl _,?_,fun s t g=>.inl g⟩
        rw [← hz]
        exact zeB (znm hb) hx
      · cases e
    · rename_i hb
      have hb:(za2 out x.s).2=false:=by simpa using hb
      obtain ⟨g1,g2,g3⟩:=zrr e
      rw [zsZ h g1 hy g2 hb] at e
      cases e
      refine ⟨h.with hb hy g2,zw6 hb,?_,fun s t g=>?_⟩
      · refine zeB ?_ hx
        rw [zfR hb,if_pos rfl]
      · rw [zfR hb] at g
        split at g
        · rename_i hs
          cases g
          exact .inr ⟨hx,hs,rfl⟩
        · exact .inl g
theorem zhP {p g:AtomD} {out:List BindD} (h:Good out):∀ {k:Nat} {m:List BindD},(∀ i,i < k→(g.arg i).v=false)→zjl p g k out=some m →
    Good m∧LeB out m∧(∀ i,i < k→zdW m (p.arg i)=g.arg i)∧∀ s t,za2 m s=(t,true)→za2 out s=(t,true)∨∃ i,i < k∧(p.arg i).v=true∧(p.arg i).s=s∧t=g.arg i
  | 0,m,_,e=>by
    cases e
    exact ⟨h,LeB.refl _,fun i hi=>absurd hi (Nat.not_lt_zero _),fun s t g=>.inl g⟩
  | k+1,m,hg,e=>by
    unfold zjl at e
    cases ho:zjl p g k out with
    | none=>rw [ho] at e; cases e
    | some o =>
      rw [ho] at e
      obtain ⟨g1,g2,g3,g4⟩:=zhP h (fun i hi=>hg i (Nat.lt_succ_of_lt hi)) ho
      obtain ⟨f1,f2,f3,f4⟩:=zqc g1 (hg k (Nat.lt_succ_self _)) (show zqN o (p.arg k) (g.arg k)=some m from e)
      refine ⟨f1,g2.trans f2,fun i hi=>?_,fun s t hst=>?_⟩
      · by_cases he:i=k
        · subst he; exact f3
        · exact zqI f2 (g3 i (by omega)) (hg i hi)
      · rcases f4 s t hst with q | q
        · rcases g4 s t q with q | ⟨i,hi,q⟩
          · exact .inl q
          · exact .inr ⟨i,Nat.lt_succ_of_lt hi,q⟩
        · exact .inr ⟨k,Nat.lt_succ_self _,q⟩
/-! ### One atom -/
theorem alikeD_iff {a b:AtomD}:zjP a b=true↔a.says=b.says∧a.pred=b.pred∧a.n=b.n∧0≤a.n∧a.n≤4:=by
  unfold zjP
  simp only [Bool.and_eq_true,decide_eq_true_eq]
theorem zyJ {a:AtomD} (h0:0≤a.n) (h4:a.n≤4):a.cnt=a.n.toNat:=by unfold AtomD.cnt; omega
theorem zvl {l m:List BindD} {p g:AtomD} (h:Good l) (e:extD l p g=some m) :
    Good m∧LeB l m∧zjP p g=true∧g.ground=true∧(∀ i,i < p.cnt→zdW m (p.arg i)=g.arg i)∧∀ s t,za2 m s=(t,true)→za2 l s=(t,true)∨∃ i,i < p.cnt∧(p.arg i).v=true∧(p.arg i).s=s∧t=g.arg i:=by
  unfold extD at e
  split at e
  · cases e
  rename_i hc
  split at e
  · cases e
  have ha:zjP p g=true:=by
    cases hq:zjP p g
    · exact absurd (.inr (.inl hq)) hc
    · rfl
  have hg:g.ground=true:=by
    cases hq:g.ground
    · exact absurd (.inr (.inr hq)) hc
    · rfl
  obtain ⟨_,_,e3,e4,e5⟩:=alikeD_iff.1 ha
  rw [← zyJ e4 e5] at e
  have hgn:g.cnt=p.cnt:=by unfold AtomD.cnt; rw [e3]
  obtain ⟨f1,f2,f3,f4⟩:=zhP h (fun i hi=>ground_iff.1 hg i (by rw [hgn]; exact hi)) e
  exact ⟨f1,f2,ha,hg,f3,f4⟩
/-! ### A body -/
theorem zrm {ps gs:List AtomD}:∀ {l m:List BindD},Good l→gs.length=ps.length→zqu ps gs l=some m →
    Good m∧LeB l m∧(∀ (k:Nat) p g,ps[k]? = some p→gs[k]? = some g→zjP p g=true∧g.ground=true∧∀ i,i < p.cnt→zdW m (p.arg i)=g.arg i) ∧
      ∀ s t,za2 m s=(t,true)→za2 l s=(t,true)∨∃ p∈ps,∃ g∈gs,g.cnt=p.cnt∧∃ i,i < p.cnt∧(p.arg i).v=true∧(p.arg i).s=s∧t=g.arg i:=by
  induction ps generalizing gs with
  | nil =>
    intro l m h hl e
    have hgs:gs=[]:=by simpa using hl
    subst hgs
    cases e
    exact ⟨h,LeB.refl _,fun k p g hp=>by simp at hp,fun s t q=>.inl q⟩
  | cons p ps ih =>
    intro l m h hl e
    match gs,hl,e with
    | g::gs,hl,e =>
      have hl2:gs.length=ps.length:=by simpa using hl
      have e:(extD l p g).bind (zqu ps gs)=some m:=e
      cases hx:extD l p g with
      | none=>rw [hx] at e; cases e
      | some o =>
        rw [hx] at e
        obtain ⟨f1,f2,f3,f4,f5,f6⟩:=zvl h hx
        obtain ⟨g1,g2,g3,g4⟩:=ih f1 hl2 (show zqu ps gs o=some m from e)
        obtain ⟨_,_,e3,_,_⟩:=alikeD_iff.1 f3
        have hgn:g.cnt=p.cnt:=by unfold AtomD.cnt; rw [e3]
        refine ⟨g1,f2.trans g2,fun k p' g' hp' hg'=>?_,fun s t q=>?_⟩
        · cases k with
          | zero =>
            simp at hp' hg'
            subst hp'
            subst hg'
            exact ⟨f3,f4,fun i hi=>zqI g2 (f5 i hi) (ground_iff.1 f4 i (by rw [hgn]; exact hi))⟩
          | succ k=>exact g3 k p' g' (by simpa using hp') (by simpa using hg')
        · rcases g4 s t q with q | ⟨p',hp',g',hg',q⟩
          · rcases f6 s t q with q | ⟨i,hi,q⟩
            · exact .inl q
            · exact .inr ⟨p,List.mem_cons_self,g,List.mem_cons_self,hgn,i,hi,q⟩
          · exact .inr ⟨p',List.mem_cons_of_mem _ hp',g',List.mem_cons_of_mem _ hg',q⟩
/-! ### An atom under bindings -/
def znD (l:List BindD) (a:AtomD):AtomD :=
  { a with t0:=if 0 < a.cnt then zdW l a.t0 else a.t0,t1:=if 1 < a.cnt then zdW l a.t1 else a.t1,t2:=if 2 < a.cnt then zdW l a.t2 else a.t2,t3:=if 3 < a.cnt then zdW l a.t3 else a.t3 }
theorem zk4 (l:List BindD) (a:AtomD) {i:Nat} (hi:i < 4):(znD l a).arg i=if i < a.cnt then zdW l (a.arg i) else a.arg i:=by
  have:i=0∨i=1∨i=2∨i=3:=by omega
  rcases this with rfl | rfl | rfl | rfl <;> rfl
theorem zri (a:AtomD):a.cnt≤4:=by unfold AtomD.cnt; omega
theorem ValidX.var {a:AtomD} (h:ValidX a) {i:Nat} (hi:i < a.cnt) (hv:(a.arg i).v=true):(a.arg i).s≠⟨#[]⟩:=by
  have:=h.terms i (cnt_lt.1 hi).2
  unfold termX at this
  rw [if_pos hv] at this
  intro e
  have hp:=this.pos
  rw [e] at hp
  exact absurd hp (by decide)
theorem FactX.term {a:AtomD} (h:FactX a) {i:Nat} (hi:i < a.cnt):(a.arg i).v=false∧(a.arg i).s≠⟨#[]⟩∧constX (a.arg i).s:=by
  have hv:=ground_iff.1 h.ground i hi
  have:=h.valid.terms i (cnt_lt.1 hi).2
  unfold termX at this
  rw [if_neg (by rw [hv]; decide)] at this
  refine ⟨hv,fun e=>?_,this⟩
  have hp:=this.1.pos
  rw [e] at hp
  exact absurd hp (by decide)
/-! ### Heads, rounds -/
noncomputable def zgk (head:AtomD) (have_:List AtomD):List AtomD→List BindD→List AtomD
  | [],l=>[znD l head]
  | p::ps,l=>have_.flatMap fun a=>match extD l p a with
    | none=>[]
    | some m=>zgk head have_ ps m
theorem mem_headsD {head a:AtomD} {hv:List AtomD} {ps:List AtomD}:∀ {l:List BindD},a∈zgk head hv ps l↔∃ gs m,gs.length=ps.length∧(∀ g∈gs,g∈hv)∧zqu ps gs l=some m∧a=znD m head:=by
  induction ps with
  | nil =>
    intro l
    constructor
    · intro h
      exact ⟨[],l,rfl,nofun,rfl,by simpa [zgk] using h⟩
    · rintro ⟨gs,m,h1,h2,h3,h4⟩
      have hgs:gs=[]:=by simpa using h1
      subst hgs
      cases h3
      simpa [zgk] using h4
  | cons p ps ih =>
    intro l
    unfold zgk
    rw [List.mem_flatMap]
    constructor
    · rintro ⟨g,hg,h⟩
      cases hx:extD l p g with
      | none=>rw [hx] at h; cases h
      | some o =>
        rw [hx] at h
        obtain ⟨gs,m,h1,h2,h3,h4⟩:=ih.1 h
        refine ⟨g::gs,m,by simp [h1],fun g' hg'=>(List.mem_cons.1 hg').elim (fun e=>e ▸ hg) (h2 g'),?_,h4⟩
        show (extD l p g).bind (zqu ps gs)=some m
        rw [hx]
        exact h3
    · rintro ⟨gs,m,h1,h2,h3,h4⟩
      match gs,h1,h2,h3 with
      | g::gs,h1,h2,h3 =>
        have h3:(extD l p g).bind (zqu ps gs)=some m:=h3
        refine ⟨g,h2 g List.mem_cons_self,?_⟩
        cases hx:extD l p g with
        | none=>rw [hx] at h3; cases h3
        | some o =>
          rw [hx] at h3
          exact ih.2 ⟨gs,m,by simpa using h1,fun g' hg'=>h2 g' (List.mem_cons_of_mem _ hg'),h3,h4⟩
noncomputable def outD (cl:List ClauseD) (facts hv:List AtomD):List AtomD:=facts++cl.flatMap fun c=>zgk c.head hv c.body []
noncomputable def zjq (cl:List ClauseD) (facts hv:List AtomD):List AtomD:=zjM (outD cl facts hv)
theorem zsY {c:ClauseD} {hv:List AtomD} (hc:OneX c) (hf:∀ a∈hv,FactX a) {a:AtomD} (h:a∈zgk c.head hv c.body []):FactX a:=by
  obtain ⟨gs,m,h1,h2,h3,rfl⟩:=mem_headsD.1 h
  obtain ⟨f1,f2,f3,f4⟩:=zrm zxj h1 h3
  have hbound:∀ i,i < c.head.cnt→(c.head.arg i).v=true→∃ t,za2 m (c.head.arg i).s=(t,true)∧t.v=false∧constX t.s:=by
    intro i hi hv
    obtain ⟨b,hb,hvb⟩:=hc.ranged _ (varIn_iff.2 ⟨i,hi,hv,rfl⟩)
    obtain ⟨j,hj,hvj,hsj⟩:=varIn_iff.1 hvb
    obtain ⟨k,hk,rfl⟩:=List.getElem_of_mem hb
    have hkg:k < gs.length:=by omega
    obtain ⟨a1,a2,a3⟩:=f3 k _ _ (List.getElem?_eq_getElem hk) (List.getElem?_eq_getElem hkg)
    have hgf:=hf _ (h2 _ (List.getElem_mem hkg))
    have hgn:(gs[k]).cnt=(c.body[k]).cnt:=by unfold AtomD.cnt; rw [(alikeD_iff.1 a1).2.2.1]
    have ht:=hgf.term (i:=j) (by rw [hgn]; exact hj)
    refine ⟨_,?_,ht.1,ht.2.2⟩
    rw [← hsj]
    exact zkH (a3 j hj) hvj ht.1
  have harg:∀ i,i < c.head.cnt→((znD m c.head).arg i).v=false∧termX ((znD m c.head).arg i):=by
    intro i hi
    rw [zk4 m c.head (by have:=zri c.head; omega),if_pos hi]
    cases hv2:(c.head.arg i).v
    · rw [zc2 hv2]
      exact ⟨hv2,hc.head.terms i (cnt_lt.1 hi).2⟩
    · obtain ⟨t,e1,e2,e3⟩:=hbound i hi hv2
      rw [zeB e1 hv2]
      refine ⟨e2,?_⟩
      unfold termX
      rw [if_neg (by rw [e2]; decide)]
      exact e3
  refine ⟨⟨hc.head.says,hc.head.pred,hc.head.lo,hc.head.hi,fun i hi=>(harg i (by have:=hc.head.hi; have hi2:(i:Int) < c.head.n:=hi; exact cnt_lt.2 ⟨by omega,hi2⟩)).2,fun i hi h4=>?_⟩,ground_iff.2 (fun i hi=>(harg i hi).1)⟩
  have hi2:c.head.n≤(i:Int):=hi
  rw [zk4 m c.head h4,if_neg (by intro hh; have:=(cnt_lt.1 hh).2; omega)]
  exact hc.head.rest i hi2 h4
theorem ziv {cl:List ClauseD} {facts hv:List AtomD} (hm:MayX cl facts) (hf:∀ a∈hv,FactX a):∀ a∈outD cl facts hv,FactX a:=by
  intro a ha
  unfold outD at ha
  rcases List.mem_append.1 ha with h | h
  · exact hm.facts a h
  · obtain ⟨c,hc,h⟩:=List.mem_flatMap.1 h
    exact zsY (hm.clauses c hc) hf h
theorem FactX.plain {a:AtomD} (h:FactX a):PlainD a:=h.valid.valid.plain
theorem zqo {l:List AtomD} (h:∀ a∈l,FactX a):AllP l:=fun a ha=>(h a ha).plain
theorem zjW {cl:List ClauseD} {facts hv:List AtomD} (hm:MayX cl facts) (hf:∀ a∈hv,FactX a) {a:AtomD}:a∈zjq cl facts hv↔a∈outD cl facts hv:=zgF (zqo (ziv hm hf))
theorem zsz {cl:List ClauseD} {facts hv:List AtomD} (hm:MayX cl facts) (hf:∀ a∈hv,FactX a):∀ a∈zjq cl facts hv,FactX a:=fun a ha=>ziv hm hf a ((zjW hm hf).1 ha)
theorem zuN (cl:List ClauseD) (facts hv:List AtomD):AscD (zjq cl facts hv):=(zdO _).asc
theorem zrn {head:AtomD} {h1 h2 ps:List AtomD} {l:List BindD} (hs:∀ a∈h1,a∈h2) {a:AtomD} (h:a∈zgk head h1 ps l):a∈zgk head h2 ps l:=by
  obtain ⟨gs,m,g1,g2,g3,g4⟩:=mem_headsD.1 h
  exact mem_headsD.2 ⟨gs,m,g1,fun g hg=>hs g (g2 g hg),g3,g4⟩
theorem zl4 {cl cl2:List ClauseD} {facts facts2 h1 h2:List AtomD} (hc:∀ c∈cl,c∈cl2) (hf:∀ a∈facts,a∈facts2) (hs:∀ a∈h1,a∈h2) {a:AtomD} (h:a∈outD cl facts h1):a∈outD cl2 facts2 h2:=by
  unfold outD at *
  rcases List.mem_append.1 h with h | h
  · exact List.mem_append_left _ (hf a h)
  · obtain ⟨c,hcc,h⟩:=List.mem_flatMap.1 h
    exact List.mem_append_right _ (List.mem_flatMap.2 ⟨c,hc c hcc,zrn hs h⟩)
noncomputable def zbJ (cl:List ClauseD) (facts:List AtomD):Nat→List AtomD
  | 0=>[]
  | n+1=>zjq cl facts (zbJ cl facts n)
section
variable {cl:List ClauseD} {facts:List AtomD}
theorem zef (hm:MayX cl facts):∀ n,∀ a∈zbJ cl facts n,FactX a
  | 0=>nofun
  | n+1=>zsz hm (zef hm n)
theorem zq4 (cl:List ClauseD) (facts:List AtomD):∀ n,AscD (zbJ cl facts n)
  | 0=>List.Pairwise.nil
  | n+1=>zuN _ _ _
theorem zuj (hm:MayX cl facts):∀ n,∀ a∈zbJ cl facts n,a∈zbJ cl facts (n+1)
  | 0=>nofun
  | n+1=>fun a ha=>(zjW hm (zef hm (n+1))).2 (zl4 (fun _ h=>h) (fun _ h=>h) (zuj hm n) ((zjW hm (zef hm n)).1 ha))
theorem zl3:∀ {s2 s1:List AtomD},AscD s1→AscD s2→(∀ a∈s1,a∈s2)→s1.Sublist s2
  | [],[],_,_,_=>List.Sublist.slnil
  | [],x::r,_,_,h=>absurd (h x List.mem_cons_self) (by simp)
  | y::t,[],_,_,_=>List.nil_sublist _
  | y::t,x::r,a1,a2,h=>by
    obtain ⟨b1,b2⟩:=List.pairwise_cons.1 a1
    obtain ⟨c1,c2⟩:=List.pairwise_cons.1 a2
    rcases List.mem_cons.1 (h x List.mem_cons_self) with e | e
    · subst e
      refine (zl3 b2 c2 (fun a ha=>?_)).cons_cons _
      rcases List.mem_cons.1 (h a (List.mem_cons_of_mem _ ha)) with e | e
      · exact absurd (b1 a ha) (by rw [e,zeT]; decide)
      · exact e
    · refine (zl3 a1 c2 (fun a ha=>?_)).cons _
      rcases List.mem_cons.1 (h a ha) with e2 | e2
      · exfalso
        have hyx:=c1 x e
        rcases List.mem_cons.1 ha with e3 | e3
        · rw [← e3,e2,zeT] at hyx
          exact absurd hyx (by decide)
        · have:=b1 a e3
          rw [e2] at this
          exact zkZ hyx this
      · exact e2
theorem zzs {s1 s2:List AtomD} (h1:AscD s1) (h2:AscD s2) (h:∀ a∈s1,a∈s2):s1.length≤s2.length∧(s1.length=s2.length→s1=s2) :=
  ⟨(zl3 h1 h2 h).length_le,fun e=>(zl3 h1 h2 h).eq_of_length e⟩
/-! ### Founded reasons -/
end
end Go.Am
