/- Founded reasons and their ranks: prefixes, and more facts and clauses. No condition. -/
import Derived.Test.YtdplfgoifjjniaaGreatDoorG14
import Derived.Test.YtdplfgoifjjniaaGreatDoorG19
namespace Go.Am
set_option linter.unusedVariables false
def atR (l:List ReasonD) (a:AtomD):Int:=idxP (fun x=>decide (x.atom=a)) l
end Go.Am
namespace Go.Am
set_option linter.unusedVariables false
/-! ### Bindings of ground terms -/
structure Good (l:List BindD):Prop where
 up:zmr l l.length
 ok:∀ b∈l,b.term.v=false∧b.term.s≠⟨#[]⟩
theorem zfL (x:BindD) (l:List BindD) (s:ByteArray):zfE (x::l) s=if x.var=s then (x.term,true) else zfE l s:=by
 unfold zfE
 rw [List.find?_cons]
 by_cases h:x.var=s <;> simp [h]
theorem zqz {l:List BindD} {s:ByteArray} {t:TermD} (h:zfE l s=(t,true)):⟨s,t⟩∈l:=by
 induction l with
 |nil=>cases h
 |cons x l ih =>
  rw [zfL] at h
  split at h
  ·rename_i hx
   cases h
   subst hx
   exact List.mem_cons_self
  ·exact List.mem_cons_of_mem _ (ih h)
theorem zrv {l:List BindD} {s:ByteArray} (h:(zfE l s).2=false):∀ b∈l,b.var≠s:=by
 induction l with
 |nil=>intro b hb;cases hb
 |cons x l ih =>
  rw [zfL] at h
  split at h
  ·cases h
  ·rename_i hx
   intro b hb
   rcases List.mem_cons.1 hb with rfl|hb
   ·exact hx
   ·exact ih h b hb
theorem zm6 (b:BindD):znk [] b=[b]:=rfl
theorem zjY (x:BindD) (l:List BindD) (b:BindD):znk (x::l) b=if slt b.var x.var=true then b::x::l else x::znk l b:=by
 unfold znk
 rw [List.takeWhile_cons,List.dropWhile_cons]
 cases h:slt b.var x.var <;> simp
theorem mem_withD {l:List BindD} {b y:BindD}:y∈znk l b↔y=b∨y∈l:=by
 induction l with
 |nil=>simp [zm6]
 |cons x l ih =>
  rw [zjY]
  split
  ·simp
  ·simp only [List.mem_cons,ih]
   constructor
   ·rintro (h|h|h)
    ·exact .inr (.inl h)
    ·exact .inl h
    ·exact .inr (.inr h)
   ·rintro (h|h|h)
    ·exact .inr (.inl h)
    ·exact .inl h
    ·exact .inr (.inr h)
theorem zp4 {l:List BindD}:zmr l l.length↔l.Pairwise fun x y=>slt x.var y.var=true:=by
 constructor
 ·intro h
  rw [List.pairwise_iff_getElem]
  intro i j hi hj hij
  exact zsU h hij (List.getElem?_eq_getElem hi) (List.getElem?_eq_getElem hj)
 ·intro h k x y hk hx hy
  rw [List.pairwise_iff_getElem] at h
  obtain ⟨h1,e1⟩:=List.getElem?_eq_some_iff.1 hx
  obtain ⟨h2,e2⟩:=List.getElem?_eq_some_iff.1 hy
  have:=h k (k+1) h1 h2 (Nat.lt_succ_self _)
  rw [e1,e2] at this
  exact this
theorem zoa {l:List BindD} {b:BindD} (h:zmr l l.length) (hn:(zfE l b.var).2=false):zmr (znk l b) (znk l b).length:=by
 rw [zp4] at h ⊢
 induction l with
 |nil=>rw [zm6];exact List.pairwise_singleton _ _
 |cons x l ih =>
  have hx:=zrv hn x List.mem_cons_self
  rw [zfL,if_neg hx] at hn
  rw [List.pairwise_cons] at h
  rw [zjY]
  split
  ·rename_i hs
   refine List.pairwise_cons.2 ⟨fun y hy=>?_,List.pairwise_cons.2 h⟩
   rcases List.mem_cons.1 hy with rfl|hy
   ·exact hs
   ·exact zni hs (h.1 y hy)
  ·rename_i hs
   refine List.pairwise_cons.2 ⟨fun y hy=>?_,ih h.2 hn⟩
   rcases mem_withD.1 hy with rfl|hy
   ·cases hq:slt x.var y.var
    ·exact absurd (zt1 hq (by simpa using hs)) hx
    ·rfl
   ·exact h.1 y hy
theorem Good.get {l:List BindD} (h:Good l) {s:ByteArray} {t:TermD} (e:zfE l s=(t,true)):t.v=false∧t.s≠⟨#[]⟩:=h.ok _ (zqz e)
theorem Good.with {l:List BindD} (h:Good l) {b:BindD} (hn:(zfE l b.var).2=false) (hv:b.term.v=false) (hs:b.term.s≠⟨#[]⟩):Good (znk l b) :=
 ⟨zoa h.up hn,fun y hy=>(mem_withD.1 hy).elim (fun e=>by rw [e];exact ⟨hv,hs⟩) (h.ok y)⟩
/-! ### One place of a pattern -/
def LeB (l m:List BindD):Prop:=∀ s t,zfE l s=(t,true)→zfE m s=(t,true)
theorem LeB.refl (l:List BindD):LeB l l:=fun _ _ h=>h
theorem LeB.trans {a b c:List BindD} (h:LeB a b) (g:LeB b c):LeB a c:=fun s t e=>g s t (h s t e)
def valB (σ:ByteArray→TermD) (t:TermD):TermD:=if t.v=true then σ t.s else t
/-! ### One atom -/
theorem zB4 {a:AtomD} (h0:0≤a.n) (h4:a.n≤4):a.cnt=a.n.toNat:=by unfold AtomD.cnt;omega
/-! ### A body -/
/-! ### An atom under bindings -/
theorem zkO (a:AtomD):a.cnt≤4:=by unfold AtomD.cnt;omega
theorem ValidX.var {a:AtomD} (h:ValidX a) {i:Nat} (hi:i < a.cnt) (hv:(a.arg i).v=true):(a.arg i).s≠⟨#[]⟩:=by
 have:=h.terms i (cnt_lt.1 hi).2
 unfold termX at this
 rw [if_pos hv] at this
 intro e
 have hp:=this.pos
 rw [e] at hp
 exact absurd hp (by decide)
theorem FactX.term {a:AtomD} (h:FactX a) {i:Nat} (hi:i < a.cnt):(a.arg i).v=false∧(a.arg i).s≠⟨#[]⟩∧constX (a.arg i).s:=by
 have hv:=ground_iff.1 h.ground i hi
 have:=h.valid.terms i (cnt_lt.1 hi).2
 unfold termX at this
 rw [if_neg (by rw [hv];decide)] at this
 refine ⟨hv,fun e=>?_,this⟩
 have hp:=this.1.pos
 rw [e] at hp
 exact absurd hp (by decide)
/-! ### Heads, rounds -/
theorem FactX.plain {a:AtomD} (h:FactX a):PlainD a:=h.valid.valid.plain
section
variable {cl:List ClauseD} {facts:List AtomD}
/-! ### Founded reasons -/
end
end Go.Am
