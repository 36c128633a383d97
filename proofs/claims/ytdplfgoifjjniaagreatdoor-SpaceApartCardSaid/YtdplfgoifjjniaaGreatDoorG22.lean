/- Founded reasons and their ranks: prefixes, and more facts and clauses. No condition. -/
import Derived.Test.YtdplfgoifjjniaaGreatDoorG14
import Derived.Test.YtdplfgoifjjniaaGreatDoorG19
namespace Go.Am
set_option linter.unusedVariables false
def atR (l:List ReasonD) (a:AtomD):Int:=idxP (fun x=>decide (x.atom=a)) l
end Go.Am
namespace Go.Am
set_option linter.unusedVariables false
/-! ### Bindings of ground terms -/
structure Good (l:List BindD):Prop where
 up:zmi l l.length
 ok:∀ b∈l,b.term.v=false∧b.term.s≠⟨#[]⟩
theorem zfT (x:BindD) (l:List BindD) (s:ByteArray):zfK (x::l) s=if x.var=s then (x.term,true) else zfK l s:=by
 unfold zfK
 rw [List.find?_cons]
 by_cases h:x.var=s <;> simp [h]
theorem zq9 {l:List BindD} {s:ByteArray} {t:TermD} (h:zfK l s=(t,true)):⟨s,t⟩∈l:=by
 induction l with
 |nil=>cases h
 |cons x l ih =>
  rw [zfT] at h
  split at h
  ·rename_i hx
   cases h
   subst hx
   exact List.mem_cons_self
  ·exact List.mem_cons_of_mem _ (ih h)
theorem zq8 {l:List BindD} {s:ByteArray} (h:(zfK l s).2=false):∀ b∈l,b.var≠s:=by
 induction l with
 |nil=>intro b hb;cases hb
 |cons x l ih =>
  rw [zfT] at h
  split at h
  ·cases h
  ·rename_i hx
   intro b hb
   rcases List.mem_cons.1 hb with rfl|hb
   ·exact hx
   ·exact ih h b hb
theorem zlF (b:BindD):zmL [] b=[b]:=rfl
theorem zj7 (x:BindD) (l:List BindD) (b:BindD):zmL (x::l) b=if slt b.var x.var=true then b::x::l else x::zmL l b:=by
 unfold zmL
 rw [List.takeWhile_cons,List.dropWhile_cons]
 cases h:slt b.var x.var <;> simp
theorem mem_withD {l:List BindD} {b y:BindD}:y∈zmL l b↔y=b∨y∈l:=by
 induction l with
 |nil=>simp [zlF]
 |cons x l ih =>
  rw [zj7]
  split
  ·simp
  ·simp only [List.mem_cons,ih]
   constructor
   ·rintro (h|h|h)
    ·exact .inr (.inl h)
    ·exact .inl h
    ·exact .inr (.inr h)
   ·rintro (h|h|h)
    ·exact .inr (.inl h)
    ·exact .inl h
    ·exact .inr (.inr h)
theorem zrB {l:List BindD}:zmi l l.length↔l.Pairwise fun x y=>slt x.var y.var=true:=by
 constructor
 ·intro h
  rw [List.pairwise_iff_getElem]
  intro i j hi hj hij
  exact zuX h hij (List.getElem?_eq_getElem hi) (List.getElem?_eq_getElem hj)
 ·intro h k x y hk hx hy
  rw [List.pairwise_iff_getElem] at h
  obtain ⟨h1,e1⟩:=List.getElem?_eq_some_iff.1 hx
  obtain ⟨h2,e2⟩:=List.getElem?_eq_some_iff.1 hy
  have:=h k (k+1) h1 h2 (Nat.lt_succ_self _)
  rw [e1,e2] at this
  exact this
theorem zol {l:List BindD} {b:BindD} (h:zmi l l.length) (hn:(zfK l b.var).2=false):zmi (zmL l b) (zmL l b).length:=by
 rw [zrB] at h ⊢
 induction l with
 |nil=>rw [zlF];exact List.pairwise_singleton _ _
 |cons x l ih =>
  have hx:=zq8 hn x List.mem_cons_self
  rw [zfT,if_neg hx] at hn
  rw [List.pairwise_cons] at h
  rw [zj7]
  split
  ·rename_i hs
   refine List.pairwise_cons.2 ⟨fun y hy=>?_,List.pairwise_cons.2 h⟩
   rcases List.mem_cons.1 hy with rfl|hy
   ·exact hs
   ·exact zl7 hs (h.1 y hy)
  ·rename_i hs
   refine List.pairwise_cons.2 ⟨fun y hy=>?_,ih h.2 hn⟩
   rcases mem_withD.1 hy with rfl|hy
   ·cases hq:slt x.var y.var
    ·exact absurd (zus hq (by simpa using hs)) hx
    ·rfl
   ·exact h.1 y hy
theorem Good.get {l:List BindD} (h:Good l) {s:ByteArray} {t:TermD} (e:zfK l s=(t,true)):t.v=false∧t.s≠⟨#[]⟩:=h.ok _ (zq9 e)
theorem Good.with {l:List BindD} (h:Good l) {b:BindD} (hn:(zfK l b.var).2=false) (hv:b.term.v=false) (hs:b.term.s≠⟨#[]⟩):Good (zmL l b) :=
 ⟨zol h.up hn,fun y hy=>(mem_withD.1 hy).elim (fun e=>by rw [e];exact ⟨hv,hs⟩) (h.ok y)⟩
/-! ### One place of a pattern -/
def LeB (l m:List BindD):Prop:=∀ s t,zfK l s=(t,true)→zfK m s=(t,true)
theorem LeB.refl (l:List BindD):LeB l l:=fun _ _ h=>h
theorem LeB.trans {a b c:List BindD} (h:LeB a b) (g:LeB b c):LeB a c:=fun s t e=>g s t (h s t e)
def valB (σ:ByteArray→TermD) (t:TermD):TermD:=if t.v=true then σ t.s else t
/-! ### One atom -/
theorem zCj {a:AtomD} (h0:0≤a.n) (h4:a.n≤4):a.cnt=a.n.toNat:=by unfold AtomD.cnt;omega
/-! ### A body -/
/-! ### An atom under bindings -/
theorem zlt (a:AtomD):a.cnt≤4:=by unfold AtomD.cnt;omega
theorem ValidX.var {a:AtomD} (h:ValidX a) {i:Nat} (hi:i < a.cnt) (hv:(a.arg i).v=true):(a.arg i).s≠⟨#[]⟩:=by
 have:=h.terms i (cnt_lt.1 hi).2
 unfold termX at this
 rw [if_pos hv] at this
 intro e
 have hp:=this.pos
 rw [e] at hp
 exact absurd hp (by decide)
theorem FactX.term {a:AtomD} (h:FactX a) {i:Nat} (hi:i < a.cnt):(a.arg i).v=false∧(a.arg i).s≠⟨#[]⟩∧constX (a.arg i).s:=by
 have hv:=ground_iff.1 h.ground i hi
 have:=h.valid.terms i (cnt_lt.1 hi).2
 unfold termX at this
 rw [if_neg (by rw [hv];decide)] at this
 refine ⟨hv,fun e=>?_,this⟩
 have hp:=this.1.pos
 rw [e] at hp
 exact absurd hp (by decide)
/-! ### Heads, rounds -/
theorem FactX.plain {a:AtomD} (h:FactX a):PlainD a:=h.valid.valid.plain
section
variable {cl:List ClauseD} {facts:List AtomD}
/-! ### Founded reasons -/
end
end Go.Am
