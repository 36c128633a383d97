/- Inserting into a list of one's own, in plain terms. No condition. -/
import Derived.Test.YtjildadoepadeaaGreatDoorGIns
import Derived.Test.YtjildadoepadeaaGreatDoorG16
set_option linter.unusedSimpArgs false
set_option linter.unusedVariables false
namespace Go.Am
theorem dz.over {a h1 h2:Heap} {l:List bd} {w:Nat} (i:dz a h1) (x:Ext (h1.lay l w) h2):dz a h2:=(i.trans (dz.lay _ _ _)).trans x.inc
end Go.Am
namespace Go.Am
variable {l:List el} {x:ae} {goals out todo:cR}
def r8 (l:List el) (a:ae):cR:=match l.find? (λr=>r.atom == a) with
 |some r=>r.body
 |none=>[]
structure n4 (l:List el) (goals out:cR):Prop where
 ti:gK out
 plain:qk out
 ny:∀ g∈goals,g∈out
 closed:∀ x∈out,∀ b∈r8 l x,b∈out
 least:∀ S:ae->Prop,(∀ g∈goals,S g)->(∀ x,S x->∀ b∈r8 l x,S b)->∀ x∈out,S x
theorem n4.none {o:cR} (f:n4 l [] o):o=[]:=by
 cases o with
 |nil=>rfl
 |cons x o=>exact (f.least (λ_=>False) (λg hg=>by cases hg) (λ_ h=>h.elim) x (qj ..)).elim
def uH (l:List el):cR:=l.flatMap (·.body)
theorem zpG {a b:ae} (h:b∈r8 l a):b∈uH l:=by
 unfold r8 at h
 split at h
 .rename_i r hr
  exact List.mem_flatMap.2 ⟨r,List.mem_of_find?_eq_some hr,h⟩
 .cases h
structure GP (l:List el) (goals out todo:cR):Prop where
 ti:gK out
 plain:qk out
 ny:∀ g∈goals,g∈out
 closed:∀ x∈out,x∈todo\/∀ b∈r8 l x,b∈out
 vE:∀ x∈todo,x∈out
 least:∀ S:ae->Prop,(∀ g∈goals,S g)->(∀ x,S x->∀ b∈r8 l x,S b)->∀ x∈out,S x
structure gM (l:List el) (goals out todo:cR) (x:ae) (j:Nat):Prop where
 ti:gK out
 plain:qk out
 ny:∀ g∈goals,g∈out
 closed:∀ y∈out,y∈todo\/y=x\/∀ b∈r8 l y,b∈out
 vE:∀ y∈todo,y∈out
 here:x∈out
 done:∀ b∈(r8 l x).take j,b∈out
 least:∀ S:ae->Prop,(∀ g∈goals,S g)->(∀ x,S x->∀ b∈r8 l x,S b)->∀ x∈out,S x
theorem GP.enter (f:GP l goals out (x::todo)):gM l goals out todo x 0 :=
 ⟨f.ti,f.plain,f.ny,λy hy=>by
  rcases f.closed y hy with h|h
  .rcases i0.1 h with h|h
   .exact .inr (.inl h)
   .exact .inl h
  .exact .inr (.inr h),λy hy=>f.vE y (sq _ hy),f.vE x (qj ..),by simp,f.least⟩
theorem gM.add {a:ae} {j:Nat} (f:gM l goals out todo x j) (ha:(r8 l x)[j]? = some a) (hp:gp a):gM l goals (gd a out) (todo++[a]) x (j+1):=by
 have iy:∀ y,y∈gd a out↔y∈out\/y=a:=λy=>by
  rw [NL f.ti]
  constructor
  .rintro (h|⟨rfl,_⟩)
   .exact .inl h
   .exact .inr rfl
  .rintro (h|rfl)
   .exact .inl h
   .by_cases hy:y∈out
    .exact .inl hy
    .refine .inr ⟨rfl,λz hz e=>hy ?_⟩
     rw [(zsO hp (f.plain z hz)).1 e]
     exact hz
 have cS:a∈r8 l x:=ig ha
 refine ⟨TV f.ti,λy hy=>?_,λg hg=>(iy g).2 (.inl (f.ny g hg)),λy hy=>?_,λy hy=>?_,(iy x).2 (.inl f.here),λb hb=>?_,λS h1 h2 y hy=>?_⟩
 .rcases (iy y).1 hy with h|rfl
  .exact f.plain y h
  .exact hp
 .rcases (iy y).1 hy with h|rfl
  .rcases f.closed y h with h|h|h
   .exact .inl (List.mem_append_left _ h)
   .exact .inr (.inl h)
   .exact .inr (.inr (λb hb=>(iy b).2 (.inl (h b hb))))
  .exact .inl (List.mem_append_right _ (qj ..))
 .rcases pM.1 hy with h|h
  .exact (iy y).2 (.inl (f.vE y h))
  .have:y=a:=by simpa using h
   exact (iy y).2 (.inr this)
 .rw [wz,ha] at hb
  rcases pM.1 hb with hb|hb
  .exact (iy b).2 (.inl (f.done b hb))
  .have:b=a:=by simpa using hb
   exact (iy b).2 (.inr this)
 .rcases (iy y).1 hy with h|rfl
  .exact f.least S h1 h2 y h
  .exact h2 x (f.least S h1 h2 x f.here) y cS
theorem gM.len {j:Nat} (f:gM l goals out todo x j) (hp:qk (goals++uH l)):out.length<=goals.length+(uH l).length:=by
 have h1:∀ y∈out,y∈goals++uH l:=f.least (·∈goals++uH l) (λg hg=>List.mem_append_left _ hg) (λy _ b hb=>List.mem_append_right _ (zpG hb))
 have h2:∀ y,y∈out->y∈zx (goals++uH l):=λy hy=>(zsm hp).2 (h1 y hy)
 have h3:=Zv (goals++uH l)
 have h4:out.length<=(zx (goals++uH l)).length:=by
  have e:out=(zx (goals++uH l)).filter (λx=>decide (x∈out)):=UC f.ti (zpB _ (Im _).ti) (λy=>by
   rw [List.mem_filter,decide_eq_true_iff]
   exact ⟨λhy=>⟨h2 y hy,hy⟩,λhy=>hy.2⟩)
  rw [e]
  exact List.length_filter_le _ _
 rw [hJ] at h3
 omega
end Go.Am
namespace Go.Am
def wN (h0 h:Heap) (u:TypeId) (v:ai) (s:cR):Prop :=
 (s=[]/\OS h v)\/∃ A o full,v=.slice (some ⟨A,o*11,none⟩) s.length (G*11+s.length)/\Holds h A (.row (Er full) u false)/\h0.size<=A/\full.drop o=s/\o<=full.length/\full.length<=100000
theorem wN.mono {h0 h h':Heap} {u:TypeId} {v:ai} {s:cR} (f:wN h0 h u v s) (i:dz h h'):wN h0 h' u v s:=by
 rcases f with ⟨e,f⟩|⟨A,o,full,e1,e2,e3⟩
 .exact .inl ⟨e,f.mono i⟩
 .exact .inr ⟨A,o,full,e1,e2.mono i,e3⟩
theorem wN.over {h0 h1 h2:Heap} {u:TypeId} {v:ai} {s:cR} {bs:List bd} {w:Nat} (f:wN h0 h1 u v s) (x:Ext (h1.lay bs w) h2):wN h0 h2 u v s:=f.mono ((dz.lay _ _ _).trans x.inc)
theorem wN.down {h0 h1 h:Heap} {u:TypeId} {v:ai} {s:cR} (f:wN h1 h u v s) (i:h0.size<=h1.size):wN h0 h u v s:=by
 rcases f with f|⟨A,o,full,e1,e2,e3,e4⟩
 .exact .inl f
 .exact .inr ⟨A,o,full,e1,e2,by omega,e4⟩
theorem wN.sl {h0 h:Heap} {u:TypeId} {v:ai} {s:cR} (f:wN h0 h u v s):Sl aQ.atom h v s:=by
 rcases f with ⟨rfl,f⟩|⟨A,o,full,rfl,e2,e3,e4,e5,e6⟩
 .exact f.sl
 .have hG:=zzH
  have hs:s.length<=100000:=by rw [<- e4,nX];omega
  obtain ⟨d1,d2,d3⟩:=zum (k:=11) (q:=s.length) (by decide) (by omega)
  exact zzG (o:=o) e2 (.inr ⟨d1,d2,by rw [d3];exact bg _⟩) hs (λi x hx=>by rw [<- e4,ja] at hx;exact hx)
end Go.Am
namespace Go.Am
section
variable {P:Program} {T:bm} {ov:Ov} {rd:Option Nat}
end
end Go.Am
