/- Functions of the library with a contract of the kit's, for the plain machine. No condition. -/
import Derived.Test.YtjildadoepadeaaGreatDoorG1
import Derived.Shelf.Small.Strs
import Derived.Lib.Join
set_option linter.unusedSimpArgs false
namespace Go.Am
open Go.RowKit
variable {f:FuncId}
section
variable {P:Program} {gs:List Nat} {ρ:bU} {h:Heap} {w w':World}

theorem bj.below (hs:bj ρ h w) (hb:Below w.heap.size w w'):bj ρ h w' :=
 ⟨λA L hA=>(hs.im A L hA).keep (λ_ _ h=>h) hb.size (λ_=>hb.block _ (hs.lt hA)),hs.inj⟩
theorem Fr.mx (ρ:bU) (h:Heap) (hb:Below w.heap.size w w'):Fr ρ ρ h h w w' :=
 ⟨λ_ _ h=>h,λA L h1 h2=>(by rw [h1] at h2;cases h2),hb.os,hb.tape,hb.output,hb.size,bg _,bg _,λb hl _=>hb.block b hl,λ_ _ _=>rfl⟩

theorem uC {T:bm} (hT:T.Fits P) {fn:Func} (hf:T.fn f=some fn) {c:Code} (hc:fn.body=some c) (aB:Array ai) (w:World):(callFunc f aB).run P w=.ok (.enter f aB) w:=by
 obtain ⟨hP,fK,_⟩:=hT.fn f fn hf
 have dU:¬ fn.name="runtime.NumGoroutine":=by simpa using fK
 simp [callFunc,hP,dU,hc]

def wK (P:Program) (gs:List Nat) (f:FuncId) (g:List ai->Heap->Option (ai × Heap)):Prop :=
 ∀ args h v h',g args h=some (v,h')->aT h h'/\∀ ρ w (aB:Array ai),cf gs ρ->bj ρ h w->dL ρ h h'->bQ ρ args aB.toList->OH P ρ h h' w v f aB

theorem T7 {g:List ai->Heap->Option (ai × Heap)} (cZ:∀ aB w,(callFunc f aB).run P w=.ok (.enter f aB) w)
 (hg:∀ args h v h',g args h=some (v,h')->h'=h/\plain v=true/\∀ ρ w (aB:Array ai),bj ρ h w->bQ ρ args aB.toList->Calls P f aB w λe w'=>e=.returned v/\Below w.heap.size w w'):wK P gs f g:=by
 intro args h v h' ab
 obtain ⟨rfl,hp,hc⟩:=hg args h v h' ab
 refine ⟨.refl _,λρ w aB _ hs _ hv=>.inr ⟨cZ aB w,(hc ρ w aB hs hv).mono ?_⟩⟩
 rintro e w' ⟨rfl,hb⟩
 exact ⟨ρ,v,rfl,.mx ρ _ hb,hs.below hb,.ct ρ hp⟩

def strs:List ai->Option (List aA)
 | []=>some []
 | .string s::l=>(strs l).map (s::·)
 |_=>none

def I7 (args:List ai) (h:Heap):Option (ai × Heap):=match args with
 | [.slice a n _,.string sep] =>
  if n=0 then some (.string ⟨#[]⟩,h) else
  match a with
  |some ⟨A,o,none⟩=>(ia A o n h).bind λl=>(strs l).bind λxs =>
   if n<=140737488355328/\(Lib.join (xs.map (·.data.toList)) sep.data.toList).length<=140737488355328 then some (.string ⟨(Lib.join (xs.map (·.data.toList)) sep.data.toList).toArray⟩,h) else none
  |_=>none
 |_=>none

def Ia (args:List ai) (h:Heap):Option (ai × Heap):=match args with
 | [.string a,.string b]=>some (.int .i64 (Lib.compareBytes a.data.toList b.data.toList),h)
 |_=>none

theorem Ub:∀ (l:List ai) (xs:List aA),strs l=some xs->xs.length=l.length/\∀ (j:Nat) (x:aA),xs[j]? = some x->l[j]? = some (.string x)
 | [],xs,hx=>by simp only [strs,de] at hx;subst hx;exact ⟨rfl,λj x hj=>by simp at hj⟩
 |v::l,xs,hx=>by
  cases v with
  |string s =>
   simp only [strs,bS] at hx
   obtain ⟨ys,hy,rfl⟩:=hx
   obtain ⟨h1,h2⟩:=Ub l ys hy
   refine ⟨by simp [h1],λj x hj=>?_⟩
   cases j with
   |zero=>simp at hj;simp [hj]
   |succ j=>simpa using h2 j x (by simpa using hj)
  |_=>simp [strs] at hx

theorem St (cZ:∀ aB w,(callFunc f aB).run P w=.ok (.enter f aB) w)
 (hc:∀ a b w,Calls P f #[.string a,.string b] w λe w'=>e=.returned (.int .i64 (Lib.compareBytes a.data.toList b.data.toList))/\w'=w):wK P gs f Ia:=by
 refine T7 cZ λargs h v h' ab=>?_
 unfold Ia at ab
 split at ab
 .rename_i a b
  cases ab
  refine ⟨rfl,rfl,λρ w aB hs hv=>?_⟩
  obtain ⟨x,m,h1,hx,hv⟩:=hv.of_cons
  obtain ⟨y,m',h2,hy,hv⟩:=hv.of_cons
  have:=hv.of_nil
  subst this
  cases hx
  cases hy
  subst h2
  have kF:aB=#[.string a,.string b]:=by rw [<- Bf];exact h1
  subst kF
  refine (hc a b w).mono ?_
  rintro e w' ⟨rfl,rfl⟩
  exact ⟨rfl,.refl _ _⟩
 .cases ab

theorem TU (cZ:∀ aB w,(callFunc f aB).run P w=.ok (.enter f aB) w)
 (h0:∀ a c sep w,Calls P f #[.slice a 0 c,.string sep] w λe w'=>e=.returned (.string ⟨#[]⟩)/\w'=w)
 (hj:∀ (bk o c:Nat) (xs:List aA) (sep:aA) (w:World),(∀ (j:Nat) x,xs[j]? = some x->w.cell? ⟨bk,o+j,none⟩=some (.string x))->bk < w.heap.size->xs.length<=140737488355328->xs.length<=c->(Lib.join (xs.map (·.data.toList)) sep.data.toList).length<=140737488355328 ->
  Calls P f #[.slice (some ⟨bk,o,none⟩) xs.length c,.string sep] w λe w'=>e=.returned (.string ⟨(Lib.join (xs.map (·.data.toList)) sep.data.toList).toArray⟩)/\Below w.heap.size w w'):wK P gs f I7:=by
 refine T7 cZ λargs h v h' ab=>?_
 unfold I7 at ab
 split at ab
 .rename_i a n c sep
  split at ab
  .rename_i hn
   cases ab
   subst hn
   refine ⟨rfl,rfl,λρ w aB hs hv=>?_⟩
   obtain ⟨x,m,h1,hx,hv⟩:=hv.of_cons
   obtain ⟨y,m',h2,hy,hv⟩:=hv.of_cons
   have:=hv.of_nil
   subst this
   cases hy
   subst h2
   have kL:∃ a' c',x=.slice a' 0 c':=by cases hx <;> exact ⟨_,_,rfl⟩
   obtain ⟨a',c',rfl⟩:=kL
   have kF:aB=#[.slice a' 0 c',.string sep]:=by rw [<- Bf];exact h1
   subst kF
   refine (h0 a' c' sep w).mono ?_
   rintro e w' ⟨rfl,rfl⟩
   exact ⟨rfl,.refl _ _⟩
  .rename_i hn
   split at ab
   .rename_i A o
    simp only [bB] at ab
    obtain ⟨l,hl,xs,kL,ab⟩:=ab
    split at ab
    .rename_i hle
     cases ab
     refine ⟨rfl,rfl,λρ w aB hs hv=>?_⟩
     obtain ⟨x,m,h1,hx,hv⟩:=hv.of_cons
     obtain ⟨y,m',h2,hy,hv⟩:=hv.of_cons
     have:=hv.of_nil
     subst this
     cases hy
     subst h2
     have key:∃ L c',ρ A=some L/\n<=c'/\x=.slice (some ⟨L.b,L.s+o,none⟩) n c':=by
      cases hx with
      |slice hA hc pW dC=>exact ⟨_,_,hA,pW,by rw [dC (by omega)]⟩
      |bI hA hc gF pW hk hm dC=>exact ⟨_,_,hA,iG pW gF,by rw [(dC (by omega)).1]⟩
     obtain ⟨L,c',hA,pW,rfl⟩:=key
     have kF:aB=#[.slice (some ⟨L.b,L.s+o,none⟩) n c',.string sep]:=by rw [<- Bf];exact h1
     subst kF
     obtain ⟨ms,He,DD,yf⟩:=Hv hs hA hl
     obtain ⟨Md,WO⟩:=Ub l xs kL
     have DI:xs.length=n:=by rw [Md,He.1,DD]
     have:=hj L.b (L.s+o) c' xs sep w (λj x hx=>by
      obtain ⟨y,hy,cz⟩:=He.get (WO j x hx)
      cases cz
      exact yf j _ hy) (hs.lt hA) (by omega) (by omega) hle.2
     rw [DI] at this
     exact this
    .cases ab
   .cases ab
 .cases ab
end
end Go.Am
