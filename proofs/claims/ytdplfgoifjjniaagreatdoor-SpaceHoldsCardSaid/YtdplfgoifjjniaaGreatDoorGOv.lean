/- Functions of the library with a contract of the kit's, for the plain machine. No condition. -/
import Derived.Test.YtdplfgoifjjniaaGreatDoorG1
import Derived.Shelf.Small.Strs
import Derived.Lib.Join
namespace Go.Am
open Go.RowKit
section
variable {P:Program} {gs:List Nat} {ρ:ct} {h:Heap} {w w':World}

theorem bK.below (hs:bK ρ h w) (hb:Below w.heap.size w w'):bK ρ h w' :=
 ⟨fun A L hA=>(hs.jX A L hA).keep (fun _ _ h=>h) hb.size (fun _=>hb.block _ (hs.lt hA)),hs.inj⟩
theorem Fr.oZ (ρ:ct) (h:Heap) (hb:Below w.heap.size w w'):Fr ρ ρ h h w w' :=
 ⟨fun _ _ h=>h,fun A L h1 h2=>(by rw [h1] at h2;cases h2),hb.os,hb.tape,hb.output,hb.size,Nat.le_refl _,Nat.le_refl _,fun b hl _=>hb.block b hl,fun _ _ _=>rfl⟩

theorem Br {T:bD} (hT:T.Fits P) {f:FuncId} {fn:Func} (hf:T.fn f=some fn) {c:Code} (hc:fn.body=some c) (aF:Array Value) (w:World):(callFunc f aF).run P w=.ok (.enter f aF) w:=by
 obtain ⟨hP,gY,_⟩:=hT.fn f fn hf
 have fj:¬ fn.name="runtime.NumGoroutine":=by simpa using gY
 simp [callFunc,hP,fj,hc]

def B0 (P:Program) (gs:List Nat) (f:FuncId) (g:List Value→Heap→Option (Value × Heap)):Prop :=
 ∀ args h v h',g args h=some (v,h')→bl h h'∧∀ ρ w (aF:Array Value),cL gs ρ→bK ρ h w→eY ρ h h'→cu ρ args aF.toList→X7 P ρ h h' w v f aF

theorem zqu {f:FuncId} {g:List Value→Heap→Option (Value × Heap)} (dO:∀ aF w,(callFunc f aF).run P w=.ok (.enter f aF) w)
 (hg:∀ args h v h',g args h=some (v,h')→h'=h∧plain v=true∧∀ ρ w (aF:Array Value),bK ρ h w→cu ρ args aF.toList→Calls P f aF w fun e w'=>e=.returned v∧Below w.heap.size w w'):B0 P gs f g:=by
 intro args h v h' ak
 obtain ⟨rfl,hp,hc⟩:=hg args h v h' ak
 refine ⟨.refl _,fun ρ w aF _ hs _ hv=>.inr ⟨dO aF w,(hc ρ w aF hs hv).mono ?_⟩⟩
 rintro e w' ⟨rfl,hb⟩
 exact ⟨ρ,v,rfl,.oZ ρ _ hb,hs.below hb,.cX ρ hp⟩

def strs:List Value→Option (List ByteArray)
 | []=>some []
 | .string s::l=>(strs l).map (s::·)
 |_=>none

def EZ (args:List Value) (h:Heap):Option (Value × Heap):=match args with
 | [.slice a n _,.string sep] =>
  if n=0 then some (.string ⟨#[]⟩,h) else
  match a with
  |some ⟨A,o,none⟩=>(gL A o n h).bind fun l=>(strs l).bind fun xs =>
   if n≤140737488355328∧(Lib.join (xs.map (·.data.toList)) sep.data.toList).length≤140737488355328 then some (.string ⟨(Lib.join (xs.map (·.data.toList)) sep.data.toList).toArray⟩,h) else none
  |_=>none
 |_=>none

def Mt (args:List Value) (h:Heap):Option (Value × Heap):=match args with
 | [.string a,.string b]=>some (.int .i64 (Lib.compareBytes a.data.toList b.data.toList),h)
 |_=>none

theorem zqB:∀ (l:List Value) (xs:List ByteArray),strs l=some xs→xs.length=l.length∧∀ (j:Nat) (x:ByteArray),xs[j]? = some x→l[j]? = some (.string x)
 | [],xs,hx=>by simp only [strs,Option.some.injEq] at hx;subst hx;exact ⟨rfl,fun j x hj=>by simp at hj⟩
 |v::l,xs,hx=>by
  cases v with
  |string s =>
   simp only [strs,Option.map_eq_some_iff] at hx
   obtain ⟨ys,hy,rfl⟩:=hx
   obtain ⟨h1,h2⟩:=zqB l ys hy
   refine ⟨by simp [h1],fun j x hj=>?_⟩
   cases j with
   |zero=>simp at hj;simp [hj]
   |succ j=>simpa using h2 j x (by simpa using hj)
  |_=>simp [strs] at hx

theorem zi1 {f:FuncId} (dO:∀ aF w,(callFunc f aF).run P w=.ok (.enter f aF) w)
 (hc:∀ a b w,Calls P f #[.string a,.string b] w fun e w'=>e=.returned (.int .i64 (Lib.compareBytes a.data.toList b.data.toList))∧w'=w):B0 P gs f Mt:=by
 refine zqu dO fun args h v h' ak=>?_
 unfold Mt at ak
 split at ak
 ·rename_i a b
  cases ak
  refine ⟨rfl,rfl,fun ρ w aF hs hv=>?_⟩
  obtain ⟨x,m,h1,hx,hv⟩:=hv.of_cons
  obtain ⟨y,m',h2,hy,hv⟩:=hv.of_cons
  have:=hv.of_nil
  subst this
  cases hx
  cases hy
  subst h2
  have oE:aF=#[.string a,.string b]:=by rw [← Array.toList_inj];exact h1
  subst oE
  refine (hc a b w).mono ?_
  rintro e w' ⟨rfl,rfl⟩
  exact ⟨rfl,.refl _ _⟩
 ·cases ak

theorem zqt {f:FuncId} (dO:∀ aF w,(callFunc f aF).run P w=.ok (.enter f aF) w)
 (h0:∀ a c sep w,Calls P f #[.slice a 0 c,.string sep] w fun e w'=>e=.returned (.string ⟨#[]⟩)∧w'=w)
 (hj:∀ (bk o c:Nat) (xs:List ByteArray) (sep:ByteArray) (w:World),(∀ (j:Nat) x,xs[j]? = some x→w.cell? ⟨bk,o+j,none⟩=some (.string x))→bk < w.heap.size→xs.length≤140737488355328→xs.length≤c→(Lib.join (xs.map (·.data.toList)) sep.data.toList).length≤140737488355328 →
  Calls P f #[.slice (some ⟨bk,o,none⟩) xs.length c,.string sep] w fun e w'=>e=.returned (.string ⟨(Lib.join (xs.map (·.data.toList)) sep.data.toList).toArray⟩)∧Below w.heap.size w w'):B0 P gs f EZ:=by
 refine zqu dO fun args h v h' ak=>?_
 unfold EZ at ak
 split at ak
 ·rename_i a n c sep
  split at ak
  ·rename_i hn
   cases ak
   subst hn
   refine ⟨rfl,rfl,fun ρ w aF hs hv=>?_⟩
   obtain ⟨x,m,h1,hx,hv⟩:=hv.of_cons
   obtain ⟨y,m',h2,hy,hv⟩:=hv.of_cons
   have:=hv.of_nil
   subst this
   cases hy
   subst h2
   have mL:∃ a' c',x=.slice a' 0 c':=by cases hx <;> exact ⟨_,_,rfl⟩
   obtain ⟨a',c',rfl⟩:=mL
   have oE:aF=#[.slice a' 0 c',.string sep]:=by rw [← Array.toList_inj];exact h1
   subst oE
   refine (h0 a' c' sep w).mono ?_
   rintro e w' ⟨rfl,rfl⟩
   exact ⟨rfl,.refl _ _⟩
  ·rename_i hn
   split at ak
   ·rename_i A o
    simp only [Option.bind_eq_some_iff] at ak
    obtain ⟨l,hl,xs,mL,ak⟩:=ak
    split at ak
    ·rename_i hle
     cases ak
     refine ⟨rfl,rfl,fun ρ w aF hs hv=>?_⟩
     obtain ⟨x,m,h1,hx,hv⟩:=hv.of_cons
     obtain ⟨y,m',h2,hy,hv⟩:=hv.of_cons
     have:=hv.of_nil
     subst this
     cases hy
     subst h2
     have key:∃ L c',ρ A=some L∧n≤c'∧x=.slice (some ⟨L.b,L.s+o,none⟩) n c':=by
      cases hx with
      |slice hA hc sI eI=>exact ⟨_,_,hA,sI,by rw [eI (by omega)]⟩
      |ck hA hc cR sI hk hm eI=>exact ⟨_,_,hA,Nat.le_trans sI cR,by rw [(eI (by omega)).1]⟩
     obtain ⟨L,c',hA,sI,rfl⟩:=key
     have oE:aF=#[.slice (some ⟨L.b,L.s+o,none⟩) n c',.string sep]:=by rw [← Array.toList_inj];exact h1
     subst oE
     obtain ⟨ms,hms,JK,Dx⟩:=Ox hs hA hl
     obtain ⟨W9,hxg⟩:=zqB l xs mL
     have JN:xs.length=n:=by rw [W9,hms.1,JK]
     have:=hj L.b (L.s+o) c' xs sep w (fun j x hx=>by
      obtain ⟨y,hy,cS⟩:=hms.get (hxg j x hx)
      cases cS
      exact Dx j _ hy) (hs.lt hA) (by omega) (by omega) hle.2
     rw [JN] at this
     exact this
    ·cases ak
   ·cases ak
 ·cases ak
end
end Go.Am
