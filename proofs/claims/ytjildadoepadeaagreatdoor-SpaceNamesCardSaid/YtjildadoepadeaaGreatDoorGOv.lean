/- Functions of the library with a contract of the kit's, for the plain machine. No condition. -/
import Derived.Test.YtjildadoepadeaaGreatDoorG1
import Derived.Shelf.Small.Strs
import Derived.Lib.Join
set_option linter.unusedSimpArgs false
namespace Go.Am
open Go.RowKit
section
variable {P:Program} {gs:List Nat} {ρ:Rho} {h:Heap} {w w':World}

theorem Sim.below (hs:Sim ρ h w) (hb:Below w.heap.size w w'):Sim ρ h w' :=
 ⟨λA L hA=>(hs.blk A L hA).keep (λ_ _ h=>h) hb.size (λ_=>hb.block _ (hs.lt hA)),hs.inj⟩
theorem Fr.of_below (ρ:Rho) (h:Heap) (hb:Below w.heap.size w w'):Fr ρ ρ h h w w' :=
 ⟨λ_ _ h=>h,λA L h1 h2=>(by rw [h1] at h2;cases h2),hb.os,hb.tape,hb.output,hb.size,Nat.le_refl _,Nat.le_refl _,λb hl _=>hb.block b hl,λ_ _ _=>rfl⟩

theorem zaT {T:Tab} (hT:T.Fits P) {f:FuncId} {fn:Func} (hf:T.fn f=some fn) {c:Code} (hc:fn.body=some c) (cargs:Array Vly) (w:World):(callFunc f cargs).run P w=.ok (.enter f cargs) w:=by
 obtain ⟨hP,hname,_⟩:=hT.fn f fn hf
 have hname':¬ fn.name="runtime.NumGoroutine":=by simpa using hname
 simp [callFunc,hP,hname',hc]

def Ov1 (P:Program) (gs:List Nat) (f:FuncId) (g:List Vly->Heap->Option (Vly × Heap)):Prop :=
 ∀ args h v h',g args h=some (v,h')->Keeps h h'/\∀ ρ w (cargs:Array Vly),GlobOk gs ρ->Sim ρ h w->Free ρ h h'->VRs ρ args cargs.toList->zhP P ρ h h' w v f cargs

theorem zgC {f:FuncId} {g:List Vly->Heap->Option (Vly × Heap)} (henter:∀ cargs w,(callFunc f cargs).run P w=.ok (.enter f cargs) w)
 (hg:∀ args h v h',g args h=some (v,h')->h'=h/\plain v=true/\∀ ρ w (cargs:Array Vly),Sim ρ h w->VRs ρ args cargs.toList->Calls P f cargs w λe w'=>e=.returned v/\Below w.heap.size w w'):Ov1 P gs f g:=by
 intro args h v h' hev
 obtain ⟨rfl,hp,hc⟩:=hg args h v h' hev
 refine ⟨.refl _,λρ w cargs _ hs _ hv=>.inr ⟨henter cargs w,(hc ρ w cargs hs hv).mono ?_⟩⟩
 rintro e w' ⟨rfl,hb⟩
 exact ⟨ρ,v,rfl,.of_below ρ _ hb,hs.below hb,.of_plain ρ hp⟩

def strs:List Vly->Option (List BAy)
 | []=>some []
 | .string s::l=>(strs l).map (s::·)
 |_=>none

def zhC (args:List Vly) (h:Heap):Option (Vly × Heap):=match args with
 | [.slice a n _,.string sep] =>
  if n=0 then some (.string ⟨#[]⟩,h) else
  match a with
  |some ⟨A,o,none⟩=>(zav A o n h).bind λl=>(strs l).bind λxs =>
   if n<=140737488355328/\(Lib.join (xs.map (·.data.toList)) sep.data.toList).length<=140737488355328 then some (.string ⟨(Lib.join (xs.map (·.data.toList)) sep.data.toList).toArray⟩,h) else none
  |_=>none
 |_=>none

def zdh (args:List Vly) (h:Heap):Option (Vly × Heap):=match args with
 | [.string a,.string b]=>some (.int .i64 (Lib.compareBytes a.data.toList b.data.toList),h)
 |_=>none

theorem zgF:∀ (l:List Vly) (xs:List BAy),strs l=some xs->xs.length=l.length/\∀ (j:Nat) (x:BAy),xs[j]? = some x->l[j]? = some (.string x)
 | [],xs,hx=>by simp only [strs,Option.some.injEq] at hx;subst hx;exact ⟨rfl,λj x hj=>by simp at hj⟩
 |v::l,xs,hx=>by
  cases v with
  |string s =>
   simp only [strs,Option.map_eq_some_iff] at hx
   obtain ⟨ys,hy,rfl⟩:=hx
   obtain ⟨h1,h2⟩:=zgF l ys hy
   refine ⟨by simp [h1],λj x hj=>?_⟩
   cases j with
   |zero=>simp at hj;simp [hj]
   |succ j=>simpa using h2 j x (by simpa using hj)
  |_=>simp [strs] at hx

theorem zdD {f:FuncId} (henter:∀ cargs w,(callFunc f cargs).run P w=.ok (.enter f cargs) w)
 (hc:∀ a b w,Calls P f #[.string a,.string b] w λe w'=>e=.returned (.int .i64 (Lib.compareBytes a.data.toList b.data.toList))/\w'=w):Ov1 P gs f zdh:=by
 refine zgC henter λargs h v h' hev=>?_
 unfold zdh at hev
 split at hev
 .rename_i a b
  cases hev
  refine ⟨rfl,rfl,λρ w cargs hs hv=>?_⟩
  obtain ⟨x,m,h1,hx,hv⟩:=hv.of_cons
  obtain ⟨y,m',h2,hy,hv⟩:=hv.of_cons
  have:=hv.of_nil
  subst this
  cases hx
  cases hy
  subst h2
  have hca:cargs=#[.string a,.string b]:=by rw [<- Array.toList_inj];exact h1
  subst hca
  refine (hc a b w).mono ?_
  rintro e w' ⟨rfl,rfl⟩
  exact ⟨rfl,.refl _ _⟩
 .cases hev

theorem zgB {f:FuncId} (henter:∀ cargs w,(callFunc f cargs).run P w=.ok (.enter f cargs) w)
 (h0:∀ a c sep w,Calls P f #[.slice a 0 c,.string sep] w λe w'=>e=.returned (.string ⟨#[]⟩)/\w'=w)
 (hj:∀ (bk o c:Nat) (xs:List BAy) (sep:BAy) (w:World),(∀ (j:Nat) x,xs[j]? = some x->w.cell? ⟨bk,o+j,none⟩=some (.string x))->bk < w.heap.size->xs.length<=140737488355328->xs.length<=c->(Lib.join (xs.map (·.data.toList)) sep.data.toList).length<=140737488355328 ->
  Calls P f #[.slice (some ⟨bk,o,none⟩) xs.length c,.string sep] w λe w'=>e=.returned (.string ⟨(Lib.join (xs.map (·.data.toList)) sep.data.toList).toArray⟩)/\Below w.heap.size w w'):Ov1 P gs f zhC:=by
 refine zgC henter λargs h v h' hev=>?_
 unfold zhC at hev
 split at hev
 .rename_i a n c sep
  split at hev
  .rename_i hn
   cases hev
   subst hn
   refine ⟨rfl,rfl,λρ w cargs hs hv=>?_⟩
   obtain ⟨x,m,h1,hx,hv⟩:=hv.of_cons
   obtain ⟨y,m',h2,hy,hv⟩:=hv.of_cons
   have:=hv.of_nil
   subst this
   cases hy
   subst h2
   have hxs:∃ a' c',x=.slice a' 0 c':=by cases hx <;> exact ⟨_,_,rfl⟩
   obtain ⟨a',c',rfl⟩:=hxs
   have hca:cargs=#[.slice a' 0 c',.string sep]:=by rw [<- Array.toList_inj];exact h1
   subst hca
   refine (h0 a' c' sep w).mono ?_
   rintro e w' ⟨rfl,rfl⟩
   exact ⟨rfl,.refl _ _⟩
  .rename_i hn
   split at hev
   .rename_i A o
    simp only [Option.bind_eq_some_iff] at hev
    obtain ⟨l,hl,xs,hxs,hev⟩:=hev
    split at hev
    .rename_i hle
     cases hev
     refine ⟨rfl,rfl,λρ w cargs hs hv=>?_⟩
     obtain ⟨x,m,h1,hx,hv⟩:=hv.of_cons
     obtain ⟨y,m',h2,hy,hv⟩:=hv.of_cons
     have:=hv.of_nil
     subst this
     cases hy
     subst h2
     have key:∃ L c',ρ A=some L/\n<=c'/\x=.slice (some ⟨L.b,L.s+o,none⟩) n c':=by
      cases hx with
      |slice hA hc hnc had=>exact ⟨_,_,hA,hnc,by rw [had (by omega)]⟩
      |sliceG hA hc hlo hnc hk hm had=>exact ⟨_,_,hA,Nat.le_trans hnc hlo,by rw [(had (by omega)).1]⟩
     obtain ⟨L,c',hA,hnc,rfl⟩:=key
     have hca:cargs=#[.slice (some ⟨L.b,L.s+o,none⟩) n c',.string sep]:=by rw [<- Array.toList_inj];exact h1
     subst hca
     obtain ⟨ms,hms,hmlen,hrange⟩:=zba hs hA hl
     obtain ⟨hxl,hxg⟩:=zgF l xs hxs
     have hnl:xs.length=n:=by rw [hxl,hms.1,hmlen]
     have:=hj L.b (L.s+o) c' xs sep w (λj x hx=>by
      obtain ⟨y,hy,hxy⟩:=hms.get (hxg j x hx)
      cases hxy
      exact hrange j _ hy) (hs.lt hA) (by omega) (by omega) hle.2
     rw [hnl] at this
     exact this
    .cases hev
   .cases hev
 .cases hev
end
end Go.Am
