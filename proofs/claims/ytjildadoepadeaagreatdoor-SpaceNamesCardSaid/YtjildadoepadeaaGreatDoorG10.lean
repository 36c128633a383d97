/- Arguments of any plain type laid in the plain heap: each block of the world, from each place on, is a row that is read alone. No condition. -/
import Derived.Test.YtjildadoepadeaaGreatDoorG9
import Derived.OpenShut
import Derived.HandedShaped
import Derived.WideKeyArgs
import Derived.Test.YtjildadoepadeaaGreatDoorGGlob
set_option linter.unusedSimpArgs false
namespace Go.Am
open Go.RowKit Go.ChangeShapes Go.WideShapes Go.ChangeAt


section
variable {P:Program} {W:World} {h:Heap} {ρ:Rho} {M:Nat}
end


section
variable {P:Program} {W:World} {h:Heap} {M:Nat} {H:Type} {enc:TypeId × Vly->H}
end
end Go.Am
namespace Go.Am
open Go.RowKit Go.ChangeShapes Go.WideShapes Go.ChangeAt
section
variable {P:Program} {T:Tab} {ov:Ov} {W:World} {H:Type} {enc:TypeId × Vly->H}






end
end Go.Am
namespace Go.Am
open Go.RowKit Go.ChangeShapes Go.WideShapes Go.ChangeAt
section
variable {P:Program} {T:Tab} {ov:Ov} {W:World} {H:Type} {enc:TypeId × Vly->H}
def zhG (g:Nat) (args:List Vly) (h:Heap):Option (Vly × Heap):=match args with
 | []=>(match h.get g with
  |some (.row _ e true)=>if Nat.beq e zcd then some (.bool true,h) else none
  |_=>none)
 |_=>none
theorem zfP {gs:List Nat} {f:FuncId} {g:Nat} (hgs:g∈gs) (henter:∀ cargs w,(callFunc f cargs).run P w=.ok (.enter f cargs) w) (hc:∀ w,(∀ c,c < 256->w.cell? ⟨g,c,none⟩=some (.int .u8 (Lib.asciiSpaceTab.getD c 0)))->Calls P f #[] w λe w'=>e=.returned (.bool true)/\Below w.heap.size w w'):Ov1 P gs f (zhG g):=by
 intro args h v h' hev
 unfold zhG at hev
 split at hev
 .split at hev
  .rename_i cs e hg
   split at hev
   .rename_i hm
    cases hev
    refine ⟨.refl _,λρ w cargs hG hs hfree hv=>.inr ⟨henter cargs w,?_⟩⟩
    have hca:cargs=#[]:=by rw [<- Array.toList_inj];exact hv.of_nil
    subst hca
    obtain ⟨t,hρ⟩:=hG g hgs
    have hb:=hs.blk g _ hρ
    rw [hg] at hb
    have hcs:=hb.1.2 (Nat.eq_of_beq_eq_true hm)
    refine (hc w (λc hc=>?_)).mono ?_
    .have hx:cs[c]? = some (.int .u8 (Lib.asciiSpaceTab.getD c 0)):=by
      rw [hcs]
      unfold zaZ
      rw [List.getElem?_map]
      have:c < Lib.asciiSpaceTab.length:=by rw [Lib.asciiSpaceTab_length];exact hc
      simp [List.getD,this]
     obtain ⟨u,hu,hvu⟩:=hb.2 c _ hx
     have:=hvu.eq_plain rfl
     subst this
     simpa using hu
    .rintro e w' ⟨rfl,hb2⟩
     exact ⟨ρ,.bool true,rfl,.of_below ρ _ hb2,hs.below hb2,.of_plain ρ rfl⟩
   .cases hev
  .cases hev
 .cases hev
end
end Go.Am
