/- Walks: an atom read, by the document. Written out by fill2.py. No condition. -/
import Derived.Test.YtjildadoepadeaaGreatDoorG42
import Derived.Test.YtjildadoepadeaaGreatDoorG39
set_option linter.unusedSimpArgs false
set_option linter.unusedVariables false
set_option maxRecDepth 100000
set_option maxHeartbeats 0
noncomputable section
namespace Go.Proofs.YtjildadoepadeaaGreatDoor
open Go.Am Tryz
theorem zqv (k:Int) (a:ae) (h:Heap) (K:aF)
 (ea:1<=k->k<=3->bu a->∀ h',Ext h h'->K (.bool true) h') (dZ:¬ (1<=k/\k<=3/\bu a)->∀ h',Ext h h'->K (.bool false) h'):Ok prog az ov 44 [jI k a] h K:=by
 rw [ak h]
 have z:=Ext.refl h
 unfold jI fw ae.cells
 refine Ok.au 16 (br O5) ?_
 simp only [aa,seval,w9]
 refine bp (λh1=>?_) (λh1=>?_)
 .simp only [aa,seval,w9]
  refine bp (λh2=>?_) (λh2=>?_)
  .simp only [aa,seval,w9]
   refine S7 a _ _ (λhv h' x=>?_) (λhv c h' hc x=>?_)
   ·(replace z:=z.aj x;rw [ak h'])
    simp only [aa,seval,w9]
    exact ea (by omega) (by omega) hv _ z.ao
   ·(replace z:=z.aj x;rw [ak h'])
    simp only [aa,seval,w9,show (c == 0)=false by simpa using hc]
    exact dZ (λg=>hv g.2.2) _ z.ao
  .simp only [aa,seval,w9]
   exact dZ (λg=>h2 (by omega)) _ z.ao
 .simp only [aa,seval,w9]
  exact dZ (λg=>h1 (by omega)) _ z.ao
def BI:=bq f156
def ER:=PLift.up (by have c:=bw BI f156;simp only [aJ,f156,seval] at c;exact nd c <| nd @ou <| @zx5)
theorem wX:type_of% ER.down:=ER.down
def Pt:=bq f90
def Rm:=PLift.up (by have c:=bw Pt f90;simp only [aJ,f90,seval] at c;exact nd c <| nd @wm <| nd @zc <| nd @sb <| nd @zd <| nd @s9 <| nd @ta <| nd @mw <| nd @jy <| nd @pk <| nd @eO <| @Ky)
theorem oa:type_of% Rm.down:=Rm.down
def O6:=bq f45
def QX:=PLift.up (by have c:=bw O6 f45;simp only [aJ,f45,seval] at c;exact nd c <| nd @cP <| @Ka)
theorem Jz:type_of% QX.down:=QX.down
def OW:=bq f21
def Fm:=PLift.up (by have c:=bw OW f21;simp only [aJ,f21,seval] at c;exact nd c <| nd @UK <| nd @Gr <| nd @Gs <| nd @jy <| nd @cP <| nd @ui <| nd @ou <| @J0)
theorem sA:type_of% Fm.down:=Fm.down
end Go.Proofs.YtjildadoepadeaaGreatDoor
