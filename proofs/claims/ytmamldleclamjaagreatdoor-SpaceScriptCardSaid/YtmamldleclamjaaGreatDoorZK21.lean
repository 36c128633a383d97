/- The code of some functions, node by node, for simp. Written by a program (mkcode.py). No condition. -/
import Derived.Test.YtmamldleclamjaaGreatDoorG20
set_option linter.unusedSimpArgs false
set_option linter.unusedVariables false
noncomputable section
namespace Go.Proofs.YtmamldleclamjaaGreatDoor
open Go.Am Tryz
set_option maxRecDepth 100000
set_option maxHeartbeats 0
def N97:=bB f97
def x97:=PLift.up (by have c:=bD N97 f97;simp only [aL,f97,seval] at c;exact nd c <| nd @zDd <| @Wv)
theorem c97:type_of% x97.down:=x97.down
def KQ:=bB f202
def Po:=PLift.up (by have c:=bD KQ f202;simp only [aL,f202,seval] at c;exact nd c <| nd @ZI <| nd @nj <| @zEZ)
theorem xp:type_of% Po.down:=Po.down
def KT:=bB f205
def Pr:=PLift.up (by have c:=bD KT f205;simp only [aL,f205,seval] at c;exact nd c <| nd @ZI <| nd @nj <| nd @zE2 <| @zFc)
theorem xq:type_of% Pr.down:=Pr.down
def KR:=bB f203
def Pp:=PLift.up (by have c:=bD KR f203;simp only [aL,f203,seval] at c;exact nd c <| nd @zqM <| nd @ZI <| nd @ZK <| nd @nj <| nd @zDd <| @zE0)
theorem Ln:type_of% Pp.down:=Pp.down
def KS:=bB f204
def Pq:=PLift.up (by have c:=bD KS f204;simp only [aL,f204,seval] at c;exact nd c <| nd @zDO <| nd @zqM <| nd @ZK <| nd @zE1 <| @zFb)
theorem Ez:type_of% Pq.down:=Pq.down
def N98:=bB f98
def x98:=PLift.up (by have c:=bD N98 f98;simp only [aL,f98,seval] at c;exact nd c <| @Ww)
theorem Lr:type_of% x98.down:=x98.down
def J5:=bB f114
def Og:=PLift.up (by have c:=bD J5 f114;simp only [aL,f114,seval] at c;exact nd c <| nd @zD8 <| @zE3)
theorem AE:type_of% Og.down:=Og.down
def Kv:=bB f143
def OR:=PLift.up (by have c:=bD Kv f143;simp only [aL,f143,seval] at c;exact nd c <| nd @zEz <| @zE5)
theorem mg:type_of% OR.down:=OR.down
def Kl:=bB f130
def OE:=PLift.up (by have c:=bD Kl f130;simp only [aL,f130,seval] at c;exact nd c <| @zEo)
theorem ec:type_of% OE.down:=OE.down
def J4:=bB f113
def Of:=PLift.up (by have c:=bD J4 f113;simp only [aL,f113,seval] at c;exact nd c <| nd @zqN <| nd @zqO <| nd @ZJ <| nd @ZL <| nd @nj <| nd @zDe <| @zD7)
theorem xi:type_of% Of.down:=Of.down
def N64:=bB f64
def x64:=PLift.up (by have c:=bD N64 f64;simp only [aL,f64,seval] at c;exact nd c <| nd @zDP <| nd @zqM <| nd @zwf <| nd @zqN <| nd @TA <| nd @zqO <| nd @ZJ <| nd @ZK <| nd @ZL <| nd @TX <| nd @nj <| nd @zDe <| nd @BG <| @VZ)
theorem pC:type_of% x64.down:=x64.down
def N77:=bB f77
def x77:=PLift.up (by have c:=bD N77 f77;simp only [aL,f77,seval] at c;exact nd c <| nd @zwf <| nd @zqN <| nd @TA <| nd @zBv <| nd @zqO <| nd @ZJ <| nd @ZL <| nd @TX <| nd @nj <| nd @gH <| @Wb)
theorem wj:type_of% x77.down:=x77.down
def N76:=bB f76
def x76:=PLift.up (by have c:=bD N76 f76;simp only [aL,f76,seval] at c;exact nd c <| nd @TA <| nd @TX <| @Wa)
theorem UJ:type_of% x76.down:=x76.down
def N41:=bB f41
def x41:=PLift.up (by have c:=bD N41 f41;simp only [aL,f41,seval] at c;exact nd c <| nd @TA <| nd @TX <| @VC)
theorem c41:type_of% x41.down:=x41.down
def Uc:=bB f54
def x54:=PLift.up (by have c:=bD Uc f54;simp only [aL,f54,seval] at c;exact nd c <| @VO)
theorem c54:type_of% x54.down:=x54.down
end Go.Proofs.YtmamldleclamjaaGreatDoor
