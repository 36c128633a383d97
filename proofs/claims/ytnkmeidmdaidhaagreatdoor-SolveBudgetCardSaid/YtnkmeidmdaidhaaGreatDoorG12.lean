/- What the plain machine's operations come to at this seat's types. Written by a program (mksim.py). No condition. -/
import Derived.Test.YtnkmeidmdaidhaaGreatDoorG11
namespace Go.Proofs.YtnkmeidmdaidhaaGreatDoor
open Go.Am
abbrev pD (t:Nat):Prop:=∀ (A o:Nat) (h:Heap),fU aH t (.pointer (some ⟨A,o,none⟩)) h=Nf (h.get A) o
abbrev Cz (t n:Nat):Prop:=∀ (A o:Nat) (h:Heap),fU aH t (.pointer (some ⟨A,o,none⟩)) h=wD (h.get A) o n
abbrev vG (t:Nat) (z:List ai):Prop:=∀ (P:Program) (ov:Ov) (d:Option Tmp) (ty:TypeId) (pos:String) (af:Array Edge) (g:Option (Nat × Bool)) (e:Env) (h:Heap) (K:aL),bU P aH ov ⟨d,.alloc t,ty,pos,af,g⟩ e h K=K (.pointer (some ⟨h.size,0,none⟩)) (h.push (.row z t false))
theorem xR {t n b:Nat} {z:List ai} (hz:aH.info t=some (n,b,z)):vG t z:=λ_ _ d ty pos af g e h K=>zzJ d ty pos af g e h K t hz
abbrev xQ (t:Nat):Prop:=∀ (a:Option Addr) (n c:Nat) (h:Heap),bP aH t (.slice a n c) h=some (.int .i64 n)
abbrev zw (t k:Nat) (z:List ai) (e:Nat):Prop:=∀ (n:Nat) (parts:List (Nat × ai)) (h:Heap),uE aH t n parts h=if n*k > 16777216 || n > 16777216 then Option.none else (n8 (λi=>some (i*k,k)) (lO z n) parts).map λcs=>(.slice (some ⟨h.size,0,none⟩) n n,h.push (.row cs e false))
abbrev xP (t k:Nat):Prop:=∀ (A o n c:Nat) (ik:IntKind) (i:Int),jq aH t (.slice (some ⟨A,o,none⟩) n c) (.int ik i)=if 0<=i/\i < n then some (.pointer (some ⟨A,o+i.toNat*k,none⟩)) else none
abbrev fx (t f k:Nat):Prop:=∀ A o:Nat,kP aH t (.pointer (some ⟨A,o,none⟩)) f=some (.pointer (some ⟨A,o+k,none⟩))
theorem xL:de aH 3=some 1:=by kernel_rfl
theorem Nu:cT aH 3=some false:=by kernel_rfl
theorem mh:pD 3:=λ_ _ _=>pI Nu
theorem sz4:de aH 4=some 1:=by kernel_rfl
theorem ag4:cT aH 4=some false:=by kernel_rfl
theorem vD:pD 4:=λ_ _ _=>pI ag4
theorem Cu:de aH 9=some 1:=by kernel_rfl
theorem yE:cT aH 9=some false:=by kernel_rfl
theorem jZ:pD 9:=λ_ _ _=>pI yE
theorem ds9:aH.desc 9=some .string:=by kernel_rfl
theorem Se (s:bf) (h:Heap):bP aH 9 (.string s) h=some (.int .i64 s.size):=zwQ ds9
theorem Ns:cT aH 22=some false:=by kernel_rfl
theorem Ch:pD 22:=λ_ _ _=>pI Ns
theorem iv:aH.desc 22=some (.slice 35):=by kernel_rfl
theorem px:xQ 22:=λ_ _ _ _=>xS iv
theorem Aq:zw 22 12 [.string ⟨#[]⟩,.string ⟨#[]⟩,.int .i64 0,.bool false,.string ⟨#[]⟩,.bool false,.string ⟨#[]⟩,.bool false,.string ⟨#[]⟩,.bool false,.string ⟨#[]⟩,.slice none 0 0] 35:=yG iv TI
theorem mV:xP 22 12:=λ_ _ _ _ _ _=>yc iv (by kernel_rfl)
theorem FU:cT aH 23=some false:=by kernel_rfl
theorem ix:pD 23:=λ_ _ _=>pI FU
theorem cF:aH.desc 23=some (.slice 28):=by kernel_rfl
theorem fK:xQ 23:=λ_ _ _ _=>xS cF
theorem oO:zw 23 11 [.string ⟨#[]⟩,.string ⟨#[]⟩,.int .i64 0,.bool false,.string ⟨#[]⟩,.bool false,.string ⟨#[]⟩,.bool false,.string ⟨#[]⟩,.bool false,.string ⟨#[]⟩] 28:=yG cF xU
theorem fJ:xP 23 11:=λ_ _ _ _ _ _=>yc cF (by kernel_rfl)
theorem gL:de aH 25=some 2:=by kernel_rfl
theorem qI:cT aH 25=some true:=by kernel_rfl
theorem jm:Cz 25 2:=λ_ _ _=>CV qI gL
theorem lq:vG 25 [.bool false,.string ⟨#[]⟩]:=xR zts
theorem vY:fx 25 0 0:=λ_ _=>Eq.refl _
theorem r9:fx 25 1 1:=λ_ _=>Eq.refl _
theorem SC:de aH 26=some 8:=by kernel_rfl
theorem Nt:cT aH 26=some true:=by kernel_rfl
theorem R9:Cz 26 8:=λ_ _ _=>CV Nt SC
theorem AK:aH.desc 26=some (.array 4 25):=by kernel_rfl
theorem nN (A o:Nat) (ik:IntKind) (i:Int):jq aH 26 (.pointer (some ⟨A,o,none⟩)) (.int ik i)=if 0<=i/\i < 4 then some (.pointer (some ⟨A,o+i.toNat*2,none⟩)) else none:=zuT AK (by kernel_rfl)
theorem cw:de aH 28=some 11:=by kernel_rfl
theorem iM:cT aH 28=some true:=by kernel_rfl
theorem cj:Cz 28 11:=λ_ _ _=>CV iM cw
theorem jb:vG 28 [.string ⟨#[]⟩,.string ⟨#[]⟩,.int .i64 0,.bool false,.string ⟨#[]⟩,.bool false,.string ⟨#[]⟩,.bool false,.string ⟨#[]⟩,.bool false,.string ⟨#[]⟩]:=xR xU
theorem Kj:fx 28 0 0:=λ_ _=>Eq.refl _
theorem C6:fx 28 1 1:=λ_ _=>Eq.refl _
theorem zV:fx 28 2 2:=λ_ _=>Eq.refl _
theorem vZ:fx 28 3 3:=λ_ _=>Eq.refl _
theorem kg:aH.desc 29=some (.slice 9):=by kernel_rfl
theorem Ck:xQ 29:=λ_ _ _ _=>xS kg
theorem FX:zw 29 1 [.string ⟨#[]⟩] 9:=yG kg TQ
theorem Ce:xP 29 1:=λ_ _ _ _ _ _=>yc kg (by kernel_rfl)
theorem jo:de aH 35=some 12:=by kernel_rfl
theorem qJ:cT aH 35=some true:=by kernel_rfl
theorem pw:Cz 35 12:=λ_ _ _=>CV qJ jo
theorem sH:vG 35 [.string ⟨#[]⟩,.string ⟨#[]⟩,.int .i64 0,.bool false,.string ⟨#[]⟩,.bool false,.string ⟨#[]⟩,.bool false,.string ⟨#[]⟩,.bool false,.string ⟨#[]⟩,.slice none 0 0]:=xR TI
theorem yi:fx 35 0 0:=λ_ _=>Eq.refl _
theorem yj:fx 35 1 11:=λ_ _=>Eq.refl _
theorem Nv:cT aH 38=some false:=by kernel_rfl
theorem xE:pD 38:=λ_ _ _=>pI Nv
theorem nx:aH.desc 38=some (.slice 71):=by kernel_rfl
theorem HZ:xQ 38:=λ_ _ _ _=>xS nx
theorem NK:zw 38 13 [.string ⟨#[]⟩,.string ⟨#[]⟩,.int .i64 0,.bool false,.string ⟨#[]⟩,.bool false,.string ⟨#[]⟩,.bool false,.string ⟨#[]⟩,.bool false,.string ⟨#[]⟩,.int .i64 0,.slice none 0 0] 71:=yG nx TJ
theorem HS:xP 38 13:=λ_ _ _ _ _ _=>yc nx (by kernel_rfl)
theorem i0:de aH 40=some 4:=by kernel_rfl
theorem Nw:cT aH 40=some true:=by kernel_rfl
theorem HU:Cz 40 4:=λ_ _ _=>CV Nw i0
theorem sI:vG 40 [.slice none 0 0,.int .i64 0,.int .i64 0,.slice none 0 0]:=xR ztt
theorem Kk:fx 40 0 0:=λ_ _=>Eq.refl _
theorem M1:fx 40 1 1:=λ_ _=>Eq.refl _
theorem UU:fx 40 2 2:=λ_ _=>Eq.refl _
theorem zx5:fx 40 3 3:=λ_ _=>Eq.refl _
theorem Nx:cT aH 57=some false:=by kernel_rfl
theorem xF:pD 57:=λ_ _ _=>pI Nx
theorem Ny:cT aH 59=some false:=by kernel_rfl
theorem Sa:pD 59:=λ_ _ _=>pI Ny
theorem Gd:aH.desc 59=some (.map 28 123):=by kernel_rfl
theorem SD:de aH 60=some 1:=by kernel_rfl
theorem Nz:cT aH 60=some false:=by kernel_rfl
theorem HV:pD 60:=λ_ _ _=>pI Nz
theorem qN:aH.desc 60=some (.slice 99):=by kernel_rfl
theorem Sd:xQ 60:=λ_ _ _ _=>xS qN
theorem NL:zw 60 1 [.pointer none] 99:=yG qN zkZ
theorem R3:xP 60 1:=λ_ _ _ _ _ _=>yc qN (by kernel_rfl)
theorem SE:de aH 61=some 1:=by kernel_rfl
theorem NA:cT aH 61=some false:=by kernel_rfl
theorem um:pD 61:=λ_ _ _=>pI NA
theorem iP:aH.desc 61=some (.slice 3):=by kernel_rfl
theorem H2:xQ 61:=λ_ _ _ _=>xS iP
theorem Au:zw 61 1 [.int .i64 0] 3:=yG iP zE
theorem HT:xP 61 1:=λ_ _ _ _ _ _=>yc iP (by kernel_rfl)
theorem UW:fx 63 0 0:=λ_ _=>Eq.refl _
theorem zAj:fx 63 1 1:=λ_ _=>Eq.refl _
theorem zAk:fx 63 2 2:=λ_ _=>Eq.refl _
theorem M3:fx 63 3 3:=λ_ _=>Eq.refl _
theorem M4:fx 63 4 4:=λ_ _=>Eq.refl _
theorem zx6:fx 63 5 5:=λ_ _=>Eq.refl _
theorem UX:fx 63 6 6:=λ_ _=>Eq.refl _
theorem zx7:fx 63 7 7:=λ_ _=>Eq.refl _
theorem zAl:fx 63 8 8:=λ_ _=>Eq.refl _
theorem rA:de aH 71=some 13:=by kernel_rfl
theorem NB:cT aH 71=some true:=by kernel_rfl
theorem xG:Cz 71 13:=λ_ _ _=>CV NB rA
theorem Ao:vG 71 [.string ⟨#[]⟩,.string ⟨#[]⟩,.int .i64 0,.bool false,.string ⟨#[]⟩,.bool false,.string ⟨#[]⟩,.bool false,.string ⟨#[]⟩,.bool false,.string ⟨#[]⟩,.int .i64 0,.slice none 0 0]:=xR TJ
theorem zx8:fx 71 0 0:=λ_ _=>Eq.refl _
theorem zAm:fx 71 1 11:=λ_ _=>Eq.refl _
theorem zx9:fx 71 2 12:=λ_ _=>Eq.refl _
theorem mH:aH.desc 75=some (.slice 25):=by kernel_rfl
theorem xH:xQ 75:=λ_ _ _ _=>xS mH
theorem xC:xP 75 2:=λ_ _ _ _ _ _=>yc mH (by kernel_rfl)
theorem NC:cT aH 83=some false:=by kernel_rfl
theorem Ci:pD 83:=λ_ _ _=>pI NC
theorem wE:aH.desc 83=some (.map 28 3):=by kernel_rfl
theorem zya:fx 85 0 0:=λ_ _=>Eq.refl _
theorem SF:de aH 86=some 1:=by kernel_rfl
theorem ND:cT aH 86=some false:=by kernel_rfl
theorem Cj:pD 86:=λ_ _ _=>pI ND
theorem ny:aH.desc 86=some (.slice 109):=by kernel_rfl
theorem Cl:xQ 86:=λ_ _ _ _=>xS ny
theorem NM:zw 86 1 [.pointer none] 109:=yG ny zjZ
theorem R4:xP 86 1:=λ_ _ _ _ _ _=>yc ny (by kernel_rfl)
theorem zAn:fx 88 0 0:=λ_ _=>Eq.refl _
theorem UY:fx 88 1 1:=λ_ _=>Eq.refl _
theorem zAo:fx 88 2 2:=λ_ _=>Eq.refl _
theorem NF:cT aH 95=some false:=by kernel_rfl
theorem nP:pD 95:=λ_ _ _=>pI NF
theorem NG:vG 95 [.slice none 0 0]:=xR ztu
theorem cU:aH.desc 95=some (.slice 134):=by kernel_rfl
theorem nQ:xQ 95:=λ_ _ _ _=>xS cU
theorem wu:zw 95 3 [.string ⟨#[]⟩,.bool false,.string ⟨#[]⟩] 134:=yG cU xX
theorem mW:xP 95 3:=λ_ _ _ _ _ _=>yc cU (by kernel_rfl)
theorem SG:de aH 99=some 1:=by kernel_rfl
theorem FV:cT aH 99=some false:=by kernel_rfl
theorem Sb:pD 99:=λ_ _ _=>pI FV
theorem zuB:fx 101 0 0:=λ_ _=>Eq.refl _
theorem zuC:fx 101 1 1:=λ_ _=>Eq.refl _
theorem zy2:fx 101 2 2:=λ_ _=>Eq.refl _
theorem zuD:fx 101 3 3:=λ_ _=>Eq.refl _
theorem zuE:fx 101 4 4:=λ_ _=>Eq.refl _
theorem zy3:fx 101 5 15:=λ_ _=>Eq.refl _
theorem zy4:fx 101 6 16:=λ_ _=>Eq.refl _
theorem zBC:de aH 109=some 1:=by kernel_rfl
theorem zzZ:cT aH 109=some false:=by kernel_rfl
theorem zBs:pD 109:=λ_ _ _=>pI zzZ
theorem UK:fx 112 0 0:=λ_ _=>Eq.refl _
theorem zuF:fx 112 1 11:=λ_ _=>Eq.refl _
theorem zy5:fx 112 2 12:=λ_ _=>Eq.refl _
theorem zuG:fx 112 3 13:=λ_ _=>Eq.refl _
theorem zBD:de aH 123=some 0:=by kernel_rfl
theorem zz0:vG 123 []:=xR zqh
theorem kW:de aH 134=some 3:=by kernel_rfl
theorem Fe:cT aH 134=some true:=by kernel_rfl
theorem Dt:Cz 134 3:=λ_ _ _=>CV Fe kW
theorem Kt:vG 134 [.string ⟨#[]⟩,.bool false,.string ⟨#[]⟩]:=xR xX
theorem uK:fx 134 0 0:=λ_ _=>Eq.refl _
theorem JP:fx 134 1 1:=λ_ _=>Eq.refl _
theorem Zf:aH.desc 142=some (.map 9 123):=by kernel_rfl
theorem zAO:vG 169 [.int .u8 0,.int .u8 0,.int .u8 0,.int .u8 0,.int .u8 0,.int .u8 0,.int .u8 0,.int .u8 0,.int .u8 0,.int .u8 0,.int .u8 0,.int .u8 0,.int .u8 0,.int .u8 0,.int .u8 0,.int .u8 0,.int .u8 0,.int .u8 0,.int .u8 0,.int .u8 0,.int .u8 0,.int .u8 0,.int .u8 0,.int .u8 0]:=xR zqi
theorem zAS:aH.desc 169=some (.array 24 5):=by kernel_rfl
theorem zBr (A o:Nat) (ik:IntKind) (i:Int):jq aH 169 (.pointer (some ⟨A,o,none⟩)) (.int ik i)=if 0<=i/\i < 24 then some (.pointer (some ⟨A,o+i.toNat*1,none⟩)) else none:=zuT zAS (by kernel_rfl)
end Go.Proofs.YtnkmeidmdaidhaaGreatDoor
namespace Go.Proofs.YtnkmeidmdaidhaaGreatDoor
open Go.Am Tryz
abbrev cA (f:Func) (a:Nat):Prop:=∀ (K:aL) (e:Env) (h:Heap),dM aH f K .ret e h=K (e.get a) h
abbrev zx (f:Func) (a b:Nat):Prop:=∀ (K:aL) (e:Env) (h:Heap),dM aH f K .ret e h=K (.tuple #[e.get a,e.get b]) h
abbrev D9 (f:Func) (a b:Nat):Prop:=∀ (K:aL) (e:Env) (h:Heap),dM aH f K .ret e h=aK (fU aH a (e.get b) h) h K
abbrev vH (f:Func):Prop:=∀ (K:aL) (e:Env) (h:Heap),dM aH f K .ret e h=K undef h
abbrev vI (f:Func):Prop:=∀ (K:aL) (e:Env) (h:Heap),dM aH f K .normal e h=K undef h
theorem fi3:cA f3 8:=λ_ _ _=>cB rfl
theorem fi4:cA f4 8:=λ_ _ _=>cB rfl
theorem fi5:cA f5 8:=λ_ _ _=>cB rfl
theorem fi7:cA f7 4:=λ_ _ _=>cB rfl
theorem fi8:cA f8 2:=λ_ _ _=>cB rfl
theorem fi9:cA f9 2:=λ_ _ _=>cB rfl
theorem N1:D9 f10 28 6:=λ_ _ _=>Ev rfl
theorem N2:cA f11 4:=λ_ _ _=>cB rfl
theorem N6:cA f12 2:=λ_ _ _=>cB rfl
theorem Oa:D9 f13 28 6:=λ_ _ _=>Ev rfl
theorem Ob (K:aL) (e:Env) (h:Heap):dM aH f14 K .ret e h=aK (fU aH 40 (e.get 8) h) h (λx h'=>K (.tuple #[x,e.get 9]) h'):=Ti rfl
theorem Oc:cA f15 4:=λ_ _ _=>cB rfl
theorem Od:zx f16 8 9:=λ_ _ _=>zN rfl
theorem Oe:cA f17 4:=λ_ _ _=>cB rfl
theorem Of:cA f18 4:=λ_ _ _=>cB rfl
theorem Og:cA f19 4:=λ_ _ _=>cB rfl
theorem Oh:cA f21 4:=λ_ _ _=>cB rfl
theorem Oi:cA f24 4:=λ_ _ _=>cB rfl
theorem Oj:cA f25 2:=λ_ _ _=>cB rfl
theorem Ol:cA f26 2:=λ_ _ _=>cB rfl
theorem Om:cA f27 2:=λ_ _ _=>cB rfl
theorem On:cA f28 0:=λ_ _ _=>cB rfl
theorem Oo:cA f29 4:=λ_ _ _=>cB rfl
theorem Oq:D9 f30 28 2:=λ_ _ _=>Ev rfl
theorem Ot:cA f31 2:=λ_ _ _=>cB rfl
theorem Ou:vH f32:=λ_ _ _=>we rfl
theorem Pu:vI f32:=λ_ _ _=>vS rfl
theorem Ox:cA f33 4:=λ_ _ _=>cB rfl
theorem Oy:cA f34 2:=λ_ _ _=>cB rfl
theorem Oz:cA f35 4:=λ_ _ _=>cB rfl
theorem OA:cA f36 6:=λ_ _ _=>cB rfl
theorem OB:cA f38 4:=λ_ _ _=>cB rfl
theorem OC:cA f42 2:=λ_ _ _=>cB rfl
theorem OD:cA f43 2:=λ_ _ _=>cB rfl
theorem OE:cA f44 2:=λ_ _ _=>cB rfl
theorem OG:cA f45 2:=λ_ _ _=>cB rfl
theorem OH:cA f46 4:=λ_ _ _=>cB rfl
theorem OI:cA f47 2:=λ_ _ _=>cB rfl
theorem OJ:cA f48 2:=λ_ _ _=>cB rfl
theorem OK:cA f49 2:=λ_ _ _=>cB rfl
theorem OL:D9 f50 28 4:=λ_ _ _=>Ev rfl
theorem OM:cA f51 2:=λ_ _ _=>cB rfl
theorem ON:vH f52:=λ_ _ _=>we rfl
theorem Pv:vI f52:=λ_ _ _=>vS rfl
theorem OO:cA f53 4:=λ_ _ _=>cB rfl
theorem OP:cA f54 4:=λ_ _ _=>cB rfl
theorem OQ:cA f55 4:=λ_ _ _=>cB rfl
theorem OR (K:aL) (e:Env) (h:Heap):dM aH f56 K .ret e h=K (.tuple #[e.get 4,e.get 5,e.get 6]) h:=zuO rfl
theorem OS (K:aL) (e:Env) (h:Heap):dM aH f57 K .ret e h=aK (fU aH 28 (e.get 4) h) h (λx h'=>K (.tuple #[x,e.get 5]) h'):=Ti rfl
theorem OT:cA f58 4:=λ_ _ _=>cB rfl
theorem OU:vH f59:=λ_ _ _=>we rfl
theorem Pw:vI f59:=λ_ _ _=>vS rfl
theorem OV:zx f60 4 5:=λ_ _ _=>zN rfl
theorem OW:vH f61:=λ_ _ _=>we rfl
theorem Px:vI f61:=λ_ _ _=>vS rfl
theorem OX:cA f62 2:=λ_ _ _=>cB rfl
theorem OY:vH f63:=λ_ _ _=>we rfl
theorem Py:vI f63:=λ_ _ _=>vS rfl
theorem OZ:cA f64 2:=λ_ _ _=>cB rfl
theorem O0:D9 f65 28 4:=λ_ _ _=>Ev rfl
theorem O1:cA f66 6:=λ_ _ _=>cB rfl
theorem O2:zx f67 4 5:=λ_ _ _=>zN rfl
theorem O3:zx f68 4 5:=λ_ _ _=>zN rfl
theorem O4:cA f69 4:=λ_ _ _=>cB rfl
theorem O5:cA f75 2:=λ_ _ _=>cB rfl
theorem O6:cA f76 4:=λ_ _ _=>cB rfl
theorem O7:cA f77 2:=λ_ _ _=>cB rfl
theorem O8:cA f78 2:=λ_ _ _=>cB rfl
theorem O9:cA f79 6:=λ_ _ _=>cB rfl
theorem Pa:cA f80 2:=λ_ _ _=>cB rfl
theorem Pb:cA f81 2:=λ_ _ _=>cB rfl
theorem Pc:cA f82 2:=λ_ _ _=>cB rfl
theorem Pd:cA f83 4:=λ_ _ _=>cB rfl
theorem Pe:cA f84 2:=λ_ _ _=>cB rfl
theorem Pf:cA f85 2:=λ_ _ _=>cB rfl
theorem Pg:vH f86:=λ_ _ _=>we rfl
theorem Pz:vI f86:=λ_ _ _=>vS rfl
theorem Ph:cA f88 2:=λ_ _ _=>cB rfl
theorem Pj:zx f89 4 5:=λ_ _ _=>zN rfl
theorem Pk:zx f90 6 7:=λ_ _ _=>zN rfl
theorem Pl:cA f91 4:=λ_ _ _=>cB rfl
theorem Pm:cA f92 5:=λ_ _ _=>cB rfl
theorem Pn:zx f93 6 7:=λ_ _ _=>zN rfl
theorem Po:D9 f94 25 4:=λ_ _ _=>Ev rfl
theorem Pp:cA f95 2:=λ_ _ _=>cB rfl
theorem Pq:cA f96 4:=λ_ _ _=>cB rfl
theorem Pr:zx f97 6 7:=λ_ _ _=>zN rfl
theorem Ps:cA f98 2:=λ_ _ _=>cB rfl
theorem Pt:cA f99 4:=λ_ _ _=>cB rfl
theorem zAT:cA f100 4:=λ_ _ _=>cB rfl
theorem zAU:cA f101 2:=λ_ _ _=>cB rfl
theorem zAV (K:aL) (e:Env) (h:Heap):dM aH f102 K .ret e h=aK (fU aH 25 (e.get 4) h) h (λx h'=>K (.tuple #[x,e.get 5]) h'):=Ti rfl
theorem zAW:cA f103 4:=λ_ _ _=>cB rfl
theorem zAX:cA f108 4:=λ_ _ _=>cB rfl
theorem zAY:cA f109 2:=λ_ _ _=>cB rfl
theorem zAZ:cA f110 2:=λ_ _ _=>cB rfl
theorem zA0:cA f111 2:=λ_ _ _=>cB rfl
theorem zA1:cA f112 4:=λ_ _ _=>cB rfl
theorem zA2:cA f113 0:=λ_ _ _=>cB rfl
theorem zA3:cA f114 2:=λ_ _ _=>cB rfl
theorem zA4:cA f115 2:=λ_ _ _=>cB rfl
theorem zA5:cA f116 2:=λ_ _ _=>cB rfl
theorem zA6:vH f117:=λ_ _ _=>we rfl
theorem zBn:vI f117:=λ_ _ _=>vS rfl
theorem zA7:vH f118:=λ_ _ _=>we rfl
theorem zBo:vI f118:=λ_ _ _=>vS rfl
theorem zA8:cA f121 2:=λ_ _ _=>cB rfl
theorem zA9:cA f122 4:=λ_ _ _=>cB rfl
theorem zBa:cA f123 4:=λ_ _ _=>cB rfl
theorem zBb:cA f124 4:=λ_ _ _=>cB rfl
theorem zBc:cA f125 2:=λ_ _ _=>cB rfl
theorem zBd:cA f126 2:=λ_ _ _=>cB rfl
theorem zBe:cA f127 4:=λ_ _ _=>cB rfl
theorem zBf:cA f128 4:=λ_ _ _=>cB rfl
theorem zBg:cA f129 4:=λ_ _ _=>cB rfl
theorem zBh:cA f130 4:=λ_ _ _=>cB rfl
theorem zBi:cA f135 4:=λ_ _ _=>cB rfl
theorem zBj:cA f136 4:=λ_ _ _=>cB rfl
theorem zBk:vH f138:=λ_ _ _=>we rfl
theorem zBp:vI f138:=λ_ _ _=>vS rfl
theorem zBl:cA f143 2:=λ_ _ _=>cB rfl
theorem zBm:vH f150:=λ_ _ _=>we rfl
theorem zBq:vI f150:=λ_ _ _=>vS rfl
end Go.Proofs.YtnkmeidmdaidhaaGreatDoor
