/- What the plain machine's operations come to at this seat's types. Written by a program (mksim.py). No condition. -/
import Derived.Test.YtnkmeidmdaidhaaGreatDoorG10
namespace Go.Proofs.YtnkmeidmdaidhaaGreatDoor
open Go.Am
abbrev rz (t:Nat):Prop:=∀ (A o:Nat) (h:Heap),hU aJ t (.pointer (some ⟨A,o,none⟩)) h=Pq (h.get A) o
abbrev En (t n:Nat):Prop:=∀ (A o:Nat) (h:Heap),hU aJ t (.pointer (some ⟨A,o,none⟩)) h=yA (h.get A) o n
abbrev xK (t:Nat) (z:List ai):Prop:=∀ (P:Program) (ov:Ov) (d:Option Tmp) (ty:TypeId) (pos:String) (af:Array Edge) (g:Option (Nat × Bool)) (e:Env) (h:Heap) (K:aO),cO P aJ ov ⟨d,.alloc t,ty,pos,af,g⟩ e h K=K (.pointer (some ⟨h.size,0,none⟩)) (h.push (.row z t false))
theorem zJ {t n b:Nat} {z:List ai} (hz:aJ.info t=some (n,b,z)):xK t z:=λ_ _ d ty pos af g e h K=>zAP d ty pos af g e h K t hz
abbrev zI (t:Nat):Prop:=∀ (a:Option Addr) (n c:Nat) (h:Heap),bW aJ t (.slice a n c) h=some (.int .i64 n)
abbrev BE (t k:Nat) (z:List ai) (e:Nat):Prop:=∀ (n:Nat) (parts:List (Nat × ai)) (h:Heap),wW aJ t n parts h=if n*k > 16777216 || n > 16777216 then Option.none else (pZ (λi=>some (i*k,k)) (nh z n) parts).map λcs=>(.slice (some ⟨h.size,0,none⟩) n n,h.push (.row cs e false))
abbrev zH (t k:Nat):Prop:=∀ (A o n c:Nat) (ik:IntKind) (i:Int),kF aJ t (.slice (some ⟨A,o,none⟩) n c) (.int ik i)=if 0<=i/\i < n then some (.pointer (some ⟨A,o+i.toNat*k,none⟩)) else none
abbrev gB (t f k:Nat):Prop:=∀ A o:Nat,mu aJ t (.pointer (some ⟨A,o,none⟩)) f=some (.pointer (some ⟨A,o+k,none⟩))
theorem zD:dF aJ 3=some 1:=by kernel_rfl
theorem PJ:dw aJ 3=some false:=by kernel_rfl
theorem nH:rz 3:=λ_ _ _=>rA PJ
theorem sz4:dF aJ 4=some 1:=by kernel_rfl
theorem ag4:dw aJ 4=some false:=by kernel_rfl
theorem xH:rz 4:=λ_ _ _=>rA ag4
theorem Eh:dF aJ 9=some 1:=by kernel_rfl
theorem Ay:dw aJ 9=some false:=by kernel_rfl
theorem lD:rz 9:=λ_ _ _=>rA Ay
theorem ds9:aJ.desc 9=some .string:=by kernel_rfl
theorem Ut (s:aV) (h:Heap):bW aJ 9 (.string s) h=some (.int .i64 s.size):=zx5 ds9
theorem PH:dw aJ 22=some false:=by kernel_rfl
theorem D3:rz 22:=λ_ _ _=>rA PH
theorem jv:aJ.desc 22=some (.slice 35):=by kernel_rfl
theorem rk:zI 22:=λ_ _ _ _=>zK jv
theorem Cv:BE 22 12 [.string ⟨#[]⟩,.string ⟨#[]⟩,.int .i64 0,.bool false,.string ⟨#[]⟩,.bool false,.string ⟨#[]⟩,.bool false,.string ⟨#[]⟩,.bool false,.string ⟨#[]⟩,.slice none 0 0] 35:=AA jv VV
theorem oG:zH 22 12:=λ_ _ _ _ _ _=>zQ jv (by kernel_rfl)
theorem HF:dw aJ 23=some false:=by kernel_rfl
theorem jx:rz 23:=λ_ _ _=>rA HF
theorem cM:aJ.desc 23=some (.slice 28):=by kernel_rfl
theorem iG:zI 23:=λ_ _ _ _=>zK cM
theorem qO:BE 23 11 [.string ⟨#[]⟩,.string ⟨#[]⟩,.int .i64 0,.bool false,.string ⟨#[]⟩,.bool false,.string ⟨#[]⟩,.bool false,.string ⟨#[]⟩,.bool false,.string ⟨#[]⟩] 28:=AA cM zS
theorem iF:zH 23 11:=λ_ _ _ _ _ _=>zQ cM (by kernel_rfl)
theorem iK:dF aJ 25=some 2:=by kernel_rfl
theorem sJ:dw aJ 25=some true:=by kernel_rfl
theorem kr:En 25 2:=λ_ _ _=>EM sJ iK
theorem mQ:xK 25 [.bool false,.string ⟨#[]⟩]:=zJ zuo
theorem xX:gB 25 0 0:=λ_ _=>Eq.refl _
theorem uA:gB 25 1 1:=λ_ _=>Eq.refl _
theorem UR:dF aJ 26=some 8:=by kernel_rfl
theorem PI:dw aJ 26=some true:=by kernel_rfl
theorem Un:En 26 8:=λ_ _ _=>EM PI UR
theorem CK:aJ.desc 26=some (.array 4 25):=by kernel_rfl
theorem pO (A o:Nat) (ik:IntKind) (i:Int):kF aJ 26 (.pointer (some ⟨A,o,none⟩)) (.int ik i)=if 0<=i/\i < 4 then some (.pointer (some ⟨A,o+i.toNat*2,none⟩)) else none:=zvS CK (by kernel_rfl)
theorem cw:dF aJ 28=some 11:=by kernel_rfl
theorem jb:dw aJ 28=some true:=by kernel_rfl
theorem cJ:En 28 11:=λ_ _ _=>EM jb cw
theorem kc:xK 28 [.string ⟨#[]⟩,.string ⟨#[]⟩,.int .i64 0,.bool false,.string ⟨#[]⟩,.bool false,.string ⟨#[]⟩,.bool false,.string ⟨#[]⟩,.bool false,.string ⟨#[]⟩]:=zJ zS
theorem Mk:gB 28 0 0:=λ_ _=>Eq.refl _
theorem E0:gB 28 1 1:=λ_ _=>Eq.refl _
theorem B7:gB 28 2 2:=λ_ _=>Eq.refl _
theorem xY:gB 28 3 3:=λ_ _=>Eq.refl _
theorem lQ:aJ.desc 29=some (.slice 9):=by kernel_rfl
theorem D7:zI 29:=λ_ _ _ _=>zK lQ
theorem HK:BE 29 1 [.string ⟨#[]⟩] 9:=AA lQ Wn
theorem D0:zH 29 1:=λ_ _ _ _ _ _=>zQ lQ (by kernel_rfl)
theorem kx:dF aJ 35=some 12:=by kernel_rfl
theorem sK:dw aJ 35=some true:=by kernel_rfl
theorem ri:En 35 12:=λ_ _ _=>EM sK kx
theorem uN:xK 35 [.string ⟨#[]⟩,.string ⟨#[]⟩,.int .i64 0,.bool false,.string ⟨#[]⟩,.bool false,.string ⟨#[]⟩,.bool false,.string ⟨#[]⟩,.bool false,.string ⟨#[]⟩,.slice none 0 0]:=zJ VV
theorem Ae:gB 35 0 0:=λ_ _=>Eq.refl _
theorem Af:gB 35 1 11:=λ_ _=>Eq.refl _
theorem PK:dw aJ 38=some false:=by kernel_rfl
theorem zw:rz 38:=λ_ _ _=>rA PK
theorem yB:aJ.desc 38=some (.slice 71):=by kernel_rfl
theorem Ur:zI 38:=λ_ _ _ _=>zK yB
theorem P0:BE 38 13 [.string ⟨#[]⟩,.string ⟨#[]⟩,.int .i64 0,.bool false,.string ⟨#[]⟩,.bool false,.string ⟨#[]⟩,.bool false,.string ⟨#[]⟩,.bool false,.string ⟨#[]⟩,.int .i64 0,.slice none 0 0] 71:=AA yB VW
theorem Uj:zH 38 13:=λ_ _ _ _ _ _=>zQ yB (by kernel_rfl)
theorem lb:dF aJ 40=some 4:=by kernel_rfl
theorem PL:dw aJ 40=some true:=by kernel_rfl
theorem JW:En 40 4:=λ_ _ _=>EM PL lb
theorem uO:xK 40 [.slice none 0 0,.int .i64 0,.int .i64 0,.slice none 0 0]:=zJ zup
theorem Ml:gB 40 0 0:=λ_ _=>Eq.refl _
theorem Pd:gB 40 1 1:=λ_ _=>Eq.refl _
theorem Xo:gB 40 2 2:=λ_ _=>Eq.refl _
theorem zzf:gB 40 3 3:=λ_ _=>Eq.refl _
theorem PN:dw aJ 57=some false:=by kernel_rfl
theorem zx:rz 57:=λ_ _ _=>rA PN
theorem PO:dw aJ 59=some false:=by kernel_rfl
theorem Uo:rz 59:=λ_ _ _=>rA PO
theorem H2:aJ.desc 59=some (.map 28 123):=by kernel_rfl
theorem US:dF aJ 60=some 1:=by kernel_rfl
theorem PQ:dw aJ 60=some false:=by kernel_rfl
theorem JX:rz 60:=λ_ _ _=>rA PQ
theorem sO:aJ.desc 60=some (.slice 99):=by kernel_rfl
theorem Us:zI 60:=λ_ _ _ _=>zK sO
theorem P1:BE 60 1 [.pointer none] 99:=AA sO zlF
theorem Uk:zH 60 1:=λ_ _ _ _ _ _=>zQ sO (by kernel_rfl)
theorem UT:dF aJ 61=some 1:=by kernel_rfl
theorem PR:dw aJ 61=some false:=by kernel_rfl
theorem wG:rz 61:=λ_ _ _=>rA PR
theorem jR:aJ.desc 61=some (.slice 3):=by kernel_rfl
theorem J1:zI 61:=λ_ _ _ _=>zK jR
theorem Cw:BE 61 1 [.int .i64 0] 3:=AA jR BL
theorem JV:zH 61 1:=λ_ _ _ _ _ _=>zQ jR (by kernel_rfl)
theorem Xp:gB 63 0 0:=λ_ _=>Eq.refl _
theorem zBr:gB 63 1 1:=λ_ _=>Eq.refl _
theorem zBs:gB 63 2 2:=λ_ _=>Eq.refl _
theorem Pe:gB 63 3 3:=λ_ _=>Eq.refl _
theorem Pf:gB 63 4 4:=λ_ _=>Eq.refl _
theorem zzg:gB 63 5 5:=λ_ _=>Eq.refl _
theorem Xq:gB 63 6 6:=λ_ _=>Eq.refl _
theorem zzh:gB 63 7 7:=λ_ _=>Eq.refl _
theorem zBt:gB 63 8 8:=λ_ _=>Eq.refl _
theorem Kk:dF aJ 71=some 13:=by kernel_rfl
theorem PS:dw aJ 71=some true:=by kernel_rfl
theorem D4:En 71 13:=λ_ _ _=>EM PS Kk
theorem HH:xK 71 [.string ⟨#[]⟩,.string ⟨#[]⟩,.int .i64 0,.bool false,.string ⟨#[]⟩,.bool false,.string ⟨#[]⟩,.bool false,.string ⟨#[]⟩,.bool false,.string ⟨#[]⟩,.int .i64 0,.slice none 0 0]:=zJ VW
theorem zzi:gB 71 0 0:=λ_ _=>Eq.refl _
theorem zBu:gB 71 1 11:=λ_ _=>Eq.refl _
theorem zzj:gB 71 2 12:=λ_ _=>Eq.refl _
theorem oe:aJ.desc 75=some (.slice 25):=by kernel_rfl
theorem zy:zI 75:=λ_ _ _ _=>zK oe
theorem zt:zH 75 2:=λ_ _ _ _ _ _=>zQ oe (by kernel_rfl)
theorem PT:dw aJ 83=some false:=by kernel_rfl
theorem D5:rz 83:=λ_ _ _=>rA PT
theorem yC:aJ.desc 83=some (.map 28 3):=by kernel_rfl
theorem zzk:gB 85 0 0:=λ_ _=>Eq.refl _
theorem UU:dF aJ 86=some 1:=by kernel_rfl
theorem PU:dw aJ 86=some false:=by kernel_rfl
theorem D6:rz 86:=λ_ _ _=>rA PU
theorem py:aJ.desc 86=some (.slice 109):=by kernel_rfl
theorem D8:zI 86:=λ_ _ _ _=>zK py
theorem P2:BE 86 1 [.pointer none] 109:=AA py zkn
theorem Ul:zH 86 1:=λ_ _ _ _ _ _=>zQ py (by kernel_rfl)
theorem zBv:gB 88 0 0:=λ_ _=>Eq.refl _
theorem Xr:gB 88 1 1:=λ_ _=>Eq.refl _
theorem zBw:gB 88 2 2:=λ_ _=>Eq.refl _
theorem PV:dw aJ 95=some false:=by kernel_rfl
theorem pP:rz 95:=λ_ _ _=>rA PV
theorem PW:xK 95 [.slice none 0 0]:=zJ zuq
theorem dx:aJ.desc 95=some (.slice 134):=by kernel_rfl
theorem pQ:zI 95:=λ_ _ _ _=>zK dx
theorem yp:BE 95 3 [.string ⟨#[]⟩,.bool false,.string ⟨#[]⟩] 134:=AA dx zN
theorem oH:zH 95 3:=λ_ _ _ _ _ _=>zQ dx (by kernel_rfl)
theorem UW:dF aJ 99=some 1:=by kernel_rfl
theorem HG:dw aJ 99=some false:=by kernel_rfl
theorem Up:rz 99:=λ_ _ _=>rA HG
theorem zvw:gB 101 0 0:=λ_ _=>Eq.refl _
theorem zvx:gB 101 1 1:=λ_ _=>Eq.refl _
theorem zz9:gB 101 2 2:=λ_ _=>Eq.refl _
theorem zvy:gB 101 3 3:=λ_ _=>Eq.refl _
theorem zvz:gB 101 4 4:=λ_ _=>Eq.refl _
theorem zAa:gB 101 5 15:=λ_ _=>Eq.refl _
theorem zAb:gB 101 6 16:=λ_ _=>Eq.refl _
theorem zCI:dF aJ 109=some 1:=by kernel_rfl
theorem zA5:dw aJ 109=some false:=by kernel_rfl
theorem zCx:rz 109:=λ_ _ _=>rA zA5
theorem Xd:gB 112 0 0:=λ_ _=>Eq.refl _
theorem zvA:gB 112 1 11:=λ_ _=>Eq.refl _
theorem zAc:gB 112 2 12:=λ_ _=>Eq.refl _
theorem zvB:gB 112 3 13:=λ_ _=>Eq.refl _
theorem zCJ:dF aJ 123=some 0:=by kernel_rfl
theorem zA6:xK 123 []:=zJ zq8
theorem mx:dF aJ 134=some 3:=by kernel_rfl
theorem G8:dw aJ 134=some true:=by kernel_rfl
theorem Fp:En 134 3:=λ_ _ _=>EM G8 mx
theorem Mw:xK 134 [.string ⟨#[]⟩,.bool false,.string ⟨#[]⟩]:=zJ zN
theorem wZ:gB 134 0 0:=λ_ _=>Eq.refl _
theorem LU:gB 134 1 1:=λ_ _=>Eq.refl _
theorem zBo:aJ.desc 142=some (.map 9 123):=by kernel_rfl
theorem zBV:xK 169 [.int .u8 0,.int .u8 0,.int .u8 0,.int .u8 0,.int .u8 0,.int .u8 0,.int .u8 0,.int .u8 0,.int .u8 0,.int .u8 0,.int .u8 0,.int .u8 0,.int .u8 0,.int .u8 0,.int .u8 0,.int .u8 0,.int .u8 0,.int .u8 0,.int .u8 0,.int .u8 0,.int .u8 0,.int .u8 0,.int .u8 0,.int .u8 0]:=zJ zq9
theorem zBX:aJ.desc 169=some (.array 24 5):=by kernel_rfl
theorem zCw (A o:Nat) (ik:IntKind) (i:Int):kF aJ 169 (.pointer (some ⟨A,o,none⟩)) (.int ik i)=if 0<=i/\i < 24 then some (.pointer (some ⟨A,o+i.toNat*1,none⟩)) else none:=zvS zBX (by kernel_rfl)
end Go.Proofs.YtnkmeidmdaidhaaGreatDoor
namespace Go.Proofs.YtnkmeidmdaidhaaGreatDoor
open Go.Am Tryz
abbrev cX (f:Func) (a:Nat):Prop:=∀ (K:aO) (e:Env) (h:Heap),eu aJ f K .ret e h=K (e.get a) h
abbrev BF (f:Func) (a b:Nat):Prop:=∀ (K:aO) (e:Env) (h:Heap),eu aJ f K .ret e h=K (.tuple #[e.get a,e.get b]) h
abbrev F3 (f:Func) (a b:Nat):Prop:=∀ (K:aO) (e:Env) (h:Heap),eu aJ f K .ret e h=aM (hU aJ a (e.get b) h) h K
abbrev xL (f:Func):Prop:=∀ (K:aO) (e:Env) (h:Heap),eu aJ f K .ret e h=K undef h
abbrev xM (f:Func):Prop:=∀ (K:aO) (e:Env) (h:Heap),eu aJ f K .normal e h=K undef h
theorem fi3:cX f3 8:=λ_ _ _=>cZ rfl
theorem fi4:cX f4 8:=λ_ _ _=>cZ rfl
theorem fi5:cX f5 8:=λ_ _ _=>cZ rfl
theorem fi7:cX f7 4:=λ_ _ _=>cZ rfl
theorem fi8:cX f8 2:=λ_ _ _=>cZ rfl
theorem fi9:cX f9 2:=λ_ _ _=>cZ rfl
theorem Ql:F3 f10 28 6:=λ_ _ _=>GA rfl
theorem Qm:cX f11 4:=λ_ _ _=>cZ rfl
theorem Qn:cX f12 2:=λ_ _ _=>cZ rfl
theorem Qo:F3 f13 28 6:=λ_ _ _=>GA rfl
theorem Qp (K:aO) (e:Env) (h:Heap):eu aJ f14 K .ret e h=aM (hU aJ 40 (e.get 8) h) h (λx h'=>K (.tuple #[x,e.get 9]) h'):=VC rfl
theorem Qq:cX f15 4:=λ_ _ _=>cZ rfl
theorem Qr:BF f16 8 9:=λ_ _ _=>BS rfl
theorem Qs:cX f17 4:=λ_ _ _=>cZ rfl
theorem Qt:cX f18 4:=λ_ _ _=>cZ rfl
theorem Qu:cX f19 4:=λ_ _ _=>cZ rfl
theorem Qv:cX f21 4:=λ_ _ _=>cZ rfl
theorem Qw:cX f24 4:=λ_ _ _=>cZ rfl
theorem Qx:cX f25 2:=λ_ _ _=>cZ rfl
theorem Qy:cX f26 2:=λ_ _ _=>cZ rfl
theorem Qz:cX f27 2:=λ_ _ _=>cZ rfl
theorem QA:cX f28 0:=λ_ _ _=>cZ rfl
theorem QB:cX f29 4:=λ_ _ _=>cZ rfl
theorem QC:F3 f30 28 2:=λ_ _ _=>GA rfl
theorem QD:cX f31 2:=λ_ _ _=>cZ rfl
theorem QE:xL f32:=λ_ _ _=>xZ rfl
theorem Rz:xM f32:=λ_ _ _=>xW rfl
theorem QF:cX f33 4:=λ_ _ _=>cZ rfl
theorem QG:cX f34 2:=λ_ _ _=>cZ rfl
theorem QH:cX f42 2:=λ_ _ _=>cZ rfl
theorem QI:cX f43 2:=λ_ _ _=>cZ rfl
theorem QJ:cX f44 2:=λ_ _ _=>cZ rfl
theorem QK:cX f45 2:=λ_ _ _=>cZ rfl
theorem QL:cX f46 4:=λ_ _ _=>cZ rfl
theorem QM:cX f47 2:=λ_ _ _=>cZ rfl
theorem QN:cX f48 2:=λ_ _ _=>cZ rfl
theorem QO:cX f49 2:=λ_ _ _=>cZ rfl
theorem QP:F3 f50 28 4:=λ_ _ _=>GA rfl
theorem QQ:cX f51 2:=λ_ _ _=>cZ rfl
theorem QR:xL f52:=λ_ _ _=>xZ rfl
theorem RA:xM f52:=λ_ _ _=>xW rfl
theorem QS:cX f53 4:=λ_ _ _=>cZ rfl
theorem QT:cX f54 4:=λ_ _ _=>cZ rfl
theorem QU:cX f55 4:=λ_ _ _=>cZ rfl
theorem QV (K:aO) (e:Env) (h:Heap):eu aJ f56 K .ret e h=K (.tuple #[e.get 4,e.get 5,e.get 6]) h:=zvJ rfl
theorem QW (K:aO) (e:Env) (h:Heap):eu aJ f57 K .ret e h=aM (hU aJ 28 (e.get 4) h) h (λx h'=>K (.tuple #[x,e.get 5]) h'):=VC rfl
theorem QX:cX f58 4:=λ_ _ _=>cZ rfl
theorem QY:xL f59:=λ_ _ _=>xZ rfl
theorem RB:xM f59:=λ_ _ _=>xW rfl
theorem QZ:BF f60 4 5:=λ_ _ _=>BS rfl
theorem Q0:xL f61:=λ_ _ _=>xZ rfl
theorem RC:xM f61:=λ_ _ _=>xW rfl
theorem Q1:cX f62 2:=λ_ _ _=>cZ rfl
theorem Q2:xL f63:=λ_ _ _=>xZ rfl
theorem RD:xM f63:=λ_ _ _=>xW rfl
theorem Q3:cX f64 2:=λ_ _ _=>cZ rfl
theorem Q4:F3 f65 28 4:=λ_ _ _=>GA rfl
theorem Q5:cX f66 6:=λ_ _ _=>cZ rfl
theorem Q6:BF f67 4 5:=λ_ _ _=>BS rfl
theorem Q7:BF f68 4 5:=λ_ _ _=>BS rfl
theorem Q8:cX f69 4:=λ_ _ _=>cZ rfl
theorem Q9:cX f75 2:=λ_ _ _=>cZ rfl
theorem Ra:cX f76 4:=λ_ _ _=>cZ rfl
theorem Rb:cX f77 2:=λ_ _ _=>cZ rfl
theorem Rc:cX f78 2:=λ_ _ _=>cZ rfl
theorem Rd:cX f79 6:=λ_ _ _=>cZ rfl
theorem Re:cX f80 2:=λ_ _ _=>cZ rfl
theorem Rf:cX f81 2:=λ_ _ _=>cZ rfl
theorem Rh:cX f82 2:=λ_ _ _=>cZ rfl
theorem Ri:cX f83 4:=λ_ _ _=>cZ rfl
theorem Rj:cX f84 2:=λ_ _ _=>cZ rfl
theorem Rk:cX f85 2:=λ_ _ _=>cZ rfl
theorem Rl:xL f86:=λ_ _ _=>xZ rfl
theorem RE:xM f86:=λ_ _ _=>xW rfl
theorem Rm:cX f88 2:=λ_ _ _=>cZ rfl
theorem Rn:BF f89 4 5:=λ_ _ _=>BS rfl
theorem Rp:BF f90 6 7:=λ_ _ _=>BS rfl
theorem Rq:cX f91 4:=λ_ _ _=>cZ rfl
theorem Rr:cX f92 5:=λ_ _ _=>cZ rfl
theorem Rs:BF f93 6 7:=λ_ _ _=>BS rfl
theorem Rt:F3 f94 25 4:=λ_ _ _=>GA rfl
theorem Ru:cX f95 2:=λ_ _ _=>cZ rfl
theorem Rv:cX f96 4:=λ_ _ _=>cZ rfl
theorem Rw:BF f97 6 7:=λ_ _ _=>BS rfl
theorem Rx:cX f98 2:=λ_ _ _=>cZ rfl
theorem Ry:cX f99 4:=λ_ _ _=>cZ rfl
theorem zBY:cX f100 4:=λ_ _ _=>cZ rfl
theorem zBZ:cX f101 2:=λ_ _ _=>cZ rfl
theorem zB0 (K:aO) (e:Env) (h:Heap):eu aJ f102 K .ret e h=aM (hU aJ 25 (e.get 4) h) h (λx h'=>K (.tuple #[x,e.get 5]) h'):=VC rfl
theorem zB1:cX f103 4:=λ_ _ _=>cZ rfl
theorem zB2:cX f108 4:=λ_ _ _=>cZ rfl
theorem zB3:cX f109 2:=λ_ _ _=>cZ rfl
theorem zB4:cX f110 2:=λ_ _ _=>cZ rfl
theorem zB5:cX f111 2:=λ_ _ _=>cZ rfl
theorem zB6:cX f112 4:=λ_ _ _=>cZ rfl
theorem zB7:cX f113 0:=λ_ _ _=>cZ rfl
theorem zB8:cX f114 2:=λ_ _ _=>cZ rfl
theorem zB9:cX f115 2:=λ_ _ _=>cZ rfl
theorem zCa:cX f116 2:=λ_ _ _=>cZ rfl
theorem zCb:xL f117:=λ_ _ _=>xZ rfl
theorem zCs:xM f117:=λ_ _ _=>xW rfl
theorem zCc:xL f118:=λ_ _ _=>xZ rfl
theorem zCt:xM f118:=λ_ _ _=>xW rfl
theorem zCd:cX f121 2:=λ_ _ _=>cZ rfl
theorem zCe:cX f122 4:=λ_ _ _=>cZ rfl
theorem zCf:cX f123 4:=λ_ _ _=>cZ rfl
theorem zCg:cX f124 4:=λ_ _ _=>cZ rfl
theorem zCh:cX f125 2:=λ_ _ _=>cZ rfl
theorem zCi:cX f126 2:=λ_ _ _=>cZ rfl
theorem zCj:cX f127 4:=λ_ _ _=>cZ rfl
theorem zCk:cX f128 4:=λ_ _ _=>cZ rfl
theorem zCl:cX f129 4:=λ_ _ _=>cZ rfl
theorem zCm:cX f130 4:=λ_ _ _=>cZ rfl
theorem zCn:cX f135 4:=λ_ _ _=>cZ rfl
theorem zCo:cX f136 4:=λ_ _ _=>cZ rfl
theorem zCp:xL f138:=λ_ _ _=>xZ rfl
theorem zCu:xM f138:=λ_ _ _=>xW rfl
theorem zCq:cX f143 2:=λ_ _ _=>cZ rfl
theorem zCr:xL f150:=λ_ _ _=>xZ rfl
theorem zCv:xM f150:=λ_ _ _=>xW rfl
end Go.Proofs.YtnkmeidmdaidhaaGreatDoor
