/- What the plain machine's operations come to at this seat's types. Written by a program (mksim.py). No condition. -/
import Derived.Test.YtnkmeidmdaidhaaGreatDoorG15
namespace Go.Proofs.YtnkmeidmdaidhaaGreatDoor
open Go.Am
abbrev rW (t:Nat):Prop:=∀ (A o:Nat) (h:Heap),iz aH t (.pointer (some ⟨A,o,none⟩)) h=QX (h.get A) o
abbrev Fu (t n:Nat):Prop:=∀ (A o:Nat) (h:Heap),iz aH t (.pointer (some ⟨A,o,none⟩)) h=zD (h.get A) o n
abbrev yG (t:Nat) (z:List ai):Prop:=∀ (P:Program) (ov:Ov) (d:Option Tmp) (ty:TypeId) (pos:String) (af:Array Edge) (g:Option (Nat × Bool)) (e:Env) (h:Heap) (K:aJ),cv P aH ov ⟨d,.alloc t,ty,pos,af,g⟩ e h K=K (.pointer (some ⟨h.size,0,none⟩)) (h.push (.row z t false))
theorem Bb {t n b:Nat} {z:List ai} (hz:aH.info t=some (n,b,z)):yG t z:=λ_ _ d ty pos af g e h K=>zCb d ty pos af g e h K t hz
abbrev Ba (t:Nat):Prop:=∀ (a:Option Addr) (n c:Nat) (h:Heap),bQ aH t (.slice a n c) h=some (.int .i64 n)
abbrev CJ (t k:Nat) (z:List ai) (e:Nat):Prop:=∀ (n:Nat) (parts:List (Nat × ai)) (h:Heap),xM aH t n parts h=if n*k > 16777216 || n > 16777216 then Option.none else (pA (λi=>some (i*k,k)) (nN z n) parts).map λcs=>(.slice (some ⟨h.size,0,none⟩) n n,h.push (.row cs e false))
abbrev A9 (t k:Nat):Prop:=∀ (A o n c:Nat) (ik:IntKind) (i:Int),kC aH t (.slice (some ⟨A,o,none⟩) n c) (.int ik i)=if 0<=i/\i < n then some (.pointer (some ⟨A,o+i.toNat*k,none⟩)) else none
abbrev gO (t f k:Nat):Prop:=∀ A o:Nat,lK aH t (.pointer (some ⟨A,o,none⟩)) f=some (.pointer (some ⟨A,o+k,none⟩))
theorem AX:dJ aH 3=some 1:=by kernel_rfl
theorem Rk:dA aH 3=some false:=by kernel_rfl
theorem ng:rW 3:=λ_ _ _=>rX Rk
theorem sz4:dJ aH 4=some 1:=by kernel_rfl
theorem ag4:dA aH 4=some false:=by kernel_rfl
theorem ui:rW 4:=λ_ _ _=>rX ag4
theorem xD:dJ aH 9=some 1:=by kernel_rfl
theorem uO:dA aH 9=some false:=by kernel_rfl
theorem kp:rW 9:=λ_ _ _=>rX uO
theorem ds9:aH.desc 9=some .string:=by kernel_rfl
theorem Lj (s:aU) (h:Heap):bQ aH 9 (.string s) h=some (.int .i64 s.size):=zy4 ds9
theorem Ri:dA aH 22=some false:=by kernel_rfl
theorem Fc:rW 22:=λ_ _ _=>rX Ri
theorem fB:aH.desc 22=some (.slice 35):=by kernel_rfl
theorem rR:Ba 22:=λ_ _ _ _=>Bj fB
theorem Dx:CJ 22 12 [.string ⟨#[]⟩,.string ⟨#[]⟩,.int .i64 0,.bool false,.string ⟨#[]⟩,.bool false,.string ⟨#[]⟩,.bool false,.string ⟨#[]⟩,.bool false,.string ⟨#[]⟩,.slice none 0 0] 35:=BM fB MQ
theorem pj:A9 22 12:=λ_ _ _ _ _ _=>Bi fB (by kernel_rfl)
theorem Du:dA aH 23=some false:=by kernel_rfl
theorem iX:rW 23:=λ_ _ _=>rX Du
theorem bZ:aH.desc 23=some (.slice 28):=by kernel_rfl
theorem ij:Ba 23:=λ_ _ _ _=>Bj bZ
theorem rB:CJ 23 11 [.string ⟨#[]⟩,.string ⟨#[]⟩,.int .i64 0,.bool false,.string ⟨#[]⟩,.bool false,.string ⟨#[]⟩,.bool false,.string ⟨#[]⟩,.bool false,.string ⟨#[]⟩] 28:=BM bZ sV
theorem ig:A9 23 11:=λ_ _ _ _ _ _=>Bi bZ (by kernel_rfl)
theorem i4:dJ aH 25=some 2:=by kernel_rfl
theorem tu:dA aH 25=some true:=by kernel_rfl
theorem jQ:Fu 25 2:=λ_ _ _=>FU tu i4
theorem nu:yG 25 [.bool false,.string ⟨#[]⟩]:=Bb zve
theorem uD:gO 25 0 0:=λ_ _=>Eq.refl _
theorem ta:gO 25 1 1:=λ_ _=>Eq.refl _
theorem WH:dJ aH 26=some 8:=by kernel_rfl
theorem Rj:dA aH 26=some true:=by kernel_rfl
theorem Wd:Fu 26 8:=λ_ _ _=>FU Rj WH
theorem DN:aH.desc 26=some (.array 4 25):=by kernel_rfl
theorem mJ (A o:Nat) (ik:IntKind) (i:Int):kC aH 26 (.pointer (some ⟨A,o,none⟩)) (.int ik i)=if 0<=i/\i < 4 then some (.pointer (some ⟨A,o+i.toNat*2,none⟩)) else none:=zwL DN (by kernel_rfl)
theorem ck:dJ aH 28=some 11:=by kernel_rfl
theorem iQ:dA aH 28=some true:=by kernel_rfl
theorem cq:Fu 28 11:=λ_ _ _=>FU iQ ck
theorem kH:yG 28 [.string ⟨#[]⟩,.string ⟨#[]⟩,.int .i64 0,.bool false,.string ⟨#[]⟩,.bool false,.string ⟨#[]⟩,.bool false,.string ⟨#[]⟩,.bool false,.string ⟨#[]⟩]:=Bb sV
theorem Ie:gO 28 0 0:=λ_ _=>Eq.refl _
theorem Bu:gO 28 1 1:=λ_ _=>Eq.refl _
theorem yV:gO 28 2 2:=λ_ _=>Eq.refl _
theorem uE:gO 28 3 3:=λ_ _=>Eq.refl _
theorem hY:aH.desc 29=some (.slice 9):=by kernel_rfl
theorem xp:Ba 29:=λ_ _ _ _=>Bj hY
theorem zt:CJ 29 1 [.string ⟨#[]⟩] 9:=BM hY Qb
theorem xm:A9 29 1:=λ_ _ _ _ _ _=>Bi hY (by kernel_rfl)
theorem iE:dJ aH 35=some 12:=by kernel_rfl
theorem rz:dA aH 35=some true:=by kernel_rfl
theorem qA:Fu 35 12:=λ_ _ _=>FU rz iE
theorem vG:yG 35 [.string ⟨#[]⟩,.string ⟨#[]⟩,.int .i64 0,.bool false,.string ⟨#[]⟩,.bool false,.string ⟨#[]⟩,.bool false,.string ⟨#[]⟩,.bool false,.string ⟨#[]⟩,.slice none 0 0]:=Bb MQ
theorem vd:gO 35 0 0:=λ_ _=>Eq.refl _
theorem ve:gO 35 1 11:=λ_ _=>Eq.refl _
theorem Rl:dA aH 38=some false:=by kernel_rfl
theorem AL:rW 38:=λ_ _ _=>rX Rl
theorem zE:aH.desc 38=some (.slice 71):=by kernel_rfl
theorem Wh:Ba 38:=λ_ _ _ _=>Bj zE
theorem RB:CJ 38 13 [.string ⟨#[]⟩,.string ⟨#[]⟩,.int .i64 0,.bool false,.string ⟨#[]⟩,.bool false,.string ⟨#[]⟩,.bool false,.string ⟨#[]⟩,.bool false,.string ⟨#[]⟩,.int .i64 0,.slice none 0 0] 71:=BM zE XK
theorem V9:A9 38 13:=λ_ _ _ _ _ _=>Bi zE (by kernel_rfl)
theorem py:dJ aH 40=some 4:=by kernel_rfl
theorem Rm:dA aH 40=some true:=by kernel_rfl
theorem Le:Fu 40 4:=λ_ _ _=>FU Rm py
theorem vH:yG 40 [.slice none 0 0,.int .i64 0,.int .i64 0,.slice none 0 0]:=Bb zvf
theorem NS:gO 40 0 0:=λ_ _=>Eq.refl _
theorem QO:gO 40 1 1:=λ_ _=>Eq.refl _
theorem Zn:gO 40 2 2:=λ_ _=>Eq.refl _
theorem zAl:gO 40 3 3:=λ_ _=>Eq.refl _
theorem Rn:dA aH 57=some false:=by kernel_rfl
theorem AM:rW 57:=λ_ _ _=>rX Rn
theorem Rp:dA aH 59=some false:=by kernel_rfl
theorem We:rW 59:=λ_ _ _=>rX Rp
theorem Jz:aH.desc 59=some (.map 28 123):=by kernel_rfl
theorem WI:dJ aH 60=some 1:=by kernel_rfl
theorem Rq:dA aH 60=some false:=by kernel_rfl
theorem Lf:rW 60:=λ_ _ _=>rX Rq
theorem tE:aH.desc 60=some (.slice 99):=by kernel_rfl
theorem Wi:Ba 60:=λ_ _ _ _=>Bj tE
theorem RC:CJ 60 1 [.pointer none] 99:=BM tE zlS
theorem Wa:A9 60 1:=λ_ _ _ _ _ _=>Bi tE (by kernel_rfl)
theorem WJ:dJ aH 61=some 1:=by kernel_rfl
theorem Rr:dA aH 61=some false:=by kernel_rfl
theorem xo:rW 61:=λ_ _ _=>rX Rr
theorem kb:aH.desc 61=some (.slice 3):=by kernel_rfl
theorem Li:Ba 61:=λ_ _ _ _=>Bj kb
theorem Dy:CJ 61 1 [.int .i64 0] 3:=BM kb CW
theorem Ld:A9 61 1:=λ_ _ _ _ _ _=>Bi kb (by kernel_rfl)
theorem Zo:gO 63 0 0:=λ_ _=>Eq.refl _
theorem zCL:gO 63 1 1:=λ_ _=>Eq.refl _
theorem zCM:gO 63 2 2:=λ_ _=>Eq.refl _
theorem QP:gO 63 3 3:=λ_ _=>Eq.refl _
theorem QQ:gO 63 4 4:=λ_ _=>Eq.refl _
theorem zAm:gO 63 5 5:=λ_ _=>Eq.refl _
theorem Zp:gO 63 6 6:=λ_ _=>Eq.refl _
theorem zAn:gO 63 7 7:=λ_ _=>Eq.refl _
theorem zCN:gO 63 8 8:=λ_ _=>Eq.refl _
theorem LD:dJ aH 71=some 13:=by kernel_rfl
theorem Rs:dA aH 71=some true:=by kernel_rfl
theorem Fe:Fu 71 13:=λ_ _ _=>FU Rs LD
theorem Je:yG 71 [.string ⟨#[]⟩,.string ⟨#[]⟩,.int .i64 0,.bool false,.string ⟨#[]⟩,.bool false,.string ⟨#[]⟩,.bool false,.string ⟨#[]⟩,.bool false,.string ⟨#[]⟩,.int .i64 0,.slice none 0 0]:=Bb XK
theorem zAo:gO 71 0 0:=λ_ _=>Eq.refl _
theorem zCO:gO 71 1 11:=λ_ _=>Eq.refl _
theorem zAp:gO 71 2 12:=λ_ _=>Eq.refl _
theorem oS:aH.desc 75=some (.slice 25):=by kernel_rfl
theorem AN:Ba 75:=λ_ _ _ _=>Bj oS
theorem AJ:A9 75 2:=λ_ _ _ _ _ _=>Bi oS (by kernel_rfl)
theorem Rt:dA aH 83=some false:=by kernel_rfl
theorem Ff:rW 83:=λ_ _ _=>rX Rt
theorem zF:aH.desc 83=some (.map 28 3):=by kernel_rfl
theorem zAq:gO 85 0 0:=λ_ _=>Eq.refl _
theorem WK:dJ aH 86=some 1:=by kernel_rfl
theorem Ru:dA aH 86=some false:=by kernel_rfl
theorem Fg:rW 86:=λ_ _ _=>rX Ru
theorem qb:aH.desc 86=some (.slice 109):=by kernel_rfl
theorem Fh:Ba 86:=λ_ _ _ _=>Bj qb
theorem RD:CJ 86 1 [.pointer none] 109:=BM qb zkz
theorem Wb:A9 86 1:=λ_ _ _ _ _ _=>Bi qb (by kernel_rfl)
theorem zCP:gO 88 0 0:=λ_ _=>Eq.refl _
theorem Zq:gO 88 1 1:=λ_ _=>Eq.refl _
theorem zCQ:gO 88 2 2:=λ_ _=>Eq.refl _
theorem Rv:dA aH 95=some false:=by kernel_rfl
theorem qB:rW 95:=λ_ _ _=>rX Rv
theorem Rw:yG 95 [.slice none 0 0]:=Bb zvg
theorem dB:aH.desc 95=some (.slice 134):=by kernel_rfl
theorem qC:Ba 95:=λ_ _ _ _=>Bj dB
theorem zu:CJ 95 3 [.string ⟨#[]⟩,.bool false,.string ⟨#[]⟩] 134:=BM dB Be
theorem pk:A9 95 3:=λ_ _ _ _ _ _=>Bi dB (by kernel_rfl)
theorem WL:dJ aH 99=some 1:=by kernel_rfl
theorem Jd:dA aH 99=some false:=by kernel_rfl
theorem Wf:rW 99:=λ_ _ _=>rX Jd
theorem zwo:gO 101 0 0:=λ_ _=>Eq.refl _
theorem zwp:gO 101 1 1:=λ_ _=>Eq.refl _
theorem zBl:gO 101 2 2:=λ_ _=>Eq.refl _
theorem zwq:gO 101 3 3:=λ_ _=>Eq.refl _
theorem zwr:gO 101 4 4:=λ_ _=>Eq.refl _
theorem zBm:gO 101 5 15:=λ_ _=>Eq.refl _
theorem zBn:gO 101 6 16:=λ_ _=>Eq.refl _
theorem zEm:dJ aH 109=some 1:=by kernel_rfl
theorem zCr:dA aH 109=some false:=by kernel_rfl
theorem zEc:rW 109:=λ_ _ _=>rX zCr
theorem YU:gO 112 0 0:=λ_ _=>Eq.refl _
theorem zws:gO 112 1 11:=λ_ _=>Eq.refl _
theorem zBo:gO 112 2 12:=λ_ _=>Eq.refl _
theorem zwt:gO 112 3 13:=λ_ _=>Eq.refl _
theorem zEn:dJ aH 123=some 0:=by kernel_rfl
theorem zCs:yG 123 []:=Bb zrH
theorem mT:dJ aH 134=some 3:=by kernel_rfl
theorem Im:dA aH 134=some true:=by kernel_rfl
theorem Gk:Fu 134 3:=λ_ _ _=>FU Im mT
theorem Oa:yG 134 [.string ⟨#[]⟩,.bool false,.string ⟨#[]⟩]:=Bb Be
theorem xP:gO 134 0 0:=λ_ _=>Eq.refl _
theorem NF:gO 134 1 1:=λ_ _=>Eq.refl _
theorem zCI:aH.desc 142=some (.map 9 123):=by kernel_rfl
theorem zDm:yG 169 [.int .u8 0,.int .u8 0,.int .u8 0,.int .u8 0,.int .u8 0,.int .u8 0,.int .u8 0,.int .u8 0,.int .u8 0,.int .u8 0,.int .u8 0,.int .u8 0,.int .u8 0,.int .u8 0,.int .u8 0,.int .u8 0,.int .u8 0,.int .u8 0,.int .u8 0,.int .u8 0,.int .u8 0,.int .u8 0,.int .u8 0,.int .u8 0]:=Bb zrI
theorem zDt:aH.desc 169=some (.array 24 5):=by kernel_rfl
theorem zEb (A o:Nat) (ik:IntKind) (i:Int):kC aH 169 (.pointer (some ⟨A,o,none⟩)) (.int ik i)=if 0<=i/\i < 24 then some (.pointer (some ⟨A,o+i.toNat*1,none⟩)) else none:=zwL zDt (by kernel_rfl)
end Go.Proofs.YtnkmeidmdaidhaaGreatDoor
namespace Go.Proofs.YtnkmeidmdaidhaaGreatDoor
open Go.Am Tryz
abbrev cy (f:Func) (a:Nat):Prop:=∀ (K:aJ) (e:Env) (h:Heap),eI aH f K .ret e h=K (e.get a) h
abbrev CK (f:Func) (a b:Nat):Prop:=∀ (K:aJ) (e:Env) (h:Heap),eI aH f K .ret e h=K (.tuple #[e.get a,e.get b]) h
abbrev Hc (f:Func) (a b:Nat):Prop:=∀ (K:aJ) (e:Env) (h:Heap),eI aH f K .ret e h=aK (iz aH a (e.get b) h) h K
abbrev yH (f:Func):Prop:=∀ (K:aJ) (e:Env) (h:Heap),eI aH f K .ret e h=K undef h
abbrev yI (f:Func):Prop:=∀ (K:aJ) (e:Env) (h:Heap),eI aH f K .normal e h=K undef h
theorem fi3:cy f3 8:=λ_ _ _=>cz rfl
theorem fi4:cy f4 8:=λ_ _ _=>cz rfl
theorem fi5:cy f5 8:=λ_ _ _=>cz rfl
theorem fi7:cy f7 4:=λ_ _ _=>cz rfl
theorem fi8:cy f8 2:=λ_ _ _=>cz rfl
theorem fi9:cy f9 2:=λ_ _ _=>cz rfl
theorem RW:Hc f10 28 6:=λ_ _ _=>HJ rfl
theorem RX:cy f11 4:=λ_ _ _=>cz rfl
theorem RY:cy f12 2:=λ_ _ _=>cz rfl
theorem RZ:Hc f13 28 6:=λ_ _ _=>HJ rfl
theorem R1 (K:aJ) (e:Env) (h:Heap):eI aH f14 K .ret e h=aK (iz aH 40 (e.get 8) h) h (λx h'=>K (.tuple #[x,e.get 9]) h'):=XE rfl
theorem R3:cy f15 4:=λ_ _ _=>cz rfl
theorem R4:CK f16 8 9:=λ_ _ _=>C0 rfl
theorem R5:cy f17 4:=λ_ _ _=>cz rfl
theorem R9:cy f18 4:=λ_ _ _=>cz rfl
theorem Sa:cy f19 4:=λ_ _ _=>cz rfl
theorem Sb:cy f21 4:=λ_ _ _=>cz rfl
theorem Sc:cy f22 2:=λ_ _ _=>cz rfl
theorem Sd:cy f23 2:=λ_ _ _=>cz rfl
theorem Se:cy f24 4:=λ_ _ _=>cz rfl
theorem Sf:cy f25 2:=λ_ _ _=>cz rfl
theorem Sg:cy f26 2:=λ_ _ _=>cz rfl
theorem Sh:cy f27 2:=λ_ _ _=>cz rfl
theorem Si:cy f28 0:=λ_ _ _=>cz rfl
theorem Sj:cy f29 4:=λ_ _ _=>cz rfl
theorem Sk:Hc f30 28 2:=λ_ _ _=>HJ rfl
theorem Sn:cy f31 2:=λ_ _ _=>cz rfl
theorem Sp:yH f32:=λ_ _ _=>yW rfl
theorem Tw:yI f32:=λ_ _ _=>yS rfl
theorem Sq:cy f33 4:=λ_ _ _=>cz rfl
theorem Sr:cy f34 2:=λ_ _ _=>cz rfl
theorem Ss:cy f39 2:=λ_ _ _=>cz rfl
theorem St:cy f40 2:=λ_ _ _=>cz rfl
theorem Su:cy f41 2:=λ_ _ _=>cz rfl
theorem Sv:cy f42 2:=λ_ _ _=>cz rfl
theorem Sw:cy f43 2:=λ_ _ _=>cz rfl
theorem Sx:cy f44 2:=λ_ _ _=>cz rfl
theorem Sy:cy f45 2:=λ_ _ _=>cz rfl
theorem Sz:cy f46 4:=λ_ _ _=>cz rfl
theorem SA:cy f47 2:=λ_ _ _=>cz rfl
theorem SB:cy f48 2:=λ_ _ _=>cz rfl
theorem SC:cy f49 2:=λ_ _ _=>cz rfl
theorem SD:Hc f50 28 4:=λ_ _ _=>HJ rfl
theorem SE:cy f51 2:=λ_ _ _=>cz rfl
theorem SF:yH f52:=λ_ _ _=>yW rfl
theorem Tx:yI f52:=λ_ _ _=>yS rfl
theorem SG:cy f53 4:=λ_ _ _=>cz rfl
theorem SH:cy f54 4:=λ_ _ _=>cz rfl
theorem SI:cy f55 4:=λ_ _ _=>cz rfl
theorem SJ (K:aJ) (e:Env) (h:Heap):eI aH f56 K .ret e h=K (.tuple #[e.get 4,e.get 5,e.get 6]) h:=zwB rfl
theorem SK (K:aJ) (e:Env) (h:Heap):eI aH f57 K .ret e h=aK (iz aH 28 (e.get 4) h) h (λx h'=>K (.tuple #[x,e.get 5]) h'):=XE rfl
theorem SL:cy f58 4:=λ_ _ _=>cz rfl
theorem SM:yH f59:=λ_ _ _=>yW rfl
theorem Ty:yI f59:=λ_ _ _=>yS rfl
theorem SN:CK f60 4 5:=λ_ _ _=>C0 rfl
theorem SO:yH f61:=λ_ _ _=>yW rfl
theorem Tz:yI f61:=λ_ _ _=>yS rfl
theorem SP:cy f62 2:=λ_ _ _=>cz rfl
theorem SQ:yH f63:=λ_ _ _=>yW rfl
theorem TA:yI f63:=λ_ _ _=>yS rfl
theorem SR:cy f64 2:=λ_ _ _=>cz rfl
theorem SS:Hc f65 28 4:=λ_ _ _=>HJ rfl
theorem SU:cy f66 6:=λ_ _ _=>cz rfl
theorem SV:CK f67 4 5:=λ_ _ _=>C0 rfl
theorem SW:CK f68 4 5:=λ_ _ _=>C0 rfl
theorem SX:cy f69 4:=λ_ _ _=>cz rfl
theorem SY:cy f70 2:=λ_ _ _=>cz rfl
theorem SZ:cy f71 2:=λ_ _ _=>cz rfl
theorem S0:cy f72 2:=λ_ _ _=>cz rfl
theorem S2:cy f73 2:=λ_ _ _=>cz rfl
theorem S6:cy f74 2:=λ_ _ _=>cz rfl
theorem S7:cy f75 2:=λ_ _ _=>cz rfl
theorem S8:cy f76 4:=λ_ _ _=>cz rfl
theorem S9:cy f77 2:=λ_ _ _=>cz rfl
theorem Ta:cy f78 2:=λ_ _ _=>cz rfl
theorem Tb:cy f79 6:=λ_ _ _=>cz rfl
theorem Tc:cy f80 2:=λ_ _ _=>cz rfl
theorem Td:cy f81 2:=λ_ _ _=>cz rfl
theorem Te:cy f82 2:=λ_ _ _=>cz rfl
theorem Tf:cy f83 4:=λ_ _ _=>cz rfl
theorem Tg:cy f84 2:=λ_ _ _=>cz rfl
theorem Th:cy f85 2:=λ_ _ _=>cz rfl
theorem Ti:yH f86:=λ_ _ _=>yW rfl
theorem TB:yI f86:=λ_ _ _=>yS rfl
theorem Tj:cy f88 2:=λ_ _ _=>cz rfl
theorem Tk:CK f89 4 5:=λ_ _ _=>C0 rfl
theorem Tl:CK f90 6 7:=λ_ _ _=>C0 rfl
theorem Tm:cy f91 4:=λ_ _ _=>cz rfl
theorem Tn:cy f92 5:=λ_ _ _=>cz rfl
theorem To:CK f93 6 7:=λ_ _ _=>C0 rfl
theorem Tp:Hc f94 25 4:=λ_ _ _=>HJ rfl
theorem Tq:cy f95 2:=λ_ _ _=>cz rfl
theorem Ts:cy f96 4:=λ_ _ _=>cz rfl
theorem Tt:CK f97 6 7:=λ_ _ _=>C0 rfl
theorem Tu:cy f98 2:=λ_ _ _=>cz rfl
theorem Tv:cy f99 4:=λ_ _ _=>cz rfl
theorem zDu:cy f100 4:=λ_ _ _=>cz rfl
theorem zDv:cy f101 2:=λ_ _ _=>cz rfl
theorem zDw (K:aJ) (e:Env) (h:Heap):eI aH f102 K .ret e h=aK (iz aH 25 (e.get 4) h) h (λx h'=>K (.tuple #[x,e.get 5]) h'):=XE rfl
theorem zDx:cy f103 4:=λ_ _ _=>cz rfl
theorem zDy:cy f104 2:=λ_ _ _=>cz rfl
theorem zDz:cy f105 2:=λ_ _ _=>cz rfl
theorem zDA:cy f106 2:=λ_ _ _=>cz rfl
theorem zDB:cy f107 4:=λ_ _ _=>cz rfl
theorem zDC:cy f108 4:=λ_ _ _=>cz rfl
theorem zDD:cy f109 2:=λ_ _ _=>cz rfl
theorem zDE:cy f110 2:=λ_ _ _=>cz rfl
theorem zDF:cy f111 2:=λ_ _ _=>cz rfl
theorem zDG:cy f112 4:=λ_ _ _=>cz rfl
theorem zDH:cy f113 0:=λ_ _ _=>cz rfl
theorem zDI:cy f114 2:=λ_ _ _=>cz rfl
theorem zDJ:cy f115 2:=λ_ _ _=>cz rfl
theorem zDK:cy f116 2:=λ_ _ _=>cz rfl
theorem zDL:yH f117:=λ_ _ _=>yW rfl
theorem zD7:yI f117:=λ_ _ _=>yS rfl
theorem zDM:yH f118:=λ_ _ _=>yW rfl
theorem zD8:yI f118:=λ_ _ _=>yS rfl
theorem zDN:cy f121 2:=λ_ _ _=>cz rfl
theorem zDO:cy f122 4:=λ_ _ _=>cz rfl
theorem zDP:cy f123 4:=λ_ _ _=>cz rfl
theorem zDQ:cy f124 4:=λ_ _ _=>cz rfl
theorem zDR:cy f125 2:=λ_ _ _=>cz rfl
theorem zDS:cy f126 2:=λ_ _ _=>cz rfl
theorem zDT:cy f127 4:=λ_ _ _=>cz rfl
theorem zDU:cy f128 4:=λ_ _ _=>cz rfl
theorem zDV:cy f129 4:=λ_ _ _=>cz rfl
theorem zDW:cy f130 4:=λ_ _ _=>cz rfl
theorem zDX:cy f131 2:=λ_ _ _=>cz rfl
theorem zDY:cy f132 2:=λ_ _ _=>cz rfl
theorem zDZ:cy f133 2:=λ_ _ _=>cz rfl
theorem zD0:cy f134 2:=λ_ _ _=>cz rfl
theorem zD1:cy f135 4:=λ_ _ _=>cz rfl
theorem zD2:cy f136 4:=λ_ _ _=>cz rfl
theorem zD3:yH f138:=λ_ _ _=>yW rfl
theorem zD9:yI f138:=λ_ _ _=>yS rfl
theorem zD4:cy f143 2:=λ_ _ _=>cz rfl
theorem zD5:cy f147 0:=λ_ _ _=>cz rfl
theorem zD6:yH f150:=λ_ _ _=>yW rfl
theorem zEa:yI f150:=λ_ _ _=>yS rfl
end Go.Proofs.YtnkmeidmdaidhaaGreatDoor
