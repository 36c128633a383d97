/- What the plain machine's operations come to at this seat's types. Written by a program (mksim.py). No condition. -/
import Derived.Test.YtmamldleclamjaaGreatDoorG18
namespace Go.Proofs.YtmamldleclamjaaGreatDoor
open Go.Am
abbrev qc (t:Nat):Prop:=∀ (A o:Nat) (h:Heap),ic aG t (.pointer (some ⟨A,o,none⟩)) h=JN (h.get A) o
abbrev zR (t n:Nat):Prop:=∀ (A o:Nat) (h:Heap),ic aG t (.pointer (some ⟨A,o,none⟩)) h=AR (h.get A) o n
abbrev zPO (t:Nat):Prop:=∀ (cs:List ah) (o:Nat),v7 aG t cs o=cs[o]?
abbrev wF (t:Nat) (z:List ah):Prop:=∀ (P:Program) (ov:Ov) (d:Option Tmp) (ty:TypeId) (pos:String) (af:Array Edge) (g:Option (Nat × Bool)) (e:Env) (h:Heap) (K:aI),cS P aG ov ⟨d,.alloc t,ty,pos,af,g⟩ e h K=K (.pointer (some ⟨h.size,0,none⟩)) (h.push (.row z t false))
theorem yS {t n b:Nat} {z:List ah} (hz:aG.info t=some (n,b,z)):wF t z:=λ_ _ d ty pos af g e h K=>zCz d ty pos af g e h K t hz
abbrev vH (t:Nat):Prop:=∀ (a:Option Addr) (n c:Nat) (h:Heap),bn aG t (.slice a n c) h=some (.int .i64 n)
abbrev Dj (t k:Nat) (z:List ah) (e:Nat):Prop:=∀ (n:Nat) (parts:List (Nat × ah)) (h:Heap),yT aG t n parts h=if n*k > 16777216 || n > 16777216 then Option.none else (uE (λi=>some (i*k,k)) (oH z n) parts).map λcs=>(.slice (some ⟨h.size,0,none⟩) n n,h.push (.row cs e false))
abbrev vG (t k:Nat):Prop:=∀ (A o n c:Nat) (ik:IntKind) (i:Int),kF aG t (.slice (some ⟨A,o,none⟩) n c) (.int ik i)=if 0<=i/\i < n then some (.pointer (some ⟨A,o+i.toNat*k,none⟩)) else none
abbrev ia (t f k:Nat):Prop:=∀ A o:Nat,jg aG t (.pointer (some ⟨A,o,none⟩)) f=some (.pointer (some ⟨A,o+k,none⟩))
abbrev zFD (t f u k:Nat):Prop:=∀ cs:Array ah,QG aG t (.agg cs) f=v7 aG u cs.toList k
theorem yP:di aG 3=some 1:=by kernel_rfl
theorem Uk:cO aG 3=some false:=by kernel_rfl
theorem nj:qc 3:=λ_ _ _=>qe Uk
theorem sz4:di aG 4=some 1:=by kernel_rfl
theorem ag4:cO aG 4=some false:=by kernel_rfl
theorem Gn:qc 4:=λ_ _ _=>qe ag4
theorem nK:di aG 9=some 1:=by kernel_rfl
theorem kJ:cO aG 9=some false:=by kernel_rfl
theorem gH:qc 9:=λ_ _ _=>qe kJ
theorem ds9:aG.desc 9=some .string:=by kernel_rfl
theorem BG (s:au) (h:Heap):bn aG 9 (.string s) h=some (.int .i64 s.size):=zy6 ds9
theorem Zr:di aG 22=some 1:=by kernel_rfl
theorem KY:cO aG 22=some false:=by kernel_rfl
theorem ni:qc 22:=λ_ _ _=>qe KY
theorem Ur:wF 22 [.slice none 0 0]:=yS zu1
theorem cG:aG.desc 22=some (.slice 9):=by kernel_rfl
theorem ky:vH 22:=λ_ _ _ _=>vI cG
theorem uK:Dj 22 1 [.string ⟨#[]⟩] 9:=Cm cG zV
theorem kx:vG 22 1:=λ_ _ _ _ _ _=>vL cG (by kernel_rfl)
theorem Uf:cO aG 23=some false:=by kernel_rfl
theorem vB:qc 23:=λ_ _ _=>qe Uf
theorem kj:aG.desc 23=some (.slice 65):=by kernel_rfl
theorem yF:vH 23:=λ_ _ _ _=>vI kj
theorem UD:Dj 23 2 [.string ⟨#[]⟩,.int .i64 0] 65:=Cm kj zhG
theorem yD:vG 23 2:=λ_ _ _ _ _ _=>vL kj (by kernel_rfl)
theorem Ug:cO aG 24=some false:=by kernel_rfl
theorem Gm:qc 24:=λ_ _ _=>qe Ug
theorem mY:aG.desc 24=some (.slice 67):=by kernel_rfl
theorem Gt:vH 24:=λ_ _ _ _=>vI mY
theorem Gj:vG 24 2:=λ_ _ _ _ _ _=>vL mY (by kernel_rfl)
theorem Uh:cO aG 25=some false:=by kernel_rfl
theorem BC:qc 25:=λ_ _ _=>qe Uh
theorem mZ:aG.desc 25=some (.slice 69):=by kernel_rfl
theorem BE:vH 25:=λ_ _ _ _=>vI mZ
theorem Gk:vG 25 12:=λ_ _ _ _ _ _=>vL mZ (by kernel_rfl)
theorem Ui:cO aG 26=some false:=by kernel_rfl
theorem BD:qc 26:=λ_ _ _=>qe Ui
theorem nX:aG.desc 26=some (.slice 72):=by kernel_rfl
theorem BF:vH 26:=λ_ _ _ _=>vI nX
theorem Gl:vG 26 13:=λ_ _ _ _ _ _=>vL nX (by kernel_rfl)
theorem Zs:di aG 28=some 7:=by kernel_rfl
theorem Uj:cO aG 28=some true:=by kernel_rfl
theorem eV:zR 28 7:=λ_ _ _=>zZ Uj Zs
theorem Us:wF 28 [.slice none 0 0,.slice none 0 0,.slice none 0 0,.int .i64 0,.int .i64 0,.slice none 0 0,.slice none 0 0]:=yS zu2
theorem Hq:ia 28 0 0:=λ_ _=>Eq.refl _
theorem Jr:ia 28 1 1:=λ_ _=>Eq.refl _
theorem zwg:ia 28 2 2:=λ_ _=>Eq.refl _
theorem QB:ia 28 3 3:=λ_ _=>Eq.refl _
theorem zAn:ia 28 4 4:=λ_ _=>Eq.refl _
theorem TP:ia 28 5 5:=λ_ _=>Eq.refl _
theorem TQ:ia 28 6 6:=λ_ _=>Eq.refl _
theorem mh:aG.desc 29=some (.slice 49):=by kernel_rfl
theorem Nv:vH 29:=λ_ _ _ _=>vI mh
theorem Nq:vG 29 13:=λ_ _ _ _ _ _=>vL mh (by kernel_rfl)
theorem Ul:cO aG 34=some false:=by kernel_rfl
theorem YX:qc 34:=λ_ _ _=>qe Ul
theorem kC:di aG 44=some 2:=by kernel_rfl
theorem sC:cO aG 44=some true:=by kernel_rfl
theorem q9:zR 44 2:=λ_ _ _=>zZ sC kC
theorem Ek:wF 44 [.bool false,.string ⟨#[]⟩]:=yS zu3
theorem Js:ia 44 0 0:=λ_ _=>Eq.refl _
theorem Hr:ia 44 1 1:=λ_ _=>Eq.refl _
theorem EH:aG.desc 45=some (.array 4 44):=by kernel_rfl
theorem tj (A o:Nat) (ik:IntKind) (i:Int):kF aG 45 (.pointer (some ⟨A,o,none⟩)) (.int ik i)=if 0<=i/\i < 4 then some (.pointer (some ⟨A,o+i.toNat*2,none⟩)) else none:=zBD EH (by kernel_rfl)
theorem bN:di aG 47=some 11:=by kernel_rfl
theorem fD:cO aG 47=some true:=by kernel_rfl
theorem b8:zR 47 11:=λ_ _ _=>zZ fD bN
theorem El:wF 47 [.string ⟨#[]⟩,.string ⟨#[]⟩,.int .i64 0,.bool false,.string ⟨#[]⟩,.bool false,.string ⟨#[]⟩,.bool false,.string ⟨#[]⟩,.bool false,.string ⟨#[]⟩]:=yS r6
theorem vV:ia 47 0 0:=λ_ _=>Eq.refl _
theorem Hs:ia 47 1 1:=λ_ _=>Eq.refl _
theorem DK:ia 47 2 2:=λ_ _=>Eq.refl _
theorem B6:ia 47 3 3:=λ_ _=>Eq.refl _
theorem oB:di aG 49=some 13:=by kernel_rfl
theorem KZ:cO aG 49=some true:=by kernel_rfl
theorem YY:zR 49 13:=λ_ _ _=>zZ KZ oB
theorem zC6:ia 49 0 0:=λ_ _=>Eq.refl _
theorem DL:ia 49 1 1:=λ_ _=>Eq.refl _
theorem Jt:ia 49 2 2:=λ_ _=>Eq.refl _
theorem uH:cO aG 51=some false:=by kernel_rfl
theorem k8:qc 51:=λ_ _ _=>qe uH
theorem GA:zPO 51:=λ_ _=>zsP uH
theorem bF:aG.desc 51=some (.slice 47):=by kernel_rfl
theorem gl:vH 51:=λ_ _ _ _=>vI bF
theorem qH:Dj 51 11 [.string ⟨#[]⟩,.string ⟨#[]⟩,.int .i64 0,.bool false,.string ⟨#[]⟩,.bool false,.string ⟨#[]⟩,.bool false,.string ⟨#[]⟩,.bool false,.string ⟨#[]⟩] 47:=Cm bF r6
theorem iM:vG 51 11:=λ_ _ _ _ _ _=>vL bF (by kernel_rfl)
theorem K0:cO aG 53=some false:=by kernel_rfl
theorem yE:qc 53:=λ_ _ _=>qe K0
theorem Zh:zPO 53:=λ_ _=>zsP K0
theorem my:di aG 65=some 2:=by kernel_rfl
theorem AB:cO aG 65=some true:=by kernel_rfl
theorem Gp:zR 65 2:=λ_ _ _=>zZ AB my
theorem Em:wF 65 [.string ⟨#[]⟩,.int .i64 0]:=yS zhG
theorem Ht:ia 65 0 0:=λ_ _=>Eq.refl _
theorem QC:ia 65 1 1:=λ_ _=>Eq.refl _
theorem oC:di aG 67=some 2:=by kernel_rfl
theorem Eh:cO aG 67=some true:=by kernel_rfl
theorem Gq:zR 67 2:=λ_ _ _=>zZ Eh oC
theorem Ut:wF 67 [.string ⟨#[]⟩,.slice none 0 0]:=yS zu4
theorem DM:ia 67 0 0:=λ_ _=>Eq.refl _
theorem TR:ia 67 1 1:=λ_ _=>Eq.refl _
theorem rk:di aG 69=some 12:=by kernel_rfl
theorem K1:cO aG 69=some true:=by kernel_rfl
theorem Nr:zR 69 12:=λ_ _ _=>zZ K1 rk
theorem Uu:wF 69 [.string ⟨#[]⟩,.string ⟨#[]⟩,.int .i64 0,.bool false,.string ⟨#[]⟩,.bool false,.string ⟨#[]⟩,.bool false,.string ⟨#[]⟩,.bool false,.string ⟨#[]⟩,.slice none 0 0]:=yS zu5
theorem Hi:ia 69 0 0:=λ_ _=>Eq.refl _
theorem Hj:ia 69 1 11:=λ_ _=>Eq.refl _
theorem qa:di aG 72=some 13:=by kernel_rfl
theorem Ei:cO aG 72=some true:=by kernel_rfl
theorem Ns:zR 72 13:=λ_ _ _=>zZ Ei qa
theorem K4:wF 72 [.string ⟨#[]⟩,.string ⟨#[]⟩,.string ⟨#[]⟩,.int .i64 0,.bool false,.string ⟨#[]⟩,.bool false,.string ⟨#[]⟩,.bool false,.string ⟨#[]⟩,.bool false,.string ⟨#[]⟩,.slice none 0 0]:=yS zu6
theorem TS:ia 72 0 0:=λ_ _=>Eq.refl _
theorem QD:ia 72 1 1:=λ_ _=>Eq.refl _
theorem TT:ia 72 2 12:=λ_ _=>Eq.refl _
theorem Zt:di aG 73=some 1:=by kernel_rfl
theorem K3:cO aG 73=some false:=by kernel_rfl
theorem YZ:qc 73:=λ_ _ _=>qe K3
theorem Um:cO aG 76=some false:=by kernel_rfl
theorem ra:qc 76:=λ_ _ _=>qe Um
theorem EI:aG.desc 76=some (.slice 80):=by kernel_rfl
theorem Gu:vH 76:=λ_ _ _ _=>vI EI
theorem K8:Dj 76 3 [.string ⟨#[]⟩,.slice none 0 0,.int .u64 0] 80:=Cm EI SR
theorem tk:vG 76 3:=λ_ _ _ _ _ _=>vL EI (by kernel_rfl)
theorem zwh:ia 78 0 0:=λ_ _=>Eq.refl _
theorem DN:ia 78 1 7:=λ_ _=>Eq.refl _
theorem Zu:di aG 80=some 3:=by kernel_rfl
theorem Un:cO aG 80=some true:=by kernel_rfl
theorem Y0:zR 80 3:=λ_ _ _=>zZ Un Zu
theorem Uv:wF 80 [.string ⟨#[]⟩,.slice none 0 0,.int .u64 0]:=yS SR
theorem zC7:ia 80 0 0:=λ_ _=>Eq.refl _
theorem QE:ia 80 1 1:=λ_ _=>Eq.refl _
theorem zwi:ia 80 2 2:=λ_ _=>Eq.refl _
theorem Uo:cO aG 81=some false:=by kernel_rfl
theorem Gr:qc 81:=λ_ _ _=>qe Uo
theorem Zv:di aG 83=some 1:=by kernel_rfl
theorem Up:cO aG 83=some true:=by kernel_rfl
theorem Gs:zR 83 1:=λ_ _ _=>zZ Up Zv
theorem zwj:ia 83 0 0:=λ_ _=>Eq.refl _
theorem Uq:cO aG 84=some false:=by kernel_rfl
theorem tm:qc 84:=λ_ _ _=>qe Uq
theorem TU:ia 86 0 0:=λ_ _=>Eq.refl _
theorem zwk:ia 86 1 1:=λ_ _=>Eq.refl _
theorem Ju:ia 86 2 8:=λ_ _=>Eq.refl _
theorem K5:wF 88 [.slice none 0 0,.int .u64 0]:=yS zu8
theorem zAo:ia 88 0 0:=λ_ _=>Eq.refl _
theorem zwn:zFD 88 0 51 0:=λ_=>Eq.refl _
theorem zAp:ia 88 1 1:=λ_ _=>Eq.refl _
theorem zC8:zFD 88 1 53 1:=λ_=>Eq.refl _
theorem AU:aG.desc 98=some (.slice 73):=by kernel_rfl
theorem Y2:vH 98:=λ_ _ _ _=>vI AU
theorem UE:Dj 98 1 [.nilFunc] 73:=Cm AU zu7
theorem YT:vG 98 1:=λ_ _ _ _ _ _=>vL AU (by kernel_rfl)
theorem zDK:cO aG 112=some false:=by kernel_rfl
theorem ZK:qc 112:=λ_ _ _=>qe zDK
theorem ZQ:aG.desc 112=some (.slice 3):=by kernel_rfl
theorem zDd:vH 112:=λ_ _ _ _=>vI ZQ
theorem zDO:Dj 112 1 [.int .i64 0] 3:=Cm ZQ zpW
theorem ZI:vG 112 1:=λ_ _ _ _ _ _=>vL ZQ (by kernel_rfl)
theorem zqM:ia 114 0 0:=λ_ _=>Eq.refl _
theorem zDL:cO aG 115=some false:=by kernel_rfl
theorem ZL:qc 115:=λ_ _ _=>qe zDL
theorem ZR:aG.desc 115=some (.slice 139):=by kernel_rfl
theorem zDe:vH 115:=λ_ _ _ _=>vI ZR
theorem zDP:Dj 115 2 [.string ⟨#[]⟩,.int .i64 0] 139:=Cm ZR zkO
theorem ZJ:vG 115 2:=λ_ _ _ _ _ _=>vL ZR (by kernel_rfl)
theorem zDM:cO aG 116=some false:=by kernel_rfl
theorem TX:qc 116:=λ_ _ _=>qe zDM
theorem zwf:ia 118 0 0:=λ_ _=>Eq.refl _
theorem zqN:ia 118 1 1:=λ_ _=>Eq.refl _
theorem TA:ia 118 2 2:=λ_ _=>Eq.refl _
theorem ZG:wF 127 []:=yS zrG
theorem zFu:di aG 131=some 1:=by kernel_rfl
theorem zCR:cO aG 131=some false:=by kernel_rfl
theorem zFf:qc 131:=λ_ _ _=>qe zCR
theorem zBv:ia 139 0 0:=λ_ _=>Eq.refl _
theorem zqO:ia 139 1 1:=λ_ _=>Eq.refl _
theorem QY:aG.desc 150=some (.slice 131):=by kernel_rfl
theorem zFh:vH 150:=λ_ _ _ _=>vI QY
theorem DX:Dj 150 1 [.nilFunc] 131:=Cm QY zrH
theorem zFd:vG 150 1:=λ_ _ _ _ _ _=>vL QY (by kernel_rfl)
theorem zf:aG.desc 156=some (.slice 44):=by kernel_rfl
theorem TZ:vH 156:=λ_ _ _ _=>vI zf
theorem T6:vG 156 2:=λ_ _ _ _ _ _=>vL zf (by kernel_rfl)
end Go.Proofs.YtmamldleclamjaaGreatDoor
namespace Go.Proofs.YtmamldleclamjaaGreatDoor
open Go.Am Tryz
abbrev bU (f:Func) (a:Nat):Prop:=∀ (K:aI) (e:Env) (h:Heap),jo aG f K .ret e h=K (e.get a) h
abbrev rp (f:Func) (a b:Nat):Prop:=∀ (K:aI) (e:Env) (h:Heap),jo aG f K .ret e h=K (.tuple #[e.get a,e.get b]) h
abbrev zF3 (f:Func) (a b:Nat):Prop:=∀ (K:aI) (e:Env) (h:Heap),jo aG f K .ret e h=aH (ic aG a (e.get b) h) h K
abbrev wG (f:Func):Prop:=∀ (K:aI) (e:Env) (h:Heap),jo aG f K .ret e h=K undef h
abbrev wH (f:Func):Prop:=∀ (K:aI) (e:Env) (h:Heap),jo aG f K .normal e h=K undef h
theorem fi3:bU f3 6:=λ_ _ _=>bV rfl
theorem fi5:bU f5 2:=λ_ _ _=>bV rfl
theorem fi6:bU f6 2:=λ_ _ _=>bV rfl
theorem fi7:rp f7 2 3:=λ_ _ _=>rr rfl
theorem fi8:rp f8 2 3:=λ_ _ _=>rr rfl
theorem fi9:bU f9 2:=λ_ _ _=>bV rfl
theorem U9:bU f10 2:=λ_ _ _=>bV rfl
theorem Va:bU f11 6:=λ_ _ _=>bV rfl
theorem Vb:bU f12 4:=λ_ _ _=>bV rfl
theorem Vc:bU f13 4:=λ_ _ _=>bV rfl
theorem Vd:bU f14 4:=λ_ _ _=>bV rfl
theorem Ve:bU f15 4:=λ_ _ _=>bV rfl
theorem Vf:bU f16 4:=λ_ _ _=>bV rfl
theorem Vg:bU f17 4:=λ_ _ _=>bV rfl
theorem Vh:bU f18 4:=λ_ _ _=>bV rfl
theorem Vi:bU f19 4:=λ_ _ _=>bV rfl
theorem Vj:bU f20 4:=λ_ _ _=>bV rfl
theorem Vk:bU f21 2:=λ_ _ _=>bV rfl
theorem Vl:bU f22 2:=λ_ _ _=>bV rfl
theorem Vm:rp f25 6 7:=λ_ _ _=>rr rfl
theorem Vn:rp f26 6 7:=λ_ _ _=>rr rfl
theorem Vo:bU f27 6:=λ_ _ _=>bV rfl
theorem Vp:bU f28 2:=λ_ _ _=>bV rfl
theorem Vq:bU f29 4:=λ_ _ _=>bV rfl
theorem Vr:bU f30 2:=λ_ _ _=>bV rfl
theorem Vs:bU f31 2:=λ_ _ _=>bV rfl
theorem Vt:zF3 f32 28 2:=λ_ _ _=>zyL rfl
theorem Vu:bU f33 2:=λ_ _ _=>bV rfl
theorem Vv:bU f34 2:=λ_ _ _=>bV rfl
theorem Vw:wG f35:=λ_ _ _=>wT rfl
theorem Wy:wH f35:=λ_ _ _=>wR rfl
theorem Vx:bU f36 4:=λ_ _ _=>bV rfl
theorem Vy:rp f37 6 7:=λ_ _ _=>rr rfl
theorem Vz:rp f38 6 7:=λ_ _ _=>rr rfl
theorem VA:bU f39 4:=λ_ _ _=>bV rfl
theorem VB:bU f40 4:=λ_ _ _=>bV rfl
theorem VC:bU f41 2:=λ_ _ _=>bV rfl
theorem VD:bU f42 2:=λ_ _ _=>bV rfl
theorem VE:bU f43 4:=λ_ _ _=>bV rfl
theorem VF:rp f45 10 11:=λ_ _ _=>rr rfl
theorem VG:rp f46 4 5:=λ_ _ _=>rr rfl
theorem VH:rp f47 4 5:=λ_ _ _=>rr rfl
theorem VI:wG f48:=λ_ _ _=>wT rfl
theorem Wz:wH f48:=λ_ _ _=>wR rfl
theorem VJ:bU f49 2:=λ_ _ _=>bV rfl
theorem VK:bU f50 2:=λ_ _ _=>bV rfl
theorem VL:bU f51 2:=λ_ _ _=>bV rfl
theorem VM:bU f52 2:=λ_ _ _=>bV rfl
theorem VN:bU f53 2:=λ_ _ _=>bV rfl
theorem VO:bU f54 0:=λ_ _ _=>bV rfl
theorem VP:bU f55 2:=λ_ _ _=>bV rfl
theorem VQ:bU f56 2:=λ_ _ _=>bV rfl
theorem VS:bU f57 2:=λ_ _ _=>bV rfl
theorem VT:bU f58 2:=λ_ _ _=>bV rfl
theorem VU:bU f59 2:=λ_ _ _=>bV rfl
theorem VV:bU f60 6:=λ_ _ _=>bV rfl
theorem VW:bU f61 4:=λ_ _ _=>bV rfl
theorem VX:bU f62 4:=λ_ _ _=>bV rfl
theorem VY:bU f63 2:=λ_ _ _=>bV rfl
theorem VZ:rp f64 4 5:=λ_ _ _=>rr rfl
theorem V0:bU f65 6:=λ_ _ _=>bV rfl
theorem V1:bU f66 4:=λ_ _ _=>bV rfl
theorem V2:rp f67 4 5:=λ_ _ _=>rr rfl
theorem V3:rp f68 4 5:=λ_ _ _=>rr rfl
theorem V4:bU f69 4:=λ_ _ _=>bV rfl
theorem V5:bU f70 4:=λ_ _ _=>bV rfl
theorem V6:bU f71 6:=λ_ _ _=>bV rfl
theorem V7:bU f72 2:=λ_ _ _=>bV rfl
theorem V8:rp f73 4 5:=λ_ _ _=>rr rfl
theorem V9:bU f75 6:=λ_ _ _=>bV rfl
theorem Wa:rp f76 4 5:=λ_ _ _=>rr rfl
theorem Wb:bU f77 4:=λ_ _ _=>bV rfl
theorem Wc:bU f78 2:=λ_ _ _=>bV rfl
theorem Wd:bU f79 4:=λ_ _ _=>bV rfl
theorem We:bU f80 2:=λ_ _ _=>bV rfl
theorem Wf:bU f81 2:=λ_ _ _=>bV rfl
theorem Wg:bU f82 4:=λ_ _ _=>bV rfl
theorem Wh:bU f83 2:=λ_ _ _=>bV rfl
theorem Wi:bU f84 4:=λ_ _ _=>bV rfl
theorem Wj:bU f85 2:=λ_ _ _=>bV rfl
theorem Wk:bU f86 6:=λ_ _ _=>bV rfl
theorem Wl:bU f87 1:=λ_ _ _=>bV rfl
theorem Wm:bU f88 2:=λ_ _ _=>bV rfl
theorem Wn:bU f89 2:=λ_ _ _=>bV rfl
theorem Wo:bU f90 2:=λ_ _ _=>bV rfl
theorem Wp:bU f91 2:=λ_ _ _=>bV rfl
theorem Wq:rp f92 4 5:=λ_ _ _=>rr rfl
theorem Wr:bU f93 4:=λ_ _ _=>bV rfl
theorem Ws:bU f94 4:=λ_ _ _=>bV rfl
theorem Wt:bU f95 2:=λ_ _ _=>bV rfl
theorem Wu:bU f96 4:=λ_ _ _=>bV rfl
theorem Wv:bU f97 2:=λ_ _ _=>bV rfl
theorem Ww:bU f98 2:=λ_ _ _=>bV rfl
theorem Wx:bU f99 2:=λ_ _ _=>bV rfl
theorem zDW:bU f100 4:=λ_ _ _=>bV rfl
theorem zDX:bU f101 2:=λ_ _ _=>bV rfl
theorem zDY:bU f102 4:=λ_ _ _=>bV rfl
theorem zDZ:bU f103 2:=λ_ _ _=>bV rfl
theorem zD0:bU f104 2:=λ_ _ _=>bV rfl
theorem zD1:bU f105 4:=λ_ _ _=>bV rfl
theorem zD2:bU f106 2:=λ_ _ _=>bV rfl
theorem zD3:bU f107 2:=λ_ _ _=>bV rfl
theorem zD4:bU f108 2:=λ_ _ _=>bV rfl
theorem zD5:rp f109 6 7:=λ_ _ _=>rr rfl
theorem zD6:bU f110 4:=λ_ _ _=>bV rfl
theorem zD7:bU f113 4:=λ_ _ _=>bV rfl
theorem zD8:wG f114:=λ_ _ _=>wT rfl
theorem zE3:wH f114:=λ_ _ _=>wR rfl
theorem zD9:bU f115 2:=λ_ _ _=>bV rfl
theorem zEa:bU f116 6:=λ_ _ _=>bV rfl
theorem zEb:bU f117 2:=λ_ _ _=>bV rfl
theorem zEc:bU f118 2:=λ_ _ _=>bV rfl
theorem zEd:bU f119 2:=λ_ _ _=>bV rfl
theorem zEe:bU f120 4:=λ_ _ _=>bV rfl
theorem zEf:bU f121 2:=λ_ _ _=>bV rfl
theorem zEg:bU f122 2:=λ_ _ _=>bV rfl
theorem zEh:bU f123 2:=λ_ _ _=>bV rfl
theorem zEi:bU f124 4:=λ_ _ _=>bV rfl
theorem zEj:bU f125 3:=λ_ _ _=>bV rfl
theorem zEk:bU f126 2:=λ_ _ _=>bV rfl
theorem zEl:bU f127 2:=λ_ _ _=>bV rfl
theorem zEm:bU f128 2:=λ_ _ _=>bV rfl
theorem zEn:bU f129 2:=λ_ _ _=>bV rfl
theorem zEo:bU f130 6:=λ_ _ _=>bV rfl
theorem zEp:bU f131 2:=λ_ _ _=>bV rfl
theorem zEq:rp f132 4 5:=λ_ _ _=>rr rfl
theorem zEr:bU f133 1:=λ_ _ _=>bV rfl
theorem zEs:bU f134 2:=λ_ _ _=>bV rfl
theorem zEt:bU f135 4:=λ_ _ _=>bV rfl
theorem zEu:bU f136 2:=λ_ _ _=>bV rfl
theorem zEv:wG f137:=λ_ _ _=>wT rfl
theorem zE4:wH f137:=λ_ _ _=>wR rfl
theorem zEw:bU f138 4:=λ_ _ _=>bV rfl
theorem zEx:bU f139 4:=λ_ _ _=>bV rfl
theorem zEy:bU f141 2:=λ_ _ _=>bV rfl
theorem zEz:wG f143:=λ_ _ _=>wT rfl
theorem zE5:wH f143:=λ_ _ _=>wR rfl
theorem zEA:bU f144 2:=λ_ _ _=>bV rfl
theorem zEB:bU f145 0:=λ_ _ _=>bV rfl
theorem zEC:bU f146 4:=λ_ _ _=>bV rfl
theorem zED:bU f147 4:=λ_ _ _=>bV rfl
theorem zEE:bU f148 2:=λ_ _ _=>bV rfl
theorem zEF:bU f149 2:=λ_ _ _=>bV rfl
theorem zEG:bU f150 2:=λ_ _ _=>bV rfl
theorem zEH:bU f151 2:=λ_ _ _=>bV rfl
theorem zEI:bU f152 2:=λ_ _ _=>bV rfl
theorem zEJ:bU f153 2:=λ_ _ _=>bV rfl
theorem zEK:bU f154 4:=λ_ _ _=>bV rfl
theorem zEL:wG f155:=λ_ _ _=>wT rfl
theorem zE6:wH f155:=λ_ _ _=>wR rfl
theorem zEM:bU f160 2:=λ_ _ _=>bV rfl
theorem zEN:bU f161 0:=λ_ _ _=>bV rfl
theorem zEO:bU f162 2:=λ_ _ _=>bV rfl
theorem zEP:bU f163 2:=λ_ _ _=>bV rfl
theorem zEQ:bU f164 2:=λ_ _ _=>bV rfl
theorem zER:wG f165:=λ_ _ _=>wT rfl
theorem zE7:wH f165:=λ_ _ _=>wR rfl
theorem zES:wG f166:=λ_ _ _=>wT rfl
theorem zE8:wH f166:=λ_ _ _=>wR rfl
theorem zET:bU f173 2:=λ_ _ _=>bV rfl
theorem zEU:bU f174 2:=λ_ _ _=>bV rfl
theorem zEV:bU f175 2:=λ_ _ _=>bV rfl
theorem zEW:bU f176 2:=λ_ _ _=>bV rfl
theorem zEX:wG f177:=λ_ _ _=>wT rfl
theorem zE9:wH f177:=λ_ _ _=>wR rfl
theorem zEY:wG f181:=λ_ _ _=>wT rfl
theorem zFa:wH f181:=λ_ _ _=>wR rfl
theorem zEZ:bU f202 6:=λ_ _ _=>bV rfl
theorem zE0:bU f203 2:=λ_ _ _=>bV rfl
theorem zE1:wG f204:=λ_ _ _=>wT rfl
theorem zFb:wH f204:=λ_ _ _=>wR rfl
theorem zE2:wG f205:=λ_ _ _=>wT rfl
theorem zFc:wH f205:=λ_ _ _=>wR rfl
end Go.Proofs.YtmamldleclamjaaGreatDoor
