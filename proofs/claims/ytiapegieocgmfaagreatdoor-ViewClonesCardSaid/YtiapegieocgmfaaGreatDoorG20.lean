/- What the plain machine's operations come to at this seat's types. Written by a program (mksim.py). No condition. -/
import Derived.Test.YtiapegieocgmfaaGreatDoorG19
namespace Go.Proofs.YtiapegieocgmfaaGreatDoor
open Go.Am
abbrev nP (t:Nat):Prop:=∀ (A o:Nat) (h:Heap),iD aD t (.pointer (some ⟨A,o,none⟩)) h=J1 (h.get A) o
abbrev DW (t n:Nat):Prop:=∀ (A o:Nat) (h:Heap),iD aD t (.pointer (some ⟨A,o,none⟩)) h=Bp (h.get A) o n
abbrev zPO (t:Nat):Prop:=∀ (cs:List ab) (o:Nat),wm aD t cs o=cs[o]?
abbrev vR (t:Nat) (z:List ab):Prop:=∀ (P:Program) (ov:Ov) (d:Option Tmp) (ty:TypeId) (pos:String) (af:Array Edge) (g:Option (Nat × Bool)) (e:Env) (h:Heap) (K:aF),cS P aD ov ⟨d,.alloc t,ty,pos,af,g⟩ e h K=K (.pointer (some ⟨h.size,0,none⟩)) (h.push (.row z t false))
theorem wU {t n b:Nat} {z:List ab} (hz:aD.info t=some (n,b,z)):vR t z:=λ_ _ d ty pos af g e h K=>zBQ d ty pos af g e h K t hz
abbrev tx (t:Nat):Prop:=∀ (a:Option Addr) (n c:Nat) (h:Heap),bo aD t (.slice a n c) h=some (.int .i64 n)
abbrev vS (t k:Nat) (z:List ab) (e:Nat):Prop:=∀ (n:Nat) (parts:List (Nat × ab)) (h:Heap),zq aD t n parts h=if n*k > 16777216 || n > 16777216 then Option.none else (uJ (λi=>some (i*k,k)) (oT z n) parts).map λcs=>(.slice (some ⟨h.size,0,none⟩) n n,h.push (.row cs e false))
abbrev tu (t k:Nat):Prop:=∀ (A o n c:Nat) (ik:IntKind) (i:Int),kh aD t (.slice (some ⟨A,o,none⟩) n c) (.int ik i)=if 0<=i/\i < n then some (.pointer (some ⟨A,o+i.toNat*k,none⟩)) else none
abbrev ia (t f k:Nat):Prop:=∀ A o:Nat,iS aD t (.pointer (some ⟨A,o,none⟩)) f=some (.pointer (some ⟨A,o+k,none⟩))
abbrev zFD (t f u k:Nat):Prop:=∀ cs:Array ab,Q3 aD t (.agg cs) f=wm aD u cs.toList k
theorem zl:dg aD 3=some 1:=by kernel_rfl
theorem ES:cN aD 3=some false:=by kernel_rfl
theorem mZ:nP 3:=λ_ _ _=>nQ ES
theorem sz4:dg aD 4=some 1:=by kernel_rfl
theorem ag4:cN aD 4=some false:=by kernel_rfl
theorem GV:nP 4:=λ_ _ _=>nQ ag4
theorem px:dg aD 9=some 1:=by kernel_rfl
theorem j9:cN aD 9=some false:=by kernel_rfl
theorem gA:nP 9:=λ_ _ _=>nQ j9
theorem ds9:aD.desc 9=some .string:=by kernel_rfl
theorem Ca (s:au) (h:Heap):bo aD 9 (.string s) h=some (.int .i64 s.size):=zyC ds9
theorem ZG:dg aD 22=some 1:=by kernel_rfl
theorem ER:cN aD 22=some false:=by kernel_rfl
theorem mH:nP 22:=λ_ _ _=>nQ ER
theorem UO:vR 22 [.slice none 0 0]:=wU zuP
theorem dr:aD.desc 22=some (.slice 9):=by kernel_rfl
theorem kG:tx 22:=λ_ _ _ _=>tC dr
theorem sL:vS 22 1 [.string ⟨#[]⟩] 9:=uQ dr D9
theorem kF:tu 22 1:=λ_ _ _ _ _ _=>tz dr (by kernel_rfl)
theorem UB:cN aD 23=some false:=by kernel_rfl
theorem vN:nP 23:=λ_ _ _=>nQ UB
theorem kr:aD.desc 23=some (.slice 62):=by kernel_rfl
theorem zc:tx 23:=λ_ _ _ _=>tC kr
theorem Ln:vS 23 2 [.string ⟨#[]⟩,.int .i64 0] 62:=uQ kr zhE
theorem y8:tu 23 2:=λ_ _ _ _ _ _=>tz kr (by kernel_rfl)
theorem UC:cN aD 24=some false:=by kernel_rfl
theorem B3:nP 24:=λ_ _ _=>nQ UC
theorem jT:aD.desc 24=some (.slice 64):=by kernel_rfl
theorem B7:tx 24:=λ_ _ _ _=>tC jT
theorem U0:vS 24 2 [.string ⟨#[]⟩,.slice none 0 0] 64:=uQ jT zlU
theorem y9:tu 24 2:=λ_ _ _ _ _ _=>tz jT (by kernel_rfl)
theorem UD:cN aD 25=some false:=by kernel_rfl
theorem B4:nP 25:=λ_ _ _=>nQ UD
theorem my:aD.desc 25=some (.slice 67):=by kernel_rfl
theorem B8:tx 25:=λ_ _ _ _=>tC my
theorem U1:vS 25 12 [.string ⟨#[]⟩,.string ⟨#[]⟩,.int .i64 0,.bool false,.string ⟨#[]⟩,.bool false,.string ⟨#[]⟩,.bool false,.string ⟨#[]⟩,.bool false,.string ⟨#[]⟩,.slice none 0 0] 67:=uQ my zlV
theorem GR:tu 25 12:=λ_ _ _ _ _ _=>tz my (by kernel_rfl)
theorem UE:cN aD 26=some false:=by kernel_rfl
theorem B5:nP 26:=λ_ _ _=>nQ UE
theorem nu:aD.desc 26=some (.slice 70):=by kernel_rfl
theorem B9:tx 26:=λ_ _ _ _=>tC nu
theorem U2:vS 26 13 [.string ⟨#[]⟩,.string ⟨#[]⟩,.string ⟨#[]⟩,.int .i64 0,.bool false,.string ⟨#[]⟩,.bool false,.string ⟨#[]⟩,.bool false,.string ⟨#[]⟩,.bool false,.string ⟨#[]⟩,.slice none 0 0] 70:=uQ nu zlW
theorem GS:tu 26 13:=λ_ _ _ _ _ _=>tz nu (by kernel_rfl)
theorem ZH:dg aD 28=some 7:=by kernel_rfl
theorem UF:cN aD 28=some true:=by kernel_rfl
theorem dZ:DW 28 7:=λ_ _ _=>D7 UF ZH
theorem Li:vR 28 [.slice none 0 0,.slice none 0 0,.slice none 0 0,.int .i64 0,.int .i64 0,.slice none 0 0,.slice none 0 0]:=wU zuQ
theorem HJ:ia 28 0 0:=λ_ _=>Eq.refl _
theorem JN:ia 28 1 1:=λ_ _=>Eq.refl _
theorem T6:ia 28 2 2:=λ_ _=>Eq.refl _
theorem Rb:ia 28 3 3:=λ_ _=>Eq.refl _
theorem zz0:ia 28 4 4:=λ_ _=>Eq.refl _
theorem T7:ia 28 5 5:=λ_ _=>Eq.refl _
theorem T8:ia 28 6 6:=λ_ _=>Eq.refl _
theorem k6:aD.desc 29=some (.slice 52):=by kernel_rfl
theorem GZ:tx 29:=λ_ _ _ _=>tC k6
theorem GU:tu 29 13:=λ_ _ _ _ _ _=>tz k6 (by kernel_rfl)
theorem ZI:dg aD 38=some 1:=by kernel_rfl
theorem sH:cN aD 38=some false:=by kernel_rfl
theorem mI:nP 38:=λ_ _ _=>nQ sH
theorem Zp:zPO 38:=λ_ _=>zsM sH
theorem bJ:aD.desc 38=some (.slice 47):=by kernel_rfl
theorem je:tx 38:=λ_ _ _ _=>tC bJ
theorem sM:vS 38 11 [.string ⟨#[]⟩,.string ⟨#[]⟩,.int .i64 0,.bool false,.string ⟨#[]⟩,.bool false,.string ⟨#[]⟩,.bool false,.string ⟨#[]⟩,.bool false,.string ⟨#[]⟩] 47:=uQ bJ tD
theorem j4:tu 38 11:=λ_ _ _ _ _ _=>tz bJ (by kernel_rfl)
theorem UG:cN aD 40=some false:=by kernel_rfl
theorem Y6:nP 40:=λ_ _ _=>nQ UG
theorem UP:vR 40 [.slice none 0 0]:=wU zuR
theorem Fo:aD.desc 40=some (.slice 49):=by kernel_rfl
theorem Zc:tx 40:=λ_ _ _ _=>tC Fo
theorem U3:vS 40 1 [.int .u64 0] 49:=uQ Fo zlT
theorem YZ:tu 40 1:=λ_ _ _ _ _ _=>tz Fo (by kernel_rfl)
theorem kL:dg aD 44=some 2:=by kernel_rfl
theorem sJ:cN aD 44=some true:=by kernel_rfl
theorem rp:DW 44 2:=λ_ _ _=>D7 sJ kL
theorem EW:vR 44 [.bool false,.string ⟨#[]⟩]:=wU zuS
theorem JO:ia 44 0 0:=λ_ _=>Eq.refl _
theorem HK:ia 44 1 1:=λ_ _=>Eq.refl _
theorem Fp:aD.desc 45=some (.array 4 44):=by kernel_rfl
theorem th (A o:Nat) (ik:IntKind) (i:Int):kh aD 45 (.pointer (some ⟨A,o,none⟩)) (.int ik i)=if 0<=i/\i < 4 then some (.pointer (some ⟨A,o+i.toNat*2,none⟩)) else none:=zA4 Fp (by kernel_rfl)
theorem bH:dg aD 47=some 11:=by kernel_rfl
theorem eP:cN aD 47=some true:=by kernel_rfl
theorem cq:DW 47 11:=λ_ _ _=>D7 eP bH
theorem EX:vR 47 [.string ⟨#[]⟩,.string ⟨#[]⟩,.int .i64 0,.bool false,.string ⟨#[]⟩,.bool false,.string ⟨#[]⟩,.bool false,.string ⟨#[]⟩,.bool false,.string ⟨#[]⟩]:=wU tD
theorem zB:ia 47 0 0:=λ_ _=>Eq.refl _
theorem HL:ia 47 1 1:=λ_ _=>Eq.refl _
theorem En:ia 47 2 2:=λ_ _=>Eq.refl _
theorem CA:ia 47 3 3:=λ_ _=>Eq.refl _
theorem Lg:cN aD 49=some false:=by kernel_rfl
theorem za:nP 49:=λ_ _ _=>nQ Lg
theorem Zq:zPO 49:=λ_ _=>zsM Lg
theorem qj:dg aD 52=some 13:=by kernel_rfl
theorem JP:ia 52 0 0:=λ_ _=>Eq.refl _
theorem zC:ia 52 1 1:=λ_ _=>Eq.refl _
theorem zD:ia 52 2 2:=λ_ _=>Eq.refl _
theorem UH:cN aD 53=some false:=by kernel_rfl
theorem Y7:nP 53:=λ_ _ _=>nQ UH
theorem mL:dg aD 62=some 2:=by kernel_rfl
theorem AZ:cN aD 62=some true:=by kernel_rfl
theorem GW:DW 62 2:=λ_ _ _=>D7 AZ mL
theorem EY:vR 62 [.string ⟨#[]⟩,.int .i64 0]:=wU zhE
theorem HM:ia 62 0 0:=λ_ _=>Eq.refl _
theorem Rc:ia 62 1 1:=λ_ _=>Eq.refl _
theorem kM:dg aD 64=some 2:=by kernel_rfl
theorem xF:cN aD 64=some true:=by kernel_rfl
theorem B6:DW 64 2:=λ_ _ _=>D7 xF kM
theorem UQ:vR 64 [.string ⟨#[]⟩,.slice none 0 0]:=wU zlU
theorem CB:ia 64 0 0:=λ_ _=>Eq.refl _
theorem JQ:ia 64 1 1:=λ_ _=>Eq.refl _
theorem rz:dg aD 67=some 12:=by kernel_rfl
theorem Lh:cN aD 67=some true:=by kernel_rfl
theorem NN:DW 67 12:=λ_ _ _=>D7 Lh rz
theorem UR:vR 67 [.string ⟨#[]⟩,.string ⟨#[]⟩,.int .i64 0,.bool false,.string ⟨#[]⟩,.bool false,.string ⟨#[]⟩,.bool false,.string ⟨#[]⟩,.bool false,.string ⟨#[]⟩,.slice none 0 0]:=wU zlV
theorem HN:ia 67 0 0:=λ_ _=>Eq.refl _
theorem HO:ia 67 1 11:=λ_ _=>Eq.refl _
theorem qk:dg aD 70=some 13:=by kernel_rfl
theorem EU:cN aD 70=some true:=by kernel_rfl
theorem NO:DW 70 13:=λ_ _ _=>D7 EU qk
theorem Lj:vR 70 [.string ⟨#[]⟩,.string ⟨#[]⟩,.string ⟨#[]⟩,.int .i64 0,.bool false,.string ⟨#[]⟩,.bool false,.string ⟨#[]⟩,.bool false,.string ⟨#[]⟩,.bool false,.string ⟨#[]⟩,.slice none 0 0]:=wU zlW
theorem T9:ia 70 0 0:=λ_ _=>Eq.refl _
theorem Q2:ia 70 1 1:=λ_ _=>Eq.refl _
theorem Ua:ia 70 2 12:=λ_ _=>Eq.refl _
theorem UI:cN aD 76=some false:=by kernel_rfl
theorem NP:nP 76:=λ_ _ _=>nQ UI
theorem ZJ:dg aD 78=some 1:=by kernel_rfl
theorem UJ:cN aD 78=some true:=by kernel_rfl
theorem GX:DW 78 1:=λ_ _ _=>D7 UJ ZJ
theorem zz1:ia 78 0 0:=λ_ _=>Eq.refl _
theorem UK:cN aD 79=some false:=by kernel_rfl
theorem zb:nP 79:=λ_ _ _=>nQ UK
theorem zv3:ia 81 0 0:=λ_ _=>Eq.refl _
theorem zv4:ia 81 1 1:=λ_ _=>Eq.refl _
theorem Ub:ia 81 2 8:=λ_ _=>Eq.refl _
theorem Lk:vR 83 [.slice none 0 0,.int .u64 0]:=wU zuT
theorem zz2:ia 83 0 0:=λ_ _=>Eq.refl _
theorem zCr:zFD 83 0 38 0:=λ_=>Eq.refl _
theorem zz3:ia 83 1 1:=λ_ _=>Eq.refl _
theorem zCs:zFD 83 1 49 1:=λ_=>Eq.refl _
theorem UL:cN aD 86=some false:=by kernel_rfl
theorem Y8:nP 86:=λ_ _ _=>nQ UL
theorem US:vR 86 [.slice none 0 0]:=wU zuU
theorem xQ:aD.desc 86=some (.slice 38):=by kernel_rfl
theorem Zd:tx 86:=λ_ _ _ _=>tC xQ
theorem U4:vS 86 1 [.slice none 0 0] 38:=uQ xQ zlS
theorem Y0:tu 86 1:=λ_ _ _ _ _ _=>tz xQ (by kernel_rfl)
theorem UM:cN aD 90=some false:=by kernel_rfl
theorem Y9:nP 90:=λ_ _ _=>nQ UM
theorem UN:cN aD 95=some false:=by kernel_rfl
theorem Za:nP 95:=λ_ _ _=>nQ UN
theorem zE2:dg aD 104=some 1:=by kernel_rfl
theorem zCa:cN aD 104=some false:=by kernel_rfl
theorem zEM:nP 104:=λ_ _ _=>nQ zCa
theorem zDa:cN aD 106=some false:=by kernel_rfl
theorem Ue:nP 106:=λ_ _ _=>nQ zDa
theorem ZW:aD.desc 106=some (.slice 110):=by kernel_rfl
theorem zEO:tx 106:=λ_ _ _ _=>tC ZW
theorem zDk:vS 106 3 [.string ⟨#[]⟩,.slice none 0 0,.int .u64 0] 110:=uQ ZW zj2
theorem ZQ:tu 106 3:=λ_ _ _ _ _ _=>tz ZW (by kernel_rfl)
theorem zvZ:ia 108 0 0:=λ_ _=>Eq.refl _
theorem TP:ia 108 1 7:=λ_ _=>Eq.refl _
theorem zAZ:ia 110 0 0:=λ_ _=>Eq.refl _
theorem zv0:ia 110 1 1:=λ_ _=>Eq.refl _
theorem zv1:ia 110 2 2:=λ_ _=>Eq.refl _
theorem Uk:aD.desc 133=some (.slice 104):=by kernel_rfl
theorem zEP:tx 133:=λ_ _ _ _=>tC Uk
theorem zDl:vS 133 1 [.nilFunc] 104:=uQ Uk zrE
theorem zEJ:tu 133 1:=λ_ _ _ _ _ _=>tz Uk (by kernel_rfl)
theorem zDb:cN aD 140=some false:=by kernel_rfl
theorem Z6:nP 140:=λ_ _ _=>nQ zDb
theorem zDc:cN aD 142=some false:=by kernel_rfl
theorem Z7:nP 142:=λ_ _ _=>nQ zDc
theorem ZX:aD.desc 142=some (.slice 3):=by kernel_rfl
theorem zCy:tx 142:=λ_ _ _ _=>tC ZX
theorem zDm:vS 142 1 [.int .i64 0] 3:=uQ ZX zpQ
theorem ZR:tu 142 1:=λ_ _ _ _ _ _=>tz ZX (by kernel_rfl)
theorem zqL:ia 144 0 0:=λ_ _=>Eq.refl _
theorem zDd:cN aD 145=some false:=by kernel_rfl
theorem Z8:nP 145:=λ_ _ _=>nQ zDd
theorem ZY:aD.desc 145=some (.slice 150):=by kernel_rfl
theorem zCz:tx 145:=λ_ _ _ _=>tC ZY
theorem zDn:vS 145 2 [.string ⟨#[]⟩,.int .i64 0] 150:=uQ ZY zj3
theorem ZS:tu 145 2:=λ_ _ _ _ _ _=>tz ZY (by kernel_rfl)
theorem zv2:ia 147 0 0:=λ_ _=>Eq.refl _
theorem zqM:ia 147 1 1:=λ_ _=>Eq.refl _
theorem zqN:ia 147 2 2:=λ_ _=>Eq.refl _
theorem zA0:ia 150 0 0:=λ_ _=>Eq.refl _
theorem zqO:ia 150 1 1:=λ_ _=>Eq.refl _
theorem zE3:dg aD 159=some 1:=by kernel_rfl
theorem zCb:cN aD 159=some false:=by kernel_rfl
theorem zEN:nP 159:=λ_ _ _=>nQ zCb
theorem Z2:vR 178 []:=wU zrG
theorem zF:aD.desc 187=some (.slice 44):=by kernel_rfl
theorem Ug:tx 187:=λ_ _ _ _=>tC zF
theorem Um:tu 187 2:=λ_ _ _ _ _ _=>tz zF (by kernel_rfl)
theorem Ro:aD.desc 196=some (.slice 159):=by kernel_rfl
theorem zEQ:tx 196:=λ_ _ _ _=>tC Ro
theorem Es:vS 196 1 [.nilFunc] 159:=uQ Ro zrF
theorem zEK:tu 196 1:=λ_ _ _ _ _ _=>tz Ro (by kernel_rfl)
end Go.Proofs.YtiapegieocgmfaaGreatDoor
namespace Go.Proofs.YtiapegieocgmfaaGreatDoor
open Go.Am Tryz
abbrev bU (f:Func) (a:Nat):Prop:=∀ (K:aF) (e:Env) (h:Heap),ie aD f K .ret e h=K (e.get a) h
abbrev rD (f:Func) (a b:Nat):Prop:=∀ (K:aF) (e:Env) (h:Heap),ie aD f K .ret e h=K (.tuple #[e.get a,e.get b]) h
abbrev zF3 (f:Func) (a b:Nat):Prop:=∀ (K:aF) (e:Env) (h:Heap),ie aD f K .ret e h=aC (iD aD a (e.get b) h) h K
abbrev uw (f:Func):Prop:=∀ (K:aF) (e:Env) (h:Heap),ie aD f K .ret e h=K undef h
abbrev uy (f:Func):Prop:=∀ (K:aF) (e:Env) (h:Heap),ie aD f K .normal e h=K undef h
theorem fi3:bU f3 8:=λ_ _ _=>bV rfl
theorem fi5:bU f5 2:=λ_ _ _=>bV rfl
theorem fi6:bU f6 2:=λ_ _ _=>bV rfl
theorem fi7 (K:aF) (e:Env) (h:Heap):ie aD f7 K .ret e h=K (.tuple #[e.get 4,e.get 5,e.get 6]) h:=zv8 rfl
theorem fi8:bU f8 2:=λ_ _ _=>bV rfl
theorem fi9:bU f9 6:=λ_ _ _=>bV rfl
theorem Vk:bU f10 6:=λ_ _ _=>bV rfl
theorem Vl:bU f11 4:=λ_ _ _=>bV rfl
theorem Vm:bU f12 4:=λ_ _ _=>bV rfl
theorem Vn:bU f13 4:=λ_ _ _=>bV rfl
theorem Vo:rD f14 6 7:=λ_ _ _=>rL rfl
theorem Vp:rD f15 6 7:=λ_ _ _=>rL rfl
theorem Vq:bU f17 4:=λ_ _ _=>bV rfl
theorem Vr:zF3 f18 28 0:=λ_ _ _=>zsl rfl
theorem Vs:bU f19 6:=λ_ _ _=>bV rfl
theorem Vt:bU f20 2:=λ_ _ _=>bV rfl
theorem Vu:bU f21 4:=λ_ _ _=>bV rfl
theorem Vv:rD f22 2 3:=λ_ _ _=>rL rfl
theorem Vw:rD f23 2 3:=λ_ _ _=>rL rfl
theorem Vx:rD f24 6 7:=λ_ _ _=>rL rfl
theorem Vy:rD f25 6 7:=λ_ _ _=>rL rfl
theorem Vz:bU f26 2:=λ_ _ _=>bV rfl
theorem VA:bU f27 2:=λ_ _ _=>bV rfl
theorem VB:uw f28:=λ_ _ _=>uG rfl
theorem WG:uy f28:=λ_ _ _=>uD rfl
theorem VC:bU f29 6:=λ_ _ _=>bV rfl
theorem VD:bU f30 4:=λ_ _ _=>bV rfl
theorem VE:bU f31 2:=λ_ _ _=>bV rfl
theorem VF:bU f32 6:=λ_ _ _=>bV rfl
theorem VG:bU f33 4:=λ_ _ _=>bV rfl
theorem VH:rD f34 10 11:=λ_ _ _=>rL rfl
theorem VI:rD f35 4 5:=λ_ _ _=>rL rfl
theorem VJ:rD f36 4 5:=λ_ _ _=>rL rfl
theorem VK:uw f37:=λ_ _ _=>uG rfl
theorem WH:uy f37:=λ_ _ _=>uD rfl
theorem VL:bU f38 4:=λ_ _ _=>bV rfl
theorem VM:bU f39 4:=λ_ _ _=>bV rfl
theorem VN:bU f40 3:=λ_ _ _=>bV rfl
theorem VO:bU f44 2:=λ_ _ _=>bV rfl
theorem VP:zF3 f45 28 2:=λ_ _ _=>zsl rfl
theorem VQ:bU f46 2:=λ_ _ _=>bV rfl
theorem VS:bU f47 6:=λ_ _ _=>bV rfl
theorem VT:bU f48 4:=λ_ _ _=>bV rfl
theorem VU:bU f49 4:=λ_ _ _=>bV rfl
theorem VV:rD f50 4 5:=λ_ _ _=>rL rfl
theorem VW:rD f51 4 5:=λ_ _ _=>rL rfl
theorem VX:bU f52 0:=λ_ _ _=>bV rfl
theorem VY:bU f53 2:=λ_ _ _=>bV rfl
theorem VZ:rD f54 4 5:=λ_ _ _=>rL rfl
theorem V0:uw f55:=λ_ _ _=>uG rfl
theorem WI:uy f55:=λ_ _ _=>uD rfl
theorem V1:bU f56 2:=λ_ _ _=>bV rfl
theorem V2:uw f57:=λ_ _ _=>uG rfl
theorem WJ:uy f57:=λ_ _ _=>uD rfl
theorem V3:bU f58 6:=λ_ _ _=>bV rfl
theorem V4:bU f59 2:=λ_ _ _=>bV rfl
theorem V5:rD f60 4 5:=λ_ _ _=>rL rfl
theorem V6:bU f62 6:=λ_ _ _=>bV rfl
theorem V7:rD f63 4 5:=λ_ _ _=>rL rfl
theorem V8:bU f64 4:=λ_ _ _=>bV rfl
theorem V9:bU f65 4:=λ_ _ _=>bV rfl
theorem Wa:bU f69 2:=λ_ _ _=>bV rfl
theorem Wb:bU f70 2:=λ_ _ _=>bV rfl
theorem Wc:bU f71 2:=λ_ _ _=>bV rfl
theorem Wd:bU f72 2:=λ_ _ _=>bV rfl
theorem We:bU f73 2:=λ_ _ _=>bV rfl
theorem Wf:bU f74 2:=λ_ _ _=>bV rfl
theorem Wg:bU f75 2:=λ_ _ _=>bV rfl
theorem Wh:bU f76 2:=λ_ _ _=>bV rfl
theorem Wi:bU f77 2:=λ_ _ _=>bV rfl
theorem Wj:bU f78 2:=λ_ _ _=>bV rfl
theorem Wk:bU f79 6:=λ_ _ _=>bV rfl
theorem Wl:bU f80 4:=λ_ _ _=>bV rfl
theorem Wm:bU f81 4:=λ_ _ _=>bV rfl
theorem Wn:bU f82 4:=λ_ _ _=>bV rfl
theorem Wo:bU f83 2:=λ_ _ _=>bV rfl
theorem Wp:bU f84 4:=λ_ _ _=>bV rfl
theorem Wq:bU f85 2:=λ_ _ _=>bV rfl
theorem Wr:bU f86 4:=λ_ _ _=>bV rfl
theorem Ws:bU f87 4:=λ_ _ _=>bV rfl
theorem Wt:bU f88 2:=λ_ _ _=>bV rfl
theorem Wu:bU f89 2:=λ_ _ _=>bV rfl
theorem Wv:uw f90:=λ_ _ _=>uG rfl
theorem WK:uy f90:=λ_ _ _=>uD rfl
theorem Ww:bU f91 4:=λ_ _ _=>bV rfl
theorem Wx:bU f92 4:=λ_ _ _=>bV rfl
theorem Wy:bU f93 4:=λ_ _ _=>bV rfl
theorem Wz:bU f94 2:=λ_ _ _=>bV rfl
theorem WA:bU f95 4:=λ_ _ _=>bV rfl
theorem WB:bU f96 2:=λ_ _ _=>bV rfl
theorem WC:bU f97 4:=λ_ _ _=>bV rfl
theorem WD:bU f98 2:=λ_ _ _=>bV rfl
theorem WE:bU f99 2:=λ_ _ _=>bV rfl
theorem zDr:rD f100 6 7:=λ_ _ _=>rL rfl
theorem zDs:bU f103 4:=λ_ _ _=>bV rfl
theorem zDt:uw f104:=λ_ _ _=>uG rfl
theorem zEA:uy f104:=λ_ _ _=>uD rfl
theorem zDu:bU f105 4:=λ_ _ _=>bV rfl
theorem zDv:bU f117 2:=λ_ _ _=>bV rfl
theorem zDw:bU f118 2:=λ_ _ _=>bV rfl
theorem zDx:bU f119 2:=λ_ _ _=>bV rfl
theorem zDy:bU f120 4:=λ_ _ _=>bV rfl
theorem zDz:bU f121 2:=λ_ _ _=>bV rfl
theorem zDA:bU f122 6:=λ_ _ _=>bV rfl
theorem zDB:bU f123 1:=λ_ _ _=>bV rfl
theorem zDC:bU f124 2:=λ_ _ _=>bV rfl
theorem zDD:bU f125 2:=λ_ _ _=>bV rfl
theorem zDE:bU f126 2:=λ_ _ _=>bV rfl
theorem zDF:bU f127 2:=λ_ _ _=>bV rfl
theorem zDG:rD f128 4 5:=λ_ _ _=>rL rfl
theorem zDH:bU f129 4:=λ_ _ _=>bV rfl
theorem zDI:bU f130 2:=λ_ _ _=>bV rfl
theorem zDJ:bU f131 2:=λ_ _ _=>bV rfl
theorem zDK:bU f132 2:=λ_ _ _=>bV rfl
theorem zDL:bU f133 2:=λ_ _ _=>bV rfl
theorem zDM:bU f134 2:=λ_ _ _=>bV rfl
theorem zDN:bU f135 6:=λ_ _ _=>bV rfl
theorem zDO:uw f136:=λ_ _ _=>uG rfl
theorem zEB:uy f136:=λ_ _ _=>uD rfl
theorem zDP:bU f138 2:=λ_ _ _=>bV rfl
theorem zDQ:bU f139 2:=λ_ _ _=>bV rfl
theorem zDR:rD f140 4 5:=λ_ _ _=>rL rfl
theorem zDS:bU f141 1:=λ_ _ _=>bV rfl
theorem zDT:bU f142 2:=λ_ _ _=>bV rfl
theorem zDU:bU f143 4:=λ_ _ _=>bV rfl
theorem zDV:bU f144 2:=λ_ _ _=>bV rfl
theorem zDW:uw f146:=λ_ _ _=>uG rfl
theorem zEC:uy f146:=λ_ _ _=>uD rfl
theorem zDX:bU f153 6:=λ_ _ _=>bV rfl
theorem zDY:bU f154 2:=λ_ _ _=>bV rfl
theorem zDZ:bU f155 2:=λ_ _ _=>bV rfl
theorem zD0:bU f156 2:=λ_ _ _=>bV rfl
theorem zD1:bU f157 2:=λ_ _ _=>bV rfl
theorem zD2:bU f158 2:=λ_ _ _=>bV rfl
theorem zD3:bU f159 2:=λ_ _ _=>bV rfl
theorem zD4:bU f160 4:=λ_ _ _=>bV rfl
theorem zD5:bU f161 3:=λ_ _ _=>bV rfl
theorem zD6:bU f162 2:=λ_ _ _=>bV rfl
theorem zD7:bU f163 2:=λ_ _ _=>bV rfl
theorem zD8:bU f164 4:=λ_ _ _=>bV rfl
theorem zD9:bU f165 2:=λ_ _ _=>bV rfl
theorem zEa:bU f166 2:=λ_ _ _=>bV rfl
theorem zEb:uw f167:=λ_ _ _=>uG rfl
theorem zED:uy f167:=λ_ _ _=>uD rfl
theorem zEc:uw f168:=λ_ _ _=>uG rfl
theorem zEE:uy f168:=λ_ _ _=>uD rfl
theorem zEd:bU f171 2:=λ_ _ _=>bV rfl
theorem zEe:bU f172 2:=λ_ _ _=>bV rfl
theorem zEf:bU f173 4:=λ_ _ _=>bV rfl
theorem zEg:bU f176 2:=λ_ _ _=>bV rfl
theorem zEh:bU f177 0:=λ_ _ _=>bV rfl
theorem zEi:bU f178 4:=λ_ _ _=>bV rfl
theorem zEj:bU f179 2:=λ_ _ _=>bV rfl
theorem zEk:bU f180 2:=λ_ _ _=>bV rfl
theorem zEl:bU f181 2:=λ_ _ _=>bV rfl
theorem zEm:uw f182:=λ_ _ _=>uG rfl
theorem zEF:uy f182:=λ_ _ _=>uD rfl
theorem zEn:bU f187 2:=λ_ _ _=>bV rfl
theorem zEo:bU f188 2:=λ_ _ _=>bV rfl
theorem zEp:bU f190 2:=λ_ _ _=>bV rfl
theorem zEq:bU f191 0:=λ_ _ _=>bV rfl
theorem zEr:bU f192 2:=λ_ _ _=>bV rfl
theorem zEs:uw f193:=λ_ _ _=>uG rfl
theorem zEG:uy f193:=λ_ _ _=>uD rfl
theorem zEt:bU f196 2:=λ_ _ _=>bV rfl
theorem zEu:bU f197 2:=λ_ _ _=>bV rfl
theorem zEv:bU f198 2:=λ_ _ _=>bV rfl
theorem zEw:bU f223 6:=λ_ _ _=>bV rfl
theorem zEx:bU f224 2:=λ_ _ _=>bV rfl
theorem zEy:uw f225:=λ_ _ _=>uG rfl
theorem zEH:uy f225:=λ_ _ _=>uD rfl
theorem zEz:uw f226:=λ_ _ _=>uG rfl
theorem zEI:uy f226:=λ_ _ _=>uD rfl
end Go.Proofs.YtiapegieocgmfaaGreatDoor
