/- What the plain machine's operations come to at this seat's types. Written by a program (mksim.py). No condition. -/
import Derived.Test.YtkgojconmeeegaaGreatDoorG18
namespace Go.Proofs.YtkgojconmeeegaaGreatDoor
open Go.Am
abbrev mJ (t:Nat):Prop:=∀ (A o:Nat) (h:Heap),fW aA t (.pointer (some ⟨A,o,none⟩)) h=Kf (h.get A) o
abbrev zh (t n:Nat):Prop:=∀ (A o:Nat) (h:Heap),fW aA t (.pointer (some ⟨A,o,none⟩)) h=Bv (h.get A) o n
abbrev zPO (t:Nat):Prop:=∀ (cs:List ae) (o:Nat),wk aA t cs o=cs[o]?
abbrev rN (t:Nat) (z:List ae):Prop:=∀ (P:Program) (ov:Ov) (d:Option Tmp) (ty:TypeId) (pos:String) (af:Array Edge) (g:Option (Nat × Bool)) (e:Env) (h:Heap) (K:aG),cy P aA ov ⟨d,.alloc t,ty,pos,af,g⟩ e h K=K (.pointer (some ⟨h.size,0,none⟩)) (h.push (.row z t false))
theorem sG {t n b:Nat} {z:List ae} (hz:aA.info t=some (n,b,z)):rN t z:=λ_ _ d ty pos af g e h K=>zDq d ty pos af g e h K t hz
abbrev sD (t:Nat):Prop:=∀ (a:Option Addr) (n c:Nat) (h:Heap),bt aA t (.slice a n c) h=some (.int .i64 n)
abbrev wO (t k:Nat) (z:List ae) (e:Nat):Prop:=∀ (n:Nat) (parts:List (Nat × ae)) (h:Heap),zl aA t n parts h=if n*k > 16777216 || n > 16777216 then Option.none else (sU (λi=>some (i*k,k)) (oU z n) parts).map λcs=>(.slice (some ⟨h.size,0,none⟩) n n,h.push (.row cs e false))
abbrev sC (t k:Nat):Prop:=∀ (A o n c:Nat) (ik:IntKind) (i:Int),jF aA t (.slice (some ⟨A,o,none⟩) n c) (.int ik i)=if 0<=i/\i < n then some (.pointer (some ⟨A,o+i.toNat*k,none⟩)) else none
abbrev gG (t f k:Nat):Prop:=∀ A o:Nat,fU aA t (.pointer (some ⟨A,o,none⟩)) f=some (.pointer (some ⟨A,o+k,none⟩))
abbrev zFD (t f u k:Nat):Prop:=∀ cs:Array ae,Sb aA t (.agg cs) f=wk aA u cs.toList k
theorem ze:cN aA 3=some 1:=by kernel_rfl
theorem SS:ct aA 3=some false:=by kernel_rfl
theorem lx:mJ 3:=λ_ _ _=>mK SS
theorem sz4:cN aA 4=some 1:=by kernel_rfl
theorem ag4:ct aA 4=some false:=by kernel_rfl
theorem sB:mJ 4:=λ_ _ _=>mK ag4
theorem al4:rN 4 [.bool false]:=sG zyU
theorem mU:cN aA 9=some 1:=by kernel_rfl
theorem gU:ct aA 9=some false:=by kernel_rfl
theorem eC:mJ 9:=λ_ _ _=>mK gU
theorem ds9:aA.desc 9=some .string:=by kernel_rfl
theorem Al (s:aB) (h:Heap):bt aA 9 (.string s) h=some (.int .i64 s.size):=zzT ds9
theorem aaC:cN aA 22=some 1:=by kernel_rfl
theorem Fe:ct aA 22=some false:=by kernel_rfl
theorem mG:mJ 22:=λ_ _ _=>mK Fe
theorem VJ:rN 22 [.slice none 0 0]:=sG zvO
theorem cQ:aA.desc 22=some (.slice 9):=by kernel_rfl
theorem ky:sD 22:=λ_ _ _ _=>sI cQ
theorem u9:wO 22 1 [.string ⟨#[]⟩] 9:=wx cQ Ew
theorem kx:sC 22 1:=λ_ _ _ _ _ _=>sK cQ (by kernel_rfl)
theorem Vs:ct aA 23=some false:=by kernel_rfl
theorem vP:mJ 23:=λ_ _ _=>mK Vs
theorem kj:aA.desc 23=some (.slice 73):=by kernel_rfl
theorem y5:sD 23:=λ_ _ _ _=>sI kj
theorem VW:wO 23 2 [.string ⟨#[]⟩,.int .i64 0] 73:=wx kj zh2
theorem yZ:sC 23 2:=λ_ _ _ _ _ _=>sK kj (by kernel_rfl)
theorem Vt:ct aA 24=some false:=by kernel_rfl
theorem Cj:mJ 24:=λ_ _ _=>mK Vt
theorem kl:aA.desc 24=some (.slice 75):=by kernel_rfl
theorem Cr:sD 24:=λ_ _ _ _=>sI kl
theorem y4:sC 24 2:=λ_ _ _ _ _ _=>sK kl (by kernel_rfl)
theorem Vu:ct aA 25=some false:=by kernel_rfl
theorem Ck:mJ 25:=λ_ _ _=>mK Vu
theorem ni:aA.desc 25=some (.slice 77):=by kernel_rfl
theorem Cs:sD 25:=λ_ _ _ _=>sI ni
theorem G4:sC 25 12:=λ_ _ _ _ _ _=>sK ni (by kernel_rfl)
theorem Vv:ct aA 26=some false:=by kernel_rfl
theorem Cl:mJ 26:=λ_ _ _=>mK Vv
theorem oC:aA.desc 26=some (.slice 80):=by kernel_rfl
theorem Ct:sD 26:=λ_ _ _ _=>sI oC
theorem G5:sC 26 13:=λ_ _ _ _ _ _=>sK oC (by kernel_rfl)
theorem aaD:cN aA 28=some 7:=by kernel_rfl
theorem Vw:ct aA 28=some true:=by kernel_rfl
theorem el:zh 28 7:=λ_ _ _=>zn Vw aaD
theorem VK:rN 28 [.slice none 0 0,.slice none 0 0,.slice none 0 0,.int .i64 0,.int .i64 0,.slice none 0 0,.slice none 0 0]:=sG zvP
theorem HX:gG 28 0 0:=λ_ _=>Eq.refl _
theorem JX:gG 28 1 1:=λ_ _=>Eq.refl _
theorem U2:gG 28 2 2:=λ_ _=>Eq.refl _
theorem Sg:gG 28 3 3:=λ_ _=>Eq.refl _
theorem zBs:gG 28 4 4:=λ_ _=>Eq.refl _
theorem U3:gG 28 5 5:=λ_ _=>Eq.refl _
theorem U4:gG 28 6 6:=λ_ _=>Eq.refl _
theorem nj:aA.desc 29=some (.slice 36):=by kernel_rfl
theorem OD:sD 29:=λ_ _ _ _=>sI nj
theorem VX:wO 29 13 [.int .i64 0,.string ⟨#[]⟩,.string ⟨#[]⟩,.string ⟨#[]⟩,.int .i64 0,.bool false,.string ⟨#[]⟩,.bool false,.string ⟨#[]⟩,.bool false,.string ⟨#[]⟩,.bool false,.string ⟨#[]⟩] 36:=wx nj zvR
theorem Ox:sC 29 13:=λ_ _ _ _ _ _=>sK nj (by kernel_rfl)
theorem fK:cN aA 31=some 2:=by kernel_rfl
theorem oo:ct aA 31=some true:=by kernel_rfl
theorem jA:zh 31 2:=λ_ _ _=>zn oo fK
theorem lG:rN 31 [.bool false,.string ⟨#[]⟩]:=sG zvQ
theorem tY:gG 31 0 0:=λ_ _=>Eq.refl _
theorem qM:gG 31 1 1:=λ_ _=>Eq.refl _
theorem aaE:cN aA 32=some 8:=by kernel_rfl
theorem Vx:ct aA 32=some true:=by kernel_rfl
theorem ZW:zh 32 8:=λ_ _ _=>zn Vx aaE
theorem FD:aA.desc 32=some (.array 4 31):=by kernel_rfl
theorem pZ (A o:Nat) (ik:IntKind) (i:Int):jF aA 32 (.pointer (some ⟨A,o,none⟩)) (.int ik i)=if 0<=i/\i < 4 then some (.pointer (some ⟨A,o+i.toNat*2,none⟩)) else none:=zCz FD (by kernel_rfl)
theorem bE:cN aA 34=some 11:=by kernel_rfl
theorem eK:ct aA 34=some true:=by kernel_rfl
theorem bP:zh 34 11:=λ_ _ _=>zn eK bE
theorem xr:rN 34 [.string ⟨#[]⟩,.string ⟨#[]⟩,.int .i64 0,.bool false,.string ⟨#[]⟩,.bool false,.string ⟨#[]⟩,.bool false,.string ⟨#[]⟩,.bool false,.string ⟨#[]⟩]:=sG sJ
theorem sR:gG 34 0 0:=λ_ _=>Eq.refl _
theorem CY:gG 34 1 1:=λ_ _=>Eq.refl _
theorem w9:gG 34 2 2:=λ_ _=>Eq.refl _
theorem zD:gG 34 3 3:=λ_ _=>Eq.refl _
theorem tO:cN aA 36=some 13:=by kernel_rfl
theorem Vy:ct aA 36=some true:=by kernel_rfl
theorem ZX:zh 36 13:=λ_ _ _=>zn Vy tO
theorem zxc:gG 36 0 0:=λ_ _=>Eq.refl _
theorem EI:gG 36 1 1:=λ_ _=>Eq.refl _
theorem EJ:gG 36 2 2:=λ_ _=>Eq.refl _
theorem aaF:cN aA 44=some 1:=by kernel_rfl
theorem ta:ct aA 44=some false:=by kernel_rfl
theorem lR:mJ 44:=λ_ _ _=>mK ta
theorem Hd:zPO 44:=λ_ _=>zAw ta
theorem VL:rN 44 [.slice none 0 0]:=sG zh1
theorem bC:aA.desc 44=some (.slice 34):=by kernel_rfl
theorem fS:sD 44:=λ_ _ _ _=>sI bC
theorem td:wO 44 11 [.string ⟨#[]⟩,.string ⟨#[]⟩,.int .i64 0,.bool false,.string ⟨#[]⟩,.bool false,.string ⟨#[]⟩,.bool false,.string ⟨#[]⟩,.bool false,.string ⟨#[]⟩] 34:=wx bC sJ
theorem iF:sC 44 11:=λ_ _ _ _ _ _=>sK bC (by kernel_rfl)
theorem Vz:ct aA 46=some false:=by kernel_rfl
theorem ZY:mJ 46:=λ_ _ _=>mK Vz
theorem VM:rN 46 [.slice none 0 0]:=sG zvS
theorem FF:aA.desc 46=some (.slice 55):=by kernel_rfl
theorem OE:sD 46:=λ_ _ _ _=>sI FF
theorem VY:wO 46 1 [.int .u64 0] 55:=wx FF zvT
theorem ZS:sC 46 1:=λ_ _ _ _ _ _=>sK FF (by kernel_rfl)
theorem VA:ct aA 49=some false:=by kernel_rfl
theorem ZZ:mJ 49:=λ_ _ _=>mK VA
theorem VB:ct aA 55=some false:=by kernel_rfl
theorem Cm:mJ 55:=λ_ _ _=>mK VB
theorem VC:ct aA 57=some false:=by kernel_rfl
theorem Z0:mJ 57:=λ_ _ _=>mK VC
theorem VD:ct aA 62=some false:=by kernel_rfl
theorem Cn:mJ 62:=λ_ _ _=>mK VD
theorem dm:aA.desc 62=some (.slice 195):=by kernel_rfl
theorem qa:sD 62:=λ_ _ _ _=>sI dm
theorem tf:wO 62 3 [.string ⟨#[]⟩,.bool false,.string ⟨#[]⟩] 195:=wx dm vU
theorem oL:sC 62 3:=λ_ _ _ _ _ _=>sK dm (by kernel_rfl)
theorem mH:cN aA 73=some 2:=by kernel_rfl
theorem A8:ct aA 73=some true:=by kernel_rfl
theorem G6:zh 73 2:=λ_ _ _=>zn A8 mH
theorem Fh:rN 73 [.string ⟨#[]⟩,.int .i64 0]:=sG zh2
theorem HY:gG 73 0 0:=λ_ _=>Eq.refl _
theorem Sh:gG 73 1 1:=λ_ _=>Eq.refl _
theorem kB:cN aA 75=some 2:=by kernel_rfl
theorem xq:ct aA 75=some true:=by kernel_rfl
theorem Co:zh 75 2:=λ_ _ _=>zn xq kB
theorem VN:rN 75 [.string ⟨#[]⟩,.slice none 0 0]:=sG zvU
theorem CZ:gG 75 0 0:=λ_ _=>Eq.refl _
theorem JY:gG 75 1 1:=λ_ _=>Eq.refl _
theorem rL:cN aA 77=some 12:=by kernel_rfl
theorem L5:ct aA 77=some true:=by kernel_rfl
theorem Oy:zh 77 12:=λ_ _ _=>zn L5 rL
theorem VO:rN 77 [.string ⟨#[]⟩,.string ⟨#[]⟩,.int .i64 0,.bool false,.string ⟨#[]⟩,.bool false,.string ⟨#[]⟩,.bool false,.string ⟨#[]⟩,.bool false,.string ⟨#[]⟩,.slice none 0 0]:=sG zvV
theorem HZ:gG 77 0 0:=λ_ _=>Eq.refl _
theorem H2:gG 77 1 11:=λ_ _=>Eq.refl _
theorem qj:cN aA 80=some 13:=by kernel_rfl
theorem Ff:ct aA 80=some true:=by kernel_rfl
theorem Oz:zh 80 13:=λ_ _ _=>zn Ff qj
theorem L6:rN 80 [.string ⟨#[]⟩,.string ⟨#[]⟩,.string ⟨#[]⟩,.int .i64 0,.bool false,.string ⟨#[]⟩,.bool false,.string ⟨#[]⟩,.bool false,.string ⟨#[]⟩,.bool false,.string ⟨#[]⟩,.slice none 0 0]:=sG zvW
theorem U5:gG 80 0 0:=λ_ _=>Eq.refl _
theorem Si:gG 80 1 1:=λ_ _=>Eq.refl _
theorem U6:gG 80 2 12:=λ_ _=>Eq.refl _
theorem VE:ct aA 85=some false:=by kernel_rfl
theorem Z1:mJ 85:=λ_ _ _=>mK VE
theorem VP:rN 85 [.slice none 0 0]:=sG zvX
theorem xN:aA.desc 85=some (.slice 44):=by kernel_rfl
theorem Z4:sD 85:=λ_ _ _ _=>sI xN
theorem VZ:wO 85 1 [.slice none 0 0] 44:=wx xN zh1
theorem ZT:sC 85 1:=λ_ _ _ _ _ _=>sK xN (by kernel_rfl)
theorem VF:ct aA 89=some false:=by kernel_rfl
theorem Z2:mJ 89:=λ_ _ _=>mK VF
theorem VG:ct aA 95=some false:=by kernel_rfl
theorem OA:mJ 95:=λ_ _ _=>mK VG
theorem aaG:cN aA 97=some 1:=by kernel_rfl
theorem VH:ct aA 97=some true:=by kernel_rfl
theorem OB:zh 97 1:=λ_ _ _=>zn VH aaG
theorem zBt:gG 97 0 0:=λ_ _=>Eq.refl _
theorem VI:ct aA 98=some false:=by kernel_rfl
theorem Cp:mJ 98:=λ_ _ _=>mK VI
theorem zw6:gG 100 0 0:=λ_ _=>Eq.refl _
theorem zw7:gG 100 1 1:=λ_ _=>Eq.refl _
theorem UP:gG 100 2 8:=λ_ _=>Eq.refl _
theorem zEG:rN 109 [.slice none 0 0,.int .u64 0]:=sG zsu
theorem zCr:gG 109 0 0:=λ_ _=>Eq.refl _
theorem zrw:zFD 109 0 44 0:=λ_=>Eq.refl _
theorem zCs:gG 109 1 1:=λ_ _=>Eq.refl _
theorem zEB:ct aA 112=some false:=by kernel_rfl
theorem zG2:mJ 112:=λ_ _ _=>mK zEB
theorem zEH:rN 112 [.nilFunc]:=sG zsv
theorem zHl:cN aA 117=some 1:=by kernel_rfl
theorem zDH:ct aA 117=some false:=by kernel_rfl
theorem zG3:mJ 117:=λ_ _ _=>mK zDH
theorem zEC:ct aA 120=some false:=by kernel_rfl
theorem Vh:mJ 120:=λ_ _ _=>mK zEC
theorem zCm:aA.desc 120=some (.slice 124):=by kernel_rfl
theorem zG5:sD 120:=λ_ _ _ _=>sI zCm
theorem zER:wO 120 3 [.string ⟨#[]⟩,.slice none 0 0,.int .u64 0] 124:=wx zCm zkg
theorem zCC:sC 120 3:=λ_ _ _ _ _ _=>sK zCm (by kernel_rfl)
theorem zw8:gG 122 0 0:=λ_ _=>Eq.refl _
theorem UQ:gG 122 1 7:=λ_ _=>Eq.refl _
theorem zCt:gG 124 0 0:=λ_ _=>Eq.refl _
theorem zw9:gG 124 1 1:=λ_ _=>Eq.refl _
theorem zxa:gG 124 2 2:=λ_ _=>Eq.refl _
theorem Vf:aA.desc 153=some (.slice 117):=by kernel_rfl
theorem zG6:sD 153:=λ_ _ _ _=>sI Vf
theorem zES:wO 153 1 [.nilFunc] 117:=wx Vf zsw
theorem zGZ:sC 153 1:=λ_ _ _ _ _ _=>sK Vf (by kernel_rfl)
theorem zHm:cN aA 164=some 1:=by kernel_rfl
theorem zDI:ct aA 164=some false:=by kernel_rfl
theorem zG4:mJ 164:=λ_ _ _=>mK zDI
theorem zED:ct aA 170=some false:=by kernel_rfl
theorem zCM:mJ 170:=λ_ _ _=>mK zED
theorem zCn:aA.desc 170=some (.slice 3):=by kernel_rfl
theorem zD0:sD 170:=λ_ _ _ _=>sI zCn
theorem zET:wO 170 1 [.int .i64 0] 3:=wx zCn zqr
theorem zCD:sC 170 1:=λ_ _ _ _ _ _=>sK zCn (by kernel_rfl)
theorem zrq:gG 172 0 0:=λ_ _=>Eq.refl _
theorem zEE:ct aA 173=some false:=by kernel_rfl
theorem zCN:mJ 173:=λ_ _ _=>mK zEE
theorem zCo:aA.desc 173=some (.slice 178):=by kernel_rfl
theorem zD1:sD 173:=λ_ _ _ _=>sI zCo
theorem zEU:wO 173 2 [.string ⟨#[]⟩,.int .i64 0] 178:=wx zCo zkh
theorem zCE:sC 173 2:=λ_ _ _ _ _ _=>sK zCo (by kernel_rfl)
theorem zEF:ct aA 174=some false:=by kernel_rfl
theorem zCO:mJ 174:=λ_ _ _=>mK zEF
theorem zxb:gG 176 0 0:=λ_ _=>Eq.refl _
theorem zrr:gG 176 1 1:=λ_ _=>Eq.refl _
theorem zrs:gG 176 2 2:=λ_ _=>Eq.refl _
theorem zCu:gG 178 0 0:=λ_ _=>Eq.refl _
theorem zrt:gG 178 1 1:=λ_ _=>Eq.refl _
theorem mO:cN aA 195=some 3:=by kernel_rfl
theorem Ka:ct aA 195=some true:=by kernel_rfl
theorem Kd:zh 195 3:=λ_ _ _=>zn Ka mO
theorem zBQ:rN 195 [.string ⟨#[]⟩,.bool false,.string ⟨#[]⟩]:=sG vU
theorem qJ:gG 195 0 0:=λ_ _=>Eq.refl _
theorem wW:gG 195 1 1:=λ_ _=>Eq.refl _
theorem zBR:rN 199 []:=sG zsy
theorem Sz:aA.desc 208=some (.slice 164):=by kernel_rfl
theorem zG7:sD 208:=λ_ _ _ _=>sI Sz
theorem EW:wO 208 1 [.nilFunc] 164:=wx Sz zsx
theorem zG0:sC 208 1:=λ_ _ _ _ _ _=>sK Sz (by kernel_rfl)
theorem zJ:aA.desc 210=some (.slice 31):=by kernel_rfl
theorem Vi:sD 210:=λ_ _ _ _=>sI zJ
theorem Vg:sC 210 2:=λ_ _ _ _ _ _=>sK zJ (by kernel_rfl)
end Go.Proofs.YtkgojconmeeegaaGreatDoor
namespace Go.Proofs.YtkgojconmeeegaaGreatDoor
open Go.Am Tryz
abbrev bJ (f:Func) (a:Nat):Prop:=∀ (K:aG) (e:Env) (h:Heap),eL aA f K .ret e h=K (e.get a) h
abbrev nL (f:Func) (a b:Nat):Prop:=∀ (K:aG) (e:Env) (h:Heap),eL aA f K .ret e h=K (.tuple #[e.get a,e.get b]) h
abbrev zF3 (f:Func) (a b:Nat):Prop:=∀ (K:aG) (e:Env) (h:Heap),eL aA f K .ret e h=aD (fW aA a (e.get b) h) h K
abbrev tQ (f:Func):Prop:=∀ (K:aG) (e:Env) (h:Heap),eL aA f K .ret e h=K undef h
abbrev tR (f:Func):Prop:=∀ (K:aG) (e:Env) (h:Heap),eL aA f K .normal e h=K undef h
theorem fi3:bJ f3 8:=λ_ _ _=>bK rfl
theorem fi4:bJ f4 8:=λ_ _ _=>bK rfl
theorem fi6:bJ f6 2:=λ_ _ _=>bK rfl
theorem fi7:bJ f7 2:=λ_ _ _=>bK rfl
theorem fi8 (K:aG) (e:Env) (h:Heap):eL aA f8 K .ret e h=K (.tuple #[e.get 4,e.get 5,e.get 6]) h:=zxg rfl
theorem fi9:bJ f9 6:=λ_ _ _=>bK rfl
theorem Wi:bJ f10 6:=λ_ _ _=>bK rfl
theorem Wj:bJ f11 4:=λ_ _ _=>bK rfl
theorem Wk:nL f12 6 7:=λ_ _ _=>nN rfl
theorem Wl:nL f13 6 7:=λ_ _ _=>nN rfl
theorem Wm:bJ f14 6:=λ_ _ _=>bK rfl
theorem Wn:bJ f15 4:=λ_ _ _=>bK rfl
theorem Wo:bJ f16 4:=λ_ _ _=>bK rfl
theorem Wp:bJ f17 2:=λ_ _ _=>bK rfl
theorem Wq:bJ f18 4:=λ_ _ _=>bK rfl
theorem Wr:bJ f19 4:=λ_ _ _=>bK rfl
theorem Ws:bJ f20 4:=λ_ _ _=>bK rfl
theorem Wt:nL f22 4 5:=λ_ _ _=>nN rfl
theorem Wu:bJ f23 2:=λ_ _ _=>bK rfl
theorem Wv:bJ f24 4:=λ_ _ _=>bK rfl
theorem Ww:bJ f25 2:=λ_ _ _=>bK rfl
theorem Wx:bJ f28 6:=λ_ _ _=>bK rfl
theorem Wy:bJ f29 4:=λ_ _ _=>bK rfl
theorem Wz:nL f30 2 3:=λ_ _ _=>nN rfl
theorem WA:nL f31 2 3:=λ_ _ _=>nN rfl
theorem WB:nL f32 6 7:=λ_ _ _=>nN rfl
theorem WC:nL f33 6 7:=λ_ _ _=>nN rfl
theorem WD:bJ f34 6:=λ_ _ _=>bK rfl
theorem WE:bJ f35 4:=λ_ _ _=>bK rfl
theorem WG:bJ f36 2:=λ_ _ _=>bK rfl
theorem WH:nL f39 10 11:=λ_ _ _=>nN rfl
theorem WI:nL f40 4 5:=λ_ _ _=>nN rfl
theorem WJ:tQ f41:=λ_ _ _=>tW rfl
theorem XA:tR f41:=λ_ _ _=>tV rfl
theorem WK:nL f42 4 5:=λ_ _ _=>nN rfl
theorem WL:tQ f43:=λ_ _ _=>tW rfl
theorem XB:tR f43:=λ_ _ _=>tV rfl
theorem WM:bJ f44 4:=λ_ _ _=>bK rfl
theorem WN:bJ f45 4:=λ_ _ _=>bK rfl
theorem WO:bJ f46 4:=λ_ _ _=>bK rfl
theorem WQ:bJ f47 3:=λ_ _ _=>bK rfl
theorem WS:bJ f50 4:=λ_ _ _=>bK rfl
theorem WT:bJ f51 4:=λ_ _ _=>bK rfl
theorem WU:nL f52 6 7:=λ_ _ _=>nN rfl
theorem WV:bJ f53 4:=λ_ _ _=>bK rfl
theorem WW:bJ f55 2:=λ_ _ _=>bK rfl
theorem WX:bJ f56 2:=λ_ _ _=>bK rfl
theorem WY:zF3 f57 28 2:=λ_ _ _=>zmN rfl
theorem WZ:bJ f58 2:=λ_ _ _=>bK rfl
theorem W0:bJ f59 6:=λ_ _ _=>bK rfl
theorem W1:bJ f60 4:=λ_ _ _=>bK rfl
theorem W2:bJ f61 4:=λ_ _ _=>bK rfl
theorem W3:nL f62 4 5:=λ_ _ _=>nN rfl
theorem W4:nL f63 4 5:=λ_ _ _=>nN rfl
theorem W5:tQ f64:=λ_ _ _=>tW rfl
theorem XC:tR f64:=λ_ _ _=>tV rfl
theorem W6:bJ f65 2:=λ_ _ _=>bK rfl
theorem W7:bJ f66 2:=λ_ _ _=>bK rfl
theorem W8:bJ f68 6:=λ_ _ _=>bK rfl
theorem W9:bJ f69 2:=λ_ _ _=>bK rfl
theorem Xa:nL f70 4 5:=λ_ _ _=>nN rfl
theorem Xb:bJ f72 2:=λ_ _ _=>bK rfl
theorem Xc:nL f73 4 5:=λ_ _ _=>nN rfl
theorem Xd:bJ f74 6:=λ_ _ _=>bK rfl
theorem Xe:nL f75 4 5:=λ_ _ _=>nN rfl
theorem Xf:bJ f76 4:=λ_ _ _=>bK rfl
theorem Xg:bJ f77 4:=λ_ _ _=>bK rfl
theorem Xh:bJ f80 4:=λ_ _ _=>bK rfl
theorem Xi:bJ f81 2:=λ_ _ _=>bK rfl
theorem Xj:tQ f82:=λ_ _ _=>tW rfl
theorem XD:tR f82:=λ_ _ _=>tV rfl
theorem Xk:nL f83 4 5:=λ_ _ _=>nN rfl
theorem Xl:bJ f84 2:=λ_ _ _=>bK rfl
theorem Xm:bJ f85 4:=λ_ _ _=>bK rfl
theorem Xn:bJ f86 2:=λ_ _ _=>bK rfl
theorem Xo (K:aG) (e:Env) (h:Heap):eL aA f87 K .ret e h=aD (fW aA 31 (e.get 4) h) h (λx h'=>K (.tuple #[x,e.get 5]) h'):=zjt rfl
theorem Xp:nL f88 6 7:=λ_ _ _=>nN rfl
theorem Xq:bJ f89 2:=λ_ _ _=>bK rfl
theorem Xr:bJ f91 2:=λ_ _ _=>bK rfl
theorem Xs:bJ f92 2:=λ_ _ _=>bK rfl
theorem Xt:bJ f93 2:=λ_ _ _=>bK rfl
theorem Xu:bJ f94 2:=λ_ _ _=>bK rfl
theorem Xv:bJ f95 2:=λ_ _ _=>bK rfl
theorem Xw:bJ f96 0:=λ_ _ _=>bK rfl
theorem Xx:bJ f97 2:=λ_ _ _=>bK rfl
theorem Xy:bJ f98 2:=λ_ _ _=>bK rfl
theorem Xz:bJ f99 2:=λ_ _ _=>bK rfl
theorem zEZ:bJ f100 2:=λ_ _ _=>bK rfl
theorem zE0:bJ f101 2:=λ_ _ _=>bK rfl
theorem zE1:bJ f102 6:=λ_ _ _=>bK rfl
theorem zE2:bJ f103 4:=λ_ _ _=>bK rfl
theorem zE3:bJ f104 4:=λ_ _ _=>bK rfl
theorem zE4:bJ f105 2:=λ_ _ _=>bK rfl
theorem zE5:bJ f106 4:=λ_ _ _=>bK rfl
theorem zE6:tQ f107:=λ_ _ _=>tW rfl
theorem zGO:tR f107:=λ_ _ _=>tV rfl
theorem zE7:bJ f108 4:=λ_ _ _=>bK rfl
theorem zE8:bJ f109 4:=λ_ _ _=>bK rfl
theorem zE9:bJ f110 4:=λ_ _ _=>bK rfl
theorem zFa:bJ f111 2:=λ_ _ _=>bK rfl
theorem zFb:bJ f112 4:=λ_ _ _=>bK rfl
theorem zFc:bJ f113 2:=λ_ _ _=>bK rfl
theorem zFd:bJ f114 4:=λ_ _ _=>bK rfl
theorem zFe:bJ f115 2:=λ_ _ _=>bK rfl
theorem zFf:bJ f116 2:=λ_ _ _=>bK rfl
theorem zFg:nL f117 6 7:=λ_ _ _=>nN rfl
theorem zFh:bJ f120 4:=λ_ _ _=>bK rfl
theorem zFi:bJ f121 2:=λ_ _ _=>bK rfl
theorem zFj:bJ f122 2:=λ_ _ _=>bK rfl
theorem zFk:bJ f123 4:=λ_ _ _=>bK rfl
theorem zFl:tQ f124:=λ_ _ _=>tW rfl
theorem zGP:tR f124:=λ_ _ _=>tV rfl
theorem zFm:tQ f136:=λ_ _ _=>tW rfl
theorem zGQ:tR f136:=λ_ _ _=>tV rfl
theorem zFn:nL f137 6 7:=λ_ _ _=>nN rfl
theorem zFo:zF3 f138 31 4:=λ_ _ _=>zmN rfl
theorem zFp:bJ f139 4:=λ_ _ _=>bK rfl
theorem zFq:bJ f140 2:=λ_ _ _=>bK rfl
theorem zFr:bJ f141 2:=λ_ _ _=>bK rfl
theorem zFs:bJ f142 2:=λ_ _ _=>bK rfl
theorem zFt:bJ f143 2:=λ_ _ _=>bK rfl
theorem zFu:bJ f144 4:=λ_ _ _=>bK rfl
theorem zFv:bJ f145 2:=λ_ _ _=>bK rfl
theorem zFw:bJ f146 6:=λ_ _ _=>bK rfl
theorem zFx:bJ f147 1:=λ_ _ _=>bK rfl
theorem zFy:bJ f148 2:=λ_ _ _=>bK rfl
theorem zFz:bJ f149 2:=λ_ _ _=>bK rfl
theorem zFB:bJ f150 2:=λ_ _ _=>bK rfl
theorem zFC:bJ f151 2:=λ_ _ _=>bK rfl
theorem zFE:nL f152 4 5:=λ_ _ _=>nN rfl
theorem zFF:bJ f153 4:=λ_ _ _=>bK rfl
theorem zFG:bJ f154 2:=λ_ _ _=>bK rfl
theorem zFH:bJ f155 2:=λ_ _ _=>bK rfl
theorem zFI:tQ f156:=λ_ _ _=>tW rfl
theorem zGR:tR f156:=λ_ _ _=>tV rfl
theorem zFJ:bJ f158 2:=λ_ _ _=>bK rfl
theorem zFK:bJ f159 2:=λ_ _ _=>bK rfl
theorem zFL:nL f160 4 5:=λ_ _ _=>nN rfl
theorem zFM:bJ f161 1:=λ_ _ _=>bK rfl
theorem zFN:bJ f162 2:=λ_ _ _=>bK rfl
theorem zFO:bJ f163 4:=λ_ _ _=>bK rfl
theorem zFP:bJ f164 2:=λ_ _ _=>bK rfl
theorem zFQ:bJ f165 2:=λ_ _ _=>bK rfl
theorem zFR:bJ f167 6:=λ_ _ _=>bK rfl
theorem zFS:tQ f168:=λ_ _ _=>tW rfl
theorem zGS:tR f168:=λ_ _ _=>tV rfl
theorem zFT:bJ f175 2:=λ_ _ _=>bK rfl
theorem zFU:bJ f176 4:=λ_ _ _=>bK rfl
theorem zFV (K:aG) (e:Env) (h:Heap):eL aA f177 K .ret e h=aD (fW aA 31 (e.get 4) h) h (λx h'=>K (.tuple #[x,e.get 5]) h'):=zjt rfl
theorem zFW:bJ f178 2:=λ_ _ _=>bK rfl
theorem zFX:nL f179 6 7:=λ_ _ _=>nN rfl
theorem zFY:bJ f180 6:=λ_ _ _=>bK rfl
theorem zFZ:bJ f181 2:=λ_ _ _=>bK rfl
theorem zF4:bJ f182 2:=λ_ _ _=>bK rfl
theorem zF5:bJ f183 2:=λ_ _ _=>bK rfl
theorem zF6:bJ f184 2:=λ_ _ _=>bK rfl
theorem zF7:bJ f185 2:=λ_ _ _=>bK rfl
theorem zF8:bJ f186 2:=λ_ _ _=>bK rfl
theorem zGa:bJ f187 4:=λ_ _ _=>bK rfl
theorem zGb:bJ f188 3:=λ_ _ _=>bK rfl
theorem zGc:bJ f189 2:=λ_ _ _=>bK rfl
theorem zGd:bJ f190 2:=λ_ _ _=>bK rfl
theorem zGe:bJ f191 4:=λ_ _ _=>bK rfl
theorem zGf:bJ f192 2:=λ_ _ _=>bK rfl
theorem zGg:tQ f193:=λ_ _ _=>tW rfl
theorem zGT:tR f193:=λ_ _ _=>tV rfl
theorem zGh:tQ f194:=λ_ _ _=>tW rfl
theorem zGU:tR f194:=λ_ _ _=>tV rfl
theorem zGi:bJ f197 2:=λ_ _ _=>bK rfl
theorem zGj:bJ f198 2:=λ_ _ _=>bK rfl
theorem zGk:bJ f199 4:=λ_ _ _=>bK rfl
theorem zGl:bJ f202 2:=λ_ _ _=>bK rfl
theorem zGm:bJ f203 4:=λ_ _ _=>bK rfl
theorem zGn:bJ f204 4:=λ_ _ _=>bK rfl
theorem zGo:zF3 f205 31 4:=λ_ _ _=>zmN rfl
theorem zGp:bJ f206 2:=λ_ _ _=>bK rfl
theorem zGq:bJ f207 4:=λ_ _ _=>bK rfl
theorem zGr:bJ f208 4:=λ_ _ _=>bK rfl
theorem zGs:bJ f209 2:=λ_ _ _=>bK rfl
theorem zGt:bJ f210 0:=λ_ _ _=>bK rfl
theorem zGu:bJ f211 4:=λ_ _ _=>bK rfl
theorem zGv:bJ f212 2:=λ_ _ _=>bK rfl
theorem zGw:bJ f213 2:=λ_ _ _=>bK rfl
theorem zGx:bJ f214 2:=λ_ _ _=>bK rfl
theorem zGy:tQ f215:=λ_ _ _=>tW rfl
theorem zGV:tR f215:=λ_ _ _=>tV rfl
theorem zGz:bJ f220 2:=λ_ _ _=>bK rfl
theorem zGA:bJ f221 2:=λ_ _ _=>bK rfl
theorem zGB:bJ f222 4:=λ_ _ _=>bK rfl
theorem zGC:bJ f224 2:=λ_ _ _=>bK rfl
theorem zGD:bJ f225 0:=λ_ _ _=>bK rfl
theorem zGE:bJ f226 2:=λ_ _ _=>bK rfl
theorem zGF:tQ f227:=λ_ _ _=>tW rfl
theorem zGW:tR f227:=λ_ _ _=>tV rfl
theorem zGG:bJ f230 2:=λ_ _ _=>bK rfl
theorem zGH:bJ f231 2:=λ_ _ _=>bK rfl
theorem zGI:bJ f232 2:=λ_ _ _=>bK rfl
theorem zGJ:bJ f257 6:=λ_ _ _=>bK rfl
theorem zGK:bJ f258 2:=λ_ _ _=>bK rfl
theorem zGL:tQ f259:=λ_ _ _=>tW rfl
theorem zGX:tR f259:=λ_ _ _=>tV rfl
theorem zGM:tQ f260:=λ_ _ _=>tW rfl
theorem zGY:tR f260:=λ_ _ _=>tV rfl
end Go.Proofs.YtkgojconmeeegaaGreatDoor
