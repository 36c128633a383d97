/- What the plain machine's operations come to at this seat's types. Written by a program (mksim.py). No condition. -/
import Derived.Test.YtjildadoepadeaaGreatDoorG25
namespace Go.Proofs.YtjildadoepadeaaGreatDoor
open Go.Am
abbrev pt (t:Nat):Prop:=∀ (A o:Nat) (h:Heap),eQ az t (.pointer (some ⟨A,o,none⟩)) h=I9 (h.get A) o
abbrev vQ (t n:Nat):Prop:=∀ (A o:Nat) (h:Heap),eQ az t (.pointer (some ⟨A,o,none⟩)) h=xf (h.get A) o n
abbrev sO (t:Nat) (z:List ai):Prop:=∀ (P:Program) (ov:Ov) (d:Option Tmp) (ty:TypeId) (pos:String) (af:Array Edge) (g:Option (Nat × Bool)) (e:Env) (h:Heap) (K:aF),bL P az ov ⟨d,.alloc t,ty,pos,af,g⟩ e h K=K (.pointer (some ⟨h.size,0,none⟩)) (h.push (.row z t false))
theorem uy {t n b:Nat} {z:List ai} (hz:az.info t=some (n,b,z)):sO t z:=λ_ _ d ty pos af g e h K=>zwD d ty pos af g e h K t hz
abbrev sQ (t:Nat):Prop:=∀ (a:Option Addr) (n c:Nat) (h:Heap),bE az t (.slice a n c) h=some (.int .i64 n)
abbrev FL (t k:Nat) (z:List ai) (e:Nat):Prop:=∀ (n:Nat) (parts:List (Nat × ai)) (h:Heap),rX az t n parts h=if n*k > 16777216 || n > 16777216 then Option.none else (pI (λi=>some (i*k,k)) (lC z n) parts).map λcs=>(.slice (some ⟨h.size,0,none⟩) n n,h.push (.row cs e false))
abbrev sP (t k:Nat):Prop:=∀ (A o n c:Nat) (ik:IntKind) (i:Int),hZ az t (.slice (some ⟨A,o,none⟩) n c) (.int ik i)=if 0<=i/\i < n then some (.pointer (some ⟨A,o+i.toNat*k,none⟩)) else none
abbrev gl (t f k:Nat):Prop:=∀ A o:Nat,gg az t (.pointer (some ⟨A,o,none⟩)) f=some (.pointer (some ⟨A,o+k,none⟩))
theorem ur:c9 az 3=some 1:=by kernel_rfl
theorem Jn:cD az 3=some false:=by kernel_rfl
theorem jy:pt 3:=λ_ _ _=>pA Jn
theorem lM:c9 az 4=some 1:=by kernel_rfl
theorem U2:cD az 4=some false:=by kernel_rfl
theorem pk:pt 4:=λ_ _ _=>pA U2
theorem PL:az.desc 5=some (.int .u8):=by kernel_rfl
theorem mD:c9 az 9=some 1:=by kernel_rfl
theorem lG:cD az 9=some false:=by kernel_rfl
theorem eO:pt 9:=λ_ _ _=>pA lG
theorem zI:az.desc 9=some .string:=by kernel_rfl
theorem ou (s:aA) (h:Heap):bE az 9 (.string s) h=some (.int .i64 s.size):=ztX zI
theorem MA:c9 az 23=some 1:=by kernel_rfl
theorem Cr:cD az 23=some false:=by kernel_rfl
theorem lp:pt 23:=λ_ _ _=>pA Cr
theorem Jq:sO 23 [.slice none 0 0]:=uy zqS
theorem dp:az.desc 23=some (.slice 9):=by kernel_rfl
theorem kg:sQ 23:=λ_ _ _ _=>r5 dp
theorem wU:FL 23 1 [.string ⟨#[]⟩] 9:=Cw dp H5
theorem kc:sP 23 1:=λ_ _ _ _ _ _=>sS dp (by kernel_rfl)
theorem Ji:cD az 24=some false:=by kernel_rfl
theorem rM:pt 24:=λ_ _ _=>pA Ji
theorem iu:az.desc 24=some (.slice 67):=by kernel_rfl
theorem rO:sQ 24:=λ_ _ _ _=>r5 iu
theorem rL:sP 24 2:=λ_ _ _ _ _ _=>sS iu (by kernel_rfl)
theorem Jj:cD az 25=some false:=by kernel_rfl
theorem yy:pt 25:=λ_ _ _=>pA Jj
theorem jg:az.desc 25=some (.slice 69):=by kernel_rfl
theorem yB:sQ 25:=λ_ _ _ _=>r5 jg
theorem yv:sP 25 2:=λ_ _ _ _ _ _=>sS jg (by kernel_rfl)
theorem Jk:cD az 26=some false:=by kernel_rfl
theorem ue:pt 26:=λ_ _ _=>pA Jk
theorem jh:az.desc 26=some (.slice 71):=by kernel_rfl
theorem uj:sQ 26:=λ_ _ _ _=>r5 jh
theorem yw:sP 26 12:=λ_ _ _ _ _ _=>sS jh (by kernel_rfl)
theorem Jl:cD az 27=some false:=by kernel_rfl
theorem uh:pt 27:=λ_ _ _=>pA Jl
theorem j3:az.desc 27=some (.slice 73):=by kernel_rfl
theorem uk:sQ 27:=λ_ _ _ _=>r5 j3
theorem yx:sP 27 13:=λ_ _ _ _ _ _=>sS j3 (by kernel_rfl)
theorem MB:c9 az 29=some 7:=by kernel_rfl
theorem Jm:cD az 29=some true:=by kernel_rfl
theorem dM:vQ 29 7:=λ_ _ _=>vY Jm MB
theorem Gp:gl 29 0 0:=λ_ _=>Eq.refl _
theorem Gq:gl 29 1 1:=λ_ _=>Eq.refl _
theorem Ol:gl 29 2 2:=λ_ _=>Eq.refl _
theorem Us:gl 29 3 3:=λ_ _=>Eq.refl _
theorem Ut:gl 29 4 4:=λ_ _=>Eq.refl _
theorem II:gl 29 5 5:=λ_ _=>Eq.refl _
theorem IJ:gl 29 6 6:=λ_ _=>Eq.refl _
theorem uv:c9 az 32=some 1:=by kernel_rfl
theorem Jo:cD az 32=some false:=by kernel_rfl
theorem rN:pt 32:=λ_ _ _=>pA Jo
theorem iD:c9 az 38=some 2:=by kernel_rfl
theorem oJ:cD az 38=some true:=by kernel_rfl
theorem nF:vQ 38 2:=λ_ _ _=>vY oJ iD
theorem Cu:sO 38 [.bool false,.string ⟨#[]⟩]:=uy zqT
theorem wm:gl 38 0 0:=λ_ _=>Eq.refl _
theorem zc:gl 38 1 1:=λ_ _=>Eq.refl _
theorem xg:az.desc 39=some (.array 4 38):=by kernel_rfl
theorem mw (A o:Nat) (ik:IntKind) (i:Int):hZ az 39 (.pointer (some ⟨A,o,none⟩)) (.int ik i)=if 0<=i/\i < 4 then some (.pointer (some ⟨A,o+i.toNat*2,none⟩)) else none:=zwf xg (by kernel_rfl)
theorem dv:c9 az 41=some 11:=by kernel_rfl
theorem kV:cD az 41=some true:=by kernel_rfl
theorem cP:vQ 41 11:=λ_ _ _=>vY kV dv
theorem qo:sO 41 [.string ⟨#[]⟩,.string ⟨#[]⟩,.int .i64 0,.bool false,.string ⟨#[]⟩,.bool false,.string ⟨#[]⟩,.bool false,.string ⟨#[]⟩,.bool false,.string ⟨#[]⟩]:=uy zqU
theorem sb:gl 41 0 0:=λ_ _=>Eq.refl _
theorem zd:gl 41 1 1:=λ_ _=>Eq.refl _
theorem s9:gl 41 2 2:=λ_ _=>Eq.refl _
theorem ta:gl 41 3 3:=λ_ _=>Eq.refl _
theorem qn:cD az 50=some false:=by kernel_rfl
theorem nG:pt 50:=λ_ _ _=>pA qn
theorem gw:az.desc 50=some (.slice 41):=by kernel_rfl
theorem nH:sQ 50:=λ_ _ _ _=>r5 gw
theorem pj:sP 50 11:=λ_ _ _ _ _ _=>sS gw (by kernel_rfl)
theorem jB:c9 az 53=some 12:=by kernel_rfl
theorem Jp:cD az 53=some true:=by kernel_rfl
theorem ui:vQ 53 12:=λ_ _ _=>vY Jp jB
theorem wS:sO 53 [.int .i64 0,.string ⟨#[]⟩,.string ⟨#[]⟩,.int .i64 0,.bool false,.string ⟨#[]⟩,.bool false,.string ⟨#[]⟩,.bool false,.string ⟨#[]⟩,.bool false,.string ⟨#[]⟩]:=uy zqV
theorem Gr:gl 53 0 0:=λ_ _=>Eq.refl _
theorem Gs:gl 53 1 1:=λ_ _=>Eq.refl _
theorem Uu:gl 60 0 0:=λ_ _=>Eq.refl _
theorem zw3:gl 60 1 1:=λ_ _=>Eq.refl _
theorem MC:c9 az 61=some 1:=by kernel_rfl
theorem Cs:cD az 61=some false:=by kernel_rfl
theorem Mk:pt 61:=λ_ _ _=>pA Cs
theorem iX:c9 az 67=some 2:=by kernel_rfl
theorem th:cD az 67=some true:=by kernel_rfl
theorem yz:vQ 67 2:=λ_ _ _=>vY th iX
theorem wT:sO 67 [.string ⟨#[]⟩,.int .i64 0]:=uy zqX
theorem ze:gl 67 0 0:=λ_ _=>Eq.refl _
theorem Gt:gl 67 1 1:=λ_ _=>Eq.refl _
theorem km:c9 az 69=some 2:=by kernel_rfl
theorem wP:cD az 69=some true:=by kernel_rfl
theorem yA:vQ 69 2:=λ_ _ _=>vY wP km
theorem Jr:sO 69 [.string ⟨#[]⟩,.slice none 0 0]:=uy zqY
theorem wo:gl 69 0 0:=λ_ _=>Eq.refl _
theorem IK:gl 69 1 1:=λ_ _=>Eq.refl _
theorem mC:c9 az 71=some 12:=by kernel_rfl
theorem Ct:cD az 71=some true:=by kernel_rfl
theorem Ec:vQ 71 12:=λ_ _ _=>vY Ct mC
theorem Js:sO 71 [.string ⟨#[]⟩,.string ⟨#[]⟩,.int .i64 0,.bool false,.string ⟨#[]⟩,.bool false,.string ⟨#[]⟩,.bool false,.string ⟨#[]⟩,.bool false,.string ⟨#[]⟩,.slice none 0 0]:=uy zqZ
theorem zf:gl 71 0 0:=λ_ _=>Eq.refl _
theorem zg:gl 71 1 11:=λ_ _=>Eq.refl _
theorem lz:c9 az 73=some 13:=by kernel_rfl
theorem wQ:cD az 73=some true:=by kernel_rfl
theorem Ed:vQ 73 13:=λ_ _ _=>vY wQ lz
theorem Cv:sO 73 [.string ⟨#[]⟩,.string ⟨#[]⟩,.string ⟨#[]⟩,.int .i64 0,.bool false,.string ⟨#[]⟩,.bool false,.string ⟨#[]⟩,.bool false,.string ⟨#[]⟩,.bool false,.string ⟨#[]⟩,.slice none 0 0]:=uy zq0
theorem IL:gl 73 0 0:=λ_ _=>Eq.refl _
theorem Gu:gl 73 1 1:=λ_ _=>Eq.refl _
theorem IM:gl 73 2 12:=λ_ _=>Eq.refl _
theorem GJ:az.desc 100=some (.slice 5):=by kernel_rfl
theorem UK:FL 100 1 [.int .u8 0] 5:=Cw GJ Nl
theorem zy2:c9 az 102=some 1:=by kernel_rfl
theorem UQ:cD az 102=some false:=by kernel_rfl
theorem zyP:pt 102:=λ_ _ _=>pA UQ
theorem GK:az.desc 104=some (.slice 102):=by kernel_rfl
theorem zyR:sQ 104:=λ_ _ _ _=>r5 GK
theorem zxz:FL 104 1 [.nilFunc] 102:=Cw GK zoi
theorem zyM:sP 104 1:=λ_ _ _ _ _ _=>sS GK (by kernel_rfl)
theorem I5:az.desc 107=some (.slice 61):=by kernel_rfl
theorem zyS:sQ 107:=λ_ _ _ _=>r5 I5
theorem zxA:FL 107 1 [.nilFunc] 61:=Cw I5 zqW
theorem zyN:sP 107 1:=λ_ _ _ _ _ _=>sS I5 (by kernel_rfl)
theorem Oa:gl 154 0 0:=λ_ _=>Eq.refl _
theorem Ip:gl 154 1 1:=λ_ _=>Eq.refl _
theorem zy3:c9 az 156=some 1:=by kernel_rfl
theorem UR:cD az 156=some false:=by kernel_rfl
theorem zyQ:pt 156:=λ_ _ _=>pA UR
theorem OK:sO 163 []:=uy zok
theorem GL:az.desc 224=some (.slice 156):=by kernel_rfl
theorem zyT:sQ 224:=λ_ _ _ _=>r5 GL
theorem wB:FL 224 1 [.nilFunc] 156:=Cw GL zoj
theorem zyO:sP 224 1:=λ_ _ _ _ _ _=>sS GL (by kernel_rfl)
theorem wC:az.desc 226=some (.slice 38):=by kernel_rfl
theorem OO:sQ 226:=λ_ _ _ _=>r5 wC
theorem OL:sP 226 2:=λ_ _ _ _ _ _=>sS wC (by kernel_rfl)
theorem Ob:gl 277 0 0:=λ_ _=>Eq.refl _
theorem Iq:gl 277 1 1:=λ_ _=>Eq.refl _
theorem Gf:gl 277 2 2:=λ_ _=>Eq.refl _
theorem Uf:gl 279 0 0:=λ_ _=>Eq.refl _
end Go.Proofs.YtjildadoepadeaaGreatDoor
namespace Go.Proofs.YtjildadoepadeaaGreatDoor
open Go.Am Tryz
abbrev bM (f:Func) (a:Nat):Prop:=∀ (K:aF) (e:Env) (h:Heap),dq az f K .ret e h=K (e.get a) h
abbrev Hr (f:Func) (a b:Nat):Prop:=∀ (K:aF) (e:Env) (h:Heap),dq az f K .ret e h=K (.tuple #[e.get a,e.get b]) h
abbrev Rx (f:Func) (a b:Nat):Prop:=∀ (K:aF) (e:Env) (h:Heap),dq az f K .ret e h=aE (eQ az a (e.get b) h) h K
abbrev Xp (f:Func):Prop:=∀ (K:aF) (e:Env) (h:Heap),dq az f K .ret e h=K undef h
abbrev Xq (f:Func):Prop:=∀ (K:aF) (e:Env) (h:Heap),dq az f K .normal e h=K undef h
theorem Ve:bM f4 8:=λ_ _ _=>bN rfl
theorem JX:bM f16 4:=λ_ _ _=>bN rfl
theorem JY:bM f19 2:=λ_ _ _=>bN rfl
theorem JZ:bM f20 2:=λ_ _ _=>bN rfl
theorem J0:Hr f21 2 3:=λ_ _ _=>Ir rfl
theorem J1 (K:aF) (e:Env) (h:Heap):dq az f22 K .ret e h=aE (eQ az 53 (e.get 4) h) h (λx h'=>K (.tuple #[x,e.get 5]) h'):=Sn rfl
theorem J2:bM f23 2:=λ_ _ _=>bN rfl
theorem J3:bM f24 4:=λ_ _ _=>bN rfl
theorem J4:bM f25 4:=λ_ _ _=>bN rfl
theorem J5:bM f26 6:=λ_ _ _=>bN rfl
theorem J6:bM f27 2:=λ_ _ _=>bN rfl
theorem J7:bM f42 6:=λ_ _ _=>bN rfl
theorem J8:bM f43 4:=λ_ _ _=>bN rfl
theorem J9:bM f44 2:=λ_ _ _=>bN rfl
theorem Ka:Hr f45 2 3:=λ_ _ _=>Ir rfl
theorem Kb:bM f46 2:=λ_ _ _=>bN rfl
theorem Kc:bM f47 1:=λ_ _ _=>bN rfl
theorem Kd:bM f48 2:=λ_ _ _=>bN rfl
theorem Ke:bM f49 4:=λ_ _ _=>bN rfl
theorem Kf:bM f50 2:=λ_ _ _=>bN rfl
theorem Kg (K:aF) (e:Env) (h:Heap):dq az f51 K .ret e h=aE (eQ az 53 (e.get 2) h) h (λx h'=>K (.tuple #[x,e.get 3]) h'):=Sn rfl
theorem Kh:bM f52 3:=λ_ _ _=>bN rfl
theorem Ki:bM f53 4:=λ_ _ _=>bN rfl
theorem Kj:bM f54 6:=λ_ _ _=>bN rfl
theorem Kk:bM f55 2:=λ_ _ _=>bN rfl
theorem Kl:bM f56 2:=λ_ _ _=>bN rfl
theorem Km:bM f57 2:=λ_ _ _=>bN rfl
theorem Ko:bM f58 6:=λ_ _ _=>bN rfl
theorem Kp:bM f59 4:=λ_ _ _=>bN rfl
theorem Kq:bM f60 4:=λ_ _ _=>bN rfl
theorem Kr:bM f61 2:=λ_ _ _=>bN rfl
theorem Ks:bM f62 2:=λ_ _ _=>bN rfl
theorem Kt:bM f63 2:=λ_ _ _=>bN rfl
theorem Ku:bM f64 2:=λ_ _ _=>bN rfl
theorem Kv:bM f65 2:=λ_ _ _=>bN rfl
theorem Kw:bM f66 2:=λ_ _ _=>bN rfl
theorem Kx:bM f89 2:=λ_ _ _=>bN rfl
theorem Ky:bM f90 2:=λ_ _ _=>bN rfl
theorem Kz:bM f91 4:=λ_ _ _=>bN rfl
theorem KA:bM f92 2:=λ_ _ _=>bN rfl
theorem KB:Rx f93 41 2:=λ_ _ _=>T2 rfl
theorem KD:Xp f94:=λ_ _ _=>zw5 rfl
theorem KJ:Xq f94:=λ_ _ _=>zwc rfl
theorem KE:bM f95 2:=λ_ _ _=>bN rfl
theorem KF:bM f96 4:=λ_ _ _=>bN rfl
theorem KG:bM f97 2:=λ_ _ _=>bN rfl
theorem KH:bM f98 4:=λ_ _ _=>bN rfl
theorem KI:bM f99 2:=λ_ _ _=>bN rfl
theorem zxL:bM f100 2:=λ_ _ _=>bN rfl
theorem zxM:bM f101 2:=λ_ _ _=>bN rfl
theorem zxN:bM f102 2:=λ_ _ _=>bN rfl
theorem zxO:Hr f103 4 5:=λ_ _ _=>Ir rfl
theorem zxP:bM f104 4:=λ_ _ _=>bN rfl
theorem zxQ:bM f105 2:=λ_ _ _=>bN rfl
theorem zxR:bM f106 2:=λ_ _ _=>bN rfl
theorem zxS:bM f107 2:=λ_ _ _=>bN rfl
theorem zxT:bM f108 2:=λ_ _ _=>bN rfl
theorem zxU:bM f109 2:=λ_ _ _=>bN rfl
theorem zxV:bM f110 4:=λ_ _ _=>bN rfl
theorem zxW:bM f111 2:=λ_ _ _=>bN rfl
theorem zxX:bM f112 6:=λ_ _ _=>bN rfl
theorem zxY:bM f113 1:=λ_ _ _=>bN rfl
theorem zxZ:bM f114 2:=λ_ _ _=>bN rfl
theorem zx0:bM f115 2:=λ_ _ _=>bN rfl
theorem zx1:bM f121 4:=λ_ _ _=>bN rfl
theorem zx2:bM f128 2:=λ_ _ _=>bN rfl
theorem zx3:bM f154 2:=λ_ _ _=>bN rfl
theorem zx4:bM f155 2:=λ_ _ _=>bN rfl
theorem zx5:bM f156 2:=λ_ _ _=>bN rfl
theorem zx6:bM f157 4:=λ_ _ _=>bN rfl
theorem zx7:bM f158 4:=λ_ _ _=>bN rfl
theorem zx8:Hr f160 4 5:=λ_ _ _=>Ir rfl
theorem zx9:bM f161 1:=λ_ _ _=>bN rfl
theorem zya:bM f162 2:=λ_ _ _=>bN rfl
theorem zyb:bM f163 4:=λ_ _ _=>bN rfl
theorem zyc:bM f164 2:=λ_ _ _=>bN rfl
theorem zyd:bM f165 2:=λ_ _ _=>bN rfl
theorem zye:bM f166 2:=λ_ _ _=>bN rfl
theorem zyf:bM f167 2:=λ_ _ _=>bN rfl
theorem zyg:bM f168 4:=λ_ _ _=>bN rfl
theorem zyh:bM f169 6:=λ_ _ _=>bN rfl
theorem zyi:bM f170 2:=λ_ _ _=>bN rfl
theorem zyj:bM f171 2:=λ_ _ _=>bN rfl
theorem zyk:bM f172 2:=λ_ _ _=>bN rfl
theorem zyl:bM f173 2:=λ_ _ _=>bN rfl
theorem zym:bM f174 2:=λ_ _ _=>bN rfl
theorem zyn:bM f175 2:=λ_ _ _=>bN rfl
theorem zyo:bM f176 4:=λ_ _ _=>bN rfl
theorem zyp:bM f177 3:=λ_ _ _=>bN rfl
theorem zyq:bM f186 2:=λ_ _ _=>bN rfl
theorem zyr:bM f187 2:=λ_ _ _=>bN rfl
theorem zys:bM f210 2:=λ_ _ _=>bN rfl
theorem zyt:Rx f211 41 2:=λ_ _ _=>T2 rfl
theorem zyu:bM f212 4:=λ_ _ _=>bN rfl
theorem zyv:bM f213 2:=λ_ _ _=>bN rfl
theorem zyw:bM f214 2:=λ_ _ _=>bN rfl
theorem zyx:bM f215 2:=λ_ _ _=>bN rfl
theorem zyy:bM f216 0:=λ_ _ _=>bN rfl
theorem zyz:bM f217 4:=λ_ _ _=>bN rfl
theorem zyA:bM f222 2:=λ_ _ _=>bN rfl
theorem zyB:bM f223 2:=λ_ _ _=>bN rfl
theorem zyC:bM f243 2:=λ_ _ _=>bN rfl
theorem zyD:bM f244 2:=λ_ _ _=>bN rfl
theorem zyE:bM f245 2:=λ_ _ _=>bN rfl
theorem zyF:bM f246 2:=λ_ _ _=>bN rfl
theorem zyG:bM f247 2:=λ_ _ _=>bN rfl
theorem zyH:bM f248 0:=λ_ _ _=>bN rfl
theorem zyI:bM f254 2:=λ_ _ _=>bN rfl
theorem zyJ:bM f255 2:=λ_ _ _=>bN rfl
theorem zyK:bM f256 2:=λ_ _ _=>bN rfl
theorem zyL (K:aF) (e:Env) (h:Heap):dq az f268 K .ret e h=K (.tuple #[e.get 2,e.get 3,e.get 4]) h:=zr5 rfl
end Go.Proofs.YtjildadoepadeaaGreatDoor
