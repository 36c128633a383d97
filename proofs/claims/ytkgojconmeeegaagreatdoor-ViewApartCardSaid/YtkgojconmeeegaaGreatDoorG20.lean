/- What the plain machine's operations come to at this seat's types. Written by a program (mksim.py). No condition. -/
import Derived.Test.YtkgojconmeeegaaGreatDoorG19
namespace Go.Proofs.YtkgojconmeeegaaGreatDoor
open Go.Am
abbrev gR (t:Nat):Prop:=∀ (A o:Nat) (h:Heap),dI ae t (.pointer (some ⟨A,o,none⟩)) h=kW (h.get A) o
abbrev qe (t n:Nat):Prop:=∀ (A o:Nat) (h:Heap),dI ae t (.pointer (some ⟨A,o,none⟩)) h=lM (h.get A) o n
abbrev OX (t:Nat):Prop:=∀ (cs:List Value) (o:Nat),aN ae t cs o=cs[o]?
abbrev Ub (t:Nat) (z:List Value):Prop:=∀ (P:Program) (ov:Ov) (d:Option Tmp) (ty:TypeId) (pos:String) (af:Array Edge) (g:Option (Nat × Bool)) (e:Env) (h:Heap) (K:Value→Heap→Prop),cu P ae ov ⟨d,.alloc t,ty,pos,af,g⟩ e h K=K (.pointer (some ⟨h.size,0,none⟩)) (h.push (.row z t false))
theorem b9 {t n b:Nat} {z:List Value} (hz:ae.info t=some (n,b,z)):Ub t z:=fun _ _ d ty pos af g e h K=>vF d ty pos af g e h K t hz
abbrev mc (t:Nat):Prop:=∀ (a:Option Addr) (n c:Nat) (h:Heap),bc ae t (.slice a n c) h=some (.int .i64 n)
abbrev Vj (t k:Nat) (z:List Value) (e:Nat):Prop:=∀ (n:Nat) (parts:List (Nat × Value)) (h:Heap),oZ ae t n parts h=if n*k > 16777216 || n > 16777216 then Option.none else (mb (fun i=>some (i*k,k)) (kb z n) parts).map fun cs=>(.slice (some ⟨h.size,0,none⟩) n n,h.push (.row cs e false))
abbrev k5 (t k:Nat):Prop:=∀ (A o n c:Nat) (ik:IntKind) (i:Int),fW ae t (.slice (some ⟨A,o,none⟩) n c) (.int ik i)=if 0≤i∧i < n then some (.pointer (some ⟨A,o+i.toNat*k,none⟩)) else none
abbrev en (t f k:Nat):Prop:=∀ A o:Nat,dg ae t (.pointer (some ⟨A,o,none⟩)) f=some (.pointer (some ⟨A,o+k,none⟩))
abbrev Jj (t f u k:Nat):Prop:=∀ cs:Array Value,EF ae t (.agg cs) f=aN ae u cs.toList k
theorem xL:bJ ae 3=some 1:=by kernel_rfl
theorem L5:aq ae 3=some false:=by kernel_rfl
theorem mi:gR 3:=fun _ _ _=>na L5
theorem sz4:bJ ae 4=some 1:=by kernel_rfl
theorem ag4:aq ae 4=some false:=by kernel_rfl
theorem G9:gR 4:=fun _ _ _=>na ag4
theorem oq:bJ ae 9=some 1:=by kernel_rfl
theorem kc:aq ae 9=some false:=by kernel_rfl
theorem gn:gR 9:=fun _ _ _=>na kc
theorem ds9:ae.desc 9=some .string:=by kernel_rfl
theorem AQ (s:ByteArray) (h:Heap):bc ae 9 (.string s) h=some (.int .i64 s.size):=zzc ds9
theorem ad7:bJ ae 22=some 1:=by kernel_rfl
theorem zp:aq ae 22=some false:=by kernel_rfl
theorem lV:gR 22:=fun _ _ _=>na zp
theorem Zv:Ub 22 [.slice none 0 0]:=b9 ztP
theorem cY:ae.desc 22=some (.slice 9):=by kernel_rfl
theorem j7:mc 22:=fun _ _ _ _=>r9 cY
theorem tA:Vj 22 1 [.string ⟨#[]⟩] 9:=vR cY Eo
theorem j5:k5 22 1:=fun _ _ _ _ _ _=>r8 cY (by kernel_rfl)
theorem LX:aq ae 23=some false:=by kernel_rfl
theorem uz:gR 23:=fun _ _ _=>na LX
theorem jS:ae.desc 23=some (.slice 73):=by kernel_rfl
theorem xC:mc 23:=fun _ _ _ _=>r9 jS
theorem ZF:Vj 23 2 [.string ⟨#[]⟩,.int .i64 0] 73:=vR jS TP
theorem xy:k5 23 2:=fun _ _ _ _ _ _=>r8 jS (by kernel_rfl)
theorem LY:aq ae 24=some false:=by kernel_rfl
theorem AH:gR 24:=fun _ _ _=>na LY
theorem jT:ae.desc 24=some (.slice 75):=by kernel_rfl
theorem AN:mc 24:=fun _ _ _ _=>r9 jT
theorem xz:k5 24 2:=fun _ _ _ _ _ _=>r8 jT (by kernel_rfl)
theorem LZ:aq ae 25=some false:=by kernel_rfl
theorem AJ:gR 25:=fun _ _ _=>na LZ
theorem my:ae.desc 25=some (.slice 77):=by kernel_rfl
theorem AO:mc 25:=fun _ _ _ _=>r9 my
theorem G7:k5 25 12:=fun _ _ _ _ _ _=>r8 my (by kernel_rfl)
theorem L3:aq ae 26=some false:=by kernel_rfl
theorem AK:gR 26:=fun _ _ _=>na L3
theorem nE:ae.desc 26=some (.slice 80):=by kernel_rfl
theorem AP:mc 26:=fun _ _ _ _=>r9 nE
theorem G8:k5 26 13:=fun _ _ _ _ _ _=>r8 nE (by kernel_rfl)
theorem Pt:bJ ae 28=some 7:=by kernel_rfl
theorem L4:aq ae 28=some true:=by kernel_rfl
theorem dW:qe 28 7:=fun _ _ _=>CI L4 Pt
theorem Zw:Ub 28 [.slice none 0 0,.slice none 0 0,.slice none 0 0,.int .i64 0,.int .i64 0,.slice none 0 0,.slice none 0 0]:=b9 ztQ
theorem HV:en 28 0 0:=fun _ _=>Eq.refl _
theorem Kf:en 28 1 1:=fun _ _=>Eq.refl _
theorem XJ:en 28 2 2:=fun _ _=>Eq.refl _
theorem Sq:en 28 3 3:=fun _ _=>Eq.refl _
theorem AG:en 28 4 4:=fun _ _=>Eq.refl _
theorem XK:en 28 5 5:=fun _ _=>Eq.refl _
theorem XL:en 28 6 6:=fun _ _=>Eq.refl _
theorem mz:ae.desc 29=some (.slice 36):=by kernel_rfl
theorem Pa:mc 29:=fun _ _ _ _=>r9 mz
theorem ZG:Vj 29 13 [.int .i64 0,.string ⟨#[]⟩,.string ⟨#[]⟩,.string ⟨#[]⟩,.int .i64 0,.bool false,.string ⟨#[]⟩,.bool false,.string ⟨#[]⟩,.bool false,.string ⟨#[]⟩,.bool false,.string ⟨#[]⟩] 36:=vR mz ztS
theorem O5:k5 29 13:=fun _ _ _ _ _ _=>r8 mz (by kernel_rfl)
theorem jC:bJ ae 31=some 2:=by kernel_rfl
theorem pY:aq ae 31=some true:=by kernel_rfl
theorem qI:qe 31 2:=fun _ _ _=>CI pY jC
theorem Fc:Ub 31 [.bool false,.string ⟨#[]⟩]:=b9 ztR
theorem Kg:en 31 0 0:=fun _ _=>Eq.refl _
theorem HW:en 31 1 1:=fun _ _=>Eq.refl _
theorem FB:ae.desc 32=some (.array 4 31):=by kernel_rfl
theorem rY (A o:Nat) (ik:IntKind) (i:Int):fW ae 32 (.pointer (some ⟨A,o,none⟩)) (.int ik i)=if 0≤i∧i < 4 then some (.pointer (some ⟨A,o+i.toNat*2,none⟩)) else none:=zGe FB (by kernel_rfl)
theorem bO:bJ ae 34=some 11:=by kernel_rfl
theorem fx:aq ae 34=some true:=by kernel_rfl
theorem ct:qe 34 11:=fun _ _ _=>CI fx bO
theorem Mg:Ub 34 [.string ⟨#[]⟩,.string ⟨#[]⟩,.int .i64 0,.bool false,.string ⟨#[]⟩,.bool false,.string ⟨#[]⟩,.bool false,.string ⟨#[]⟩,.bool false,.string ⟨#[]⟩]:=b9 se
theorem vI:en 34 0 0:=fun _ _=>Eq.refl _
theorem HX:en 34 1 1:=fun _ _=>Eq.refl _
theorem EC:en 34 2 2:=fun _ _=>Eq.refl _
theorem Da:en 34 3 3:=fun _ _=>Eq.refl _
theorem qN:bJ ae 36=some 13:=by kernel_rfl
theorem L6:aq ae 36=some true:=by kernel_rfl
theorem adx:qe 36 13:=fun _ _ _=>CI L6 qN
theorem U1:en 36 0 0:=fun _ _=>Eq.refl _
theorem ED:en 36 1 1:=fun _ _=>Eq.refl _
theorem EE:en 36 2 2:=fun _ _=>Eq.refl _
theorem aed:bJ ae 44=some 1:=by kernel_rfl
theorem rG:aq ae 44=some false:=by kernel_rfl
theorem mV:gR 44:=fun _ _ _=>na rG
theorem BD:OX 44:=fun _ _=>aY rG
theorem bL:ae.desc 44=some (.slice 34):=by kernel_rfl
theorem iu:mc 44:=fun _ _ _ _=>r9 bL
theorem tB:Vj 44 11 [.string ⟨#[]⟩,.string ⟨#[]⟩,.int .i64 0,.bool false,.string ⟨#[]⟩,.bool false,.string ⟨#[]⟩,.bool false,.string ⟨#[]⟩,.bool false,.string ⟨#[]⟩] 34:=vR bL se
theorem j6:k5 44 11:=fun _ _ _ _ _ _=>r8 bL (by kernel_rfl)
theorem L7:aq ae 46=some false:=by kernel_rfl
theorem ady:gR 46:=fun _ _ _=>na L7
theorem Zx:Ub 46 [.slice none 0 0]:=b9 ztT
theorem FD:ae.desc 46=some (.slice 55):=by kernel_rfl
theorem Pb:mc 46:=fun _ _ _ _=>r9 FD
theorem ZH:Vj 46 1 [.int .u64 0] 55:=vR FD zlC
theorem adr:k5 46 1:=fun _ _ _ _ _ _=>r8 FD (by kernel_rfl)
theorem L8:aq ae 49=some false:=by kernel_rfl
theorem adz:gR 49:=fun _ _ _=>na L8
theorem L9:aq ae 55=some false:=by kernel_rfl
theorem AL:gR 55:=fun _ _ _=>na L9
theorem BN:OX 55:=fun _ _=>aY L9
theorem lq:bJ ae 73=some 2:=by kernel_rfl
theorem vQ:aq ae 73=some true:=by kernel_rfl
theorem Ha:qe 73 2:=fun _ _ _=>CI vQ lq
theorem Fe:Ub 73 [.string ⟨#[]⟩,.int .i64 0]:=b9 TP
theorem HY:en 73 0 0:=fun _ _=>Eq.refl _
theorem Sr:en 73 1 1:=fun _ _=>Eq.refl _
theorem jD:bJ ae 75=some 2:=by kernel_rfl
theorem tu:aq ae 75=some true:=by kernel_rfl
theorem AM:qe 75 2:=fun _ _ _=>CI tu jD
theorem Zy:Ub 75 [.string ⟨#[]⟩,.slice none 0 0]:=b9 ztU
theorem Db:en 75 0 0:=fun _ _=>Eq.refl _
theorem Kh:en 75 1 1:=fun _ _=>Eq.refl _
theorem px:bJ ae 77=some 12:=by kernel_rfl
theorem Fa:aq ae 77=some true:=by kernel_rfl
theorem O6:qe 77 12:=fun _ _ _=>CI Fa px
theorem Zz:Ub 77 [.string ⟨#[]⟩,.string ⟨#[]⟩,.int .i64 0,.bool false,.string ⟨#[]⟩,.bool false,.string ⟨#[]⟩,.bool false,.string ⟨#[]⟩,.bool false,.string ⟨#[]⟩,.slice none 0 0]:=b9 ztV
theorem HZ:en 77 0 0:=fun _ _=>Eq.refl _
theorem H2:en 77 1 11:=fun _ _=>Eq.refl _
theorem nP:bJ ae 80=some 13:=by kernel_rfl
theorem zq:aq ae 80=some true:=by kernel_rfl
theorem O7:qe 80 13:=fun _ _ _=>CI zq nP
theorem Mh:Ub 80 [.string ⟨#[]⟩,.string ⟨#[]⟩,.string ⟨#[]⟩,.int .i64 0,.bool false,.string ⟨#[]⟩,.bool false,.string ⟨#[]⟩,.bool false,.string ⟨#[]⟩,.bool false,.string ⟨#[]⟩,.slice none 0 0]:=b9 ztW
theorem XM:en 80 0 0:=fun _ _=>Eq.refl _
theorem Ss:en 80 1 1:=fun _ _=>Eq.refl _
theorem XN:en 80 2 12:=fun _ _=>Eq.refl _
theorem Ma:aq ae 85=some false:=by kernel_rfl
theorem adA:gR 85:=fun _ _ _=>na Ma
theorem ZA:Ub 85 [.slice none 0 0]:=b9 ztX
theorem wh:ae.desc 85=some (.slice 44):=by kernel_rfl
theorem adE:mc 85:=fun _ _ _ _=>r9 wh
theorem ZI:Vj 85 1 [.slice none 0 0] 44:=vR wh zlB
theorem ads:k5 85 1:=fun _ _ _ _ _ _=>r8 wh (by kernel_rfl)
theorem Mb:aq ae 89=some false:=by kernel_rfl
theorem adB:gR 89:=fun _ _ _=>na Mb
theorem Mc:aq ae 94=some false:=by kernel_rfl
theorem adC:gR 94:=fun _ _ _=>na Mc
theorem Md:aq ae 95=some false:=by kernel_rfl
theorem O8:gR 95:=fun _ _ _=>na Md
theorem Pu:bJ ae 97=some 1:=by kernel_rfl
theorem Me:aq ae 97=some true:=by kernel_rfl
theorem O9:qe 97 1:=fun _ _ _=>CI Me Pu
theorem CN:en 97 0 0:=fun _ _=>Eq.refl _
theorem Mf:aq ae 98=some false:=by kernel_rfl
theorem xA:gR 98:=fun _ _ _=>na Mf
theorem zu1:en 100 0 0:=fun _ _=>Eq.refl _
theorem zu2:en 100 1 1:=fun _ _=>Eq.refl _
theorem Sb:en 100 2 8:=fun _ _=>Eq.refl _
theorem zLr:Ub 109 [.slice none 0 0,.int .u64 0]:=b9 zqZ
theorem Se:en 109 0 0:=fun _ _=>Eq.refl _
theorem UI:Jj 109 0 44 0:=fun _=>Eq.refl _
theorem zjA:en 109 1 1:=fun _ _=>Eq.refl _
theorem zjH:Jj 109 1 55 1:=fun _=>Eq.refl _
theorem zNP:bJ ae 117=some 1:=by kernel_rfl
theorem C4:aq ae 117=some false:=by kernel_rfl
theorem zNu:gR 117:=fun _ _ _=>na C4
theorem zHm:aq ae 120=some false:=by kernel_rfl
theorem Yj:gR 120:=fun _ _ _=>na zHm
theorem Cd:ae.desc 120=some (.slice 124):=by kernel_rfl
theorem zNw:mc 120:=fun _ _ _ _=>r9 Cd
theorem zLx:Vj 120 3 [.string ⟨#[]⟩,.slice none 0 0,.int .u64 0] 124:=vR Cd zkf
theorem Cm:k5 120 3:=fun _ _ _ _ _ _=>r8 Cd (by kernel_rfl)
theorem zu3:en 122 0 0:=fun _ _=>Eq.refl _
theorem Xy:en 122 1 7:=fun _ _=>Eq.refl _
theorem zjG:en 124 0 0:=fun _ _=>Eq.refl _
theorem zu4:en 124 1 1:=fun _ _=>Eq.refl _
theorem zu5:en 124 2 2:=fun _ _=>Eq.refl _
theorem XQ:ae.desc 153=some (.slice 117):=by kernel_rfl
theorem zNx:mc 153:=fun _ _ _ _=>r9 XQ
theorem zLy:Vj 153 1 [.nilFunc] 117:=vR XQ zq0
theorem zNr:k5 153 1:=fun _ _ _ _ _ _=>r8 XQ (by kernel_rfl)
theorem zNU:bJ ae 164=some 1:=by kernel_rfl
theorem C5:aq ae 164=some false:=by kernel_rfl
theorem zNv:gR 164:=fun _ _ _=>na C5
theorem zHn:aq ae 170=some false:=by kernel_rfl
theorem Cp:gR 170:=fun _ _ _=>na zHn
theorem Ce:ae.desc 170=some (.slice 3):=by kernel_rfl
theorem Jq:mc 170:=fun _ _ _ _=>r9 Ce
theorem zLz:Vj 170 1 [.int .i64 0] 3:=vR Ce zpe
theorem Cn:k5 170 1:=fun _ _ _ _ _ _=>r8 Ce (by kernel_rfl)
theorem UE:en 172 0 0:=fun _ _=>Eq.refl _
theorem zHo:aq ae 173=some false:=by kernel_rfl
theorem Cq:gR 173:=fun _ _ _=>na zHo
theorem Cf:ae.desc 173=some (.slice 178):=by kernel_rfl
theorem Jr:mc 173:=fun _ _ _ _=>r9 Cf
theorem Ko:Vj 173 2 [.string ⟨#[]⟩,.int .i64 0] 178:=vR Cf zkg
theorem Co:k5 173 2:=fun _ _ _ _ _ _=>r8 Cf (by kernel_rfl)
theorem zHp:aq ae 174=some false:=by kernel_rfl
theorem Cr:gR 174:=fun _ _ _=>na zHp
theorem zu6:en 176 0 0:=fun _ _=>Eq.refl _
theorem UF:en 176 1 1:=fun _ _=>Eq.refl _
theorem UG:en 176 2 2:=fun _ _=>Eq.refl _
theorem zF4:en 178 0 0:=fun _ _=>Eq.refl _
theorem UH:en 178 1 1:=fun _ _=>Eq.refl _
theorem zIk:bJ ae 195=some 3:=by kernel_rfl
theorem B9:Ub 199 []:=b9 zq2
theorem SB:ae.desc 208=some (.slice 164):=by kernel_rfl
theorem zNy:mc 208:=fun _ _ _ _=>r9 SB
theorem EP:Vj 208 1 [.nilFunc] 164:=vR SB zq1
theorem zNs:k5 208 1:=fun _ _ _ _ _ _=>r8 SB (by kernel_rfl)
theorem ye:ae.desc 210=some (.slice 31):=by kernel_rfl
theorem Yk:mc 210:=fun _ _ _ _=>r9 ye
theorem XP:k5 210 2:=fun _ _ _ _ _ _=>r8 ye (by kernel_rfl)
abbrev bp (f:Func) (a:Nat):Prop:=∀ (K:Value→Heap→Prop) (e:Env) (h:Heap),aC ae f K .ret e h=K (e.get a) h
abbrev jk (f:Func) (a b:Nat):Prop:=∀ (K:Value→Heap→Prop) (e:Env) (h:Heap),aC ae f K .ret e h=K (.tuple #[e.get a,e.get b]) h
abbrev zF3 (f:Func) (a b:Nat):Prop:=∀ (K:Value→Heap→Prop) (e:Env) (h:Heap),aC ae f K .ret e h=aW (dI ae a (e.get b) h) h K
abbrev nG (f:Func):Prop:=∀ (K:Value→Heap→Prop) (e:Env) (h:Heap),aC ae f K .ret e h=K undef h
abbrev n4 (f:Func):Prop:=∀ (K:Value→Heap→Prop) (e:Env) (h:Heap),aC ae f K .normal e h=K undef h
theorem fi3:bp Tryz.f3 8:=fun _ _ _=>bS rfl
theorem fi6:bp Tryz.f6 2:=fun _ _ _=>bS rfl
theorem fi7:bp Tryz.f7 2:=fun _ _ _=>bS rfl
theorem fi8 (K:Value→Heap→Prop) (e:Env) (h:Heap):aC ae Tryz.f8 K .ret e h=K (.tuple #[e.get 4,e.get 5,e.get 6]) h:=zvc rfl
theorem fi9:bp Tryz.f9 6:=fun _ _ _=>bS rfl
theorem aab:bp Tryz.f10 6:=fun _ _ _=>bS rfl
theorem aac:bp Tryz.f11 4:=fun _ _ _=>bS rfl
theorem aad:jk Tryz.f12 6 7:=fun _ _ _=>qS rfl
theorem aae:jk Tryz.f13 6 7:=fun _ _ _=>qS rfl
theorem aaf:bp Tryz.f14 6:=fun _ _ _=>bS rfl
theorem aag:bp Tryz.f15 4:=fun _ _ _=>bS rfl
theorem aah:bp Tryz.f16 4:=fun _ _ _=>bS rfl
theorem aai:bp Tryz.f17 2:=fun _ _ _=>bS rfl
theorem aaj:bp Tryz.f18 4:=fun _ _ _=>bS rfl
theorem aak:bp Tryz.f19 4:=fun _ _ _=>bS rfl
theorem aal:bp Tryz.f20 4:=fun _ _ _=>bS rfl
theorem aam:bp Tryz.f24 4:=fun _ _ _=>bS rfl
theorem aan:bp Tryz.f25 2:=fun _ _ _=>bS rfl
theorem aao:bp Tryz.f28 6:=fun _ _ _=>bS rfl
theorem aap:bp Tryz.f29 4:=fun _ _ _=>bS rfl
theorem aaq:jk Tryz.f30 2 3:=fun _ _ _=>qS rfl
theorem aar:jk Tryz.f31 2 3:=fun _ _ _=>qS rfl
theorem aas:jk Tryz.f32 6 7:=fun _ _ _=>qS rfl
theorem aat:jk Tryz.f33 6 7:=fun _ _ _=>qS rfl
theorem aau:bp Tryz.f34 6:=fun _ _ _=>bS rfl
theorem aav:bp Tryz.f35 4:=fun _ _ _=>bS rfl
theorem aaw:bp Tryz.f36 2:=fun _ _ _=>bS rfl
theorem aax:bp Tryz.f37 6:=fun _ _ _=>bS rfl
theorem aay:bp Tryz.f38 4:=fun _ _ _=>bS rfl
theorem aaz:jk Tryz.f39 10 11:=fun _ _ _=>qS rfl
theorem aaA:jk Tryz.f40 4 5:=fun _ _ _=>qS rfl
theorem aaB:nG Tryz.f41:=fun _ _ _=>tg rfl
theorem abg:n4 Tryz.f41:=fun _ _ _=>ta rfl
theorem aaC:jk Tryz.f42 4 5:=fun _ _ _=>qS rfl
theorem aaD:nG Tryz.f43:=fun _ _ _=>tg rfl
theorem abh:n4 Tryz.f43:=fun _ _ _=>ta rfl
theorem aaE:bp Tryz.f44 4:=fun _ _ _=>bS rfl
theorem aaF:bp Tryz.f45 4:=fun _ _ _=>bS rfl
theorem aaG:bp Tryz.f46 4:=fun _ _ _=>bS rfl
theorem aaH:bp Tryz.f47 3:=fun _ _ _=>bS rfl
theorem aaI:bp Tryz.f53 4:=fun _ _ _=>bS rfl
theorem aaJ:bp Tryz.f55 2:=fun _ _ _=>bS rfl
theorem aaK:bp Tryz.f56 2:=fun _ _ _=>bS rfl
theorem aaL:zF3 Tryz.f57 28 2:=fun _ _ _=>zyV rfl
theorem aaM:bp Tryz.f58 2:=fun _ _ _=>bS rfl
theorem aaN:bp Tryz.f59 6:=fun _ _ _=>bS rfl
theorem aaO:bp Tryz.f60 4:=fun _ _ _=>bS rfl
theorem aaP:bp Tryz.f61 4:=fun _ _ _=>bS rfl
theorem aaQ:jk Tryz.f62 4 5:=fun _ _ _=>qS rfl
theorem aaR:jk Tryz.f63 4 5:=fun _ _ _=>qS rfl
theorem aaS:nG Tryz.f64:=fun _ _ _=>tg rfl
theorem abj:n4 Tryz.f64:=fun _ _ _=>ta rfl
theorem aaT:bp Tryz.f65 2:=fun _ _ _=>bS rfl
theorem aaU:bp Tryz.f66 2:=fun _ _ _=>bS rfl
theorem aaV:nG Tryz.f67:=fun _ _ _=>tg rfl
theorem abk:n4 Tryz.f67:=fun _ _ _=>ta rfl
theorem aaW:bp Tryz.f68 6:=fun _ _ _=>bS rfl
theorem aaX:bp Tryz.f69 2:=fun _ _ _=>bS rfl
theorem aaY:jk Tryz.f70 4 5:=fun _ _ _=>qS rfl
theorem aaZ:bp Tryz.f72 2:=fun _ _ _=>bS rfl
theorem aa0:jk Tryz.f73 4 5:=fun _ _ _=>qS rfl
theorem aa1:bp Tryz.f74 6:=fun _ _ _=>bS rfl
theorem aa2:jk Tryz.f75 4 5:=fun _ _ _=>qS rfl
theorem aa3:bp Tryz.f76 4:=fun _ _ _=>bS rfl
theorem aa4:bp Tryz.f77 4:=fun _ _ _=>bS rfl
theorem aa5:bp Tryz.f86 2:=fun _ _ _=>bS rfl
theorem aa6:bp Tryz.f89 2:=fun _ _ _=>bS rfl
theorem aa7:bp Tryz.f91 2:=fun _ _ _=>bS rfl
theorem aa8:bp Tryz.f92 2:=fun _ _ _=>bS rfl
theorem aa9:bp Tryz.f93 2:=fun _ _ _=>bS rfl
theorem aba:bp Tryz.f94 2:=fun _ _ _=>bS rfl
theorem abb:bp Tryz.f95 2:=fun _ _ _=>bS rfl
theorem abc:bp Tryz.f96 0:=fun _ _ _=>bS rfl
theorem abd:bp Tryz.f97 2:=fun _ _ _=>bS rfl
theorem abe:bp Tryz.f98 2:=fun _ _ _=>bS rfl
theorem abf:bp Tryz.f99 2:=fun _ _ _=>bS rfl
theorem zLQ:bp Tryz.f100 2:=fun _ _ _=>bS rfl
theorem zLR:bp Tryz.f101 2:=fun _ _ _=>bS rfl
theorem zLS:bp Tryz.f102 6:=fun _ _ _=>bS rfl
theorem zLT:bp Tryz.f103 4:=fun _ _ _=>bS rfl
theorem zLU:bp Tryz.f104 4:=fun _ _ _=>bS rfl
theorem zLV:bp Tryz.f105 2:=fun _ _ _=>bS rfl
theorem zLW:bp Tryz.f106 4:=fun _ _ _=>bS rfl
theorem zLX:nG Tryz.f107:=fun _ _ _=>tg rfl
theorem zNg:n4 Tryz.f107:=fun _ _ _=>ta rfl
theorem zLY:bp Tryz.f108 4:=fun _ _ _=>bS rfl
theorem zLZ:bp Tryz.f109 4:=fun _ _ _=>bS rfl
theorem zL0:bp Tryz.f110 4:=fun _ _ _=>bS rfl
theorem zL1:bp Tryz.f111 2:=fun _ _ _=>bS rfl
theorem zL2:bp Tryz.f112 4:=fun _ _ _=>bS rfl
theorem zL3:bp Tryz.f113 2:=fun _ _ _=>bS rfl
theorem zL4:bp Tryz.f114 4:=fun _ _ _=>bS rfl
theorem zL5:bp Tryz.f115 2:=fun _ _ _=>bS rfl
theorem zL6:bp Tryz.f116 2:=fun _ _ _=>bS rfl
theorem zL7:jk Tryz.f117 6 7:=fun _ _ _=>qS rfl
theorem zL8:bp Tryz.f120 4:=fun _ _ _=>bS rfl
theorem zL9:bp Tryz.f121 2:=fun _ _ _=>bS rfl
theorem zMa:bp Tryz.f122 2:=fun _ _ _=>bS rfl
theorem zMb:bp Tryz.f123 4:=fun _ _ _=>bS rfl
theorem zMc:nG Tryz.f124:=fun _ _ _=>tg rfl
theorem zNh:n4 Tryz.f124:=fun _ _ _=>ta rfl
theorem zMd:bp Tryz.f140 2:=fun _ _ _=>bS rfl
theorem zMe:bp Tryz.f141 2:=fun _ _ _=>bS rfl
theorem zMf:bp Tryz.f142 2:=fun _ _ _=>bS rfl
theorem zMg:bp Tryz.f143 2:=fun _ _ _=>bS rfl
theorem zMh:bp Tryz.f144 4:=fun _ _ _=>bS rfl
theorem zMi:bp Tryz.f145 2:=fun _ _ _=>bS rfl
theorem zMj:bp Tryz.f146 6:=fun _ _ _=>bS rfl
theorem zMk:bp Tryz.f147 1:=fun _ _ _=>bS rfl
theorem zMl:bp Tryz.f148 2:=fun _ _ _=>bS rfl
theorem zMm:bp Tryz.f149 2:=fun _ _ _=>bS rfl
theorem zMn:bp Tryz.f150 2:=fun _ _ _=>bS rfl
theorem zMo:bp Tryz.f151 2:=fun _ _ _=>bS rfl
theorem zMp:jk Tryz.f152 4 5:=fun _ _ _=>qS rfl
theorem zMq:bp Tryz.f153 4:=fun _ _ _=>bS rfl
theorem zMr:bp Tryz.f154 2:=fun _ _ _=>bS rfl
theorem zMs:bp Tryz.f155 2:=fun _ _ _=>bS rfl
theorem zMt:nG Tryz.f156:=fun _ _ _=>tg rfl
theorem zNi:n4 Tryz.f156:=fun _ _ _=>ta rfl
theorem zMu:bp Tryz.f158 2:=fun _ _ _=>bS rfl
theorem zMv:bp Tryz.f159 2:=fun _ _ _=>bS rfl
theorem zMw:jk Tryz.f160 4 5:=fun _ _ _=>qS rfl
theorem zMx:bp Tryz.f161 1:=fun _ _ _=>bS rfl
theorem zMy:bp Tryz.f162 2:=fun _ _ _=>bS rfl
theorem zMz:bp Tryz.f163 4:=fun _ _ _=>bS rfl
theorem zMA:bp Tryz.f164 2:=fun _ _ _=>bS rfl
theorem zMB:bp Tryz.f165 2:=fun _ _ _=>bS rfl
theorem zMC:bp Tryz.f167 6:=fun _ _ _=>bS rfl
theorem zMD:nG Tryz.f168:=fun _ _ _=>tg rfl
theorem zNj:n4 Tryz.f168:=fun _ _ _=>ta rfl
theorem zME:bp Tryz.f180 6:=fun _ _ _=>bS rfl
theorem zMF:bp Tryz.f181 2:=fun _ _ _=>bS rfl
theorem zMG:bp Tryz.f182 2:=fun _ _ _=>bS rfl
theorem zMH:bp Tryz.f183 2:=fun _ _ _=>bS rfl
theorem zMI:bp Tryz.f184 2:=fun _ _ _=>bS rfl
theorem zMJ:bp Tryz.f185 2:=fun _ _ _=>bS rfl
theorem zMK:bp Tryz.f186 2:=fun _ _ _=>bS rfl
theorem zML:bp Tryz.f187 4:=fun _ _ _=>bS rfl
theorem zMM:bp Tryz.f188 3:=fun _ _ _=>bS rfl
theorem zMN:bp Tryz.f189 2:=fun _ _ _=>bS rfl
theorem zMO:bp Tryz.f190 2:=fun _ _ _=>bS rfl
theorem zMP:bp Tryz.f191 4:=fun _ _ _=>bS rfl
theorem zMQ:bp Tryz.f192 2:=fun _ _ _=>bS rfl
theorem zMR:nG Tryz.f193:=fun _ _ _=>tg rfl
theorem Jp:n4 Tryz.f193:=fun _ _ _=>ta rfl
theorem zMS:nG Tryz.f194:=fun _ _ _=>tg rfl
theorem zNk:n4 Tryz.f194:=fun _ _ _=>ta rfl
theorem zMT:bp Tryz.f197 2:=fun _ _ _=>bS rfl
theorem zMU:bp Tryz.f198 2:=fun _ _ _=>bS rfl
theorem zMV:bp Tryz.f199 4:=fun _ _ _=>bS rfl
theorem zMW:bp Tryz.f209 2:=fun _ _ _=>bS rfl
theorem zMX:bp Tryz.f210 0:=fun _ _ _=>bS rfl
theorem zMY:bp Tryz.f211 4:=fun _ _ _=>bS rfl
theorem zMZ:bp Tryz.f212 2:=fun _ _ _=>bS rfl
theorem zM0:bp Tryz.f213 2:=fun _ _ _=>bS rfl
theorem zM1:bp Tryz.f214 2:=fun _ _ _=>bS rfl
theorem zM2:nG Tryz.f215:=fun _ _ _=>tg rfl
theorem zNl:n4 Tryz.f215:=fun _ _ _=>ta rfl
theorem zM3:bp Tryz.f220 2:=fun _ _ _=>bS rfl
theorem zM4:bp Tryz.f221 2:=fun _ _ _=>bS rfl
theorem zM5:bp Tryz.f224 2:=fun _ _ _=>bS rfl
theorem zM6:bp Tryz.f225 0:=fun _ _ _=>bS rfl
theorem zM7:bp Tryz.f226 2:=fun _ _ _=>bS rfl
theorem zM8:nG Tryz.f227:=fun _ _ _=>tg rfl
theorem zNm:n4 Tryz.f227:=fun _ _ _=>ta rfl
theorem zM9:bp Tryz.f230 2:=fun _ _ _=>bS rfl
theorem zNa:bp Tryz.f231 2:=fun _ _ _=>bS rfl
theorem zNb:bp Tryz.f232 2:=fun _ _ _=>bS rfl
theorem zNc:bp Tryz.f257 6:=fun _ _ _=>bS rfl
theorem zNd:bp Tryz.f258 2:=fun _ _ _=>bS rfl
theorem zNe:nG Tryz.f259:=fun _ _ _=>tg rfl
theorem zNn:n4 Tryz.f259:=fun _ _ _=>ta rfl
theorem zNf:nG Tryz.f260:=fun _ _ _=>tg rfl
theorem zNo:n4 Tryz.f260:=fun _ _ _=>ta rfl
end Go.Proofs.YtkgojconmeeegaaGreatDoor
