/- What the plain machine's operations come to at this seat's types. Written by a program (mksim.py). No condition. -/
import Derived.Test.YtdplfgoifjjniaaGreatDoorG22
namespace Go.Proofs.YtdplfgoifjjniaaGreatDoor
open Go.Am
theorem ag1:aq ae 1=some false:=by kernel_rfl
theorem NY (cs:List Value) (o:Nat):aP ae 1 cs o=cs[o]? := bm ag1
theorem ag2:aq ae 2=some false:=by kernel_rfl
theorem NZ (cs:List Value) (o:Nat):aP ae 2 cs o=cs[o]? := bm ag2
theorem u9:bO ae 3=some 1:=by kernel_rfl
theorem HX:aq ae 3=some false:=by kernel_rfl
theorem kV (A o:Nat) (h:Heap):dz ae 3 (.pointer (some ⟨A,o,none⟩)) h=lH (h.get A) o:=oa HX
theorem N0 (cs:List Value) (o:Nat):aP ae 3 cs o=cs[o]? := bm HX
theorem sz4:bO ae 4=some 1:=by kernel_rfl
theorem ag4:aq ae 4=some false:=by kernel_rfl
theorem D0 (A o:Nat) (h:Heap):dz ae 4 (.pointer (some ⟨A,o,none⟩)) h=lH (h.get A) o:=oa ag4
theorem N1 (cs:List Value) (o:Nat):aP ae 4 cs o=cs[o]? := bm ag4
theorem ag5:aq ae 5=some false:=by kernel_rfl
theorem N7 (cs:List Value) (o:Nat):aP ae 5 cs o=cs[o]? := bm ag5
theorem ag6:aq ae 6=some false:=by kernel_rfl
theorem Oa (cs:List Value) (o:Nat):aP ae 6 cs o=cs[o]? := bm ag6
theorem sz7:bO ae 7=some 4:=by kernel_rfl
theorem ag7:aq ae 7=some true:=by kernel_rfl
theorem Ob (cs:List Value) (o:Nat):aP ae 7 cs o=(cut cs o 4).map fun l=>.agg l.toArray:=eJ ag7 sz7
theorem sz8:bO ae 8=some 4:=by kernel_rfl
theorem ag8:aq ae 8=some true:=by kernel_rfl
theorem Oc (cs:List Value) (o:Nat):aP ae 8 cs o=(cut cs o 4).map fun l=>.agg l.toArray:=eJ ag8 sz8
theorem mN:bO ae 9=some 1:=by kernel_rfl
theorem gU:aq ae 9=some false:=by kernel_rfl
theorem gf (A o:Nat) (h:Heap):dz ae 9 (.pointer (some ⟨A,o,none⟩)) h=lH (h.get A) o:=oa gU
theorem Od (cs:List Value) (o:Nat):aP ae 9 cs o=cs[o]? := bm gU
theorem ds9:ae.desc 9=some .string:=by kernel_rfl
theorem xQ (s:ByteArray) (h:Heap):bd ae 9 (.string s) h=some (.int .i64 s.size):=zwK ds9
theorem RO:aq ae 10=some false:=by kernel_rfl
theorem xV (cs:List Value) (o:Nat):aP ae 10 cs o=cs[o]? := bm RO
theorem RP:aq ae 11=some false:=by kernel_rfl
theorem xW (cs:List Value) (o:Nat):aP ae 11 cs o=cs[o]? := bm RP
theorem RQ:aq ae 12=some false:=by kernel_rfl
theorem xX (cs:List Value) (o:Nat):aP ae 12 cs o=cs[o]? := bm RQ
theorem XE:bO ae 13=some 2:=by kernel_rfl
theorem RR:aq ae 13=some true:=by kernel_rfl
theorem xY (cs:List Value) (o:Nat):aP ae 13 cs o=(cut cs o 2).map fun l=>.agg l.toArray:=eJ RR XE
theorem XF:bO ae 14=some 2:=by kernel_rfl
theorem RS:aq ae 14=some true:=by kernel_rfl
theorem xZ (cs:List Value) (o:Nat):aP ae 14 cs o=(cut cs o 2).map fun l=>.agg l.toArray:=eJ RS XF
theorem RT:aq ae 15=some false:=by kernel_rfl
theorem ya (cs:List Value) (o:Nat):aP ae 15 cs o=cs[o]? := bm RT
theorem RU:aq ae 16=some false:=by kernel_rfl
theorem yb (cs:List Value) (o:Nat):aP ae 16 cs o=cs[o]? := bm RU
theorem RV:aq ae 17=some false:=by kernel_rfl
theorem yc (cs:List Value) (o:Nat):aP ae 17 cs o=cs[o]? := bm RV
theorem XG:bO ae 18=some 1:=by kernel_rfl
theorem RW:aq ae 18=some true:=by kernel_rfl
theorem yd (cs:List Value) (o:Nat):aP ae 18 cs o=(cut cs o 1).map fun l=>.agg l.toArray:=eJ RW XG
theorem XH:bO ae 19=some 1:=by kernel_rfl
theorem RX:aq ae 19=some true:=by kernel_rfl
theorem ye (cs:List Value) (o:Nat):aP ae 19 cs o=(cut cs o 1).map fun l=>.agg l.toArray:=eJ RX XH
theorem RY:aq ae 20=some false:=by kernel_rfl
theorem yf (cs:List Value) (o:Nat):aP ae 20 cs o=cs[o]? := bm RY
theorem RZ:aq ae 21=some false:=by kernel_rfl
theorem yg (cs:List Value) (o:Nat):aP ae 21 cs o=cs[o]? := bm RZ
theorem R0:aq ae 22=some false:=by kernel_rfl
theorem yh (cs:List Value) (o:Nat):aP ae 22 cs o=cs[o]? := bm R0
theorem XI:bO ae 23=some 1:=by kernel_rfl
theorem B3:aq ae 23=some false:=by kernel_rfl
theorem kL (A o:Nat) (h:Heap):dz ae 23 (.pointer (some ⟨A,o,none⟩)) h=lH (h.get A) o:=oa B3
theorem yi (cs:List Value) (o:Nat):aP ae 23 cs o=cs[o]? := bm B3
theorem S6 (P:Program) (ov:Ov) (d:Option Tmp) (ty:TypeId) (pos:String) (af:Array Edge) (g:Option (Nat × Bool)) (e:Env) (h:Heap) (K:Value→Heap→Prop):bY P ae ov ⟨d,.alloc 23,ty,pos,af,g⟩ e h K=K (.pointer (some ⟨h.size,0,none⟩)) (h.push (.row [.slice none 0 0] 23 false)):=wk d ty pos af g e h K 23 zsk
theorem cM:ae.desc 23=some (.slice 9):=by kernel_rfl
theorem jg (a:Option Addr) (n c:Nat) (h:Heap):bd ae 23 (.slice a n c) h=some (.int .i64 n):=sU cM
theorem pQ (n:Nat) (parts:List (Nat × Value)) (h:Heap):lQ ae 23 n parts h=if n*1 > 16777216 || n > 16777216 then Option.none else (lI (fun i=>some (i*1,1)) (jo [.string ⟨#[]⟩] n) parts).map fun cs=>(.slice (some ⟨h.size,0,none⟩) n n,h.push (.row cs 9 false)):=vF cM Ev n parts h
theorem je (A o n c:Nat) (ik:IntKind) (i:Int):fM ae 23 (.slice (some ⟨A,o,none⟩) n c) (.int ik i)=if 0≤i∧i < n then some (.pointer (some ⟨A,o+i.toNat*1,none⟩)) else none:=sP cM (by kernel_rfl)
theorem HS:aq ae 24=some false:=by kernel_rfl
theorem rZ (A o:Nat) (h:Heap):dz ae 24 (.pointer (some ⟨A,o,none⟩)) h=lH (h.get A) o:=oa HS
theorem yj (cs:List Value) (o:Nat):aP ae 24 cs o=cs[o]? := bm HS
theorem iY:ae.desc 24=some (.slice 67):=by kernel_rfl
theorem uV (a:Option Addr) (n c:Nat) (h:Heap):bd ae 24 (.slice a n c) h=some (.int .i64 n):=sU iY
theorem Ib (n:Nat) (parts:List (Nat × Value)) (h:Heap):lQ ae 24 n parts h=if n*2 > 16777216 || n > 16777216 then Option.none else (lI (fun i=>some (i*2,2)) (jo [.string ⟨#[]⟩,.int .i64 0] n) parts).map fun cs=>(.slice (some ⟨h.size,0,none⟩) n n,h.push (.row cs 67 false)):=vF iY Y7 n parts h
theorem uS (A o n c:Nat) (ik:IntKind) (i:Int):fM ae 24 (.slice (some ⟨A,o,none⟩) n c) (.int ik i)=if 0≤i∧i < n then some (.pointer (some ⟨A,o+i.toNat*2,none⟩)) else none:=sP iY (by kernel_rfl)
theorem HT:aq ae 25=some false:=by kernel_rfl
theorem DZ (A o:Nat) (h:Heap):dz ae 25 (.pointer (some ⟨A,o,none⟩)) h=lH (h.get A) o:=oa HT
theorem yk (cs:List Value) (o:Nat):aP ae 25 cs o=cs[o]? := bm HT
theorem ky:ae.desc 25=some (.slice 69):=by kernel_rfl
theorem D7 (a:Option Addr) (n c:Nat) (h:Heap):bd ae 25 (.slice a n c) h=some (.int .i64 n):=sU ky
theorem Te (n:Nat) (parts:List (Nat × Value)) (h:Heap):lQ ae 25 n parts h=if n*2 > 16777216 || n > 16777216 then Option.none else (lI (fun i=>some (i*2,2)) (jo [.string ⟨#[]⟩,.slice none 0 0] n) parts).map fun cs=>(.slice (some ⟨h.size,0,none⟩) n n,h.push (.row cs 69 false)):=vF ky zkO n parts h
theorem DW (A o n c:Nat) (ik:IntKind) (i:Int):fM ae 25 (.slice (some ⟨A,o,none⟩) n c) (.int ik i)=if 0≤i∧i < n then some (.pointer (some ⟨A,o+i.toNat*2,none⟩)) else none:=sP ky (by kernel_rfl)
theorem HU:aq ae 26=some false:=by kernel_rfl
theorem xK (A o:Nat) (h:Heap):dz ae 26 (.pointer (some ⟨A,o,none⟩)) h=lH (h.get A) o:=oa HU
theorem yl (cs:List Value) (o:Nat):aP ae 26 cs o=cs[o]? := bm HU
theorem kA:ae.desc 26=some (.slice 71):=by kernel_rfl
theorem xN (a:Option Addr) (n c:Nat) (h:Heap):bd ae 26 (.slice a n c) h=some (.int .i64 n):=sU kA
theorem Tf (n:Nat) (parts:List (Nat × Value)) (h:Heap):lQ ae 26 n parts h=if n*12 > 16777216 || n > 16777216 then Option.none else (lI (fun i=>some (i*12,12)) (jo [.string ⟨#[]⟩,.string ⟨#[]⟩,.int .i64 0,.bool false,.string ⟨#[]⟩,.bool false,.string ⟨#[]⟩,.bool false,.string ⟨#[]⟩,.bool false,.string ⟨#[]⟩,.slice none 0 0] n) parts).map fun cs=>(.slice (some ⟨h.size,0,none⟩) n n,h.push (.row cs 71 false)):=vF kA zkP n parts h
theorem DX (A o n c:Nat) (ik:IntKind) (i:Int):fM ae 26 (.slice (some ⟨A,o,none⟩) n c) (.int ik i)=if 0≤i∧i < n then some (.pointer (some ⟨A,o+i.toNat*12,none⟩)) else none:=sP kA (by kernel_rfl)
theorem HV:aq ae 27=some false:=by kernel_rfl
theorem xL (A o:Nat) (h:Heap):dz ae 27 (.pointer (some ⟨A,o,none⟩)) h=lH (h.get A) o:=oa HV
theorem ym (cs:List Value) (o:Nat):aP ae 27 cs o=cs[o]? := bm HV
theorem k9:ae.desc 27=some (.slice 73):=by kernel_rfl
theorem xO (a:Option Addr) (n c:Nat) (h:Heap):bd ae 27 (.slice a n c) h=some (.int .i64 n):=sU k9
theorem Tg (n:Nat) (parts:List (Nat × Value)) (h:Heap):lQ ae 27 n parts h=if n*13 > 16777216 || n > 16777216 then Option.none else (lI (fun i=>some (i*13,13)) (jo [.string ⟨#[]⟩,.string ⟨#[]⟩,.string ⟨#[]⟩,.int .i64 0,.bool false,.string ⟨#[]⟩,.bool false,.string ⟨#[]⟩,.bool false,.string ⟨#[]⟩,.bool false,.string ⟨#[]⟩,.slice none 0 0] n) parts).map fun cs=>(.slice (some ⟨h.size,0,none⟩) n n,h.push (.row cs 73 false)):=vF k9 zkQ n parts h
theorem DY (A o n c:Nat) (ik:IntKind) (i:Int):fM ae 27 (.slice (some ⟨A,o,none⟩) n c) (.int ik i)=if 0≤i∧i < n then some (.pointer (some ⟨A,o+i.toNat*13,none⟩)) else none:=sP k9 (by kernel_rfl)
theorem XJ:bO ae 28=some 7:=by kernel_rfl
theorem R1:aq ae 28=some true:=by kernel_rfl
theorem yn (cs:List Value) (o:Nat):aP ae 28 cs o=(cut cs o 7).map fun l=>.agg l.toArray:=eJ R1 XJ
theorem KA:bO ae 29=some 7:=by kernel_rfl
theorem HW:aq ae 29=some true:=by kernel_rfl
theorem eO (A o:Nat) (h:Heap):dz ae 29 (.pointer (some ⟨A,o,none⟩)) h=kx (h.get A) o 7:=zM HW KA
theorem yo (cs:List Value) (o:Nat):aP ae 29 cs o=(cut cs o 7).map fun l=>.agg l.toArray:=eJ HW KA
theorem B7 (P:Program) (ov:Ov) (d:Option Tmp) (ty:TypeId) (pos:String) (af:Array Edge) (g:Option (Nat × Bool)) (e:Env) (h:Heap) (K:Value→Heap→Prop):bY P ae ov ⟨d,.alloc 29,ty,pos,af,g⟩ e h K=K (.pointer (some ⟨h.size,0,none⟩)) (h.push (.row [.slice none 0 0,.slice none 0 0,.slice none 0 0,.int .i64 0,.int .i64 0,.slice none 0 0,.slice none 0 0] 29 false)):=wk d ty pos af g e h K 29 zsl
theorem Bz (A o:Nat):cV ae 29 (.pointer (some ⟨A,o,none⟩)) 0=some (.pointer (some ⟨A,o+0,none⟩)):=Eq.refl _
theorem GJ (A o:Nat):cV ae 29 (.pointer (some ⟨A,o,none⟩)) 1=some (.pointer (some ⟨A,o+1,none⟩)):=Eq.refl _
theorem ztp (A o:Nat):cV ae 29 (.pointer (some ⟨A,o,none⟩)) 2=some (.pointer (some ⟨A,o+2,none⟩)):=Eq.refl _
theorem GK (A o:Nat):cV ae 29 (.pointer (some ⟨A,o,none⟩)) 3=some (.pointer (some ⟨A,o+3,none⟩)):=Eq.refl _
theorem zBc (A o:Nat):cV ae 29 (.pointer (some ⟨A,o,none⟩)) 4=some (.pointer (some ⟨A,o+4,none⟩)):=Eq.refl _
theorem Ps (A o:Nat):cV ae 29 (.pointer (some ⟨A,o,none⟩)) 5=some (.pointer (some ⟨A,o+5,none⟩)):=Eq.refl _
theorem Pt (A o:Nat):cV ae 29 (.pointer (some ⟨A,o,none⟩)) 6=some (.pointer (some ⟨A,o+6,none⟩)):=Eq.refl _
theorem R2:aq ae 30=some false:=by kernel_rfl
theorem yp (cs:List Value) (o:Nat):aP ae 30 cs o=cs[o]? := bm R2
theorem R3:aq ae 31=some false:=by kernel_rfl
theorem yq (cs:List Value) (o:Nat):aP ae 31 cs o=cs[o]? := bm R3
theorem R4:aq ae 32=some false:=by kernel_rfl
theorem yr (cs:List Value) (o:Nat):aP ae 32 cs o=cs[o]? := bm R4
theorem HY:aq ae 33=some false:=by kernel_rfl
theorem Xg (A o:Nat) (h:Heap):dz ae 33 (.pointer (some ⟨A,o,none⟩)) h=lH (h.get A) o:=oa HY
theorem yu (cs:List Value) (o:Nat):aP ae 33 cs o=cs[o]? := bm HY
theorem R5:aq ae 35=some false:=by kernel_rfl
theorem yv (cs:List Value) (o:Nat):aP ae 35 cs o=cs[o]? := bm R5
theorem R9:aq ae 37=some false:=by kernel_rfl
theorem yw (cs:List Value) (o:Nat):aP ae 37 cs o=cs[o]? := bm R9
theorem XK:bO ae 38=some 2:=by kernel_rfl
theorem Sa:aq ae 38=some true:=by kernel_rfl
theorem yx (cs:List Value) (o:Nat):aP ae 38 cs o=(cut cs o 2).map fun l=>.agg l.toArray:=eJ Sa XK
theorem iJ:bO ae 39=some 2:=by kernel_rfl
theorem oh:aq ae 39=some true:=by kernel_rfl
theorem oX (A o:Nat) (h:Heap):dz ae 39 (.pointer (some ⟨A,o,none⟩)) h=kx (h.get A) o 2:=zM oh iJ
theorem yy (cs:List Value) (o:Nat):aP ae 39 cs o=(cut cs o 2).map fun l=>.agg l.toArray:=eJ oh iJ
theorem B8 (P:Program) (ov:Ov) (d:Option Tmp) (ty:TypeId) (pos:String) (af:Array Edge) (g:Option (Nat × Bool)) (e:Env) (h:Heap) (K:Value→Heap→Prop):bY P ae ov ⟨d,.alloc 39,ty,pos,af,g⟩ e h K=K (.pointer (some ⟨h.size,0,none⟩)) (h.push (.row [.bool false,.string ⟨#[]⟩] 39 false)):=wk d ty pos af g e h K 39 zsm
theorem EJ (A o:Nat):cV ae 39 (.pointer (some ⟨A,o,none⟩)) 0=some (.pointer (some ⟨A,o+0,none⟩)):=Eq.refl _
theorem EK (A o:Nat):cV ae 39 (.pointer (some ⟨A,o,none⟩)) 1=some (.pointer (some ⟨A,o+1,none⟩)):=Eq.refl _
theorem XL:bO ae 40=some 8:=by kernel_rfl
theorem Sb:aq ae 40=some true:=by kernel_rfl
theorem yz (cs:List Value) (o:Nat):aP ae 40 cs o=(cut cs o 8).map fun l=>.agg l.toArray:=eJ Sb XL
theorem Cv:ae.desc 40=some (.array 4 39):=by kernel_rfl
theorem oT (A o:Nat) (ik:IntKind) (i:Int):fM ae 40 (.pointer (some ⟨A,o,none⟩)) (.int ik i)=if 0≤i∧i < 4 then some (.pointer (some ⟨A,o+i.toNat*2,none⟩)) else none:=zCA Cv (by kernel_rfl)
theorem XM:bO ae 41=some 11:=by kernel_rfl
theorem Sc:aq ae 41=some true:=by kernel_rfl
theorem yA (cs:List Value) (o:Nat):aP ae 41 cs o=(cut cs o 11).map fun l=>.agg l.toArray:=eJ Sc XM
theorem bS:bO ae 42=some 11:=by kernel_rfl
theorem fw:aq ae 42=some true:=by kernel_rfl
theorem b9 (A o:Nat) (h:Heap):dz ae 42 (.pointer (some ⟨A,o,none⟩)) h=kx (h.get A) o 11:=zM fw bS
theorem yB (cs:List Value) (o:Nat):aP ae 42 cs o=(cut cs o 11).map fun l=>.agg l.toArray:=eJ fw bS
theorem B9 (P:Program) (ov:Ov) (d:Option Tmp) (ty:TypeId) (pos:String) (af:Array Edge) (g:Option (Nat × Bool)) (e:Env) (h:Heap) (K:Value→Heap→Prop):bY P ae ov ⟨d,.alloc 42,ty,pos,af,g⟩ e h K=K (.pointer (some ⟨h.size,0,none⟩)) (h.push (.row [.string ⟨#[]⟩,.string ⟨#[]⟩,.int .i64 0,.bool false,.string ⟨#[]⟩,.bool false,.string ⟨#[]⟩,.bool false,.string ⟨#[]⟩,.bool false,.string ⟨#[]⟩] 42 false)):=wk d ty pos af g e h K 42 Gd
theorem ri (A o:Nat):cV ae 42 (.pointer (some ⟨A,o,none⟩)) 0=some (.pointer (some ⟨A,o+0,none⟩)):=Eq.refl _
theorem EL (A o:Nat):cV ae 42 (.pointer (some ⟨A,o,none⟩)) 1=some (.pointer (some ⟨A,o+1,none⟩)):=Eq.refl _
theorem BA (A o:Nat):cV ae 42 (.pointer (some ⟨A,o,none⟩)) 2=some (.pointer (some ⟨A,o+2,none⟩)):=Eq.refl _
theorem wq (A o:Nat):cV ae 42 (.pointer (some ⟨A,o,none⟩)) 3=some (.pointer (some ⟨A,o+3,none⟩)):=Eq.refl _
theorem Sd:aq ae 43=some false:=by kernel_rfl
theorem yC (cs:List Value) (o:Nat):aP ae 43 cs o=cs[o]? := bm Sd
theorem Se:aq ae 44=some false:=by kernel_rfl
theorem yD (cs:List Value) (o:Nat):aP ae 44 cs o=cs[o]? := bm Se
theorem Sf:aq ae 45=some false:=by kernel_rfl
theorem yE (cs:List Value) (o:Nat):aP ae 45 cs o=cs[o]? := bm Sf
theorem Sg:aq ae 46=some false:=by kernel_rfl
theorem yF (cs:List Value) (o:Nat):aP ae 46 cs o=cs[o]? := bm Sg
theorem Sh:aq ae 47=some false:=by kernel_rfl
theorem yG (cs:List Value) (o:Nat):aP ae 47 cs o=cs[o]? := bm Sh
theorem Si:aq ae 48=some false:=by kernel_rfl
theorem yH (cs:List Value) (o:Nat):aP ae 48 cs o=cs[o]? := bm Si
theorem jw:ae.desc 48=some (.slice 57):=by kernel_rfl
theorem xP (a:Option Addr) (n c:Nat) (h:Heap):bd ae 48 (.slice a n c) h=some (.int .i64 n):=sU jw
theorem xH (A o n c:Nat) (ik:IntKind) (i:Int):fM ae 48 (.slice (some ⟨A,o,none⟩) n c) (.int ik i)=if 0≤i∧i < n then some (.pointer (some ⟨A,o+i.toNat*13,none⟩)) else none:=sP jw (by kernel_rfl)
theorem Sj:aq ae 49=some false:=by kernel_rfl
theorem yI (cs:List Value) (o:Nat):aP ae 49 cs o=cs[o]? := bm Sj
theorem Sk:aq ae 50=some false:=by kernel_rfl
theorem yJ (cs:List Value) (o:Nat):aP ae 50 cs o=cs[o]? := bm Sk
theorem Sn:aq ae 51=some false:=by kernel_rfl
theorem yK (cs:List Value) (o:Nat):aP ae 51 cs o=cs[o]? := bm Sn
theorem rr:aq ae 52=some false:=by kernel_rfl
theorem oY (A o:Nat) (h:Heap):dz ae 52 (.pointer (some ⟨A,o,none⟩)) h=lH (h.get A) o:=oa rr
theorem yL (cs:List Value) (o:Nat):aP ae 52 cs o=cs[o]? := bm rr
theorem cf:ae.desc 52=some (.slice 42):=by kernel_rfl
theorem ia (a:Option Addr) (n c:Nat) (h:Heap):bd ae 52 (.slice a n c) h=some (.int .i64 n):=sU cf
theorem Cb (n:Nat) (parts:List (Nat × Value)) (h:Heap):lQ ae 52 n parts h=if n*11 > 16777216 || n > 16777216 then Option.none else (lI (fun i=>some (i*11,11)) (jo [.string ⟨#[]⟩,.string ⟨#[]⟩,.int .i64 0,.bool false,.string ⟨#[]⟩,.bool false,.string ⟨#[]⟩,.bool false,.string ⟨#[]⟩,.bool false,.string ⟨#[]⟩] n) parts).map fun cs=>(.slice (some ⟨h.size,0,none⟩) n n,h.push (.row cs 42 false)):=vF cf Gd n parts h
theorem jf (A o n c:Nat) (ik:IntKind) (i:Int):fM ae 52 (.slice (some ⟨A,o,none⟩) n c) (.int ik i)=if 0≤i∧i < n then some (.pointer (some ⟨A,o+i.toNat*11,none⟩)) else none:=sP cf (by kernel_rfl)
theorem Sp:aq ae 53=some false:=by kernel_rfl
theorem yM (cs:List Value) (o:Nat):aP ae 53 cs o=cs[o]? := bm Sp
theorem HZ:aq ae 54=some false:=by kernel_rfl
theorem Xh (A o:Nat) (h:Heap):dz ae 54 (.pointer (some ⟨A,o,none⟩)) h=lH (h.get A) o:=oa HZ
theorem yN (cs:List Value) (o:Nat):aP ae 54 cs o=cs[o]? := bm HZ
theorem Sq:aq ae 55=some false:=by kernel_rfl
theorem yO (cs:List Value) (o:Nat):aP ae 55 cs o=cs[o]? := bm Sq
theorem XN:bO ae 56=some 13:=by kernel_rfl
theorem Sr:aq ae 56=some true:=by kernel_rfl
theorem yP (cs:List Value) (o:Nat):aP ae 56 cs o=(cut cs o 13).map fun l=>.agg l.toArray:=eJ Sr XN
theorem kN:bO ae 57=some 13:=by kernel_rfl
theorem H2:aq ae 57=some true:=by kernel_rfl
theorem Xi (A o:Nat) (h:Heap):dz ae 57 (.pointer (some ⟨A,o,none⟩)) h=kx (h.get A) o 13:=zM H2 kN
theorem yQ (cs:List Value) (o:Nat):aP ae 57 cs o=(cut cs o 13).map fun l=>.agg l.toArray:=eJ H2 kN
theorem ztq (A o:Nat):cV ae 57 (.pointer (some ⟨A,o,none⟩)) 0=some (.pointer (some ⟨A,o+0,none⟩)):=Eq.refl _
theorem sk (A o:Nat):cV ae 57 (.pointer (some ⟨A,o,none⟩)) 1=some (.pointer (some ⟨A,o+1,none⟩)):=Eq.refl _
theorem GL (A o:Nat):cV ae 57 (.pointer (some ⟨A,o,none⟩)) 2=some (.pointer (some ⟨A,o+2,none⟩)):=Eq.refl _
theorem Ss:aq ae 58=some false:=by kernel_rfl
theorem yR (cs:List Value) (o:Nat):aP ae 58 cs o=cs[o]? := bm Ss
theorem St:aq ae 59=some false:=by kernel_rfl
theorem yS (cs:List Value) (o:Nat):aP ae 59 cs o=cs[o]? := bm St
theorem Su:aq ae 60=some false:=by kernel_rfl
theorem yT (cs:List Value) (o:Nat):aP ae 60 cs o=cs[o]? := bm Su
theorem Sv:aq ae 61=some false:=by kernel_rfl
theorem yU (cs:List Value) (o:Nat):aP ae 61 cs o=cs[o]? := bm Sv
theorem XO:bO ae 62=some 1:=by kernel_rfl
theorem B4:aq ae 62=some false:=by kernel_rfl
theorem Xj (A o:Nat) (h:Heap):dz ae 62 (.pointer (some ⟨A,o,none⟩)) h=lH (h.get A) o:=oa B4
theorem yV (cs:List Value) (o:Nat):aP ae 62 cs o=cs[o]? := bm B4
theorem H3:aq ae 63=some false:=by kernel_rfl
theorem xM (A o:Nat) (h:Heap):dz ae 63 (.pointer (some ⟨A,o,none⟩)) h=lH (h.get A) o:=oa H3
theorem yW (cs:List Value) (o:Nat):aP ae 63 cs o=cs[o]? := bm H3
theorem Sw:aq ae 64=some false:=by kernel_rfl
theorem yX (cs:List Value) (o:Nat):aP ae 64 cs o=cs[o]? := bm Sw
theorem Sx:aq ae 65=some false:=by kernel_rfl
theorem yY (cs:List Value) (o:Nat):aP ae 65 cs o=cs[o]? := bm Sx
theorem XP:bO ae 66=some 2:=by kernel_rfl
theorem Sy:aq ae 66=some true:=by kernel_rfl
theorem yZ (cs:List Value) (o:Nat):aP ae 66 cs o=(cut cs o 2).map fun l=>.agg l.toArray:=eJ Sy XP
theorem kb:bO ae 67=some 2:=by kernel_rfl
theorem tm:aq ae 67=some true:=by kernel_rfl
theorem D3 (A o:Nat) (h:Heap):dz ae 67 (.pointer (some ⟨A,o,none⟩)) h=kx (h.get A) o 2:=zM tm kb
theorem y4 (cs:List Value) (o:Nat):aP ae 67 cs o=(cut cs o 2).map fun l=>.agg l.toArray:=eJ tm kb
theorem Ca (P:Program) (ov:Ov) (d:Option Tmp) (ty:TypeId) (pos:String) (af:Array Edge) (g:Option (Nat × Bool)) (e:Env) (h:Heap) (K:Value→Heap→Prop):bY P ae ov ⟨d,.alloc 67,ty,pos,af,g⟩ e h K=K (.pointer (some ⟨h.size,0,none⟩)) (h.push (.row [.string ⟨#[]⟩,.int .i64 0] 67 false)):=wk d ty pos af g e h K 67 Y7
theorem EM (A o:Nat):cV ae 67 (.pointer (some ⟨A,o,none⟩)) 0=some (.pointer (some ⟨A,o+0,none⟩)):=Eq.refl _
theorem MQ (A o:Nat):cV ae 67 (.pointer (some ⟨A,o,none⟩)) 1=some (.pointer (some ⟨A,o+1,none⟩)):=Eq.refl _
theorem XQ:bO ae 68=some 2:=by kernel_rfl
theorem Sz:aq ae 68=some true:=by kernel_rfl
theorem y5 (cs:List Value) (o:Nat):aP ae 68 cs o=(cut cs o 2).map fun l=>.agg l.toArray:=eJ Sz XQ
theorem lC:bO ae 69=some 2:=by kernel_rfl
theorem wG:aq ae 69=some true:=by kernel_rfl
theorem D4 (A o:Nat) (h:Heap):dz ae 69 (.pointer (some ⟨A,o,none⟩)) h=kx (h.get A) o 2:=zM wG lC
theorem y6 (cs:List Value) (o:Nat):aP ae 69 cs o=(cut cs o 2).map fun l=>.agg l.toArray:=eJ wG lC
theorem S7 (P:Program) (ov:Ov) (d:Option Tmp) (ty:TypeId) (pos:String) (af:Array Edge) (g:Option (Nat × Bool)) (e:Env) (h:Heap) (K:Value→Heap→Prop):bY P ae ov ⟨d,.alloc 69,ty,pos,af,g⟩ e h K=K (.pointer (some ⟨h.size,0,none⟩)) (h.push (.row [.string ⟨#[]⟩,.slice none 0 0] 69 false)):=wk d ty pos af g e h K 69 zkO
theorem BB (A o:Nat):cV ae 69 (.pointer (some ⟨A,o,none⟩)) 0=some (.pointer (some ⟨A,o+0,none⟩)):=Eq.refl _
theorem Pu (A o:Nat):cV ae 69 (.pointer (some ⟨A,o,none⟩)) 1=some (.pointer (some ⟨A,o+1,none⟩)):=Eq.refl _
theorem XR:bO ae 70=some 12:=by kernel_rfl
theorem SA:aq ae 70=some true:=by kernel_rfl
theorem y7 (cs:List Value) (o:Nat):aP ae 70 cs o=(cut cs o 12).map fun l=>.agg l.toArray:=eJ SA XR
theorem nL:bO ae 71=some 12:=by kernel_rfl
theorem B5:aq ae 71=some true:=by kernel_rfl
theorem Kj (A o:Nat) (h:Heap):dz ae 71 (.pointer (some ⟨A,o,none⟩)) h=kx (h.get A) o 12:=zM B5 nL
theorem y8 (cs:List Value) (o:Nat):aP ae 71 cs o=(cut cs o 12).map fun l=>.agg l.toArray:=eJ B5 nL
theorem S8 (P:Program) (ov:Ov) (d:Option Tmp) (ty:TypeId) (pos:String) (af:Array Edge) (g:Option (Nat × Bool)) (e:Env) (h:Heap) (K:Value→Heap→Prop):bY P ae ov ⟨d,.alloc 71,ty,pos,af,g⟩ e h K=K (.pointer (some ⟨h.size,0,none⟩)) (h.push (.row [.string ⟨#[]⟩,.string ⟨#[]⟩,.int .i64 0,.bool false,.string ⟨#[]⟩,.bool false,.string ⟨#[]⟩,.bool false,.string ⟨#[]⟩,.bool false,.string ⟨#[]⟩,.slice none 0 0] 71 false)):=wk d ty pos af g e h K 71 zkP
theorem EN (A o:Nat):cV ae 71 (.pointer (some ⟨A,o,none⟩)) 0=some (.pointer (some ⟨A,o+0,none⟩)):=Eq.refl _
theorem EO (A o:Nat):cV ae 71 (.pointer (some ⟨A,o,none⟩)) 1=some (.pointer (some ⟨A,o+11,none⟩)):=Eq.refl _
theorem XS:bO ae 72=some 13:=by kernel_rfl
theorem SB:aq ae 72=some true:=by kernel_rfl
theorem y9 (cs:List Value) (o:Nat):aP ae 72 cs o=(cut cs o 13).map fun l=>.agg l.toArray:=eJ SB XS
theorem ml:bO ae 73=some 13:=by kernel_rfl
theorem wH:aq ae 73=some true:=by kernel_rfl
theorem Kk (A o:Nat) (h:Heap):dz ae 73 (.pointer (some ⟨A,o,none⟩)) h=kx (h.get A) o 13:=zM wH ml
theorem za (cs:List Value) (o:Nat):aP ae 73 cs o=(cut cs o 13).map fun l=>.agg l.toArray:=eJ wH ml
theorem H7 (P:Program) (ov:Ov) (d:Option Tmp) (ty:TypeId) (pos:String) (af:Array Edge) (g:Option (Nat × Bool)) (e:Env) (h:Heap) (K:Value→Heap→Prop):bY P ae ov ⟨d,.alloc 73,ty,pos,af,g⟩ e h K=K (.pointer (some ⟨h.size,0,none⟩)) (h.push (.row [.string ⟨#[]⟩,.string ⟨#[]⟩,.string ⟨#[]⟩,.int .i64 0,.bool false,.string ⟨#[]⟩,.bool false,.string ⟨#[]⟩,.bool false,.string ⟨#[]⟩,.bool false,.string ⟨#[]⟩,.slice none 0 0] 73 false)):=wk d ty pos af g e h K 73 zkQ
theorem Pv (A o:Nat):cV ae 73 (.pointer (some ⟨A,o,none⟩)) 0=some (.pointer (some ⟨A,o+0,none⟩)):=Eq.refl _
theorem MR (A o:Nat):cV ae 73 (.pointer (some ⟨A,o,none⟩)) 1=some (.pointer (some ⟨A,o+1,none⟩)):=Eq.refl _
theorem PA (A o:Nat):cV ae 73 (.pointer (some ⟨A,o,none⟩)) 2=some (.pointer (some ⟨A,o+12,none⟩)):=Eq.refl _
theorem SC:aq ae 74=some false:=by kernel_rfl
theorem zb (cs:List Value) (o:Nat):aP ae 74 cs o=cs[o]? := bm SC
theorem SD:aq ae 75=some false:=by kernel_rfl
theorem zc (cs:List Value) (o:Nat):aP ae 75 cs o=cs[o]? := bm SD
theorem H4:aq ae 76=some false:=by kernel_rfl
theorem D5 (A o:Nat) (h:Heap):dz ae 76 (.pointer (some ⟨A,o,none⟩)) h=lH (h.get A) o:=oa H4
theorem zd (cs:List Value) (o:Nat):aP ae 76 cs o=cs[o]? := bm H4
theorem XT:bO ae 77=some 1:=by kernel_rfl
theorem SE:aq ae 77=some true:=by kernel_rfl
theorem ze (cs:List Value) (o:Nat):aP ae 77 cs o=(cut cs o 1).map fun l=>.agg l.toArray:=eJ SE XT
theorem KB:bO ae 78=some 1:=by kernel_rfl
theorem H5:aq ae 78=some true:=by kernel_rfl
theorem Kl (A o:Nat) (h:Heap):dz ae 78 (.pointer (some ⟨A,o,none⟩)) h=kx (h.get A) o 1:=zM H5 KB
theorem zf (cs:List Value) (o:Nat):aP ae 78 cs o=(cut cs o 1).map fun l=>.agg l.toArray:=eJ H5 KB
theorem ztr (A o:Nat):cV ae 78 (.pointer (some ⟨A,o,none⟩)) 0=some (.pointer (some ⟨A,o+0,none⟩)):=Eq.refl _
theorem H6:aq ae 79=some false:=by kernel_rfl
theorem uU (A o:Nat) (h:Heap):dz ae 79 (.pointer (some ⟨A,o,none⟩)) h=lH (h.get A) o:=oa H6
theorem zg (cs:List Value) (o:Nat):aP ae 79 cs o=cs[o]? := bm H6
theorem XU:bO ae 80=some 9:=by kernel_rfl
theorem SF:aq ae 80=some true:=by kernel_rfl
theorem zh (cs:List Value) (o:Nat):aP ae 80 cs o=(cut cs o 9).map fun l=>.agg l.toArray:=eJ SF XU
theorem XV:bO ae 81=some 9:=by kernel_rfl
theorem SG:aq ae 81=some true:=by kernel_rfl
theorem zi (cs:List Value) (o:Nat):aP ae 81 cs o=(cut cs o 9).map fun l=>.agg l.toArray:=eJ SG XV
theorem zts (A o:Nat):cV ae 81 (.pointer (some ⟨A,o,none⟩)) 0=some (.pointer (some ⟨A,o+0,none⟩)):=Eq.refl _
theorem zBd (A o:Nat):cV ae 81 (.pointer (some ⟨A,o,none⟩)) 1=some (.pointer (some ⟨A,o+1,none⟩)):=Eq.refl _
theorem MS (A o:Nat):cV ae 81 (.pointer (some ⟨A,o,none⟩)) 2=some (.pointer (some ⟨A,o+8,none⟩)):=Eq.refl _
theorem SH:aq ae 82=some false:=by kernel_rfl
theorem zj (cs:List Value) (o:Nat):aP ae 82 cs o=cs[o]? := bm SH
theorem SI:aq ae 83=some false:=by kernel_rfl
theorem zk (cs:List Value) (o:Nat):aP ae 83 cs o=cs[o]? := bm SI
theorem SJ:aq ae 84=some false:=by kernel_rfl
theorem zl (cs:List Value) (o:Nat):aP ae 84 cs o=cs[o]? := bm SJ
theorem SK:aq ae 85=some false:=by kernel_rfl
theorem zm (cs:List Value) (o:Nat):aP ae 85 cs o=cs[o]? := bm SK
theorem XW:bO ae 86=some 2:=by kernel_rfl
theorem SL:aq ae 86=some true:=by kernel_rfl
theorem zn (cs:List Value) (o:Nat):aP ae 86 cs o=(cut cs o 2).map fun l=>.agg l.toArray:=eJ SL XW
theorem XX:bO ae 87=some 2:=by kernel_rfl
theorem SM:aq ae 87=some true:=by kernel_rfl
theorem zo (cs:List Value) (o:Nat):aP ae 87 cs o=(cut cs o 2).map fun l=>.agg l.toArray:=eJ SM XX
theorem S9 (P:Program) (ov:Ov) (d:Option Tmp) (ty:TypeId) (pos:String) (af:Array Edge) (g:Option (Nat × Bool)) (e:Env) (h:Heap) (K:Value→Heap→Prop):bY P ae ov ⟨d,.alloc 87,ty,pos,af,g⟩ e h K=K (.pointer (some ⟨h.size,0,none⟩)) (h.push (.row [.slice none 0 0,.int .u64 0] 87 false)):=wk d ty pos af g e h K 87 zso
theorem zDZ (A o:Nat):cV ae 87 (.pointer (some ⟨A,o,none⟩)) 0=some (.pointer (some ⟨A,o+0,none⟩)):=Eq.refl _
theorem ztt (cs:Array Value):BC ae 87 (.agg cs) 0=aP ae 52 cs.toList 0:=Eq.refl _
theorem zD0 (A o:Nat):cV ae 87 (.pointer (some ⟨A,o,none⟩)) 1=some (.pointer (some ⟨A,o+1,none⟩)):=Eq.refl _
theorem zD1 (cs:Array Value):BC ae 87 (.agg cs) 1=aP ae 54 cs.toList 1:=Eq.refl _
theorem SN:aq ae 88=some false:=by kernel_rfl
theorem zp (cs:List Value) (o:Nat):aP ae 88 cs o=cs[o]? := bm SN
theorem SO:aq ae 89=some false:=by kernel_rfl
theorem zq (cs:List Value) (o:Nat):aP ae 89 cs o=cs[o]? := bm SO
theorem SP:aq ae 90=some false:=by kernel_rfl
theorem zr (cs:List Value) (o:Nat):aP ae 90 cs o=cs[o]? := bm SP
theorem SQ:aq ae 91=some false:=by kernel_rfl
theorem zs (cs:List Value) (o:Nat):aP ae 91 cs o=cs[o]? := bm SQ
theorem SR:aq ae 92=some false:=by kernel_rfl
theorem zt (cs:List Value) (o:Nat):aP ae 92 cs o=cs[o]? := bm SR
theorem SS:aq ae 93=some false:=by kernel_rfl
theorem zu (cs:List Value) (o:Nat):aP ae 93 cs o=cs[o]? := bm SS
theorem SU:aq ae 94=some false:=by kernel_rfl
theorem zw (cs:List Value) (o:Nat):aP ae 94 cs o=cs[o]? := bm SU
theorem SV:aq ae 95=some false:=by kernel_rfl
theorem zx (cs:List Value) (o:Nat):aP ae 95 cs o=cs[o]? := bm SV
theorem SW:aq ae 96=some false:=by kernel_rfl
theorem zy (cs:List Value) (o:Nat):aP ae 96 cs o=cs[o]? := bm SW
theorem SX:aq ae 97=some false:=by kernel_rfl
theorem zA (cs:List Value) (o:Nat):aP ae 97 cs o=cs[o]? := bm SX
theorem SY:aq ae 98=some false:=by kernel_rfl
theorem zB (cs:List Value) (o:Nat):aP ae 98 cs o=cs[o]? := bm SY
theorem wU:ae.desc 98=some (.slice 62):=by kernel_rfl
theorem Xk (a:Option Addr) (n c:Nat) (h:Heap):bd ae 98 (.slice a n c) h=some (.int .i64 n):=sU wU
theorem Th (n:Nat) (parts:List (Nat × Value)) (h:Heap):lQ ae 98 n parts h=if n*1 > 16777216 || n > 16777216 then Option.none else (lI (fun i=>some (i*1,1)) (jo [.nilFunc] n) parts).map fun cs=>(.slice (some ⟨h.size,0,none⟩) n n,h.push (.row cs 62 false)):=vF wU zsn n parts h
theorem Xd (A o n c:Nat) (ik:IntKind) (i:Int):fM ae 98 (.slice (some ⟨A,o,none⟩) n c) (.int ik i)=if 0≤i∧i < n then some (.pointer (some ⟨A,o+i.toNat*1,none⟩)) else none:=sP wU (by kernel_rfl)
theorem SZ:aq ae 99=some false:=by kernel_rfl
theorem zC (cs:List Value) (o:Nat):aP ae 99 cs o=cs[o]? := bm SZ
theorem zEK:aq ae 100=some false:=by kernel_rfl
theorem Qn (cs:List Value) (o:Nat):aP ae 100 cs o=cs[o]? := bm zEK
theorem zEL:aq ae 101=some false:=by kernel_rfl
theorem Qo (cs:List Value) (o:Nat):aP ae 101 cs o=cs[o]? := bm zEL
theorem zEM:aq ae 102=some false:=by kernel_rfl
theorem Qp (cs:List Value) (o:Nat):aP ae 102 cs o=cs[o]? := bm zEM
theorem zEN:aq ae 105=some false:=by kernel_rfl
theorem Qq (cs:List Value) (o:Nat):aP ae 105 cs o=cs[o]? := bm zEN
theorem zEO:aq ae 106=some false:=by kernel_rfl
theorem Qr (cs:List Value) (o:Nat):aP ae 106 cs o=cs[o]? := bm zEO
theorem zEP:aq ae 108=some false:=by kernel_rfl
theorem Qs (cs:List Value) (o:Nat):aP ae 108 cs o=cs[o]? := bm zEP
theorem zEQ:aq ae 109=some false:=by kernel_rfl
theorem Qt (cs:List Value) (o:Nat):aP ae 109 cs o=cs[o]? := bm zEQ
theorem zDB:aq ae 110=some false:=by kernel_rfl
theorem Ye (A o:Nat) (h:Heap):dz ae 110 (.pointer (some ⟨A,o,none⟩)) h=lH (h.get A) o:=oa zDB
theorem Qu (cs:List Value) (o:Nat):aP ae 110 cs o=cs[o]? := bm zDB
theorem Yi:ae.desc 110=some (.slice 3):=by kernel_rfl
theorem zD9 (a:Option Addr) (n c:Nat) (h:Heap):bd ae 110 (.slice a n c) h=some (.int .i64 n):=sU Yi
theorem zGC (n:Nat) (parts:List (Nat × Value)) (h:Heap):lQ ae 110 n parts h=if n*1 > 16777216 || n > 16777216 then Option.none else (lI (fun i=>some (i*1,1)) (jo [.int .i64 0] n) parts).map fun cs=>(.slice (some ⟨h.size,0,none⟩) n n,h.push (.row cs 3 false)):=vF Yi zn4 n parts h
theorem Yc (A o n c:Nat) (ik:IntKind) (i:Int):fM ae 110 (.slice (some ⟨A,o,none⟩) n c) (.int ik i)=if 0≤i∧i < n then some (.pointer (some ⟨A,o+i.toNat*1,none⟩)) else none:=sP Yi (by kernel_rfl)
theorem zIh:bO ae 111=some 1:=by kernel_rfl
theorem zER:aq ae 111=some true:=by kernel_rfl
theorem Qv (cs:List Value) (o:Nat):aP ae 111 cs o=(cut cs o 1).map fun l=>.agg l.toArray:=eJ zER zIh
theorem zIi:bO ae 112=some 1:=by kernel_rfl
theorem zES:aq ae 112=some true:=by kernel_rfl
theorem Qw (cs:List Value) (o:Nat):aP ae 112 cs o=(cut cs o 1).map fun l=>.agg l.toArray:=eJ zES zIi
theorem Z3 (A o:Nat):cV ae 112 (.pointer (some ⟨A,o,none⟩)) 0=some (.pointer (some ⟨A,o+0,none⟩)):=Eq.refl _
theorem zDC:aq ae 113=some false:=by kernel_rfl
theorem Yf (A o:Nat) (h:Heap):dz ae 113 (.pointer (some ⟨A,o,none⟩)) h=lH (h.get A) o:=oa zDC
theorem Qx (cs:List Value) (o:Nat):aP ae 113 cs o=cs[o]? := bm zDC
theorem Yj:ae.desc 113=some (.slice 136):=by kernel_rfl
theorem zEa (a:Option Addr) (n c:Nat) (h:Heap):bd ae 113 (.slice a n c) h=some (.int .i64 n):=sU Yj
theorem zGD (n:Nat) (parts:List (Nat × Value)) (h:Heap):lQ ae 113 n parts h=if n*2 > 16777216 || n > 16777216 then Option.none else (lI (fun i=>some (i*2,2)) (jo [.string ⟨#[]⟩,.int .i64 0] n) parts).map fun cs=>(.slice (some ⟨h.size,0,none⟩) n n,h.push (.row cs 136 false)):=vF Yj zjK n parts h
theorem Yd (A o n c:Nat) (ik:IntKind) (i:Int):fM ae 113 (.slice (some ⟨A,o,none⟩) n c) (.int ik i)=if 0≤i∧i < n then some (.pointer (some ⟨A,o+i.toNat*2,none⟩)) else none:=sP Yj (by kernel_rfl)
theorem zIj:bO ae 114=some 3:=by kernel_rfl
theorem zET:aq ae 114=some true:=by kernel_rfl
theorem Qy (cs:List Value) (o:Nat):aP ae 114 cs o=(cut cs o 3).map fun l=>.agg l.toArray:=eJ zET zIj
theorem zIk:bO ae 115=some 3:=by kernel_rfl
theorem zEU:aq ae 115=some true:=by kernel_rfl
theorem Qz (cs:List Value) (o:Nat):aP ae 115 cs o=(cut cs o 3).map fun l=>.agg l.toArray:=eJ zEU zIk
theorem zto (A o:Nat):cV ae 115 (.pointer (some ⟨A,o,none⟩)) 0=some (.pointer (some ⟨A,o+0,none⟩)):=Eq.refl _
theorem Z4 (A o:Nat):cV ae 115 (.pointer (some ⟨A,o,none⟩)) 1=some (.pointer (some ⟨A,o+1,none⟩)):=Eq.refl _
theorem Pm (A o:Nat):cV ae 115 (.pointer (some ⟨A,o,none⟩)) 2=some (.pointer (some ⟨A,o+2,none⟩)):=Eq.refl _
theorem zEV:aq ae 116=some false:=by kernel_rfl
theorem QA (cs:List Value) (o:Nat):aP ae 116 cs o=cs[o]? := bm zEV
theorem zEW:aq ae 117=some false:=by kernel_rfl
theorem QB (cs:List Value) (o:Nat):aP ae 117 cs o=cs[o]? := bm zEW
theorem zEX:aq ae 118=some false:=by kernel_rfl
theorem QC (cs:List Value) (o:Nat):aP ae 118 cs o=cs[o]? := bm zEX
theorem zEY:aq ae 119=some false:=by kernel_rfl
theorem QD (cs:List Value) (o:Nat):aP ae 119 cs o=cs[o]? := bm zEY
theorem zEZ:aq ae 120=some false:=by kernel_rfl
theorem QE (cs:List Value) (o:Nat):aP ae 120 cs o=cs[o]? := bm zEZ
theorem zE0:aq ae 121=some false:=by kernel_rfl
theorem QF (cs:List Value) (o:Nat):aP ae 121 cs o=cs[o]? := bm zE0
theorem zE1:aq ae 122=some false:=by kernel_rfl
theorem PW (cs:List Value) (o:Nat):aP ae 122 cs o=cs[o]? := bm zE1
theorem zE2:aq ae 123=some false:=by kernel_rfl
theorem PX (cs:List Value) (o:Nat):aP ae 123 cs o=cs[o]? := bm zE2
theorem zE3:aq ae 124=some false:=by kernel_rfl
theorem PY (cs:List Value) (o:Nat):aP ae 124 cs o=cs[o]? := bm zE3
theorem zE4:aq ae 125=some false:=by kernel_rfl
theorem PZ (cs:List Value) (o:Nat):aP ae 125 cs o=cs[o]? := bm zE4
theorem zIl:bO ae 126=some 0:=by kernel_rfl
theorem zE5:aq ae 126=some true:=by kernel_rfl
theorem P1 (cs:List Value) (o:Nat):aP ae 126 cs o=(cut cs o 0).map fun l=>.agg l.toArray:=eJ zE5 zIl
theorem Yb (P:Program) (ov:Ov) (d:Option Tmp) (ty:TypeId) (pos:String) (af:Array Edge) (g:Option (Nat × Bool)) (e:Env) (h:Heap) (K:Value→Heap→Prop):bY P ae ov ⟨d,.alloc 126,ty,pos,af,g⟩ e h K=K (.pointer (some ⟨h.size,0,none⟩)) (h.push (.row [] 126 false)):=wk d ty pos af g e h K 126 zpE
theorem zE6:aq ae 128=some false:=by kernel_rfl
theorem P2 (cs:List Value) (o:Nat):aP ae 128 cs o=cs[o]? := bm zE6
theorem zE7:aq ae 129=some false:=by kernel_rfl
theorem P3 (cs:List Value) (o:Nat):aP ae 129 cs o=cs[o]? := bm zE7
theorem zIm:bO ae 130=some 1:=by kernel_rfl
theorem Ya:aq ae 130=some false:=by kernel_rfl
theorem zH1 (A o:Nat) (h:Heap):dz ae 130 (.pointer (some ⟨A,o,none⟩)) h=lH (h.get A) o:=oa Ya
theorem P4 (cs:List Value) (o:Nat):aP ae 130 cs o=cs[o]? := bm Ya
theorem zE8:aq ae 131=some false:=by kernel_rfl
theorem P5 (cs:List Value) (o:Nat):aP ae 131 cs o=cs[o]? := bm zE8
theorem zE9:aq ae 132=some false:=by kernel_rfl
theorem P6 (cs:List Value) (o:Nat):aP ae 132 cs o=cs[o]? := bm zE9
theorem zFa:aq ae 133=some false:=by kernel_rfl
theorem P7 (cs:List Value) (o:Nat):aP ae 133 cs o=cs[o]? := bm zFa
theorem zFb:aq ae 134=some false:=by kernel_rfl
theorem P8 (cs:List Value) (o:Nat):aP ae 134 cs o=cs[o]? := bm zFb
theorem zIn:bO ae 135=some 2:=by kernel_rfl
theorem zFc:aq ae 135=some true:=by kernel_rfl
theorem P9 (cs:List Value) (o:Nat):aP ae 135 cs o=(cut cs o 2).map fun l=>.agg l.toArray:=eJ zFc zIn
theorem zIo:bO ae 136=some 2:=by kernel_rfl
theorem zFd:aq ae 136=some true:=by kernel_rfl
theorem Qa (cs:List Value) (o:Nat):aP ae 136 cs o=(cut cs o 2).map fun l=>.agg l.toArray:=eJ zFd zIo
theorem zCv (A o:Nat):cV ae 136 (.pointer (some ⟨A,o,none⟩)) 0=some (.pointer (some ⟨A,o+0,none⟩)):=Eq.refl _
theorem Z5 (A o:Nat):cV ae 136 (.pointer (some ⟨A,o,none⟩)) 1=some (.pointer (some ⟨A,o+1,none⟩)):=Eq.refl _
theorem zFe:aq ae 137=some false:=by kernel_rfl
theorem Qb (cs:List Value) (o:Nat):aP ae 137 cs o=cs[o]? := bm zFe
theorem zFf:aq ae 138=some false:=by kernel_rfl
theorem Qc (cs:List Value) (o:Nat):aP ae 138 cs o=cs[o]? := bm zFf
theorem zFg:aq ae 139=some false:=by kernel_rfl
theorem Qd (cs:List Value) (o:Nat):aP ae 139 cs o=cs[o]? := bm zFg
theorem zFh:aq ae 140=some false:=by kernel_rfl
theorem Qe (cs:List Value) (o:Nat):aP ae 140 cs o=cs[o]? := bm zFh
theorem zFi:aq ae 141=some false:=by kernel_rfl
theorem Qf (cs:List Value) (o:Nat):aP ae 141 cs o=cs[o]? := bm zFi
theorem zFj:aq ae 142=some false:=by kernel_rfl
theorem Qg (cs:List Value) (o:Nat):aP ae 142 cs o=cs[o]? := bm zFj
theorem zFk:aq ae 143=some false:=by kernel_rfl
theorem Qh (cs:List Value) (o:Nat):aP ae 143 cs o=cs[o]? := bm zFk
theorem M8:ae.desc 143=some (.slice 130):=by kernel_rfl
theorem zH2 (a:Option Addr) (n c:Nat) (h:Heap):bd ae 143 (.slice a n c) h=some (.int .i64 n):=sU M8
theorem BN (n:Nat) (parts:List (Nat × Value)) (h:Heap):lQ ae 143 n parts h=if n*1 > 16777216 || n > 16777216 then Option.none else (lI (fun i=>some (i*1,1)) (jo [.nilFunc] n) parts).map fun cs=>(.slice (some ⟨h.size,0,none⟩) n n,h.push (.row cs 130 false)):=vF M8 zpF n parts h
theorem zHZ (A o n c:Nat) (ik:IntKind) (i:Int):fM ae 143 (.slice (some ⟨A,o,none⟩) n c) (.int ik i)=if 0≤i∧i < n then some (.pointer (some ⟨A,o+i.toNat*1,none⟩)) else none:=sP M8 (by kernel_rfl)
theorem zFl:aq ae 144=some false:=by kernel_rfl
theorem Qi (cs:List Value) (o:Nat):aP ae 144 cs o=cs[o]? := bm zFl
theorem zFm:aq ae 145=some false:=by kernel_rfl
theorem Qj (cs:List Value) (o:Nat):aP ae 145 cs o=cs[o]? := bm zFm
theorem zFn:aq ae 146=some false:=by kernel_rfl
theorem Qk (cs:List Value) (o:Nat):aP ae 146 cs o=cs[o]? := bm zFn
theorem zFo:aq ae 147=some false:=by kernel_rfl
theorem Ql (cs:List Value) (o:Nat):aP ae 147 cs o=cs[o]? := bm zFo
theorem zFp:aq ae 148=some false:=by kernel_rfl
theorem Qm (cs:List Value) (o:Nat):aP ae 148 cs o=cs[o]? := bm zFp
theorem vB:ae.desc 148=some (.slice 39):=by kernel_rfl
theorem PF (a:Option Addr) (n c:Nat) (h:Heap):bd ae 148 (.slice a n c) h=some (.int .i64 n):=sU vB
theorem PE (A o n c:Nat) (ik:IntKind) (i:Int):fM ae 148 (.slice (some ⟨A,o,none⟩) n c) (.int ik i)=if 0≤i∧i < n then some (.pointer (some ⟨A,o+i.toNat*2,none⟩)) else none:=sP vB (by kernel_rfl)
theorem zFq:aq ae 149=some false:=by kernel_rfl
theorem PL (cs:List Value) (o:Nat):aP ae 149 cs o=cs[o]? := bm zFq
theorem zFr:aq ae 150=some false:=by kernel_rfl
theorem PM (cs:List Value) (o:Nat):aP ae 150 cs o=cs[o]? := bm zFr
theorem zFs:aq ae 151=some false:=by kernel_rfl
theorem PN (cs:List Value) (o:Nat):aP ae 151 cs o=cs[o]? := bm zFs
theorem zFt:aq ae 152=some false:=by kernel_rfl
theorem PO (cs:List Value) (o:Nat):aP ae 152 cs o=cs[o]? := bm zFt
theorem zFu:aq ae 153=some false:=by kernel_rfl
theorem PQ (cs:List Value) (o:Nat):aP ae 153 cs o=cs[o]? := bm zFu
theorem zFv:aq ae 154=some false:=by kernel_rfl
theorem PR (cs:List Value) (o:Nat):aP ae 154 cs o=cs[o]? := bm zFv
theorem zFw:aq ae 155=some false:=by kernel_rfl
theorem PS (cs:List Value) (o:Nat):aP ae 155 cs o=cs[o]? := bm zFw
theorem zFx:aq ae 156=some false:=by kernel_rfl
theorem PT (cs:List Value) (o:Nat):aP ae 156 cs o=cs[o]? := bm zFx
theorem zFy:aq ae 157=some false:=by kernel_rfl
theorem PU (cs:List Value) (o:Nat):aP ae 157 cs o=cs[o]? := bm zFy
theorem zFz:aq ae 158=some false:=by kernel_rfl
theorem PV (cs:List Value) (o:Nat):aP ae 158 cs o=cs[o]? := bm zFz
theorem zFA:aq ae 159=some false:=by kernel_rfl
theorem Rh (cs:List Value) (o:Nat):aP ae 159 cs o=cs[o]? := bm zFA
theorem zFB:aq ae 160=some false:=by kernel_rfl
theorem Ri (cs:List Value) (o:Nat):aP ae 160 cs o=cs[o]? := bm zFB
theorem zFC:aq ae 161=some false:=by kernel_rfl
theorem Rj (cs:List Value) (o:Nat):aP ae 161 cs o=cs[o]? := bm zFC
theorem zFD:aq ae 162=some false:=by kernel_rfl
theorem Rk (cs:List Value) (o:Nat):aP ae 162 cs o=cs[o]? := bm zFD
theorem zFE:aq ae 163=some false:=by kernel_rfl
theorem Rl (cs:List Value) (o:Nat):aP ae 163 cs o=cs[o]? := bm zFE
theorem zFF:aq ae 164=some false:=by kernel_rfl
theorem Rm (cs:List Value) (o:Nat):aP ae 164 cs o=cs[o]? := bm zFF
theorem zFG:aq ae 165=some false:=by kernel_rfl
theorem Rn (cs:List Value) (o:Nat):aP ae 165 cs o=cs[o]? := bm zFG
theorem zFH:aq ae 166=some false:=by kernel_rfl
theorem Ro (cs:List Value) (o:Nat):aP ae 166 cs o=cs[o]? := bm zFH
theorem zFI:aq ae 167=some false:=by kernel_rfl
theorem Rp (cs:List Value) (o:Nat):aP ae 167 cs o=cs[o]? := bm zFI
theorem zFJ:aq ae 168=some false:=by kernel_rfl
theorem Rq (cs:List Value) (o:Nat):aP ae 168 cs o=cs[o]? := bm zFJ
theorem zFK:aq ae 169=some false:=by kernel_rfl
theorem Rr (cs:List Value) (o:Nat):aP ae 169 cs o=cs[o]? := bm zFK
theorem zFL:aq ae 170=some false:=by kernel_rfl
theorem Rs (cs:List Value) (o:Nat):aP ae 170 cs o=cs[o]? := bm zFL
theorem zFM:aq ae 171=some false:=by kernel_rfl
theorem Rt (cs:List Value) (o:Nat):aP ae 171 cs o=cs[o]? := bm zFM
theorem zFN:aq ae 172=some false:=by kernel_rfl
theorem Ru (cs:List Value) (o:Nat):aP ae 172 cs o=cs[o]? := bm zFN
theorem zFO:aq ae 173=some false:=by kernel_rfl
theorem Rv (cs:List Value) (o:Nat):aP ae 173 cs o=cs[o]? := bm zFO
theorem zFP:aq ae 174=some false:=by kernel_rfl
theorem Rw (cs:List Value) (o:Nat):aP ae 174 cs o=cs[o]? := bm zFP
theorem zIp:bO ae 175=some 2:=by kernel_rfl
theorem zFQ:aq ae 175=some true:=by kernel_rfl
theorem Rx (cs:List Value) (o:Nat):aP ae 175 cs o=(cut cs o 2).map fun l=>.agg l.toArray:=eJ zFQ zIp
theorem zIq:bO ae 176=some 2:=by kernel_rfl
theorem zFR:aq ae 176=some true:=by kernel_rfl
theorem Ry (cs:List Value) (o:Nat):aP ae 176 cs o=(cut cs o 2).map fun l=>.agg l.toArray:=eJ zFR zIq
theorem zFS:aq ae 177=some false:=by kernel_rfl
theorem Rz (cs:List Value) (o:Nat):aP ae 177 cs o=cs[o]? := bm zFS
theorem zFT:aq ae 178=some false:=by kernel_rfl
theorem RA (cs:List Value) (o:Nat):aP ae 178 cs o=cs[o]? := bm zFT
theorem zFU:aq ae 179=some false:=by kernel_rfl
theorem RB (cs:List Value) (o:Nat):aP ae 179 cs o=cs[o]? := bm zFU
theorem zFV:aq ae 181=some false:=by kernel_rfl
theorem RC (cs:List Value) (o:Nat):aP ae 181 cs o=cs[o]? := bm zFV
theorem zFW:aq ae 182=some false:=by kernel_rfl
theorem RD (cs:List Value) (o:Nat):aP ae 182 cs o=cs[o]? := bm zFW
theorem zIr:bO ae 183=some 256:=by kernel_rfl
theorem zFX:aq ae 183=some true:=by kernel_rfl
theorem RE (cs:List Value) (o:Nat):aP ae 183 cs o=(cut cs o 256).map fun l=>.agg l.toArray:=eJ zFX zIr
theorem zFY:aq ae 184=some false:=by kernel_rfl
theorem RF (cs:List Value) (o:Nat):aP ae 184 cs o=cs[o]? := bm zFY
theorem zFZ:aq ae 185=some false:=by kernel_rfl
theorem RG (cs:List Value) (o:Nat):aP ae 185 cs o=cs[o]? := bm zFZ
theorem zF0:aq ae 186=some false:=by kernel_rfl
theorem QP (cs:List Value) (o:Nat):aP ae 186 cs o=cs[o]? := bm zF0
theorem zF1:aq ae 187=some false:=by kernel_rfl
theorem QQ (cs:List Value) (o:Nat):aP ae 187 cs o=cs[o]? := bm zF1
theorem zIs:bO ae 188=some 2:=by kernel_rfl
theorem zF2:aq ae 188=some true:=by kernel_rfl
theorem QR (cs:List Value) (o:Nat):aP ae 188 cs o=(cut cs o 2).map fun l=>.agg l.toArray:=eJ zF2 zIs
theorem zIt:bO ae 189=some 2:=by kernel_rfl
theorem zF3:aq ae 189=some true:=by kernel_rfl
theorem QS (cs:List Value) (o:Nat):aP ae 189 cs o=(cut cs o 2).map fun l=>.agg l.toArray:=eJ zF3 zIt
theorem zF4:aq ae 190=some false:=by kernel_rfl
theorem QT (cs:List Value) (o:Nat):aP ae 190 cs o=cs[o]? := bm zF4
theorem zF5:aq ae 191=some false:=by kernel_rfl
theorem QU (cs:List Value) (o:Nat):aP ae 191 cs o=cs[o]? := bm zF5
theorem zF6:aq ae 192=some false:=by kernel_rfl
theorem QV (cs:List Value) (o:Nat):aP ae 192 cs o=cs[o]? := bm zF6
theorem zF7:aq ae 193=some false:=by kernel_rfl
theorem QW (cs:List Value) (o:Nat):aP ae 193 cs o=cs[o]? := bm zF7
theorem zF8:aq ae 194=some false:=by kernel_rfl
theorem QX (cs:List Value) (o:Nat):aP ae 194 cs o=cs[o]? := bm zF8
theorem zF9:aq ae 195=some false:=by kernel_rfl
theorem QY (cs:List Value) (o:Nat):aP ae 195 cs o=cs[o]? := bm zF9
theorem zGa:aq ae 196=some false:=by kernel_rfl
theorem QZ (cs:List Value) (o:Nat):aP ae 196 cs o=cs[o]? := bm zGa
theorem zGb:aq ae 197=some false:=by kernel_rfl
theorem Q0 (cs:List Value) (o:Nat):aP ae 197 cs o=cs[o]? := bm zGb
theorem zIu:bO ae 198=some 3:=by kernel_rfl
theorem zGc:aq ae 198=some true:=by kernel_rfl
theorem Q1 (cs:List Value) (o:Nat):aP ae 198 cs o=(cut cs o 3).map fun l=>.agg l.toArray:=eJ zGc zIu
theorem zIv:bO ae 199=some 3:=by kernel_rfl
theorem zGd:aq ae 199=some true:=by kernel_rfl
theorem Q2 (cs:List Value) (o:Nat):aP ae 199 cs o=(cut cs o 3).map fun l=>.agg l.toArray:=eJ zGd zIv
theorem zGe:aq ae 200=some false:=by kernel_rfl
theorem Q3 (cs:List Value) (o:Nat):aP ae 200 cs o=cs[o]? := bm zGe
theorem zIw:bO ae 201=some 3:=by kernel_rfl
theorem zGf:aq ae 201=some true:=by kernel_rfl
theorem Q4 (cs:List Value) (o:Nat):aP ae 201 cs o=(cut cs o 3).map fun l=>.agg l.toArray:=eJ zGf zIw
theorem zIx:bO ae 202=some 3:=by kernel_rfl
theorem zGg:aq ae 202=some true:=by kernel_rfl
theorem Q5 (cs:List Value) (o:Nat):aP ae 202 cs o=(cut cs o 3).map fun l=>.agg l.toArray:=eJ zGg zIx
theorem zGh:aq ae 203=some false:=by kernel_rfl
theorem Q6 (cs:List Value) (o:Nat):aP ae 203 cs o=cs[o]? := bm zGh
theorem zIy:bO ae 204=some 3:=by kernel_rfl
theorem zGi:aq ae 204=some true:=by kernel_rfl
theorem Q7 (cs:List Value) (o:Nat):aP ae 204 cs o=(cut cs o 3).map fun l=>.agg l.toArray:=eJ zGi zIy
theorem zIz:bO ae 205=some 3:=by kernel_rfl
theorem zGj:aq ae 205=some true:=by kernel_rfl
theorem Q8 (cs:List Value) (o:Nat):aP ae 205 cs o=(cut cs o 3).map fun l=>.agg l.toArray:=eJ zGj zIz
theorem zGk:aq ae 206=some false:=by kernel_rfl
theorem Q9 (cs:List Value) (o:Nat):aP ae 206 cs o=cs[o]? := bm zGk
theorem zGl:aq ae 207=some false:=by kernel_rfl
theorem Ra (cs:List Value) (o:Nat):aP ae 207 cs o=cs[o]? := bm zGl
theorem zGm:aq ae 208=some false:=by kernel_rfl
theorem Rb (cs:List Value) (o:Nat):aP ae 208 cs o=cs[o]? := bm zGm
theorem zIA:bO ae 209=some 4:=by kernel_rfl
theorem zGn:aq ae 209=some true:=by kernel_rfl
theorem Rc (cs:List Value) (o:Nat):aP ae 209 cs o=(cut cs o 4).map fun l=>.agg l.toArray:=eJ zGn zIA
theorem zIB:bO ae 210=some 4:=by kernel_rfl
theorem zGo:aq ae 210=some true:=by kernel_rfl
theorem Re (cs:List Value) (o:Nat):aP ae 210 cs o=(cut cs o 4).map fun l=>.agg l.toArray:=eJ zGo zIB
theorem zIC:bO ae 211=some 0:=by kernel_rfl
theorem zGp:aq ae 211=some true:=by kernel_rfl
theorem Rf (cs:List Value) (o:Nat):aP ae 211 cs o=(cut cs o 0).map fun l=>.agg l.toArray:=eJ zGp zIC
theorem zID:bO ae 212=some 0:=by kernel_rfl
theorem zGq:aq ae 212=some true:=by kernel_rfl
theorem QG (cs:List Value) (o:Nat):aP ae 212 cs o=(cut cs o 0).map fun l=>.agg l.toArray:=eJ zGq zID
theorem zIE:bO ae 213=some 0:=by kernel_rfl
theorem zGr:aq ae 213=some true:=by kernel_rfl
theorem QH (cs:List Value) (o:Nat):aP ae 213 cs o=(cut cs o 0).map fun l=>.agg l.toArray:=eJ zGr zIE
theorem zGs:aq ae 214=some false:=by kernel_rfl
theorem QI (cs:List Value) (o:Nat):aP ae 214 cs o=cs[o]? := bm zGs
theorem zGt:aq ae 215=some false:=by kernel_rfl
theorem QJ (cs:List Value) (o:Nat):aP ae 215 cs o=cs[o]? := bm zGt
theorem zGu:aq ae 216=some false:=by kernel_rfl
theorem QK (cs:List Value) (o:Nat):aP ae 216 cs o=cs[o]? := bm zGu
theorem zGv:aq ae 217=some false:=by kernel_rfl
theorem QL (cs:List Value) (o:Nat):aP ae 217 cs o=cs[o]? := bm zGv
theorem zGw:aq ae 218=some false:=by kernel_rfl
theorem QM (cs:List Value) (o:Nat):aP ae 218 cs o=cs[o]? := bm zGw
theorem zIF:bO ae 219=some 11:=by kernel_rfl
theorem zGx:aq ae 219=some true:=by kernel_rfl
theorem QN (cs:List Value) (o:Nat):aP ae 219 cs o=(cut cs o 11).map fun l=>.agg l.toArray:=eJ zGx zIF
theorem zIG:bO ae 220=some 11:=by kernel_rfl
theorem zGy:aq ae 220=some true:=by kernel_rfl
theorem QO (cs:List Value) (o:Nat):aP ae 220 cs o=(cut cs o 11).map fun l=>.agg l.toArray:=eJ zGy zIG
theorem fi3 (K:Value→Heap→Prop) (e:Env) (h:Heap):aA ae Tryz.f3 K .ret e h=K (e.get 4) h:=bN rfl
theorem fi4 (K:Value→Heap→Prop) (e:Env) (h:Heap):aA ae Tryz.f4 K .ret e h=K (e.get 8) h:=bN rfl
theorem fi5 (K:Value→Heap→Prop) (e:Env) (h:Heap):aA ae Tryz.f5 K .ret e h=K (e.get 4) h:=bN rfl
theorem fi6 (K:Value→Heap→Prop) (e:Env) (h:Heap):aA ae Tryz.f6 K .ret e h=K (e.get 4) h:=bN rfl
theorem fi8 (K:Value→Heap→Prop) (e:Env) (h:Heap):aA ae Tryz.f8 K .ret e h=aU (dz ae 29 (e.get 0) h) h K:=ZR rfl
theorem fi9 (K:Value→Heap→Prop) (e:Env) (h:Heap):aA ae Tryz.f9 K .ret e h=K (e.get 4) h:=bN rfl
theorem TK (K:Value→Heap→Prop) (e:Env) (h:Heap):aA ae Tryz.f10 K .ret e h=K (.tuple #[e.get 2,e.get 3]) h:=s7 rfl
theorem TL (K:Value→Heap→Prop) (e:Env) (h:Heap):aA ae Tryz.f11 K .ret e h=K (.tuple #[e.get 6,e.get 7]) h:=s7 rfl
theorem TM (K:Value→Heap→Prop) (e:Env) (h:Heap):aA ae Tryz.f12 K .ret e h=aU (dz ae 42 (e.get 6) h) h K:=ZR rfl
theorem TN (K:Value→Heap→Prop) (e:Env) (h:Heap):aA ae Tryz.f13 K .ret e h=K (e.get 4) h:=bN rfl
theorem TO (K:Value→Heap→Prop) (e:Env) (h:Heap):aA ae Tryz.f14 K .ret e h=K (e.get 4) h:=bN rfl
theorem TP (K:Value→Heap→Prop) (e:Env) (h:Heap):aA ae Tryz.f15 K .ret e h=K (e.get 2) h:=bN rfl
theorem TQ (K:Value→Heap→Prop) (e:Env) (h:Heap):aA ae Tryz.f16 K .ret e h=K (.tuple #[e.get 6,e.get 7]) h:=s7 rfl
theorem TR (K:Value→Heap→Prop) (e:Env) (h:Heap):aA ae Tryz.f17 K .ret e h=K (e.get 2) h:=bN rfl
theorem TS (K:Value→Heap→Prop) (e:Env) (h:Heap):aA ae Tryz.f18 K .ret e h=K (e.get 2) h:=bN rfl
theorem TT (K:Value→Heap→Prop) (e:Env) (h:Heap):aA ae Tryz.f19 K .ret e h=K (e.get 2) h:=bN rfl
theorem TU (K:Value→Heap→Prop) (e:Env) (h:Heap):aA ae Tryz.f20 K .ret e h=K (e.get 4) h:=bN rfl
theorem TV (K:Value→Heap→Prop) (e:Env) (h:Heap):aA ae Tryz.f21 K .ret e h=K (e.get 4) h:=bN rfl
theorem TW (K:Value→Heap→Prop) (e:Env) (h:Heap):aA ae Tryz.f22 K .ret e h=K (e.get 4) h:=bN rfl
theorem TX (K:Value→Heap→Prop) (e:Env) (h:Heap):aA ae Tryz.f23 K .ret e h=K (e.get 4) h:=bN rfl
theorem TY (K:Value→Heap→Prop) (e:Env) (h:Heap):aA ae Tryz.f25 K .ret e h=K (e.get 2) h:=bN rfl
theorem TZ (K:Value→Heap→Prop) (e:Env) (h:Heap):aA ae Tryz.f26 K .ret e h=K (e.get 2) h:=bN rfl
theorem T2 (K:Value→Heap→Prop) (e:Env) (h:Heap):aA ae Tryz.f27 K .ret e h=K (e.get 2) h:=bN rfl
theorem T3 (K:Value→Heap→Prop) (e:Env) (h:Heap):aA ae Tryz.f28 K .ret e h=K (e.get 2) h:=bN rfl
theorem T4 (K:Value→Heap→Prop) (e:Env) (h:Heap):aA ae Tryz.f29 K .ret e h=K (e.get 2) h:=bN rfl
theorem T5 (K:Value→Heap→Prop) (e:Env) (h:Heap):aA ae Tryz.f30 K .ret e h=K (e.get 2) h:=bN rfl
theorem T6 (K:Value→Heap→Prop) (e:Env) (h:Heap):aA ae Tryz.f31 K .ret e h=aU (dz ae 29 (e.get 2) h) h K:=ZR rfl
theorem T7 (K:Value→Heap→Prop) (e:Env) (h:Heap):aA ae Tryz.f32 K .ret e h=K (.tuple #[e.get 10,e.get 11]) h:=s7 rfl
theorem T8 (K:Value→Heap→Prop) (e:Env) (h:Heap):aA ae Tryz.f33 K .ret e h=K (.tuple #[e.get 4,e.get 5]) h:=s7 rfl
theorem T9 (K:Value→Heap→Prop) (e:Env) (h:Heap):aA ae Tryz.f34 K .ret e h=K undef h:=s9 rfl
theorem Va (K:Value→Heap→Prop) (e:Env) (h:Heap):aA ae Tryz.f34 K .normal e h=K undef h:=sZ rfl
theorem Ua (K:Value→Heap→Prop) (e:Env) (h:Heap):aA ae Tryz.f36 K .ret e h=K (e.get 2) h:=bN rfl
theorem Ub (K:Value→Heap→Prop) (e:Env) (h:Heap):aA ae Tryz.f37 K .ret e h=K (.tuple #[e.get 4,e.get 5]) h:=s7 rfl
theorem Uc (K:Value→Heap→Prop) (e:Env) (h:Heap):aA ae Tryz.f38 K .ret e h=K undef h:=s9 rfl
theorem Vb (K:Value→Heap→Prop) (e:Env) (h:Heap):aA ae Tryz.f38 K .normal e h=K undef h:=sZ rfl
theorem Ud (K:Value→Heap→Prop) (e:Env) (h:Heap):aA ae Tryz.f39 K .ret e h=K (e.get 6) h:=bN rfl
theorem Ue (K:Value→Heap→Prop) (e:Env) (h:Heap):aA ae Tryz.f40 K .ret e h=K (e.get 4) h:=bN rfl
theorem Uf (K:Value→Heap→Prop) (e:Env) (h:Heap):aA ae Tryz.f41 K .ret e h=K (e.get 2) h:=bN rfl
theorem Ug (K:Value→Heap→Prop) (e:Env) (h:Heap):aA ae Tryz.f42 K .ret e h=K (e.get 4) h:=bN rfl
theorem Uh (K:Value→Heap→Prop) (e:Env) (h:Heap):aA ae Tryz.f43 K .ret e h=K (e.get 2) h:=bN rfl
theorem Ui (K:Value→Heap→Prop) (e:Env) (h:Heap):aA ae Tryz.f44 K .ret e h=K (e.get 2) h:=bN rfl
theorem Uj (K:Value→Heap→Prop) (e:Env) (h:Heap):aA ae Tryz.f45 K .ret e h=K (e.get 2) h:=bN rfl
theorem Uk (K:Value→Heap→Prop) (e:Env) (h:Heap):aA ae Tryz.f46 K .ret e h=K (e.get 6) h:=bN rfl
theorem Ul (K:Value→Heap→Prop) (e:Env) (h:Heap):aA ae Tryz.f47 K .ret e h=K (e.get 4) h:=bN rfl
theorem Um (K:Value→Heap→Prop) (e:Env) (h:Heap):aA ae Tryz.f48 K .ret e h=K (e.get 4) h:=bN rfl
theorem Un (K:Value→Heap→Prop) (e:Env) (h:Heap):aA ae Tryz.f49 K .ret e h=K (e.get 4) h:=bN rfl
theorem Uo (K:Value→Heap→Prop) (e:Env) (h:Heap):aA ae Tryz.f50 K .ret e h=K (e.get 4) h:=bN rfl
theorem Up (K:Value→Heap→Prop) (e:Env) (h:Heap):aA ae Tryz.f51 K .ret e h=K (e.get 2) h:=bN rfl
theorem Uq (K:Value→Heap→Prop) (e:Env) (h:Heap):aA ae Tryz.f52 K .ret e h=K (e.get 2) h:=bN rfl
theorem Ur (K:Value→Heap→Prop) (e:Env) (h:Heap):aA ae Tryz.f53 K .ret e h=K (e.get 2) h:=bN rfl
theorem Us (K:Value→Heap→Prop) (e:Env) (h:Heap):aA ae Tryz.f54 K .ret e h=K (e.get 2) h:=bN rfl
theorem Ut (K:Value→Heap→Prop) (e:Env) (h:Heap):aA ae Tryz.f55 K .ret e h=K (e.get 2) h:=bN rfl
theorem Uu (K:Value→Heap→Prop) (e:Env) (h:Heap):aA ae Tryz.f56 K .ret e h=K (e.get 2) h:=bN rfl
theorem Uv (K:Value→Heap→Prop) (e:Env) (h:Heap):aA ae Tryz.f57 K .ret e h=K (e.get 0) h:=bN rfl
theorem Uw (K:Value→Heap→Prop) (e:Env) (h:Heap):aA ae Tryz.f58 K .ret e h=K (e.get 2) h:=bN rfl
theorem Ux (K:Value→Heap→Prop) (e:Env) (h:Heap):aA ae Tryz.f59 K .ret e h=K (e.get 2) h:=bN rfl
theorem Uy (K:Value→Heap→Prop) (e:Env) (h:Heap):aA ae Tryz.f60 K .ret e h=K (e.get 6) h:=bN rfl
theorem Uz (K:Value→Heap→Prop) (e:Env) (h:Heap):aA ae Tryz.f61 K .ret e h=K (e.get 2) h:=bN rfl
theorem UA (K:Value→Heap→Prop) (e:Env) (h:Heap):aA ae Tryz.f62 K .ret e h=K (.tuple #[e.get 4,e.get 5]) h:=s7 rfl
theorem UB (K:Value→Heap→Prop) (e:Env) (h:Heap):aA ae Tryz.f64 K .ret e h=K (e.get 2) h:=bN rfl
theorem UC (K:Value→Heap→Prop) (e:Env) (h:Heap):aA ae Tryz.f65 K .ret e h=K (.tuple #[e.get 4,e.get 5]) h:=s7 rfl
theorem UD (K:Value→Heap→Prop) (e:Env) (h:Heap):aA ae Tryz.f66 K .ret e h=K (e.get 6) h:=bN rfl
theorem UE (K:Value→Heap→Prop) (e:Env) (h:Heap):aA ae Tryz.f67 K .ret e h=K (.tuple #[e.get 4,e.get 5]) h:=s7 rfl
theorem UF (K:Value→Heap→Prop) (e:Env) (h:Heap):aA ae Tryz.f68 K .ret e h=K (e.get 4) h:=bN rfl
theorem UG (K:Value→Heap→Prop) (e:Env) (h:Heap):aA ae Tryz.f69 K .ret e h=K (e.get 4) h:=bN rfl
theorem UH (K:Value→Heap→Prop) (e:Env) (h:Heap):aA ae Tryz.f70 K .ret e h=K (e.get 2) h:=bN rfl
theorem UI (K:Value→Heap→Prop) (e:Env) (h:Heap):aA ae Tryz.f71 K .ret e h=K (e.get 2) h:=bN rfl
theorem UJ (K:Value→Heap→Prop) (e:Env) (h:Heap):aA ae Tryz.f72 K .ret e h=K (.tuple #[e.get 4,e.get 5]) h:=s7 rfl
theorem UK (K:Value→Heap→Prop) (e:Env) (h:Heap):aA ae Tryz.f73 K .ret e h=K (e.get 4) h:=bN rfl
theorem UL (K:Value→Heap→Prop) (e:Env) (h:Heap):aA ae Tryz.f74 K .ret e h=K (e.get 4) h:=bN rfl
theorem UM (K:Value→Heap→Prop) (e:Env) (h:Heap):aA ae Tryz.f75 K .ret e h=K (e.get 2) h:=bN rfl
theorem UN (K:Value→Heap→Prop) (e:Env) (h:Heap):aA ae Tryz.f76 K .ret e h=K (e.get 2) h:=bN rfl
theorem UO (K:Value→Heap→Prop) (e:Env) (h:Heap):aA ae Tryz.f77 K .ret e h=K (e.get 2) h:=bN rfl
theorem UP (K:Value→Heap→Prop) (e:Env) (h:Heap):aA ae Tryz.f78 K .ret e h=K (e.get 4) h:=bN rfl
theorem UQ (K:Value→Heap→Prop) (e:Env) (h:Heap):aA ae Tryz.f79 K .ret e h=K (e.get 2) h:=bN rfl
theorem UR (K:Value→Heap→Prop) (e:Env) (h:Heap):aA ae Tryz.f80 K .ret e h=K (e.get 2) h:=bN rfl
theorem US (K:Value→Heap→Prop) (e:Env) (h:Heap):aA ae Tryz.f81 K .ret e h=K (e.get 4) h:=bN rfl
theorem UT (K:Value→Heap→Prop) (e:Env) (h:Heap):aA ae Tryz.f82 K .ret e h=K (e.get 2) h:=bN rfl
theorem UU (K:Value→Heap→Prop) (e:Env) (h:Heap):aA ae Tryz.f83 K .ret e h=K (e.get 4) h:=bN rfl
theorem UW (K:Value→Heap→Prop) (e:Env) (h:Heap):aA ae Tryz.f84 K .ret e h=K (e.get 2) h:=bN rfl
theorem UX (K:Value→Heap→Prop) (e:Env) (h:Heap):aA ae Tryz.f85 K .ret e h=K (e.get 6) h:=bN rfl
theorem UY (K:Value→Heap→Prop) (e:Env) (h:Heap):aA ae Tryz.f86 K .ret e h=K (e.get 1) h:=bN rfl
theorem UZ (K:Value→Heap→Prop) (e:Env) (h:Heap):aA ae Tryz.f87 K .ret e h=K (e.get 2) h:=bN rfl
theorem U0 (K:Value→Heap→Prop) (e:Env) (h:Heap):aA ae Tryz.f88 K .ret e h=K (e.get 2) h:=bN rfl
theorem U1 (K:Value→Heap→Prop) (e:Env) (h:Heap):aA ae Tryz.f89 K .ret e h=K (e.get 2) h:=bN rfl
theorem U2 (K:Value→Heap→Prop) (e:Env) (h:Heap):aA ae Tryz.f90 K .ret e h=K (e.get 4) h:=bN rfl
theorem U3 (K:Value→Heap→Prop) (e:Env) (h:Heap):aA ae Tryz.f91 K .ret e h=K (e.get 2) h:=bN rfl
theorem U4 (K:Value→Heap→Prop) (e:Env) (h:Heap):aA ae Tryz.f92 K .ret e h=K (e.get 2) h:=bN rfl
theorem U5 (K:Value→Heap→Prop) (e:Env) (h:Heap):aA ae Tryz.f93 K .ret e h=K (e.get 2) h:=bN rfl
theorem U6 (K:Value→Heap→Prop) (e:Env) (h:Heap):aA ae Tryz.f94 K .ret e h=K (.tuple #[e.get 6,e.get 7]) h:=s7 rfl
theorem U7 (K:Value→Heap→Prop) (e:Env) (h:Heap):aA ae Tryz.f95 K .ret e h=K (e.get 4) h:=bN rfl
theorem U8 (K:Value→Heap→Prop) (e:Env) (h:Heap):aA ae Tryz.f98 K .ret e h=K (e.get 4) h:=bN rfl
theorem U9 (K:Value→Heap→Prop) (e:Env) (h:Heap):aA ae Tryz.f99 K .ret e h=K (e.get 2) h:=bN rfl
theorem zGS (K:Value→Heap→Prop) (e:Env) (h:Heap):aA ae Tryz.f100 K .ret e h=K (e.get 2) h:=bN rfl
theorem zGT (K:Value→Heap→Prop) (e:Env) (h:Heap):aA ae Tryz.f101 K .ret e h=K (e.get 4) h:=bN rfl
theorem zGU (K:Value→Heap→Prop) (e:Env) (h:Heap):aA ae Tryz.f102 K .ret e h=K undef h:=s9 rfl
theorem zHO (K:Value→Heap→Prop) (e:Env) (h:Heap):aA ae Tryz.f102 K .normal e h=K undef h:=sZ rfl
theorem zGV (K:Value→Heap→Prop) (e:Env) (h:Heap):aA ae Tryz.f103 K .ret e h=K (e.get 2) h:=bN rfl
theorem zGW (K:Value→Heap→Prop) (e:Env) (h:Heap):aA ae Tryz.f104 K .ret e h=K (e.get 2) h:=bN rfl
theorem zGX (K:Value→Heap→Prop) (e:Env) (h:Heap):aA ae Tryz.f105 K .ret e h=K (e.get 2) h:=bN rfl
theorem zGY (K:Value→Heap→Prop) (e:Env) (h:Heap):aA ae Tryz.f106 K .ret e h=K (e.get 2) h:=bN rfl
theorem zGZ (K:Value→Heap→Prop) (e:Env) (h:Heap):aA ae Tryz.f107 K .ret e h=K (e.get 2) h:=bN rfl
theorem zG0 (K:Value→Heap→Prop) (e:Env) (h:Heap):aA ae Tryz.f108 K .ret e h=K (e.get 6) h:=bN rfl
theorem zG1 (K:Value→Heap→Prop) (e:Env) (h:Heap):aA ae Tryz.f109 K .ret e h=K (e.get 2) h:=bN rfl
theorem zG2 (K:Value→Heap→Prop) (e:Env) (h:Heap):aA ae Tryz.f110 K .ret e h=K (e.get 2) h:=bN rfl
theorem zG3 (K:Value→Heap→Prop) (e:Env) (h:Heap):aA ae Tryz.f111 K .ret e h=K (e.get 2) h:=bN rfl
theorem zG4 (K:Value→Heap→Prop) (e:Env) (h:Heap):aA ae Tryz.f112 K .ret e h=K (e.get 4) h:=bN rfl
theorem zG5 (K:Value→Heap→Prop) (e:Env) (h:Heap):aA ae Tryz.f113 K .ret e h=K (e.get 2) h:=bN rfl
theorem zG6 (K:Value→Heap→Prop) (e:Env) (h:Heap):aA ae Tryz.f114 K .ret e h=K (e.get 2) h:=bN rfl
theorem zG7 (K:Value→Heap→Prop) (e:Env) (h:Heap):aA ae Tryz.f115 K .ret e h=K (e.get 2) h:=bN rfl
theorem zG8 (K:Value→Heap→Prop) (e:Env) (h:Heap):aA ae Tryz.f116 K .ret e h=K (e.get 4) h:=bN rfl
theorem zG9 (K:Value→Heap→Prop) (e:Env) (h:Heap):aA ae Tryz.f117 K .ret e h=K (e.get 3) h:=bN rfl
theorem zHa (K:Value→Heap→Prop) (e:Env) (h:Heap):aA ae Tryz.f118 K .ret e h=K (.tuple #[e.get 4,e.get 5]) h:=s7 rfl
theorem zHb (K:Value→Heap→Prop) (e:Env) (h:Heap):aA ae Tryz.f119 K .ret e h=K (e.get 1) h:=bN rfl
theorem zHc (K:Value→Heap→Prop) (e:Env) (h:Heap):aA ae Tryz.f120 K .ret e h=K (e.get 2) h:=bN rfl
theorem zHd (K:Value→Heap→Prop) (e:Env) (h:Heap):aA ae Tryz.f121 K .ret e h=K (e.get 4) h:=bN rfl
theorem zHe (K:Value→Heap→Prop) (e:Env) (h:Heap):aA ae Tryz.f122 K .ret e h=K (e.get 2) h:=bN rfl
theorem zHf (K:Value→Heap→Prop) (e:Env) (h:Heap):aA ae Tryz.f123 K .ret e h=K (e.get 2) h:=bN rfl
theorem zHg (K:Value→Heap→Prop) (e:Env) (h:Heap):aA ae Tryz.f124 K .ret e h=K undef h:=s9 rfl
theorem zHP (K:Value→Heap→Prop) (e:Env) (h:Heap):aA ae Tryz.f124 K .normal e h=K undef h:=sZ rfl
theorem zHh (K:Value→Heap→Prop) (e:Env) (h:Heap):aA ae Tryz.f125 K .ret e h=K (e.get 4) h:=bN rfl
theorem zHi (K:Value→Heap→Prop) (e:Env) (h:Heap):aA ae Tryz.f126 K .ret e h=K (e.get 4) h:=bN rfl
theorem zHj (K:Value→Heap→Prop) (e:Env) (h:Heap):aA ae Tryz.f128 K .ret e h=K (e.get 2) h:=bN rfl
theorem zHk (K:Value→Heap→Prop) (e:Env) (h:Heap):aA ae Tryz.f130 K .ret e h=K (e.get 6) h:=bN rfl
theorem zHl (K:Value→Heap→Prop) (e:Env) (h:Heap):aA ae Tryz.f131 K .ret e h=K undef h:=s9 rfl
theorem zHQ (K:Value→Heap→Prop) (e:Env) (h:Heap):aA ae Tryz.f131 K .normal e h=K undef h:=sZ rfl
theorem zHm (K:Value→Heap→Prop) (e:Env) (h:Heap):aA ae Tryz.f132 K .ret e h=K (e.get 2) h:=bN rfl
theorem zHn (K:Value→Heap→Prop) (e:Env) (h:Heap):aA ae Tryz.f133 K .ret e h=K (e.get 2) h:=bN rfl
theorem zHo (K:Value→Heap→Prop) (e:Env) (h:Heap):aA ae Tryz.f134 K .ret e h=K (e.get 2) h:=bN rfl
theorem zHp (K:Value→Heap→Prop) (e:Env) (h:Heap):aA ae Tryz.f135 K .ret e h=K (e.get 2) h:=bN rfl
theorem zHq (K:Value→Heap→Prop) (e:Env) (h:Heap):aA ae Tryz.f136 K .ret e h=K (e.get 0) h:=bN rfl
theorem zHr (K:Value→Heap→Prop) (e:Env) (h:Heap):aA ae Tryz.f137 K .ret e h=K (e.get 4) h:=bN rfl
theorem zHs (K:Value→Heap→Prop) (e:Env) (h:Heap):aA ae Tryz.f138 K .ret e h=K (e.get 4) h:=bN rfl
theorem zHt (K:Value→Heap→Prop) (e:Env) (h:Heap):aA ae Tryz.f139 K .ret e h=K (e.get 2) h:=bN rfl
theorem zHu (K:Value→Heap→Prop) (e:Env) (h:Heap):aA ae Tryz.f140 K .ret e h=K (e.get 2) h:=bN rfl
theorem zHv (K:Value→Heap→Prop) (e:Env) (h:Heap):aA ae Tryz.f141 K .ret e h=K (e.get 4) h:=bN rfl
theorem zHw (K:Value→Heap→Prop) (e:Env) (h:Heap):aA ae Tryz.f142 K .ret e h=K undef h:=s9 rfl
theorem zHR (K:Value→Heap→Prop) (e:Env) (h:Heap):aA ae Tryz.f142 K .normal e h=K undef h:=sZ rfl
theorem zHx (K:Value→Heap→Prop) (e:Env) (h:Heap):aA ae Tryz.f146 K .ret e h=K (e.get 2) h:=bN rfl
theorem zHy (K:Value→Heap→Prop) (e:Env) (h:Heap):aA ae Tryz.f147 K .ret e h=K (e.get 0) h:=bN rfl
theorem zHz (K:Value→Heap→Prop) (e:Env) (h:Heap):aA ae Tryz.f148 K .ret e h=K (e.get 2) h:=bN rfl
theorem zHA (K:Value→Heap→Prop) (e:Env) (h:Heap):aA ae Tryz.f150 K .ret e h=K (e.get 2) h:=bN rfl
theorem zHB (K:Value→Heap→Prop) (e:Env) (h:Heap):aA ae Tryz.f151 K .ret e h=K (e.get 2) h:=bN rfl
theorem zHC (K:Value→Heap→Prop) (e:Env) (h:Heap):aA ae Tryz.f152 K .ret e h=K undef h:=s9 rfl
theorem zD3 (K:Value→Heap→Prop) (e:Env) (h:Heap):aA ae Tryz.f152 K .normal e h=K undef h:=sZ rfl
theorem zHD (K:Value→Heap→Prop) (e:Env) (h:Heap):aA ae Tryz.f153 K .ret e h=K undef h:=s9 rfl
theorem zHS (K:Value→Heap→Prop) (e:Env) (h:Heap):aA ae Tryz.f153 K .normal e h=K undef h:=sZ rfl
theorem zHE (K:Value→Heap→Prop) (e:Env) (h:Heap):aA ae Tryz.f158 K .ret e h=K (e.get 2) h:=bN rfl
theorem zHF (K:Value→Heap→Prop) (e:Env) (h:Heap):aA ae Tryz.f161 K .ret e h=K (e.get 2) h:=bN rfl
theorem zHG (K:Value→Heap→Prop) (e:Env) (h:Heap):aA ae Tryz.f162 K .ret e h=K (e.get 2) h:=bN rfl
theorem zHH (K:Value→Heap→Prop) (e:Env) (h:Heap):aA ae Tryz.f163 K .ret e h=K (e.get 2) h:=bN rfl
theorem zHI (K:Value→Heap→Prop) (e:Env) (h:Heap):aA ae Tryz.f164 K .ret e h=K undef h:=s9 rfl
theorem zHT (K:Value→Heap→Prop) (e:Env) (h:Heap):aA ae Tryz.f164 K .normal e h=K undef h:=sZ rfl
theorem zHJ (K:Value→Heap→Prop) (e:Env) (h:Heap):aA ae Tryz.f168 K .ret e h=K undef h:=s9 rfl
theorem zHU (K:Value→Heap→Prop) (e:Env) (h:Heap):aA ae Tryz.f168 K .normal e h=K undef h:=sZ rfl
theorem zHK (K:Value→Heap→Prop) (e:Env) (h:Heap):aA ae Tryz.f189 K .ret e h=K (e.get 6) h:=bN rfl
theorem zHL (K:Value→Heap→Prop) (e:Env) (h:Heap):aA ae Tryz.f190 K .ret e h=K (e.get 2) h:=bN rfl
theorem zHM (K:Value→Heap→Prop) (e:Env) (h:Heap):aA ae Tryz.f191 K .ret e h=K undef h:=s9 rfl
theorem zHV (K:Value→Heap→Prop) (e:Env) (h:Heap):aA ae Tryz.f191 K .normal e h=K undef h:=sZ rfl
theorem zHN (K:Value→Heap→Prop) (e:Env) (h:Heap):aA ae Tryz.f192 K .ret e h=K undef h:=s9 rfl
theorem zHW (K:Value→Heap→Prop) (e:Env) (h:Heap):aA ae Tryz.f192 K .normal e h=K undef h:=sZ rfl
end Go.Proofs.YtdplfgoifjjniaaGreatDoor
