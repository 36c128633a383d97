/- The code of some functions, node by node, for simp. Written by a program (mkcode.py). No condition. -/
import Derived.Test.YtjildadoepadeaaGreatDoorZN2
set_option linter.unusedSimpArgs false
set_option linter.unusedVariables false
set_option maxRecDepth 100000
set_option maxHeartbeats 0
noncomputable section
namespace Go.Proofs.YtjildadoepadeaaGreatDoor
open Go.Am Tryz
def BH:=bq f154
def EO:=PLift.up (by have c:=bw BH f154;simp only [aJ,f154,seval] at c;exact nd c <| nd @UK <| @zx3)
theorem kY:type_of% EO.down:=EO.down
def O5:=bq f44
def QW:=PLift.up (by have c:=bw O5 f44;simp only [aJ,f44,seval] at c;exact nd c <| nd @Gr <| nd @Gs <| nd @jy <| nd @cP <| @J9)
theorem w9:type_of% QW.down:=QW.down
end Go.Proofs.YtjildadoepadeaaGreatDoor
namespace Go.Am
variable {l:List Nat}
abbrev aQ.byte:aQ Nat:={ k:=1,R:=λ_ cs x=>cs=[.int .u8 (x:Int)],len:=by rintro _ _ _ rfl;rfl,mono:=λ_ _ _ _ _ h=>h,fk:=by rintro _ _ _ rfl;rfl }
def kQ (l:List Nat):aA:=⟨(l.map UInt8.ofNat).toArray⟩
theorem SE:∀ l:List Nat,za (l.map λx:Nat=>Value.int .u8 (x:Int))=some (l.map UInt8.ofNat)
 | []=>rfl
 |x::l=>by
  show (za (l.map λx:Nat=>Value.int .u8 (x:Int))).map (UInt8.ofNat (x:Int).toNat::·)=_
  rw [SE l]
  rfl
theorem Zt {row:List ai} (hr:row.length=l.length) (h:∀ (i:Nat) (x:Nat),l[i]? = some x->∃ cs,cut row (i*1) 1=some cs/\cs=[.int .u8 (x:Int)]):row=l.map λx:Nat=>Value.int .u8 (x:Int):=by
 apply uO
 intro i
 by_cases hi:i < l.length
 .obtain ⟨cs,h1,rfl⟩:=h i _ (lD hi)
  rw [uS] at h1
  unfold cut at h1
  split at h1
  .rw [F5 (by omega)] at h1
   simp only [List.take_succ_cons,List.take_zero,de,List.cons.injEq,and_true] at h1
   rw [lD (by omega),h1,lE,lD hi]
   rfl
  .cases h1
 .rw [wx (by omega),wx (by rw [uQ];omega)]
theorem zup {h0 h:Heap} {e:TypeId} {A:Nat} {v:ai} (f:Ow aQ.byte h0 h e A v l) (hl:l≠[]):∃ c,v=.slice (some ⟨A,0,none⟩) l.length c/\h.get A=some (.row (l.map λx:Nat=>Value.int .u8 (x:Int)) e false):=by
 rcases f with ⟨_,f,_⟩|⟨row,rfl,_,f0,f1,f2,f3,f4,f5⟩
 .exact absurd f hl
 .have hr:=Zt (by rw [f3];exact uS _) f5
  subst hr
  exact ⟨_,rfl,f2⟩
section
variable {P:Program} {T:bm} {ov:Ov} {d:Option Tmp} {ty:TypeId} {pos:String} {af:Array Edge} {g:Option (Nat × Bool)} {e:Env} {K:aF}
theorem zwG {h0 h1:Heap} {u s t eb:TypeId} {x:Operand} {A:Nat} {v:ai} (hs:T.desc s=some (.slice u)) (hu:T.desc u=some (.int .u8)) (ht:T.desc t=some .string) (mn:kP T s=true) (f:Ow aQ.byte h0 h1 eb A v l) (hl:l≠[]) (hx:aX e x=v)
 (hK:K (.string (kQ l)) h1):bL P T ov ⟨d,.convert s t x,ty,pos,af,g⟩ e h1 K:=by
 obtain ⟨c,rfl,hg⟩:=zup f hl
 have hb:sX T s t (.slice (some ⟨A,0,none⟩) l.length c) h1=some (.string (kQ l)):=by
  unfold sX
  simp only [hs,ht,hu]
  have hc:lO (.slice (some ⟨A,0,none⟩) l.length c) 1 h1=some (l.map λx:Nat=>Value.int .u8 (x:Int)):=by
   have aV:l.length≠0:=λe=>hl (H7.1 e)
   unfold lO
   simp only
   rw [ay (by omega)]
   unfold ia
   rw [hg]
   simp only [cut,jX,uS,uQ,bg,if_true,List.drop_zero]
   rw [i9 (by rw [uQ];omega)]
  rw [hc]
  simp only [cM,SE,gJ]
  rfl
 show cK (if kP T s then (sX T s t (aX e x) h1).map λr=>(r,h1) else if kP T t then (if AG T s then vZ T t (aX e x) h1 else none) else eP P e ⟨d,.convert s t x,ty,pos,af,g⟩ h1) K
 rw [mn,aC rfl,hx,hb]
 exact hK
end
theorem zwn:∀ (n:Nat),∀ x∈cJ n,x < 256:=by
 intro n
 induction n using Nat.strongRecOn with
 |ind n ih =>
  intro x hx
  by_cases hn:n < 128
  .rw [pw hn] at hx
   rw [td.1 hx]
   omega
  .rw [qb hn] at hx
   rcases i0.1 hx with rfl|hx
   .omega
   .exact ih (n / 128) (by omega) x hx
theorem zwo (n:Nat):cJ n≠[]:=by
 by_cases hn:n < 128
 .rw [pw hn];simp
 .rw [qb hn];simp
theorem zxc {a:Nat} (h:a < 128):a ||| 128=a+128:=by
 have:=Nat.shiftLeft_add_eq_or_of_lt (i:=7) (b:=a) h 1
 rw [Nat.or_comm]
 rw [show (1:Nat) <<< 7=128 by decide] at this
 omega
def aac (u:TypeId) (h:Heap) (C:Nat) (s:aA) (st:Option Nat):Prop:=∃ (o:Nat) (e:Int),o<=s.size/\(∀ p,st=some p->p=o/\e=0)/\(st=none->e≠0)/\Holds h C (.row [.string s,.int .i64 o,.int .i64 e] u false)
section
variable {u:TypeId} {h h2:Heap} {C A:Nat} {s:aA} {st:Option Nat} {bs:List bd} {w:Nat}
theorem aac.lay (q:aac u h C s st) (bs:List bd) (w:Nat):aac u (h.lay bs w) C s st:=q.elim λo x=>x.elim λe x=>⟨o,e,x.1,x.2.1,x.2.2.1,x.2.2.2.on bs w⟩
theorem aac.over (q:aac u h C s st) (x:Ext (h.lay bs w) h2):aac u h2 C s st:=q.elim λo y=>y.elim λe y=>⟨o,e,y.1,y.2.1,y.2.2.1,y.2.2.2.over x⟩
theorem aac.sm (q:aac u h C s st) (x:Sm A h h2) (aV:C≠A):aac u h2 C s st:=q.elim λo y=>y.elim λe y=>⟨o,e,y.1,y.2.1,y.2.2.1,y.2.2.2.sm x aV⟩
theorem aac.bG (q:aac u h C s st) (c:gL A (h.lay bs w) h2) (aV:C≠A):aac u h2 C s st:=(q.lay bs w).sm c.sm aV
theorem aac.lt (q:aac u h C s st):C < h.size:=q.elim λo y=>y.elim λe y=>y.2.2.2.lt
theorem aac.at {o:Nat} (ho:o<=s.size) (q:Holds h C (.row [.string s,.int .i64 o,.int .i64 0] u false)):aac u h C s (some o):=⟨o,0,ho,λp e=>⟨(Option.some.inj e).symm,rfl⟩,nofun,q⟩
end
end Go.Am
namespace Go.Proofs.YtjildadoepadeaaGreatDoor
open Go.Am Tryz
theorem TG (a:Int):dX prog (Next.value <$> convert 144 5 (.int .u32 a))=some (Next.value (.int .u8 (IntKind.u8.wrap a))):=by rfl
theorem UX:zl az 100 100=true:=by kernel_rfl
theorem SU (k:Nat) (tM:k<=4294967295) (h:Heap) (K:aF) (hk:∀ h',Ext h h'->K (.string (kQ (cJ k))) h'):Ok prog az ov 154 [.int .u32 k] h K:=by
 rw [ak h]
 have z:=Ext.refl h
 refine Ok.au 20 (br BH) ?_
 simp only [aa,seval,kY]
 obtain ⟨I1,aU⟩:∃ I:Nat->Env->Heap->Prop,I=(λn e h'=>∃ (m:Nat) (l:List Nat) (A:Nat) (wv:ai) (h1:Heap),h'=h1.lay [] h1.low/\Ext h h1/\(n=m/\m<=k/\cJ k=l++cJ m/\Ow aQ.byte h h1 5 A wv l/\l.length+m<=k)/\∃ J:Nat->ai,e=(.int .u32 m::jr J 1 2 (wv::jr J 4 17 ([])))):=⟨_,rfl⟩
 refine dK I1 _ (by rw [aU];exact ⟨k,[],h.size,.slice none 0 0,_,rfl,z,⟨rfl,by omega,rfl,Ow.nil (bg _),by simp⟩,bx⟩) ?_
 intro n e h' aR
 rw [aU] at aR
 obtain ⟨m,l,A,wv,b8,rfl,z,hinv,J,rfl⟩:=aR
 obtain ⟨x5,Hd,DG,ow,Qi⟩:=hinv
 obtain rfl:m=n:=x5.symm
 have hz:=z.size
 simp only [aa,seval,kY]
 refine bp (λmi=>?_) (λmi=>?_)
 .have fJ:=zrA (P:=prog) (T:=az) (t:=144) (a:=m) (b:=127) (by omega) (by decide)
  rw [zvl] at fJ
  replace fJ:bD prog az .and 144 (.int .u32 (m:Nat)) (.int .u32 127)=some (.int .u32 ((m % 128:Nat):Int)):=fJ
  have iJ:=zvH (P:=prog) (T:=az) (t:=5) (a:=m % 128) (b:=128) (by omega) (by decide)
  rw [zxc (by omega)] at iJ
  replace iJ:bD prog az .or 5 (.int .u8 (m % 128:Nat)) (.int .u8 128)=some (.int .u8 ((m % 128+128:Nat):Int)):=iJ
  have sJ:=zrC (P:=prog) (T:=az) (t:=144) (k2:=.u64) (a:=m)
  simp only [aa,seval,kY,fJ]
  rw [lB rfl rfl rfl (TG _) rfl,AL (by omega) (by omega)]
  repeat' (simp only [aa,seval,kY,iJ])
  simp only [gf,seval,F7,UX]
  refine Ou (i:=0) (cs:=[.int .u8 ((m % 128+128:Nat):Int)]) (x:=m % 128+128) GJ Nl rfl (by decide) (by rfl) hz ow rfl (by omega) (by omega) (λw3 h3 A3 Ah lH zL=>?_)
  have zV:=ow.fresh
  replace z:=z.cX lH zV (by omega)
  rw [ak h3]
  repeat' (simp only [aa,seval,kY,sJ])
  (rw [aU];with_reducible refine db (m:=_) ?_ ⟨m / 128,l++[m % 128+128],A3,w3,_,rfl,z,⟨rfl,by omega,by rw [DG,qb (by omega),mY,List.singleton_append],Ah,by rw [hJ,zm];omega⟩,bx⟩;omega)
 .have He:=pw (n:=m) (by omega)
  rw [He] at DG
  simp only [aa,seval,kY]
  rw [lB rfl rfl rfl (TG _) rfl,AL (by omega) (by omega)]
  repeat' (simp only [aa,seval,kY])
  simp only [gf,seval,F7,UX]
  refine Ou (i:=0) (cs:=[.int .u8 ((m:Nat):Int)]) (x:=m) GJ Nl rfl (by decide) (by rfl) hz ow rfl (by omega) (by omega) (λw3 h3 A3 Ah lH zL=>?_)
  have zV:=ow.fresh
  replace z:=z.cX lH zV (by omega)
  rw [<- DG] at Ah
  rw [ak h3]
  simp only [aa,seval,kY]
  refine zwG (h0:=h) (u:=5) GJ PL zI rfl (Ah.mono (dz.lay _ _ _)) (zwo _) rfl ?_
  simp only [aa,seval,kY]
  exact hk _ z.ao
def U0:=bq f16
def MF:=PLift.up (by have c:=bw U0 f16;simp only [aJ,f16,seval] at c;exact nd c <| nd @pj <| nd @cP <| nd @nH <| @JX)
def BS:=bq f167
def E4:=PLift.up (by have c:=bw BS f167;simp only [aJ,f167,seval] at c;exact nd c <| @zyf)
theorem CF:type_of% E4.down:=E4.down
def Cf:=bq f243
def Fz:=PLift.up (by have c:=bw Cf f243;simp only [aJ,f243,seval] at c;exact nd c <| @zyC)
theorem CL:type_of% Fz.down:=Fz.down
def Cg:=bq f244
def FA:=PLift.up (by have c:=bw Cg f244;simp only [aJ,f244,seval] at c;exact nd c <| @zyD)
theorem CM:type_of% FA.down:=FA.down
def B8:=bq f213
def Fs:=PLift.up (by have c:=bw B8 f213;simp only [aJ,f213,seval] at c;exact nd c <| nd @ou <| @zyv)
theorem j1:type_of% Fs.down:=Fs.down
def B5:=bq f210
def Fo:=PLift.up (by have c:=bw B5 f210;simp only [aJ,f210,seval] at c;exact nd c <| nd @ou <| @zys)
theorem j0:type_of% Fo.down:=Fo.down
def B9:=bq f214
def Ft:=PLift.up (by have c:=bw B9 f214;simp only [aJ,f214,seval] at c;exact nd c <| nd @kc <| nd @eO <| nd @kg <| @zyw)
theorem w7:type_of% Ft.down:=Ft.down
def Ck:=bq f248
def FF:=PLift.up (by have c:=bw Ck f248;simp only [aJ,f248,seval] at c;exact nd c <| nd @wU <| @zyH)
theorem Jy:type_of% FF.down:=FF.down
def BR:=bq f166
def E3:=PLift.up (by have c:=bw BR f166;simp only [aJ,f166,seval] at c;exact nd c <| @zye)
theorem qu:type_of% E3.down:=E3.down
def Bp:=bq f101
def Ew:=PLift.up (by have c:=bw Bp f101;simp only [aJ,f101,seval] at c;exact nd c <| @zxM)
theorem oL:type_of% Ew.down:=Ew.down
def Bq:=bq f102
def Ey:=PLift.up (by have c:=bw Bq f102;simp only [aJ,f102,seval] at c;exact nd c <| @zxN)
theorem wV:type_of% Ey.down:=Ey.down
def wI:=bq f155
def EP:=PLift.up (by have c:=bw wI f155;simp only [aJ,f155,seval] at c;exact nd c <| nd @wm <| nd @zc <| nd @pk <| nd @eO <| @zx4)
theorem tm:type_of% EP.down:=EP.down
def Jc:=bq f89
def Rl:=PLift.up (by have c:=bw Jc f89;simp only [aJ,f89,seval] at c;exact nd c <| nd @sb <| nd @zd <| nd @s9 <| nd @ta <| nd @mw <| nd @jy <| nd @nF <| nd @eO <| @Kx)
theorem gE:type_of% Rl.down:=Rl.down
theorem NO (c:Int) (h:Heap) (K:aF) (h1:(97<=c/\c<=122)->K (.bool true) h) (h2:¬ (97<=c/\c<=122)->K (.bool false) h):Ok prog az ov 167 [.int .u8 c] h K:=by
 refine Ok.au 8 (br BS) ?_
 simp only [aa,seval,CF]
 repeat' (refine bp (λc=>?_) (λc=>?_) <;> simp only [aa,seval,CF])
 all_goals first|exact h1 (by omega)|exact h2 (by omega)
theorem TN (c:Int) (h:Heap) (K:aF) (h1:(65<=c/\c<=90)->K (.bool true) h) (h2:¬ (65<=c/\c<=90)->K (.bool false) h):Ok prog az ov 243 [.int .u8 c] h K:=by
 refine Ok.au 8 (br Cf) ?_
 simp only [aa,seval,CL]
 repeat' (refine bp (λc=>?_) (λc=>?_) <;> simp only [aa,seval,CL])
 all_goals first|exact h1 (by omega)|exact h2 (by omega)
theorem TM (c:Int) (h:Heap) (K:aF) (h1:(48<=c/\c<=57)->K (.bool true) h) (h2:¬ (48<=c/\c<=57)->K (.bool false) h):Ok prog az ov 244 [.int .u8 c] h K:=by
 refine Ok.au 8 (br Cg) ?_
 simp only [aa,seval,CM]
 repeat' (refine bp (λc=>?_) (λc=>?_) <;> simp only [aa,seval,CM])
 all_goals first|exact h1 (by omega)|exact h2 (by omega)
end Go.Proofs.YtjildadoepadeaaGreatDoor
namespace Go.Proofs.YtjildadoepadeaaGreatDoor
open Go.Am
theorem Ug:mJ az 38 []=some aZ.val:=by kernel_rfl
theorem AF (a:ae) (k:Nat) (hk:k < 4):cut a.cells (3+k*2) 2=some (a.arg k).cells:=by
 have:k=0\/k=1\/k=2\/k=3:=by omega
 rcases this with rfl|rfl|rfl|rfl <;> rfl
theorem FW (a:aH):Value.agg a.cells.toArray=a.val:=rfl
theorem Iu (a:ae):a.cells[0]? = some (.string a.says):=rfl
theorem N7 (a:ae):a.cells[1]? = some (.string a.pred):=rfl
theorem y5 (a:ae):a.cells[2]? = some (.int .i64 a.n):=rfl
end Go.Proofs.YtjildadoepadeaaGreatDoor
