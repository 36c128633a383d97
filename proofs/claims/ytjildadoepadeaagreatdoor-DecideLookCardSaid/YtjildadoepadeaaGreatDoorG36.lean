/- The code of some functions, node by node, for simp. Written by a program (mkcode.py). No condition. -/
import Derived.Test.YtjildadoepadeaaGreatDoorG29
set_option linter.unusedSimpArgs false
set_option linter.unusedVariables false
set_option maxRecDepth 100000
set_option maxHeartbeats 0
noncomputable section
namespace Go.Proofs.YtjildadoepadeaaGreatDoor
open Go.Am Tryz
def Co:=bq f268
def FJ:=PLift.up (by have c:=bw Co f268;simp only [aJ,f268,seval] at c;exact nd c <| nd @ou <| @zyL)
theorem ff:type_of% FJ.down:=FJ.down
def Ci:=bq f246
def FC:=PLift.up (by have c:=bw Ci f246;simp only [aJ,f246,seval] at c;exact nd c <| nd @Ob <| nd @Iq <| nd @Gf <| nd @jy <| nd @pk <| nd @eO <| @zyF)
theorem j2:type_of% FC.down:=FC.down
def Ch:=bq f245
def FB:=PLift.up (by have c:=bw Ch f245;simp only [aJ,f245,seval] at c;exact nd c <| nd @Ob <| nd @Iq <| nd @Gf <| nd @jy <| nd @pk <| nd @eO <| nd @ou <| @zyE)
theorem fe:type_of% FB.down:=FB.down
def Cj:=bq f247
def FD:=PLift.up (by have c:=bw Cj f247;simp only [aJ,f247,seval] at c;exact nd c <| nd @Ob <| nd @Iq <| nd @Gf <| nd @jy <| nd @pk <| nd @eO <| nd @ou <| @zyG)
theorem gu:type_of% FD.down:=FD.down
def B6:=bq f211
def Fp:=PLift.up (by have c:=bw B6 f211;simp only [aJ,f211,seval] at c;exact nd c <| nd @qo <| nd @Gf <| nd @Uf <| nd @wm <| nd @zc <| nd @sb <| nd @zd <| nd @s9 <| nd @ta <| nd @mw <| nd @pk <| nd @cP <| @zyt)
theorem bC:type_of% Fp.down:=Fp.down
def tf:=bq f159
def EV:=PLift.up (by have c:=bw tf f159;simp only [aJ,f159,seval] at c;exact nd c <| nd @qo <| nd @Iq <| nd @Gf <| nd @Uf <| nd @jy <| nd @pk <| @cP)
theorem kZ:type_of% EV.down:=EV.down
def BK:=bq f158
def EU:=PLift.up (by have c:=bw BK f158;simp only [aJ,f158,seval] at c;exact nd c <| nd @Oa <| nd @Ip <| nd @rN <| nd @eO <| nd @ou <| @zx7)
theorem m8:type_of% EU.down:=EU.down
def Pv:=bq f92
def Ro:=PLift.up (by have c:=bw Pv f92;simp only [aJ,f92,seval] at c;exact nd c <| @KA)
theorem xa:type_of% Ro.down:=Ro.down
def Pw:=bq f93
def Rp:=PLift.up (by have c:=bw Pw f93;simp only [aJ,f93,seval] at c;exact nd c <| nd @qo <| nd @Oa <| nd @Ip <| nd @rN <| nd @cP <| nd @eO <| @KB)
theorem sC:type_of% Rp.down:=Rp.down
def Px:=bq f94
def Rq:=PLift.up (by have c:=bw Px f94;simp only [aJ,f94,seval] at c;exact nd c <| nd @Oa <| nd @Ip <| nd @rN <| nd @eO <| nd @KD <| @KJ)
theorem CQ:type_of% Rq.down:=Rq.down
def Py:=bq f95
def Rr:=PLift.up (by have c:=bw Py f95;simp only [aJ,f95,seval] at c;exact nd c <| nd @Gr <| nd @Gs <| nd @jy <| nd @cP <| @KE)
theorem xb:type_of% Rr.down:=Rr.down
def Pc:=bq f51
def Q3:=PLift.up (by have c:=bw Pc f51;simp only [aJ,f51,seval] at c;exact nd c <| nd @wS <| nd @Ip <| nd @rN <| nd @ui <| nd @ou <| @Kg)
theorem ky:type_of% Q3.down:=Q3.down
theorem zsQ (a:Int):dX prog (Next.value <$> convert 5 46 (.int .u8 a))=some (Next.value (.int .u64 (IntKind.u64.wrap a))):=by rfl
theorem SW (a:Int):dX prog (Next.value <$> convert 46 144 (.int .u64 a))=some (Next.value (.int .u32 (IntKind.u32.wrap a))):=by rfl
theorem Nv (s:aA) (i:Nat):gG s ((i:Int).toNat)=(dm s i:Int):=by rw [Gl];rfl
theorem ZS (s:aA) (h:Heap) (hs:s.size<=100000) (K:aF) (ea:gV s=none->∀ h',Ext h h'->K (.tuple #[.int .u32 0,.int .i64 0,.int .i64 15]) h') (gR:∀ n k:Nat,gV s=some (n,k)->∀ h',Ext h h'->K (.tuple #[.int .u32 n,.int .i64 k,.int .i64 0]) h'):Ok prog az ov 268 [.string s] h K:=by
 rw [ak h]
 have z:=Ext.refl h
 refine Ok.au 44 (br Co) ?_
 simp only [aa,seval,ff]
 refine N1 rfl rfl ?_
 have zY:(if (5:Int) < (s.size:Int) then (5:Int) else (s.size:Int))=((min s.size 5:Nat):Int):=by split <;> omega
 rw [zY]
 simp only [aa,seval,ff]
 obtain ⟨I1,aU⟩:∃ I:Nat->Env->Heap->Prop,I=(λn e h'=>∃ (i:Nat) (h1:Heap),h'=h1.lay [] h1.low/\Ext h h1/\(n=min s.size 5 - i/\i<=min s.size 5/\(∀ j,j < i->128<=dm s j))/\∃ J:Nat->ai,e=(.string s::jr J 1 4 (.int .u64 (iO s i)::jr J 6 3 (.int .i64 (min s.size 5:Nat)::.int .i64 i::jr J 11 34 ([]))))):=⟨_,rfl⟩
 refine dK I1 _ (by rw [aU];exact ⟨0,_,rfl,z,⟨rfl,by omega,by simp⟩,bx⟩) ?_
 intro n e h' aR
 rw [aU] at aR
 obtain ⟨i,b8,rfl,z,hinv,J,rfl⟩:=aR
 obtain ⟨rfl,hi,hb⟩:=hinv
 have j9:=ec i (by omega)
 have WL:IntKind.i64.wrap (7*(i:Int))=((7*i:Nat):Int):=by rw [wrap_i64 (by omega) (by omega)];omega
 have j6:=Nw s i
 simp only [aa,seval,ff]
 refine bp (λaS=>?_) (λaS=>?_)
 rotate_left
 .repeat' ( simp only [aa,seval,ff])
  exact ea (by unfold gV;rw [zrY (λj hj=>hb j (by omega))]) _ z.ao
 have DP:2 ^ (7*i)<=2 ^ 28:=Nat.pow_le_pow_right (by decide) (by omega)
 rw [show (2:Nat) ^ 28=268435456 by decide] at DP
 have hpr:dm s i % 128*2 ^ (7*i)<=127*268435456:=Nat.mul_le_mul (by omega) DP
 have P2:=Is s i
 have Vt:=Is s (i+1)
 have LV:=zrB (P:=prog) (T:=az) (t:=46) (k2:=.i64) (a:=dm s i % 128) (n:=7*i) (by omega) (by omega)
 have Wo:bD prog az .or 46 (.int .u64 (iO s i:Nat)) (.int .u64 (dm s i % 128*2 ^ (7*i):Nat))=some (.int .u64 ((iO s (i+1):Nat):Int)):=ztu (by omega) (by omega)
 have hand:=ztt (P:=prog) (T:=az) (t:=5) (a:=dm s i) (b:=128) j6 (by decide)
 rw [zvm j6] at hand
 have hnz:(((128:Nat):Int) != 0)=true:=rfl
 simp only [aa,seval,ff]
 refine pE underlying9 rfl rfl (by omega) (by omega) ?_
 rw [Nv]
 simp only [aa,seval,ff,Zc j6]
 rw [lB rfl rfl rfl (zsQ _) rfl,NH (by omega) (by omega)]
 simp only [aa,seval,ff,zvF,WL,LV,Wo]
 refine pE underlying9 rfl rfl (by omega) (by omega) ?_
 rw [Nv]
 by_cases qM:dm s i < 128
 .rw [aC qM] at hand
  replace hand:bD prog az .and 5 (.int .u8 (dm s i:Nat)) (.int .u8 128)=some (.int .u8 0):=hand
  have Dc:∀ (Q:Ex->Env->Heap->Prop) (e:Env) (h:Heap),wh 1 Q (.exit 0) e h=Q (.exit 0) e h:=λQ e h=>rfl
  have gx:=Ts (s:=s) (i:=i) (by omega) hb qM
  have rH:IntKind.i64.wrap ((i:Int)+1)=((i+1:Nat):Int):=j9
  simp only [aa,seval,ff,hand,bne_self_eq_false]
  refine bp (λnz=>?_) (λnz=>?_)
  .repeat' ( simp only [aa,seval,ff,Dc])
   exact ea (by unfold gV;rw [gx];exact aC (.inl (by omega))) _ z.ao
  simp only [aa,seval,ff]
  refine bp (λpS=>?_) (λpS=>?_)
  .simp only [aa,seval,ff]
   refine pE underlying9 rfl rfl (by omega) (by omega) ?_
   rw [Nv]
   simp only [aa,seval,ff]
   refine sj (λhz=>?_) (λhz=>?_)
   .repeat' ( simp only [aa,seval,ff,Dc])
    exact ea (by unfold gV;rw [gx];exact aC (.inr ⟨by omega,by omega⟩)) _ z.ao
   .simp only [aa,seval,ff]
    rw [lB rfl rfl rfl (SW _) rfl,F8 (by omega) (by omega)]
    repeat' (simp only [aa,seval,ff,rH])
    exact gR _ _ (by unfold gV;rw [gx];exact ay (by omega)) _ z.ao
  .simp only [aa,seval,ff]
   rw [lB rfl rfl rfl (SW _) rfl,F8 (by omega) (by omega)]
   repeat' (simp only [aa,seval,ff,rH])
   exact gR _ _ (by unfold gV;rw [gx];exact ay (by omega)) _ z.ao
 .rw [ay qM] at hand
  replace hand:bD prog az .and 5 (.int .u8 (dm s i:Nat)) (.int .u8 128)=some (.int .u8 128):=hand
  simp only [aa,seval,ff,hand,show ((128:Int) != 0)=true from rfl]
  rw [j9]
  (rw [aU];(with_reducible refine db (m:=_) ?_ ⟨i+1,_,rfl,z,⟨rfl,by omega,λj hj=>by
   by_cases e:j=i
   .subst e;omega
   .exact hb j (by omega)⟩,bx⟩);omega)
end Go.Proofs.YtjildadoepadeaaGreatDoor
