/- The code of some functions, node by node, for simp. Written by a program (mkcode.py). No condition. -/
import Derived.Test.YtnkmeidmdaidhaaGreatDoorG13
import Derived.Test.YtnkmeidmdaidhaaGreatDoorG14
set_option linter.unusedSimpArgs false
set_option linter.unusedVariables false
set_option maxRecDepth 100000
set_option maxHeartbeats 0
noncomputable section
namespace Go.Proofs.YtnkmeidmdaidhaaGreatDoor
open Go.Am Tryz
def N8:=bD f8
def x8:=PLift.up (by have c:=bG N8 f8;simp only [aQ,f8,seval] at c;exact nd c <| nd @r9 <| nd @Kj <| nd @C6 <| nd @vZ <| nd @nN <| nd @jZ <| nd @Se <| @fi8)
theorem c8:type_of% x8.down:=x8.down
def Vm:=bD f21
def Ja:=PLift.up (by have c:=bG Vm f21;simp only [aQ,f21,seval] at c;exact nd c <| nd @fJ <| nd @cj <| nd @fK <| @Oh)
theorem KG:type_of% Ja.down:=Ja.down
def N7:=bD f7
def x7:=PLift.up (by have c:=bG N7 f7;simp only [aQ,f7,seval] at c;exact nd c <| nd @yi <| nd @yj <| nd @mV <| nd @ix <| nd @cj <| nd @px <| @fi7)
theorem c7:type_of% x7.down:=x7.down
def Vk:=bD f17
def I7:=PLift.up (by have c:=bG Vk f17;simp only [aQ,f17,seval] at c;exact nd c <| @Oe)
theorem DG:type_of% I7.down:=I7.down
def N9:=bD f9
def x9:=PLift.up (by have c:=bG N9 f9;simp only [aQ,f9,seval] at c;exact nd c <| nd @oO <| @fi9)
theorem c9:type_of% x9.down:=x9.down
def N12:=bD f12
def SL:=PLift.up (by have c:=bG N12 f12;simp only [aQ,f12,seval] at c;exact nd c <| nd @Aq <| nd @yi <| nd @yj <| nd @mV <| nd @ix <| nd @cj <| nd @px <| @N6)
theorem Uh (a:ae) (h:Heap) (K:aL) (h1:a.bE=true->∀ h',Ext h h'->K (.bool true) h') (h2:a.bE=false->∀ h',Ext h h'->K (.bool false) h'):Ok prog aH ov 8 [a.val] h K:=by
 rw [aq h]
 have z:=Ext.refl h
 unfold ae.val ae.cells
 refine Ok.aC 29 (bH N8) ?_
 simp only [aa,seval,c8]
 repeat' ((first|((with_reducible apply b9) <;> intro _)|with_reducible refine Mz ?_) <;> simp only [aa,seval,c8])
 all_goals first
  |with_reducible exact h2 (by simp [ae.bE];omega) _ z.aw
  |with_reducible exact h1 (by simp [ae.bE];omega) _ z.aw
theorem znW (l:aU) (v:ai) (m:Int) (h:Heap) (hl:Sl aF.atom h v l) (K:aL) (h1:(l.length:Int)<=m->(∀ a∈l,a.bE=true)->∀ h',Ext h h'->K (.bool true) h') (h2:∀ h',Ext h h'->K (.bool false) h'):Ok prog aH ov 21 [v,.int .i64 m] h K:=by
 rw [aq h]
 have z:=Ext.refl h
 have hle:=hl.le
 refine Ok.aC 20 (bH Vm) ?_
 simp only [aa,seval,KG]
 repeat' ((first|((with_reducible apply b9) <;> intro _)|with_reducible refine pG hl cF ?_) <;> simp only [aa,seval,KG])
 .exact h2 _ z.aw
 refine zzW (λe h'=>∃ (i:Nat) (h1:Heap) (x1 x2 x3 x4 x6 x7 x8 x9 Ir SK SL SM IZ SN SO I7 I8 I9 X4 Ja:ai),h'=h1.lay [] h1.low/\Ext h h1/\i<=l.length/\(∀ a∈l.take i,a.bE=true)/\e=[v,x1,x2,x3,x4,.int .i64 i,x6,x7,x8,x9,Ir,SK,SL,SM,IZ,SN,SO,I7,I8,I9,X4,Ja]) (λe _=>match e.get 5 with | .int _ i=>l.length - i.toNat|_=>0) ?_ ?_
 .exact ⟨0,h,_,_,_,_,_,_,_,_,_,_,_,_,_,_,_,_,_,_,_,_,rfl,z,by omega,by simp,rfl⟩
 rintro e h' ⟨i,bW,x1,x2,x3,x4,x6,x7,x8,x9,Ir,SK,SL,SM,IZ,SN,SO,I7,I8,I9,X4,Ja,rfl,z,hi,aD,rfl⟩
 have hw:i < l.length->IntKind.i64.wrap ((i:Int)+1)=((i+1:Nat):Int):=λhh=>by unfold maxLen at hle;rw [ez (by omega) (by omega)];omega
 simp only [aa,seval,KG]
 repeat' ((first|((with_reducible apply b9) <;> intro _)|with_reducible refine pG hl cF ?_|with_reducible refine XB (hl.mono z.inc) cF cw (by omega) (by omega) (λa p ha hp=>?_)|with_reducible refine rq hp iM cw ?_|((with_reducible refine Uh _ _ _ (λXe h' x=>?_) (λXe h' x=>?_)) <;> (replace z:=z.ao x;rw [aq h']))|((with_reducible apply cn);(· rfl))) <;> simp only [aa,seval,KG])
 all_goals first
  |with_reducible exact h2 _ z.aw
  |with_reducible exact h1 (by omega) (by rw [iK (by omega)] at aD;exact aD) _ z.aw
  |(rw [hw (by omega)]
    with_reducible refine znH ?_ ?_
    .exact ⟨i+1,h',_,_,_,_,_,_,_,_,_,_,_,_,_,_,_,_,_,_,_,_,rfl,z,by omega,uI ha aD Xe,rfl⟩
    .show l.length - ((i+1:Nat):Int).toNat < l.length - (i:Int).toNat
     omega)
end Go.Proofs.YtnkmeidmdaidhaaGreatDoor
namespace Go.Proofs.YtnkmeidmdaidhaaGreatDoor
open Go.Am
def pN (n m:Int):Int:=if m < 1 then 0 else if n.tmod m < 0 then n.tmod m+m else n.tmod m
theorem T6 (n m:Int) (hm:1<=m):0<=pN n m/\pN n m < m:=by
 unfold pN
 rw [aA (by omega)]
 have h1:=Int.tmod_lt_of_pos n (show 0 < m by omega)
 have h2:=Int.lt_tmod_of_pos n (show 0 < m by omega)
 split <;> omega
end Go.Proofs.YtnkmeidmdaidhaaGreatDoor
namespace Go.Proofs.YtnkmeidmdaidhaaGreatDoor
open Go.Am Tryz
theorem zzu (n m:Int) (h:Heap) (K:aL) (hm:m<=4611686018427387904) (hk:K (.int .i64 (pN n m)) h):Ok prog aH ov 17 [.int .i64 n,.int .i64 m] h K:=by
 refine Ok.aC 15 (bH Vk) ?_
 simp only [aa,seval,DG]
 refine b9 (λc=>?_) (λc=>?_)
 .simp only [aa,seval,DG]
  have:pN n m=0:=by unfold pN;rw [aG c]
  rw [this] at hk
  exact hk
 have hb:=T6 n m (by omega)
 have hd:pN n m=if n.tmod m < 0 then n.tmod m+m else n.tmod m:=by unfold pN;rw [aA c]
 simp only [aa,seval,DG]
 rw [zyH (by omega)]
 simp only [aa,seval,DG]
 refine b9 (λc2=>?_) (λc2=>?_)
 .rw [aG c2] at hd
  rw [hd] at hk hb
  simp only [aa,seval,DG]
  rw [ez (by omega) (by omega)]
  exact hk
 .rw [aA c2] at hd
  rw [hd] at hk
  simp only [aa,seval,DG]
  exact hk
theorem zjm (l:List ay) (facts:aU) (v w:ai) (h:Heap) (hl:Sl aF.clause h v l) (hf:Sl aF.atom h w facts) (K:aL)
 (h1:l.length<=6->facts.length<=12->(∀ r∈l,r.body.length<=3)->∀ h',Ext h h'->K (.bool true) h') (h2:∀ h',Ext h h'->K (.bool false) h'):Ok prog aH ov 7 [v,w] h K:=by
 rw [aq h]
 have z:=Ext.refl h
 refine Ok.aC 34 (bH N7) ?_
 simp only [aa,seval,c7]
 repeat' ((first|((with_reducible apply b9) <;> intro _)|with_reducible refine pG hl iv ?_|((with_reducible refine znW _ _ _ _ ((hf.mono z.inc).lay _ _) _ (λhlf GU h' x=>?_) (λh' x=>?_)) <;> (replace z:=z.ao x;rw [aq h']))|((with_reducible apply cn);(· rfl))) <;> simp only [aa,seval,c7])
 all_goals try exact h2 _ z.aw
 obtain ⟨I1,aY⟩:∃ I:Nat->Env->Heap->Prop,I=(λn e h'=>∃ (i:Nat) (h1:Heap),h'=h1.lay [] h1.low/\Ext h h1/\(n=l.length - i/\i<=l.length/\∀ r∈l.take i,r.body.length<=3)/\∃ J:Nat->ai,e=(v::jr J 1 4 (.int .i64 i::jr J 6 30 ([])))):=⟨_,rfl⟩
 refine dV I1 _ (by rw [aY];exact ⟨0,_,rfl,z,⟨rfl,by omega,by simp⟩,bw⟩) ?_
 intro n e h' aT
 rw [aY] at aT
 obtain ⟨i,bW,rfl,z,hinv,J,rfl⟩:=aT
 obtain ⟨rfl,hi,aD⟩:=hinv
 have hw:=fe i (by omega)
 repeat' (first|simp only [aa,seval,c7]|((with_reducible apply b9) <;> intro _)|with_reducible refine pG hl iv ?_)
 rotate_left
 .exact h1 (by omega) (by omega) (by rw [iK (by omega)] at aD;exact aD) _ z.aw
 obtain ⟨r,hr,cv⟩:=ig (l:=l) (i:=i) (by assumption)
 repeat' ((first|with_reducible refine EW (hl.mono z.inc) iv jo (by omega) hr (λp bd fO hp=>?_)|with_reducible refine NZ hp yi (λp hp=>?_)|with_reducible refine N0 hp yj (λq hq=>?_)|with_reducible refine rq hp iM cw ?_|with_reducible refine sc hq FU ?_|((with_reducible refine Uh _ _ _ (λLf h' x=>?_) (λLf h' x=>?_)) <;> (replace z:=z.ao x;rw [aq h']))|((with_reducible refine znW _ _ _ _ (fO.mono (bQ.lay _ _ _)) _ (λhlen xf h' x=>?_) (λh' x=>?_)) <;> (replace z:=z.ao x;rw [aq h']))|((with_reducible apply cn);(· rfl))) <;> simp only [aa,seval,c7])
 all_goals first
  |with_reducible exact h2 _ z.aw
  |(rw [hw];(rw [aY];with_reducible refine cR (m:=_) ?_ ⟨i+1,_,rfl,z,⟨rfl,by omega,uI (i:=i) (P:=λr:ay=>r.body.length<=3) cv aD (by show r.body.length<=3;omega)⟩,bw⟩;omega))
end Go.Proofs.YtnkmeidmdaidhaaGreatDoor
