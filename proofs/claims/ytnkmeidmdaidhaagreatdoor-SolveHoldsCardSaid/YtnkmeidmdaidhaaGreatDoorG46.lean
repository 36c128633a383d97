/- The code of some functions, node by node, for simp. Written by a program (mkcode.py). No condition. -/
import Derived.Test.YtnkmeidmdaidhaaGreatDoorG12
import Derived.Test.YtnkmeidmdaidhaaGreatDoorG13
set_option linter.unusedSimpArgs false
set_option linter.unusedVariables false
set_option maxRecDepth 100000
set_option maxHeartbeats 0
noncomputable section
namespace Go.Proofs.YtnkmeidmdaidhaaGreatDoor
open Go.Am Tryz
def XE:=bR f16
def KU:=PLift.up (by have c:=bU XE f16;simp only [aS,f16,seval] at c;exact nd c <| nd @uO <| nd @Ml <| nd @jx <| nd @cJ <| nd @iG <| @Qr)
theorem HU:type_of% KU.down:=KU.down
def N18:=bR f18
def U3:=PLift.up (by have c:=bU N18 f18;simp only [aS,f18,seval] at c;exact nd c <| nd @Ml <| nd @Pd <| nd @Xo <| nd @zzf <| nd @jx <| nd @nH <| nd @zw <| @Qt)
def N19:=bR f19
def U4:=PLift.up (by have c:=bU N19 f19;simp only [aS,f19,seval] at c;exact nd c <| nd @HH <| nd @Ml <| nd @Pd <| nd @Xo <| nd @zzf <| nd @zzi <| nd @zBu <| nd @zzj <| nd @Uj <| nd @jx <| nd @cJ <| nd @nH <| nd @zw <| nd @D4 <| nd @Ur <| @Qu)
def N5:=bR f5
def x5:=PLift.up (by have c:=bU N5 f5;simp only [aS,f5,seval] at c;exact nd c <| nd @uO <| nd @Pd <| nd @cJ <| nd @nH <| nd @JW <| @fi5)
theorem c5:type_of% x5.down:=x5.down
def N4:=bR f4
def x4:=PLift.up (by have c:=bU N4 f4;simp only [aS,f4,seval] at c;exact nd c <| nd @uO <| nd @Ml <| nd @iF <| nd @jx <| nd @cJ <| nd @iG <| @fi4)
theorem c4:type_of% x4.down:=x4.down
def N3:=bR f3
def x3:=PLift.up (by have c:=bU N3 f3;simp only [aS,f3,seval] at c;exact nd c <| nd @kc <| nd @uO <| nd @Cv <| nd @qO <| nd @E0 <| nd @Ae <| nd @Af <| nd @Ml <| nd @Pd <| nd @Xo <| nd @oG <| nd @iF <| nd @D0 <| nd @jx <| nd @cJ <| nd @nH <| nd @lD <| nd @rk <| nd @iG <| nd @D7 <| nd @Ut <| @fi3)
theorem c3:type_of% x3.down:=x3.down
def N10:=bR f10
def Ko:=PLift.up (by have c:=bU N10 f10;simp only [aS,f10,seval] at c;exact nd c <| nd @kc <| nd @xY <| nd @pO <| nd @cJ <| @Ql)
theorem Fw:type_of% Ko.down:=Ko.down
def N13:=bR f13
def U1:=PLift.up (by have c:=bU N13 f13;simp only [aS,f13,seval] at c;exact nd c <| nd @kc <| nd @xY <| nd @pO <| nd @cJ <| @Qo)
def N8:=bR f8
def x8:=PLift.up (by have c:=bU N8 f8;simp only [aS,f8,seval] at c;exact nd c <| nd @uA <| nd @Mk <| nd @E0 <| nd @xY <| nd @pO <| nd @lD <| nd @Ut <| @fi8)
theorem c8:type_of% x8.down:=x8.down
def XG:=bR f21
def KW:=PLift.up (by have c:=bU XG f21;simp only [aS,f21,seval] at c;exact nd c <| nd @iF <| nd @cJ <| nd @iG <| @Qv)
theorem MG:type_of% KW.down:=KW.down
def N7:=bR f7
def x7:=PLift.up (by have c:=bU N7 f7;simp only [aS,f7,seval] at c;exact nd c <| nd @Ae <| nd @Af <| nd @oG <| nd @jx <| nd @cJ <| nd @rk <| @fi7)
theorem c7:type_of% x7.down:=x7.down
def XF:=bR f17
def KV:=PLift.up (by have c:=bU XF f17;simp only [aS,f17,seval] at c;exact nd c <| @Qs)
theorem Fx:type_of% KV.down:=KV.down
def N9:=bR f9
def x9:=PLift.up (by have c:=bU N9 f9;simp only [aS,f9,seval] at c;exact nd c <| nd @qO <| @fi9)
theorem c9:type_of% x9.down:=x9.down
def N12:=bR f12
def El:=PLift.up (by have c:=bU N12 f12;simp only [aS,f12,seval] at c;exact nd c <| nd @Cv <| nd @Ae <| nd @Af <| nd @oG <| nd @jx <| nd @cJ <| nd @rk <| @Qn)
theorem yq:type_of% El.down:=El.down
theorem Wz (a:ae) (h:Heap) (K:aO) (h1:a.bQ=true->∀ h',Ext h h'->K (.bool true) h') (h2:a.bQ=false->∀ h',Ext h h'->K (.bool false) h'):Ok prog aJ ov 8 [a.val] h K:=by
 rw [az h]
 have z:=Ext.refl h
 unfold ae.val ae.cells
 refine Ok.aF 29 (bY N8) ?_
 simp only [aa,seval,c8]
 repeat' ((first|((with_reducible apply cm) <;> intro _)|with_reducible refine OB ?_) <;> simp only [aa,seval,c8])
 all_goals first
  |with_reducible exact h2 (by simp [ae.bQ];omega) _ z.aw
  |with_reducible exact h1 (by simp [ae.bQ];omega) _ z.aw
theorem zoU (l:aN) (v:ai) (m:Int) (h:Heap) (hl:Sl aG.atom h v l) (K:aO) (h1:(l.length:Int)<=m->(∀ a∈l,a.bQ=true)->∀ h',Ext h h'->K (.bool true) h') (h2:∀ h',Ext h h'->K (.bool false) h'):Ok prog aJ ov 21 [v,.int .i64 m] h K:=by
 rw [az h]
 have z:=Ext.refl h
 have hle:=hl.le
 refine Ok.aF 20 (bY XG) ?_
 simp only [aa,seval,MG]
 repeat' ((first|((with_reducible apply cm) <;> intro _)|with_reducible refine rF hl cM ?_) <;> simp only [aa,seval,MG])
 .exact h2 _ z.aw
 refine zA2 (λe h'=>∃ (i:Nat) (h1:Heap) (x1 x2 x3 x4 x6 x7 x8 x9 Ko U0 El U1 KR U2 KU KV U3 U4 x20 KW:ai),h'=h1.lay [] h1.low/\Ext h h1/\i<=l.length/\(∀ a∈l.take i,a.bQ=true)/\e=[v,x1,x2,x3,x4,.int .i64 i,x6,x7,x8,x9,Ko,U0,El,U1,KR,U2,KU,KV,U3,U4,x20,KW]) (λe _=>match e.get 5 with | .int _ i=>l.length - i.toNat|_=>0) ?_ ?_
 .exact ⟨0,h,_,_,_,_,_,_,_,_,_,_,_,_,_,_,_,_,_,_,_,_,rfl,z,by omega,by simp,rfl⟩
 rintro e h' ⟨i,cF,x1,x2,x3,x4,x6,x7,x8,x9,Ko,U0,El,U1,KR,U2,KU,KV,U3,U4,x20,KW,rfl,z,hi,aE,rfl⟩
 have hw:i < l.length->IntKind.i64.wrap ((i:Int)+1)=((i+1:Nat):Int):=λhh=>by unfold maxLen at hle;rw [fQ (by omega) (by omega)];omega
 simp only [aa,seval,MG]
 repeat' ((first|((with_reducible apply cm) <;> intro _)|with_reducible refine rF hl cM ?_|with_reducible refine ZT (hl.mono z.inc) cM cw (by omega) (by omega) (λa p ha hp=>?_)|with_reducible refine rj hp jb cw ?_|((with_reducible refine Wz _ _ _ (λZp h' x=>?_) (λZp h' x=>?_)) <;> (replace z:=z.au x;rw [az h']))|((with_reducible apply cK);(· rfl))) <;> simp only [aa,seval,MG])
 all_goals first
  |with_reducible exact h2 _ z.aw
  |with_reducible exact h1 (by omega) (by rw [iR (by omega)] at aE;exact aE) _ z.aw
  |(rw [hw (by omega)]
    with_reducible refine zoG ?_ ?_
    .exact ⟨i+1,h',_,_,_,_,_,_,_,_,_,_,_,_,_,_,_,_,_,_,_,_,rfl,z,by omega,wY ha aE Zp,rfl⟩
    .show l.length - ((i+1:Nat):Int).toNat < l.length - (i:Int).toNat
     omega)
end Go.Proofs.YtnkmeidmdaidhaaGreatDoor
namespace Go.Proofs.YtnkmeidmdaidhaaGreatDoor
open Go.Am
def p0 (n m:Int):Int:=if m < 1 then 0 else if n.tmod m < 0 then n.tmod m+m else n.tmod m
theorem Lw (n m:Int) (hm:1<=m):0<=p0 n m/\p0 n m < m:=by
 unfold p0
 rw [aA (by omega)]
 have h1:=Int.tmod_lt_of_pos n (show 0 < m by omega)
 have h2:=Int.lt_tmod_of_pos n (show 0 < m by omega)
 split <;> omega
end Go.Proofs.YtnkmeidmdaidhaaGreatDoor
namespace Go.Proofs.YtnkmeidmdaidhaaGreatDoor
open Go.Am Tryz
theorem zAy (n m:Int) (h:Heap) (K:aO) (hm:m<=4611686018427387904) (hk:K (.int .i64 (p0 n m)) h):Ok prog aJ ov 17 [.int .i64 n,.int .i64 m] h K:=by
 refine Ok.aF 15 (bY XF) ?_
 simp only [aa,seval,Fx]
 refine cm (λc=>?_) (λc=>?_)
 .simp only [aa,seval,Fx]
  have:p0 n m=0:=by unfold p0;rw [aB c]
  rw [this] at hk
  exact hk
 have hb:=Lw n m (by omega)
 have hd:p0 n m=if n.tmod m < 0 then n.tmod m+m else n.tmod m:=by unfold p0;rw [aA c]
 simp only [aa,seval,Fx]
 rw [zzN (by omega)]
 simp only [aa,seval,Fx]
 refine cm (λc2=>?_) (λc2=>?_)
 .rw [aB c2] at hd
  rw [hd] at hk hb
  simp only [aa,seval,Fx]
  rw [fQ (by omega) (by omega)]
  exact hk
 .rw [aA c2] at hd
  rw [hd] at hk
  simp only [aa,seval,Fx]
  exact hk
theorem zjE (l:List aq) (facts:aN) (v w:ai) (h:Heap) (hl:Sl aG.clause h v l) (hf:Sl aG.atom h w facts) (K:aO)
 (h1:l.length<=6->facts.length<=12->(∀ r∈l,r.body.length<=3)->∀ h',Ext h h'->K (.bool true) h') (h2:∀ h',Ext h h'->K (.bool false) h'):Ok prog aJ ov 7 [v,w] h K:=by
 rw [az h]
 have z:=Ext.refl h
 refine Ok.aF 34 (bY N7) ?_
 simp only [aa,seval,c7]
 repeat' ((first|((with_reducible apply cm) <;> intro _)|with_reducible refine rF hl jv ?_|((with_reducible refine zoU _ _ _ _ ((hf.mono z.inc).lay _ _) _ (λhlf IP h' x=>?_) (λh' x=>?_)) <;> (replace z:=z.au x;rw [az h']))|((with_reducible apply cK);(· rfl))) <;> simp only [aa,seval,c7])
 all_goals try exact h2 _ z.aw
 obtain ⟨I1,bo⟩:∃ I:Nat->Env->Heap->Prop,I=(λn e h'=>∃ (i:Nat) (h1:Heap),h'=h1.lay [] h1.low/\Ext h h1/\(n=l.length - i/\i<=l.length/\∀ r∈l.take i,r.body.length<=3)/\∃ J:Nat->ai,e=(v::jr J 1 4 (.int .i64 i::jr J 6 30 ([])))):=⟨_,rfl⟩
 refine fh I1 _ (by rw [bo];exact ⟨0,_,rfl,z,⟨rfl,by omega,by simp⟩,bO⟩) ?_
 intro n e h' aU
 rw [bo] at aU
 obtain ⟨i,cF,rfl,z,hinv,J,rfl⟩:=aU
 obtain ⟨rfl,hi,aE⟩:=hinv
 have hw:=gE i (by omega)
 repeat' (first|simp only [aa,seval,c7]|((with_reducible apply cm) <;> intro _)|with_reducible refine rF hl jv ?_)
 rotate_left
 .exact h1 (by omega) (by omega) (by rw [iR (by omega)] at aE;exact aE) _ z.aw
 obtain ⟨r,hr,cI⟩:=i4 (l:=l) (i:=i) (by assumption)
 repeat' ((first|with_reducible refine GX (hl.mono z.inc) jv kx (by omega) hr (λp bd gV hp=>?_)|with_reducible refine Qj hp Ae (λp hp=>?_)|with_reducible refine Qk hp Af (λq hq=>?_)|with_reducible refine rj hp jb cw ?_|with_reducible refine uB hq HF ?_|((with_reducible refine Wz _ _ _ (λNk h' x=>?_) (λNk h' x=>?_)) <;> (replace z:=z.au x;rw [az h']))|((with_reducible refine zoU _ _ _ _ (gV.mono (bP.lay _ _ _)) _ (λhlen yX h' x=>?_) (λh' x=>?_)) <;> (replace z:=z.au x;rw [az h']))|((with_reducible apply cK);(· rfl))) <;> simp only [aa,seval,c7])
 all_goals first
  |with_reducible exact h2 _ z.aw
  |(rw [hw];(rw [bo];with_reducible refine dA (m:=_) ?_ ⟨i+1,_,rfl,z,⟨rfl,by omega,wY (i:=i) (P:=λr:aq=>r.body.length<=3) cI aE (by show r.body.length<=3;omega)⟩,bO⟩;omega))
end Go.Proofs.YtnkmeidmdaidhaaGreatDoor
