/- Walks: digits. Written out by fill2.py. No condition. -/
import Derived.Test.YtnkmeidmdaidhaaGreatDoorG12
import Derived.Test.YtnkmeidmdaidhaaGreatDoorG21
set_option linter.unusedSimpArgs false
set_option linter.unusedVariables false
set_option maxRecDepth 100000
set_option maxHeartbeats 0
noncomputable section
namespace Go.Proofs.YtnkmeidmdaidhaaGreatDoor
open Go.Am Tryz
theorem zAJ (s:aV) (a b:Nat) (h1:a<=b) (h2:b<=s.size):lf aJ 9 (.string s) (some (.int .i64 a)) (some (.int .i64 b)) none=some (.string (s.extract a b)):=by
 unfold lf
 rw [show aJ.desc 9=some .string by kernel_rfl]
 simp only [Cg,gH,if_false,qz,xf,dH]
 rw [aB (by omega)]
 simp only [dH,uG]
 rw [aB (by omega)]
 simp
theorem zz5:∀ n,n < 10->ByteArray.extract ⟨#[48,49,50,51,52,53,54,55,56,57,97,98,99,100,101,102,103,104,105,106,107,108,109,110,111,112,113,114,115,116,117,118,119,120,121,122]⟩ n (n+1)=kh n:=by
 intro n hn
 have:n=0\/n=1\/n=2\/n=3\/n=4\/n=5\/n=6\/n=7\/n=8\/n=9:=by omega
 rcases this with rfl|rfl|rfl|rfl|rfl|rfl|rfl|rfl|rfl|rfl <;> rfl
theorem zwn (n:Nat) (hn:n < 10) (h:Heap) (K:aO) (hk:∀ h',Ext h h'->K (.string (kh n)) h'):Ok prog aJ ov 143 [.int .i64 n] h K:=by
 rw [az h]
 have z:=Ext.refl h
 have hw:=gE n (by omega)
 refine Ok.aF 14 (bY HB) ?_
 simp only [aa,seval,CB]
 refine cm (λ_=>?_) (λhx=>absurd hx (by omega))
 simp only [aa,seval,CB,hw]
 rw [zAJ _ n (n+1) (by omega) (by show n+1<=36;omega)]
 have hd:=hk _ (z.jK [] h.low (by omega))
 rw [<- zz5 n hn] at hd
 simp only [aa,seval,CB]
 exact hd
theorem ztS (n:Nat) (hn:n < 10) (h:Heap) (K:aO) (hk:∀ h',Ext h h'->K (.string (kh n)) h'):Ok prog aJ ov 122 [.int .i64 n,.int .i64 10] h K:=by
 rw [az h]
 have z:=Ext.refl h
 refine Ok.aF 52 (bY Hp) ?_
 have h1:decide ((0:Int)<=(n:Int))=true:=sH (by omega)
 have h2:decide ((n:Int) < 100)=true:=sH (by omega)
 repeat' (simp only [aa,seval,HR,h1,h2])
 all_goals try omega
 refine zwn n hn _ _ (λh' x=>?_)
 (replace z:=z.au x;rw [az h'])
 simp only [aa,seval,HR]
 exact hk _ z.aw
theorem zyi (n:Nat) (hn:n < 10) (h:Heap) (K:aO) (hk:∀ h',Ext h h'->K (.string (kh n)) h'):Ok prog aJ ov 95 [.int .i64 n] h K:=by
 rw [az h]
 have z:=Ext.refl h
 refine Ok.aF 4 (bY Yw) ?_
 simp only [aa,seval,YF]
 refine ztS n hn _ _ (λh' x=>?_)
 (replace z:=z.au x;rw [az h'])
 simp only [aa,seval,YF]
 exact hk _ z.aw
theorem W4 (n:Nat) (hn:n < 10) (h:Heap) (K:aO) (hk:∀ h',Ext h h'->K (.string (kh n)) h'):Ok prog aJ ov 62 [.int .i64 n] h K:=by
 rw [az h]
 have z:=Ext.refl h
 refine Ok.aF 4 (bY X7) ?_
 simp only [aa,seval,YB]
 refine zyi n hn _ _ (λh' x=>?_)
 (replace z:=z.au x;rw [az h'])
 simp only [aa,seval,YB]
 exact hk _ z.aw
def Yi:=bR f78
def x78:=PLift.up (by have c:=bU Yi f78;simp only [aS,f78,seval] at c;exact nd c <| nd @cJ <| @Rc)
theorem MM:type_of% x78.down:=x78.down
def XV:=bR f46
def x46:=PLift.up (by have c:=bU XV f46;simp only [aS,f46,seval] at c;exact nd c <| @QL)
theorem P7:type_of% x46.down:=x46.down
def Yn:=bR f83
def x83:=PLift.up (by have c:=bU Yn f83;simp only [aS,f83,seval] at c;exact nd c <| nd @zt <| nd @kr <| nd @zy <| @Ri)
theorem FA:type_of% x83.down:=x83.down
def Hh:=bR f110
def Kv:=PLift.up (by have c:=bU Hh f110;simp only [aS,f110,seval] at c;exact nd c <| nd @xX <| nd @xH <| @zB4)
theorem HN:type_of% Kv.down:=Kv.down
def XW:=bR f47
def x47:=PLift.up (by have c:=bU XW f47;simp only [aS,f47,seval] at c;exact nd c <| nd @B7 <| nd @xY <| nd @nH <| @QM)
theorem MH:type_of% x47.down:=x47.down
def Yg:=bR f76
def x76:=PLift.up (by have c:=bU Yg f76;simp only [aS,f76,seval] at c;exact nd c <| @Ra)
theorem Qa:type_of% x76.down:=x76.down
def Hf:=bR f108
def Kt:=PLift.up (by have c:=bU Hf f108;simp only [aS,f108,seval] at c;exact nd c <| nd @iF <| nd @cJ <| nd @iG <| @zB2)
theorem sM:type_of% Kt.down:=Kt.down
theorem zoT (l:List ay) (v fv:ai) (pr:ay->Bool) (h:Heap) (hl:Sl aG.term h v l) (hs:l.length<=1000) (vU:∀ (x:ay) (hc:Heap) (K:aO),Ext h hc->(∀ h',Ext hc h'->K (.bool (pr x)) h')->xg prog aJ ov [x.val] hc K fv) (K:aO)
 (hk:∀ h',Ext h h'->K (.int .i64 (mY pr l)) h'):Ok prog aJ ov 83 [v,fv] h K:=by
 rw [az h]
 have z:=Ext.refl h
 refine Ok.aF 17 (bY Yn) ?_
 simp only [aa,seval,FA]
 repeat' ((with_reducible refine rF hl oe ?_) <;> simp only [aa,seval,FA])
 obtain ⟨I1,bo⟩:∃ I:Nat->Env->Heap->Prop,I=(λn e h'=>∃ (i:Nat) (h1:Heap),h'=h1.lay [] h1.low/\Ext h h1/\(n=l.length - i/\i<=l.length/\∀ x∈l.take i,pr x=false)/\∃ J:Nat->ai,e=(v::fv::jr J 2 5 (.int .i64 l.length::.int .i64 i::jr J 9 10 ([])))):=⟨_,rfl⟩
 refine fh I1 _ (by rw [bo];exact ⟨0,_,rfl,z,⟨rfl,by omega,by simp⟩,bO⟩) ?_
 intro n e h' aU
 rw [bo] at aU
 obtain ⟨i,cF,rfl,z,hinv,J,rfl⟩:=aU
 obtain ⟨rfl,hi,aE⟩:=hinv
 have hw:=gE i (by omega)
 repeat' (first|simp only [aa,seval,FA]|((with_reducible apply cm) <;> intro _))
 rotate_left
 .rw [iR (by omega)] at aE
  have:=WV aE
  rw [this] at hk
  exact hk _ z.aw
 obtain ⟨r,hr,cI⟩:=i4 (l:=l) (i:=i) (by assumption)
 repeat' ((first|with_reducible refine Pj (hl.mono z.inc) oe iK (by omega) hr (λp hp=>?_)|with_reducible refine J0 hp sJ iK ?_) <;> simp only [aa,seval,FA])
 refine vU _ _ _ z.aw (λh' x=>?_)
 (replace z:=z.au x;rw [az h'])
 cases hx:pr r
 rotate_left
 .simp only [aa,seval,FA]
  have:=Wi cI aE hx
  rw [this] at hk
  exact hk _ z.aw
 .simp only [aa,seval,FA]
  rw [hw]
  (rw [bo];with_reducible refine dA (m:=_) ?_ ⟨i+1,_,rfl,z,⟨rfl,by omega,wY (i:=i) (P:=λx:ay=>pr x=false) cI aE hx⟩,bO⟩;omega)
theorem zfl (l:List ay) (v fv:ai) (pr:ay->Bool) (h:Heap) (hl:Sl aG.term h v l) (hs:l.length<=1000) (vU:∀ (x:ay) (hc:Heap) (K:aO),Ext h hc->(∀ h',Ext hc h'->K (.bool (pr x)) h')->xg prog aJ ov [x.val] hc K fv) (K:aO)
 (hk:∀ h',Ext h h'->K (.bool (l.any pr)) h'):Ok prog aJ ov 46 [v,fv] h K:=by
 refine Ok.aF 7 (bY XV) ?_
 simp only [aa,seval,P7]
 refine zoT l v fv pr h hl hs vU _ (λh' x=>?_)
 simp only [aa,seval,P7,Xg]
 refine sx (λhh=>?_) (λhh=>?_)
 all_goals
  simp only [aa,seval,P7]
  rw [hh] at hk
  exact hk _ x
theorem ztT (x:ay) (h:Heap) (K:aO) (hk:∀ h',Ext h h'->K (.bool x.v) h'):Ok prog aJ ov 110 [x.val] h K:=by
 rw [az h]
 unfold ay.val ay.cells
 refine Ok.aF 4 (bY Hh) ?_
 simp only [aa,seval,HN]
 refine sx (λhh=>?_) (λhh=>?_)
 all_goals
  simp only [aa,seval,HN]
  rw [hh] at hk
  exact hk _ ((Ext.refl h).jK _ _ (by omega))
theorem UM (A o:Nat) (k:Int) (h0:0<=k) (h4:k<=4):lf aJ 26 (.pointer (some ⟨A,o,none⟩)) none (some (.int .i64 k)) none=some (.slice (some ⟨A,o,none⟩) k.toNat 4):=by
 have hG:4 < G:=by decide
 simp only [lf,CK,qz,xf,aB hG,dH]
 rw [aB ⟨h0,by omega⟩]
 simp [iK]
theorem O3 (a:ae) (h:Heap) (K:aO) (hk:∀ w h',Ext h h'->Sl aG.term h' w a.args->K w h'):Ok prog aJ ov 47 [a.val] h K:=by
 rw [az h]
 have z:=Ext.refl h
 unfold ae.val ae.cells
 refine Ok.aF 8 (bY XW) ?_
 simp only [aa,seval,MH]
 refine O8 rfl rfl ?_
 simp only [aa,seval,MH]
 refine O1 rfl rfl ?_
 simp only [aa,seval,MH]
 rw [UM _ _ _ (by split <;> split <;> omega) (by split <;> split <;> omega)]
 simp only [aa,seval,MH]
 have hc:(if 4 < (if a.n < 0 then 0 else a.n) then 4 else (if a.n < 0 then 0 else a.n)).toNat=a.bt:=by
  unfold ae.bt
  split <;> split <;> omega
 rw [hc]
 exact hk _ _ z.aw (zAH (a:=a) ⟨by rw [br];simp,by rw [kE];rfl⟩ rfl)
theorem zoS (a:ae) (h:Heap) (K:aO) (hk:∀ h',Ext h h'->K (.bool a.ground) h'):Ok prog aJ ov 78 [a.val] h K:=by
 rw [az h]
 have z:=Ext.refl h
 unfold ae.val ae.cells
 refine Ok.aF 6 (bY Yi) ?_
 simp only [aa,seval,MM]
 refine O3 a _ _ (λw h' x ha=>?_)
 (replace z:=z.au x;rw [az h'])
 simp only [aa,seval,MM]
 have ny:a.args.length<=1000:=by rw [zL];unfold ae.bt;omega
 refine zfl _ _ _ (λt=>t.v) _ (ha.lay _ _) ny (λt hc K' _ hK=>by rw [xN];exact ztT t hc K' hK) _ (λh' x=>?_)
 (replace z:=z.au x;replace ha:=ha.over x;rw [az h'])
 simp only [aa,seval,MM]
 refine cK rfl ?_
 simp only [aa,seval,MM]
 exact hk _ z.aw
theorem zmJ (l:aN) (v fv:ai) (pr:ae->Bool) (h:Heap) (hl:Sl aG.atom h v l) (hs:l.length<=1000) (vU:∀ (x:ae) (hc:Heap) (K:aO),Ext h hc->(∀ h',Ext hc h'->K (.bool (pr x)) h')->xg prog aJ ov [x.val] hc K fv) (K:aO)
 (hk:∀ h',Ext h h'->K (.int .i64 (mY pr l)) h'):Ok prog aJ ov 108 [v,fv] h K:=by
 rw [az h]
 have z:=Ext.refl h
 refine Ok.aF 17 (bY Hf) ?_
 simp only [aa,seval,sM]
 repeat' ((with_reducible refine rF hl cM ?_) <;> simp only [aa,seval,sM])
 obtain ⟨I1,bo⟩:∃ I:Nat->Env->Heap->Prop,I=(λn e h'=>∃ (i:Nat) (h1:Heap),h'=h1.lay [] h1.low/\Ext h h1/\(n=l.length - i/\i<=l.length/\∀ x∈l.take i,pr x=false)/\∃ J:Nat->ai,e=(v::fv::jr J 2 5 (.int .i64 l.length::.int .i64 i::jr J 9 10 ([])))):=⟨_,rfl⟩
 refine fh I1 _ (by rw [bo];exact ⟨0,_,rfl,z,⟨rfl,by omega,by simp⟩,bO⟩) ?_
 intro n e h' aU
 rw [bo] at aU
 obtain ⟨i,cF,rfl,z,hinv,J,rfl⟩:=aU
 obtain ⟨rfl,hi,aE⟩:=hinv
 have hw:=gE i (by omega)
 repeat' (first|simp only [aa,seval,sM]|((with_reducible apply cm) <;> intro _))
 rotate_left
 .rw [iR (by omega)] at aE
  have:=WV aE
  rw [this] at hk
  exact hk _ z.aw
 obtain ⟨r,hr,cI⟩:=i4 (l:=l) (i:=i) (by assumption)
 repeat' ((first|with_reducible refine tH (hl.mono z.inc) cM cw (by omega) hr (λp hp=>?_)|with_reducible refine rj hp jb cw ?_) <;> simp only [aa,seval,sM])
 refine vU _ _ _ z.aw (λh' x=>?_)
 (replace z:=z.au x;rw [az h'])
 cases hx:pr r
 rotate_left
 .simp only [aa,seval,sM]
  have:=Wi cI aE hx
  rw [this] at hk
  exact hk _ z.aw
 .simp only [aa,seval,sM]
  rw [hw]
  (rw [bo];with_reducible refine dA (m:=_) ?_ ⟨i+1,_,rfl,z,⟨rfl,by omega,wY (i:=i) (P:=λx:ae=>pr x=false) cI aE hx⟩,bO⟩;omega)
theorem zis (l:aN) (v fv:ai) (pr:ae->Bool) (h:Heap) (hl:Sl aG.atom h v l) (hs:l.length<=1000) (vU:∀ (x:ae) (hc:Heap) (K:aO),Ext h hc->(∀ h',Ext hc h'->K (.bool (pr x)) h')->xg prog aJ ov [x.val] hc K fv) (K:aO)
 (hk:∀ h',Ext h h'->K (.bool (l.any pr)) h'):Ok prog aJ ov 76 [v,fv] h K:=by
 refine Ok.aF 7 (bY Yg) ?_
 simp only [aa,seval,Qa]
 refine zmJ l v fv pr h hl hs vU _ (λh' x=>?_)
 simp only [aa,seval,Qa,Xg]
 refine sx (λhh=>?_) (λhh=>?_)
 all_goals
  simp only [aa,seval,Qa]
  rw [hh] at hk
  exact hk _ x
end Go.Proofs.YtnkmeidmdaidhaaGreatDoor
