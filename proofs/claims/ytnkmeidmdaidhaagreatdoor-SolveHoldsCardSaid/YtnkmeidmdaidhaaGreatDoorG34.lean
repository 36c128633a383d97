/- Walks: numbers; a call by its place. Written out by fill2.py. No condition. -/
import Derived.Test.YtnkmeidmdaidhaaGreatDoorG33
set_option linter.unusedSimpArgs false
set_option linter.unusedVariables false
set_option maxRecDepth 100000
set_option maxHeartbeats 0
noncomputable section
namespace Go.Proofs.YtnkmeidmdaidhaaGreatDoor
open Go.Am Tryz
variable {b h:Heap} {bZ vf:ai} {E:List Nat}
abbrev il:xn:=⟨63,88,112,101,109,99,3,71,28⟩
theorem zAp {v:ai} {l:List Nat} (f:Sl aG.nat h v l):∃ b:Bool,cE prog aJ .eql 61 v (.slice none 0 0)=some (.bool b)/\(b=true->l=[]):=by
 rcases f with ⟨rfl,rfl⟩|⟨A,o,c,row,u,ro,rfl,_⟩
 .exact ⟨true,by kernel_rfl,λ_=>rfl⟩
 .exact ⟨false,by kernel_rfl,nofun⟩
theorem zwb {v:ai} {l:aN} (f:Sl aG.atom h v l):∃ b:Bool,cE prog aJ .eql 23 v (.slice none 0 0)=some (.bool b)/\(b=true->l=[]):=by
 rcases f with ⟨rfl,rfl⟩|⟨A,o,c,row,u,ro,rfl,_⟩
 .exact ⟨true,by kernel_rfl,λ_=>rfl⟩
 .exact ⟨false,by kernel_rfl,nofun⟩
theorem MC:tJ aJ 61 61=true:=by kernel_rfl
section
variable {T:bN} {t e:TypeId} {v:ai} {h1:Heap} {kd:IntKind} {i:Int} {bs:List aZ} {w x:Nat} {K:aO} {l:List Nat}
theorem zzo (f:Sl aG.nat h1 v l) (hd:T.desc t=some (.slice e)) (hs:dF T e=some 1) (h0:0<=i) (hx:l[i.toNat]? = some x) (hk:∀ p,gJ h1 p [.int .i64 (x:Int)]->K p (h1.lay bs w)):aM (kF T t v (.int kd i)) (h1.lay bs w) K :=
 BX f hd hs h0 (by have:=(fR.1 hx).1;omega) λx' p cs nF hr hp=>by
  rw [hx] at nF
  cases nF
  exact hk p (hr ▸ hp)
theorem Xv (f:Sl aG.ptr h1 v l) (hd:T.desc t=some (.slice e)) (hs:dF T e=some 1) (h0:0<=i) (hx:l[i.toNat]? = some x) (hk:∀ p,gJ h1 p [.pointer (some ⟨x,0,none⟩)]->K p (h1.lay bs w)):aM (kF T t v (.int kd i)) (h1.lay bs w) K :=
 BX f hd hs h0 (by have:=(fR.1 hx).1;omega) λx' p cs nF hr hp=>by
  rw [hx] at nF
  cases nF
  exact hk p (hr ▸ hp)
end
theorem zwg (l:List Nat) (v:ai) (h:Heap) (hl:Sl aG.nat h v l) (hs:l.length<=100000000) (K:aO)
 (hk:∀ h' w A,Ext h h'->Ow aG.nat h h' 3 A w l->K w h'):Ok prog aJ ov 121 [v] h K:=by
 rw [az h]
 obtain ⟨b,hb,qZ⟩:=zAp hl
 refine Ok.aF 7 (bY Ho) ?_
 simp only [aa,seval,yr,hb]
 cases b
 .simp only [aa,seval,yr,lF,MC]
  obtain ⟨news,hs,mX⟩:=zZ (A:=h.size+1) (r:=aG.nat) (by decide) (hl.lay [.row [] 3 false] h.low) (λcs y hr=>hr)
  have f:Ow aG.nat h (h.lay [.row [] 3 false] h.low) 3 (h.size+1) (.slice (some ⟨h.size+0,0,none⟩) 0 0) [] :=
   .inl ⟨by omega,rfl,.inr ⟨h.size+0,0,rfl,by omega,by rw [br];simp,[],3,false,by rw [kE];rfl⟩⟩
  obtain ⟨w,h',A',e1,e2,e3,e4,e5⟩:=xc (t:=61) jR BL rfl (by decide) (by rw [br];omega) f hs mX (by simp only [dK];omega) (by simp only [dK];omega)
  rw [e1]
  simp only [aa,seval,yr]
  exact hk _ _ _ ((Ext.refl h).cp e3 (by omega) (by omega)) (by simpa using e2)
 .simp only [aa,seval,yr]
  rw [qZ rfl] at hk
  exact hk _ _ h.size ((Ext.refl h).jK _ _ (by omega)) (Ow.nil (aQ _))
theorem zwh (l:aN) (v:ai) (h:Heap) (hl:Sl aG.atom h v l) (hs:l.length<=100000000) (K:aO)
 (hk:∀ h' w A,Ext h h'->Ow aG.atom h h' 28 A w l->K w h'):Ok prog aJ ov 51 [v] h K:=by
 rw [az h]
 obtain ⟨b,hb,qZ⟩:=zwb hl
 refine Ok.aF 7 (bY PB) ?_
 simp only [aa,seval,AB,hb]
 cases b
 .simp only [aa,seval,AB,lF,zBL]
  obtain ⟨news,hs,mX⟩:=zZ (A:=h.size+1) (r:=aG.atom) (by decide) (hl.lay [.row [] 28 false] h.low) (λcs y hr=>hr)
  have f:Ow aG.atom h (h.lay [.row [] 28 false] h.low) 28 (h.size+1) (.slice (some ⟨h.size+0,0,none⟩) 0 0) [] :=
   .inl ⟨by omega,rfl,.inr ⟨h.size+0,0,rfl,by omega,by rw [br];simp,[],28,false,by rw [kE];rfl⟩⟩
  obtain ⟨w,h',A',e1,e2,e3,e4,e5⟩:=xc (t:=23) cM zS rfl (by decide) (by rw [br];omega) f hs mX (by simp only [dK];omega) (by simp only [dK];omega)
  rw [e1]
  simp only [aa,seval,AB]
  exact hk _ _ _ ((Ext.refl h).cp e3 (by omega) (by omega)) (by simpa using e2)
 .simp only [aa,seval,AB]
  rw [qZ rfl] at hk
  exact hk _ _ h.size ((Ext.refl h).jK _ _ (by omega)) (Ow.nil (aQ _))
theorem zwj (l:List Nat) (v:ai) (k:Nat) (h:Heap) (hl:Sl aG.nat h v l) (hs:l.length<=100000000) (K:aO)
 (hk:∀ n h',Ext h h'->((0:Int)<=n↔k∈l)->K (.int .i64 n) h'):Ok prog aJ ov 123 [v,.int .i64 (k:Int)] h K:=by
 rw [az h]
 have z:=Ext.refl h
 have eD:=λ(hh:Heap)=>hl.bW jR hh
 refine Ok.aF 17 (bY Hq) ?_
 simp only [aa,seval,yu,eD]
 obtain ⟨I1,bo⟩:∃ I:Nat->Env->Heap->Prop,I=(λn e h'=>∃ (i:Nat) (h1:Heap),h'=h1.lay [] h1.low/\Ext h h1/\(n=l.length - i/\i<=l.length/\k ∉ l.take i)/\∃ J:Nat->ai,e=(v::.int .i64 (k:Int)::jr J 2 5 (.int .i64 l.length::.int .i64 i::jr J 9 10 ([])))):=⟨_,rfl⟩
 refine fh I1 _ (by rw [bo];exact ⟨0,_,rfl,z,⟨rfl,by omega,by simp⟩,bO⟩) ?_
 intro n e h' aU
 rw [bo] at aU
 obtain ⟨i,cF,rfl,z,hinv,J,rfl⟩:=aU
 obtain ⟨rfl,hi,jU⟩:=hinv
 have hw:=gE i (by omega)
 simp only [aa,seval,yu]
 refine cm (λbc=>?_) (λbc=>?_)
 rotate_left
 .rw [iR (by omega)] at jU
  repeat' (simp only [aa,seval,yu])
  exact hk _ _ z.aw ⟨λh=>absurd h (by decide),λh=>absurd h jU⟩
 obtain ⟨r,hr,cI⟩:=i4 (l:=l) (i:=i) (by omega)
 have kq:l.take (i+1)=l.take i++[r]:=by rw [oT,cI];rfl
 repeat' (first|simp only [aa,seval,yu]|((with_reducible apply oQ) <;> intro _)|with_reducible refine zzo (hl.mono z.inc) jR zD (by omega) hr (λp hp=>?_)|with_reducible refine uB hp PJ ?_)
 .have he:(k:Int)=(r:Int):=by assumption
  exact hk _ _ z.aw ⟨λ_=>by rw [Int.ofNat.inj he];exact ek cI,λ_=>by omega⟩
 .have he:¬ (k:Int)=(r:Int):=by assumption
  have kp:k ∉ l.take (i+1):=by
   rw [kq,iT,eM]
   rintro (e|e)
   .exact jU e
   .exact he (by rw [e])
  rw [hw]
  (rw [bo];with_reducible refine dA (m:=_) ?_ ⟨i+1,_,rfl,z,⟨rfl,by omega,kp⟩,bO⟩;omega)
theorem zoO (l:List Nat) (v:ai) (k:Nat) (h:Heap) (hl:Sl aG.nat h v l) (hs:l.length<=100000000) (K:aO)
 (hk:∀ h',Ext h h'->K (.bool (decide (k∈l))) h'):Ok prog aJ ov 96 [v,.int .i64 (k:Int)] h K:=by
 refine Ok.aF 7 (bY Yx) ?_
 simp only [aa,seval,Qd]
 refine zwj l v k h hl hs _ (λn h' x hn=>?_)
 simp only [aa,seval,Qd]
 have hd:decide (n >= 0)=decide (k∈l):=by simp [hn]
 rw [hd]
 refine sx (λhh=>?_) (λhh=>?_)
 all_goals
  simp only [aa,seval,Qd]
  rw [hh] at hk
  exact hk _ x
theorem uX (x):cE prog aJ .eql 57 (.pointer (some x)) (.pointer none)=some (.bool false):=by kernel_rfl
theorem H7 (x):cE prog aJ .eql 109 (.pointer (some x)) (.pointer none)=some (.bool false):=by kernel_rfl
theorem Ea (x):cE prog aJ .neq 109 (.pointer (some x)) (.pointer none)=some (.bool true):=by kernel_rfl
theorem MD {y:cG} {d:aY} (v:Inv il b E y bZ vf d h) (i:Nat) (hi:i < d.calls.length) (hn:d.calls.length<=100000000) (K:aO)
 (hk:∀ h',Ext h h'->K (.pointer (some ⟨y.pl (.c i),0,none⟩)) h'):Ok prog aJ ov 69 [.pointer (some ⟨y.pl .t,0,none⟩),.int .i64 (i:Int)] h K:=by
 rw [az h]
 have z:=Ext.refl h
 have qt:ak h (y.pl .t) (.row [.map (some (y.pl .pm)),y.vl .ca,.int .i64 (d.count:Int)] 88 false):=v.dB .t
 have oc:=v.dB .ca
 have gO:Sl aG.ptr h (y.vl .ca) ((List.range d.calls.length).map λi=>y.pl (.c i)):=du.sl oc (by decide)
 have dg:∀ (h:Heap) (K:aO),aM (some (y.vl .ca)) h K=K (y.vl .ca) h:=by
  obtain ⟨a,n,c,e⟩:=du.slice oc
  rw [e]
  exact λ_ _=>rfl
 have eD:=λ(hh:Heap)=>gO.bW py hh
 rw [gq,Fb] at eD
 have hr:((List.range d.calls.length).map λi=>y.pl (.c i))[(i:Int).toNat]? = some (y.pl (.c i)):=by
  rw [uG,lk,LY hi]
  rfl
 refine Ok.aF 25 (bY Ye) ?_
 repeat' (first|simp only [aa,seval,c69,qt.lay,dg,eD,uX]|((with_reducible apply cm) <;> intro _)|with_reducible refine Xv gO py zCI (by omega) hr (λp hp=>?_)|with_reducible refine uB hp zA5 ?_)
 all_goals first|(exfalso;omega)|exact hk _ z.aw
theorem LN {y:cG} {d:aY} (v:Inv il b E y bZ vf d h) {i:Nat} {c:aX} (hc:d.calls[i]? = some c):ak h (y.pl (.c i)) (.row (c.atom.cells++[y.vl (.an i),.map (some (y.pl (.th i))),y.vl (.wa i)]) 112 false):=v.dB (.c i) c hc
theorem WE (a:ae) (u m w:ai):(a.cells++[u,m,w])[11]? = some u:=rfl
theorem zrB (a:ae) (u m w:ai):(a.cells++[u,m,w])[12]? = some m:=rfl
theorem WG (a:ae) (u m w:ai):(a.cells++[u,m,w])[13]? = some w:=rfl
theorem Xw (a:ae) (u m w:ai):cut (a.cells++[u,m,w]) 0 11=some a.cells:=rfl
theorem zBF {y:cG} {d:aY} (v:Inv il b E y bZ vf d h) (K:aO)
 (hk:∀ h',Ext h h'->K (.int .i64 (d.calls.length:Int)) h'):Ok prog aJ ov 34 [.pointer (some ⟨y.pl .t,0,none⟩)] h K:=by
 rw [az h]
 have z:=Ext.refl h
 have qt:ak h (y.pl .t) (.row [.map (some (y.pl .pm)),y.vl .ca,.int .i64 (d.count:Int)] 88 false):=v.dB .t
 have oc:=v.dB .ca
 have gO:Sl aG.ptr h (y.vl .ca) ((List.range d.calls.length).map λi=>y.pl (.c i)):=du.sl oc (by decide)
 have dg:∀ (h:Heap) (K:aO),aM (some (y.vl .ca)) h K=K (y.vl .ca) h:=by
  obtain ⟨a,n,c,e⟩:=du.slice oc
  rw [e]
  exact λ_ _=>rfl
 have eD:=λ(hh:Heap)=>gO.bW py hh
 rw [gq,Fb] at eD
 refine Ok.aF 9 (bY XQ) ?_
 repeat' (simp only [aa,seval,c34,qt.lay,dg,eD,uX])
 exact hk _ z.aw
theorem zAs {y:cG} {d:aY} (v:Inv il b E y bZ vf d h) {i:Nat} {c:aX} (hc:d.calls[i]? = some c) (hn:d.calls.length<=100000000) (K:aO)
 (hk:∀ h',Ext h h'->K (.tuple #[c.atom.val,.bool true]) h'):Ok prog aJ ov 57 [.pointer (some ⟨y.pl .t,0,none⟩),.int .i64 (i:Int)] h K:=by
 rw [az h]
 have z:=Ext.refl h
 have qc:=LN v hc
 refine Ok.aF 15 (bY X2) ?_
 repeat' (simp only [aa,seval,P9])
 refine MD (v.bf (aR.lay _ _ _ _)) i (ao hc) hn _ (λh' x=>?_)
 (replace z:=z.au x;replace qc:=qc.over x;rw [az h'])
 have q0:=ak.top (i:=0) x rfl
 have hz:=z.size
 repeat' (simp only [aa,seval,P9,Ea,qc.lay,↓Xw,eG,dS])
 refine EG q0 cw rfl rfl rfl (λda mH c2=>?_)
 replace z:=z.aw.step c2 (by omega)
 rw [az da]
 have UD:ak da (h.size+0) (.row c.atom.cells 28 false):=mH
 repeat' (simp only [aa,seval,P9,UD.lay,↓fU,eG,dS])
 exact hk _ z.aw
theorem zlp {y:cG} {d:aY} (v:Inv il b E y bZ vf d h) {i:Nat} {c:aX} (hc:d.calls[i]? = some c) (hn:d.calls.length<=100000000) (ha:c.answers.length<=100000000) (K:aO)
 (hk:∀ h' w A,Ext h h'->Ow aG.atom h h' 28 A w c.answers->K w h'):Ok prog aJ ov 33 [.pointer (some ⟨y.pl .t,0,none⟩),.int .i64 (i:Int)] h K:=by
 rw [az h]
 have z:=Ext.refl h
 have qc:=LN v hc
 have oa:du aG.atom b h 28 (y.pl (.an i)) (y.vl (.an i)) c.answers:=v.dB (.an i) c hc
 have gO:Sl aG.atom h (y.vl (.an i)) c.answers:=oa.sl (by decide)
 have dg:∀ (h:Heap) (K:aO),aM (some (y.vl (.an i))) h K=K (y.vl (.an i)) h:=by
  obtain ⟨a,n,c,e⟩:=du.slice oa
  rw [e]
  exact λ_ _=>rfl
 refine Ok.aF 14 (bY XP) ?_
 simp only [aa,seval,P5]
 refine MD (v.bf (aR.lay _ _ _ _)) i (ao hc) hn _ (λh' x=>?_)
 (replace z:=z.au x;replace qc:=qc.over x;rw [az h'])
 have hz:=z.size
 repeat' (simp only [aa,seval,P5,Ea,qc.lay,WE,dg])
 refine zwh c.answers _ _ ((gO.mono z.inc).lay _ _) ha _ (λh' w A x ow=>?_)
 have ow:=Ow.low (h0:=h) (by rw [br];omega) ow
 (replace z:=z.au x;replace qc:=qc.over x;rw [az h'])
 have wz:∀ (h:Heap) (K:aO),aM (some w) h K=K w h:=by
  obtain ⟨a,n,c,e⟩:=ow.slice
  rw [e]
  exact λ_ _=>rfl
 repeat' (simp only [aa,seval,P5])
 exact hk _ _ _ z.aw (ow.mono (bP.lay _ _ _))
theorem zlq {y:cG} {d:aY} (v:Inv il b E y bZ vf d h) {i:Nat} {c:aX} (hc:d.calls[i]? = some c) (hn:d.calls.length<=100000000) (ha:c.waiters.length<=100000000) (K:aO)
 (hk:∀ h' w A,Ext h h'->Ow aG.nat h h' 3 A w c.waiters->K w h'):Ok prog aJ ov 91 [.pointer (some ⟨y.pl .t,0,none⟩),.int .i64 (i:Int)] h K:=by
 rw [az h]
 have z:=Ext.refl h
 have qc:=LN v hc
 have oa:du aG.nat b h 3 (y.pl (.wa i)) (y.vl (.wa i)) c.waiters:=v.dB (.wa i) c hc
 have gO:Sl aG.nat h (y.vl (.wa i)) c.waiters:=oa.sl (by decide)
 have dg:∀ (h:Heap) (K:aO),aM (some (y.vl (.wa i))) h K=K (y.vl (.wa i)) h:=by
  obtain ⟨a,n,c,e⟩:=du.slice oa
  rw [e]
  exact λ_ _=>rfl
 refine Ok.aF 14 (bY Yt) ?_
 simp only [aa,seval,Qc]
 refine MD (v.bf (aR.lay _ _ _ _)) i (ao hc) hn _ (λh' x=>?_)
 (replace z:=z.au x;replace qc:=qc.over x;rw [az h'])
 have hz:=z.size
 repeat' (simp only [aa,seval,Qc,Ea,qc.lay,WG,dg])
 refine zwg c.waiters _ _ ((gO.mono z.inc).lay _ _) ha _ (λh' w A x ow=>?_)
 have ow:=Ow.low (h0:=h) (by rw [br];omega) ow
 (replace z:=z.au x;replace qc:=qc.over x;rw [az h'])
 have wz:∀ (h:Heap) (K:aO),aM (some w) h K=K w h:=by
  obtain ⟨a,n,c,e⟩:=ow.slice
  rw [e]
  exact λ_ _=>rfl
 repeat' (simp only [aa,seval,Qc])
 exact hk _ _ _ z.aw (ow.mono (bP.lay _ _ _))
def N15:=bR f15
def U2:=PLift.up (by have c:=bU N15 f15;simp only [aS,f15,seval] at c;exact nd c <| nd @iF <| nd @cJ <| nd @iG <| @Qq)
def N11:=bR f11
def U0:=PLift.up (by have c:=bU N11 f11;simp only [aS,f11,seval] at c;exact nd c <| nd @oG <| nd @iF <| nd @cJ <| nd @ri <| nd @rk <| nd @iG <| @Qm)
end Go.Proofs.YtnkmeidmdaidhaaGreatDoor
namespace Go.Am
open Classical in
def iP (d:aY) (i k:Nat):aY :=
 match d.calls[i]? with
 |some c=>if k∈c.waiters then d else { d with calls:=d.calls.set i { c with waiters:=c.waiters++[k] } }
 |none=>d
open Classical in
def cY (d:aY) (a:ae):aY × Nat × Bool :=
 if ¬ bm a then (d,0,false)
 else if bC a∈d.calls.map aX.atom then (d,wE (bC a) (d.calls.map aX.atom),false)
 else ({ d with calls:=d.calls++[⟨bC a,[],[]⟩] },d.calls.length,true)
open Classical in
def bl (d:aY) (i:Nat) (a:ae):aY × Bool :=
 match d.calls[i]? with
 |some c=>if (bz [] c.atom a).isSome=false\/¬ bm a\/a∈c.answers then (d,false) else ({ d with calls:=d.calls.set i { c with answers:=c.answers++[a] },count:=d.count+1 },true)
 |none=>(d,false)
theorem zve (x:cG) (i:Nat) (c:aX) (u:ai):Mc { x with vl:=aw x.vl (.wa i) u } i c=c.atom.cells++[x.vl (.an i),.map (some (x.pl (.th i))),u]:=by
 show c.atom.cells++[aw x.vl (.wa i) u (.an i),.map (some (x.pl (.th i))),aw x.vl (.wa i) u (.wa i)]=_
 rw [fA (by simp),kB]
theorem zvd (x:cG) (i:Nat) (c:aX) (u:ai):Mc { x with vl:=aw x.vl (.an i) u } i c=c.atom.cells++[u,.map (some (x.pl (.th i))),x.vl (.wa i)]:=by
 show c.atom.cells++[aw x.vl (.an i) u (.an i),.map (some (x.pl (.th i))),aw x.vl (.an i) u (.wa i)]=_
 rw [fA (show (Ro.wa i)≠.an i by simp),kB]
end Go.Am
