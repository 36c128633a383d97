/- Walks: numbers; a call by its place. Written out by fill2.py. No condition. -/
import Derived.Test.YtnkmeidmdaidhaaGreatDoorG33
set_option linter.unusedSimpArgs false
set_option linter.unusedVariables false
set_option maxRecDepth 100000
set_option maxHeartbeats 0
noncomputable section
namespace Go.Proofs.YtnkmeidmdaidhaaGreatDoor
open Go.Am Tryz
variable {b h:Heap} {bN vf:ai} {E:List Nat}
abbrev gj:vd:=⟨63,88,112,101,109,99,3,71,28⟩
theorem zzl {v:ai} {l:List Nat} (f:Sl aF.nat h v l):∃ b:Bool,bZ prog aH .eql 61 v (.slice none 0 0)=some (.bool b)/\(b=true->l=[]):=by
 rcases f with ⟨rfl,rfl⟩|⟨A,o,c,row,u,ro,rfl,_⟩
 .exact ⟨true,by kernel_rfl,λ_=>rfl⟩
 .exact ⟨false,by kernel_rfl,nofun⟩
theorem zvc {v:ai} {l:aU} (f:Sl aF.atom h v l):∃ b:Bool,bZ prog aH .eql 23 v (.slice none 0 0)=some (.bool b)/\(b=true->l=[]):=by
 rcases f with ⟨rfl,rfl⟩|⟨A,o,c,row,u,ro,rfl,_⟩
 .exact ⟨true,by kernel_rfl,λ_=>rfl⟩
 .exact ⟨false,by kernel_rfl,nofun⟩
theorem Ky:rH aH 61 61=true:=by kernel_rfl
section
variable {T:bx} {t e:TypeId} {v:ai} {h1:Heap} {kd:IntKind} {i:Int} {bs:List bc} {w x:Nat} {K:aL} {l:List Nat}
theorem zyd (f:Sl aF.nat h1 v l) (hd:T.desc t=some (.slice e)) (hs:de T e=some 1) (h0:0<=i) (hx:l[i.toNat]? = some x) (hk:∀ p,gU h1 p [.int .i64 (x:Int)]->K p (h1.lay bs w)):aK (jq T t v (.int kd i)) (h1.lay bs w) K :=
 zP f hd hs h0 (by have:=(fD.1 hx).1;omega) λx' p cs mU hr hp=>by
  rw [hx] at mU
  cases mU
  exact hk p (hr ▸ hp)
theorem zye (f:Sl aF.ptr h1 v l) (hd:T.desc t=some (.slice e)) (hs:de T e=some 1) (h0:0<=i) (hx:l[i.toNat]? = some x) (hk:∀ p,gU h1 p [.pointer (some ⟨x,0,none⟩)]->K p (h1.lay bs w)):aK (jq T t v (.int kd i)) (h1.lay bs w) K :=
 zP f hd hs h0 (by have:=(fD.1 hx).1;omega) λx' p cs mU hr hp=>by
  rw [hx] at mU
  cases mU
  exact hk p (hr ▸ hp)
end
theorem zvh (l:List Nat) (v:ai) (h:Heap) (hl:Sl aF.nat h v l) (hs:l.length<=100000000) (K:aL)
 (hk:∀ h' w A,Ext h h'->Ow aF.nat h h' 3 A w l->K w h'):Ok prog aH ov 121 [v] h K:=by
 rw [aq h]
 obtain ⟨b,hb,pg⟩:=zzl hl
 refine Ok.aC 7 (bH Fy) ?_
 simp only [aa,seval,wx,hb]
 cases b
 .simp only [aa,seval,wx,j4,Ky]
  obtain ⟨news,hs,lA⟩:=ym (A:=h.size+1) (r:=aF.nat) (by decide) (hl.lay [.row [] 3 false] h.low) (λcs y hr=>hr)
  have f:Ow aF.nat h (h.lay [.row [] 3 false] h.low) 3 (h.size+1) (.slice (some ⟨h.size+0,0,none⟩) 0 0) [] :=
   .inl ⟨by omega,rfl,.inr ⟨h.size+0,0,rfl,by omega,by rw [bo];simp,[],3,false,by rw [kM];rfl⟩⟩
  obtain ⟨w,h',A',e1,e2,e3,e4,e5⟩:=uS (t:=61) iP zE rfl (by decide) (by rw [bo];omega) f hs lA (by simp only [cW];omega) (by simp only [cW];omega)
  rw [e1]
  simp only [aa,seval,wx]
  exact hk _ _ _ ((Ext.refl h).bY e3 (by omega) (by omega)) (by simpa using e2)
 .simp only [aa,seval,wx]
  rw [pg rfl] at hk
  exact hk _ _ h.size ((Ext.refl h).iG _ _ (by omega)) (Ow.nil (aS _))
theorem zvi (l:aU) (v:ai) (h:Heap) (hl:Sl aF.atom h v l) (hs:l.length<=100000000) (K:aL)
 (hk:∀ h' w A,Ext h h'->Ow aF.atom h h' 28 A w l->K w h'):Ok prog aH ov 51 [v] h K:=by
 rw [aq h]
 obtain ⟨b,hb,pg⟩:=zvc hl
 refine Ok.aC 7 (bH Nk) ?_
 simp only [aa,seval,yH,hb]
 cases b
 .simp only [aa,seval,yH,j4,Y9]
  obtain ⟨news,hs,lA⟩:=ym (A:=h.size+1) (r:=aF.atom) (by decide) (hl.lay [.row [] 28 false] h.low) (λcs y hr=>hr)
  have f:Ow aF.atom h (h.lay [.row [] 28 false] h.low) 28 (h.size+1) (.slice (some ⟨h.size+0,0,none⟩) 0 0) [] :=
   .inl ⟨by omega,rfl,.inr ⟨h.size+0,0,rfl,by omega,by rw [bo];simp,[],28,false,by rw [kM];rfl⟩⟩
  obtain ⟨w,h',A',e1,e2,e3,e4,e5⟩:=uS (t:=23) cF xU rfl (by decide) (by rw [bo];omega) f hs lA (by simp only [cW];omega) (by simp only [cW];omega)
  rw [e1]
  simp only [aa,seval,yH]
  exact hk _ _ _ ((Ext.refl h).bY e3 (by omega) (by omega)) (by simpa using e2)
 .simp only [aa,seval,yH]
  rw [pg rfl] at hk
  exact hk _ _ h.size ((Ext.refl h).iG _ _ (by omega)) (Ow.nil (aS _))
theorem zvl (l:List Nat) (v:ai) (k:Nat) (h:Heap) (hl:Sl aF.nat h v l) (hs:l.length<=100000000) (K:aL)
 (hk:∀ n h',Ext h h'->((0:Int)<=n↔k∈l)->K (.int .i64 n) h'):Ok prog aH ov 123 [v,.int .i64 (k:Int)] h K:=by
 rw [aq h]
 have z:=Ext.refl h
 have dG:=λ(hh:Heap)=>hl.bP iP hh
 refine Ok.aC 17 (bH FA) ?_
 simp only [aa,seval,wy,dG]
 obtain ⟨I1,aY⟩:∃ I:Nat->Env->Heap->Prop,I=(λn e h'=>∃ (i:Nat) (h1:Heap),h'=h1.lay [] h1.low/\Ext h h1/\(n=l.length - i/\i<=l.length/\k ∉ l.take i)/\∃ J:Nat->ai,e=(v::.int .i64 (k:Int)::jr J 2 5 (.int .i64 l.length::.int .i64 i::jr J 9 10 ([])))):=⟨_,rfl⟩
 refine dV I1 _ (by rw [aY];exact ⟨0,_,rfl,z,⟨rfl,by omega,by simp⟩,bw⟩) ?_
 intro n e h' aT
 rw [aY] at aT
 obtain ⟨i,bW,rfl,z,hinv,J,rfl⟩:=aT
 obtain ⟨rfl,hi,ni⟩:=hinv
 have hw:=fe i (by omega)
 simp only [aa,seval,wy]
 refine b9 (λaW=>?_) (λaW=>?_)
 rotate_left
 .rw [iK (by omega)] at ni
  repeat' (simp only [aa,seval,wy])
  exact hk _ _ z.aw ⟨λh=>absurd h (by decide),λh=>absurd h ni⟩
 obtain ⟨r,hr,cv⟩:=ig (l:=l) (i:=i) (by omega)
 have mT:l.take (i+1)=l.take i++[r]:=by rw [od,cv];rfl
 repeat' (first|simp only [aa,seval,wy]|((with_reducible apply pK) <;> intro _)|with_reducible refine zyd (hl.mono z.inc) iP xL (by omega) hr (λp hp=>?_)|with_reducible refine sc hp Nu ?_)
 .have he:(k:Int)=(r:Int):=by assumption
  exact hk _ _ z.aw ⟨λ_=>by rw [Int.ofNat.inj he];exact fV cv,λ_=>by omega⟩
 .have he:¬ (k:Int)=(r:Int):=by assumption
  have ph:k ∉ l.take (i+1):=by
   rw [mT,ju,ek]
   rintro (e|e)
   .exact ni e
   .exact he (by rw [e])
  rw [hw]
  (rw [aY];with_reducible refine cR (m:=_) ?_ ⟨i+1,_,rfl,z,⟨rfl,by omega,ph⟩,bw⟩;omega)
theorem znQ (l:List Nat) (v:ai) (k:Nat) (h:Heap) (hl:Sl aF.nat h v l) (hs:l.length<=100000000) (K:aL)
 (hk:∀ h',Ext h h'->K (.bool (decide (k∈l))) h'):Ok prog aH ov 96 [v,.int .i64 (k:Int)] h K:=by
 refine Ok.aC 7 (bH Wh) ?_
 simp only [aa,seval,NW]
 refine zvl l v k h hl hs _ (λn h' x hn=>?_)
 simp only [aa,seval,NW]
 have hd:decide (n >= 0)=decide (k∈l):=by simp [hn]
 rw [hd]
 refine qC (λhh=>?_) (λhh=>?_)
 all_goals
  simp only [aa,seval,NW]
  rw [hh] at hk
  exact hk _ x
theorem sS (x):bZ prog aH .eql 57 (.pointer (some x)) (.pointer none)=some (.bool false):=by kernel_rfl
theorem Gh (x):bZ prog aH .eql 109 (.pointer (some x)) (.pointer none)=some (.bool false):=by kernel_rfl
theorem Cn (x):bZ prog aH .neq 109 (.pointer (some x)) (.pointer none)=some (.bool true):=by kernel_rfl
theorem KA {y:cp} {d:bg} (v:Inv gj b E y bN vf d h) (i:Nat) (hi:i < d.calls.length) (hn:d.calls.length<=100000000) (K:aL)
 (hk:∀ h',Ext h h'->K (.pointer (some ⟨y.pl (.c i),0,none⟩)) h'):Ok prog aH ov 69 [.pointer (some ⟨y.pl .t,0,none⟩),.int .i64 (i:Int)] h K:=by
 rw [aq h]
 have z:=Ext.refl h
 have qt:ak h (y.pl .t) (.row [.map (some (y.pl .pm)),y.vl .ca,.int .i64 (d.count:Int)] 88 false):=v.cZ .t
 have oc:=v.cZ .ca
 have gx:Sl aF.ptr h (y.vl .ca) ((List.range d.calls.length).map λi=>y.pl (.c i)):=cS.sl oc (by decide)
 have cu:∀ (h:Heap) (K:aL),aK (some (y.vl .ca)) h K=K (y.vl .ca) h:=by
  obtain ⟨a,n,c,e⟩:=cS.slice oc
  rw [e]
  exact λ_ _=>rfl
 have dG:=λ(hh:Heap)=>gx.bP ny hh
 rw [fN,Dk] at dG
 have hr:((List.range d.calls.length).map λi=>y.pl (.c i))[(i:Int).toNat]? = some (y.pl (.c i)):=by
  rw [wj,jS,J5 hi]
  rfl
 refine Ok.aC 25 (bH VY) ?_
 repeat' (first|simp only [aa,seval,c69,qt.lay,cu,dG,sS]|((with_reducible apply b9) <;> intro _)|with_reducible refine zye gx ny zBC (by omega) hr (λp hp=>?_)|with_reducible refine sc hp zzZ ?_)
 all_goals first|(exfalso;omega)|exact hk _ z.aw
theorem JT {y:cp} {d:bg} (v:Inv gj b E y bN vf d h) {i:Nat} {c:ba} (hc:d.calls[i]? = some c):ak h (y.pl (.c i)) (.row (c.atom.cells++[y.vl (.an i),.map (some (y.pl (.th i))),y.vl (.wa i)]) 112 false):=v.cZ (.c i) c hc
theorem Uk (a:ae) (u m w:ai):(a.cells++[u,m,w])[11]? = some u:=rfl
theorem zqK (a:ae) (u m w:ai):(a.cells++[u,m,w])[12]? = some m:=rfl
theorem Ul (a:ae) (u m w:ai):(a.cells++[u,m,w])[13]? = some w:=rfl
theorem U3 (a:ae) (u m w:ai):cut (a.cells++[u,m,w]) 0 11=some a.cells:=rfl
theorem zAz {y:cp} {d:bg} (v:Inv gj b E y bN vf d h) (K:aL)
 (hk:∀ h',Ext h h'->K (.int .i64 (d.calls.length:Int)) h'):Ok prog aH ov 34 [.pointer (some ⟨y.pl .t,0,none⟩)] h K:=by
 rw [aq h]
 have z:=Ext.refl h
 have qt:ak h (y.pl .t) (.row [.map (some (y.pl .pm)),y.vl .ca,.int .i64 (d.count:Int)] 88 false):=v.cZ .t
 have oc:=v.cZ .ca
 have gx:Sl aF.ptr h (y.vl .ca) ((List.range d.calls.length).map λi=>y.pl (.c i)):=cS.sl oc (by decide)
 have cu:∀ (h:Heap) (K:aL),aK (some (y.vl .ca)) h K=K (y.vl .ca) h:=by
  obtain ⟨a,n,c,e⟩:=cS.slice oc
  rw [e]
  exact λ_ _=>rfl
 have dG:=λ(hh:Heap)=>gx.bP ny hh
 rw [fN,Dk] at dG
 refine Ok.aC 9 (bH Vw) ?_
 repeat' (simp only [aa,seval,c34,qt.lay,cu,dG,sS])
 exact hk _ z.aw
theorem zzo {y:cp} {d:bg} (v:Inv gj b E y bN vf d h) {i:Nat} {c:ba} (hc:d.calls[i]? = some c) (hn:d.calls.length<=100000000) (K:aL)
 (hk:∀ h',Ext h h'->K (.tuple #[c.atom.val,.bool true]) h'):Ok prog aH ov 57 [.pointer (some ⟨y.pl .t,0,none⟩),.int .i64 (i:Int)] h K:=by
 rw [aq h]
 have z:=Ext.refl h
 have qc:=JT v hc
 refine Ok.aC 15 (bH VL) ?_
 repeat' (simp only [aa,seval,NS])
 refine KA (v.aX (aP.lay _ _ _ _)) i (au hc) hn _ (λh' x=>?_)
 (replace z:=z.ao x;replace qc:=qc.over x;rw [aq h'])
 have q0:=ak.top (i:=0) x rfl
 have hz:=z.size
 repeat' (simp only [aa,seval,NS,Cn,qc.lay,↓U3,dJ,dt])
 refine CT q0 cw rfl rfl rfl (λcK lf c2=>?_)
 replace z:=z.aw.step c2 (by omega)
 rw [aq cK]
 have Sq:ak cK (h.size+0) (.row c.atom.cells 28 false):=lf
 repeat' (simp only [aa,seval,NS,Sq.lay,↓eH,dJ,dt])
 exact hk _ z.aw
theorem zkL {y:cp} {d:bg} (v:Inv gj b E y bN vf d h) {i:Nat} {c:ba} (hc:d.calls[i]? = some c) (hn:d.calls.length<=100000000) (ha:c.answers.length<=100000000) (K:aL)
 (hk:∀ h' w A,Ext h h'->Ow aF.atom h h' 28 A w c.answers->K w h'):Ok prog aH ov 33 [.pointer (some ⟨y.pl .t,0,none⟩),.int .i64 (i:Int)] h K:=by
 rw [aq h]
 have z:=Ext.refl h
 have qc:=JT v hc
 have oa:cS aF.atom b h 28 (y.pl (.an i)) (y.vl (.an i)) c.answers:=v.cZ (.an i) c hc
 have gx:Sl aF.atom h (y.vl (.an i)) c.answers:=oa.sl (by decide)
 have cu:∀ (h:Heap) (K:aL),aK (some (y.vl (.an i))) h K=K (y.vl (.an i)) h:=by
  obtain ⟨a,n,c,e⟩:=cS.slice oa
  rw [e]
  exact λ_ _=>rfl
 refine Ok.aC 14 (bH Vv) ?_
 simp only [aa,seval,NO]
 refine KA (v.aX (aP.lay _ _ _ _)) i (au hc) hn _ (λh' x=>?_)
 (replace z:=z.ao x;replace qc:=qc.over x;rw [aq h'])
 have hz:=z.size
 repeat' (simp only [aa,seval,NO,Cn,qc.lay,Uk,cu])
 refine zvi c.answers _ _ ((gx.mono z.inc).lay _ _) ha _ (λh' w A x ow=>?_)
 have ow:=Ow.low (h0:=h) (by rw [bo];omega) ow
 (replace z:=z.ao x;replace qc:=qc.over x;rw [aq h'])
 have ub:∀ (h:Heap) (K:aL),aK (some w) h K=K w h:=by
  obtain ⟨a,n,c,e⟩:=ow.slice
  rw [e]
  exact λ_ _=>rfl
 repeat' (simp only [aa,seval,NO])
 exact hk _ _ _ z.aw (ow.mono (bQ.lay _ _ _))
theorem zkM {y:cp} {d:bg} (v:Inv gj b E y bN vf d h) {i:Nat} {c:ba} (hc:d.calls[i]? = some c) (hn:d.calls.length<=100000000) (ha:c.waiters.length<=100000000) (K:aL)
 (hk:∀ h' w A,Ext h h'->Ow aF.nat h h' 3 A w c.waiters->K w h'):Ok prog aH ov 91 [.pointer (some ⟨y.pl .t,0,none⟩),.int .i64 (i:Int)] h K:=by
 rw [aq h]
 have z:=Ext.refl h
 have qc:=JT v hc
 have oa:cS aF.nat b h 3 (y.pl (.wa i)) (y.vl (.wa i)) c.waiters:=v.cZ (.wa i) c hc
 have gx:Sl aF.nat h (y.vl (.wa i)) c.waiters:=oa.sl (by decide)
 have cu:∀ (h:Heap) (K:aL),aK (some (y.vl (.wa i))) h K=K (y.vl (.wa i)) h:=by
  obtain ⟨a,n,c,e⟩:=cS.slice oa
  rw [e]
  exact λ_ _=>rfl
 refine Ok.aC 14 (bH Wd) ?_
 simp only [aa,seval,NV]
 refine KA (v.aX (aP.lay _ _ _ _)) i (au hc) hn _ (λh' x=>?_)
 (replace z:=z.ao x;replace qc:=qc.over x;rw [aq h'])
 have hz:=z.size
 repeat' (simp only [aa,seval,NV,Cn,qc.lay,Ul,cu])
 refine zvh c.waiters _ _ ((gx.mono z.inc).lay _ _) ha _ (λh' w A x ow=>?_)
 have ow:=Ow.low (h0:=h) (by rw [bo];omega) ow
 (replace z:=z.ao x;replace qc:=qc.over x;rw [aq h'])
 have ub:∀ (h:Heap) (K:aL),aK (some w) h K=K w h:=by
  obtain ⟨a,n,c,e⟩:=ow.slice
  rw [e]
  exact λ_ _=>rfl
 repeat' (simp only [aa,seval,NV])
 exact hk _ _ _ z.aw (ow.mono (bQ.lay _ _ _))
def N15:=bD f15
def SN:=PLift.up (by have c:=bG N15 f15;simp only [aQ,f15,seval] at c;exact nd c <| nd @fJ <| nd @cj <| nd @fK <| @Oc)
def N11:=bD f11
def SK:=PLift.up (by have c:=bG N11 f11;simp only [aQ,f11,seval] at c;exact nd c <| nd @mV <| nd @fJ <| nd @cj <| nd @pw <| nd @px <| nd @fK <| @N2)
end Go.Proofs.YtnkmeidmdaidhaaGreatDoor
namespace Go.Am
open Classical in
def js (d:bg) (i k:Nat):bg :=
 match d.calls[i]? with
 |some c=>if k∈c.waiters then d else { d with calls:=d.calls.set i { c with waiters:=c.waiters++[k] } }
 |none=>d
open Classical in
def dr (d:bg) (a:ae):bg × Nat × Bool :=
 if ¬ bT a then (d,0,false)
 else if b8 a∈d.calls.map ba.atom then (d,uj (b8 a) (d.calls.map ba.atom),false)
 else ({ d with calls:=d.calls++[⟨b8 a,[],[]⟩] },d.calls.length,true)
open Classical in
def bq (d:bg) (i:Nat) (a:ae):bg × Bool :=
 match d.calls[i]? with
 |some c=>if (cz [] c.atom a).isSome=false\/¬ bT a\/a∈c.answers then (d,false) else ({ d with calls:=d.calls.set i { c with answers:=c.answers++[a] },count:=d.count+1 },true)
 |none=>(d,false)
theorem zuh (x:cp) (i:Nat) (c:ba) (u:ai):J8 { x with vl:=aw x.vl (.wa i) u } i c=c.atom.cells++[x.vl (.an i),.map (some (x.pl (.th i))),u]:=by
 show c.atom.cells++[aw x.vl (.wa i) u (.an i),.map (some (x.pl (.th i))),aw x.vl (.wa i) u (.wa i)]=_
 rw [fh (by simp),kR]
theorem zug (x:cp) (i:Nat) (c:ba) (u:ai):J8 { x with vl:=aw x.vl (.an i) u } i c=c.atom.cells++[u,.map (some (x.pl (.th i))),x.vl (.wa i)]:=by
 show c.atom.cells++[aw x.vl (.an i) u (.an i),.map (some (x.pl (.th i))),aw x.vl (.an i) u (.wa i)]=_
 rw [fh (show (Ro.wa i)≠.an i by simp),kR]
end Go.Am
