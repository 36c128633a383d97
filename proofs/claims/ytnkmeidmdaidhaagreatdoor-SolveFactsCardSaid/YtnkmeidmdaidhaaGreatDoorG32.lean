/- Walks: numbers; a call by its place. Written out by fill2.py. No condition. -/
import Derived.Test.YtnkmeidmdaidhaaGreatDoorG31
set_option linter.unusedSimpArgs false
set_option linter.unusedVariables false
set_option maxRecDepth 100000
set_option maxHeartbeats 0
noncomputable section
namespace Go.Proofs.YtnkmeidmdaidhaaGreatDoor
open Go.Am Tryz
variable {b h:Heap} {cd vf:ai} {E:List Nat}
abbrev iD:yf:=⟨63,88,112,101,109,99,3,71,28⟩
theorem zBF {v:ai} {l:List Nat} (f:Sl aC.nat h v l):∃ b:Bool,cA prog aH .eql 61 v (.slice none 0 0)=some (.bool b)/\(b=true->l=[]):=by
 rcases f with ⟨rfl,rfl⟩|⟨A,o,c,row,u,ro,rfl,_⟩
 .exact ⟨true,by kernel_rfl,λ_=>rfl⟩
 .exact ⟨false,by kernel_rfl,nofun⟩
theorem zw9 {v:ai} {l:aN} (f:Sl aC.atom h v l):∃ b:Bool,cA prog aH .eql 23 v (.slice none 0 0)=some (.bool b)/\(b=true->l=[]):=by
 rcases f with ⟨rfl,rfl⟩|⟨A,o,c,row,u,ro,rfl,_⟩
 .exact ⟨true,by kernel_rfl,λ_=>rfl⟩
 .exact ⟨false,by kernel_rfl,nofun⟩
theorem Og:td aH 61 61=true:=by kernel_rfl
section
variable {T:bJ} {t e:TypeId} {v:ai} {h1:Heap} {kd:IntKind} {i:Int} {bs:List aZ} {w x:Nat} {K:aJ} {l:List Nat}
theorem zAt (f:Sl aC.nat h1 v l) (hd:T.desc t=some (.slice e)) (hs:dJ T e=some 1) (h0:0<=i) (hx:l[i.toNat]? = some x) (hk:∀ p,gy h1 p [.int .i64 (x:Int)]->K p (h1.lay bs w)):aK (kC T t v (.int kd i)) (h1.lay bs w) K :=
 C4 f hd hs h0 (by have:=(fG.1 hx).1;omega) λx' p cs oz hr hp=>by
  rw [hx] at oz
  cases oz
  exact hk p (hr ▸ hp)
theorem Zk (f:Sl aC.ptr h1 v l) (hd:T.desc t=some (.slice e)) (hs:dJ T e=some 1) (h0:0<=i) (hx:l[i.toNat]? = some x) (hk:∀ p,gy h1 p [.pointer (some ⟨x,0,none⟩)]->K p (h1.lay bs w)):aK (kC T t v (.int kd i)) (h1.lay bs w) K :=
 C4 f hd hs h0 (by have:=(fG.1 hx).1;omega) λx' p cs oz hr hp=>by
  rw [hx] at oz
  cases oz
  exact hk p (hr ▸ hp)
end
theorem zxe (l:List Nat) (v:ai) (h:Heap) (hl:Sl aC.nat h v l) (hs:l.length<=100000000) (K:aJ)
 (hk:∀ h' w A,Ext h h'->Ow aC.nat h h' 3 A w l->K w h'):Ok prog aH ov 121 [v] h K:=by
 rw [aw h]
 obtain ⟨b,hb,rN⟩:=zBF hl
 refine Ok.aA 7 (bH IH) ?_
 simp only [aa,seval,zw,hb]
 cases b
 .simp only [aa,seval,zw,jF,Og]
  obtain ⟨news,hs,j3⟩:=xR (A:=h.size+1) (r:=aC.nat) (by decide) (hl.lay [.row [] 3 false] h.low) (λcs y hr=>hr)
  have f:Ow aC.nat h (h.lay [.row [] 3 false] h.low) 3 (h.size+1) (.slice (some ⟨h.size+0,0,none⟩) 0 0) [] :=
   .inl ⟨by omega,rfl,.inr ⟨h.size+0,0,rfl,by omega,by rw [bh];simp,[],3,false,by rw [jG];rfl⟩⟩
  obtain ⟨w,h',A',e1,e2,e3,e4,e5⟩:=sb (t:=61) kb CW rfl (by decide) (by rw [bh];omega) f hs j3 (by simp only [db];omega) (by simp only [db];omega)
  rw [e1]
  simp only [aa,seval,zw]
  exact hk _ _ _ ((Ext.refl h).bV e3 (by omega) (by omega)) (by simpa using e2)
 .simp only [aa,seval,zw]
  rw [rN rfl] at hk
  exact hk _ _ h.size ((Ext.refl h).jC _ _ (by omega)) (Ow.nil (aR _))
theorem zxf (l:aN) (v:ai) (h:Heap) (hl:Sl aC.atom h v l) (hs:l.length<=100000000) (K:aJ)
 (hk:∀ h' w A,Ext h h'->Ow aC.atom h h' 28 A w l->K w h'):Ok prog aH ov 51 [v] h K:=by
 rw [aw h]
 obtain ⟨b,hb,rN⟩:=zw9 hl
 refine Ok.aA 7 (bH Q9) ?_
 simp only [aa,seval,BP,hb]
 cases b
 .simp only [aa,seval,BP,jF,Gt]
  obtain ⟨news,hs,j3⟩:=xR (A:=h.size+1) (r:=aC.atom) (by decide) (hl.lay [.row [] 28 false] h.low) (λcs y hr=>hr)
  have f:Ow aC.atom h (h.lay [.row [] 28 false] h.low) 28 (h.size+1) (.slice (some ⟨h.size+0,0,none⟩) 0 0) [] :=
   .inl ⟨by omega,rfl,.inr ⟨h.size+0,0,rfl,by omega,by rw [bh];simp,[],28,false,by rw [jG];rfl⟩⟩
  obtain ⟨w,h',A',e1,e2,e3,e4,e5⟩:=sb (t:=23) bZ sV rfl (by decide) (by rw [bh];omega) f hs j3 (by simp only [db];omega) (by simp only [db];omega)
  rw [e1]
  simp only [aa,seval,BP]
  exact hk _ _ _ ((Ext.refl h).bV e3 (by omega) (by omega)) (by simpa using e2)
 .simp only [aa,seval,BP]
  rw [rN rfl] at hk
  exact hk _ _ h.size ((Ext.refl h).jC _ _ (by omega)) (Ow.nil (aR _))
theorem zxh (l:List Nat) (v:ai) (k:Nat) (h:Heap) (hl:Sl aC.nat h v l) (hs:l.length<=100000000) (K:aJ)
 (hk:∀ n h',Ext h h'->((0:Int)<=n↔k∈l)->K (.int .i64 n) h'):Ok prog aH ov 123 [v,.int .i64 (k:Int)] h K:=by
 rw [aw h]
 have z:=Ext.refl h
 have dQ:=λ(hh:Heap)=>hl.bQ kb hh
 refine Ok.aA 17 (bH IJ) ?_
 simp only [aa,seval,zx,dQ]
 obtain ⟨I1,aX⟩:∃ I:Nat->Env->Heap->Prop,I=(λn e h'=>∃ (i:Nat) (h1:Heap),h'=h1.lay [] h1.low/\Ext h h1/\(n=l.length - i/\i<=l.length/\k ∉ l.take i)/\∃ J:Nat->ai,e=(v::.int .i64 (k:Int)::jr J 2 5 (.int .i64 l.length::.int .i64 i::jr J 9 10 ([])))):=⟨_,rfl⟩
 refine dN I1 _ (by rw [aX];exact ⟨0,_,rfl,z,⟨rfl,by omega,by simp⟩,bo⟩) ?_
 intro n e h' aP
 rw [aX] at aP
 obtain ⟨i,bU,rfl,z,hinv,J,rfl⟩:=aP
 obtain ⟨rfl,hi,jO⟩:=hinv
 have hw:=eE i (by omega)
 simp only [aa,seval,zx]
 refine bS (λaT=>?_) (λaT=>?_)
 rotate_left
 .rw [gb (by omega)] at jO
  repeat' (simp only [aa,seval,zx])
  exact hk _ _ z.av ⟨λh=>absurd h (by decide),λh=>absurd h jO⟩
 obtain ⟨r,hr,cw⟩:=gC (l:=l) (i:=i) (by omega)
 have ic:l.take (i+1)=l.take i++[r]:=by rw [lr,cw];rfl
 repeat' (first|simp only [aa,seval,zx]|((with_reducible apply qL) <;> intro _)|with_reducible refine zAt (hl.mono z.inc) kb AX (by omega) hr (λp hp=>?_)|with_reducible refine qJ hp Rk ?_)
 .have he:(k:Int)=(r:Int):=by assumption
  exact hk _ _ z.av ⟨λ_=>by rw [Int.ofNat.inj he];exact en cw,λ_=>by omega⟩
 .have he:¬ (k:Int)=(r:Int):=by assumption
  have Ez:k ∉ l.take (i+1):=by
   rw [ic,gg,ep]
   rintro (e|e)
   .exact jO e
   .exact he (by rw [e])
  rw [hw]
  (rw [aX];with_reducible refine cF (m:=_) ?_ ⟨i+1,_,rfl,z,⟨rfl,by omega,Ez⟩,bo⟩;omega)
theorem zo5 (l:List Nat) (v:ai) (k:Nat) (h:Heap) (hl:Sl aC.nat h v l) (hs:l.length<=100000000) (K:aJ)
 (hk:∀ h',Ext h h'->K (.bool (decide (k∈l))) h'):Ok prog aH ov 96 [v,.int .i64 (k:Int)] h K:=by
 refine Ok.aA 7 (bH N96) ?_
 simp only [aa,seval,RS]
 refine zxh l v k h hl hs _ (λn h' x hn=>?_)
 simp only [aa,seval,RS]
 have hd:decide (n >= 0)=decide (k∈l):=by simp [hn]
 rw [hd]
 refine tj (λhh=>?_) (λhh=>?_)
 all_goals
  simp only [aa,seval,RS]
  rw [hh] at hk
  exact hk _ x
theorem vR (x):cA prog aH .eql 57 (.pointer (some x)) (.pointer none)=some (.bool false):=by kernel_rfl
theorem JE (x):cA prog aH .eql 109 (.pointer (some x)) (.pointer none)=some (.bool false):=by kernel_rfl
theorem Fj (x):cA prog aH .neq 109 (.pointer (some x)) (.pointer none)=some (.bool true):=by kernel_rfl
theorem Oh {y:cO} {d:ba} (v:Inv iD b E y cd vf d h) (i:Nat) (hi:i < d.calls.length) (hn:d.calls.length<=100000000) (K:aJ)
 (hk:∀ h',Ext h h'->K (.pointer (some ⟨y.pl (.c i),0,none⟩)) h'):Ok prog aH ov 69 [.pointer (some ⟨y.pl .t,0,none⟩),.int .i64 (i:Int)] h K:=by
 rw [aw h]
 have z:=Ext.refl h
 have qt:Holds h (y.pl .t) (.row [.map (some (y.pl .pm)),y.vl .ca,.int .i64 (d.count:Int)] 88 false):=v.dF .t
 have oc:=v.dF .ca
 have ia:Sl aC.ptr h (y.vl .ca) ((List.range d.calls.length).map λi=>y.pl (.c i)):=dx.sl oc (by decide)
 have cX:∀ (h:Heap) (K:aJ),aK (some (y.vl .ca)) h K=K (y.vl .ca) h:=by
  obtain ⟨a,n,c,e⟩:=dx.slice oc
  rw [e]
  exact λ_ _=>rfl
 have dQ:=λ(hh:Heap)=>ia.bQ qb hh
 rw [gw,Gg] at dQ
 have hr:((List.range d.calls.length).map λi=>y.pl (.c i))[(i:Int).toNat]? = some (y.pl (.c i)):=by
  rw [uK,lP,NI hi]
  rfl
 refine Ok.aA 25 (bH N69) ?_
 repeat' (first|simp only [aa,seval,c69,qt.lay,cX,dQ,vR]|((with_reducible apply bS) <;> intro _)|with_reducible refine Zk ia qb zEm (by omega) hr (λp hp=>?_)|with_reducible refine qJ hp zCr ?_)
 all_goals first|(exfalso;omega)|exact hk _ z.av
theorem Nz {y:cO} {d:ba} (v:Inv iD b E y cd vf d h) {i:Nat} {c:aY} (hc:d.calls[i]? = some c):Holds h (y.pl (.c i)) (.row (c.atom.cells++[y.vl (.an i),.map (some (y.pl (.th i))),y.vl (.wa i)]) 112 false):=v.dF (.c i) c hc
theorem Yz (a:ae) (u m w:ai):(a.cells++[u,m,w])[11]? = some u:=rfl
theorem zsc (a:ae) (u m w:ai):(a.cells++[u,m,w])[12]? = some m:=rfl
theorem YA (a:ae) (u m w:ai):(a.cells++[u,m,w])[13]? = some w:=rfl
theorem Zl (a:ae) (u m w:ai):cut (a.cells++[u,m,w]) 0 11=some a.cells:=rfl
theorem zC3 {y:cO} {d:ba} (v:Inv iD b E y cd vf d h) (K:aJ)
 (hk:∀ h',Ext h h'->K (.int .i64 (d.calls.length:Int)) h'):Ok prog aH ov 34 [.pointer (some ⟨y.pl .t,0,none⟩)] h K:=by
 rw [aw h]
 have z:=Ext.refl h
 have qt:Holds h (y.pl .t) (.row [.map (some (y.pl .pm)),y.vl .ca,.int .i64 (d.count:Int)] 88 false):=v.dF .t
 have oc:=v.dF .ca
 have ia:Sl aC.ptr h (y.vl .ca) ((List.range d.calls.length).map λi=>y.pl (.c i)):=dx.sl oc (by decide)
 have cX:∀ (h:Heap) (K:aJ),aK (some (y.vl .ca)) h K=K (y.vl .ca) h:=by
  obtain ⟨a,n,c,e⟩:=dx.slice oc
  rw [e]
  exact λ_ _=>rfl
 have dQ:=λ(hh:Heap)=>ia.bQ qb hh
 rw [gw,Gg] at dQ
 refine Ok.aA 9 (bH ZO) ?_
 repeat' (simp only [aa,seval,c34,qt.lay,cX,dQ,vR])
 exact hk _ z.av
theorem zBI {y:cO} {d:ba} (v:Inv iD b E y cd vf d h) {i:Nat} {c:aY} (hc:d.calls[i]? = some c) (hn:d.calls.length<=100000000) (K:aJ)
 (hk:∀ h',Ext h h'->K (.tuple #[c.atom.val,.bool true]) h'):Ok prog aH ov 57 [.pointer (some ⟨y.pl .t,0,none⟩),.int .i64 (i:Int)] h K:=by
 rw [aw h]
 have z:=Ext.refl h
 have qc:=Nz v hc
 refine Ok.aA 15 (bH Z3) ?_
 repeat' (simp only [aa,seval,RN])
 refine Oh (v.bf (aS.lay _ _ _ _)) i (aq hc) hn _ (λh' x=>?_)
 (replace z:=z.ao x;replace qc:=qc.over x;rw [aw h'])
 have q0:=Holds.top (i:=0) x rfl
 have hz:=z.size
 repeat' (simp only [aa,seval,RN,Fj,qc.lay,↓Zl,dU,dq])
 refine FQ q0 ck rfl rfl rfl (λdc nh c2=>?_)
 replace z:=z.av.step c2 (by omega)
 rw [aw dc]
 have Ws:Holds dc (h.size+0) (.row c.atom.cells 28 false):=nh
 repeat' (simp only [aa,seval,RN,Ws.lay,↓fe,dU,dq])
 exact hk _ z.av
theorem zlC {y:cO} {d:ba} (v:Inv iD b E y cd vf d h) {i:Nat} {c:aY} (hc:d.calls[i]? = some c) (hn:d.calls.length<=100000000) (ha:c.answers.length<=100000000) (K:aJ)
 (hk:∀ h' w A,Ext h h'->Ow aC.atom h h' 28 A w c.answers->K w h'):Ok prog aH ov 33 [.pointer (some ⟨y.pl .t,0,none⟩),.int .i64 (i:Int)] h K:=by
 rw [aw h]
 have z:=Ext.refl h
 have qc:=Nz v hc
 have oa:dx aC.atom b h 28 (y.pl (.an i)) (y.vl (.an i)) c.answers:=v.dF (.an i) c hc
 have ia:Sl aC.atom h (y.vl (.an i)) c.answers:=oa.sl (by decide)
 have cX:∀ (h:Heap) (K:aJ),aK (some (y.vl (.an i))) h K=K (y.vl (.an i)) h:=by
  obtain ⟨a,n,c,e⟩:=dx.slice oa
  rw [e]
  exact λ_ _=>rfl
 refine Ok.aA 14 (bH ZN) ?_
 simp only [aa,seval,RH]
 refine Oh (v.bf (aS.lay _ _ _ _)) i (aq hc) hn _ (λh' x=>?_)
 (replace z:=z.ao x;replace qc:=qc.over x;rw [aw h'])
 have hz:=z.size
 repeat' (simp only [aa,seval,RH,Fj,qc.lay,Yz,cX])
 refine zxf c.answers _ _ ((ia.mono z.inc).lay _ _) ha _ (λh' w A x ow=>?_)
 have ow:=Ow.low (h0:=h) (by rw [bh];omega) ow
 (replace z:=z.ao x;replace qc:=qc.over x;rw [aw h'])
 have xf:∀ (h:Heap) (K:aJ),aK (some w) h K=K w h:=by
  obtain ⟨a,n,c,e⟩:=ow.slice
  rw [e]
  exact λ_ _=>rfl
 repeat' (simp only [aa,seval,RH])
 exact hk _ _ _ z.av (ow.mono (bN.lay _ _ _))
theorem zlD {y:cO} {d:ba} (v:Inv iD b E y cd vf d h) {i:Nat} {c:aY} (hc:d.calls[i]? = some c) (hn:d.calls.length<=100000000) (ha:c.waiters.length<=100000000) (K:aJ)
 (hk:∀ h' w A,Ext h h'->Ow aC.nat h h' 3 A w c.waiters->K w h'):Ok prog aH ov 91 [.pointer (some ⟨y.pl .t,0,none⟩),.int .i64 (i:Int)] h K:=by
 rw [aw h]
 have z:=Ext.refl h
 have qc:=Nz v hc
 have oa:dx aC.nat b h 3 (y.pl (.wa i)) (y.vl (.wa i)) c.waiters:=v.dF (.wa i) c hc
 have ia:Sl aC.nat h (y.vl (.wa i)) c.waiters:=oa.sl (by decide)
 have cX:∀ (h:Heap) (K:aJ),aK (some (y.vl (.wa i))) h K=K (y.vl (.wa i)) h:=by
  obtain ⟨a,n,c,e⟩:=dx.slice oa
  rw [e]
  exact λ_ _=>rfl
 refine Ok.aA 14 (bH N91) ?_
 simp only [aa,seval,RR]
 refine Oh (v.bf (aS.lay _ _ _ _)) i (aq hc) hn _ (λh' x=>?_)
 (replace z:=z.ao x;replace qc:=qc.over x;rw [aw h'])
 have hz:=z.size
 repeat' (simp only [aa,seval,RR,Fj,qc.lay,YA,cX])
 refine zxe c.waiters _ _ ((ia.mono z.inc).lay _ _) ha _ (λh' w A x ow=>?_)
 have ow:=Ow.low (h0:=h) (by rw [bh];omega) ow
 (replace z:=z.ao x;replace qc:=qc.over x;rw [aw h'])
 have xf:∀ (h:Heap) (K:aJ),aK (some w) h K=K w h:=by
  obtain ⟨a,n,c,e⟩:=ow.slice
  rw [e]
  exact λ_ _=>rfl
 repeat' (simp only [aa,seval,RR])
 exact hk _ _ _ z.av (ow.mono (bN.lay _ _ _))
def ZB:=bI f15
def Mr:=PLift.up (by have c:=bM ZB f15;simp only [aO,f15,seval] at c;exact nd c <| nd @ig <| nd @cq <| nd @ij <| @R3)
theorem BO:type_of% Mr.down:=Mr.down
def Iv:=bI f105
def LN:=PLift.up (by have c:=bM Iv f105;simp only [aO,f105,seval] at c;exact nd c <| @zDz)
theorem Ji:type_of% LN.down:=LN.down
def IY:=bI f133
def Mi:=PLift.up (by have c:=bM IY f133;simp only [aO,f133,seval] at c;exact nd c <| @zDZ)
theorem Jr:type_of% Mi.down:=Mi.down
def IZ:=bI f134
def Mj:=PLift.up (by have c:=bM IZ f134;simp only [aO,f134,seval] at c;exact nd c <| @zD0)
theorem Js:type_of% Mj.down:=Mj.down
def IW:=bI f131
def Mg:=PLift.up (by have c:=bM IW f131;simp only [aO,f131,seval] at c;exact nd c <| nd @Lj <| @zDX)
theorem nx:type_of% Mg.down:=Mg.down
def Iw:=bI f106
def LO:=PLift.up (by have c:=bM Iw f106;simp only [aO,f106,seval] at c;exact nd c <| nd @Lj <| @zDA)
theorem nv:type_of% LO.down:=LO.down
def IX:=bI f132
def Mh:=PLift.up (by have c:=bM IX f132;simp only [aO,f132,seval] at c;exact nd c <| nd @xm <| nd @kp <| nd @xp <| @zDY)
theorem DD:type_of% Mh.down:=Mh.down
def I9:=bI f147
def Mq:=PLift.up (by have c:=bM I9 f147;simp only [aO,f147,seval] at c;exact nd c <| nd @zt <| @zD5)
theorem RG:type_of% Mq.down:=Mq.down
def Iu:=bI f104
def LM:=PLift.up (by have c:=bM Iu f104;simp only [aO,f104,seval] at c;exact nd c <| @zDy)
theorem vJ:type_of% LM.down:=LM.down
def N70:=bI f70
def x70:=PLift.up (by have c:=bM N70 f70;simp only [aO,f70,seval] at c;exact nd c <| @SY)
theorem GC:type_of% x70.down:=x70.down
def N71:=bI f71
def x71:=PLift.up (by have c:=bM N71 f71;simp only [aO,f71,seval] at c;exact nd c <| @SZ)
theorem RO:type_of% x71.down:=x71.down
def Rc:=bI f72
def x72:=PLift.up (by have c:=bM Rc f72;simp only [aO,f72,seval] at c;exact nd c <| nd @uD <| nd @ta <| nd @ui <| nd @kp <| @S0)
theorem Ou:type_of% x72.down:=x72.down
def ZP:=bI f39
def x39:=PLift.up (by have c:=bM ZP f39;simp only [aO,f39,seval] at c;exact nd c <| nd @Ie <| nd @Bu <| nd @yV <| nd @uE <| nd @mJ <| nd @jQ <| nd @ng <| nd @kp <| @Ss)
theorem rE:type_of% x39.down:=x39.down
theorem Yk (c:Int) (h:Heap) (K:aJ) (h1:(97<=c/\c<=122)->K (.bool true) h) (h2:¬ (97<=c/\c<=122)->K (.bool false) h):Ok prog aH ov 105 [.int .u8 c] h K:=by
 refine Ok.aA 8 (bH Iv) ?_
 simp only [aa,seval,Ji]
 repeat' (refine bS (λc=>?_) (λc=>?_) <;> simp only [aa,seval,Ji])
 all_goals first|exact h1 (by omega)|exact h2 (by omega)
theorem zsG (c:Int) (h:Heap) (K:aJ) (h1:(65<=c/\c<=90)->K (.bool true) h) (h2:¬ (65<=c/\c<=90)->K (.bool false) h):Ok prog aH ov 133 [.int .u8 c] h K:=by
 refine Ok.aA 8 (bH IY) ?_
 simp only [aa,seval,Jr]
 repeat' (refine bS (λc=>?_) (λc=>?_) <;> simp only [aa,seval,Jr])
 all_goals first|exact h1 (by omega)|exact h2 (by omega)
theorem zsF (c:Int) (h:Heap) (K:aJ) (h1:(48<=c/\c<=57)->K (.bool true) h) (h2:¬ (48<=c/\c<=57)->K (.bool false) h):Ok prog aH ov 134 [.int .u8 c] h K:=by
 refine Ok.aA 8 (bH IZ) ?_
 simp only [aa,seval,Js]
 repeat' (refine bS (λc=>?_) (λc=>?_) <;> simp only [aa,seval,Js])
 all_goals first|exact h1 (by omega)|exact h2 (by omega)
end Go.Proofs.YtnkmeidmdaidhaaGreatDoor
namespace Go.Proofs.YtnkmeidmdaidhaaGreatDoor
open Go.Am
theorem zA0:lL aH 25 []=some bD.val:=by kernel_rfl
theorem Qn (a:ae) (k:Nat) (hk:k < 4):cut a.cells (3+k*2) 2=some (a.arg k).cells:=by
 have:k=0\/k=1\/k=2\/k=3:=by omega
 rcases this with rfl|rfl|rfl|rfl <;> rfl
theorem XZ (a:ay):Value.agg a.cells.toArray=a.val:=rfl
theorem zA9 (a:ae):a.cells[0]? = some (.string a.says):=rfl
theorem zBa (a:ae):a.cells[1]? = some (.string a.pred):=rfl
theorem Y2 (a:ae):a.cells[2]? = some (.int .i64 a.n):=rfl
end Go.Proofs.YtnkmeidmdaidhaaGreatDoor
