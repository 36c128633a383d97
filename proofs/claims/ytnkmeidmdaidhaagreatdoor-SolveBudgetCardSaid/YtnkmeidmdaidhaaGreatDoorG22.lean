/- Solving, in plain terms: canonical variants, marked variables. No condition. -/
import Derived.Test.YtnkmeidmdaidhaaGreatDoorG21
import Derived.Test.YtnkmeidmdaidhaaGreatDoorG13
set_option linter.unusedSimpArgs false
set_option linter.unusedVariables false
set_option maxRecDepth 100000
set_option maxHeartbeats 0
noncomputable section
namespace Go.Am
variable {i k:Nat} {a:ae} {x:av} {b:List av}
def jG (n:Nat):bf:=⟨#[UInt8.ofNat (48+n)]⟩
def iW (s:bf) (ns:List bf):Nat:=ns.findIdx λx=>decide (s=x)
theorem Mn (s x:bf) (ns:List bf):iW s (x::ns)=if s=x then 0 else iW s ns+1:=by
 unfold iW
 rw [List.findIdx_cons]
 by_cases h:s=x
 .simp [h]
 .simp [h]
theorem UM {s:bf}:∀ {ns:List bf},s∈ns->iW s ns < ns.length
 |x::ns,h=>by
  rw [Mn]
  by_cases hx:s=x
  .rw [aG hx];simp
  .rw [aA hx]
   have:=UM (s:=s) (ns:=ns) (by simpa [hx] using h)
   simp;omega
theorem znz {s:bf}:∀ {ns:List bf},s ∉ ns->iW s (ns++[s])=ns.length
 | [],_=>by rw [yy,Mn,aG rfl];rfl
 |x::ns,h=>by
  simp only [dg,not_or] at h
  rw [qG,Mn,aA h.1,znz h.2]
  rfl
def uk (k:Nat):List bf->List (bf × ai)
 | []=>[]
 |s::ns=>(s,.int .i64 (k:Int))::uk (k+1) ns
theorem zu3 (k:Nat):∀ ns:List bf,(uk k ns).length=ns.length
 | []=>rfl
 |s::ns=>by rw [uk,dB,zu3,dB]
theorem zq6 (s:bf):∀ (k:Nat) (ns:List bf),uk k (ns++[s])=uk k ns++[(s,.int .i64 ((k+ns.length:Nat):Int))]
 |k,[]=>rfl
 |k,x::ns=>by
  rw [qG,uk,uk,zq6 s (k+1) ns,qG,dB]
  have e:k+1+ns.length=k+(ns.length+1):=by omega
  rw [e]
open Classical in
theorem Zh (s:bf):∀ (k:Nat) (ns:List bf),lj (uk k ns) s=if s∈ns then some (Value.int .i64 ((k+iW s ns:Nat):Int)) else none
 |k,[]=>by simp [uk,lj]
 |k,x::ns=>by
  rw [uk,Tt,Mn,Zh s (k+1) ns]
  by_cases hx:s=x
  .simp [hx]
  .simp only [hx,if_false,dg,false_or]
   have e:k+1+iW s ns=k+(iW s ns+1):=by omega
   rw [e]
def Cg (ns:List bf):List (bf × ai):=uk 0 ns
open Classical in
theorem Zi (s:bf) (ns:List bf):lj (Cg ns) s=if s∈ns then some (Value.int .i64 (iW s ns:Int)) else none:=by
 unfold Cg
 rw [Zh,ia]
theorem Sw {s:bf} {ns:List bf} (h:s ∉ ns):jN (Cg ns) s (.int .i64 (ns.length:Int))=Cg (ns++[s]):=by
 unfold jN
 rw [Zi,aA h]
 unfold Cg
 rw [zq6,ia]
 rfl
theorem zzh (ns:List bf):(Cg ns).length=ns.length:=zu3 0 ns
def dX (f:Nat->az) (a:ae) (k:Nat):ae :=
 { a with t0:=if 0 < k then f 0 else a.t0,t1:=if 1 < k then f 1 else a.t1,t2:=if 2 < k then f 2 else a.t2,t3:=if 3 < k then f 3 else a.t3 }
theorem zq9 (f:Nat->az) (a:ae) (hk:k < 4):(dX f a k).arg k=a.arg k:=by
 have:k=0\/k=1\/k=2\/k=3:=by omega
 rcases this with rfl|rfl|rfl|rfl <;> rfl
theorem zzk (f:Nat->az) (a:ae) (hi:i < 4):(dX f a k).arg i=if i < k then f i else a.arg i:=by
 have:i=0\/i=1\/i=2\/i=3:=by omega
 rcases this with rfl|rfl|rfl|rfl <;> rfl
theorem znJ {f:Nat->az} (hk:k < 4) (he:f k=a.arg k):dX f a (k+1)=dX f a k:=by
 have:k=0\/k=1\/k=2\/k=3:=by omega
 rcases this with rfl|rfl|rfl|rfl <;> simp_all [dX,ae.arg]
theorem TZ {f:Nat->az} (hk:k < 4) (hv:(f k).v=(a.arg k).v):aJ (dX f a k).cells (3+k*2+1) [.string (f k).s]=(dX f a (k+1)).cells:=by
 have:k=0\/k=1\/k=2\/k=3:=by omega
 rcases this with rfl|rfl|rfl|rfl
 .show aJ (dX f a 0).cells 4 [.string (f 0).s]=_
  have rk:(f 0).v=a.t0.v:=hv
  simp [dX,ae.cells,aJ,rk]
 .show aJ (dX f a 1).cells 6 [.string (f 1).s]=_
  have rk:(f 1).v=a.t1.v:=hv
  simp [dX,ae.cells,aJ,rk]
 .show aJ (dX f a 2).cells 8 [.string (f 2).s]=_
  have rk:(f 2).v=a.t2.v:=hv
  simp [dX,ae.cells,aJ,rk]
 .show aJ (dX f a 3).cells 10 [.string (f 3).s]=_
  have rk:(f 3).v=a.t3.v:=hv
  simp [dX,ae.cells,aJ,rk]
open Classical in
def dq (a:ae):Nat->List bf
 |0=>[]
 |i+1=>if (a.arg i).v=true/\(a.arg i).s ∉ dq a i then dq a i++[(a.arg i).s] else dq a i
open Classical in
theorem zzm (h:(a.arg i).v=false):dq a (i+1)=dq a i:=by
 show (if (a.arg i).v=true/\(a.arg i).s ∉ dq a i then dq a i++[(a.arg i).s] else dq a i)=_
 rw [aA (by rw [h];simp)]
open Classical in
theorem zwY (h:(a.arg i).s∈dq a i):dq a (i+1)=dq a i:=by
 show (if (a.arg i).v=true/\(a.arg i).s ∉ dq a i then dq a i++[(a.arg i).s] else dq a i)=_
 rw [aA (by simp [h])]
open Classical in
theorem zwX (hv:(a.arg i).v=true) (h:(a.arg i).s ∉ dq a i):dq a (i+1)=dq a i++[(a.arg i).s]:=by
 show (if (a.arg i).v=true/\(a.arg i).s ∉ dq a i then dq a i++[(a.arg i).s] else dq a i)=_
 rw [aG ⟨hv,h⟩]
theorem Ug (a:ae):∀ i,(dq a i).length<=i
 |0=>aS _
 |i+1=>by
  have:=Ug a i
  unfold dq
  split
  .simp;omega
  .omega
theorem zwW (hv:(a.arg i).v=true):(a.arg i).s∈dq a (i+1):=by
 unfold dq
 by_cases h:(a.arg i).s∈dq a i
 .rw [aA (by simp [h])];exact h
 .rw [aG ⟨hv,h⟩];simp
def nn (a:ae) (i:Nat):az:=if (a.arg i).v=true then ⟨true,⟨#[86]⟩++jG (iW (a.arg i).s (dq a (i+1)))⟩ else a.arg i
def b8 (a:ae):ae:=dX (nn a) a a.cH
def kF (a:ae) (i:Nat):az:=if (a.arg i).v=true then ⟨true,(a.arg i).s++⟨#[35,49]⟩⟩ else a.arg i
def gd (a:ae):ae:=dX (kF a) a a.cH
def fX (p:ae) (l:aU):aU:=l.filter λa=>(cz [] p a).isSome
theorem ztY (p:ae) (l:aU) (a:ae):fX p (l++[a])=if (cz [] p a).isSome=true then fX p l++[a] else fX p l:=by
 unfold fX
 rw [J3]
 cases h:(cz [] p a).isSome <;> simp [h]
theorem MA (p:ae) (l:aU):(fX p l).length<=l.length:=List.length_filter_le _ _
def Fi (l:List av) (x y:az):Option (List av) :=
 if x=y then some l else if x.v=true/\(y.v=false\/slt y.s x.s=true) then jz l x.s y else if y.v=true then jz l y.s x else none
def n7 (a b:ae):Nat->Option (List av)
 |0=>some []
 |k+1=>(n7 a b k).bind λl=>Fi l (ep l (a.arg k)) (ep l (b.arg k))
def nZ (a b:ae):Option (List av):=if lM a b=true then n7 a b a.n.toNat else none
theorem Tq {b:ae} {l:List av} (h:n7 a b k=some l):n7 a b (k+1)=Fi l (ep l (a.arg k)) (ep l (b.arg k)):=by
 show (n7 a b k).bind _=_
 rw [h]
 rfl
theorem L5 {a b:ae}:∀ {k m:Nat},k<=m->n7 a b k=none->n7 a b m=none
 |k,0,h,hn=>by obtain rfl:k=0:=by omega
               exact hn
 |k,m+1,h,hn=>by
  by_cases e:k=m+1
  .subst e;exact hn
  .show (n7 a b m).bind _=_
   rw [L5 (by omega) hn]
   rfl
theorem zom (l m:List av) (s:bf):(df (hY l m) s).2=(df l s).2:=by
 induction l with
 |nil=>rfl
 |cons x l ih =>
  show (df (⟨x.var,ep m x.term⟩::hY l m) s).2=_
  rw [vO,vO]
  split
  .rfl
  .exact ih
def iI (a b:List av):Nat->List av
 |0=>hY a b
 |k+1=>match b[k]? with
  |some x=>if (df a x.var).2=true then iI a b k else jt (iI a b k) x
  |none=>iI a b k
theorem L8 {a:List av} (hx:b[k]? = some x) (h:(df a x.var).2=true):iI a b (k+1)=iI a b k:=by
 show (match b[k]? with|some x=>if (df a x.var).2=true then iI a b k else jt (iI a b k) x|none=>iI a b k)=_
 rw [hx]
 simp only
 rw [aG h]
theorem L7 {a:List av} (hx:b[k]? = some x) (h:(df a x.var).2=false):iI a b (k+1)=jt (iI a b k) x:=by
 show (match b[k]? with|some x=>if (df a x.var).2=true then iI a b k else jt (iI a b k) x|none=>iI a b k)=_
 rw [hx]
 simp only
 rw [aA (by rw [h];decide)]
theorem TP {a b:List av} (hb:kS b b.length):∀ {k:Nat} {s:bf},k<=b.length->(df a s).2=false->(∀ j y,j < k->b[j]? = some y->y.var≠s)->(df (iI a b k) s).2=false
 |0,s,_,h,_=>by
  show (df (hY a b) s).2=false
  rw [zom,h]
 |k+1,s,hk,h,hn=>by
  have hx:b[k]? = some b[k]:=i4 (by omega)
  have ih:=TP hb (k:=k) (s:=s) (by omega) h (λj y hj=>hn j y (by omega))
  cases hg:(df a b[k].var).2
  .rw [L7 hx hg]
   have gI:(df (iI a b k) b[k].var).2=false:=TP hb (by omega) hg (λj y hj hy e=>by
    have aW:=Jw hb hj hy hx
    rw [e,Js] at aW
    cases aW)
   rw [L4 gI,aA (hn k _ (by omega) hx)]
   exact ih
  .rw [L8 hx hg]
   exact ih
theorem zlA {a:List av} (hb:kS b b.length) (hx:b[k]? = some x) (hg:(df a x.var).2=false):(df (iI a b k) x.var).2=false :=
 TP hb (Nat.le_of_lt (fD.1 hx).1) hg (λj y hj hy e=>by
  have aW:=Jw hb hj hy hx
  rw [e,Js] at aW
  cases aW)
theorem Z5 {a b:List av} (ha:kS a a.length) (hb:kS b b.length):∀ {k:Nat},k<=b.length->kS (iI a b k) (iI a b k).length
 |0,_=>Tu ha
 |k+1,hk=>by
  have hx:b[k]? = some b[k]:=i4 (by omega)
  have ih:=Z5 ha hb (k:=k) (by omega)
  cases hg:(df a b[k].var).2
  .rw [L7 hx hg]
   exact Z7 ih (zlA hb hx hg)
  .rw [L8 hx hg]
   exact ih
theorem Up {a b:List av}:∀ (k:Nat),(iI a b k).length<=a.length+k
 |0=>by show (hY a b).length<=_;unfold hY;simp
 |k+1=>by
  have ih:=Up (a:=a) (b:=b) k
  cases hx:b[k]? with
  |none =>
   show (match b[k]? with|some x=>if (df a x.var).2=true then iI a b k else jt (iI a b k) x|none=>iI a b k).length<=_
   rw [hx];simp only;omega
  |some x =>
   cases hg:(df a x.var).2
   .rw [L7 hx hg]
    have:(jt (iI a b k) x).length=(iI a b k).length+1:=by
     unfold jt
     rw [dx,dB,<- na,<- dx,Ts]
    omega
   .rw [L8 hx hg];omega
open Classical in
def kQ (a b:List av):List av:=if kb a then (if kb (iI a b b.length) then iI a b b.length else []) else []
theorem zAB {a:List av} (ha:kb a) (hb:∀ y∈b,y.term.v=false):∀ y∈hY a b,lG y=false:=by
 intro y hy
 unfold hY at hy
 obtain ⟨x,hx,rfl⟩:=sx.1 hy
 unfold lG
 simp only [Bool.and_eq_false_iff,decide_eq_false_iff_not]
 by_cases hc:(df b x.term.s).2=true/\x.term.v=true
 .left
  unfold ep
  rw [aG hc]
  have hm:=ztq (TV hc.1)
  exact hb _ hm
 .unfold ep
  rw [aA hc]
  by_cases hv:x.term.v=true
  .right
   intro e
   refine (ha.2 x hx).2 ⟨hv,?_⟩
   cases hq:(df a x.term.s).2
   .exact absurd e.symm (TG hq x hx)
   .rfl
  .left
   simpa using hv
end Go.Am
namespace Go.Proofs.YtnkmeidmdaidhaaGreatDoor
open Go.Am Tryz
theorem zzD (s:bf) (a b:Nat) (h1:a<=b) (h2:b<=s.size):jQ aH 9 (.string s) (some (.int .i64 a)) (some (.int .i64 b)) none=some (.string (s.extract a b)):=by
 unfold jQ
 rw [show aH.desc 9=some .string by kernel_rfl]
 simp only [zX,fF,if_false,oC,uT,dz]
 rw [aG (by omega)]
 simp only [dz,wj]
 rw [aG (by omega)]
 simp
theorem zyY:∀ n,n < 10->ByteArray.extract ⟨#[48,49,50,51,52,53,54,55,56,57,97,98,99,100,101,102,103,104,105,106,107,108,109,110,111,112,113,114,115,116,117,118,119,120,121,122]⟩ n (n+1)=jG n:=by
 intro n hn
 have:n=0\/n=1\/n=2\/n=3\/n=4\/n=5\/n=6\/n=7\/n=8\/n=9:=by omega
 rcases this with rfl|rfl|rfl|rfl|rfl|rfl|rfl|rfl|rfl|rfl <;> rfl
theorem zvp (n:Nat) (hn:n < 10) (h:Heap) (K:aL) (hk:∀ h',Ext h h'->K (.string (jG n)) h'):Ok prog aH ov 143 [.int .i64 n] h K:=by
 rw [aq h]
 have z:=Ext.refl h
 have hw:=fe n (by omega)
 refine Ok.aC 14 (bH FN) ?_
 simp only [aa,seval,Az]
 refine b9 (λ_=>?_) (λhx=>absurd hx (by omega))
 simp only [aa,seval,Az,hw]
 rw [zzD _ n (n+1) (by omega) (by show n+1<=36;omega)]
 have hd:=hk _ (z.iG [] h.low (by omega))
 rw [<- zyY n hn] at hd
 simp only [aa,seval,Az]
 exact hd
theorem zsW (n:Nat) (hn:n < 10) (h:Heap) (K:aL) (hk:∀ h',Ext h h'->K (.string (jG n)) h'):Ok prog aH ov 122 [.int .i64 n,.int .i64 10] h K:=by
 rw [aq h]
 have z:=Ext.refl h
 refine Ok.aC 52 (bH Fz) ?_
 have h1:decide ((0:Int)<=(n:Int))=true:=wm (by omega)
 have h2:decide ((n:Int) < 100)=true:=wm (by omega)
 repeat' (simp only [aa,seval,F5,h1,h2])
 all_goals try omega
 refine zvp n hn _ _ (λh' x=>?_)
 (replace z:=z.ao x;rw [aq h'])
 simp only [aa,seval,F5]
 exact hk _ z.aw
theorem zw4 (n:Nat) (hn:n < 10) (h:Heap) (K:aL) (hk:∀ h',Ext h h'->K (.string (jG n)) h'):Ok prog aH ov 95 [.int .i64 n] h K:=by
 rw [aq h]
 have z:=Ext.refl h
 refine Ok.aC 4 (bH Wg) ?_
 simp only [aa,seval,Wr]
 refine zsW n hn _ _ (λh' x=>?_)
 (replace z:=z.ao x;rw [aq h'])
 simp only [aa,seval,Wr]
 exact hk _ z.aw
theorem UB (n:Nat) (hn:n < 10) (h:Heap) (K:aL) (hk:∀ h',Ext h h'->K (.string (jG n)) h'):Ok prog aH ov 62 [.int .i64 n] h K:=by
 rw [aq h]
 have z:=Ext.refl h
 refine Ok.aC 4 (bH VQ) ?_
 simp only [aa,seval,Wn]
 refine zw4 n hn _ _ (λh' x=>?_)
 (replace z:=z.ao x;rw [aq h'])
 simp only [aa,seval,Wn]
 exact hk _ z.aw
def V2:=bD f78
def YO:=PLift.up (by have c:=bG V2 f78;simp only [aQ,f78,seval] at c;exact nd c <| nd @cj <| @O8)
theorem KN:type_of% YO.down:=YO.down
def VE:=bD f46
def Yn:=PLift.up (by have c:=bG VE f46;simp only [aQ,f46,seval] at c;exact nd c <| @OH)
theorem NQ:type_of% Yn.down:=Yn.down
def V7:=bD f83
def YT:=PLift.up (by have c:=bG V7 f83;simp only [aQ,f83,seval] at c;exact nd c <| nd @xC <| nd @jm <| nd @xH <| @Pd)
theorem DJ:type_of% YT.down:=YT.down
def Fq:=bD f110
def Iy:=PLift.up (by have c:=bG Fq f110;simp only [aQ,f110,seval] at c;exact nd c <| nd @vY <| nd @vD <| @zAZ)
theorem F1:type_of% Iy.down:=Iy.down
def VF:=bD f47
def Yo:=PLift.up (by have c:=bG VF f47;simp only [aQ,f47,seval] at c;exact nd c <| nd @zV <| nd @vZ <| nd @mh <| @OI)
theorem KH:type_of% Yo.down:=Yo.down
def V0:=bD f76
def YM:=PLift.up (by have c:=bG V0 f76;simp only [aQ,f76,seval] at c;exact nd c <| @O6)
theorem NT:type_of% YM.down:=YM.down
def Fo:=bD f108
def Iw:=PLift.up (by have c:=bG Fo f108;simp only [aQ,f108,seval] at c;exact nd c <| nd @fJ <| nd @cj <| nd @fK <| @zAX)
theorem qL:type_of% Iw.down:=Iw.down
theorem znV (l:List az) (v fv:ai) (pr:az->Bool) (h:Heap) (hl:Sl aF.term h v l) (hs:l.length<=1000) (xr:∀ (x:az) (hc:Heap) (K:aL),Ext h hc->(∀ h',Ext hc h'->K (.bool (pr x)) h')->uU prog aH ov [x.val] hc K fv) (K:aL)
 (hk:∀ h',Ext h h'->K (.int .i64 (lB pr l)) h'):Ok prog aH ov 83 [v,fv] h K:=by
 rw [aq h]
 have z:=Ext.refl h
 refine Ok.aC 17 (bH V7) ?_
 simp only [aa,seval,DJ]
 repeat' ((with_reducible refine pG hl mH ?_) <;> simp only [aa,seval,DJ])
 obtain ⟨I1,aY⟩:∃ I:Nat->Env->Heap->Prop,I=(λn e h'=>∃ (i:Nat) (h1:Heap),h'=h1.lay [] h1.low/\Ext h h1/\(n=l.length - i/\i<=l.length/\∀ x∈l.take i,pr x=false)/\∃ J:Nat->ai,e=(v::fv::jr J 2 5 (.int .i64 l.length::.int .i64 i::jr J 9 10 ([])))):=⟨_,rfl⟩
 refine dV I1 _ (by rw [aY];exact ⟨0,_,rfl,z,⟨rfl,by omega,by simp⟩,bw⟩) ?_
 intro n e h' aT
 rw [aY] at aT
 obtain ⟨i,bW,rfl,z,hinv,J,rfl⟩:=aT
 obtain ⟨rfl,hi,aD⟩:=hinv
 have hw:=fe i (by omega)
 repeat' (first|simp only [aa,seval,DJ]|((with_reducible apply b9) <;> intro _))
 rotate_left
 .rw [iK (by omega)] at aD
  have:=Ud aD
  rw [this] at hk
  exact hk _ z.aw
 obtain ⟨r,hr,cv⟩:=ig (l:=l) (i:=i) (by assumption)
 repeat' ((first|with_reducible refine MV (hl.mono z.inc) mH gL (by omega) hr (λp hp=>?_)|with_reducible refine HY hp qI gL ?_) <;> simp only [aa,seval,DJ])
 refine xr _ _ _ z.aw (λh' x=>?_)
 (replace z:=z.ao x;rw [aq h'])
 cases hx:pr r
 rotate_left
 .simp only [aa,seval,DJ]
  have:=TX cv aD hx
  rw [this] at hk
  exact hk _ z.aw
 .simp only [aa,seval,DJ]
  rw [hw]
  (rw [aY];with_reducible refine cR (m:=_) ?_ ⟨i+1,_,rfl,z,⟨rfl,by omega,uI (i:=i) (P:=λx:az=>pr x=false) cv aD hx⟩,bw⟩;omega)
theorem Zk (l:List az) (v fv:ai) (pr:az->Bool) (h:Heap) (hl:Sl aF.term h v l) (hs:l.length<=1000) (xr:∀ (x:az) (hc:Heap) (K:aL),Ext h hc->(∀ h',Ext hc h'->K (.bool (pr x)) h')->uU prog aH ov [x.val] hc K fv) (K:aL)
 (hk:∀ h',Ext h h'->K (.bool (l.any pr)) h'):Ok prog aH ov 46 [v,fv] h K:=by
 refine Ok.aC 7 (bH VE) ?_
 simp only [aa,seval,NQ]
 refine znV l v fv pr h hl hs xr _ (λh' x=>?_)
 simp only [aa,seval,NQ,UN]
 refine qC (λhh=>?_) (λhh=>?_)
 all_goals
  simp only [aa,seval,NQ]
  rw [hh] at hk
  exact hk _ x
theorem zsX (x:az) (h:Heap) (K:aL) (hk:∀ h',Ext h h'->K (.bool x.v) h'):Ok prog aH ov 110 [x.val] h K:=by
 rw [aq h]
 unfold az.val az.cells
 refine Ok.aC 4 (bH Fq) ?_
 simp only [aa,seval,F1]
 refine qC (λhh=>?_) (λhh=>?_)
 all_goals
  simp only [aa,seval,F1]
  rw [hh] at hk
  exact hk _ ((Ext.refl h).iG _ _ (by omega))
theorem Sz (A o:Nat) (k:Int) (h0:0<=k) (h4:k<=4):jQ aH 26 (.pointer (some ⟨A,o,none⟩)) none (some (.int .i64 k)) none=some (.slice (some ⟨A,o,none⟩) k.toNat 4):=by
 have hG:4 < G:=by decide
 simp only [jQ,AK,oC,uT,aG hG,dz]
 rw [aG ⟨h0,by omega⟩]
 simp [gL]
theorem MR (a:ae) (h:Heap) (K:aL) (hk:∀ w h',Ext h h'->Sl aF.term h' w a.args->K w h'):Ok prog aH ov 47 [a.val] h K:=by
 rw [aq h]
 have z:=Ext.refl h
 unfold ae.val ae.cells
 refine Ok.aC 8 (bH VF) ?_
 simp only [aa,seval,KH]
 refine MO rfl rfl ?_
 simp only [aa,seval,KH]
 refine MQ rfl rfl ?_
 simp only [aa,seval,KH]
 rw [Sz _ _ _ (by split <;> split <;> omega) (by split <;> split <;> omega)]
 simp only [aa,seval,KH]
 have hc:(if 4 < (if a.n < 0 then 0 else a.n) then 4 else (if a.n < 0 then 0 else a.n)).toNat=a.cH:=by
  unfold ae.cH
  split <;> split <;> omega
 rw [hc]
 exact hk _ _ z.aw (zzB (a:=a) ⟨by rw [bo];simp,by rw [kM];rfl⟩ rfl)
theorem znU (a:ae) (h:Heap) (K:aL) (hk:∀ h',Ext h h'->K (.bool a.ground) h'):Ok prog aH ov 78 [a.val] h K:=by
 rw [aq h]
 have z:=Ext.refl h
 unfold ae.val ae.cells
 refine Ok.aC 6 (bH V2) ?_
 simp only [aa,seval,KN]
 refine MR a _ _ (λw h' x ha=>?_)
 (replace z:=z.ao x;rw [aq h'])
 simp only [aa,seval,KN]
 have oZ:a.args.length<=1000:=by rw [xV];unfold ae.cH;omega
 refine Zk _ _ _ (λt=>t.v) _ (ha.lay _ _) oZ (λt hc K' _ hK=>by rw [vL];exact zsX t hc K' hK) _ (λh' x=>?_)
 (replace z:=z.ao x;replace ha:=ha.over x;rw [aq h'])
 simp only [aa,seval,KN]
 refine cn rfl ?_
 simp only [aa,seval,KN]
 exact hk _ z.aw
theorem zlW (l:aU) (v fv:ai) (pr:ae->Bool) (h:Heap) (hl:Sl aF.atom h v l) (hs:l.length<=1000) (xr:∀ (x:ae) (hc:Heap) (K:aL),Ext h hc->(∀ h',Ext hc h'->K (.bool (pr x)) h')->uU prog aH ov [x.val] hc K fv) (K:aL)
 (hk:∀ h',Ext h h'->K (.int .i64 (lB pr l)) h'):Ok prog aH ov 108 [v,fv] h K:=by
 rw [aq h]
 have z:=Ext.refl h
 refine Ok.aC 17 (bH Fo) ?_
 simp only [aa,seval,qL]
 repeat' ((with_reducible refine pG hl cF ?_) <;> simp only [aa,seval,qL])
 obtain ⟨I1,aY⟩:∃ I:Nat->Env->Heap->Prop,I=(λn e h'=>∃ (i:Nat) (h1:Heap),h'=h1.lay [] h1.low/\Ext h h1/\(n=l.length - i/\i<=l.length/\∀ x∈l.take i,pr x=false)/\∃ J:Nat->ai,e=(v::fv::jr J 2 5 (.int .i64 l.length::.int .i64 i::jr J 9 10 ([])))):=⟨_,rfl⟩
 refine dV I1 _ (by rw [aY];exact ⟨0,_,rfl,z,⟨rfl,by omega,by simp⟩,bw⟩) ?_
 intro n e h' aT
 rw [aY] at aT
 obtain ⟨i,bW,rfl,z,hinv,J,rfl⟩:=aT
 obtain ⟨rfl,hi,aD⟩:=hinv
 have hw:=fe i (by omega)
 repeat' (first|simp only [aa,seval,qL]|((with_reducible apply b9) <;> intro _))
 rotate_left
 .rw [iK (by omega)] at aD
  have:=Ud aD
  rw [this] at hk
  exact hk _ z.aw
 obtain ⟨r,hr,cv⟩:=ig (l:=l) (i:=i) (by assumption)
 repeat' ((first|with_reducible refine uQ (hl.mono z.inc) cF cw (by omega) hr (λp hp=>?_)|with_reducible refine rq hp iM cw ?_) <;> simp only [aa,seval,qL])
 refine xr _ _ _ z.aw (λh' x=>?_)
 (replace z:=z.ao x;rw [aq h'])
 cases hx:pr r
 rotate_left
 .simp only [aa,seval,qL]
  have:=TX cv aD hx
  rw [this] at hk
  exact hk _ z.aw
 .simp only [aa,seval,qL]
  rw [hw]
  (rw [aY];with_reducible refine cR (m:=_) ?_ ⟨i+1,_,rfl,z,⟨rfl,by omega,uI (i:=i) (P:=λx:ae=>pr x=false) cv aD hx⟩,bw⟩;omega)
theorem zhU (l:aU) (v fv:ai) (pr:ae->Bool) (h:Heap) (hl:Sl aF.atom h v l) (hs:l.length<=1000) (xr:∀ (x:ae) (hc:Heap) (K:aL),Ext h hc->(∀ h',Ext hc h'->K (.bool (pr x)) h')->uU prog aH ov [x.val] hc K fv) (K:aL)
 (hk:∀ h',Ext h h'->K (.bool (l.any pr)) h'):Ok prog aH ov 76 [v,fv] h K:=by
 refine Ok.aC 7 (bH V0) ?_
 simp only [aa,seval,NT]
 refine zlW l v fv pr h hl hs xr _ (λh' x=>?_)
 simp only [aa,seval,NT,UN]
 refine qC (λhh=>?_) (λhh=>?_)
 all_goals
  simp only [aa,seval,NT]
  rw [hh] at hk
  exact hk _ x
end Go.Proofs.YtnkmeidmdaidhaaGreatDoor
