/- slices.Insert of one element, in place of its text. No condition. -/
import Derived.Test.YtiapegieocgmfaaGreatDoorG6
import Derived.Lib.Overlaps
import Derived.Lib.AppendZerosOnto
set_option linter.unusedSimpArgs false
set_option linter.unusedVariables false
namespace Go.Am
open Go.RowKit
variable {fz:Nat × Nat} {cur:Array ab} {e t:TypeId} {m:List ab} {b o:Nat}
section
variable {P:Program} {gs:List Nat} {ρ:cm} {h:Heap} {w:World}
theorem zxw (hs:bP ρ h w) (fW:ρ h.size=none) {A off:Nat} {L:Loc} {cs news:List ab} {W:World} (hA:ρ A=some L) (hg:h.get A=some (.row cs e false))
 (ob:ot e cur.size fz) (nJ:cur.size=L.vP) (re:W.heap[L.b]? = some (.cells cur e fz)) (jA:∀ b,b≠L.b->W.heap[b]? = w.heap[b]?) (dx:W.heap.size=w.heap.size)
 (vx:W.os=w.os) (htp:W.tape=w.tape) (eT:W.output=w.output) (nD:cut cur.toList off news.length=some m) (hn:cu ρ news m) :
 ∃ ρ',ρ' h.size=some ⟨L.b,off,L.vP⟩/\Fr ρ ρ' h ((h.set A .dead).push (.row news e false)) w W/\bP ρ' ((h.set A .dead).push (.row news e false)) W:=by
 have uX:A < h.size:=Heap.bw hg
 have eL:∀ A L',ρ A=some L'->(λA=>if A=h.size then some (⟨L.b,off,L.vP⟩:Loc) else ρ A) A=some L':=by
  intro A L' hA
  have aQ:A≠h.size:=λe=>by rw [e,fW] at hA;cases hA
  simp only [az aQ]
  exact hA
 have eR:∀ j,((h.set A .dead).push (.row news e false)).get j=if j=h.size then some (.row news e false) else if j=A then some .dead else h.get j:=by
  intro j
  rw [Heap.bg,Heap.size_set,Heap.aJ _ _ _ _ uX]
 have aQ:∀ A' L',ρ A'=some L'->A'≠A->live h A'->L'.b≠L.b:=by
  intro A' L' dS e' kb heq
  rcases hs.inj A' A L' L dS hA e' heq with h1|h1|h1
  .exact h1 kb
  .exact h1 ⟨_,hg,by simp⟩
  .obtain ⟨_,RN,e2,qB⟩:=h1
   rw [hg] at qB
   cases qB
 refine ⟨λA=>if A=h.size then some ⟨L.b,off,L.vP⟩ else ρ A,by simp,⟨eL,?_,vx,htp,eT,by rw [dx];exact bj _,?_,xA _ _,?_,?_⟩,⟨?_,?_⟩⟩
 .intro A' L' dS Yc
  split at dS
  .rename_i e1
   cases dS
   refine ⟨by omega,by rw [Heap.size_push,Heap.size_set];omega,.inr ⟨A,L,hA,rfl,?_,by rw [Heap.size_push,Heap.size_set];omega⟩⟩
   rw [Heap.cR,Heap.bQ]
   omega
  .rw [Yc] at dS;cases dS
 .rw [Heap.size_push,Heap.size_set];omega
 .intro b hb aH
  refine jA b λe'=>?_
  subst e'
  have:=aH A L hA rfl
  rw [Heap.cR,Heap.bQ,Heap.size_push,Heap.size_set] at this
  omega
 .intro A' dS hl
  rw [Heap.cR,Heap.bQ] at hl
  rw [eR,az (by omega),az (by omega)]
 .intro A' L' dS
  rw [eR]
  split at dS
  .rename_i e1
   cases dS
   rw [aE e1]
   exact ⟨_,fz,re,ob,nJ,m,nD,hn.mono eL⟩
  .rename_i e1
   rw [az e1]
   by_cases e2:A'=A
   .rw [aE e2]
    show L'.b < _
    rw [dx]
    exact hs.lt dS
   .rw [az e2]
    exact (hs.ff A' L' dS).keep eL (by rw [dx];exact bj _) λhl=>jA L'.b (aQ A' L' dS e2 hl)
 .intro A1 A2 L1 L2 h1 h2 yG hb
  unfold live nL
  rw [eR,eR]
  have bf:∀ A' L',A'≠h.size->ρ A'=some L'->L.b=L'.b->¬ ∃ b,(if A'=A then some ba.dead else h.get A')=some b/\b≠.dead:=by
   intro A' L' hh dS tX
   by_cases e2:A'=A
   .simp [e2]
   .rw [az e2]
    exact λkb=>aQ A' L' dS e2 kb tX.symm
  split at h1
  .rename_i e1
   split at h2
   .omega
   .rename_i e2
    cases h1
    right;left
    rw [az e2]
    exact bf A2 L2 e2 h2 hb
  .rename_i e1
   split at h2
   .rename_i e2
    cases h2
    left
    rw [az e1]
    exact bf A1 L1 e1 h1 hb.symm
   .rename_i e2
    rw [az e1,az e2]
    by_cases f1:A1=A
    .left;simp [f1]
    .by_cases f2:A2=A
     .right;left;simp [f2]
     .rw [az f1,az f2]
      exact hs.inj A1 A2 L1 L2 h1 h2 yG hb

theorem SP {w:World} {u ty e':TypeId} {i:TypeInfo} (ht:P.underlying t=some (.slice e)) (hi:P.info? e=some i) {n c m q:Nat} {s':ab} {news:List ab} (hlen:Builtin.lenOf s'=pure m) (hq:min m n=q)
 (hf:(Builtin.firstCells i.size q s').run P w=.ok news.toArray w) (gr:w.heap[b]? = some (.cells cur e' fz)) (ob:ot e' cur.size fz) (kA:o+news.length<=cur.size) (h1:∀ v∈news,v.oneCell'=true) :
 (Builtin.copy_ #[t,u] ty #[.slice (some ⟨b,o,none⟩) n c,s']).run P w=.ok (.int .i64 q) (w.setRow b (aB cur.toList o news).toArray):=by
 have fj:=SG P b o e' fz news 0 cur w gr ob (by omega) h1
 simp only [iU] at fj
 have yE:Nat.min m n=q:=hq
 simp [Builtin.copy_,run_underlying ht,hlen,yE,sizeOf,typeInfo,hi,hf,fj,goInt,aB]
theorem zAQ {cur d us:List ab} {I N K:Nat} (hd:cut cur o N=some d) (hu:us.length=K) (hI:I<=N) (kA:o+N+K<=cur.length) :
 cut (aB (aB cur (o+I+K) (d.drop I)) (o+I) us) o (N+K)=some (d.take I++us++d.drop I):=by
 obtain ⟨h1,h2,h3⟩:=qo hd
 have rf:(d.drop I).length=N - I:=by rw [kP,h2]
 have yX:(d.take I).length=I:=by rw [gh,h2];omega
 have fR:(aB cur (o+I+K) (d.drop I)).length=cur.length:=oR (by omega)
 refine sq (by rw [oR (by omega),fR];omega) (by rw [dy,dy,yX,rf,hu];omega) λj hj=>?_
 rw [bG _ _ _ _ (by omega),bG _ _ _ _ (by omega),hu,rf]
 by_cases c1:j < I
 .rw [aE (by omega),aE (by omega),j7,nc (by omega),mi,aE c1,h3 j (by omega)]
 .rw [az (by omega)]
  by_cases c2:j < I+K
  .rw [aE (by omega),j7,qu (by omega),yX,nc (by omega)]
   congr 1
   omega
  .rw [az (by omega),az (by omega),aE (by omega),j7,qu (by omega),yX,qu (by omega),hu]
   congr 1
   omega
theorem zAR {cur d us:List ab} {I N K:Nat} (hd:d.length=N) (nH:∀ j,j < I->cur[j]? = d[j]?) (hu:us.length=K) (hI:I<=N) (kA:N+K<=cur.length) :
 cut (aB (aB cur I us) (I+K) (d.drop I)) 0 (N+K)=some (d.take I++us++d.drop I):=by
 have rf:(d.drop I).length=N - I:=by rw [kP,hd]
 have yX:(d.take I).length=I:=by rw [gh,hd];omega
 have fR:(aB cur I us).length=cur.length:=oR (by omega)
 refine sq (by rw [oR (by omega),fR];omega) (by rw [dy,dy,yX,rf,hu];omega) λj hj=>?_
 rw [jo,bG _ _ _ _ (by omega),bG _ _ _ _ (by omega),hu,rf]
 by_cases c1:j < I
 .rw [aE (by omega),aE (by omega),j7,nc (by omega),mi,aE c1,nH j c1]
 .by_cases c2:j < I+K
  .rw [aE (by omega),az (by omega),aE (by omega),j7,qu (by omega),yX,nc (by omega)]
  .rw [az (by omega),aE (by omega),j7,qu (by omega),yX,qu (by omega),hu]
   congr 1
   omega
def rM (T:bI) (t:TypeId) (args:List ab) (h:Heap):Option (ab × Heap) :=
 match T.desc t,args with
 |some (.slice e),[.slice base n c,.int .i64 iz,.slice (some ⟨B,o2,none⟩) 1 c2] =>
  if iz=(n:Int) then gC T t (.slice base n c) (.slice (some ⟨B,o2,none⟩) 1 c2) h else
  match T.info e,base,h.get B with
  |some (k,bytes,_),some ⟨A,o,none⟩,some (.row _ eB false) =>
   match h.get A with
   |some (.row _ eA false) =>
    if (0<=iz/\iz < n/\A≠B/\eA=e/\eB=e/\e≠Rm/\0 < k/\G<=c/\c / G=k)/\(n+1)*bytes<=140737488355328/\n+1<=1152921504606846976 then
     (gD A o (n*k) h).bind λeO=>(gD B o2 k h).bind λnews =>
     if news.all one=true/\eO.all one=true then some (.slice (some ⟨h.size,0,none⟩) (n+1) (G*k+(n+1)),(h.set A .dead).push (.row (eO.take (iz.toNat*k)++news++eO.drop (iz.toNat*k)) e false)) else none
    else none
   |_=>none
  |_,_,_=>none
 |_,_=>none
theorem zmK {T:bI} {args:List ab} {h h':Heap} {v:ab} (aj:rM T t args h=some (v,h')):bx h h':=by
 unfold rM at aj
 split at aj
 .split at aj
  .exact zgu aj
  .split at aj
   .split at aj
    .rename_i hg
     split at aj
     .simp only [cH] at aj
      obtain ⟨eO,_,news,_,aj⟩:=aj
      split at aj
      .cases aj
       exact (bx.set _ (Heap.bw hg)).trans (bx.push _ _)
      .cases aj
     .cases aj
    .cases aj
   .cases aj
 .cases aj
theorem zjM {w:World} {n:Nat} (gr:w.heap[b]? = some (.cells cur e fz)) (hc:cut cur.toList o n=some m):w.rangeAt b o m:=by
 obtain ⟨h1,h2,h3⟩:=qo hc
 intro j v hj
 have MY:j < n:=by rw [<- h2];exact (dP.1 hj).1
 rw [cell_of_row w b _ cur e fz gr,<- TM,<- h3 j MY]
 exact hj
theorem zux {w:World} {q:Nat} (h:w.rangeAt b o m):w.rangeAt b (o+q) (m.drop q):=by
 intro j v hj
 rw [lL] at hj
 rw [pF]
 exact h _ v hj
theorem zhy {w W:World} (h:w.rangeAt b o m) (hb:W.heap[b]? = w.heap[b]?):W.rangeAt b o m:=by
 intro j v hj
 have:=h j v hj
 unfold World.cell? at this ⊢
 rw [hb]
 exact this
set_option maxHeartbeats 0 in
theorem zus {T:bI} (hT:T.Fits P) {f Zl tn tb:TypeId} {k bytes:Nat} {z:List ab} (hd:T.desc t=some (.slice e)) (gT:T.info e=some (k,bytes,z)) (hint:P.underlying tn=some (.int .i64))
 (dj:∀ aK w,(callFunc f aK).run P w=.ok (.enter f aK) w)
 (Yl:∀ (x y:ab) (w:World),(Extern.SlicesOverlaps.overlaps #[t,t] #[tb] #[x,y]).run P w=.ok (.bool false) w->(callFunc Zl #[x,y]).run P w=.ok (.value (.bool false)) w)
 (WT:∀ (a:Option Addr) (n c:Nat) (av:Option Addr) (cv:Nat) (w w':World) (r:ab),n<=c->(∀ ty,(Builtin.append_ #[t,t] ty #[.slice a n c,.slice av 1 cv]).run P w=.ok r w') ->
  Calls P f #[.slice a n c,.int .i64 n,.slice av 1 cv] w λe W=>e=.returned r/\W=w')
 (Mn:∀ (b off n c i:Nat) (av:Option Addr) (cv:Nat) (w w1 w2:World) (x1 x2:ab),i < n->n+1<=c->c<=9223372036854775807 ->
  (∀ lb cb,(callFunc Zl #[.slice av 1 cv,.slice (some ⟨b,off+(i+1)*k,none⟩) lb cb]).run P w=.ok (.value (.bool false)) w) ->
  (∀ ty dc sc,(Builtin.copy_ #[t,t] ty #[.slice (some ⟨b,off+(i+1)*k,none⟩) (n - i) dc,.slice (some ⟨b,off+i*k,none⟩) (n+1 - i) sc]).run P w.drew=.ok x1 w1) ->
  (∀ ty dc,(Builtin.copy_ #[t,t] ty #[.slice (some ⟨b,off+i*k,none⟩) (n+1 - i) dc,.slice av 1 cv]).run P w1=.ok x2 w2) ->
  Calls P f #[.slice (some ⟨b,off,none⟩) n c,.int .i64 i,.slice av 1 cv] w λe W=>e=.returned (.slice (some ⟨b,off,none⟩) (n+1) c)/\W=w2)
 (Mh:∀ (b off n c i nb g:Nat) (av:Option Addr) (cv:Nat) (w w1 w2 w3:World) (x1 x2:ab),i < n->n<=c->c < n+1->n+1<=g->g<=9223372036854775807 ->
  (∀ ty,(Builtin.append_ #[t,tn] ty #[.slice (some ⟨b,off,none⟩) i c,.int .i64 ((n:Int)+1 - (i:Int))]).run P w=.ok (.slice (some ⟨nb,0,none⟩) (n+1) g) w1) ->
  (∀ ty dc,(Builtin.copy_ #[t,t] ty #[.slice (some ⟨nb,i*k,none⟩) (n+1 - i) dc,.slice av 1 cv]).run P w1=.ok x1 w2) ->
  (∀ ty dc sc,(Builtin.copy_ #[t,t] ty #[.slice (some ⟨nb,(i+1)*k,none⟩) (n - i) dc,.slice (some ⟨b,off+i*k,none⟩) (n - i) sc]).run P w2.drew=.ok x2 w3) ->
  Calls P f #[.slice (some ⟨b,off,none⟩) n c,.int .i64 i,.slice av 1 cv] w λe W=>e=.returned (.slice (some ⟨nb,0,none⟩) (n+1) g)/\W=w3):AV P gs f (rM T t):=by
 intro args h v h' aj
 refine ⟨zmK aj,λρ w aK _ hs bW hv=>.inr ⟨dj aK w,?_⟩⟩
 unfold rM at aj
 split at aj
 rotate_left
 .cases aj
 rename_i _ e' base n c iz B o2 c2 oE
 rw [hd] at oE
 cases oE
 obtain ⟨x,m0,e0,hx,hv⟩:=hv.of_cons
 obtain ⟨y,m1,e1,hy,hv⟩:=hv.of_cons
 obtain ⟨u,m2,e2,hu,hv⟩:=hv.of_cons
 have e3:=hv.of_nil
 subst e3 e2 e1
 have mC:aK=#[x,y,u]:=by rw [<- AQ];exact e0
 subst mC
 cases hy
 have ht:P.underlying t=some (.slice e):=hT.desc _ _ hd
 obtain ⟨inf,zv,hi,hk,sU,hz,YT,vJ,uq⟩:=hT.info e k bytes z gT
 have YA:=hu
 -- the new Is list
 have Y3:∃ L cv,ρ B=some L/\u=.slice (some ⟨L.b,L.s+o2,none⟩) 1 cv:=by
  cases hu with
  |slice hA hc pn en=>exact ⟨_,_,hA,by rw [en (by omega)]⟩
  |b9 hA hc dt pn hk hm en=>exact ⟨_,_,hA,by rw [(en (by omega)).1]⟩
 obtain ⟨LB,cv,hB,rfl⟩:=Y3
 by_cases k9:iz=(n:Int)
 .subst k9
  rw [aE rfl] at aj
  have key:∃ a' c',x=.slice a' n c'/\n<=c':=by
   cases hx with
   |dI=>exact ⟨_,_,rfl,bj _⟩
   |slice hA hc hn en=>exact ⟨_,_,rfl,hn⟩
   |b9 hA hc dt hn hk hm en=>exact ⟨_,_,rfl,by omega⟩
  obtain ⟨a',c',rfl,pn⟩:=key
  obtain ⟨ρ',vc,w',ey,cW,dV,oc⟩:=zgv (ty:=0) (u:=t) hT hs bW (.inl ⟨e,ht⟩) hx YA aj
  refine (WT a' n c' _ cv w w' vc pn (λty=>?_)).mono ?_
  .exact ey
  .rintro ed W ⟨rfl,rfl⟩
   exact ⟨ρ',vc,rfl,cW,dV,oc⟩
 rw [az k9] at aj
 split at aj
 rotate_left
 .cases aj
 rename_i k' U5 z' A o csB eB Dn Ae
 rw [gT] at Dn
 cases Dn
 split at aj
 rotate_left
 .cases aj
 rename_i csA eA F7
 split at aj
 rotate_left
 .cases aj
 rename_i MJ
 obtain ⟨⟨sY,aO,hAB,heA,heB,Xl,yy,hG,fT⟩,F4,h60⟩:=MJ
 rw [heA] at F7
 rw [heB] at Ae
 clear heA heB
 simp only [cH] at aj
 obtain ⟨eO,hold,news,jW,aj⟩:=aj
 split at aj
 rotate_left
 .cases aj
 rename_i bf
 cases aj
 obtain ⟨i,rfl⟩:=Int.eq_ofNat_of_zero_le sY
 simp only [Q0] at bW ⊢
 have sZ:i < n:=by omega
 cases hx with
 |slice hA hc hn en=>omega
 |b9 hA hc dt hn gz Du en =>
 rename_i c' L ad
 obtain ⟨rfl,kA⟩:=en (by omega)
 rw [fT] at kA
 have Aa:=hs.ff A L hA
 rw [F7] at Aa
 obtain ⟨cur,fz,gr,ob,nJ,mA,hmA,qb⟩:=Aa
 have hbB:=hs.ff B LB hB
 rw [Ae] at hbB
 obtain ⟨LP,fzB,tZ,NA,aeF,mB,hmB,oJ⟩:=hbB
 have Mj:LB.b≠L.b:=by
  intro tX
  rcases hs.inj A B L LB hA hB hAB tX.symm with g|g|⟨g,_⟩
  .exact g ⟨_,F7,by simp⟩
  .exact g ⟨_,Ae,by simp⟩
  .obtain ⟨_,_,g2⟩:=g
   rw [F7] at g2
   cases g2
 -- what is read
 have C8:∀ {cs m:List ab} {cur:Array ab} {s q p:Nat} {l:List ab},cut cur.toList s cs.length=some m->cu ρ cs m->cut cs q p=some l->∃ d,cut cur.toList (s+q) p=some d/\cu ρ l d:=by
  intro cs m cur s q p l h1 h2 h3
  obtain ⟨d,jv,wR⟩:=h2.cut h3
  obtain ⟨k1,k2,k3⟩:=qo h1
  obtain ⟨d1,d2,d3⟩:=qo jv
  refine ⟨d,sq (by omega) d2 (λj hj=>?_),wR⟩
  rw [d3 j (by omega),k3 (q+j) (by omega),pF]
 simp only [gD,F7] at hold
 simp only [gD,Ae] at jW
 obtain ⟨d,jv,wR⟩:=C8 hmA qb hold
 obtain ⟨us,kD,lZ⟩:=C8 hmB oJ jW
 obtain ⟨a1,a2,a3⟩:=qo jv
 obtain ⟨b1,b2,b3⟩:=qo kD
 have N0:∀ v∈us,v.oneCell'=true:=lZ.one bf.1
 have Zj:∀ v∈d,v.oneCell'=true:=wR.one bf.2
 have e1:(i+1)*k=i*k+k:=qx i k
 have e2:(n+1)*k=n*k+k:=qx n k
 have e3:(n - i)*k=n*k - i*k:=Nat.sub_mul n i k
 have hIN:i*k<=n*k:=qw _ (Nat.le_of_lt sZ)
 have pX:ρ h.size=none:=bW _ (bj _) (by rw [Heap.size_push,Heap.size_set];omega)
 have jX:=Ct (k:=k) (q:=n+1) yy (by unfold G;omega)
 have aen:∀ cv,Builtin.lenOf (.slice (some ⟨LB.b,LB.s+o2,none⟩) 1 cv)=pure 1:=λ_=>rfl
 have Dv:(eO.take (i*k)++news++eO.drop (i*k)).length=n*k+k:=by
  have q1:eO.length=n*k:=by rw [wR.1,a2]
  have q2:news.length=k:=by rw [lZ.1,b2]
  rw [dy,dy,gh,kP]
  omega
 have DI:cu ρ (eO.take (i*k)++news++eO.drop (i*k)) (d.take (i*k)++us++d.drop (i*k)):=((wR.take _).append lZ).append (wR.drop _)
 have DG:∀ W:World,W.heap[LB.b]? = w.heap[LB.b]? -> ∀ cv,(Builtin.firstCells inf.size 1 (.slice (some ⟨LB.b,LB.s+o2,none⟩) 1 cv)).run P W=.ok us.toArray W:=λW hW cv =>
  SF (zhy (zjM tZ kD) hW) (by rw [b2,hk,Nat.one_mul])
 have DF:∀ W:World,W.heap[L.b]? = w.heap[L.b]? -> ∀ nn sc,(Builtin.firstCells inf.size (n - i) (.slice (some ⟨L.b,L.s+o+i*k,none⟩) nn sc)).run P W=.ok (d.drop (i*k)).toArray W:=λW hW nn sc =>
  SF (zhy (zux (zjM gr jv)) hW) (by rw [kP,a2,hk,e3])
 have lI:cur.toList.length=cur.size:=qM
 have hmul:∀ q,q<=c'->q*k<=c'*k:=λq hq=>qw _ hq
 have rf:(d.drop (i*k)).length=n*k - i*k:=by rw [kP,a2]
 have Dj:∀ v∈d.drop (i*k),v.oneCell'=true:=λv hv=>Zj v (List.mem_of_mem_drop hv)
 by_cases iY:n+1<=c'
 .have MQ:=hmul _ iY
  rw [e2] at MQ
  -- in place
  have r6:∀ lb cb,(callFunc Zl #[.slice (some ⟨LB.b,LB.s+o2,none⟩) 1 cv,.slice (some ⟨L.b,L.s+o+(i+1)*k,none⟩) lb cb]).run P w=.ok (.value (.bool false)) w:=λlb cb=>by
   refine Yl _ _ w (Lib.run_overlaps_apart w t tb e ht k (λw=>by simp [sizeOf,typeInfo,hi,hk]) ⟨LB.b,LB.s+o2,none⟩ ⟨L.b,L.s+o+(i+1)*k,none⟩ 1 cv lb cb Mj e e LP.size cur.size ?_ ?_ ?_ ?_ ?_)
   .simp only [World.shape?,tZ]
   .simp only [World.shape?,gr]
   .have:0 < c'*k:=Nat.mul_pos (by omega) yy
    omega
   .have:=NA.YX (LB.s+o2) (by have:=qM (xs:=LP);omega)
    simp only [World.frozen?,tZ,QR,decide_eq_false_iff_not]
    omega
   .have:=NA.Vc.resolve_left Xl
    simp only [World.frozen?,tZ,QR,decide_eq_false_iff_not]
    omega
  have wI:w.drew.heap[L.b]? = some (.cells cur e fz):=gr
  have r1:=λty dc sc=>SP (w:=w.drew) (t:=t) (u:=t) (ty:=ty) (o:=L.s+o+(i+1)*k) (n:=n - i) (c:=dc) (m:=n+1 - i) (q:=n - i) (s':=.slice (some ⟨L.b,L.s+o+i*k,none⟩) (n+1 - i) sc) ht hi rfl (by omega) (DF w.drew rfl _ _) wI ob (by rw [rf,e1];omega) Dj
  have lH:=setRow_heap w.drew L.b cur (aB cur.toList (L.s+o+(i+1)*k) (d.drop (i*k))).toArray e fz wI
  have oH:(aB cur.toList (L.s+o+(i+1)*k) (d.drop (i*k))).toArray.size=cur.size:=by
   rw [Ey,oR (by rw [rf,e1];omega),lI]
  have r2:=λty dc=>SP (w:=w.drew.setRow L.b (aB cur.toList (L.s+o+(i+1)*k) (d.drop (i*k))).toArray) (t:=t) (u:=t) (ty:=ty) (o:=L.s+o+i*k) (n:=n+1 - i) (c:=dc) (m:=1) (q:=1) (s':=.slice (some ⟨LB.b,LB.s+o2,none⟩) 1 cv) ht hi rfl (by omega)
   (DG _ (setRow_other w.drew L.b LB.b _ Mj) cv) lH (by rw [oH];exact ob) (by rw [oH];omega) N0
  refine (Mn L.b (L.s+o) n c' i _ cv w _ _ _ _ sZ iY (by unfold maxLen at Du;omega) r6 r1 r2).mono ?_
  rintro ed W ⟨rfl,rfl⟩
  have rX:=setRow_heap _ L.b _ (aB (aB cur.toList (L.s+o+(i+1)*k) (d.drop (i*k))).toArray.toList (L.s+o+i*k) us).toArray e fz lH
  have nD:cut (aB (aB cur.toList (L.s+o+(i+1)*k) (d.drop (i*k))).toArray.toList (L.s+o+i*k) us).toArray.toList (L.s+o) (eO.take (i*k)++news++eO.drop (i*k)).length=some (d.take (i*k)++us++d.drop (i*k)):=by
   rw [Dv,e1,<- pF]
   exact zAQ jv b2 hIN (by omega)
  have BR:(aB (aB cur.toList (L.s+o+(i+1)*k) (d.drop (i*k))).toArray.toList (L.s+o+i*k) us).toArray.size=cur.size:=by
   show (aB (aB cur.toList (L.s+o+(i+1)*k) (d.drop (i*k))) (L.s+o+i*k) us).length=cur.size
   rw [oR (by rw [oR (by rw [rf,e1];omega)];omega),oR (by rw [rf,e1];omega),lI]
  obtain ⟨ρ',hρ,cW,dV⟩:=zxw (w:=w) (off:=L.s+o) hs pX hA F7 (by rw [BR];exact ob) (by rw [BR];exact nJ) rX
   (λb hb=>by rw [setRow_other _ _ _ _ hb,setRow_other _ _ _ _ hb];rfl) (by simp [World.setRow,World.drew,-World.drew_eq]) rfl rfl rfl nD DI
  refine ⟨ρ',_,rfl,cW,dV,.b9 hρ jX.1 (by rw [jX.2.1];exact iY) (by rw [jX.2.1];exact bj _) (by rw [jX.2.2];exact yy) Du (λ_=>⟨rfl,?_⟩)⟩
  rw [jX.2.2]
  exact kA
 .-- a new row
  have Ab:c'=n:=by omega
  subst Ab
  obtain ⟨g,hg⟩:∃ g,g=grownCap w (c'+1) c' e:=⟨_,rfl⟩
  have ka:=grownCap_ge w (c'+1) c' e
  have hle:=grownCap_le_maxLen w (c'+1) c' e (by unfold maxLen;omega)
  have Nl:(Builtin.firstCells inf.size i (.slice (some ⟨L.b,L.s+o,none⟩) i c')).run P w.drew=.ok (d.take (i*k)).toArray w.drew :=
   SF (zhy (zh1 (zjM gr jv)) rfl) (by rw [gh,a2,hk];omega)
  have nX:=λty=>Lib.run_append_grow_zeros w t tn ty e inf zv .i64 .i64 ht hint hi hz (some ⟨L.b,L.s+o,none⟩) i c' (d.take (i*k)) Nl (c'+1 - i) (by omega) (by omega) (by omega) (by omega)
   (by rw [sU]
       have:(c'+1 - i)*bytes<=(c'+1)*bytes:=qw _ (by omega)
       omega) (by rw [sU,show i+(c'+1 - i)=c'+1 by omega];exact growslice_fits (by omega) F4)
  rw [show i+(c'+1 - i)=c'+1 by omega,<- hg] at nX
  rw [show ((c'+1 - i:Nat):Int)=(c':Int)+1 - (i:Int) by omega] at nX
  rw [<- hg] at ka hle
  obtain ⟨kj,FL⟩:∃ kj:Array ab,kj=(d.take (i*k)).toArray++Builtin.zeroCells zv.cells (c'+1 - i)++Builtin.zeroCells zv.cells (g - (c'+1)):=⟨_,rfl⟩
  rw [<- FL] at nX
  have oK:zv.cells.size=k:=by rw [<- qM,YT,vJ]
  have yX:(d.take (i*k)).length=i*k:=by rw [gh,a2];omega
  have e4:(c'+1 - i)*k=c'*k+k - i*k:=by rw [Nat.sub_mul,e2]
  have e5:(g - (c'+1))*k=g*k - (c'*k+k):=by rw [Nat.sub_mul,e2]
  have hgk:c'*k+k<=g*k:=by rw [<- e2];exact qw _ ka
  have Mo:kj.size=g*k:=by
   rw [FL]
   simp only [Array.size_append,Ey,size_zeroCells,oK,yX,e4,e5]
   omega
  have Iy:kj.toList.length=g*k:=by rw [qM,Mo]
  have hRp:∀ j,j < i*k->kj.toList[j]? = d[j]? := by
   intro j hj
   rw [FL,JD,JD,j7,nc (by rw [List.toList_toArray,yX];exact hj),List.toList_toArray,mi,aE hj]
  have aQ:L.b≠w.heap.size:=by have:=hs.lt hA;omega
  have am5:LB.b≠w.heap.size:=by have:=hs.lt hB;omega
  have wI:(w.drew.alloc (.cells kj e)).heap[w.heap.size]? = some (.cells kj e (0,0)):=by simp [World.alloc,World.drew,-World.alloc_eq,-World.drew_eq]
  have yL:∀ j,j < w.heap.size->(w.drew.alloc (.cells kj e)).heap[j]? = w.heap[j]? := λj hj=>by
   have:j≠w.heap.size:=by omega
   simp [World.alloc,World.drew,-World.alloc_eq,-World.drew_eq,xv,this]
  have Nz:ot e kj.size (0,0):=.zero _ _
  have r1:=λty dc=>SP (w:=w.drew.alloc (.cells kj e)) (t:=t) (u:=t) (ty:=ty) (o:=i*k) (n:=c'+1 - i) (c:=dc) (m:=1) (q:=1) (s':=.slice (some ⟨LB.b,LB.s+o2,none⟩) 1 cv) ht hi rfl (by omega)
   (DG _ (yL _ (hs.lt hB)) cv) wI Nz (by rw [b2,Mo];omega) N0
  have oH:(aB kj.toList (i*k) us).toArray.size=kj.size:=by
   show (aB kj.toList (i*k) us).length=kj.size
   rw [oR (by rw [b2,Iy];omega),Iy,Mo]
  have lH:=setRow_heap _ w.heap.size kj (aB kj.toList (i*k) us).toArray e (0,0) wI
  have r2:=λty dc sc=>SP (w:=((w.drew.alloc (.cells kj e)).setRow w.heap.size (aB kj.toList (i*k) us).toArray).drew) (t:=t) (u:=t) (ty:=ty) (o:=(i+1)*k) (n:=c' - i) (c:=dc) (m:=c' - i) (q:=c' - i) (s':=.slice (some ⟨L.b,L.s+o+i*k,none⟩) (c' - i) sc) ht hi rfl (by omega)
   (DF _ (by show ((w.drew.alloc (.cells kj e)).setRow w.heap.size (aB kj.toList (i*k) us).toArray).heap[L.b]? = _
             rw [setRow_other _ _ _ _ aQ];exact yL _ (hs.lt hA)) _ _) lH (by rw [oH];exact Nz) (by rw [rf,e1,oH,Mo];omega) Dj
  refine (Mh L.b (L.s+o) c' c' i w.heap.size g _ cv w _ _ _ _ _ sZ (bj _) (by omega) ka (by unfold maxLen at hle;omega) nX r1 r2).mono ?_
  rintro ed W ⟨rfl,rfl⟩
  have rX:=setRow_heap _ w.heap.size _ (aB (aB kj.toList (i*k) us).toArray.toList ((i+1)*k) (d.drop (i*k))).toArray e (0,0) (show (((w.drew.alloc (.cells kj e)).setRow w.heap.size (aB kj.toList (i*k) us).toArray).drew).heap[w.heap.size]? = _ from lH)
  have BR:(aB (aB kj.toList (i*k) us).toArray.toList ((i+1)*k) (d.drop (i*k))).toArray.size=g*k:=by
   show (aB (aB kj.toList (i*k) us) ((i+1)*k) (d.drop (i*k))).length=g*k
   rw [oR (by rw [oR (by rw [b2,Iy];omega),Iy,rf,e1];omega),oR (by rw [b2,Iy];omega),Iy]
  have nD:cut (aB (aB kj.toList (i*k) us).toArray.toList ((i+1)*k) (d.drop (i*k))).toArray.toList 0 (eO.take (i*k)++news++eO.drop (i*k)).length=some (d.take (i*k)++us++d.drop (i*k)):=by
   rw [Dv,e1]
   exact zAR a2 hRp b2 hIN (by rw [qM,Mo];omega)
  obtain ⟨o7,G9⟩:=zlh hs F7
  obtain ⟨ρ',hρ,cW,dV⟩:=S6 (L:=⟨w.heap.size,0,g*k⟩) (b:=.row (eO.take (i*k)++news++eO.drop (i*k)) e false) G9 pX (W:=(((w.drew.alloc (.cells kj e)).setRow w.heap.size (aB kj.toList (i*k) us).toArray).drew).setRow w.heap.size (aB (aB kj.toList (i*k) us).toArray.toList ((i+1)*k) (d.drop (i*k))).toArray)
   (λj hj=>by
    rw [setRow_other _ _ _ _ (by omega)]
    show ((w.drew.alloc (.cells kj e)).setRow w.heap.size (aB kj.toList (i*k) us).toArray).heap[j]? = _
    rw [setRow_other _ _ _ _ (by omega)]
    exact yL _ hj)
   (by simp [World.setRow,World.drew,World.alloc,-World.alloc_eq,-World.drew_eq]) (by simp [World.setRow,World.drew,World.alloc,-World.alloc_eq,-World.drew_eq]) (by simp [World.setRow,World.drew,World.alloc,-World.alloc_eq,-World.drew_eq]) (by simp [World.setRow,World.drew,World.alloc,-World.alloc_eq,-World.drew_eq])
   (bj _) (λρ' XN=>⟨_,(0,0),rX,.zero _ _,BR,_,nD,DI.mono XN⟩)
  refine ⟨ρ',_,rfl,o7.trans cW,dV,.b9 hρ jX.1 (by rw [jX.2.1];exact ka) (by rw [jX.2.1];exact bj _) (by rw [jX.2.2];exact yy) hle (λ_=>⟨by simp,?_⟩)⟩
  rw [jX.2.2]
  simp
end
end Go.Am
