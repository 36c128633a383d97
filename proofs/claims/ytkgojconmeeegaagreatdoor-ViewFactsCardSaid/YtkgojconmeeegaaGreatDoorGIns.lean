/- slices.Insert of one element, in place of its text. No condition. -/
import Derived.Test.YtkgojconmeeegaaGreatDoorG6
import Derived.Lib.Overlaps
import Derived.Lib.AppendZerosOnto
set_option linter.unusedSimpArgs false
set_option linter.unusedVariables false
namespace Go.Am
open Go.RowKit
variable {fz:Nat × Nat} {cur:Array ae} {e t:TypeId} {m:List ae} {b o:Nat}
section
variable {P:Program} {gs:List Nat} {ρ:cI} {h:Heap} {w:World}
theorem zyM (hs:bT ρ h w) (gf:ρ h.size=none) {A off:Nat} {L:Loc} {cs news:List ae} {W:World} (hA:ρ A=some L) (hg:h.get A=some (.row cs e false))
 (nY:oh e cur.size fz) (nD:cur.size=L.vR) (rk:W.heap[L.b]? = some (.cells cur e fz)) (jx:∀ b,b≠L.b->W.heap[b]? = w.heap[b]?) (dS:W.heap.size=w.heap.size)
 (vC:W.os=w.os) (htp:W.tape=w.tape) (cT:W.output=w.output) (nt:cut cur.toList off news.length=some m) (hn:cB ρ news m) :
 ∃ ρ',ρ' h.size=some ⟨L.b,off,L.vR⟩/\Fr ρ ρ' h ((h.set A .dead).push (.row news e false)) w W/\bT ρ' ((h.set A .dead).push (.row news e false)) W:=by
 have vk:A < h.size:=Heap.bF hg
 have eN:∀ A L',ρ A=some L'->(λA=>if A=h.size then some (⟨L.b,off,L.vR⟩:Loc) else ρ A) A=some L':=by
  intro A L' hA
  have ba:A≠h.size:=λe=>by rw [e,gf] at hA;cases hA
  simp only [az ba]
  exact hA
 have eR:∀ j,((h.set A .dead).push (.row news e false)).get j=if j=h.size then some (.row news e false) else if j=A then some .dead else h.get j:=by
  intro j
  rw [Heap.bx,Heap.size_set,Heap.aR _ _ _ _ vk]
 have ba:∀ A' L',ρ A'=some L'->A'≠A->live h A'->L'.b≠L.b:=by
  intro A' L' eH e' j8 heq
  rcases hs.inj A' A L' L eH hA e' heq with h1|h1|h1
  .exact h1 j8
  .exact h1 ⟨_,hg,by simp⟩
  .obtain ⟨_,S9,e2,qy⟩:=h1
   rw [hg] at qy
   cases qy
 refine ⟨λA=>if A=h.size then some ⟨L.b,off,L.vR⟩ else ρ A,by simp,⟨eN,?_,vC,htp,cT,by rw [dS];exact bo _,?_,zN _ _,?_,?_⟩,⟨?_,?_⟩⟩
 .intro A' L' eH Y0
  split at eH
  .rename_i e1
   cases eH
   refine ⟨by omega,by rw [Heap.size_push,Heap.size_set];omega,.inr ⟨A,L,hA,rfl,?_,by rw [Heap.size_push,Heap.size_set];omega⟩⟩
   rw [Heap.dv,Heap.bX]
   omega
  .rw [Y0] at eH;cases eH
 .rw [Heap.size_push,Heap.size_set];omega
 .intro b hb aC
  refine jx b λe'=>?_
  subst e'
  have:=aC A L hA rfl
  rw [Heap.dv,Heap.bX,Heap.size_push,Heap.size_set] at this
  omega
 .intro A' eH hl
  rw [Heap.dv,Heap.bX] at hl
  rw [eR,az (by omega),az (by omega)]
 .intro A' L' eH
  rw [eR]
  split at eH
  .rename_i e1
   cases eH
   rw [aE e1]
   exact ⟨_,fz,rk,nY,nD,m,nt,hn.mono eN⟩
  .rename_i e1
   rw [az e1]
   by_cases e2:A'=A
   .rw [aE e2]
    show L'.b < _
    rw [dS]
    exact hs.lt eH
   .rw [az e2]
    exact (hs.fL A' L' eH).keep eN (by rw [dS];exact bo _) λhl=>jx L'.b (ba A' L' eH e2 hl)
 .intro A1 A2 L1 L2 h1 h2 yD hb
  unfold live nE
  rw [eR,eR]
  have bn:∀ A' L',A'≠h.size->ρ A'=some L'->L.b=L'.b->¬ ∃ b,(if A'=A then some bh.dead else h.get A')=some b/\b≠.dead:=by
   intro A' L' hh eH uy
   by_cases e2:A'=A
   .simp [e2]
   .rw [az e2]
    exact λj8=>ba A' L' eH e2 j8 uy.symm
  split at h1
  .rename_i e1
   split at h2
   .omega
   .rename_i e2
    cases h1
    right;left
    rw [az e2]
    exact bn A2 L2 e2 h2 hb
  .rename_i e1
   split at h2
   .rename_i e2
    cases h2
    left
    rw [az e1]
    exact bn A1 L1 e1 h1 hb.symm
   .rename_i e2
    rw [az e1,az e2]
    by_cases f1:A1=A
    .left;simp [f1]
    .by_cases f2:A2=A
     .right;left;simp [f2]
     .rw [az f1,az f2]
      exact hs.inj A1 A2 L1 L2 h1 h2 yD hb

theorem Uf {w:World} {u ty e':TypeId} {i:TypeInfo} (ht:P.underlying t=some (.slice e)) (hi:P.info? e=some i) {n c m q:Nat} {s':ae} {news:List ae} (hlen:Builtin.lenOf s'=pure m) (hq:min m n=q)
 (hf:(Builtin.firstCells i.size q s').run P w=.ok news.toArray w) (gl:w.heap[b]? = some (.cells cur e' fz)) (nY:oh e' cur.size fz) (kq:o+news.length<=cur.size) (h1:∀ v∈news,v.oneCell'=true) :
 (Builtin.copy_ #[t,u] ty #[.slice (some ⟨b,o,none⟩) n c,s']).run P w=.ok (.int .i64 q) (w.setRow b (aF cur.toList o news).toArray):=by
 have eZ:=TW P b o e' fz news 0 cur w gl nY (by omega) h1
 simp only [jh] at eZ
 have yB:Nat.min m n=q:=hq
 simp [Builtin.copy_,run_underlying ht,hlen,yB,sizeOf,typeInfo,hi,hf,eZ,goInt,aF]
theorem zCi {cur d us:List ae} {I N K:Nat} (hd:cut cur o N=some d) (hu:us.length=K) (hI:I<=N) (kq:o+N+K<=cur.length) :
 cut (aF (aF cur (o+I+K) (d.drop I)) (o+I) us) o (N+K)=some (d.take I++us++d.drop I):=by
 obtain ⟨h1,h2,h3⟩:=qk hd
 have rn:(d.drop I).length=N - I:=by rw [lk,h2]
 have Ai:(d.take I).length=I:=by rw [fj,h2];omega
 have ju:(aF cur (o+I+K) (d.drop I)).length=cur.length:=oS (by omega)
 refine sQ (by rw [oS (by omega),ju];omega) (by rw [cW,cW,Ai,rn,hu];omega) λj hj=>?_
 rw [bN _ _ _ _ (by omega),bN _ _ _ _ (by omega),hu,rn]
 by_cases c1:j < I
 .rw [aE (by omega),aE (by omega),jD,mX (by omega),lX,aE c1,h3 j (by omega)]
 .rw [az (by omega)]
  by_cases c2:j < I+K
  .rw [aE (by omega),jD,px (by omega),Ai,mX (by omega)]
   congr 1
   omega
  .rw [az (by omega),az (by omega),aE (by omega),jD,px (by omega),Ai,px (by omega),hu]
   congr 1
   omega
theorem zCj {cur d us:List ae} {I N K:Nat} (hd:d.length=N) (nC:∀ j,j < I->cur[j]? = d[j]?) (hu:us.length=K) (hI:I<=N) (kq:N+K<=cur.length) :
 cut (aF (aF cur I us) (I+K) (d.drop I)) 0 (N+K)=some (d.take I++us++d.drop I):=by
 have rn:(d.drop I).length=N - I:=by rw [lk,hd]
 have Ai:(d.take I).length=I:=by rw [fj,hd];omega
 have ju:(aF cur I us).length=cur.length:=oS (by omega)
 refine sQ (by rw [oS (by omega),ju];omega) (by rw [cW,cW,Ai,rn,hu];omega) λj hj=>?_
 rw [iu,bN _ _ _ _ (by omega),bN _ _ _ _ (by omega),hu,rn]
 by_cases c1:j < I
 .rw [aE (by omega),aE (by omega),jD,mX (by omega),lX,aE c1,nC j c1]
 .by_cases c2:j < I+K
  .rw [aE (by omega),az (by omega),aE (by omega),jD,px (by omega),Ai,mX (by omega)]
  .rw [az (by omega),aE (by omega),jD,px (by omega),Ai,px (by omega),hu]
   congr 1
   omega
def rQ (T:bL) (t:TypeId) (args:List ae) (h:Heap):Option (ae × Heap) :=
 match T.desc t,args with
 |some (.slice e),[.slice base n c,.int .i64 iz,.slice (some ⟨B,o2,none⟩) 1 c2] =>
  if iz=(n:Int) then iP T t (.slice base n c) (.slice (some ⟨B,o2,none⟩) 1 c2) h else
  match T.info e,base,h.get B with
  |some (k,bytes,_),some ⟨A,o,none⟩,some (.row _ eB false) =>
   match h.get A with
   |some (.row _ eA false) =>
    if (0<=iz/\iz < n/\A≠B/\eA=e/\eB=e/\e≠SC/\0 < k/\G<=c/\c / G=k)/\(n+1)*bytes<=140737488355328/\n+1<=1152921504606846976 then
     (gS A o (n*k) h).bind λeT=>(gS B o2 k h).bind λnews =>
     if news.all one=true/\eT.all one=true then some (.slice (some ⟨h.size,0,none⟩) (n+1) (G*k+(n+1)),(h.set A .dead).push (.row (eT.take (iz.toNat*k)++news++eT.drop (iz.toNat*k)) e false)) else none
    else none
   |_=>none
  |_,_,_=>none
 |_,_=>none
theorem zmP {T:bL} {args:List ae} {h h':Heap} {v:ae} (an:rQ T t args h=some (v,h')):bA h h':=by
 unfold rQ at an
 split at an
 .split at an
  .exact zgN an
  .split at an
   .split at an
    .rename_i hg
     split at an
     .simp only [cH] at an
      obtain ⟨eT,_,news,_,an⟩:=an
      split at an
      .cases an
       exact (bA.set _ (Heap.bF hg)).trans (bA.push _ _)
      .cases an
     .cases an
    .cases an
   .cases an
 .cases an
theorem zj1 {w:World} {n:Nat} (gl:w.heap[b]? = some (.cells cur e fz)) (hc:cut cur.toList o n=some m):w.rangeAt b o m:=by
 obtain ⟨h1,h2,h3⟩:=qk hc
 intro j v hj
 have NA:j < n:=by rw [<- h2];exact (dz.1 hj).1
 rw [cell_of_row w b _ cur e fz gl,<- UN,<- h3 j NA]
 exact hj
theorem zvw {w:World} {q:Nat} (h:w.rangeAt b o m):w.rangeAt b (o+q) (m.drop q):=by
 intro j v hj
 rw [lA] at hj
 rw [oW]
 exact h _ v hj
theorem zhU {w W:World} (h:w.rangeAt b o m) (hb:W.heap[b]? = w.heap[b]?):W.rangeAt b o m:=by
 intro j v hj
 have:=h j v hj
 unfold World.cell? at this ⊢
 rw [hb]
 exact this
set_option maxHeartbeats 0 in
theorem zvr {T:bL} (hT:T.Fits P) {f ovf tn tb:TypeId} {k bytes:Nat} {z:List ae} (hd:T.desc t=some (.slice e)) (gQ:T.info e=some (k,bytes,z)) (hint:P.underlying tn=some (.int .i64))
 (dh:∀ aL w,(callFunc f aL).run P w=.ok (.enter f aL) w)
 (Y8:∀ (x y:ae) (w:World),(Extern.SlicesOverlaps.overlaps #[t,t] #[tb] #[x,y]).run P w=.ok (.bool false) w->(callFunc ovf #[x,y]).run P w=.ok (.value (.bool false)) w)
 (XI:∀ (a:Option Addr) (n c:Nat) (av:Option Addr) (cv:Nat) (w w':World) (r:ae),n<=c->(∀ ty,(Builtin.append_ #[t,t] ty #[.slice a n c,.slice av 1 cv]).run P w=.ok r w') ->
  Calls P f #[.slice a n c,.int .i64 n,.slice av 1 cv] w λe W=>e=.returned r/\W=w')
 (MY:∀ (b off n c i:Nat) (av:Option Addr) (cv:Nat) (w w1 w2:World) (x1 x2:ae),i < n->n+1<=c->c<=9223372036854775807 ->
  (∀ lb cb,(callFunc ovf #[.slice av 1 cv,.slice (some ⟨b,off+(i+1)*k,none⟩) lb cb]).run P w=.ok (.value (.bool false)) w) ->
  (∀ ty dc sc,(Builtin.copy_ #[t,t] ty #[.slice (some ⟨b,off+(i+1)*k,none⟩) (n - i) dc,.slice (some ⟨b,off+i*k,none⟩) (n+1 - i) sc]).run P w.drew=.ok x1 w1) ->
  (∀ ty dc,(Builtin.copy_ #[t,t] ty #[.slice (some ⟨b,off+i*k,none⟩) (n+1 - i) dc,.slice av 1 cv]).run P w1=.ok x2 w2) ->
  Calls P f #[.slice (some ⟨b,off,none⟩) n c,.int .i64 i,.slice av 1 cv] w λe W=>e=.returned (.slice (some ⟨b,off,none⟩) (n+1) c)/\W=w2)
 (MU:∀ (b off n c i nb g:Nat) (av:Option Addr) (cv:Nat) (w w1 w2 w3:World) (x1 x2:ae),i < n->n<=c->c < n+1->n+1<=g->g<=9223372036854775807 ->
  (∀ ty,(Builtin.append_ #[t,tn] ty #[.slice (some ⟨b,off,none⟩) i c,.int .i64 ((n:Int)+1 - (i:Int))]).run P w=.ok (.slice (some ⟨nb,0,none⟩) (n+1) g) w1) ->
  (∀ ty dc,(Builtin.copy_ #[t,t] ty #[.slice (some ⟨nb,i*k,none⟩) (n+1 - i) dc,.slice av 1 cv]).run P w1=.ok x1 w2) ->
  (∀ ty dc sc,(Builtin.copy_ #[t,t] ty #[.slice (some ⟨nb,(i+1)*k,none⟩) (n - i) dc,.slice (some ⟨b,off+i*k,none⟩) (n - i) sc]).run P w2.drew=.ok x2 w3) ->
  Calls P f #[.slice (some ⟨b,off,none⟩) n c,.int .i64 i,.slice av 1 cv] w λe W=>e=.returned (.slice (some ⟨nb,0,none⟩) (n+1) g)/\W=w3):AZ P gs f (rQ T t):=by
 intro args h v h' an
 refine ⟨zmP an,λρ w aL _ hs bR hv=>.inr ⟨dh aL w,?_⟩⟩
 unfold rQ at an
 split at an
 rotate_left
 .cases an
 rename_i _ e' base n c iz B o2 c2 mg
 rw [hd] at mg
 cases mg
 obtain ⟨x,m0,e0,hx,hv⟩:=hv.of_cons
 obtain ⟨y,m1,e1,hy,hv⟩:=hv.of_cons
 obtain ⟨u,m2,e2,hu,hv⟩:=hv.of_cons
 have e3:=hv.of_nil
 subst e3 e2 e1
 have kE:aL=#[x,y,u]:=by rw [<- AR];exact e0
 subst kE
 cases hy
 have ht:P.underlying t=some (.slice e):=hT.desc _ _ hd
 obtain ⟨inf,zv,hi,hk,vq,hz,ZM,vM,uJ⟩:=hT.info e k bytes z gQ
 have Zs:=hu
 -- the new IA list
 have ZV:∃ L cv,ρ B=some L/\u=.slice (some ⟨L.b,L.s+o2,none⟩) 1 cv:=by
  cases hu with
  |slice hA hc qD ez=>exact ⟨_,_,hA,by rw [ez (by omega)]⟩
  |cm hA hc cM qD hk hm ez=>exact ⟨_,_,hA,by rw [(ez (by omega)).1]⟩
 obtain ⟨LB,cv,hB,rfl⟩:=ZV
 by_cases jO:iz=(n:Int)
 .subst jO
  rw [aE rfl] at an
  have key:∃ a' c',x=.slice a' n c'/\n<=c':=by
   cases hx with
   |dN=>exact ⟨_,_,rfl,bo _⟩
   |slice hA hc hn ez=>exact ⟨_,_,rfl,hn⟩
   |cm hA hc cM hn hk hm ez=>exact ⟨_,_,rfl,by omega⟩
  obtain ⟨a',c',rfl,qD⟩:=key
  obtain ⟨ρ',vc,w',eu,dC,dZ,oJ⟩:=zgO (ty:=0) (u:=t) hT hs bR (.inl ⟨e,ht⟩) hx Zs an
  refine (XI a' n c' _ cv w w' vc qD (λty=>?_)).mono ?_
  .exact eu
  .rintro ed W ⟨rfl,rfl⟩
   exact ⟨ρ',vc,rfl,dC,dZ,oJ⟩
 rw [az jO] at an
 split at an
 rotate_left
 .cases an
 rename_i k' V0 z' A o csB eB DL DJ
 rw [gQ] at DL
 cases DL
 split at an
 rotate_left
 .cases an
 rename_i csA eA Gn
 split at an
 rotate_left
 .cases an
 rename_i Nh
 obtain ⟨⟨ru,aK,hAB,heA,heB,Yi,yu,hG,gV⟩,Gk,h60⟩:=Nh
 rw [heA] at Gn
 rw [heB] at DJ
 clear heA heB
 simp only [cH] at an
 obtain ⟨eT,hold,news,hU,an⟩:=an
 split at an
 rotate_left
 .cases an
 rename_i bn
 cases an
 obtain ⟨i,rfl⟩:=Int.eq_ofNat_of_zero_le ru
 simp only [R3] at bR ⊢
 have tE:i < n:=by omega
 cases hx with
 |slice hA hc hn ez=>omega
 |cm hA hc cM hn gp DP ez =>
 rename_i c' L ad
 obtain ⟨rfl,kq⟩:=ez (by omega)
 rw [gV] at kq
 have wF:=hs.fL A L hA
 rw [Gn] at wF
 obtain ⟨cur,fz,gl,nY,nD,mA,hmA,hvA⟩:=wF
 have hbB:=hs.fL B LB hB
 rw [DJ] at hbB
 obtain ⟨Mz,fzB,uz,Of,af0,mB,hmB,hvB⟩:=hbB
 have MW:LB.b≠L.b:=by
  intro uy
  rcases hs.inj A B L LB hA hB hAB uy.symm with g|g|⟨g,_⟩
  .exact g ⟨_,Gn,by simp⟩
  .exact g ⟨_,DJ,by simp⟩
  .obtain ⟨_,_,g2⟩:=g
   rw [Gn] at g2
   cases g2
 -- what is read
 have Ds:∀ {cs m:List ae} {cur:Array ae} {s q p:Nat} {l:List ae},cut cur.toList s cs.length=some m->cB ρ cs m->cut cs q p=some l->∃ d,cut cur.toList (s+q) p=some d/\cB ρ l d:=by
  intro cs m cur s q p l h1 h2 h3
  obtain ⟨d,js,wL⟩:=h2.cut h3
  obtain ⟨k1,k2,k3⟩:=qk h1
  obtain ⟨d1,d2,d3⟩:=qk js
  refine ⟨d,sQ (by omega) d2 (λj hj=>?_),wL⟩
  rw [d3 j (by omega),k3 (q+j) (by omega),oW]
 simp only [gS,Gn] at hold
 simp only [gS,DJ] at hU
 obtain ⟨d,js,wL⟩:=Ds hmA hvA hold
 obtain ⟨us,kV,n8⟩:=Ds hmB hvB hU
 obtain ⟨a1,a2,a3⟩:=qk js
 obtain ⟨b1,b2,b3⟩:=qk kV
 have OP:∀ v∈us,v.oneCell'=true:=n8.one bn.1
 have aad:∀ v∈d,v.oneCell'=true:=wL.one bn.2
 have e1:(i+1)*k=i*k+k:=r9 i k
 have e2:(n+1)*k=n*k+k:=r9 n k
 have e3:(n - i)*k=n*k - i*k:=Nat.sub_mul n i k
 have hIN:i*k<=n*k:=py _ (Nat.le_of_lt tE)
 have pS:ρ h.size=none:=bR _ (bo _) (by rw [Heap.size_push,Heap.size_set];omega)
 have jQ:=CN (k:=k) (q:=n+1) yu (by unfold G;omega)
 have afL:∀ cv,Builtin.lenOf (.slice (some ⟨LB.b,LB.s+o2,none⟩) 1 cv)=pure 1:=λ_=>rfl
 have DQ:(eT.take (i*k)++news++eT.drop (i*k)).length=n*k+k:=by
  have q1:eT.length=n*k:=by rw [wL.1,a2]
  have q2:news.length=k:=by rw [n8.1,b2]
  rw [cW,cW,fj,lk]
  omega
 have D6:cB ρ (eT.take (i*k)++news++eT.drop (i*k)) (d.take (i*k)++us++d.drop (i*k)):=((wL.take _).append n8).append (wL.drop _)
 have D3:∀ W:World,W.heap[LB.b]? = w.heap[LB.b]? -> ∀ cv,(Builtin.firstCells inf.size 1 (.slice (some ⟨LB.b,LB.s+o2,none⟩) 1 cv)).run P W=.ok us.toArray W:=λW hW cv =>
  TV (zhU (zj1 uz kV) hW) (by rw [b2,hk,Nat.one_mul])
 have D0:∀ W:World,W.heap[L.b]? = w.heap[L.b]? -> ∀ nn sc,(Builtin.firstCells inf.size (n - i) (.slice (some ⟨L.b,L.s+o+i*k,none⟩) nn sc)).run P W=.ok (d.drop (i*k)).toArray W:=λW hW nn sc =>
  TV (zhU (zvw (zj1 gl js)) hW) (by rw [lk,a2,hk,e3])
 have mS:cur.toList.length=cur.size:=qR
 have hmul:∀ q,q<=c'->q*k<=c'*k:=λq hq=>py _ hq
 have rn:(d.drop (i*k)).length=n*k - i*k:=by rw [lk,a2]
 have DG:∀ v∈d.drop (i*k),v.oneCell'=true:=λv hv=>aad v (List.mem_of_mem_drop hv)
 by_cases iL:n+1<=c'
 .have Nq:=hmul _ iL
  rw [e2] at Nq
  -- in place
  have qE:∀ lb cb,(callFunc ovf #[.slice (some ⟨LB.b,LB.s+o2,none⟩) 1 cv,.slice (some ⟨L.b,L.s+o+(i+1)*k,none⟩) lb cb]).run P w=.ok (.value (.bool false)) w:=λlb cb=>by
   refine Y8 _ _ w (Lib.run_overlaps_apart w t tb e ht k (λw=>by simp [sizeOf,typeInfo,hi,hk]) ⟨LB.b,LB.s+o2,none⟩ ⟨L.b,L.s+o+(i+1)*k,none⟩ 1 cv lb cb MW e e Mz.size cur.size ?_ ?_ ?_ ?_ ?_)
   .simp only [World.shape?,uz]
   .simp only [World.shape?,gl]
   .have:0 < c'*k:=Nat.mul_pos (by omega) yu
    omega
   .have:=Of.ZQ (LB.s+o2) (by have:=qR (xs:=Mz);omega)
    simp only [World.frozen?,uz,RW,decide_eq_false_iff_not]
    omega
   .have:=Of.Wa.resolve_left Yi
    simp only [World.frozen?,uz,RW,decide_eq_false_iff_not]
    omega
  have vt:w.drew.heap[L.b]? = some (.cells cur e fz):=gl
  have r1:=λty dc sc=>Uf (w:=w.drew) (t:=t) (u:=t) (ty:=ty) (o:=L.s+o+(i+1)*k) (n:=n - i) (c:=dc) (m:=n+1 - i) (q:=n - i) (s':=.slice (some ⟨L.b,L.s+o+i*k,none⟩) (n+1 - i) sc) ht hi rfl (by omega) (D0 w.drew rfl _ _) vt nY (by rw [rn,e1];omega) DG
  have qx:=setRow_heap w.drew L.b cur (aF cur.toList (L.s+o+(i+1)*k) (d.drop (i*k))).toArray e fz vt
  have oI:(aF cur.toList (L.s+o+(i+1)*k) (d.drop (i*k))).toArray.size=cur.size:=by
   rw [H8,oS (by rw [rn,e1];omega),mS]
  have r2:=λty dc=>Uf (w:=w.drew.setRow L.b (aF cur.toList (L.s+o+(i+1)*k) (d.drop (i*k))).toArray) (t:=t) (u:=t) (ty:=ty) (o:=L.s+o+i*k) (n:=n+1 - i) (c:=dc) (m:=1) (q:=1) (s':=.slice (some ⟨LB.b,LB.s+o2,none⟩) 1 cv) ht hi rfl (by omega)
   (D3 _ (setRow_other w.drew L.b LB.b _ MW) cv) qx (by rw [oI];exact nY) (by rw [oI];omega) OP
  refine (MY L.b (L.s+o) n c' i _ cv w _ _ _ _ tE iL (by unfold maxLen at DP;omega) qE r1 r2).mono ?_
  rintro ed W ⟨rfl,rfl⟩
  have tA:=setRow_heap _ L.b _ (aF (aF cur.toList (L.s+o+(i+1)*k) (d.drop (i*k))).toArray.toList (L.s+o+i*k) us).toArray e fz qx
  have nt:cut (aF (aF cur.toList (L.s+o+(i+1)*k) (d.drop (i*k))).toArray.toList (L.s+o+i*k) us).toArray.toList (L.s+o) (eT.take (i*k)++news++eT.drop (i*k)).length=some (d.take (i*k)++us++d.drop (i*k)):=by
   rw [DQ,e1,<- oW]
   exact zCi js b2 hIN (by omega)
  have Ca:(aF (aF cur.toList (L.s+o+(i+1)*k) (d.drop (i*k))).toArray.toList (L.s+o+i*k) us).toArray.size=cur.size:=by
   show (aF (aF cur.toList (L.s+o+(i+1)*k) (d.drop (i*k))) (L.s+o+i*k) us).length=cur.size
   rw [oS (by rw [oS (by rw [rn,e1];omega)];omega),oS (by rw [rn,e1];omega),mS]
  obtain ⟨ρ',hρ,dC,dZ⟩:=zyM (w:=w) (off:=L.s+o) hs pS hA Gn (by rw [Ca];exact nY) (by rw [Ca];exact nD) tA
   (λb hb=>by rw [setRow_other _ _ _ _ hb,setRow_other _ _ _ _ hb];rfl) (by simp [World.setRow,World.drew,-World.drew_eq]) rfl rfl rfl nt D6
  refine ⟨ρ',_,rfl,dC,dZ,.cm hρ jQ.1 (by rw [jQ.2.1];exact iL) (by rw [jQ.2.1];exact bo _) (by rw [jQ.2.2];exact yu) DP (λ_=>⟨rfl,?_⟩)⟩
  rw [jQ.2.2]
  exact kq
 .-- a new row
  have yg:c'=n:=by omega
  subst yg
  obtain ⟨g,hg⟩:∃ g,g=grownCap w (c'+1) c' e:=⟨_,rfl⟩
  have lq:=grownCap_ge w (c'+1) c' e
  have hle:=grownCap_le_maxLen w (c'+1) c' e (by unfold maxLen;omega)
  have NT:(Builtin.firstCells inf.size i (.slice (some ⟨L.b,L.s+o,none⟩) i c')).run P w.drew=.ok (d.take (i*k)).toArray w.drew :=
   TV (zhU (zir (zj1 gl js)) rfl) (by rw [fj,a2,hk];omega)
  have o8:=λty=>Lib.run_append_grow_zeros w t tn ty e inf zv .i64 .i64 ht hint hi hz (some ⟨L.b,L.s+o,none⟩) i c' (d.take (i*k)) NT (c'+1 - i) (by omega) (by omega) (by omega) (by omega)
   (by rw [vq]
       have:(c'+1 - i)*bytes<=(c'+1)*bytes:=py _ (by omega)
       omega) (by rw [vq,show i+(c'+1 - i)=c'+1 by omega];exact growslice_fits (by omega) Gk)
  rw [show i+(c'+1 - i)=c'+1 by omega,<- hg] at o8
  rw [show ((c'+1 - i:Nat):Int)=(c':Int)+1 - (i:Int) by omega] at o8
  rw [<- hg] at lq hle
  obtain ⟨kb,FZ⟩:∃ kb:Array ae,kb=(d.take (i*k)).toArray++Builtin.zeroCells zv.cells (c'+1 - i)++Builtin.zeroCells zv.cells (g - (c'+1)):=⟨_,rfl⟩
  rw [<- FZ] at o8
  have pY:zv.cells.size=k:=by rw [<- qR,ZM,vM]
  have Ai:(d.take (i*k)).length=i*k:=by rw [fj,a2];omega
  have e4:(c'+1 - i)*k=c'*k+k - i*k:=by rw [Nat.sub_mul,e2]
  have e5:(g - (c'+1))*k=g*k - (c'*k+k):=by rw [Nat.sub_mul,e2]
  have hgk:c'*k+k<=g*k:=by rw [<- e2];exact py _ lq
  have MZ:kb.size=g*k:=by
   rw [FZ]
   simp only [Array.size_append,H8,size_zeroCells,pY,Ai,e4,e5]
   omega
  have IB:kb.toList.length=g*k:=by rw [qR,MZ]
  have hRp:∀ j,j < i*k->kb.toList[j]? = d[j]? := by
   intro j hj
   rw [FZ,JQ,JQ,jD,mX (by rw [List.toList_toArray,Ai];exact hj),List.toList_toArray,lX,aE hj]
  have ba:L.b≠w.heap.size:=by have:=hs.lt hA;omega
  have aow:LB.b≠w.heap.size:=by have:=hs.lt hB;omega
  have vt:(w.drew.alloc (.cells kb e)).heap[w.heap.size]? = some (.cells kb e (0,0)):=by simp [World.alloc,World.drew,-World.alloc_eq,-World.drew_eq]
  have yF:∀ j,j < w.heap.size->(w.drew.alloc (.cells kb e)).heap[j]? = w.heap[j]? := λj hj=>by
   have:j≠w.heap.size:=by omega
   simp [World.alloc,World.drew,-World.alloc_eq,-World.drew_eq,xi,this]
  have Oe:oh e kb.size (0,0):=.zero _ _
  have r1:=λty dc=>Uf (w:=w.drew.alloc (.cells kb e)) (t:=t) (u:=t) (ty:=ty) (o:=i*k) (n:=c'+1 - i) (c:=dc) (m:=1) (q:=1) (s':=.slice (some ⟨LB.b,LB.s+o2,none⟩) 1 cv) ht hi rfl (by omega)
   (D3 _ (yF _ (hs.lt hB)) cv) vt Oe (by rw [b2,MZ];omega) OP
  have oI:(aF kb.toList (i*k) us).toArray.size=kb.size:=by
   show (aF kb.toList (i*k) us).length=kb.size
   rw [oS (by rw [b2,IB];omega),IB,MZ]
  have qx:=setRow_heap _ w.heap.size kb (aF kb.toList (i*k) us).toArray e (0,0) vt
  have r2:=λty dc sc=>Uf (w:=((w.drew.alloc (.cells kb e)).setRow w.heap.size (aF kb.toList (i*k) us).toArray).drew) (t:=t) (u:=t) (ty:=ty) (o:=(i+1)*k) (n:=c' - i) (c:=dc) (m:=c' - i) (q:=c' - i) (s':=.slice (some ⟨L.b,L.s+o+i*k,none⟩) (c' - i) sc) ht hi rfl (by omega)
   (D0 _ (by show ((w.drew.alloc (.cells kb e)).setRow w.heap.size (aF kb.toList (i*k) us).toArray).heap[L.b]? = _
             rw [setRow_other _ _ _ _ ba];exact yF _ (hs.lt hA)) _ _) qx (by rw [oI];exact Oe) (by rw [rn,e1,oI,MZ];omega) DG
  refine (MU L.b (L.s+o) c' c' i w.heap.size g _ cv w _ _ _ _ _ tE (bo _) (by omega) lq (by unfold maxLen at hle;omega) o8 r1 r2).mono ?_
  rintro ed W ⟨rfl,rfl⟩
  have tA:=setRow_heap _ w.heap.size _ (aF (aF kb.toList (i*k) us).toArray.toList ((i+1)*k) (d.drop (i*k))).toArray e (0,0) (show (((w.drew.alloc (.cells kb e)).setRow w.heap.size (aF kb.toList (i*k) us).toArray).drew).heap[w.heap.size]? = _ from qx)
  have Ca:(aF (aF kb.toList (i*k) us).toArray.toList ((i+1)*k) (d.drop (i*k))).toArray.size=g*k:=by
   show (aF (aF kb.toList (i*k) us) ((i+1)*k) (d.drop (i*k))).length=g*k
   rw [oS (by rw [oS (by rw [b2,IB];omega),IB,rn,e1];omega),oS (by rw [b2,IB];omega),IB]
  have nt:cut (aF (aF kb.toList (i*k) us).toArray.toList ((i+1)*k) (d.drop (i*k))).toArray.toList 0 (eT.take (i*k)++news++eT.drop (i*k)).length=some (d.take (i*k)++us++d.drop (i*k)):=by
   rw [DQ,e1]
   exact zCj a2 hRp b2 hIN (by rw [qR,MZ];omega)
  obtain ⟨pK,Hf⟩:=zlp hs Gn
  obtain ⟨ρ',hρ,dC,dZ⟩:=T6 (L:=⟨w.heap.size,0,g*k⟩) (b:=.row (eT.take (i*k)++news++eT.drop (i*k)) e false) Hf pS (W:=(((w.drew.alloc (.cells kb e)).setRow w.heap.size (aF kb.toList (i*k) us).toArray).drew).setRow w.heap.size (aF (aF kb.toList (i*k) us).toArray.toList ((i+1)*k) (d.drop (i*k))).toArray)
   (λj hj=>by
    rw [setRow_other _ _ _ _ (by omega)]
    show ((w.drew.alloc (.cells kb e)).setRow w.heap.size (aF kb.toList (i*k) us).toArray).heap[j]? = _
    rw [setRow_other _ _ _ _ (by omega)]
    exact yF _ hj)
   (by simp [World.setRow,World.drew,World.alloc,-World.alloc_eq,-World.drew_eq]) (by simp [World.setRow,World.drew,World.alloc,-World.alloc_eq,-World.drew_eq]) (by simp [World.setRow,World.drew,World.alloc,-World.alloc_eq,-World.drew_eq]) (by simp [World.setRow,World.drew,World.alloc,-World.alloc_eq,-World.drew_eq])
   (bo _) (λρ' BL=>⟨_,(0,0),tA,.zero _ _,Ca,_,nt,D6.mono BL⟩)
  refine ⟨ρ',_,rfl,pK.trans dC,dZ,.cm hρ jQ.1 (by rw [jQ.2.1];exact lq) (by rw [jQ.2.1];exact bo _) (by rw [jQ.2.2];exact yu) hle (λ_=>⟨by simp,?_⟩)⟩
  rw [jQ.2.2]
  simp
end
end Go.Am
