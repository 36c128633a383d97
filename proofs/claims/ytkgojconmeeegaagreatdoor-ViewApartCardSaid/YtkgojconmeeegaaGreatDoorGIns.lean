/- slices.Insert of one element, in place of its text. No condition. -/
import Derived.Test.YtkgojconmeeegaaGreatDoorG6
import Derived.Lib.Overlaps
import Derived.Lib.AppendZerosOnto
set_option linter.unusedSimpArgs false
set_option linter.unusedVariables false
namespace Go.Am
open Go.RowKit
section
variable {P:Program} {gs:List Nat} {ρ:cE} {h:Heap} {w:World}
theorem zwA (hs:bP ρ h w) (gd:ρ h.size=none) {A off:Nat} {L:Loc} {cs news m:List Value} {e:TypeId} {cur:Array Value} {fz:Nat × Nat} {W:World} (hA:ρ A=some L) (hg:h.get A=some (.row cs e false))
 (np:nz e cur.size fz) (mS:cur.size=L.uA) (qn:W.heap[L.b]? = some (.cells cur e fz)) (ja:∀ b,b≠L.b→W.heap[b]? = w.heap[b]?) (dz:W.heap.size=w.heap.size)
 (tW:W.os=w.os) (htp:W.tape=w.tape) (fE:W.output=w.output) (mJ:cut cur.toList off news.length=some m) (hn:cD ρ news m) :
 ∃ ρ',ρ' h.size=some ⟨L.b,off,L.uA⟩∧Fr ρ ρ' h ((h.set A .dead).push (.row news e false)) w W∧bP ρ' ((h.set A .dead).push (.row news e false)) W:=by
 have tG:A < h.size:=Heap.bD hg
 have ey:∀ A L',ρ A=some L'→(fun A=>if A=h.size then some (⟨L.b,off,L.uA⟩:Loc) else ρ A) A=some L':=by
  intro A L' hA
  have aP:A≠h.size:=fun e=>by rw [e,gd] at hA;cases hA
  simp only [if_neg aP]
  exact hA
 have dF:∀ j,((h.set A .dead).push (.row news e false)).get j=if j=h.size then some (.row news e false) else if j=A then some .dead else h.get j:=by
  intro j
  rw [Heap.bu,Heap.size_set,Heap.aD _ _ _ _ tG]
 have aP:∀ A' L',ρ A'=some L'→A'≠A→live h A'→L'.b≠L.b:=by
  intro A' L' ei e' jG heq
  rcases hs.inj A' A L' L ei hA e' heq with h1|h1|h1
  ·exact h1 jG
  ·exact h1 ⟨_,hg,by simp⟩
  ·obtain ⟨_,SW,e2,pL⟩:=h1
   rw [hg] at pL
   cases pL
 refine ⟨fun A=>if A=h.size then some ⟨L.b,off,L.uA⟩ else ρ A,by simp,⟨ey,?_,tW,htp,fE,by rw [dz];exact Nat.le_refl _,?_,Nat.min_le_left _ _,?_,?_⟩,⟨?_,?_⟩⟩
 ·intro A' L' ei Bx
  split at ei
  ·rename_i e1
   cases ei
   refine ⟨by omega,by rw [Heap.size_push,Heap.size_set];omega,.inr ⟨A,L,hA,rfl,?_,by rw [Heap.size_push,Heap.size_set];omega⟩⟩
   rw [Heap.de,Heap.bW]
   omega
  ·rw [Bx] at ei;cases ei
 ·rw [Heap.size_push,Heap.size_set];omega
 ·intro b hb aB
  refine ja b fun e'=>?_
  subst e'
  have:=aB A L hA rfl
  rw [Heap.de,Heap.bW,Heap.size_push,Heap.size_set] at this
  omega
 ·intro A' ei hl
  rw [Heap.de,Heap.bW] at hl
  rw [dF,if_neg (by omega),if_neg (by omega)]
 ·intro A' L' ei
  rw [dF]
  split at ei
  ·rename_i e1
   cases ei
   rw [if_pos e1]
   exact ⟨_,fz,qn,np,mS,m,mJ,hn.mono ey⟩
  ·rename_i e1
   rw [if_neg e1]
   by_cases e2:A'=A
   ·rw [if_pos e2]
    show L'.b < _
    rw [dz]
    exact hs.lt ei
   ·rw [if_neg e2]
    exact (hs.fG A' L' ei).keep ey (by rw [dz];exact Nat.le_refl _) fun hl=>ja L'.b (aP A' L' ei e2 hl)
 ·intro A1 A2 L1 L2 h1 h2 w7 hb
  unfold live mT
  rw [dF,dF]
  have bf:∀ A' L',A'≠h.size→ρ A'=some L'→L.b=L'.b→¬ ∃ b,(if A'=A then some bh.dead else h.get A')=some b∧b≠.dead:=by
   intro A' L' hh ei mg
   by_cases e2:A'=A
   ·simp [e2]
   ·rw [if_neg e2]
    exact fun jG=>aP A' L' ei e2 jG mg.symm
  split at h1
  ·rename_i e1
   split at h2
   ·omega
   ·rename_i e2
    cases h1
    right;left
    rw [if_neg e2]
    exact bf A2 L2 e2 h2 hb
  ·rename_i e1
   split at h2
   ·rename_i e2
    cases h2
    left
    rw [if_neg e1]
    exact bf A1 L1 e1 h1 hb.symm
   ·rename_i e2
    rw [if_neg e1,if_neg e2]
    by_cases f1:A1=A
    ·left;simp [f1]
    ·by_cases f2:A2=A
     ·right;left;simp [f2]
     ·rw [if_neg f1,if_neg f2]
      exact hs.inj A1 A2 L1 L2 h1 h2 w7 hb

theorem WW {w:World} {t u ty e e':TypeId} {i:TypeInfo} (ht:P.underlying t=some (.slice e)) (hi:P.info? e=some i) {b o n c m q:Nat} {s':Value} {news:List Value} (hlen:Builtin.lenOf s'=pure m) (hq:min m n=q)
 (hf:(Builtin.firstCells i.size q s').run P w=.ok news.toArray w) {cur:Array Value} {fz:Nat × Nat} (gr:w.heap[b]? = some (.cells cur e' fz)) (np:nz e' cur.size fz) (jV:o+news.length≤cur.size) (h1:∀ v∈news,v.oneCell'=true) :
 (Builtin.copy_ #[t,u] ty #[.slice (some ⟨b,o,none⟩) n c,s']).run P w=.ok (.int .i64 q) (w.setRow b (az cur.toList o news).toArray):=by
 have ez:=Wx P b o e' fz news 0 cur w gr np (by omega) h1
 simp only [Nat.add_zero] at ez
 have wY:Nat.min m n=q:=hq
 simp [Builtin.copy_,run_underlying ht,hlen,wY,sizeOf,typeInfo,hi,hf,ez,goInt,az]
theorem zjr {cur d us:List Value} {o I N K:Nat} (hd:cut cur o N=some d) (hu:us.length=K) (hI:I≤N) (jV:o+N+K≤cur.length) :
 cut (az (az cur (o+I+K) (d.drop I)) (o+I) us) o (N+K)=some (d.take I++us++d.drop I):=by
 obtain ⟨h1,h2,h3⟩:=pB hd
 have rM:(d.drop I).length=N - I:=by rw [List.length_drop,h2]
 have xo:(d.take I).length=I:=by rw [List.length_take,h2];omega
 have fT:(az cur (o+I+K) (d.drop I)).length=cur.length:=nS (by omega)
 refine ru (by rw [nS (by omega),fT];omega) (by rw [List.length_append,List.length_append,xo,rM,hu];omega) fun j hj=>?_
 rw [bI _ _ _ _ (by omega),bI _ _ _ _ (by omega),hu,rM]
 by_cases c1:j < I
 ·rw [if_pos (by omega),if_pos (by omega),List.append_assoc,List.getElem?_append_left (by omega),List.getElem?_take,if_pos c1,h3 j (by omega)]
 ·rw [if_neg (by omega)]
  by_cases c2:j < I+K
  ·rw [if_pos (by omega),List.append_assoc,List.getElem?_append_right (by omega),xo,List.getElem?_append_left (by omega)]
   congr 1
   omega
  ·rw [if_neg (by omega),if_neg (by omega),if_pos (by omega),List.append_assoc,List.getElem?_append_right (by omega),xo,List.getElem?_append_right (by omega),hu]
   congr 1
   omega
theorem zFE {cur d us:List Value} {I N K:Nat} (hd:d.length=N) (mQ:∀ j,j < I→cur[j]? = d[j]?) (hu:us.length=K) (hI:I≤N) (jV:N+K≤cur.length) :
 cut (az (az cur I us) (I+K) (d.drop I)) 0 (N+K)=some (d.take I++us++d.drop I):=by
 have rM:(d.drop I).length=N - I:=by rw [List.length_drop,hd]
 have xo:(d.take I).length=I:=by rw [List.length_take,hd];omega
 have fT:(az cur I us).length=cur.length:=nS (by omega)
 refine ru (by rw [nS (by omega),fT];omega) (by rw [List.length_append,List.length_append,xo,rM,hu];omega) fun j hj=>?_
 rw [Nat.zero_add,bI _ _ _ _ (by omega),bI _ _ _ _ (by omega),hu,rM]
 by_cases c1:j < I
 ·rw [if_pos (by omega),if_pos (by omega),List.append_assoc,List.getElem?_append_left (by omega),List.getElem?_take,if_pos c1,mQ j c1]
 ·by_cases c2:j < I+K
  ·rw [if_pos (by omega),if_neg (by omega),if_pos (by omega),List.append_assoc,List.getElem?_append_right (by omega),xo,List.getElem?_append_left (by omega)]
  ·rw [if_neg (by omega),if_pos (by omega),List.append_assoc,List.getElem?_append_right (by omega),xo,List.getElem?_append_right (by omega),hu]
   congr 1
   omega
def qT (T:bK) (t:TypeId) (args:List Value) (h:Heap):Option (Value × Heap) :=
 match T.desc t,args with
 |some (.slice e),[.slice base n c,.int .i64 iz,.slice (some ⟨B,o2,none⟩) 1 c2] =>
  if iz=(n:Int) then hZ T t (.slice base n c) (.slice (some ⟨B,o2,none⟩) 1 c2) h else
  match T.info e,base,h.get B with
  |some (k,bytes,_),some ⟨A,o,none⟩,some (.row _ eB false) =>
   match h.get A with
   |some (.row _ eA false) =>
    if (0≤iz∧iz < n∧A≠B∧eA=e∧eB=e∧e≠SG∧0 < k∧G≤c∧c / G=k)∧(n+1)*bytes≤140737488355328∧n+1≤1152921504606846976 then
     (gQ A o (n*k) h).bind fun eJ=>(gQ B o2 k h).bind fun news =>
     if news.all one=true∧eJ.all one=true then some (.slice (some ⟨h.size,0,none⟩) (n+1) (G*k+(n+1)),(h.set A .dead).push (.row (eJ.take (iz.toNat*k)++news++eJ.drop (iz.toNat*k)) e false)) else none
    else none
   |_=>none
  |_,_,_=>none
 |_,_=>none
theorem zmi {T:bK} {t:TypeId} {args:List Value} {h h':Heap} {v:Value} (ak:qT T t args h=some (v,h')):bw h h':=by
 unfold qT at ak
 split at ak
 ·split at ak
  ·exact zgR ak
  ·split at ak
   ·split at ak
    ·rename_i hg
     split at ak
     ·simp only [Option.bind_eq_some_iff] at ak
      obtain ⟨eJ,_,news,_,ak⟩:=ak
      split at ak
      ·cases ak
       exact (bw.set _ (Heap.bD hg)).trans (bw.push _ _)
      ·cases ak
     ·cases ak
    ·cases ak
   ·cases ak
 ·cases ak
theorem TT {w:World} {b o:Nat} {cur:Array Value} {e:TypeId} {fz:Nat × Nat} {m:List Value} {n:Nat} (gr:w.heap[b]? = some (.cells cur e fz)) (hc:cut cur.toList o n=some m):w.rangeAt b o m:=by
 obtain ⟨h1,h2,h3⟩:=pB hc
 intro j v hj
 have NP:j < n:=by rw [← h2];exact (List.getElem?_eq_some_iff.1 hj).1
 rw [cell_of_row w b _ cur e fz gr,← Array.getElem?_toList,← h3 j NP]
 exact hj
theorem ztw {w:World} {b o q:Nat} {m:List Value} (h:w.rangeAt b o m):w.rangeAt b (o+q) (m.drop q):=by
 intro j v hj
 rw [List.getElem?_drop] at hj
 rw [Nat.add_assoc]
 exact h _ v hj
theorem TI {w W:World} {b o:Nat} {m:List Value} (h:w.rangeAt b o m) (hb:W.heap[b]? = w.heap[b]?):W.rangeAt b o m:=by
 intro j v hj
 have:=h j v hj
 unfold World.cell? at this ⊢
 rw [hb]
 exact this
set_option maxHeartbeats 0 in
theorem ztr {T:bK} (hT:T.Fits P) {f BV t tn tb e:TypeId} {k bytes:Nat} {z:List Value} (hd:T.desc t=some (.slice e)) (gK:T.info e=some (k,bytes,z)) (hint:P.underlying tn=some (.int .i64))
 (cU:∀ aG w,(callFunc f aG).run P w=.ok (.enter f aG) w)
 (acM:∀ (x y:Value) (w:World),(Extern.SlicesOverlaps.overlaps #[t,t] #[tb] #[x,y]).run P w=.ok (.bool false) w→(callFunc BV #[x,y]).run P w=.ok (.value (.bool false)) w)
 (abr:∀ (a:Option Addr) (n c:Nat) (av:Option Addr) (cv:Nat) (w w':World) (r:Value),n≤c→(∀ ty,(Builtin.append_ #[t,t] ty #[.slice a n c,.slice av 1 cv]).run P w=.ok r w') →
  Calls P f #[.slice a n c,.int .i64 n,.slice av 1 cv] w fun e W=>e=.returned r∧W=w')
 (Na:∀ (b off n c i:Nat) (av:Option Addr) (cv:Nat) (w w1 w2:World) (x1 x2:Value),i < n→n+1≤c→c≤9223372036854775807 →
  (∀ lb cb,(callFunc BV #[.slice av 1 cv,.slice (some ⟨b,off+(i+1)*k,none⟩) lb cb]).run P w=.ok (.value (.bool false)) w) →
  (∀ ty dc sc,(Builtin.copy_ #[t,t] ty #[.slice (some ⟨b,off+(i+1)*k,none⟩) (n - i) dc,.slice (some ⟨b,off+i*k,none⟩) (n+1 - i) sc]).run P w.drew=.ok x1 w1) →
  (∀ ty dc,(Builtin.copy_ #[t,t] ty #[.slice (some ⟨b,off+i*k,none⟩) (n+1 - i) dc,.slice av 1 cv]).run P w1=.ok x2 w2) →
  Calls P f #[.slice (some ⟨b,off,none⟩) n c,.int .i64 i,.slice av 1 cv] w fun e W=>e=.returned (.slice (some ⟨b,off,none⟩) (n+1) c)∧W=w2)
 (M5:∀ (b off n c i nb g:Nat) (av:Option Addr) (cv:Nat) (w w1 w2 w3:World) (x1 x2:Value),i < n→n≤c→c < n+1→n+1≤g→g≤9223372036854775807 →
  (∀ ty,(Builtin.append_ #[t,tn] ty #[.slice (some ⟨b,off,none⟩) i c,.int .i64 ((n:Int)+1 - (i:Int))]).run P w=.ok (.slice (some ⟨nb,0,none⟩) (n+1) g) w1) →
  (∀ ty dc,(Builtin.copy_ #[t,t] ty #[.slice (some ⟨nb,i*k,none⟩) (n+1 - i) dc,.slice av 1 cv]).run P w1=.ok x1 w2) →
  (∀ ty dc sc,(Builtin.copy_ #[t,t] ty #[.slice (some ⟨nb,(i+1)*k,none⟩) (n - i) dc,.slice (some ⟨b,off+i*k,none⟩) (n - i) sc]).run P w2.drew=.ok x2 w3) →
  Calls P f #[.slice (some ⟨b,off,none⟩) n c,.int .i64 i,.slice av 1 cv] w fun e W=>e=.returned (.slice (some ⟨nb,0,none⟩) (n+1) g)∧W=w3):zm P gs f (qT T t):=by
 intro args h v h' ak
 refine ⟨zmi ak,fun ρ w aG _ hs bN hv=>.inr ⟨cU aG w,?_⟩⟩
 unfold qT at ak
 split at ak
 rotate_left
 ·cases ak
 rename_i _ e' base n c iz B o2 c2 nJ
 rw [hd] at nJ
 cases nJ
 obtain ⟨x,m0,e0,hx,hv⟩:=hv.of_cons
 obtain ⟨y,m1,e1,hy,hv⟩:=hv.of_cons
 obtain ⟨u,m2,e2,hu,hv⟩:=hv.of_cons
 have e3:=hv.of_nil
 subst e3 e2 e1
 have lN:aG=#[x,y,u]:=by rw [← Array.toList_inj];exact e0
 subst lN
 cases hy
 have ht:P.underlying t=some (.slice e):=hT.desc _ _ hd
 obtain ⟨inf,zv,hi,hk,tL,hz,BL,ur,sR⟩:=hT.info e k bytes z gK
 have ac4:=hu
 -- the new Iy list
 have adu:∃ L cv,ρ B=some L∧u=.slice (some ⟨L.b,L.s+o2,none⟩) 1 cv:=by
  cases hu with
  |slice hA hc pN ea=>exact ⟨_,_,hA,by rw [ea (by omega)]⟩
  |ck hA hc cV pN hk hm ea=>exact ⟨_,_,hA,by rw [(ea (by omega)).1]⟩
 obtain ⟨LB,cv,hB,rfl⟩:=adu
 by_cases kA:iz=(n:Int)
 ·subst kA
  rw [if_pos rfl] at ak
  have key:∃ a' c',x=.slice a' n c'∧n≤c':=by
   cases hx with
   |dt=>exact ⟨_,_,rfl,Nat.le_refl _⟩
   |slice hA hc hn ea=>exact ⟨_,_,rfl,hn⟩
   |ck hA hc cV hn hk hm ea=>exact ⟨_,_,rfl,by omega⟩
  obtain ⟨a',c',rfl,pN⟩:=key
  obtain ⟨ρ',vc,w',dX,df,dL,ph⟩:=zgS (ty:=0) (u:=t) hT hs bN (.inl ⟨e,ht⟩) hx ac4 ak
  refine (abr a' n c' _ cv w w' vc pN (fun ty=>?_)).mono ?_
  ·exact dX
  ·rintro ed W ⟨rfl,rfl⟩
   exact ⟨ρ',vc,rfl,df,dL,ph⟩
 rw [if_neg kA] at ak
 split at ak
 rotate_left
 ·cases ak
 rename_i k' ZJ z' A o csB eB DJ DI
 rw [gK] at DJ
 cases DJ
 split at ak
 rotate_left
 ·cases ak
 rename_i csA eA Gl
 split at ak
 rotate_left
 ·cases ak
 rename_i ql
 obtain ⟨⟨rP,aL,hAB,Yb,Yc,Bh,wT,hG,fS⟩,Gi,Wq⟩:=ql
 rw [Yb] at Gl
 rw [Yc] at DI
 clear Yb Yc
 simp only [Option.bind_eq_some_iff] at ak
 obtain ⟨eJ,hold,news,jx,ak⟩:=ak
 split at ak
 rotate_left
 ·cases ak
 rename_i bf
 cases ak
 obtain ⟨i,rfl⟩:=Int.eq_ofNat_of_zero_le rP
 simp only [Int.toNat_natCast] at bN ⊢
 have rQ:i < n:=by omega
 cases hx with
 |slice hA hc hn ea=>omega
 |ck hA hc cV hn gz DP ea =>
 rename_i c' L ad
 obtain ⟨rfl,jV⟩:=ea (by omega)
 rw [fS] at jV
 have yo:=hs.fG A L hA
 rw [Gl] at yo
 obtain ⟨cur,fz,gr,np,mS,mA,hmA,pf⟩:=yo
 have X6:=hs.fG B LB hB
 rw [DI] at X6
 obtain ⟨MJ,fzB,sH,OB,ajy,mB,hmB,nM⟩:=X6
 have M7:LB.b≠L.b:=by
  intro mg
  rcases hs.inj A B L LB hA hB hAB mg.symm with g|g|⟨g,_⟩
  ·exact g ⟨_,Gl,by simp⟩
  ·exact g ⟨_,DI,by simp⟩
  ·obtain ⟨_,_,g2⟩:=g
   rw [Gl] at g2
   cases g2
 -- what is read
 have Dt:∀ {cs m:List Value} {cur:Array Value} {s q p:Nat} {l:List Value},cut cur.toList s cs.length=some m→cD ρ cs m→cut cs q p=some l→∃ d,cut cur.toList (s+q) p=some d∧cD ρ l d:=by
  intro cs m cur s q p l h1 h2 h3
  obtain ⟨d,fj,vq⟩:=h2.cut h3
  obtain ⟨k1,k2,k3⟩:=pB h1
  obtain ⟨d1,d2,d3⟩:=pB fj
  refine ⟨d,ru (by omega) d2 (fun j hj=>?_),vq⟩
  rw [d3 j (by omega),k3 (q+j) (by omega),Nat.add_assoc]
 simp only [gQ,Gl] at hold
 simp only [gQ,DI] at jx
 obtain ⟨d,fj,vq⟩:=Dt hmA pf hold
 obtain ⟨us,kF,lT⟩:=Dt hmB nM jx
 obtain ⟨a1,a2,a3⟩:=pB fj
 obtain ⟨b1,b2,b3⟩:=pB kF
 have Pl:∀ v∈us,v.oneCell'=true:=lT.one bf.1
 have adK:∀ v∈d,v.oneCell'=true:=vq.one bf.2
 have e1:(i+1)*k=i*k+k:=Nat.succ_mul i k
 have e2:(n+1)*k=n*k+k:=Nat.succ_mul n k
 have e3:(n - i)*k=n*k - i*k:=Nat.sub_mul n i k
 have Wu:i*k≤n*k:=Nat.mul_le_mul_right _ (Nat.le_of_lt rQ)
 have o8:ρ h.size=none:=bN _ (Nat.le_refl _) (by rw [Heap.size_push,Heap.size_set];omega)
 have jy:=CL (k:=k) (q:=n+1) wT (by unfold G;omega)
 have ajh:∀ cv,Builtin.lenOf (.slice (some ⟨LB.b,LB.s+o2,none⟩) 1 cv)=pure 1:=fun _=>rfl
 have DQ:(eJ.take (i*k)++news++eJ.drop (i*k)).length=n*k+k:=by
  have q1:eJ.length=n*k:=by rw [vq.1,a2]
  have q2:news.length=k:=by rw [lT.1,b2]
  rw [List.length_append,List.length_append,List.length_take,List.length_drop]
  omega
 have D7:cD ρ (eJ.take (i*k)++news++eJ.drop (i*k)) (d.take (i*k)++us++d.drop (i*k)):=((vq.take _).append lT).append (vq.drop _)
 have D4:∀ W:World,W.heap[LB.b]? = w.heap[LB.b]? → ∀ cv,(Builtin.firstCells inf.size 1 (.slice (some ⟨LB.b,LB.s+o2,none⟩) 1 cv)).run P W=.ok us.toArray W:=fun W hW cv =>
  Wy (TI (TT sH kF) hW) (by rw [b2,hk,Nat.one_mul])
 have D3:∀ W:World,W.heap[L.b]? = w.heap[L.b]? → ∀ nn sc,(Builtin.firstCells inf.size (n - i) (.slice (some ⟨L.b,L.s+o+i*k,none⟩) nn sc)).run P W=.ok (d.drop (i*k)).toArray W:=fun W hW nn sc =>
  Wy (TI (ztw (TT gr fj)) hW) (by rw [List.length_drop,a2,hk,e3])
 have ky:cur.toList.length=cur.size:=Array.length_toList
 have hmul:∀ q,q≤c'→q*k≤c'*k:=fun q hq=>Nat.mul_le_mul_right _ hq
 have rM:(d.drop (i*k)).length=n*k - i*k:=by rw [List.length_drop,a2]
 have DG:∀ v∈d.drop (i*k),v.oneCell'=true:=fun v hv=>adK v (List.mem_of_mem_drop hv)
 by_cases iD:n+1≤c'
 ·have NG:=hmul _ iD
  rw [e2] at NG
  -- in place
  have pO:∀ lb cb,(callFunc BV #[.slice (some ⟨LB.b,LB.s+o2,none⟩) 1 cv,.slice (some ⟨L.b,L.s+o+(i+1)*k,none⟩) lb cb]).run P w=.ok (.value (.bool false)) w:=fun lb cb=>by
   refine acM _ _ w (Lib.run_overlaps_apart w t tb e ht k (fun w=>by simp [sizeOf,typeInfo,hi,hk]) ⟨LB.b,LB.s+o2,none⟩ ⟨L.b,L.s+o+(i+1)*k,none⟩ 1 cv lb cb M7 e e MJ.size cur.size ?_ ?_ ?_ ?_ ?_)
   ·simp only [World.shape?,sH]
   ·simp only [World.shape?,gr]
   ·have:0 < c'*k:=Nat.mul_pos (by omega) wT
    omega
   ·have:=OB.BP (LB.s+o2) (by have:=Array.length_toList (xs:=MJ);omega)
    simp only [World.frozen?,sH,Bool.and_eq_false_iff,decide_eq_false_iff_not]
    omega
   ·have:=OB.ZS.resolve_left Bh
    simp only [World.frozen?,sH,Bool.and_eq_false_iff,decide_eq_false_iff_not]
    omega
  have vd:w.drew.heap[L.b]? = some (.cells cur e fz):=gr
  have r1:=fun ty dc sc=>WW (w:=w.drew) (t:=t) (u:=t) (ty:=ty) (o:=L.s+o+(i+1)*k) (n:=n - i) (c:=dc) (m:=n+1 - i) (q:=n - i) (s':=.slice (some ⟨L.b,L.s+o+i*k,none⟩) (n+1 - i) sc) ht hi rfl (by omega) (D3 w.drew rfl _ _) vd np (by rw [rM,e1];omega) DG
  have pK:=setRow_heap w.drew L.b cur (az cur.toList (L.s+o+(i+1)*k) (d.drop (i*k))).toArray e fz vd
  have nK:(az cur.toList (L.s+o+(i+1)*k) (d.drop (i*k))).toArray.size=cur.size:=by
   rw [List.size_toArray,nS (by rw [rM,e1];omega),ky]
  have r2:=fun ty dc=>WW (w:=w.drew.setRow L.b (az cur.toList (L.s+o+(i+1)*k) (d.drop (i*k))).toArray) (t:=t) (u:=t) (ty:=ty) (o:=L.s+o+i*k) (n:=n+1 - i) (c:=dc) (m:=1) (q:=1) (s':=.slice (some ⟨LB.b,LB.s+o2,none⟩) 1 cv) ht hi rfl (by omega)
   (D4 _ (setRow_other w.drew L.b LB.b _ M7) cv) pK (by rw [nK];exact np) (by rw [nK];omega) Pl
  refine (Na L.b (L.s+o) n c' i _ cv w _ _ _ _ rQ iD (by unfold maxLen at DP;omega) pO r1 r2).mono ?_
  rintro ed W ⟨rfl,rfl⟩
  have qZ:=setRow_heap _ L.b _ (az (az cur.toList (L.s+o+(i+1)*k) (d.drop (i*k))).toArray.toList (L.s+o+i*k) us).toArray e fz pK
  have mJ:cut (az (az cur.toList (L.s+o+(i+1)*k) (d.drop (i*k))).toArray.toList (L.s+o+i*k) us).toArray.toList (L.s+o) (eJ.take (i*k)++news++eJ.drop (i*k)).length=some (d.take (i*k)++us++d.drop (i*k)):=by
   rw [DQ,e1,← Nat.add_assoc]
   exact zjr fj b2 Wu (by omega)
  have Ay:(az (az cur.toList (L.s+o+(i+1)*k) (d.drop (i*k))).toArray.toList (L.s+o+i*k) us).toArray.size=cur.size:=by
   show (az (az cur.toList (L.s+o+(i+1)*k) (d.drop (i*k))) (L.s+o+i*k) us).length=cur.size
   rw [nS (by rw [nS (by rw [rM,e1];omega)];omega),nS (by rw [rM,e1];omega),ky]
  obtain ⟨ρ',hρ,df,dL⟩:=zwA (w:=w) (off:=L.s+o) hs o8 hA Gl (by rw [Ay];exact np) (by rw [Ay];exact mS) qZ
   (fun b hb=>by rw [setRow_other _ _ _ _ hb,setRow_other _ _ _ _ hb];rfl) (by simp [World.setRow,World.drew,-World.drew_eq]) rfl rfl rfl mJ D7
  refine ⟨ρ',_,rfl,df,dL,.ck hρ jy.1 (by rw [jy.2.1];exact iD) (by rw [jy.2.1];exact Nat.le_refl _) (by rw [jy.2.2];exact wT) DP (fun _=>⟨rfl,?_⟩)⟩
  rw [jy.2.2]
  exact jV
 ·-- a new row
  have wI:c'=n:=by omega
  subst wI
  obtain ⟨g,hg⟩:∃ g,g=grownCap w (c'+1) c' e:=⟨_,rfl⟩
  have kQ:=grownCap_ge w (c'+1) c' e
  have hle:=grownCap_le_maxLen w (c'+1) c' e (by unfold maxLen;omega)
  have Oh:(Builtin.firstCells inf.size i (.slice (some ⟨L.b,L.s+o,none⟩) i c')).run P w.drew=.ok (d.take (i*k)).toArray w.drew :=
   Wy (TI (zil (TT gr fj)) rfl) (by rw [List.length_take,a2,hk];omega)
  have mG:=fun ty=>Lib.run_append_grow_zeros w t tn ty e inf zv .i64 .i64 ht hint hi hz (some ⟨L.b,L.s+o,none⟩) i c' (d.take (i*k)) Oh (c'+1 - i) (by omega) (by omega) (by omega) (by omega)
   (by rw [tL]
       have:(c'+1 - i)*bytes≤(c'+1)*bytes:=Nat.mul_le_mul_right _ (by omega)
       omega) (by rw [tL,show i+(c'+1 - i)=c'+1 by omega];exact growslice_fits (by omega) Gi)
  rw [show i+(c'+1 - i)=c'+1 by omega,← hg] at mG
  rw [show ((c'+1 - i:Nat):Int)=(c':Int)+1 - (i:Int) by omega] at mG
  rw [← hg] at kQ hle
  obtain ⟨jK,F0⟩:∃ jK:Array Value,jK=(d.take (i*k)).toArray++Builtin.zeroCells zv.cells (c'+1 - i)++Builtin.zeroCells zv.cells (g - (c'+1)):=⟨_,rfl⟩
  rw [← F0] at mG
  have oo:zv.cells.size=k:=by rw [← Array.length_toList,BL,ur]
  have xo:(d.take (i*k)).length=i*k:=by rw [List.length_take,a2];omega
  have e4:(c'+1 - i)*k=c'*k+k - i*k:=by rw [Nat.sub_mul,e2]
  have e5:(g - (c'+1))*k=g*k - (c'*k+k):=by rw [Nat.sub_mul,e2]
  have hgk:c'*k+k≤g*k:=by rw [← e2];exact Nat.mul_le_mul_right _ kQ
  have Nb:jK.size=g*k:=by
   rw [F0]
   simp only [Array.size_append,List.size_toArray,size_zeroCells,oo,xo,e4,e5]
   omega
  have IC:jK.toList.length=g*k:=by rw [Array.length_toList,Nb]
  have hRp:∀ j,j < i*k→jK.toList[j]? = d[j]? := by
   intro j hj
   rw [F0,Array.toList_append,Array.toList_append,List.append_assoc,List.getElem?_append_left (by rw [List.toList_toArray,xo];exact hj),List.toList_toArray,List.getElem?_take,if_pos hj]
  have aP:L.b≠w.heap.size:=by have:=hs.lt hA;omega
  have ase:LB.b≠w.heap.size:=by have:=hs.lt hB;omega
  have vd:(w.drew.alloc (.cells jK e)).heap[w.heap.size]? = some (.cells jK e (0,0)):=by simp [World.alloc,World.drew,-World.alloc_eq,-World.drew_eq]
  have xb:∀ j,j < w.heap.size→(w.drew.alloc (.cells jK e)).heap[j]? = w.heap[j]? := fun j hj=>by
   have:j≠w.heap.size:=by omega
   simp [World.alloc,World.drew,-World.alloc_eq,-World.drew_eq,Array.getElem?_push,this]
  have OA:nz e jK.size (0,0):=.zero _ _
  have r1:=fun ty dc=>WW (w:=w.drew.alloc (.cells jK e)) (t:=t) (u:=t) (ty:=ty) (o:=i*k) (n:=c'+1 - i) (c:=dc) (m:=1) (q:=1) (s':=.slice (some ⟨LB.b,LB.s+o2,none⟩) 1 cv) ht hi rfl (by omega)
   (D4 _ (xb _ (hs.lt hB)) cv) vd OA (by rw [b2,Nb];omega) Pl
  have nK:(az jK.toList (i*k) us).toArray.size=jK.size:=by
   show (az jK.toList (i*k) us).length=jK.size
   rw [nS (by rw [b2,IC];omega),IC,Nb]
  have pK:=setRow_heap _ w.heap.size jK (az jK.toList (i*k) us).toArray e (0,0) vd
  have r2:=fun ty dc sc=>WW (w:=((w.drew.alloc (.cells jK e)).setRow w.heap.size (az jK.toList (i*k) us).toArray).drew) (t:=t) (u:=t) (ty:=ty) (o:=(i+1)*k) (n:=c' - i) (c:=dc) (m:=c' - i) (q:=c' - i) (s':=.slice (some ⟨L.b,L.s+o+i*k,none⟩) (c' - i) sc) ht hi rfl (by omega)
   (D3 _ (by show ((w.drew.alloc (.cells jK e)).setRow w.heap.size (az jK.toList (i*k) us).toArray).heap[L.b]? = _
             rw [setRow_other _ _ _ _ aP];exact xb _ (hs.lt hA)) _ _) pK (by rw [nK];exact OA) (by rw [rM,e1,nK,Nb];omega) DG
  refine (M5 L.b (L.s+o) c' c' i w.heap.size g _ cv w _ _ _ _ _ rQ (Nat.le_refl _) (by omega) kQ (by unfold maxLen at hle;omega) mG r1 r2).mono ?_
  rintro ed W ⟨rfl,rfl⟩
  have qZ:=setRow_heap _ w.heap.size _ (az (az jK.toList (i*k) us).toArray.toList ((i+1)*k) (d.drop (i*k))).toArray e (0,0) (show (((w.drew.alloc (.cells jK e)).setRow w.heap.size (az jK.toList (i*k) us).toArray).drew).heap[w.heap.size]? = _ from pK)
  have Ay:(az (az jK.toList (i*k) us).toArray.toList ((i+1)*k) (d.drop (i*k))).toArray.size=g*k:=by
   show (az (az jK.toList (i*k) us) ((i+1)*k) (d.drop (i*k))).length=g*k
   rw [nS (by rw [nS (by rw [b2,IC];omega),IC,rM,e1];omega),nS (by rw [b2,IC];omega),IC]
  have mJ:cut (az (az jK.toList (i*k) us).toArray.toList ((i+1)*k) (d.drop (i*k))).toArray.toList 0 (eJ.take (i*k)++news++eJ.drop (i*k)).length=some (d.take (i*k)++us++d.drop (i*k)):=by
   rw [DQ,e1]
   exact zFE a2 hRp b2 Wu (by rw [Array.length_toList,Nb];omega)
  obtain ⟨oR,Hj⟩:=zk1 hs Gl
  obtain ⟨ρ',hρ,df,dL⟩:=WK (L:=⟨w.heap.size,0,g*k⟩) (b:=.row (eJ.take (i*k)++news++eJ.drop (i*k)) e false) Hj o8 (W:=(((w.drew.alloc (.cells jK e)).setRow w.heap.size (az jK.toList (i*k) us).toArray).drew).setRow w.heap.size (az (az jK.toList (i*k) us).toArray.toList ((i+1)*k) (d.drop (i*k))).toArray)
   (fun j hj=>by
    rw [setRow_other _ _ _ _ (by omega)]
    show ((w.drew.alloc (.cells jK e)).setRow w.heap.size (az jK.toList (i*k) us).toArray).heap[j]? = _
    rw [setRow_other _ _ _ _ (by omega)]
    exact xb _ hj)
   (by simp [World.setRow,World.drew,World.alloc,-World.alloc_eq,-World.drew_eq]) (by simp [World.setRow,World.drew,World.alloc,-World.alloc_eq,-World.drew_eq]) (by simp [World.setRow,World.drew,World.alloc,-World.alloc_eq,-World.drew_eq]) (by simp [World.setRow,World.drew,World.alloc,-World.alloc_eq,-World.drew_eq])
   (Nat.le_refl _) (fun ρ' Br=>⟨_,(0,0),qZ,.zero _ _,Ay,_,mJ,D7.mono Br⟩)
  refine ⟨ρ',_,rfl,oR.trans df,dL,.ck hρ jy.1 (by rw [jy.2.1];exact kQ) (by rw [jy.2.1];exact Nat.le_refl _) (by rw [jy.2.2];exact wT) hle (fun _=>⟨by simp,?_⟩)⟩
  rw [jy.2.2]
  simp
end
end Go.Am
