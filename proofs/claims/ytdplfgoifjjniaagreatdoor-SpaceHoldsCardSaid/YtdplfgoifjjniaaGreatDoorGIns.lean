/- slices.Insert of one element, in place of its text. No condition. -/
import Derived.Test.YtdplfgoifjjniaaGreatDoorGOv
import Derived.Lib.Overlaps
import Derived.Lib.AppendZerosOnto
set_option linter.unusedSimpArgs false
set_option linter.unusedVariables false
namespace Go.Am
open Go.RowKit
section
variable {P:Program} {gs:List Nat} {ρ:ct} {h:Heap} {w:World}
theorem zuK (hs:bK ρ h w) (fk:ρ h.size=none) {A off:Nat} {L:Loc} {cs news m:List Value} {e:TypeId} {cur:Array Value} {fz:Nat × Nat} {W:World} (hA:ρ A=some L) (hg:h.get A=some (.row cs e false))
 (nC:lV e cur.size fz) (nD:cur.size=L.r7) (oH:W.heap[L.b]? = some (.cells cur e fz)) (gZ:∀ b,b≠L.b→W.heap[b]? = w.heap[b]?) (dB:W.heap.size=w.heap.size)
 (rR:W.os=w.os) (htp:W.tape=w.tape) (jA:W.output=w.output) (lh:cut cur.toList off news.length=some m) (hn:cu ρ news m) :
 ∃ ρ',ρ' h.size=some ⟨L.b,off,L.r7⟩∧Fr ρ ρ' h ((h.set A .dead).push (.row news e false)) w W∧bK ρ' ((h.set A .dead).push (.row news e false)) W:=by
 have rE:A < h.size:=Heap.bz hg
 have ea:∀ A L',ρ A=some L'→(fun A=>if A=h.size then some (⟨L.b,off,L.r7⟩:Loc) else ρ A) A=some L':=by
  intro A L' hA
  have aO:A≠h.size:=fun e=>by rw [e,fk] at hA;cases hA
  simp only [if_neg aO]
  exact hA
 have df:∀ j,((h.set A .dead).push (.row news e false)).get j=if j=h.size then some (.row news e false) else if j=A then some .dead else h.get j:=by
  intro j
  rw [Heap.bL,Heap.size_set,Heap.aC _ _ _ _ rE]
 have aO:∀ A' L',ρ A'=some L'→A'≠A→live h A'→L'.b≠L.b:=by
  intro A' L' dR e' iN heq
  rcases hs.inj A' A L' L dR hA e' heq with h1|h1|h1
  ·exact h1 iN
  ·exact h1 ⟨_,hg,by simp⟩
  ·obtain ⟨_,Nq,e2,pw⟩:=h1
   rw [hg] at pw
   cases pw
 refine ⟨fun A=>if A=h.size then some ⟨L.b,off,L.r7⟩ else ρ A,by simp,⟨ea,?_,rR,htp,jA,by rw [dB];exact Nat.le_refl _,?_,Nat.min_le_left _ _,?_,?_⟩,⟨?_,?_⟩⟩
 ·intro A' L' dR Wo
  split at dR
  ·rename_i e1
   cases dR
   refine ⟨by omega,by rw [Heap.size_push,Heap.size_set];omega,.inr ⟨A,L,hA,rfl,?_,by rw [Heap.size_push,Heap.size_set];omega⟩⟩
   rw [Heap.dH,Heap.bX]
   omega
  ·rw [Wo] at dR;cases dR
 ·rw [Heap.size_push,Heap.size_set];omega
 ·intro b hb az
  refine gZ b fun e'=>?_
  subst e'
  have:=az A L hA rfl
  rw [Heap.dH,Heap.bX,Heap.size_push,Heap.size_set] at this
  omega
 ·intro A' dR hl
  rw [Heap.dH,Heap.bX] at hl
  rw [df,if_neg (by omega),if_neg (by omega)]
 ·intro A' L' dR
  rw [df]
  split at dR
  ·rename_i e1
   cases dR
   rw [if_pos e1]
   exact ⟨_,fz,oH,nC,nD,m,lh,hn.mono ea⟩
  ·rename_i e1
   rw [if_neg e1]
   by_cases e2:A'=A
   ·rw [if_pos e2]
    show L'.b < _
    rw [dB]
    exact hs.lt dR
   ·rw [if_neg e2]
    exact (hs.jX A' L' dR).keep ea (by rw [dB];exact Nat.le_refl _) fun hl=>gZ L'.b (aO A' L' dR e2 hl)
 ·intro A1 A2 L1 L2 h1 h2 uB hb
  unfold live lA
  rw [df,df]
  have bw:∀ A' L',A'≠h.size→ρ A'=some L'→L.b=L'.b→¬ ∃ b,(if A'=A then some bh.dead else h.get A')=some b∧b≠.dead:=by
   intro A' L' hh dR kS
   by_cases e2:A'=A
   ·simp [e2]
   ·rw [if_neg e2]
    exact fun iN=>aO A' L' dR e2 iN kS.symm
  split at h1
  ·rename_i e1
   split at h2
   ·omega
   ·rename_i e2
    cases h1
    right;left
    rw [if_neg e2]
    exact bw A2 L2 e2 h2 hb
  ·rename_i e1
   split at h2
   ·rename_i e2
    cases h2
    left
    rw [if_neg e1]
    exact bw A1 L1 e1 h1 hb.symm
   ·rename_i e2
    rw [if_neg e1,if_neg e2]
    by_cases f1:A1=A
    ·left;simp [f1]
    ·by_cases f2:A2=A
     ·right;left;simp [f2]
     ·rw [if_neg f1,if_neg f2]
      exact hs.inj A1 A2 L1 L2 h1 h2 uB hb

theorem On {w:World} {t u ty e e':TypeId} {i:TypeInfo} (ht:P.underlying t=some (.slice e)) (hi:P.info? e=some i) {b o n c m q:Nat} {s':Value} {news:List Value} (hlen:Builtin.lenOf s'=pure m) (hq:min m n=q)
 (hf:(Builtin.firstCells i.size q s').run P w=.ok news.toArray w) {cur:Array Value} {fz:Nat × Nat} (gG:w.heap[b]? = some (.cells cur e' fz)) (nC:lV e' cur.size fz) (ja:o+news.length≤cur.size) (h1:∀ v∈news,v.oneCell'=true) :
 (Builtin.copy_ #[t,u] ty #[.slice (some ⟨b,o,none⟩) n c,s']).run P w=.ok (.int .i64 q) (w.setRow b (ay cur.toList o news).toArray):=by
 have eb:=Oh P b o e' fz news 0 cur w gG nC (by omega) h1
 simp only [Nat.add_zero] at eb
 have uA:Nat.min m n=q:=hq
 simp [Builtin.copy_,run_underlying ht,hlen,uA,sizeOf,typeInfo,hi,hf,eb,goInt,ay]
theorem zB9 {cur d us:List Value} {o I N K:Nat} (hd:cut cur o N=some d) (hu:us.length=K) (hI:I≤N) (ja:o+N+K≤cur.length) :
 cut (ay (ay cur (o+I+K) (d.drop I)) (o+I) us) o (N+K)=some (d.take I++us++d.drop I):=by
 obtain ⟨h1,h2,h3⟩:=q8 hd
 have qa:(d.drop I).length=N - I:=by rw [List.length_drop,h2]
 have vT:(d.take I).length=I:=by rw [List.length_take,h2];omega
 have eN:(ay cur (o+I+K) (d.drop I)).length=cur.length:=mQ (by omega)
 refine pH (by rw [mQ (by omega),eN];omega) (by rw [List.length_append,List.length_append,vT,qa,hu];omega) fun j hj=>?_
 rw [bH _ _ _ _ (by omega),bH _ _ _ _ (by omega),hu,qa]
 by_cases c1:j < I
 ·rw [if_pos (by omega),if_pos (by omega),List.append_assoc,List.getElem?_append_left (by omega),List.getElem?_take,if_pos c1,h3 j (by omega)]
 ·rw [if_neg (by omega)]
  by_cases c2:j < I+K
  ·rw [if_pos (by omega),List.append_assoc,List.getElem?_append_right (by omega),vT,List.getElem?_append_left (by omega)]
   congr 1
   omega
  ·rw [if_neg (by omega),if_neg (by omega),if_pos (by omega),List.append_assoc,List.getElem?_append_right (by omega),vT,List.getElem?_append_right (by omega),hu]
   congr 1
   omega
theorem zCa {cur d us:List Value} {I N K:Nat} (hd:d.length=N) (ly:∀ j,j < I→cur[j]? = d[j]?) (hu:us.length=K) (hI:I≤N) (ja:N+K≤cur.length) :
 cut (ay (ay cur I us) (I+K) (d.drop I)) 0 (N+K)=some (d.take I++us++d.drop I):=by
 have qa:(d.drop I).length=N - I:=by rw [List.length_drop,hd]
 have vT:(d.take I).length=I:=by rw [List.length_take,hd];omega
 have eN:(ay cur I us).length=cur.length:=mQ (by omega)
 refine pH (by rw [mQ (by omega),eN];omega) (by rw [List.length_append,List.length_append,vT,qa,hu];omega) fun j hj=>?_
 rw [Nat.zero_add,bH _ _ _ _ (by omega),bH _ _ _ _ (by omega),hu,qa]
 by_cases c1:j < I
 ·rw [if_pos (by omega),if_pos (by omega),List.append_assoc,List.getElem?_append_left (by omega),List.getElem?_take,if_pos c1,ly j c1]
 ·by_cases c2:j < I+K
  ·rw [if_pos (by omega),if_neg (by omega),if_pos (by omega),List.append_assoc,List.getElem?_append_right (by omega),vT,List.getElem?_append_left (by omega)]
  ·rw [if_neg (by omega),if_pos (by omega),List.append_assoc,List.getElem?_append_right (by omega),vT,List.getElem?_append_right (by omega),hu]
   congr 1
   omega
def re (T:bD) (t:TypeId) (args:List Value) (h:Heap):Option (Value × Heap) :=
 match T.desc t,args with
 |some (.slice e),[.slice base n c,.int .i64 iz,.slice (some ⟨B,o2,none⟩) 1 c2] =>
  if iz=(n:Int) then il T t (.slice base n c) (.slice (some ⟨B,o2,none⟩) 1 c2) h else
  match T.info e,base,h.get B with
  |some (k,bytes,_),some ⟨A,o,none⟩,some (.row _ eB false) =>
   match h.get A with
   |some (.row _ eA false) =>
    if (0≤iz∧iz < n∧A≠B∧eA=e∧eB=e∧e≠PI∧0 < k∧G≤c∧c / G=k)∧(n+1)*bytes≤140737488355328∧n+1≤1152921504606846976 then
     (gL A o (n*k) h).bind fun en=>(gL B o2 k h).bind fun news =>
     if news.all one=true∧en.all one=true then some (.slice (some ⟨h.size,0,none⟩) (n+1) (G*k+(n+1)),(h.set A .dead).push (.row (en.take (iz.toNat*k)++news++en.drop (iz.toNat*k)) e false)) else none
    else none
   |_=>none
  |_,_,_=>none
 |_,_=>none
theorem zlv {T:bD} {t:TypeId} {args:List Value} {h h':Heap} {v:Value} (ak:re T t args h=some (v,h')):bl h h':=by
 unfold re at ak
 split at ak
 ·split at ak
  ·exact zgm ak
  ·split at ak
   ·split at ak
    ·rename_i hg
     split at ak
     ·simp only [Option.bind_eq_some_iff] at ak
      obtain ⟨en,_,news,_,ak⟩:=ak
      split at ak
      ·cases ak
       exact (bl.set _ (Heap.bz hg)).trans (bl.push _ _)
      ·cases ak
     ·cases ak
    ·cases ak
   ·cases ak
 ·cases ak
theorem Zo {w:World} {b o:Nat} {cur:Array Value} {e:TypeId} {fz:Nat × Nat} {m:List Value} {n:Nat} (gG:w.heap[b]? = some (.cells cur e fz)) (hc:cut cur.toList o n=some m):w.rangeAt b o m:=by
 obtain ⟨h1,h2,h3⟩:=q8 hc
 intro j v hj
 have Wa:j < n:=by rw [← h2];exact (List.getElem?_eq_some_iff.1 hj).1
 rw [cell_of_row w b _ cur e fz gG,← Array.getElem?_toList,← h3 j Wa]
 exact hj
theorem zr4 {w:World} {b o q:Nat} {m:List Value} (h:w.rangeAt b o m):w.rangeAt b (o+q) (m.drop q):=by
 intro j v hj
 rw [List.getElem?_drop] at hj
 rw [Nat.add_assoc]
 exact h _ v hj
theorem Y4 {w W:World} {b o:Nat} {m:List Value} (h:w.rangeAt b o m) (hb:W.heap[b]? = w.heap[b]?):W.rangeAt b o m:=by
 intro j v hj
 have:=h j v hj
 unfold World.cell? at this ⊢
 rw [hb]
 exact this
set_option maxHeartbeats 0 in
theorem zrZ {T:bD} (hT:T.Fits P) {f Xs t tn tb e:TypeId} {k bytes:Nat} {z:List Value} (hd:T.desc t=some (.slice e)) (fS:T.info e=some (k,bytes,z)) (hint:P.underlying tn=some (.int .i64))
 (dO:∀ aF w,(callFunc f aF).run P w=.ok (.enter f aF) w)
 (Ww:∀ (x y:Value) (w:World),(Extern.SlicesOverlaps.overlaps #[t,t] #[tb] #[x,y]).run P w=.ok (.bool false) w→(callFunc Xs #[x,y]).run P w=.ok (.value (.bool false)) w)
 (Vi:∀ (a:Option Addr) (n c:Nat) (av:Option Addr) (cv:Nat) (w w':World) (r:Value),n≤c→(∀ ty,(Builtin.append_ #[t,t] ty #[.slice a n c,.slice av 1 cv]).run P w=.ok r w') →
  Calls P f #[.slice a n c,.int .i64 n,.slice av 1 cv] w fun e W=>e=.returned r∧W=w')
 (I0:∀ (b off n c i:Nat) (av:Option Addr) (cv:Nat) (w w1 w2:World) (x1 x2:Value),i < n→n+1≤c→c≤9223372036854775807 →
  (∀ lb cb,(callFunc Xs #[.slice av 1 cv,.slice (some ⟨b,off+(i+1)*k,none⟩) lb cb]).run P w=.ok (.value (.bool false)) w) →
  (∀ ty dc sc,(Builtin.copy_ #[t,t] ty #[.slice (some ⟨b,off+(i+1)*k,none⟩) (n - i) dc,.slice (some ⟨b,off+i*k,none⟩) (n+1 - i) sc]).run P w.drew=.ok x1 w1) →
  (∀ ty dc,(Builtin.copy_ #[t,t] ty #[.slice (some ⟨b,off+i*k,none⟩) (n+1 - i) dc,.slice av 1 cv]).run P w1=.ok x2 w2) →
  Calls P f #[.slice (some ⟨b,off,none⟩) n c,.int .i64 i,.slice av 1 cv] w fun e W=>e=.returned (.slice (some ⟨b,off,none⟩) (n+1) c)∧W=w2)
 (IW:∀ (b off n c i nb g:Nat) (av:Option Addr) (cv:Nat) (w w1 w2 w3:World) (x1 x2:Value),i < n→n≤c→c < n+1→n+1≤g→g≤9223372036854775807 →
  (∀ ty,(Builtin.append_ #[t,tn] ty #[.slice (some ⟨b,off,none⟩) i c,.int .i64 ((n:Int)+1 - (i:Int))]).run P w=.ok (.slice (some ⟨nb,0,none⟩) (n+1) g) w1) →
  (∀ ty dc,(Builtin.copy_ #[t,t] ty #[.slice (some ⟨nb,i*k,none⟩) (n+1 - i) dc,.slice av 1 cv]).run P w1=.ok x1 w2) →
  (∀ ty dc sc,(Builtin.copy_ #[t,t] ty #[.slice (some ⟨nb,(i+1)*k,none⟩) (n - i) dc,.slice (some ⟨b,off+i*k,none⟩) (n - i) sc]).run P w2.drew=.ok x2 w3) →
  Calls P f #[.slice (some ⟨b,off,none⟩) n c,.int .i64 i,.slice av 1 cv] w fun e W=>e=.returned (.slice (some ⟨nb,0,none⟩) (n+1) g)∧W=w3):B0 P gs f (re T t):=by
 intro args h v h' ak
 refine ⟨zlv ak,fun ρ w aF _ hs bQ hv=>.inr ⟨dO aF w,?_⟩⟩
 unfold re at ak
 split at ak
 rotate_left
 ·cases ak
 rename_i _ e' base n c iz B o2 c2 mc
 rw [hd] at mc
 cases mc
 obtain ⟨x,m0,e0,hx,hv⟩:=hv.of_cons
 obtain ⟨y,m1,e1,hy,hv⟩:=hv.of_cons
 obtain ⟨u,m2,e2,hu,hv⟩:=hv.of_cons
 have e3:=hv.of_nil
 subst e3 e2 e1
 have oE:aF=#[x,y,u]:=by rw [← Array.toList_inj];exact e0
 subst oE
 cases hy
 have ht:P.underlying t=some (.slice e):=hT.desc _ _ hd
 obtain ⟨inf,zv,hi,hk,w5,hz,Xa,uP,qU⟩:=hT.info e k bytes z fS
 have WU:=hu
 -- the new Fs list
 have Xf:∃ L cv,ρ B=some L∧u=.slice (some ⟨L.b,L.s+o2,none⟩) 1 cv:=by
  cases hu with
  |slice hA hc sI eI=>exact ⟨_,_,hA,by rw [eI (by omega)]⟩
  |ck hA hc cR sI hk hm eI=>exact ⟨_,_,hA,by rw [(eI (by omega)).1]⟩
 obtain ⟨LB,cv,hB,rfl⟩:=Xf
 by_cases me:iz=(n:Int)
 ·subst me
  rw [if_pos rfl] at ak
  have key:∃ a' c',x=.slice a' n c'∧n≤c':=by
   cases hx with
   |cY=>exact ⟨_,_,rfl,Nat.le_refl _⟩
   |slice hA hc hn eI=>exact ⟨_,_,rfl,hn⟩
   |ck hA hc cR hn hk hm eI=>exact ⟨_,_,rfl,by omega⟩
  obtain ⟨a',c',rfl,sI⟩:=key
  obtain ⟨ρ',vc,w',dG,cN,dp,vV⟩:=zgn (ty:=0) (u:=t) hT hs bQ (.inl ⟨e,ht⟩) hx WU ak
  refine (Vi a' n c' _ cv w w' vc sI (fun ty=>?_)).mono ?_
  ·exact dG
  ·rintro ed W ⟨rfl,rfl⟩
   exact ⟨ρ',vc,rfl,cN,dp,vV⟩
 rw [if_neg me] at ak
 split at ak
 rotate_left
 ·cases ak
 rename_i k' Ti z' A o csB eB AG AF
 rw [fS] at AG
 cases AG
 split at ak
 rotate_left
 ·cases ak
 rename_i csA eA C7
 split at ak
 rotate_left
 ·cases ak
 rename_i oG
 obtain ⟨⟨qe,aH,hAB,heA,heB,VD,ur,hG,lL⟩,C4,h60⟩:=oG
 rw [heA] at C7
 rw [heB] at AF
 clear heA heB
 simp only [Option.bind_eq_some_iff] at ak
 obtain ⟨en,hold,news,jz,ak⟩:=ak
 split at ak
 rotate_left
 ·cases ak
 rename_i bw
 cases ak
 obtain ⟨i,rfl⟩:=Int.eq_ofNat_of_zero_le qe
 simp only [Int.toNat_natCast] at bQ ⊢
 have qf:i < n:=by omega
 cases hx with
 |slice hA hc hn eI=>omega
 |ck hA hc cR hn fp AL eI =>
 rename_i c' L ad
 obtain ⟨rfl,ja⟩:=eI (by omega)
 rw [lL] at ja
 have vN:=hs.jX A L hA
 rw [C7] at vN
 obtain ⟨cur,fz,gG,nC,nD,mA,hmA,hvA⟩:=vN
 have hbB:=hs.jX B LB hB
 rw [AF] at hbB
 obtain ⟨Iw,fzB,qK,J7,adf,mB,hmB,hvB⟩:=hbB
 have IY:LB.b≠L.b:=by
  intro kS
  rcases hs.inj A B L LB hA hB hAB kS.symm with g|g|⟨g,_⟩
  ·exact g ⟨_,C7,by simp⟩
  ·exact g ⟨_,AF,by simp⟩
  ·obtain ⟨_,_,g2⟩:=g
   rw [C7] at g2
   cases g2
 -- what is read
 have Al:∀ {cs m:List Value} {cur:Array Value} {s q p:Nat} {l:List Value},cut cur.toList s cs.length=some m→cu ρ cs m→cut cs q p=some l→∃ d,cut cur.toList (s+q) p=some d∧cu ρ l d:=by
  intro cs m cur s q p l h1 h2 h3
  obtain ⟨d,iE,sK⟩:=h2.cut h3
  obtain ⟨k1,k2,k3⟩:=q8 h1
  obtain ⟨d1,d2,d3⟩:=q8 iE
  refine ⟨d,pH (by omega) d2 (fun j hj=>?_),sK⟩
  rw [d3 j (by omega),k3 (q+j) (by omega),Nat.add_assoc]
 simp only [gL,C7] at hold
 simp only [gL,AF] at jz
 obtain ⟨d,iE,sK⟩:=Al hmA hvA hold
 obtain ⟨us,jE,lN⟩:=Al hmB hvB jz
 obtain ⟨a1,a2,a3⟩:=q8 iE
 obtain ⟨b1,b2,b3⟩:=q8 jE
 have Kv:∀ v∈us,v.oneCell'=true:=lN.one bw.1
 have Xq:∀ v∈d,v.oneCell'=true:=sK.one bw.2
 have e1:(i+1)*k=i*k+k:=Nat.succ_mul i k
 have e2:(n+1)*k=n*k+k:=Nat.succ_mul n k
 have e3:(n - i)*k=n*k - i*k:=Nat.sub_mul n i k
 have hIN:i*k≤n*k:=Nat.mul_le_mul_right _ (Nat.le_of_lt qf)
 have ny:ρ h.size=none:=bQ _ (Nat.le_refl _) (by rw [Heap.size_push,Heap.size_set];omega)
 have iF:=zP (k:=k) (q:=n+1) ur (by unfold G;omega)
 have acY:∀ cv,Builtin.lenOf (.slice (some ⟨LB.b,LB.s+o2,none⟩) 1 cv)=pure 1:=fun _=>rfl
 have AM:(en.take (i*k)++news++en.drop (i*k)).length=n*k+k:=by
  have q1:en.length=n*k:=by rw [sK.1,a2]
  have q2:news.length=k:=by rw [lN.1,b2]
  rw [List.length_append,List.length_append,List.length_take,List.length_drop]
  omega
 have A6:cu ρ (en.take (i*k)++news++en.drop (i*k)) (d.take (i*k)++us++d.drop (i*k)):=((sK.take _).append lN).append (sK.drop _)
 have AZ:∀ W:World,W.heap[LB.b]? = w.heap[LB.b]? → ∀ cv,(Builtin.firstCells inf.size 1 (.slice (some ⟨LB.b,LB.s+o2,none⟩) 1 cv)).run P W=.ok us.toArray W:=fun W hW cv =>
  Og (Y4 (Zo qK jE) hW) (by rw [b2,hk,Nat.one_mul])
 have AY:∀ W:World,W.heap[L.b]? = w.heap[L.b]? → ∀ nn sc,(Builtin.firstCells inf.size (n - i) (.slice (some ⟨L.b,L.s+o+i*k,none⟩) nn sc)).run P W=.ok (d.drop (i*k)).toArray W:=fun W hW nn sc =>
  Og (Y4 (zr4 (Zo gG iE)) hW) (by rw [List.length_drop,a2,hk,e3])
 have Ax:cur.toList.length=cur.size:=Array.length_toList
 have hmul:∀ q,q≤c'→q*k≤c'*k:=fun q hq=>Nat.mul_le_mul_right _ hq
 have qa:(d.drop (i*k)).length=n*k - i*k:=by rw [List.length_drop,a2]
 have AB:∀ v∈d.drop (i*k),v.oneCell'=true:=fun v hv=>Xq v (List.mem_of_mem_drop hv)
 by_cases gC:n+1≤c'
 ·have Js:=hmul _ gC
  rw [e2] at Js
  -- in place
  have nY:∀ lb cb,(callFunc Xs #[.slice (some ⟨LB.b,LB.s+o2,none⟩) 1 cv,.slice (some ⟨L.b,L.s+o+(i+1)*k,none⟩) lb cb]).run P w=.ok (.value (.bool false)) w:=fun lb cb=>by
   refine Ww _ _ w (Lib.run_overlaps_apart w t tb e ht k (fun w=>by simp [sizeOf,typeInfo,hi,hk]) ⟨LB.b,LB.s+o2,none⟩ ⟨L.b,L.s+o+(i+1)*k,none⟩ 1 cv lb cb IY e e Iw.size cur.size ?_ ?_ ?_ ?_ ?_)
   ·simp only [World.shape?,qK]
   ·simp only [World.shape?,gG]
   ·have:0 < c'*k:=Nat.mul_pos (by omega) ur
    omega
   ·have:=J7.in' (LB.s+o2) (by have:=Array.length_toList (xs:=Iw);omega)
    simp only [World.frozen?,qK,Bool.and_eq_false_iff,decide_eq_false_iff_not]
    omega
   ·have:=J7.Tq.resolve_left VD
    simp only [World.frozen?,qK,Bool.and_eq_false_iff,decide_eq_false_iff_not]
    omega
  have w6:w.drew.heap[L.b]? = some (.cells cur e fz):=gG
  have r1:=fun ty dc sc=>On (w:=w.drew) (t:=t) (u:=t) (ty:=ty) (o:=L.s+o+(i+1)*k) (n:=n - i) (c:=dc) (m:=n+1 - i) (q:=n - i) (s':=.slice (some ⟨L.b,L.s+o+i*k,none⟩) (n+1 - i) sc) ht hi rfl (by omega) (AY w.drew rfl _ _) w6 nC (by rw [qa,e1];omega) AB
  have qJ:=setRow_heap w.drew L.b cur (ay cur.toList (L.s+o+(i+1)*k) (d.drop (i*k))).toArray e fz w6
  have mg:(ay cur.toList (L.s+o+(i+1)*k) (d.drop (i*k))).toArray.size=cur.size:=by
   rw [List.size_toArray,mQ (by rw [qa,e1];omega),Ax]
  have r2:=fun ty dc=>On (w:=w.drew.setRow L.b (ay cur.toList (L.s+o+(i+1)*k) (d.drop (i*k))).toArray) (t:=t) (u:=t) (ty:=ty) (o:=L.s+o+i*k) (n:=n+1 - i) (c:=dc) (m:=1) (q:=1) (s':=.slice (some ⟨LB.b,LB.s+o2,none⟩) 1 cv) ht hi rfl (by omega)
   (AZ _ (setRow_other w.drew L.b LB.b _ IY) cv) qJ (by rw [mg];exact nC) (by rw [mg];omega) Kv
  refine (I0 L.b (L.s+o) n c' i _ cv w _ _ _ _ qf gC (by unfold maxLen at AL;omega) nY r1 r2).mono ?_
  rintro ed W ⟨rfl,rfl⟩
  have CQ:=setRow_heap _ L.b _ (ay (ay cur.toList (L.s+o+(i+1)*k) (d.drop (i*k))).toArray.toList (L.s+o+i*k) us).toArray e fz qJ
  have lh:cut (ay (ay cur.toList (L.s+o+(i+1)*k) (d.drop (i*k))).toArray.toList (L.s+o+i*k) us).toArray.toList (L.s+o) (en.take (i*k)++news++en.drop (i*k)).length=some (d.take (i*k)++us++d.drop (i*k)):=by
   rw [AM,e1,← Nat.add_assoc]
   exact zB9 iE b2 hIN (by omega)
  have xC:(ay (ay cur.toList (L.s+o+(i+1)*k) (d.drop (i*k))).toArray.toList (L.s+o+i*k) us).toArray.size=cur.size:=by
   show (ay (ay cur.toList (L.s+o+(i+1)*k) (d.drop (i*k))) (L.s+o+i*k) us).length=cur.size
   rw [mQ (by rw [mQ (by rw [qa,e1];omega)];omega),mQ (by rw [qa,e1];omega),Ax]
  obtain ⟨ρ',hρ,cN,dp⟩:=zuK (w:=w) (off:=L.s+o) hs ny hA C7 (by rw [xC];exact nC) (by rw [xC];exact nD) CQ
   (fun b hb=>by rw [setRow_other _ _ _ _ hb,setRow_other _ _ _ _ hb];rfl) (by simp [World.setRow,World.drew,-World.drew_eq]) rfl rfl rfl lh A6
  refine ⟨ρ',_,rfl,cN,dp,.ck hρ iF.1 (by rw [iF.2.1];exact gC) (by rw [iF.2.1];exact Nat.le_refl _) (by rw [iF.2.2];exact ur) AL (fun _=>⟨rfl,?_⟩)⟩
  rw [iF.2.2]
  exact ja
 ·-- a new row
  have Ay:c'=n:=by omega
  subst Ay
  obtain ⟨g,hg⟩:∃ g,g=grownCap w (c'+1) c' e:=⟨_,rfl⟩
  have lr:=grownCap_ge w (c'+1) c' e
  have hle:=grownCap_le_maxLen w (c'+1) c' e (by unfold maxLen;omega)
  have JQ:(Builtin.firstCells inf.size i (.slice (some ⟨L.b,L.s+o,none⟩) i c')).run P w.drew=.ok (d.take (i*k)).toArray w.drew :=
   Og (Y4 (zhK (Zo gG iE)) rfl) (by rw [List.length_take,a2,hk];omega)
  have ld:=fun ty=>Lib.run_append_grow_zeros w t tn ty e inf zv .i64 .i64 ht hint hi hz (some ⟨L.b,L.s+o,none⟩) i c' (d.take (i*k)) JQ (c'+1 - i) (by omega) (by omega) (by omega) (by omega)
   (by rw [w5]
       have:(c'+1 - i)*bytes≤(c'+1)*bytes:=Nat.mul_le_mul_right _ (by omega)
       omega) (by rw [w5,show i+(c'+1 - i)=c'+1 by omega];exact growslice_fits (by omega) C4)
  rw [show i+(c'+1 - i)=c'+1 by omega,← hg] at ld
  rw [show ((c'+1 - i:Nat):Int)=(c':Int)+1 - (i:Int) by omega] at ld
  rw [← hg] at lr hle
  obtain ⟨iR,CK⟩:∃ iR:Array Value,iR=(d.take (i*k)).toArray++Builtin.zeroCells zv.cells (c'+1 - i)++Builtin.zeroCells zv.cells (g - (c'+1)):=⟨_,rfl⟩
  rw [← CK] at ld
  have A8:zv.cells.size=k:=by rw [← Array.length_toList,Xa,uP]
  have vT:(d.take (i*k)).length=i*k:=by rw [List.length_take,a2];omega
  have e4:(c'+1 - i)*k=c'*k+k - i*k:=by rw [Nat.sub_mul,e2]
  have e5:(g - (c'+1))*k=g*k - (c'*k+k):=by rw [Nat.sub_mul,e2]
  have hgk:c'*k+k≤g*k:=by rw [← e2];exact Nat.mul_le_mul_right _ lr
  have I6:iR.size=g*k:=by
   rw [CK]
   simp only [Array.size_append,List.size_toArray,size_zeroCells,A8,vT,e4,e5]
   omega
  have Fu:iR.toList.length=g*k:=by rw [Array.length_toList,I6]
  have hRp:∀ j,j < i*k→iR.toList[j]? = d[j]? := by
   intro j hj
   rw [CK,Array.toList_append,Array.toList_append,List.append_assoc,List.getElem?_append_left (by rw [List.toList_toArray,vT];exact hj),List.toList_toArray,List.getElem?_take,if_pos hj]
  have aO:L.b≠w.heap.size:=by have:=hs.lt hA;omega
  have alm:LB.b≠w.heap.size:=by have:=hs.lt hB;omega
  have w6:(w.drew.alloc (.cells iR e)).heap[w.heap.size]? = some (.cells iR e (0,0)):=by simp [World.alloc,World.drew,-World.alloc_eq,-World.drew_eq]
  have uE:∀ j,j < w.heap.size→(w.drew.alloc (.cells iR e)).heap[j]? = w.heap[j]? := fun j hj=>by
   have:j≠w.heap.size:=by omega
   simp [World.alloc,World.drew,-World.alloc_eq,-World.drew_eq,Array.getElem?_push,this]
  have J6:lV e iR.size (0,0):=.zero _ _
  have r1:=fun ty dc=>On (w:=w.drew.alloc (.cells iR e)) (t:=t) (u:=t) (ty:=ty) (o:=i*k) (n:=c'+1 - i) (c:=dc) (m:=1) (q:=1) (s':=.slice (some ⟨LB.b,LB.s+o2,none⟩) 1 cv) ht hi rfl (by omega)
   (AZ _ (uE _ (hs.lt hB)) cv) w6 J6 (by rw [b2,I6];omega) Kv
  have mg:(ay iR.toList (i*k) us).toArray.size=iR.size:=by
   show (ay iR.toList (i*k) us).length=iR.size
   rw [mQ (by rw [b2,Fu];omega),Fu,I6]
  have qJ:=setRow_heap _ w.heap.size iR (ay iR.toList (i*k) us).toArray e (0,0) w6
  have r2:=fun ty dc sc=>On (w:=((w.drew.alloc (.cells iR e)).setRow w.heap.size (ay iR.toList (i*k) us).toArray).drew) (t:=t) (u:=t) (ty:=ty) (o:=(i+1)*k) (n:=c' - i) (c:=dc) (m:=c' - i) (q:=c' - i) (s':=.slice (some ⟨L.b,L.s+o+i*k,none⟩) (c' - i) sc) ht hi rfl (by omega)
   (AY _ (by show ((w.drew.alloc (.cells iR e)).setRow w.heap.size (ay iR.toList (i*k) us).toArray).heap[L.b]? = _
             rw [setRow_other _ _ _ _ aO];exact uE _ (hs.lt hA)) _ _) qJ (by rw [mg];exact J6) (by rw [qa,e1,mg,I6];omega) AB
  refine (IW L.b (L.s+o) c' c' i w.heap.size g _ cv w _ _ _ _ _ qf (Nat.le_refl _) (by omega) lr (by unfold maxLen at hle;omega) ld r1 r2).mono ?_
  rintro ed W ⟨rfl,rfl⟩
  have CQ:=setRow_heap _ w.heap.size _ (ay (ay iR.toList (i*k) us).toArray.toList ((i+1)*k) (d.drop (i*k))).toArray e (0,0) (show (((w.drew.alloc (.cells iR e)).setRow w.heap.size (ay iR.toList (i*k) us).toArray).drew).heap[w.heap.size]? = _ from qJ)
  have xC:(ay (ay iR.toList (i*k) us).toArray.toList ((i+1)*k) (d.drop (i*k))).toArray.size=g*k:=by
   show (ay (ay iR.toList (i*k) us) ((i+1)*k) (d.drop (i*k))).length=g*k
   rw [mQ (by rw [mQ (by rw [b2,Fu];omega),Fu,qa,e1];omega),mQ (by rw [b2,Fu];omega),Fu]
  have lh:cut (ay (ay iR.toList (i*k) us).toArray.toList ((i+1)*k) (d.drop (i*k))).toArray.toList 0 (en.take (i*k)++news++en.drop (i*k)).length=some (d.take (i*k)++us++d.drop (i*k)):=by
   rw [AM,e1]
   exact zCa a2 hRp b2 hIN (by rw [Array.length_toList,I6];omega)
  obtain ⟨Ft,Eb⟩:=zkl hs C7
  obtain ⟨ρ',hρ,cN,dp⟩:=OH (L:=⟨w.heap.size,0,g*k⟩) (b:=.row (en.take (i*k)++news++en.drop (i*k)) e false) Eb ny (W:=(((w.drew.alloc (.cells iR e)).setRow w.heap.size (ay iR.toList (i*k) us).toArray).drew).setRow w.heap.size (ay (ay iR.toList (i*k) us).toArray.toList ((i+1)*k) (d.drop (i*k))).toArray)
   (fun j hj=>by
    rw [setRow_other _ _ _ _ (by omega)]
    show ((w.drew.alloc (.cells iR e)).setRow w.heap.size (ay iR.toList (i*k) us).toArray).heap[j]? = _
    rw [setRow_other _ _ _ _ (by omega)]
    exact uE _ hj)
   (by simp [World.setRow,World.drew,World.alloc,-World.alloc_eq,-World.drew_eq]) (by simp [World.setRow,World.drew,World.alloc,-World.alloc_eq,-World.drew_eq]) (by simp [World.setRow,World.drew,World.alloc,-World.alloc_eq,-World.drew_eq]) (by simp [World.setRow,World.drew,World.alloc,-World.alloc_eq,-World.drew_eq])
   (Nat.le_refl _) (fun ρ' Jx=>⟨_,(0,0),CQ,.zero _ _,xC,_,lh,A6.mono Jx⟩)
  refine ⟨ρ',_,rfl,Ft.trans cN,dp,.ck hρ iF.1 (by rw [iF.2.1];exact lr) (by rw [iF.2.1];exact Nat.le_refl _) (by rw [iF.2.2];exact ur) hle (fun _=>⟨by simp,?_⟩)⟩
  rw [iF.2.2]
  simp
end
end Go.Am
