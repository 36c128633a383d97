/- Walks: atoms that may be, their variables, by the program. Written out by fill2.py. No condition. -/
import Derived.Test.YtmamldleclamjaaGreatDoorG23
import Derived.Test.YtmamldleclamjaaGreatDoorG24
set_option linter.unusedSimpArgs false
set_option linter.unusedVariables false
set_option maxRecDepth 100000
set_option maxHeartbeats 0
noncomputable section
namespace Go.Proofs.YtmamldleclamjaaGreatDoor
open Go.Am Tryz
theorem zAx (A o:Nat) (k:Int) (h0:0<=k) (h4:k<=4):jL aG 45 (.pointer (some ⟨A,o,none⟩)) (some (.int .i64 k)) none none=some (.slice (some ⟨A,if 4=k.toNat then o else o+k.toNat*2,none⟩) (4 - k.toNat) (4 - k.toNat)):=by
 have hG:4 < G:=by decide
 simp only [jL,EH,rq,wV,aB hG,dX]
 rw [aB ⟨h0,by omega⟩]
 simp [kC]
theorem PI (a:aj) (k:Nat):(a.all.drop k).length=4 - k:=by rw [jM];rfl
theorem zAg (a:aj) {k i:Nat} (h:k+i < 4):(a.all.drop k)[i]? = some (a.arg (k+i)):=by
 rw [kL]
 have:k+i=0\/k+i=1\/k+i=2\/k+i=3:=by omega
 rcases this with e|e|e|e <;> rw [e] <;> rfl
theorem zCi {H:Heap} {A:Nat} {a:aj} {u:TypeId} {ro:Bool} (q:Holds H A (.row a.cells u ro)) (k:Nat) (hk:k<=4):Sl aK.term H (.slice (some ⟨A,if 4=k then 3 else 3+k*2,none⟩) (4 - k) (4 - k)) (a.all.drop k):=by
 refine .inr ⟨A,_,4 - k,a.cells,u,ro,by rw [PI],by rw [PI];unfold maxLen;omega,.inl ⟨by unfold G;omega,by rw [PI];exact bo _⟩,q.lt,q.get,λi x hx=>?_⟩
 have hi:i < 4 - k:=by have:=(dH.1 hx).1;rw [PI] at this;exact this
 rw [zAg a (by omega)] at hx
 cases hx
 have hc:=zBl a (k+i) (by omega)
 rw [aA (by omega)]
 refine ⟨_,?_,rfl⟩
 show cut a.cells (3+k*2+i*2) 2=_
 rw [<- hc]
 congr 1
 omega
theorem zvQ (a:aj):a.cells[0]? = some (.string a.says):=rfl
theorem zAi (a:aj):a.cells[1]? = some (.string a.pred):=rfl
theorem zvR (a:aj):a.cells[2]? = some (.int .i64 a.n):=rfl
theorem zxa (a:aj) (bv:Bool) (h:Heap) (K:aI) (hk:∀ w l h',Ext h h'->Sl aK.str h' w l->l.length<=4->(∀ x,x∈l↔∃ i:Nat,i < a.bQ/\(a.arg i).v=bv/\(a.arg i).s=x)->K w h'):Ok prog aG ov 96 [a.val,.bool bv] h K:=by
 rw [ao h]
 have z:=Ext.refl h
 have CI:=Tp a
 refine Ok.aw 31 (bu Ud) ?_
 repeat' (simp only [aa,seval,ql,gI,↓eP,ef,dy])
 refine Qf a _ _ (λw h' x sw=>?_)
 (replace z:=z.an x;rw [ao h'])
 have qo:=λ(hh:Heap)=>sw.bn zf hh
 have W5:=wO a
 have rU:=z.size
 simp only [aa,seval,ql,qo]
 obtain ⟨Hb,rfl⟩:∃ Hb,Hb=h':=⟨_,rfl⟩
 obtain ⟨I1,aX⟩:∃ I:Nat->Env->Heap->Prop,I=(λn e h'=>∃ (i:Nat) (wv:ah) (A:Nat) (l:List au) (h1:Heap),h'=h1.lay [] h1.low/\Ext h h1/\(n=a.bQ - i/\i<=a.bQ/\l.length<=i/\(∀ x,x∈l↔∃ j:Nat,j < i/\(a.arg j).v=bv/\(a.arg j).s=x)/\Ow aK.str h h1 9 A wv l/\bH Hb h1/\Hb.size<=A)/\∃ J:Nat->ah,e=(J 0::.bool bv::jr J 2 3 (wv::jr J 6 3 (w::.int .i64 a.args.length::.int .i64 i::jr J 12 21 ([]))))):=⟨_,rfl⟩
 refine du I1 _ (by rw [aX];exact ⟨0,.slice none 0 0,Hb.size,[],_,rfl,z,⟨rfl,by omega,by simp,by simp,Ow.nil (by omega),bH.refl _,bo _⟩,bm⟩) ?_
 intro n e h' aP
 rw [aX] at aP
 obtain ⟨i,wv,A,l,bx,rfl,z,hinv,J,rfl⟩:=aP
 obtain ⟨rfl,hi,s7,bY,ow,ib,zB⟩:=hinv
 have gk:=ei i (by omega)
 simp only [aa,seval,ql]
 refine bq (λaW=>?_) (λaW=>?_)
 rotate_left
 .have he:i=a.bQ:=by omega
  rw [he] at bY
  repeat' (simp only [aa,seval,ql])
  exact hk _ _ _ z.aC ((ow.sl (by decide)).lay _ _) (by omega) bY
 have qS:=Go.Am.args_at (a:=a) (i:=i) (by omega)
 rcases wB:a.arg i with ⟨rv,rs⟩
 rw [wB] at qS
 have hr:a.args[(i:Int).toNat]? = some ⟨rv,rs⟩:=by rw [Qz];exact qS
 have mJ:∀ x,(∃ j:Nat,j < i+1/\(a.arg j).v=bv/\(a.arg j).s=x)↔(∃ j:Nat,j < i/\(a.arg j).v=bv/\(a.arg j).s=x)\/(rv=bv/\rs=x):=by
  intro x
  constructor
  .rintro ⟨j,hj,e⟩
   by_cases Bd:j=i
   .subst Bd
    rw [wB] at e
    exact .inr e
   .exact .inl ⟨j,by omega,e⟩
  .rintro (⟨j,hj,e⟩|e)
   .exact ⟨j,by omega,e⟩
   .exact ⟨i,by omega,by rw [wB];exact e⟩
 repeat' (first|simp only [aa,seval,ql,r5,nC,po,Am.one,tG,nR,BK,aZ.val,aZ.cells]|with_reducible refine QJ (sw.mono ib) zf kC (by omega) hr (λp hp=>?_)|with_reducible refine Ix hp sC kC ?_)
 have lV:(¬ rv=bv\/rs∈l)->∀ x,x∈l↔∃ j:Nat,j < i+1/\(a.arg j).v=bv/\(a.arg j).s=x:=by
  intro hs x
  rw [mJ,<- bY]
  refine ⟨.inl,λe=>e.elim id (λe=>?_)⟩
  rcases hs with hs|hs
  .exact absurd e.1 hs
  .rw [<- e.2];exact hs
 have oY:rv=bv->∀ x,x∈l++[rs]↔∃ j:Nat,j < i+1/\(a.arg j).v=bv/\(a.arg j).s=x:=by
  intro hs x
  rw [mJ,<- bY,iA,fH]
  exact ⟨λe=>e.imp id (λe=>⟨hs,e.symm⟩),λe=>e.imp id (λe=>e.2.symm)⟩
 have b1:(true == false)=false:=rfl
 have b2:(false == true)=false:=rfl
 have b3:(true == true)=true:=rfl
 have b4:(false == false)=true:=rfl
 have uj:=z.size
 cases rv
 all_goals
  cases bv
  all_goals
   repeat' (simp only [aa,seval,ql,zr7,b1,b2])
 all_goals first
  |(rw [gk]
    have yr:=lV (.inl (by decide))
    refine SN z.aC (λH z hO hI=>?_)
    (rw [aX];with_reducible refine cy (m:=_) ?_ ⟨i+1,wv,A,l,_,rfl,z,⟨rfl,by omega,by omega,yr,ow.mono hI,ib.trans hI,zB⟩,bm⟩;omega))
  |skip
 all_goals
  refine IG l wv rs _ ((ow.sl (by decide)).lay _ _) (by omega) _ (λh' x=>?_)
  have q0:=Holds.top (i:=0) x rfl
  (replace z:=z.an x;replace ow:=ow.over x;replace ib:=ib.over x;rw [ao h'])
  cases aP:l.any λx=>decide (rs=x)
  rotate_left
  .have yr:=lV (.inr (by obtain ⟨y,hy,e⟩:=tF.1 aP;rw [of_decide_eq_true e];exact hy))
   repeat' (first|simp only [aa,seval,ql]|((with_reducible apply ct);(· rfl)))
   rw [gk]
   (rw [aX];with_reducible refine cy (m:=_) ?_ ⟨i+1,wv,A,l,_,rfl,z,⟨rfl,by omega,by omega,yr,ow,ib,zB⟩,bm⟩;omega)
  have lW:=oY rfl
  repeat' (first|simp only [aa,seval,ql,q0.lay]|((with_reducible apply ct);(· rfl)))
  simp only [dx,seval,ly,T8]
 all_goals
  refine zvB (i:=0) (cs:=[.string rs]) (x:=rs) cG zV rfl (by decide) (by rfl) z.size ow rfl (by omega) (by omega) (λw3 h3 A3 Zf pD Cz=>?_)
  have Bb:=ow.fresh
  have YP:=bH.ji (ib.trans (bH.lay _ _ _)) pD zB
  have H8:=ib.size
  replace z:=z.aC.step pD (by omega)
  rw [ao h3]
  repeat' (simp only [aa,seval,ql])
  rw [gk]
  clear ow q0
  (rw [aX];with_reducible refine cy (m:=_) ?_ ⟨i+1,w3,A3,l++[rs],_,rfl,z,⟨rfl,by omega,by rw [dI,v8];omega,lW,Zf,YP,by omega⟩,bm⟩;omega)
theorem zsJ (a:aj) (h:Heap) (K:aI) (hk:∀ w l h',Ext h h'->Sl aK.str h' w l->l.length<=4->(∀ x,x∈l↔j0 a x)->K w h'):Ok prog aG ov 123 [a.val] h K:=by
 rw [ao h]
 have z:=Ext.refl h
 refine Ok.aw 4 (bu Ke) ?_
 repeat' (simp only [aa,seval,Ld,gI,↓eP,ef,dy])
 refine zxa a true _ _ (λw l h' x s hl hm=>?_)
 (replace z:=z.an x;rw [ao h'])
 repeat' (simp only [aa,seval,Ld])
 exact hk _ _ _ z.aC (s.lay _ _) hl (λx=>(hm x).trans jI.symm)
def N78:=bB f78
def x78:=PLift.up (by have c:=bD N78 f78;simp only [aL,f78,seval] at c;exact nd c <| nd @zFd <| nd @zFf <| nd @zFh <| @Wc)
theorem Cs:type_of% x78.down:=x78.down
def N79:=bB f79
def x79:=PLift.up (by have c:=bD N79 f79;simp only [aL,f79,seval] at c;exact nd c <| @Wd)
theorem c79:type_of% x79.down:=x79.down
def J6:=bB f115
def Oh:=PLift.up (by have c:=bD J6 f115;simp only [aL,f115,seval] at c;exact nd c <| nd @YX <| nd @Gn <| @zD9)
theorem La:type_of% Oh.down:=Oh.down
def N82:=bB f82
def x82:=PLift.up (by have c:=bD N82 f82;simp only [aL,f82,seval] at c;exact nd c <| nd @Hq <| nd @ni <| @Wg)
theorem c82:type_of% x82.down:=x82.down
def Ko:=bB f132
def OH:=PLift.up (by have c:=bD Ko f132;simp only [aL,f132,seval] at c;exact nd c <| nd @Em <| nd @Jr <| nd @Ht <| nd @QC <| nd @yD <| nd @vB <| nd @nj <| nd @Gp <| nd @gH <| nd @yF <| @zEq)
theorem xk:type_of% OH.down:=OH.down
def JX:=bB f105
def N1:=PLift.up (by have c:=bD JX f105;simp only [aL,f105,seval] at c;exact nd c <| nd @DX <| nd @vV <| nd @Hs <| nd @DK <| nd @eV <| nd @nj <| nd @gH <| @zD1)
theorem ke:type_of% N1.down:=N1.down
def Kp:=bB f133
def OI:=PLift.up (by have c:=bD Kp f133;simp only [aL,f133,seval] at c;exact nd c <| nd @b8 <| @zEr)
theorem Lf:type_of% OI.down:=OI.down
def N71:=bB f71
def x71:=PLift.up (by have c:=bD N71 f71;simp only [aL,f71,seval] at c;exact nd c <| nd @DX <| nd @vV <| nd @eV <| nd @b8 <| nd @gH <| @V6)
theorem tO:type_of% x71.down:=x71.down
def JW:=bB f104
def N0:=PLift.up (by have c:=bD JW f104;simp only [aL,f104,seval] at c;exact nd c <| nd @eV <| nd @b8 <| @zD0)
theorem K9:type_of% N0.down:=N0.down
def N63:=bB f63
def x63:=PLift.up (by have c:=bD N63 f63;simp only [aL,f63,seval] at c;exact nd c <| nd @b8 <| @VY)
theorem c63:type_of% x63.down:=x63.down
end Go.Proofs.YtmamldleclamjaaGreatDoor
namespace Go.Am
def dz {κ:Type} (kv:κ->ah) (h:Heap) (A:Nat) (met:List κ):Prop:=∃ es clock,∃ ks:List κ,Holds h A (.map es clock)/\es.map (λx:MapEntry=>x.key)=ks.map kv/\(∀ a,a∈ks↔a∈met)/\∀ x∈es,x.val=.agg ⟨[]⟩
section
variable {κ:Type} {kv:κ->ah} {T:bO} {t kt et:TypeId} {A:Nat} {met:List κ} {a:κ} {h1:Heap} {bs:List ba} {w:Nat} {K:aI} {z:ah}
theorem zjD [DecidableEq κ] (heq:∀ x y:κ,fK T 20 kt (kv x) (kv y)=some (decide (x=y))):∀ (es:List MapEntry) (ks:List κ) (i:Nat),es.map (λx:MapEntry=>x.key)=ks.map kv ->
 (a ∉ ks->qA T kt (kv a) es i=some none)/\(a∈ks->∃ (j:Nat) (e:MapEntry),qA T kt (kv a) es i=some (some (i+j,e.val))/\es[j]? = some e/\e.key=kv a)
 | [],ks,i,hk=>by
  cases ks with
  |nil=>exact ⟨λ_=>rfl,λh=>by simp at h⟩
  |cons k ks=>simp at hk
 |e::es,ks,i,hk=>by
  cases ks with
  |nil=>simp at hk
  |cons k ks =>
   simp only [lA,List.cons.injEq] at hk
   obtain ⟨h1,h2⟩:=zjD heq es ks (i+1) hk.2
   unfold qA
   rw [hk.1,heq]
   by_cases hx:a=k
   .subst hx
    refine ⟨λhn=>absurd fZ hn,λ_=>⟨0,e,by simp,rfl,hk.1⟩⟩
   .simp only [oL hx,dX,gB,if_false,cJ,hx,false_or]
    refine ⟨h1,λha=>?_⟩
    obtain ⟨j,e',g1,g2,g3⟩:=h2 ha
    refine ⟨j+1,e',?_,by simpa using g2,g3⟩
    rw [g1,show i+1+j=i+(j+1) by omega]
    simp
theorem zqZ [DecidableEq κ] (hp:∀ x:κ,plain (kv x)=true) (a:κ) (heq:∀ x y:κ,fK T 20 kt (kv x) (kv y)=some (decide (x=y))):vZ T kt (kv a)=true:=by
 unfold vZ
 rw [hp,heq]
 simp
theorem dz.over (m:dz kv h1 A met) {h2:Heap} (x:Ext (h1.lay bs w) h2):dz kv h2 A met:=by
 obtain ⟨es,cl,ks,m1,m2,m3⟩:=m
 exact ⟨es,cl,ks,m1.over x,m2,m3⟩
theorem dz.ext (m:dz kv h1 A met) {h2:Heap} (x:Ext h1 h2):dz kv h2 A met:=by
 obtain ⟨es,cl,ks,m1,m2,m3⟩:=m
 exact ⟨es,cl,ks,⟨dJ m1.lt x.size,(x.get A m1.lt).trans m1.get⟩,m2,m3⟩
theorem dz.bK (m:dz kv h1 A met) {B:Nat} {h2:Heap} (c:eX B (h1.lay bs w) h2) (aS:A≠B):dz kv h2 A met:=by
 obtain ⟨es,cl,ks,m1,m2,m3⟩:=m
 exact ⟨es,cl,ks,m1.bK c aS,m2,m3⟩
theorem dz.lay (m:dz kv h1 A met) (bs:List ba) (w:Nat):dz kv (h1.lay bs w) A met:=by
 obtain ⟨es,cl,ks,m1,m2,m3⟩:=m
 exact ⟨es,cl,ks,m1.on bs w,m2,m3⟩
theorem dz.new (q:Holds h1 A (.map [] 0)):dz kv h1 A ([]:List κ):=⟨[],0,[],q,rfl,λ_=>Iff.rfl,λ_ hx=>by simp at hx⟩
theorem dz.lt (m:dz kv h1 A met):A < h1.size:=by
 obtain ⟨es,cl,ks,m1,m2,m3⟩:=m
 exact m1.lt
theorem dz.hold {H:Heap} (m:dz kv h1 A met) (hO:∀ A b,Holds h1 A b->Holds H A b):dz kv H A met:=by
 obtain ⟨es,cl,ks,m1,m2,m3⟩:=m
 exact ⟨es,cl,ks,hO _ _ m1,m2,m3⟩
theorem dz.same {Nx:List κ} (m:dz kv h1 A met) (h:∀ a,a∈met↔a∈Nx):dz kv h1 A Nx:=by
 obtain ⟨es,cl,ks,m1,m2,m3,m4⟩:=m
 exact ⟨es,cl,ks,m1,m2,λa=>(m3 a).trans (h a),m4⟩
theorem zt2 [DecidableEq κ] (m:dz kv h1 A met) (hp:∀ x:κ,plain (kv x)=true) (hd:T.desc t=some (.map kt et)) (heq:∀ x y:κ,fK T 20 kt (kv x) (kv y)=some (decide (x=y))) (hz:T.zero et=some (.agg ⟨[]⟩))
 (sL:a∈met->K (.tuple #[.agg ⟨[]⟩,.bool true]) (h1.lay bs w)) (kS:a ∉ met->K (.tuple #[.agg ⟨[]⟩,.bool false]) (h1.lay bs w)):aH (B0 T t (.map (some A)) (kv a) true (h1.lay bs w)) (h1.lay bs w) K:=by
 obtain ⟨es,cl,ks,m1,m2,m3,m4⟩:=m
 obtain ⟨f1,f2⟩:=zjD (a:=a) heq es ks 0 m2
 have hg:(h1.lay bs w).get A=some (.map es cl):=m1.lay bs w
 unfold B0
 simp only [hd,zqZ hp a heq,if_true,QX,hg,dX]
 by_cases ha:a∈ks
 .obtain ⟨j,e,hr,hx,_⟩:=f2 ha
  rw [hr]
  have j8:e.val=.agg ⟨[]⟩:=m4 e (fW hx)
  simp only [j8,dX,j2,if_true]
  exact sL ((m3 a).1 ha)
 .rw [f1 ha]
  simp only [hz,dX,j2,if_true]
  exact kS (λhh=>ha ((m3 a).2 hh))
theorem zz5 [DecidableEq κ] (m:dz kv h1 A met) (hp:∀ x:κ,plain (kv x)=true) (yr:∀ x:κ,Hg (kv x) (kv x)=true) (hd:T.desc t=some (.map kt et)) (heq:∀ x y:κ,fK T 20 kt (kv x) (kv y)=some (decide (x=y)))
 (hK:∀ h',dz kv h' A (a::met)->eX A (h1.lay bs w) h'->K undef h'):iq (rz T t (.map (some A)) (kv a) (.agg ⟨[]⟩) (h1.lay bs w)) K:=by
 obtain ⟨es,cl,ks,m1,m2,m3,m4⟩:=m
 obtain ⟨f1,f2⟩:=zjD (a:=a) heq es ks 0 m2
 have hg:(h1.lay bs w).get A=some (.map es cl):=m1.lay bs w
 have hA:A < (h1.lay bs w).size:=(m1.on bs w).lt
 have hc:∀ b,eX A (h1.lay bs w) ((h1.lay bs w).set A b):=λb=>⟨by rw [Heap.size_set];exact bo _,λB hB aS=>by rw [Heap.aJ _ _ _ _ hA,aA aS],by rw [Heap.cd];omega⟩
 have hh:∀ b,Holds ((h1.lay bs w).set A b) A b:=λb=>⟨by rw [Heap.size_set];exact hA,by rw [Heap.aJ _ _ _ _ hA,aB rfl]⟩
 by_cases ha:a∈ks
 .obtain ⟨j,e,hr,hx,hek⟩:=f2 ha
  have he:rz T t (.map (some A)) (kv a) (.agg ⟨[]⟩) (h1.lay bs w)=some ((h1.lay bs w).set A (.map (es.modify j λe=>{ e with key:=kv a,val:=.agg ⟨[]⟩ }) cl)):=by
   unfold rz
   simp only [hd,hg,zqZ hp a heq,if_true,hr,dX,j3,hx,hek,yr]
  rw [he]
  refine hK _ ⟨_,cl,ks,hh _,?_,λb=>?_,λx Bv=>?_⟩ (hc _)
  .rw [<- m2]
   refine sq (λi=>?_)
   simp only [lS,Cb]
   by_cases dp:j=i
   .subst dp
    rw [hx]
    simp [hek]
   .cases es[i]? <;> simp [dp]
  .rw [m3,cJ]
   exact ⟨.inr,λh=>h.elim (λe=>e ▸ (m3 a).1 ha) id⟩
  .obtain ⟨i,hi⟩:=sk Bv
   rw [Cb] at hi
   cases pL:es[i]? with
   |none=>rw [pL] at hi;simp at hi
   |some y =>
    rw [pL] at hi
    simp only [Option.map_eq_map,j2,eh] at hi
    by_cases dp:j=i
    .rw [aB dp] at hi;rw [<- hi]
    .rw [aA dp] at hi;rw [<- hi];exact m4 y (fW pL)
 .have he:rz T t (.map (some A)) (kv a) (.agg ⟨[]⟩) (h1.lay bs w)=some ((h1.lay bs w).set A (.map (es++[{ key:=kv a,val:=.agg ⟨[]⟩,born:=cl }]) (cl+1))):=by
   unfold rz
   simp only [hd,hg,zqZ hp a heq,if_true,f1 ha,dX]
  rw [he]
  refine hK _ ⟨_,_,ks++[a],hh _,by simp [m2],λb=>?_,λx hx=>?_⟩ (hc _)
  .rw [iA,fH,cJ,m3]
   exact Or.comm
  .rcases iA.1 hx with hx|hx
   .exact m4 x hx
   .rw [fH.1 hx]
end
end Go.Am
