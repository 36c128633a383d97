/- The code of some functions, node by node, for simp. Written by a program (mkcode.py). No condition. -/
import Derived.Test.YtkgojconmeeegaaGreatDoorG23
set_option linter.unusedSimpArgs false
set_option linter.unusedVariables false
set_option maxRecDepth 100000
set_option maxHeartbeats 0
noncomputable section
namespace Go.Proofs.YtkgojconmeeegaaGreatDoor
open Go.Am Tryz
def N4:=bp f4
def x4:=PLift.up (by have c:=bq N4 f4;simp only [aI,f4,seval] at c;exact nd c <| nd @sR <| nd @kx <| nd @iF <| nd @el <| nd @bP <| nd @eC <| nd @ky <| nd @fS <| nd @Al <| @fi4)
theorem c4:type_of% x4.down:=x4.down
def N21:=bp f21
def QD:=PLift.up (by have c:=bq N21 f21;simp only [aI,f21,seval] at c;exact nd c <| nd @xr <| nd @al4 <| nd @VL <| nd @td <| nd @bP <| nd @lR <| @fS)
theorem wz:type_of% QD.down:=QD.down
def N51:=bp f51
def x51:=PLift.up (by have c:=bq N51 f51;simp only [aI,f51,seval] at c;exact nd c <| nd @zEH <| @WT)
theorem SZ:type_of% x51.down:=x51.down
def N82:=bp f82
def x82:=PLift.up (by have c:=bq N82 f82;simp only [aI,f82,seval] at c;exact nd c <| nd @xr <| nd @zG2 <| nd @bP <| nd @Z0 <| nd @Xj <| @XD)
theorem Br:type_of% x82.down:=x82.down
def N81:=bp f81
def x81:=PLift.up (by have c:=bq N81 f81;simp only [aI,f81,seval] at c;exact nd c <| @Xi)
theorem c81:type_of% x81.down:=x81.down
def KH:=bp f136
def Pv:=PLift.up (by have c:=bq KH f136;simp only [aI,f136,seval] at c;exact nd c <| nd @xr <| nd @iF <| nd @bP <| nd @lR <| nd @fS <| nd @zFm <| @zGQ)
theorem th:type_of% Pv.down:=Pv.down
def N83:=bp f83
def x83:=PLift.up (by have c:=bq N83 f83;simp only [aI,f83,seval] at c;exact nd c <| nd @bP <| @Xk)
theorem c83:type_of% x83.down:=x83.down
def N22:=bp f22
def x22:=PLift.up (by have c:=bq N22 f22;simp only [aI,f22,seval] at c;exact nd c <| nd @bP <| @Wt)
theorem c22:type_of% x22.down:=x22.down
theorem zAg (p g:ak) (h:Heap) (K:aG)
 (hk:∀ h' w b,Ext h h'->(ec [] p g=none->b=false)->(∀ m,ec [] p g=some m->b=true/\Sl aJ.bind h' w m)->K (.tuple #[w,.bool b]) h'):Ok prog aA ov 83 [p.val,g.val] h K:=by
 rw [ao h]
 have z:=Ext.refl h
 refine Ok.aq 9 (bm N83) ?_
 repeat' (simp only [aa,seval,c83,fA,↓dW,dO,da])
 refine zD7 [] _ p g _ Sl.nil (by simp) _ (λh' w b x hn hs=>?_)
 (replace z:=z.aj x;rw [ao h'])
 have dn:∀ (h:Heap) (K:aG),aD (some w) h K=K w h:=λ_ _=>rfl
 cases b
 all_goals
  repeat' (simp only [aa,seval,c83,dn])
  exact hk _ _ _ z.au hn (λm hm=>⟨(hs m hm).1,(hs m hm).2.lay _ _⟩)
theorem zAK (a:ak):a.val.cells.size=11:=rfl
theorem zzU (a:ak):a.cells.length=11:=rfl
theorem ztt (a:ak):a.cells.all Am.one=true:=rfl
end Go.Proofs.YtkgojconmeeegaaGreatDoor
namespace Go.Am
variable {h h0 h1:Heap} {s xs ys:aW} {v:ae} {u:TypeId} {x y:ak}
theorem b8.over {a h2:Heap} {l:List bh} {w:Nat} (i:b8 a h1) (x:Ext (h1.lay l w) h2):b8 a h2:=(i.trans (b8.lay _ _ _)).trans x.inc
theorem Uw (f:kM h1 h u v s) (i:h0.size<=h1.size):kM h0 h u v s:=by
 rcases f with f|⟨A,e1,e2,e3,e4⟩
 .exact .inl f
 .exact .inr ⟨A,e1,e2,by omega,e4⟩
theorem zjQ {h':Heap} (f:kM h0 h u v s) (i:b8 h h'):kM h0 h' u v s:=by
 rcases f with ⟨e,f⟩|⟨A,e1,e2,e3,e4⟩
 .exact .inl ⟨e,f.mono i⟩
 .exact .inr ⟨A,e1,e2.mono i,e3,e4⟩
theorem UZ {Z:Type} {r:aJ Z} {e A:Nat} {l:List Z} (f:Ow r h1 h e A v l) (i:h0.size<=h1.size):Ow r h0 h e A v l:=by
 rcases f with ⟨f1,f2,f3⟩|⟨row,e1,e2,e3,e4⟩
 .refine .inl ⟨by omega,f2,f3.imp id ?_⟩
  rintro ⟨B,o,g1,g2,g3⟩
  exact ⟨B,o,g1,by omega,g3⟩
 .exact .inr ⟨row,e1,e2,by omega,e4⟩
def nR:aW->aW->aW
 | [],ys=>ys
 |x::xs,[]=>x::xs
 |x::xs,y::ys=>if aT x y < 0 then x::nR xs (y::ys) else if 0 < aT x y then y::nR (x::xs) ys else nR (x::xs) ys
termination_by l m=>l.length+m.length
theorem zd9 (ys:aW):nR [] ys=ys:=by unfold nR;rfl
theorem zdq (xs:aW):nR xs []=xs:=by
 cases xs with
 |nil=>unfold nR;rfl
 |cons x xs=>unfold nR;rfl
theorem zjF (h:aT x y < 0):nR (x::xs) (y::ys)=x::nR xs (y::ys):=by
 rw [nR,aE h]
theorem zjE (h:0 < aT x y):nR (x::xs) (y::ys)=y::nR (x::xs) ys:=by
 rw [nR,az (by omega),aE h]
theorem zjD (h:aT x y=0):nR (x::xs) (y::ys)=nR (x::xs) ys:=by
 rw [nR,az (by omega),az (by omega)]
theorem Ji:∀ (n:Nat) (xs ys:aW),xs.length+ys.length<=n->eh xs->eh ys->∀ z,z∈nR xs ys↔z∈xs\/(z∈ys/\∀ x∈xs,aT x z≠0)
 |n,[],ys,_,_,_,z=>by rw [zd9];simp
 |n,x::xs,[],_,_,_,z=>by rw [zdq];simp
 |0,x::xs,y::ys,hn,_,_,z=>by simp at hn
 |n+1,x::xs,y::ys,hn,hx,hy,z=>by
  have gx:=ub.1 hx
  have gy:=ub.1 hy
  simp only [de] at hn
  by_cases h1:aT x y < 0
  .rw [zjF h1,dG,Ji n xs (y::ys) (by simp only [de];omega) gx.2 hy z]
   constructor
   .rintro (rfl|h|⟨h,h2⟩)
    .exact .inl (lj ..)
    .exact .inl (gJ _ h)
    .refine .inr ⟨h,λw hw=>?_⟩
     rcases dG.1 hw with rfl|hw
     .have:aT w z < 0:=by
       rcases dG.1 h with rfl|h
       .exact h1
       .exact CC h1 (gy.1 z h)
      omega
     .exact h2 w hw
   .rintro (h|⟨h,h2⟩)
    .rcases dG.1 h with rfl|h
     .exact .inl rfl
     .exact .inr (.inl h)
    .exact .inr (.inr ⟨h,λw hw=>h2 w (gJ _ hw)⟩)
  .by_cases h2:0 < aT x y
   .rw [zjE h2,dG,Ji n (x::xs) ys (by simp only [de];omega) hx gy.2 z]
    have yW:aT y x < 0:=by
     have:=wS x y
     omega
    constructor
    .rintro (rfl|h|⟨h,h3⟩)
     .refine .inr ⟨lj ..,λw hw=>?_⟩
      have:aT z w < 0:=by
       rcases dG.1 hw with rfl|hw
       .exact yW
       .exact CC yW (gx.1 w hw)
      have:=wS w z
      omega
     .exact .inl h
     .exact .inr ⟨gJ _ h,h3⟩
    .rintro (h|⟨h,h3⟩)
     .exact .inr (.inl h)
     .rcases dG.1 h with rfl|h
      .exact .inl rfl
      .exact .inr (.inr ⟨h,h3⟩)
   .have h3:aT x y=0:=by omega
    rw [zjD h3,Ji n (x::xs) ys (by simp only [de];omega) hx gy.2 z]
    constructor
    .rintro (h|⟨h,h4⟩)
     .exact .inl h
     .exact .inr ⟨gJ _ h,h4⟩
    .rintro (h|⟨h,h4⟩)
     .exact .inl h
     .rcases dG.1 h with rfl|h
      .exact absurd h3 (h4 x (lj ..))
      .exact .inr ⟨h,h4⟩
theorem Uh:∀ (n:Nat) (xs ys:aW),xs.length+ys.length<=n->eh xs->eh ys->eh (nR xs ys)
 |n,[],ys,_,_,hy=>by rw [zd9];exact hy
 |n,x::xs,[],_,hx,_=>by rw [zdq];exact hx
 |0,x::xs,y::ys,hn,_,_=>by simp at hn
 |n+1,x::xs,y::ys,hn,hx,hy=>by
  have gx:=ub.1 hx
  have gy:=ub.1 hy
  simp only [de] at hn
  by_cases h1:aT x y < 0
  .rw [zjF h1]
   refine ub.2 ⟨λz hz=>?_,Uh n xs (y::ys) (by simp only [de];omega) gx.2 hy⟩
   rcases (Ji _ xs (y::ys) (bo _) gx.2 hy z).1 hz with h|⟨h,_⟩
   .exact gx.1 z h
   .rcases dG.1 h with rfl|h
    .exact h1
    .exact CC h1 (gy.1 z h)
  .by_cases h2:0 < aT x y
   .rw [zjE h2]
    have yW:aT y x < 0:=by
     have:=wS x y
     omega
    refine ub.2 ⟨λz hz=>?_,Uh n (x::xs) ys (by simp only [de];omega) hx gy.2⟩
    rcases (Ji _ (x::xs) ys (bo _) hx gy.2 z).1 hz with h|⟨h,_⟩
    .rcases dG.1 h with rfl|h
     .exact yW
     .exact CC yW (gx.1 z h)
    .exact gy.1 z h
   .rw [zjD (by omega)]
    exact Uh n (x::xs) ys (by simp only [de];omega) hx gy.2
theorem zqg {l1 l2 s1 s2:aW} (f:bw l1 s1) (g:bw l2 s2):bw (l1++l2) (nR s1 s2):=by
 have hm:=Ji _ s1 s2 (bo _) f.iU g.iU
 refine ⟨Uh _ s1 s2 (bo _) f.iU g.iU,λy hy=>?_,λx hx=>?_⟩
 .rw [zL,List.head?_append]
  rcases (hm y).1 hy with h|⟨h,h2⟩
  .rw [f.first y h]
   rfl
  .have e:l1.filter (λx=>cF x == cF y)=[]:=by
    rw [RH]
    intro x hx dj
    have dj:cF x=cF y:=by simpa using dj
    obtain ⟨w,hw,e⟩:=f.wC x hx
    exact h2 w hw (bW.2 (e.trans dj))
   rw [e,g.first y h]
   rfl
 .rcases oV.1 hx with hx|hx
  .obtain ⟨y,hy,e⟩:=f.wC x hx
   exact ⟨y,(hm y).2 (.inl hy),e⟩
  .obtain ⟨y,hy,e⟩:=g.wC x hx
   by_cases h:∃ w∈s1,aT w y=0
   .obtain ⟨w,hw,e2⟩:=h
    exact ⟨w,(hm w).2 (.inl hw),(bW.1 e2).trans e⟩
   .exact ⟨y,(hm y).2 (.inr ⟨hy,λw hw e2=>h ⟨w,hw,e2⟩⟩),e⟩
theorem zyH (l1 l2:aW):nR (eG l1) (eG l2)=eG (l1++l2):=(zqg (qK l1) (qK l2)).is
theorem zyI {l:aW} (h:l.length < 2):eG l=l:=by
 refine UA ?_
 match l,h with
 | [],_=>exact List.Pairwise.nil
 | [x],_=>exact List.pairwise_singleton ..
theorem zBT {T:bL} {t:TypeId} {bytes:Nat} {z:List ae} (hd:T.desc t=some (.slice u)) (hi:T.info u=some (11,bytes,z)) (hu:u≠SC) (vq:bytes<=1000) {w:ae} {a:ak} {lw:Nat}
 (hz:h0.size<=h1.size) (ho:eo h0 h1 u w s) (hn:s.length<=10000) :
 ∃ w' H',iP T t w (.slice (some ⟨h1.size+0,0,none⟩) 1 1) (h1.lay [.row a.cells u false] lw)=some (w',H')/\eo h0 H' u w' (s++[a])/\∃ A,h0.size<=A/\fB A (h1.lay [.row a.cells u false] lw) H':=by
 obtain ⟨w',H',e,o,c⟩:=zxt (a:=a) (i:=s.length) (lw:=lw) hd hi hu vq hz ho hn (bo _)
 have lM:s.take s.length++a::s.drop s.length=s++[a]:=by rw [AQ,List.drop_length]
 rw [lM] at o
 refine ⟨w',H',?_,o,c⟩
 rcases ho with ⟨rfl,Ge⟩|⟨A,tl,rfl,hq,hA,hle⟩
 .rcases Ge.no with rfl|⟨B,o,rfl⟩
  .simpa [rQ,hd] using e
  .simpa [rQ,hd] using e
 .unfold rQ at e
  simp only [hd] at e
  rw [aE trivial] at e
  exact e
theorem zyJ (l:aW) (a:ak):eG (eG l++[a])=cD a (eG l):=by rw [zlT,UA (qK l).iU]
theorem zw2 (s:aW) (a:ak):s.filter (λx => !bH [a] x)=fG a s:=by
 unfold fG
 congr 1
 funext x
 show (!(cF a == cF x || false)) = !(cF x == cF a)
 rw [Bool.or_false,BEq.comm]
end Go.Am
namespace Go.Am
variable {l:List gD}
def zA (l:List gD) (a:ak):aW:=match l.find? (λr=>r.atom == a) with
 |some r=>r.body
 |none=>[]
structure uh (l:List gD) (goals out:aW):Prop where
 iU:eh out
 plain:xm out
 tC:∀ g∈goals,g∈out
 closed:∀ x∈out,∀ b∈zA l x,b∈out
 least:∀ S:ak->Prop,(∀ g∈goals,S g)->(∀ x,S x->∀ b∈zA l x,S b)->∀ x∈out,S x
theorem uh.none {o:aW} (f:uh l [] o):o=[]:=by
 cases o with
 |nil=>rfl
 |cons x o=>exact (f.least (λ_=>False) (λg hg=>by cases hg) (λ_ h=>h.elim) x (lj ..)).elim
def CV (l:List gD):aW:=l.flatMap (·.body)
theorem zud {a b:ak} (h:b∈zA l a):b∈CV l:=by
 unfold zA at h
 split at h
 .rename_i r hr
  exact J1.2 ⟨r,List.mem_of_find?_eq_some hr,h⟩
 .cases h
structure SR (l:List gD) (goals out todo:aW):Prop where
 iU:eh out
 plain:xm out
 tC:∀ g∈goals,g∈out
 closed:∀ x∈out,x∈todo\/∀ b∈zA l x,b∈out
 D5:∀ x∈todo,x∈out
 least:∀ S:ak->Prop,(∀ g∈goals,S g)->(∀ x,S x->∀ b∈zA l x,S b)->∀ x∈out,S x
structure kL (l:List gD) (goals out todo:aW) (x:ak) (j:Nat):Prop where
 iU:eh out
 plain:xm out
 tC:∀ g∈goals,g∈out
 closed:∀ y∈out,y∈todo\/y=x\/∀ b∈zA l y,b∈out
 D5:∀ y∈todo,y∈out
 here:x∈out
 done:∀ b∈(zA l x).take j,b∈out
 least:∀ S:ak->Prop,(∀ g∈goals,S g)->(∀ x,S x->∀ b∈zA l x,S b)->∀ x∈out,S x
theorem kL.add {goals out todo:aW} {x a:ak} {j:Nat} (f:kL l goals out todo x j) (ha:(zA l x)[j]? = some a) (hp:iv a):kL l goals (cD a out) (todo++[a]) x (j+1):=by
 have jd:∀ y,y∈cD a out↔y∈out\/y=a:=λy=>by
  rw [HD f.iU]
  constructor
  .rintro (h|⟨rfl,_⟩)
   .exact .inl h
   .exact .inr rfl
  .rintro (h|rfl)
   .exact .inl h
   .by_cases hy:y∈out
    .exact .inl hy
    .refine .inr ⟨rfl,λz hz e=>hy ?_⟩
     rw [(zyw hp (f.plain z hz)).1 e]
     exact hz
 have b9:a∈zA l x:=ig ha
 refine ⟨UE f.iU,λy hy=>?_,λg hg=>(jd g).2 (.inl (f.tC g hg)),λy hy=>?_,λy hy=>?_,(jd x).2 (.inl f.here),λb hb=>?_,λS h1 h2 y hy=>?_⟩
 .rcases (jd y).1 hy with h|rfl
  .exact f.plain y h
  .exact hp
 .rcases (jd y).1 hy with h|rfl
  .rcases f.closed y h with h|h|h
   .exact .inl (List.mem_append_left _ h)
   .exact .inr (.inl h)
   .exact .inr (.inr (λb hb=>(jd b).2 (.inl (h b hb))))
  .exact .inl (UO _ (lj ..))
 .rcases oV.1 hy with h|h
  .exact (jd y).2 (.inl (f.D5 y h))
  .have:y=a:=by simpa using h
   exact (jd y).2 (.inr this)
 .rw [nT,ha] at hb
  rcases oV.1 hb with hb|hb
  .exact (jd b).2 (.inl (f.done b hb))
  .have:b=a:=by simpa using hb
   exact (jd b).2 (.inr this)
 .rcases (jd y).1 hy with h|rfl
  .exact f.least S h1 h2 y h
  .exact h2 x (f.least S h1 h2 x f.here) y b9
theorem kL.len {goals out todo:aW} {x:ak} {j:Nat} (f:kL l goals out todo x j) (hp:xm (goals++CV l)):out.length<=goals.length+(CV l).length:=by
 have h1:∀ y∈out,y∈goals++CV l:=f.least (·∈goals++CV l) (λg hg=>List.mem_append_left _ hg) (λy _ b hb=>UO _ (zud hb))
 have h2:∀ y,y∈out->y∈eG (goals++CV l):=λy hy=>(zxH hp).2 (h1 y hy)
 have h3:=zk (goals++CV l)
 have h4:out.length<=(eG (goals++CV l)).length:=by
  have e:out=(eG (goals++CV l)).filter (λx=>decide (x∈out)):=zwy f.iU (zt9 _ (qK _).iU) (λy=>by
   rw [J5,decide_eq_true_iff]
   exact ⟨λhy=>⟨h2 y hy,hy⟩,λhy=>hy.2⟩)
  rw [e]
  exact AO _ _
 rw [cW] at h3
 omega
end Go.Am
namespace Go.Am
section
variable {P:Program} {T:bL} {ov:Ov} {rd:Option Nat}
theorem zl3 {A:Nat} {env:Env} {ps:List Tmp} {assign body:Code} {args:List ae} {h:Heap} {K:aG} (hg:h.get A=some (.loop env ps assign body .ready none)) (hl:args.length=ps.length)
 (hw:W P T ov (some A) assign (iI env ps args) h λx e1 h1=>x=.normal/\h1.get A=some (.loop env ps assign body .ready none) /\
  W P T ov (some A) body e1 (h1.set A (.loop env ps assign body .busy none)) λx _ h2=>h2.get A=some (.loop env ps assign body .busy none)/\match x with
    | .normal=>K (.bool true) (h2.set A (.loop env ps assign body .ready none))
    | .exit id=>K (.bool false) (h2.set A (.loop env ps assign body .done (some (.exit id))))
    | .ret=>K (.bool false) (h2.set A (.loop env ps assign body .done (some .ret)))) :
 pw P T ov args h K (.func (.yield A) #[] #[]):=by
 refine ⟨rfl,AY.round hg hl ?_⟩
 obtain ⟨x,e1,h1,hx,hq⟩:=W.one _ _ _ _ hw
 obtain ⟨rfl,DI,hb⟩:=hx
 refine hq _ ⟨rfl,env,ps,assign,body,none,DI,?_⟩
 obtain ⟨x,e2,h2,hx,hq⟩:=W.one _ _ _ _ hb
 refine hq _ ?_
 obtain ⟨qy,hk⟩:=hx
 unfold CD
 rw [qy]
 cases x <;> exact hk
theorem zlP {ps:List Tmp} {assign body:Code} {e:Env} {h:Heap} {Q:Ex->Env->Heap->Prop} {f:FuncId} {ca:List ae} (hb:RU T f=true)
 (dU:Ok P T ov f (.func (.yield h.size) ⟨[]⟩ ⟨[]⟩::ca) (h.push (.loop e ps assign body .ready none)) λ_ h2=>∃ st pd,h2.get h.size=some (.loop e ps assign body st pd) /\
  ((st=.ready/\pd=none/\Q .normal e (h2.set h.size (.loop e ps assign body .exhausted none)))\/(∃ id,st=.done/\pd=some (.exit id)/\Q (.exit id) e (h2.set h.size (.loop e ps assign body .exhausted (some (.exit id))))) \/
    (st=.done/\pd=some .ret/\Q .ret e (h2.set h.size (.loop e ps assign body .exhausted (some .ret)))))) :
 C1 P T ov none (.func (.func f) ⟨[]⟩ ⟨ca⟩) ps assign body e h Q:=by
 refine ⟨by simp [UD,hb],?_⟩
 obtain ⟨n,v,h',h1,st,pd,h2,h3⟩:=dU
 refine ⟨n,v,h',h1,?_⟩
 show Kg (Et h.size e h') Q
 unfold Et
 rw [h2]
 rcases h3 with ⟨rfl,rfl,h3⟩|⟨id,rfl,rfl,h3⟩|⟨rfl,rfl,h3⟩
 .exact h3
 .exact h3
 .exact h3
end
end Go.Am
namespace Go.Am
def fP {κ:Type} (kv:κ->ae) (h:Heap) (A:Nat) (met:List κ):Prop:=∃ es clock,∃ ks:List κ,Holds h A (.map es clock)/\es.map (λx:MapEntry=>x.key)=ks.map kv/\(∀ a,a∈ks↔a∈met)/\∀ x∈es,x.val=.agg ⟨[]⟩
section
variable {κ:Type} {kv:κ->ae} {T:bL} {t kt et:TypeId} {A:Nat} {met:List κ} {a:κ} {h1:Heap} {bs:List bh} {w:Nat} {K:aG} {z:ae}
theorem zju [DecidableEq κ] (heq:∀ x y:κ,fH T 20 kt (kv x) (kv y)=some (decide (x=y))):∀ (es:List MapEntry) (ks:List κ) (i:Nat),es.map (λx:MapEntry=>x.key)=ks.map kv ->
 (a ∉ ks->qO T kt (kv a) es i=some none)/\(a∈ks->∃ (j:Nat) (e:MapEntry),qO T kt (kv a) es i=some (some (i+j,e.val))/\es[j]? = some e/\e.key=kv a)
 | [],ks,i,hk=>by
  cases ks with
  |nil=>exact ⟨λ_=>rfl,λh=>by simp at h⟩
  |cons k ks=>simp at hk
 |e::es,ks,i,hk=>by
  cases ks with
  |nil=>simp at hk
  |cons k ks =>
   simp only [mZ,List.cons.injEq] at hk
   obtain ⟨h1,h2⟩:=zju heq es ks (i+1) hk.2
   unfold qO
   rw [hk.1,heq]
   by_cases hx:a=k
   .subst hx
    refine ⟨λhn=>absurd lj hn,λ_=>⟨0,e,by simp,rfl,hk.1⟩⟩
   .simp only [uW hx,dX,gW,if_false,dG,hx,false_or]
    refine ⟨h1,λha=>?_⟩
    obtain ⟨j,e',g1,g2,g3⟩:=h2 ha
    refine ⟨j+1,e',?_,by simpa using g2,g3⟩
    rw [g1,show i+1+j=i+(j+1) by omega]
    simp
theorem zrC [DecidableEq κ] (hp:∀ x:κ,plain (kv x)=true) (a:κ) (heq:∀ x y:κ,fH T 20 kt (kv x) (kv y)=some (decide (x=y))):wj T kt (kv a)=true:=by
 unfold wj
 rw [hp,heq]
 simp
theorem fP.over (m:fP kv h1 A met) {h2:Heap} (x:Ext (h1.lay bs w) h2):fP kv h2 A met:=by
 obtain ⟨es,cl,ks,m1,m2,m3⟩:=m
 exact ⟨es,cl,ks,m1.over x,m2,m3⟩
theorem fP.new (q:Holds h1 A (.map [] 0)):fP kv h1 A ([]:List κ):=⟨[],0,[],q,rfl,λ_=>Iff.rfl,λ_ hx=>by simp at hx⟩
theorem fP.same {OJ:List κ} (m:fP kv h1 A met) (h:∀ a,a∈met↔a∈OJ):fP kv h1 A OJ:=by
 obtain ⟨es,cl,ks,m1,m2,m3,m4⟩:=m
 exact ⟨es,cl,ks,m1,m2,λa=>(m3 a).trans (h a),m4⟩
theorem zuP [DecidableEq κ] (m:fP kv h1 A met) (hp:∀ x:κ,plain (kv x)=true) (hd:T.desc t=some (.map kt et)) (heq:∀ x y:κ,fH T 20 kt (kv x) (kv y)=some (decide (x=y))) (hz:T.zero et=some (.agg ⟨[]⟩))
 (oZ:a∈met->K (.tuple #[.agg ⟨[]⟩,.bool true]) (h1.lay bs w)) (iJ:a ∉ met->K (.tuple #[.agg ⟨[]⟩,.bool false]) (h1.lay bs w)):aD (CR T t (.map (some A)) (kv a) true (h1.lay bs w)) (h1.lay bs w) K:=by
 obtain ⟨es,cl,ks,m1,m2,m3,m4⟩:=m
 obtain ⟨f1,f2⟩:=zju (a:=a) heq es ks 0 m2
 have hg:(h1.lay bs w).get A=some (.map es cl):=m1.lay bs w
 unfold CR
 simp only [hd,zrC hp a heq,if_true,SJ,hg,dX]
 by_cases ha:a∈ks
 .obtain ⟨j,e,hr,hx,_⟩:=f2 ha
  rw [hr]
  have j9:e.val=.agg ⟨[]⟩:=m4 e (ig hx)
  simp only [j9,dX,jZ,if_true]
  exact oZ ((m3 a).1 ha)
 .rw [f1 ha]
  simp only [hz,dX,jZ,if_true]
  exact iJ (λhh=>ha ((m3 a).2 hh))
theorem zA7 [DecidableEq κ] (m:fP kv h1 A met) (hp:∀ x:κ,plain (kv x)=true) (B8:∀ x:κ,HJ (kv x) (kv x)=true) (hd:T.desc t=some (.map kt et)) (heq:∀ x y:κ,fH T 20 kt (kv x) (kv y)=some (decide (x=y)))
 (hK:∀ h',fP kv h' A (a::met)->fB A (h1.lay bs w) h'->K undef h'):iH (rT T t (.map (some A)) (kv a) (.agg ⟨[]⟩) (h1.lay bs w)) K:=by
 obtain ⟨es,cl,ks,m1,m2,m3,m4⟩:=m
 obtain ⟨f1,f2⟩:=zju (a:=a) heq es ks 0 m2
 have hg:(h1.lay bs w).get A=some (.map es cl):=m1.lay bs w
 have hA:A < (h1.lay bs w).size:=(m1.on bs w).lt
 have hc:∀ b,fB A (h1.lay bs w) ((h1.lay bs w).set A b):=λb=>⟨by rw [Heap.size_set];exact bo _,λB hB ba=>by rw [Heap.aR _ _ _ _ hA,az ba],by rw [Heap.bX];omega⟩
 have hh:∀ b,Holds ((h1.lay bs w).set A b) A b:=λb=>⟨by rw [Heap.size_set];exact hA,by rw [Heap.aR _ _ _ _ hA,aE rfl]⟩
 by_cases ha:a∈ks
 .obtain ⟨j,e,hr,hx,hek⟩:=f2 ha
  have he:rT T t (.map (some A)) (kv a) (.agg ⟨[]⟩) (h1.lay bs w)=some ((h1.lay bs w).set A (.map (es.modify j λe=>{ e with key:=kv a,val:=.agg ⟨[]⟩ }) cl)):=by
   unfold rT
   simp only [hd,hg,zrC hp a heq,if_true,hr,dX,iu,hx,hek,B8]
  rw [he]
  refine hK _ ⟨_,cl,ks,hh _,?_,λb=>?_,λx yV=>?_⟩ (hc _)
  .rw [<- m2]
   refine r8 (λi=>?_)
   simp only [lB,C5]
   by_cases dF:j=i
   .subst dF
    rw [hx]
    simp [hek]
   .cases es[i]? <;> simp [dF]
  .rw [m3,dG]
   exact ⟨.inr,λh=>h.elim (λe=>e ▸ (m3 a).1 ha) id⟩
  .obtain ⟨i,hi⟩:=AP yV
   rw [C5] at hi
   cases BI:es[i]? with
   |none=>rw [BI] at hi;simp at hi
   |some y =>
    rw [BI] at hi
    simp only [Option.map_eq_map,jZ,dY] at hi
    by_cases dF:j=i
    .rw [aE dF] at hi;rw [<- hi]
    .rw [az dF] at hi;rw [<- hi];exact m4 y (ig BI)
 .have he:rT T t (.map (some A)) (kv a) (.agg ⟨[]⟩) (h1.lay bs w)=some ((h1.lay bs w).set A (.map (es++[{ key:=kv a,val:=.agg ⟨[]⟩,born:=cl }]) (cl+1))):=by
   unfold rT
   simp only [hd,hg,zrC hp a heq,if_true,f1 ha,dX]
  rw [he]
  refine hK _ ⟨_,_,ks++[a],hh _,by simp [m2],λb=>?_,λx hx=>?_⟩ (hc _)
  .rw [oV,iq,dG,m3]
   exact Or.comm
  .rcases oV.1 hx with hx|hx
   .exact m4 x hx
   .rw [iq.1 hx]
end
end Go.Am
