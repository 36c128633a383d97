/- The solver: the budget alone decides whether it ends; the rest is the same. No condition. -/
import Derived.Test.YtnkmeidmdaidhaaGreatDoorG46
import Derived.Test.YtnkmeidmdaidhaaGreatDoorG47
set_option linter.unusedSimpArgs false
set_option linter.unusedVariables false
namespace Go.Am
variable {goal:ae} {c:Int}
def bR (b:Int) (d:bg):bg:={ d with aE:=b }
section
variable {b:Int} {d:bg} {facts:aU} {cl:List ay}
theorem zwr (i:Nat) (a:ae):bq (bR b d) i a=(bR b (bq d i a).1,(bq d i a).2):=by
 have e:(bR b d).calls=d.calls:=rfl
 unfold bq
 rw [e]
 cases d.calls[i]? with
 |none=>rfl
 |some c =>
  dsimp only
  split <;> rfl
theorem zuc (r:aV):j7 (bR b d) r=bR b (j7 d r):=by
 have e:(bR b d).known=d.known:=rfl
 unfold j7
 rw [e]
 split <;> rfl
theorem Z3 (i:Nat) (r:aV):gm (bR b d) i r=bR b (gm d i r):=by
 unfold gm
 rw [zwr]
 dsimp only
 split
 .have e:({ bR b (bq d i r.atom).1 with steps:=(bR b d).steps+1 }:bg)=bR b { (bq d i r.atom).1 with steps:=d.steps+1 }:=rfl
  rw [e,zuc]
  rfl
 .rfl
theorem zud (a:ae):dr (bR b d) a=(bR b (dr d a).1,(dr d a).2):=by
 have e:(bR b d).calls=d.calls:=rfl
 unfold dr
 rw [e]
 split
 .rfl
 .split <;> rfl
theorem zmZ (i:Nat):∀ (l:aU) (d:bg),jR (bR b d) i l=bR b (jR d i l)
 | [],d=>rfl
 |f::l,d=>by
  show jR (gm (bR b d) i ⟨f,-1,[]⟩) i l=bR b (jR (gm d i ⟨f,-1,[]⟩) i l)
  rw [Z3,zmZ i l]
theorem Tf (i:Nat) (a:ae):∀ (cs:List ay) (k:Nat) (d:bg),gQ (bR b d) i a k cs=bR b (gQ d i a k cs)
 | [],k,d=>rfl
 |c::cs,k,d=>by
  rw [gQ,gQ]
  cases nZ a c.head with
  |none=>exact Tf i a cs (k+1) d
  |some l=>exact Tf i a cs (k+1) (kT d ⟨i,(k:Int),0,l,ah,0,0⟩)
theorem zkv (a:ae):bp facts cl (bR b d) a=(bR b (bp facts cl d a).1,(bp facts cl d a).2):=by
 unfold bp
 rw [zud]
 dsimp only
 split
 .rw [zmZ,Tf]
 .rfl
theorem zuf (i k:Nat):js (bR b d) i k=bR b (js d i k):=by
 have e:(bR b d).calls=d.calls:=rfl
 unfold js
 rw [e]
 cases d.calls[i]? with
 |none=>rfl
 |some c =>
  dsimp only
  split <;> rfl
theorem zue (k:Nat) (s:eu) (c:ay):en facts cl (bR b d) k s c=bR b (en facts cl d k s c):=by
 unfold en
 split
 .rfl
 .have e:({ bR b d with ab:=(bR b d).ab.set k { s with next:=dA s.l ((c.body[s.taken]?).getD ah) } }:bg)=bR b { d with ab:=d.ab.set k { s with next:=dA s.l ((c.body[s.taken]?).getD ah) } }:=rfl
  dsimp only
  rw [e,zkv]
  dsimp only
  obtain ⟨o,ho⟩:∃ o,o=bp facts cl { d with ab:=d.ab.set k { s with next:=dA s.l ((c.body[s.taken]?).getD ah) } } (dA s.l ((c.body[s.taken]?).getD ah)):=⟨_,rfl⟩
  rw [<- ho]
  exact zuf (d:={ o.1 with ab:=o.1.ab.set k { s with next:=dA s.l ((c.body[s.taken]?).getD ah),src:=o.2 } }) o.2 k
theorem zsb (k:Nat) (s:eu) (a:ae):bJ k s a (bR b d)=bR b (bJ k s a d):=by
 cases h:cz [] s.next a with
 |none=>rw [Me h,Me h];rfl
 |some m=>rw [Mf h,Mf h];rfl
theorem zkw (k:Nat):∀ (l:aU) (d:bg),¬ d.aE < ((fM k l d).steps:Int)->¬ b < ((fM k l d).steps:Int)->fM k l (bR b d)=bR b (fM k l d)
 | [],d,h,hb=>rfl
 |a::l,d,h,hb=>by
  have dh:=(CJ k (a::l) d).2.1
  have ho:¬ d.aE < (d.steps:Int):=by omega
  have BL:¬ (bR b d).aE < ((bR b d).steps:Int):=by show ¬ b < (d.steps:Int);omega
  cases hs:d.ab[k]? with
  |none=>rw [xY hs,xY (d:=bR b d) hs]
  |some s =>
   rw [vP ho hs] at h hb ⊢
   rw [vP BL hs,zsb]
   have hk:=(TK k s a d).2.1
   exact zkw k l (bJ k s a d) (by rw [hk];exact h) hb
theorem znj (facts:aU) (cl:List ay) (d:bg) (k:Nat):d.steps<=(i7 facts cl d k).steps/\(i7 facts cl d k).aE=d.aE:=by
 have hp:∀ s c,d.steps<=(en facts cl d k s c).steps/\(en facts cl d k s c).aE=d.aE:=by
  intro s c
  unfold en
  split
  .exact ⟨aS _,rfl⟩
  .dsimp only
   have ho:=zH facts cl { d with ab:=d.ab.set k { s with next:=dA s.l ((c.body[s.taken]?).getD ah) } } (dA s.l ((c.body[s.taken]?).getD ah))
   have hw:=λ(o:bg) (i:Nat)=>CH o i k
   rw [(hw _ _).2.1,(hw _ _).1]
   exact ⟨ho.2.1,ho.1⟩
 unfold i7
 split
 .split
  .split
   .exact ⟨(zB _ _ _).2.2.2.1,(zB _ _ _).1⟩
   .dsimp only
    split
    .exact ⟨dZ (hp _ _).1 (CJ _ _ _).2.1,(CJ _ _ _).1.trans (hp _ _).2⟩
    .exact hp _ _
  .exact ⟨aS _,rfl⟩
 .exact ⟨aS _,rfl⟩
theorem zyP (k:Nat) (h:¬ d.aE < ((i7 facts cl d k).steps:Int)) (hb:¬ b < ((i7 facts cl d k).steps:Int)):i7 facts cl (bR b d) k=bR b (i7 facts cl d k):=by
 have e:(bR b d).ab=d.ab:=rfl
 unfold i7 at h hb ⊢
 rw [e]
 cases hs:d.ab[k]? with
 |none=>rfl
 |some s =>
  rw [hs] at h hb
  dsimp only at h hb ⊢
  cases hc:cl[s.clause.toNat]? with
  |none=>rfl
  |some c =>
   rw [hc] at h hb
   dsimp only at h hb ⊢
   by_cases ht:s.taken=c.body.length
   .rw [aG ht,aG ht,Z3]
   .rw [aA ht] at h hb ⊢
    rw [aA ht,zue]
    have e2:(bR b (en facts cl d k s c)).ab=(en facts cl d k s c).ab:=rfl
    have e3:(bR b (en facts cl d k s c)).calls=(en facts cl d k s c).calls:=rfl
    have BP:(en facts cl d k s c).aE=d.aE:=by
     unfold en
     split
     .rfl
     .dsimp only
      rw [(CH _ _ k).1]
      exact (zH facts cl _ _).1
    rw [e2,e3]
    cases Xn:(en facts cl d k s c).ab[k]? with
    |none=>rfl
    |some s4 =>
     rw [Xn] at h hb
     dsimp only at h hb ⊢
     exact zkw k _ _ (by rw [BP];exact h) hb
theorem dW.ft {i:Nat} {d d':bg} (r:dW facts cl i d d'):d.steps<=d'.steps/\d'.aE=d.aE:=by
 induction r with
 |over _=>exact ⟨aS _,rfl⟩
 |done _ _=>exact ⟨aS _,rfl⟩
 |@step i k d d' _ _ _ ih =>
  have dh:=znj facts cl d k
  exact ⟨dZ dh.1 ih.1,ih.2.trans dh.2⟩
theorem dW.more {i:Nat} {d d':bg} (r:dW facts cl i d d'):¬ d'.aE < (d'.steps:Int)->¬ b < (d'.steps:Int)->dW facts cl i (bR b d) (bR b d'):=by
 induction r with
 |over ho=>exact λh _=>absurd ho h
 |@done i d hn hl=>exact λh hb=>.done (by show ¬ b < (d.steps:Int);omega) hl
 |@step i k d d' hn hq r ih =>
  intro h hb
  have hm:=r.ft
  have dh:=znj facts cl d k
  have h1:=hm.2
  have h2:=dh.2
  have h3:=hm.1
  have h4:=dh.1
  refine .step (by show ¬ b < (d.steps:Int);omega) hq ?_
  rw [zyP k (by rw [h1,h2] at h;omega) (by omega)]
  exact ih h hb
theorem zvJ (b c:Int) (goal:ae):m9 facts cl c goal=bR c (m9 facts cl b goal):=by
 unfold m9
 have e:nY c=bR c (nY b):=rfl
 rw [e,zkv]
theorem zyi {b:Int} {d':bg} (r:dW facts cl 0 (m9 facts cl b goal) d') (h:¬ d'.aE < (d'.steps:Int)) (hc:¬ c < (d'.steps:Int)):dW facts cl 0 (m9 facts cl c goal) (bR c d'):=by
 rw [zvJ b c goal]
 exact r.more h hc
theorem Tv {b:Int} {d':bg} (r:dW facts cl 0 (m9 facts cl b goal) d'):d'.aE=b:=by
 rw [r.ft.2]
 exact (zH facts cl (nY b) (b8 goal)).1
theorem Ms {b:Int} {d1 d2:bg} (r1:dW facts cl 0 (m9 facts cl b goal) d1) (h1:¬ d1.aE < (d1.steps:Int)) (r2:dW facts cl 0 (m9 facts cl c goal) d2) (hc:(d1.steps:Int)<=c):d2=bR c d1:=r2.Wu (zyi r1 h1 (by omega))
theorem zxj {b:Int} {d1 d2:bg} (r1:dW facts cl 0 (m9 facts cl b goal) d1) (h1:¬ d1.aE < (d1.steps:Int)) (r2:dW facts cl 0 (m9 facts cl c goal) d2) (hc:c < (d1.steps:Int)):d2.aE < (d2.steps:Int):=by
 refine Classical.byContradiction λh2=>?_
 have e1:=Tv r1
 have e2:=Tv r2
 have:=r1.Wu (zyi r2 h2 (by omega))
 have e3:d1.steps=d2.steps:=by rw [this];rfl
 omega
end
end Go.Am
namespace Go.Proofs.YtnkmeidmdaidhaaGreatDoor
open Go.Am Tryz
set_option maxRecDepth 100000
set_option maxHeartbeats 0
theorem zxW (b:Int) (d:bg):(bR b d).steps=d.steps:=rfl
theorem zxV (b:Int) (d:bg):(bR b d).calls=d.calls:=rfl
theorem zrd (n m:Int) (h:Heap) (K:aL) (hm:m<=4611686018427387904) (hk:∀ h',Ext h h'->K (.int .i64 (pN n m)) h'):Ok prog aH ov 17 [.int .i64 n,.int .i64 m] h K:=zzu n m h K hm (hk h (Ext.refl h))
theorem zki (cl:List ay) (facts:aU) (goal:ae) (more:Int) (v u:ai) (h:Heap) (cY:bj 1 h) (hl:Sl aF.clause h v cl) (hf:Sl aF.atom h u facts) (K:aL)
 (hk:∀ h',Ext h h'->K (.bool true) h'):Ok prog aH ov 5 [v,u,goal.val,.int .i64 more] h K:=by
 rw [aq h]
 have z:=Ext.refl h
 refine Ok.aC 101 (bH N5) ?_
 simp only [aa,seval,c5,iB]
 refine Ok.over (g:=Fk 1) rfl (zxA (cY.lay _ _)) ?_
 repeat' (first|simp only [aa,seval,c5]|((with_reducible apply cn);(· rfl)))
 refine zjm cl facts _ _ _ (hl.lay _ _) (hf.lay _ _) _ (λe1 e2 e3 h' x=>?_) (λh' x=>?_)
 rotate_left
 ·(replace z:=z.ao x;rw [aq h'])
  repeat' (first|simp only [aa,seval,c5]|((with_reducible apply cn);(· rfl)))
  exact hk _ z.aw
 have q0:=ak.top (i:=0) x rfl
 (replace z:=z.ao x;rw [aq h'])
 repeat' (first|simp only [aa,seval,c5,q0.lay,↓eH,dJ,dt]|((with_reducible apply cn);(· rfl)))
 refine Uh goal _ _ (λQA h' x=>?_) (λQA h' x=>?_)
 rotate_left
 ·(replace z:=z.ao x;( replace q0:=q0.over x );rw [aq h'])
  repeat' (first|simp only [aa,seval,c5]|((with_reducible apply cn);(· rfl)))
  exact hk _ z.aw
 (replace z:=z.ao x;replace q0:=q0.over x;rw [aq h'])
 repeat' (first|simp only [aa,seval,c5,q0.lay,↓eH,dJ,dt]|((with_reducible apply cn);(· rfl)))
 have vz:∀ (cs:List ai) (h:Heap) (K:aL),aK (some (.agg ⟨cs⟩)) h K=K (.agg ⟨cs⟩) h:=λ_ _ _=>rfl
 refine M6 cl facts goal 300 v u _ ((cY.ext z).lay _ _) ((hl.mono z.inc).lay _ _) ((hf.mono z.inc).lay _ _) (by omega) (λc hc=>by have:=e3 c hc;omega) (by omega) (by omega) _ (λgE h' x=>?_) (λhm hv _ _ d' hr gb h' x=>?_) (λhm hv _ _ d1 pj tG c1 qQ h' w1 w2 x s1 s2=>?_)
 ·(replace z:=z.ao x;( replace q0:=q0.over x );rw [aq h'])
  simp only [aa,seval,c5]
  refine ye (i:=0) rfl i0 rfl rfl rfl rfl ?_
  simp only [aa,seval,c5,eA]
  simp only [aa,seval,c5,CX,vz]
  refine zrh _ _ (λh' x=>?_)
  (replace z:=z.ao x;replace q0:=q0.over x;rw [aq h'])
  repeat' (simp only [aa,seval,c5])
  exact hk _ z.aw
 ·(replace z:=z.ao x;( replace q0:=q0.over x );rw [aq h'])
  simp only [aa,seval,c5]
  refine ye (i:=0) rfl i0 rfl rfl rfl rfl ?_
  simp only [aa,seval,c5,eA]
  simp only [aa,seval,c5,CX,vz]
  refine zrh _ _ (λh' x=>?_)
  (replace z:=z.ao x;replace q0:=q0.over x;rw [aq h'])
  repeat' (simp only [aa,seval,c5])
  exact hk _ z.aw
 have eY:=Tv pj
 have dh:d1.steps<=300:=by omega
 have gx:d1.aE=300:=eY
 obtain ⟨wa,wn,wc,rfl⟩:=ya s1
 obtain ⟨va,vn,vc,rfl⟩:=ya s2
 (replace z:=z.ao x;replace q0:=q0.over x;rw [aq h'])
 have g2:=aP.refl [] h'
 simp only [aa,seval,c5]
 refine ye (i:=0) rfl i0 rfl rfl rfl rfl ?_
 repeat' (simp only [aa,seval,c5,eA,q0.lay,↓eH,dJ,dt,bne_self_eq_false])
 refine M6 cl facts goal (d1.steps:Int) v u _ ((cY.ext z).lay _ _) ((hl.mono z.inc).lay _ _) ((hf.mono z.inc).lay _ _) (by omega) (λc hc=>by have:=e3 c hc;omega) (by omega) (by omega) _ (λgE h' x=>absurd ⟨hm,hv,by omega,by omega⟩ gE) (λ_ _ _ _ d' hr gb h' x=>?_) (λ_ _ _ _ d2 eQ ph c2 oW h' w1 w2 x t1 t2=>?_)
 .exact absurd gb (by rw [Ms pj tG hr (Int.le_refl _)];show ¬ ((d1.steps:Int) < (d1.steps:Int));omega)
 obtain rfl:=Ms pj tG eQ (Int.le_refl _)
 obtain rfl:c1=c2:=Option.some.inj (qQ.symm.trans oW)
 obtain ⟨wa2,wn2,wc2,rfl⟩:=ya t1
 obtain ⟨va2,vn2,vc2,rfl⟩:=ya t2
 have g3:=aP.refl [] h'
 have qx:=ak.top (i:=0) x rfl
 (replace z:=z.ao x;replace q0:=q0.over x;replace g2:=g2.over x;rw [aq h'])
 simp only [aa,seval,c5]
 refine ye (i:=0) rfl i0 rfl rfl rfl rfl ?_
 simp only [aa,seval,c5,eA,zxW,zxV]
 refine r6 (λh' x hq=>?_)
 have qy:=hq 0 _ rfl
 clear hq
 (replace z:=z.ao x;replace q0:=q0.over x;replace g2:=g2.over x;replace qx:=qx.over x;replace g3:=g3.over x;rw [aq h'])
 with_reducible first|refine dO (by simp only [c5]) z.aw ?_
 simp only [aa,seval,c5,q0.lay,qx.lay,↓eH,dJ,dt]
 obtain ⟨q9,vu⟩:=T6 more 1000 (by omega)
 refine zrd more 1000 _ _ (by omega) (λh' x=>?_)
 (((with_reducible refine fC ?_ ?_ ?_);(· exact (by (simp only [fT]);have:=z.size;omega));(· exact x));replace z:=z.ao x;replace q0:=q0.over x;replace g2:=g2.over x;replace qx:=qx.over x;replace g3:=g3.over x;replace qy:=qy.over x;rw [aq h'])
 have pn:IntKind.i64.wrap ((d1.steps:Int)+pN more 1000)=(d1.steps:Int)+pN more 1000:=ez (by omega) (by omega)
 simp only [aa,seval,c5,pn]
 refine M6 cl facts goal ((d1.steps:Int)+pN more 1000) v u _ ((cY.ext z).lay _ _) ((hl.mono z.inc).lay _ _) ((hf.mono z.inc).lay _ _) (by omega) (λc hc=>by have:=e3 c hc;omega) (by omega) (by omega) _ (λgE h' x=>absurd ⟨hm,hv,by omega,by omega⟩ gE) (λ_ _ _ _ d' hr gb h' x=>?_) (λ_ _ _ _ d2 eQ ph c2 oW h' w1 w2 x t3 t4=>?_)
 .exact absurd gb (by rw [Ms pj tG hr (by omega)];show ¬ ((d1.steps:Int)+pN more 1000 < (d1.steps:Int));omega)
 obtain rfl:=Ms pj tG eQ (by omega)
 obtain rfl:c1=c2:=Option.some.inj (qQ.symm.trans oW)
 obtain ⟨wa3,wn3,wc3,rfl⟩:=ya t3
 obtain ⟨va3,vn3,vc3,rfl⟩:=ya t4
 (((with_reducible refine fC ?_ ?_ ?_);(· exact (by (simp only [fT]);have:=z.size;omega));(· exact x));replace z:=z.ao x;replace q0:=q0.over x;replace g2:=g2.over x;replace qx:=qx.over x;replace g3:=g3.over x;replace qy:=qy.over x;rw [aq h'])
 have g4:=aP.refl [] h'
 simp only [aa,seval,c5]
 refine kO (by have:=z.size;omega) (by omega) ?_
 simp only [aa,seval,c5,zxW,zxV]
 refine ye (i:=0) rfl i0 rfl rfl rfl rfl ?_
 simp only [bM,seval,eA]
 refine vJ (by kernel_rfl) (by simp) (by have:=z.size;omega) ?_
 simp only [aa,seval,c5]
 ((with_reducible refine ⟨z.cI.lay _ _,?_⟩);(intro _ h' zz x _);(simp only [bK,bu] at x);replace q0:=q0.over x;replace g2:=g2.over x;replace qx:=qx.over x;replace g3:=g3.over x;replace qy:=qy.over x;replace g4:=g4.over x;(replace z:=zz);(clear zz);rw [aq h'])
 have qz:=ak.top (i:=0) x rfl
 repeat' (simp only [aa,seval,c5,bne_self_eq_false,qx.lay,qy.lay,vz])
 refine znY (j8 c1.answers) _ _ d1.aB _ _ _ _ _ ⟨(s1.mono g2.all).lay _ _,(s2.mono g2.all).lay _ _⟩ ⟨(t1.mono g3.all).lay _ _,(t2.mono g3.all).lay _ _⟩ _ (λh' x=>?_)
 (replace z:=z.ao x;replace q0:=q0.over x;replace g2:=g2.over x;replace qx:=qx.over x;replace g3:=g3.over x;replace qy:=qy.over x;replace g4:=g4.over x;replace qz:=qz.over x;rw [aq h'])
 repeat' (first|simp only [aa,seval,c5,qx.lay,qz.lay,vz]|((with_reducible apply cn);(· rfl)))
 refine znY (j8 c1.answers) _ _ d1.aB _ _ _ _ _ ⟨(s1.mono g2.all).lay _ _,(s2.mono g2.all).lay _ _⟩ ⟨(t3.mono g4.all).lay _ _,(t4.mono g4.all).lay _ _⟩ _ (λh' x=>?_)
 (replace z:=z.ao x;replace q0:=q0.over x;replace g2:=g2.over x;replace qx:=qx.over x;replace g3:=g3.over x;replace qy:=qy.over x;replace g4:=g4.over x;replace qz:=qz.over x;rw [aq h'])
 repeat' (first|simp only [aa,seval,c5]|((with_reducible apply cn);(· rfl)))
 with_reducible first|refine dO (by simp only [c5]) z.aw ?_
 have jL:IntKind.i64.wrap ((d1.steps:Int) - 1)=(d1.steps:Int) - 1:=ez (by omega) (by omega)
 simp only [aa,seval,c5,q0.lay,qx.lay,↓eH,dJ,dt,jL]
 obtain ⟨pk,rb⟩:∃ pk,pk=pN more (d1.steps:Int):=⟨_,rfl⟩
 have hp3:(d1.steps=0/\pk=0)\/(0 < d1.steps/\0<=pk/\pk < (d1.steps:Int)):=by
  by_cases h0:d1.steps=0
  .refine .inl ⟨h0,?_⟩
   rw [rb,h0]
   unfold pN
   rw [aG (by decide)]
  .have:=T6 more (d1.steps:Int) (by omega)
   rw [<- rb] at this
   exact .inr ⟨by omega,this⟩
 refine zrd more (d1.steps:Int) _ _ (by omega) (λh' x=>?_)
 rw [<- rb]
 (((with_reducible refine fC ?_ ?_ ?_);(· exact (by (simp only [fT]);have:=z.size;omega));(· exact x));replace z:=z.ao x;replace q0:=q0.over x;replace g2:=g2.over x;replace qx:=qx.over x;replace g3:=g3.over x;replace qy:=qy.over x;replace g4:=g4.over x;replace qz:=qz.over x;rw [aq h'])
 have HI:IntKind.i64.wrap ((d1.steps:Int) - 1 - pk)=(d1.steps:Int) - 1 - pk:=ez (by omega) (by omega)
 simp only [aa,seval,c5,HI]
 refine M6 cl facts goal ((d1.steps:Int) - 1 - pk) v u _ ((cY.ext z).lay _ _) ((hl.mono z.inc).lay _ _) ((hf.mono z.inc).lay _ _) (by omega) (λc hc=>by have:=e3 c hc;omega) (by omega) (by omega) _ (λgE h' x=>?_) (λ_ _ _ _ d' hr gb h' x=>?_) (λ_ _ _ _ d2 eQ ph c2 oW h' w1 w2 x t5 t6=>?_)
 rotate_left 2
 .exact absurd (zxj pj tG eQ (by omega)) ph
 .have po:d1.steps=0:=by
   refine Classical.byContradiction λaO=>gE ⟨hm,hv,by omega,by omega⟩
  have HN:((d1.steps:Int) == 0)=true:=by rw [po];rfl
  (((with_reducible refine fC ?_ ?_ ?_);(· exact (by (simp only [fT]);have:=z.size;omega));(· exact x));replace z:=z.ao x;replace q0:=q0.over x;replace g2:=g2.over x;replace qx:=qx.over x;replace g3:=g3.over x;replace qy:=qy.over x;replace g4:=g4.over x;replace qz:=qz.over x;rw [aq h'])
  simp only [aa,seval,c5]
  refine kO (by have:=z.size;omega) (by omega) ?_
  simp only [aa,seval,c5]
  refine ye (i:=0) rfl i0 rfl rfl rfl rfl ?_
  simp only [bM,seval,eA]
  refine vJ (by kernel_rfl) (by simp) (by have:=z.size;omega) ?_
  simp only [aa,seval,c5]
  ((with_reducible refine ⟨z.cI.lay _ _,?_⟩);(intro _ h' zz x _);(simp only [bK,bu] at x);replace q0:=q0.over x;replace g2:=g2.over x;replace qx:=qx.over x;replace g3:=g3.over x;replace qy:=qy.over x;replace g4:=g4.over x;replace qz:=qz.over x;(replace z:=zz);(clear zz);rw [aq h'])
  repeat' (simp only [aa,seval,c5,qx.lay,HN])
  all_goals exact hk _ z.aw
 ·(( ((with_reducible refine fC ?_ ?_ ?_);(· exact (by ( simp only [fT] );have:=z.size;omega));(·  exact x )) );replace z:=z.ao x;( replace q0:=q0.over x );( replace g2:=g2.over x );( replace qx:=qx.over x );( replace g3:=g3.over x );( replace qy:=qy.over x );( replace g4:=g4.over x );( replace qz:=qz.over x );rw [aq h'])
  simp only [aa,seval,c5]
  refine kO (by have:=z.size;omega) (by omega) ?_
  simp only [aa,seval,c5]
  refine ye (i:=0) rfl i0 rfl rfl rfl rfl ?_
  simp only [bM,seval,eA]
  refine vJ (by kernel_rfl) (by simp) (by have:=z.size;omega) ?_
  simp only [aa,seval,c5]
  ((with_reducible refine ⟨z.cI.lay _ _,?_⟩);(intro _ h' zz x _);(simp only [bK,bu] at x);replace q0:=q0.over x;replace g2:=g2.over x;replace qx:=qx.over x;replace g3:=g3.over x;replace qy:=qy.over x;replace g4:=g4.over x;replace qz:=qz.over x;(replace z:=zz);(clear zz);rw [aq h'])
  repeat' (simp only [aa,seval,c5])
  all_goals exact hk _ z.aw
end Go.Proofs.YtnkmeidmdaidhaaGreatDoor
