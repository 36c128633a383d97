/- The code of some functions, node by node, for simp. Written by a program (mkcode.py). No condition. -/
import Derived.Test.YtiapegieocgmfaaGreatDoorG41
set_option linter.unusedSimpArgs false
set_option linter.unusedVariables false
set_option maxRecDepth 100000
set_option maxHeartbeats 0
noncomputable section
namespace Go.Proofs.YtiapegieocgmfaaGreatDoor
open Go.Am Tryz
variable {v:ab} {h:Heap}
def N76:=bA f76
def x76:=PLift.up (by have c:=bB N76 f76;simp only [aN,f76,seval] at c;exact nd c <| nd @HJ <| nd @kF <| nd @mH <| nd @gA <| nd @kG <| @Wh)
theorem Bk:type_of% x76.down:=x76.down
def Km:=bA f128
def OL:=PLift.up (by have c:=bB Km f128;simp only [aN,f128,seval] at c;exact nd c <| nd @JN <| nd @HM <| nd @Rc <| nd @y8 <| nd @vN <| nd @mZ <| nd @gA <| nd @zc <| @zDG)
theorem A9:type_of% OL.down:=OL.down
def N77:=bA f77
def x77:=PLift.up (by have c:=bB N77 f77;simp only [aN,f77,seval] at c;exact nd c <| nd @EY <| nd @JN <| nd @HM <| nd @Rc <| nd @y8 <| nd @vN <| nd @mZ <| nd @GW <| nd @gA <| nd @zc <| @Wi)
theorem zS:type_of% x77.down:=x77.down
def Ko:=bA f129
def OM:=PLift.up (by have c:=bB Ko f129;simp only [aN,f129,seval] at c;exact nd c <| nd @CB <| nd @JQ <| nd @kF <| nd @mH <| nd @dZ <| nd @gA <| nd @kG <| @zDH)
theorem ou:type_of% OM.down:=OM.down
def N78:=bA f78
def x78:=PLift.up (by have c:=bB N78 f78;simp only [aN,f78,seval] at c;exact nd c <| nd @T6 <| nd @CB <| nd @y9 <| nd @B3 <| nd @dZ <| nd @B6 <| nd @gA <| nd @B7 <| @Wj)
theorem uU:type_of% x78.down:=x78.down
def N82:=bA f82
def x82:=PLift.up (by have c:=bB N82 f82;simp only [aN,f82,seval] at c;exact nd c <| nd @zB <| nd @HL <| nd @En <| nd @dZ <| nd @mZ <| nd @cq <| nd @gA <| @Wn)
theorem Fk:type_of% x82.down:=x82.down
def N79:=bA f79
def x79:=PLift.up (by have c:=bB N79 f79;simp only [aN,f79,seval] at c;exact nd c <| nd @j4 <| nd @dZ <| nd @cq <| nd @je <| @Wk)
theorem Bm:type_of% x79.down:=x79.down
def N80:=bA f80
def x80:=PLift.up (by have c:=bB N80 f80;simp only [aN,f80,seval] at c;exact nd c <| nd @En <| nd @CA <| nd @kF <| nd @j4 <| nd @th <| nd @mZ <| nd @rp <| nd @cq <| nd @gA <| nd @kG <| nd @je <| @Wl)
theorem sP:type_of% x80.down:=x80.down
def N46:=bA f46
def x46:=PLift.up (by have c:=bB N46 f46;simp only [aN,f46,seval] at c;exact nd c <| nd @Lj <| nd @Rb <| nd @zz0 <| nd @T7 <| nd @T8 <| nd @zB <| nd @HN <| nd @HO <| nd @T9 <| nd @Q2 <| nd @Ua <| nd @GR <| nd @GS <| nd @B4 <| nd @B5 <| nd @dZ <| nd @mZ <| nd @mI <| nd @cq <| nd @NO <| nd @gA <| nd @B8 <| nd @B9 <| @VQ)
theorem mx:type_of% x46.down:=x46.down
theorem zsU {Z:Type} {r:aM Z} {l:List Z} (f:Sl r h v l):∃ a n c,v=.slice a n c:=by
 rcases f with ⟨rfl,_⟩|⟨A,o,c,row,u,ro,rfl,_⟩ <;> exact ⟨_,_,_,rfl⟩
theorem zr4 (a:Option Addr) (n c:Nat):qp aD 28 [(0,.slice a n c)]=some (fI (.slice a n c) (.slice none 0 0) (.slice none 0 0) (.slice none 0 0) (.slice none 0 0) 0 0):=by kernel_rfl
theorem zyc (a:Option Addr) (n c:Nat):qp aD 28 [(1,.slice a n c)]=some (fI (.slice none 0 0) (.slice a n c) (.slice none 0 0) (.slice none 0 0) (.slice none 0 0) 0 0):=by kernel_rfl
theorem zxz {l:List au} (f:Sl aM.str h v l) (i:Nat) (hi:i<=l.length):∃ a n c,kV aD 22 v none (some (.int .i64 i)) none=some (.slice a n c)/\Sl aM.str h (.slice a n c) (l.take i):=by
 obtain ⟨u1,g1,g2⟩:=f.sub (a:=0) (b:=i) (by decide) dr px (.inl ⟨rfl,rfl⟩) (.inr ⟨.i64,rfl⟩) (by omega) hi
 obtain ⟨a,n,c,rfl⟩:=zsU g2
 exact ⟨a,n,c,g1,by simpa using g2⟩
theorem zzu {l:List da} (f:Sl aM.pred h v l) (i:Nat) (hi:i<=l.length):∃ a n c,kV aD 23 v none (some (.int .i64 i)) none=some (.slice a n c)/\Sl aM.pred h (.slice a n c) (l.take i):=by
 obtain ⟨u1,g1,g2⟩:=f.sub (a:=0) (b:=i) (by decide) kr mL (.inl ⟨rfl,rfl⟩) (.inr ⟨.i64,rfl⟩) (by omega) hi
 obtain ⟨a,n,c,rfl⟩:=zsU g2
 exact ⟨a,n,c,g1,by simpa using g2⟩
theorem zo1 (l:List da) (who:au) (p0 p1 p2 p5 p6:ab) (q b:Int) (h:Heap) (hl:Sl aM.pred h p1 l) (K:aF) (hk:∀ n b h',Ext h h'->K (.tuple #[.int .i64 n,.bool b]) h'):Ok prog aD ov 128 [fI p0 p1 p2 p5 p6 q b,.string who] h K:=by
 rw [ao h]
 have z:=Ext.refl h
 have hle:=hl.le
 have bR:∀ (h:Heap) (K:aF),aC (some p1) h K=K p1 h:=λ_ _=>rfl
 have df:=λ(hh:Heap)=>hl.bo kr hh
 refine Ok.aw 26 (bq Km) ?_
 repeat' (simp only [aa,seval,A9,gZ,ft,bR,df])
 refine na (λh' x hq=>?_)
 have q0:=hq 0 _ rfl
 clear hq
 (replace z:=z.an x;rw [ao h'])
 obtain ⟨A0,el⟩:∃ A0,A0=h.size+0:=⟨_,rfl⟩
 rw [<- el] at q0
 rw [<- el]
 obtain ⟨I1,aU⟩:∃ I:Nat->Env->Heap->Prop,I=(λn e h'=>∃ (i:Nat) (h1:Heap),h'=h1.lay [] h1.low/\Ext h h1/\(n=l.length - i/\i<=l.length/\Holds h1 A0 (.row (du p0 p1 p2 p5 p6 q b) 28 false))/\∃ J:Nat->ab,e=(J 0::.string who::.pointer (some ⟨A0,0,none⟩)::jr J 3 3 (.int .i64 i::jr J 7 21 ([])))):=⟨_,rfl⟩
 refine dA I1 _ (by rw [aU];exact ⟨0,_,rfl,z,⟨rfl,by omega,q0⟩,bl⟩) ?_
 intro n e h' aO
 rw [aU] at aO
 obtain ⟨i,bC,rfl,z,hinv,J,rfl⟩:=aO
 clear q0
 obtain ⟨rfl,hi,q0⟩:=hinv
 have hw:i < l.length->IntKind.i64.wrap ((i:Int)+1)=((i+1:Nat):Int):=λhh=>by unfold maxLen at hle;rw [wrap_i64 (by omega) (by omega)];omega
 simp only [aa,seval,A9,q0.lay,ft,bR,df]
 refine bn (λaT=>?_) (λaT=>?_)
 rotate_left
 .repeat' ( simp only [aa,seval,A9])
  exact hk _ _ _ z.aA
 obtain ⟨r,hr,cw⟩:=eW (l:=l) (i:=i) (by omega)
 repeat' (first|simp only [aa,seval,A9,q0.lay,ft,bR]|((with_reducible apply bn) <;> intro _)|with_reducible refine Q4 (hl.mono z.inc) kr mL (by omega) hr (λp hp=>?_)|with_reducible refine xS hp HM (λq hq=>?_)|with_reducible refine Fq hp Rc (λq hq=>?_)|with_reducible refine gj hq j9 ?_|with_reducible refine gj hq ES ?_)
 .exact hk _ _ _ z.aA
 .rw [hw (by omega)]
  (rw [aU];with_reducible refine cy (m:=_) ?_ ⟨i+1,_,rfl,z,⟨rfl,by omega,q0⟩,bl⟩;omega)
theorem zwX (l:List au) (p0 p1 p2 p5 p6:ab) (q b:Int) (h:Heap) (hl:Sl aM.str h p0 l) (K:aF) (hk:∀ c h',Ext h h'->K (.int .i64 c) h'):Ok prog aD ov 76 [fI p0 p1 p2 p5 p6 q b] h K:=by
 rw [ao h]
 have z:=Ext.refl h
 have bR:∀ (h:Heap) (K:aF),aC (some p0) h K=K p0 h:=λ_ _=>rfl
 have df:=λ(hh:Heap)=>hl.bo dr hh
 refine Ok.aw 38 (bq N76) ?_
 repeat' (first|simp only [aa,seval,Bk,gZ,eM,bR,df]|((with_reducible apply bn) <;> intro _))
 .exact hk _ _ z.aA
 .exact hk _ _ z.aA
 refine na (λh' x hq=>?_)
 have q0:=hq 0 _ rfl
 clear hq
 (replace z:=z.an x;rw [ao h'])
 obtain ⟨A0,el⟩:∃ A0,A0=h.size+0:=⟨_,rfl⟩
 rw [<- el] at q0
 rw [<- el]
 obtain ⟨I1,aU⟩:∃ I:Nat->Env->Heap->Prop,I=(λn e h'=>∃ (i:Nat) (h1:Heap),h'=h1.lay [] h1.low/\Ext h h1/\(n=l.length - i/\i<=l.length/\Holds h1 A0 (.row (du p0 p1 p2 p5 p6 q b) 28 false))/\∃ J:Nat->ab,e=(J 0::.pointer (some ⟨A0,0,none⟩)::J 2::.int .i64 i::jr J 4 35 ([]))):=⟨_,rfl⟩
 refine dA I1 _ (by rw [aU];exact ⟨0,_,rfl,z,⟨rfl,by omega,q0⟩,bl⟩) ?_
 intro n e h' aO
 rw [aU] at aO
 obtain ⟨i,bC,rfl,z,hinv,J,rfl⟩:=aO
 clear q0
 obtain ⟨rfl,hi,q0⟩:=hinv
 have hw:=ei i (by omega)
 simp only [aa,seval,Bk,q0.lay,eM,bR,df]
 refine bn (λaT=>?_) (λaT=>?_)
 rotate_left
 .repeat' ( simp only [aa,seval,Bk])
  exact hk _ _ z.aA
 obtain ⟨r,hr,cw⟩:=eW (l:=l) (i:=i) (by omega)
 obtain ⟨a,m,c,g1,g2⟩:=zxz hl i hi
 have gK:∀ (h:Heap) (K:aF),aC (some (.slice a m c)) h K=K (.slice a m c) h:=λ_ _=>rfl
 repeat' (first|simp only [aa,seval,Bk,q0.lay,eM,bR]|with_reducible refine rK (hl.mono z.inc) dr px (by omega) hr (λp hp=>?_)|with_reducible refine gj hp j9 ?_)
 refine zfp _ _ _ (λhs h' x=>?_) (λh' x=>?_)
 rotate_left
 ·(replace z:=z.an x;( replace q0:=q0.over x );rw [ao h'])
  repeat' (first|simp only [aa,seval,Bk,kW]|((with_reducible apply bX);(· rfl)))
  exact hk _ _ z.aA
 (replace z:=z.an x;replace q0:=q0.over x;rw [ao h'])
 repeat' (first|simp only [aa,seval,Bk,fQ,q0.lay,eM,bR,g1,gK,zr4,eI]|with_reducible refine dL (by simp only [Bk]) z.aA ?_|with_reducible refine rK (hl.mono z.inc) dr px (by omega) hr (λp hp=>?_)|with_reducible refine gj hp j9 ?_|((with_reducible apply bX);(· rfl)))
 refine HF (l.take i) r _ _ _ _ _ _ _ _ ((g2.mono z.inc).lay _ _) _ (λh' x=>?_)
 (((with_reducible refine cU ?_ ?_ ?_);(· exact (by (simp only [ck]);have:=z.size;omega));(· exact x));replace z:=z.an x;replace q0:=q0.over x;rw [ao h'])
 cases hh:iM (l.take i) r
 .repeat' (first|simp only [aa,seval,Bk]|((with_reducible refine ⟨z.cn.lay _ _,?_⟩);(intro _ h' zz x _);( simp only [bM,bu] at x );( replace q0:=q0.over x );(replace z:=zz);(clear zz);rw [ao h']))
  rw [hw]
  (rw [aU];with_reducible refine cy (m:=_) ?_ ⟨i+1,_,rfl,z,⟨rfl,by omega,q0⟩,bl⟩;omega)
 .repeat' (first|simp only [aa,seval,Bk]|((with_reducible refine ⟨z.cn.lay _ _,?_⟩);(intro _ h' zz x _);( simp only [bM,bu] at x );( replace q0:=q0.over x );(replace z:=zz);(clear zz);rw [ao h']))
  exact hk _ _ z.aA
theorem ZE (h:Heap) (l:List ba) (w i o:Nat) (v:ab) (hi:i < l.length):iH aD 62 (.pointer (some ⟨h.size+i,o,none⟩)) v (h.lay l w)=if v.cells.size=2 then tI l[i]? i o v.cells.toList h l w else none:=xk mL h l w i o v hi
theorem zwW (l:List da) (p0 p1 p2 p5 p6:ab) (q b:Int) (h:Heap) (hl:Sl aM.pred h p1 l) (K:aF) (hk:∀ c h',Ext h h'->K (.int .i64 c) h'):Ok prog aD ov 77 [fI p0 p1 p2 p5 p6 q b] h K:=by
 rw [ao h]
 have z:=Ext.refl h
 have bR:∀ (h:Heap) (K:aF),aC (some p1) h K=K p1 h:=λ_ _=>rfl
 have df:=λ(hh:Heap)=>hl.bo kr hh
 refine Ok.aw 46 (bq N77) ?_
 repeat' (first|simp only [aa,seval,zS,gZ,ft,bR,df]|((with_reducible apply bn) <;> intro _))
 .exact hk _ _ z.aA
 refine na (λh' x hq=>?_)
 have q0:=hq 0 _ rfl
 clear hq
 (replace z:=z.an x;rw [ao h'])
 obtain ⟨A0,el⟩:∃ A0,A0=h.size+0:=⟨_,rfl⟩
 rw [<- el] at q0
 rw [<- el]
 obtain ⟨I1,aU⟩:∃ I:Nat->Env->Heap->Prop,I=(λn e h'=>∃ (i:Nat) (h1:Heap),h'=h1.lay [] h1.low/\Ext h h1/\(n=l.length - i/\i<=l.length/\Holds h1 A0 (.row (du p0 p1 p2 p5 p6 q b) 28 false))/\∃ J:Nat->ab,e=(J 0::.pointer (some ⟨A0,0,none⟩)::J 2::.int .i64 i::jr J 4 43 ([]))):=⟨_,rfl⟩
 refine dA I1 _ (by rw [aU];exact ⟨0,_,rfl,z,⟨rfl,by omega,q0⟩,bl⟩) ?_
 intro n e h' aO
 rw [aU] at aO
 obtain ⟨i,bC,rfl,z,hinv,J,rfl⟩:=aO
 clear q0
 obtain ⟨rfl,hi,q0⟩:=hinv
 have hw:=ei i (by omega)
 simp only [aa,seval,zS,q0.lay,ft,bR,df]
 refine bn (λaT=>?_) (λaT=>?_)
 rotate_left
 .repeat' ( simp only [aa,seval,zS])
  exact hk _ _ z.aA
 obtain ⟨r,hr,cw⟩:=eW (l:=l) (i:=i) (by omega)
 obtain ⟨a,m,c,g1,g2⟩:=zzu hl i hi
 have gK:∀ (h:Heap) (K:aF),aC (some (.slice a m c)) h K=K (.slice a m c) h:=λ_ _=>rfl
 repeat' (first|simp only [aa,seval,zS,q0.lay,ft,bR]|with_reducible refine Q4 (hl.mono z.inc) kr mL (by omega) hr (λp hp=>?_)|with_reducible refine GY hp AZ mL ?_)
 repeat' (simp only [aa,seval,zS,QL,sg,nU,oX,Am.one,Bool.and_true,Bool.true_and,sC,oV,JT,DO,kK,st9,vO,Cf,ZE])
 refine zhZ _ _ _ (λhs h' x=>?_) (λh' x=>?_)
 rotate_left
 ·(replace z:=z.an x;( replace q0:=q0.over x );rw [ao h'])
  repeat' (first|simp only [aa,seval,zS,kW]|((with_reducible apply bX);(· rfl)))
  exact hk _ _ z.aA
 have e0:=Holds.top (i:=0) x rfl
 (replace z:=z.an x;replace q0:=q0.over x;rw [ao h'])
 obtain ⟨E0,oD⟩:∃ E0,E0=bC.size+0:=⟨_,rfl⟩
 rw [<- oD] at e0
 rw [<- oD]
 have yg:([.string r.name,.int .i64 r.arity]:List ab)[0]? = some (.string r.name):=rfl
 have vj:([.string r.name,.int .i64 r.arity]:List ab)[1]? = some (.int .i64 r.arity):=rfl
 repeat' (first|simp only [aa,seval,zS,fQ,q0.lay,e0.lay,ft,bR,g1,gK,zyc,eI,yg]|with_reducible refine dL (by simp only [zS]) z.aA ?_|((with_reducible apply bX);(· rfl)))
 refine zo1 (l.take i) r.name _ _ _ _ _ _ _ _ ((g2.mono z.inc).lay _ _) _ (λnn bb h' x=>?_)
 (((with_reducible refine cU ?_ ?_ ?_);(· exact (by (simp only [ck]);have:=z.size;omega));(· exact x));replace z:=z.an x;replace q0:=q0.over x;replace e0:=e0.over x;rw [ao h'])
 cases bb
 .repeat' (first|simp only [aa,seval,zS,e0.lay,vj]|((with_reducible  apply bn ) <;> intro _)|((with_reducible refine ⟨z.cn.lay _ _,?_⟩);(intro _ h' zz x _);( simp only [bM,bu] at x );( replace q0:=q0.over x );( replace e0:=e0.over x );(replace z:=zz);(clear zz);rw [ao h']))
  .exact hk _ _ z.aA
  .exact hk _ _ z.aA
  rw [hw]
  (rw [aU];with_reducible refine cy (m:=_) ?_ ⟨i+1,_,rfl,z,⟨rfl,by omega,q0⟩,bl⟩;omega)
 .repeat' (first|simp only [aa,seval,zS]|((with_reducible refine ⟨z.cn.lay _ _,?_⟩);(intro _ h' zz x _);( simp only [bM,bu] at x );( replace q0:=q0.over x );( replace e0:=e0.over x );(replace z:=zz);(clear zz);rw [ao h']))
  exact hk _ _ z.aA
theorem zt5 (ps:List au) (x0:bz) (v:ab) (p0 p1 p2 p5 p6:ab) (q b:Int) (h:Heap) (bf:(du p0 p1 p2 p5 p6 q b).all Am.one=true) (hl:Sl aM.str h p0 ps) (hv:Sl aM.str h v x0.reads) (K:aF) (hk:∀ c h',Ext h h'->K (.int .i64 c) h'):Ok prog aD ov 129 [fI p0 p1 p2 p5 p6 q b,.agg ⟨[.string x0.who,v]⟩] h K:=by
 rw [ao h]
 have z:=Ext.refl h
 have bR:∀ (h:Heap) (K:aF),aC (some v) h K=K v h:=λ_ _=>rfl
 have df:=λ(hh:Heap)=>hv.bo dr hh
 have yg:([.string x0.who,v]:List ab)[0]? = some (.string x0.who):=rfl
 have vj:([.string x0.who,v]:List ab)[1]? = some v:=rfl
 refine Ok.aw 48 (bq Ko) ?_
 repeat' (first|simp only [aa,seval,ou,gZ,yg,vj,bR,df]|((with_reducible apply bn) <;> intro _))
 .exact hk _ _ z.aA
 .exact hk _ _ z.aA
 refine na (λh' x hq=>?_)
 have q0:=hq 0 _ rfl
 have e0:=hq 1 _ rfl
 clear hq
 (replace z:=z.an x;rw [ao h'])
 obtain ⟨A0,el⟩:∃ A0,A0=h.size+0:=⟨_,rfl⟩
 rw [<- el] at q0
 rw [<- el]
 obtain ⟨E0,oD⟩:∃ E0,E0=h.size+1:=⟨_,rfl⟩
 rw [<- oD] at e0
 rw [<- oD]
 obtain ⟨I1,aU⟩:∃ I:Nat->Env->Heap->Prop,I=(λn e h'=>∃ (i:Nat) (h1:Heap),h'=h1.lay [] h1.low/\Ext h h1/\(n=x0.reads.length - i/\i<=x0.reads.length/\Holds h1 A0 (.row (du p0 p1 p2 p5 p6 q b) 28 false)/\Holds h1 E0 (.row [.string x0.who,v] 64 false))/\∃ J:Nat->ab,e=(jr J 0 2 (.pointer (some ⟨A0,0,none⟩)::.pointer (some ⟨E0,0,none⟩)::J 4::.int .i64 i::jr J 6 44 ([])))):=⟨_,rfl⟩
 refine dA I1 _ (by rw [aU];exact ⟨0,_,rfl,z,⟨rfl,by omega,q0,e0⟩,bl⟩) ?_
 intro n e h' aO
 rw [aU] at aO
 obtain ⟨i,bC,rfl,z,hinv,J,rfl⟩:=aO
 clear q0 e0
 obtain ⟨rfl,hi,q0,e0⟩:=hinv
 have hw:=ei i (by omega)
 simp only [aa,seval,ou,e0.lay,vj,bR,df]
 refine bn (λaT=>?_) (λaT=>?_)
 rotate_left
 .repeat' ( simp only [aa,seval,ou])
  exact hk _ _ z.aA
 obtain ⟨r,hr,cw⟩:=eW (l:=x0.reads) (i:=i) (by omega)
 obtain ⟨a,m,c,g1,g2⟩:=zxz hv i hi
 have gK:∀ (h:Heap) (K:aF),aC (some (.slice a m c)) h K=K (.slice a m c) h:=λ_ _=>rfl
 repeat' (first|simp only [aa,seval,ou,q0.lay,e0.lay,↓fA,eV,eI,yg,vj,bR]|with_reducible refine dL (by simp only [ou]) z.aA ?_|with_reducible refine rK (hv.mono z.inc) dr px (by omega) hr (λp hp=>?_)|with_reducible refine gj hp j9 ?_)
 refine HF ps r _ _ _ _ _ _ _ _ ((hl.mono z.inc).lay _ _) _ (λh' x=>?_)
 (((with_reducible refine cU ?_ ?_ ?_);(· exact (by (simp only [ck]);have:=z.size;omega));(· exact x));replace z:=z.an x;replace q0:=q0.over x;replace e0:=e0.over x;rw [ao h'])
 cases hh:iM ps r
 .repeat' (first|simp only [aa,seval,ou,kW]|((with_reducible apply bX);(· rfl))|((with_reducible refine ⟨z.cn.lay _ _,?_⟩);(intro _ h' zz x _);( simp only [bM,bu] at x );( replace q0:=q0.over x );( replace e0:=e0.over x );(replace z:=zz);(clear zz);rw [ao h']))
  exact hk _ _ z.aA
 repeat' (first|simp only [aa,seval,ou,fQ,q0.lay,e0.lay,↓fA,eV,eI,yg,vj,bR,g1,gK,zr4]|with_reducible refine dL (by simp only [ou]) z.aA ?_|((with_reducible apply bn) <;> intro _)|with_reducible refine rK (hv.mono z.inc) dr px (by omega) hr (λp hp=>?_)|with_reducible refine gj hp j9 ?_|((with_reducible apply bX);(· rfl))|((with_reducible refine ⟨z.cn.lay _ _,?_⟩);(intro _ h' zz x _);(simp only [bM,bu] at x);replace q0:=q0.over x;replace e0:=e0.over x;(replace z:=zz);(clear zz);rw [ao h']))
 .exact hk _ _ z.aA
 refine HF (x0.reads.take i) r _ _ _ _ _ _ _ _ ((g2.mono z.inc).lay _ _) _ (λh' x=>?_)
 (((with_reducible refine cU ?_ ?_ ?_);(· exact (by (simp only [ck]);have:=z.size;omega));(· exact x));replace z:=z.an x;replace q0:=q0.over x;replace e0:=e0.over x;rw [ao h'])
 cases hh2:iM (x0.reads.take i) r
 .repeat' (first|simp only [aa,seval,ou]|((with_reducible refine ⟨z.cn.lay _ _,?_⟩);(intro _ h' zz x _);( simp only [bM,bu] at x );( replace q0:=q0.over x );( replace e0:=e0.over x );(replace z:=zz);(clear zz);rw [ao h']))
  rw [hw]
  (rw [aU];with_reducible refine cy (m:=_) ?_ ⟨i+1,_,rfl,z,⟨rfl,by omega,q0,e0⟩,bl⟩;omega)
 .repeat' (first|simp only [aa,seval,ou]|((with_reducible refine ⟨z.cn.lay _ _,?_⟩);(intro _ h' zz x _);( simp only [bM,bu] at x );( replace q0:=q0.over x );( replace e0:=e0.over x );(replace z:=zz);(clear zz);rw [ao h']))
  exact hk _ _ z.aA
theorem zt7 (d:aq) (p0 p1 p2 p5 p6:ab) (q b:Int) (h:Heap) (bf:(du p0 p1 p2 p5 p6 q b).all Am.one=true) (hd:dR h p0 p1 p2 p5 p6 d) (hn:d.aR.length<=70) (K:aF) (hk:∀ c h',Ext h h'->K (.int .i64 c) h'):Ok prog aD ov 78 [fI p0 p1 p2 p5 p6 q b] h K:=by
 rw [ao h]
 have z:=Ext.refl h
 have bR:∀ (h:Heap) (K:aF),aC (some p2) h K=K p2 h:=λ_ _=>rfl
 have df:=λ(hh:Heap)=>hd.s2.bo jT hh
 refine Ok.aw 49 (bq N78) ?_
 repeat' (simp only [aa,seval,uU,gZ,fN,bR,df])
 refine na (λh' x hq=>?_)
 have q0:=hq 0 _ rfl
 clear hq
 (replace z:=z.an x;rw [ao h'])
 obtain ⟨A0,el⟩:∃ A0,A0=h.size+0:=⟨_,rfl⟩
 rw [<- el] at q0
 rw [<- el]
 obtain ⟨I1,aU⟩:∃ I:Nat->Env->Heap->Prop,I=(λn e h'=>∃ (i:Nat) (h1:Heap),h'=h1.lay [] h1.low/\Ext h h1/\(n=d.aR.length - i/\i<=d.aR.length/\Holds h1 A0 (.row (du p0 p1 p2 p5 p6 q b) 28 false))/\∃ J:Nat->ab,e=(J 0::.pointer (some ⟨A0,0,none⟩)::J 2::.int .i64 i::jr J 4 46 ([]))):=⟨_,rfl⟩
 refine dA I1 _ (by rw [aU];exact ⟨0,_,rfl,z,⟨rfl,by omega,q0⟩,bl⟩) ?_
 intro n e h' aO
 rw [aU] at aO
 obtain ⟨i,bC,rfl,z,hinv,J,rfl⟩:=aO
 clear q0
 obtain ⟨rfl,hi,q0⟩:=hinv
 have hw:=ei i (by omega)
 simp only [aa,seval,uU,q0.lay,fN,bR,df]
 refine bn (λaT=>?_) (λaT=>?_)
 rotate_left
 .repeat' ( simp only [aa,seval,uU])
  exact hk _ _ z.aA
 obtain ⟨r,hr,cw⟩:=eW (l:=d.aR) (i:=i) (by omega)
 repeat' (first|simp only [aa,seval,uU,q0.lay,↓fA,eV,eI,fN,bR]|with_reducible refine dL (by simp only [uU]) z.aA ?_|with_reducible refine CD (hd.s2.mono z.inc) jT kM (by omega) hr (λp bv hb hp=>?_)|with_reducible refine xS hp CB (λqq hq=>?_)|with_reducible refine gj hq j9 ?_)
 refine HF d.ah r.who _ _ _ _ _ _ _ _ ((hd.s0.mono z.inc).lay _ _) _ (λh' x=>?_)
 (((with_reducible refine cU ?_ ?_ ?_);(· exact (by (simp only [ck]);have:=z.size;omega));(· exact x));replace z:=z.an x;replace q0:=q0.over x;rw [ao h'])
 cases hh:iM d.ah r.who
 .repeat' (first|simp only [aa,seval,uU,kW]|((with_reducible apply bX);(· rfl))|((with_reducible refine ⟨z.cn.lay _ _,?_⟩);(intro _ h' zz x _);( simp only [bM,bu] at x );( replace q0:=q0.over x );(replace z:=zz);(clear zz);rw [ao h']))
  exact hk _ _ z.aA
 repeat' (first|simp only [aa,seval,uU,fQ]|((with_reducible apply bX);(· rfl))|((with_reducible refine ⟨z.cn.lay _ _,?_⟩);(intro _ h' zz x _);(simp only [bM,bu] at x);replace q0:=q0.over x;(replace z:=zz);(clear zz);rw [ao h']))
 obtain ⟨I2,fM⟩:∃ I:Nat->Env->Heap->Prop,I=(λn e h'=>∃ (k:Nat) (h1:Heap),h'=h1.lay [] h1.low/\Ext h h1/\(n=i - k/\k<=i/\Holds h1 A0 (.row (du p0 p1 p2 p5 p6 q b) 28 false))/\∃ J:Nat->ab,e=(J 0::.pointer (some ⟨A0,0,none⟩)::J 2::.int .i64 i::.int .i64 k::jr J 5 45 ([]))):=⟨_,rfl⟩
 refine dA I2 _ (by rw [fM];exact ⟨0,_,rfl,z,⟨rfl,by omega,q0⟩,bl⟩) ?_
 intro n e h' aO
 rw [fM] at aO
 obtain ⟨k,bC,rfl,z,hinv,J,rfl⟩:=aO
 clear q0
 obtain ⟨rfl,yv,q0⟩:=hinv
 have qD:=ei k (by omega)
 simp only [aa,seval,uU]
 refine bn (λjx=>?_) (λjx=>?_)
 .obtain ⟨e,he,ub⟩:=eW (l:=d.aR) (i:=k) (by omega)
  repeat' (first|simp only [aa,seval,uU,q0.lay,fN,bR]|with_reducible refine dL (by simp only [uU]) z.aA ?_|((with_reducible apply bn) <;> intro _)|with_reducible refine CD (hd.s2.mono z.inc) jT kM (by omega) hr (λp bv hb hp=>?_)|with_reducible refine CD (hd.s2.mono z.inc) jT kM (by omega) he (λp bv hb hp=>?_)|with_reducible refine xS hp CB (λqq hq=>?_)|with_reducible refine gj hq j9 ?_|((with_reducible refine ⟨z.cn.lay _ _,?_⟩);(intro _ h' zz x _);(simp only [bM,bu] at x);replace q0:=q0.over x;(replace z:=zz);(clear zz);rw [ao h']))
  .exact hk _ _ z.aA
  .rw [qD]
   (rw [fM];with_reducible refine cy (m:=_) ?_ ⟨k+1,_,rfl,z,⟨rfl,by omega,q0⟩,bl⟩;omega)
 have vu:k=i:=by omega
 subst vu
 repeat' (first|simp only [aa,seval,uU,q0.lay,↓fA,eV,eI,fN,bR]|with_reducible refine dL (by simp only [uU]) z.aA ?_|with_reducible refine CD (hd.s2.mono z.inc) jT kM (by omega) hr (λp bv hb hp=>?_)|with_reducible refine GY hp xF kM ?_)
 have qA:Sl aM.str bC bv r.reads:=by assumption
 refine zt5 d.ah r bv _ _ _ _ _ _ _ _ bf ((hd.s0.mono z.inc).lay _ _) (qA.lay _ _) _ (λc h' x=>?_)
 (((with_reducible refine cU ?_ ?_ ?_);(· exact (by (simp only [ck]);have:=z.size;omega));(· exact x));replace z:=z.an x;replace q0:=q0.over x;rw [ao h'])
 repeat' (first|simp only [aa,seval,uU]|((with_reducible apply gg) <;> intro _)|((with_reducible refine ⟨z.cn.lay _ _,?_⟩);(intro _ h' zz x _);(simp only [bM,bu] at x);replace q0:=q0.over x;(replace z:=zz);(clear zz);rw [ao h']))
 .exact hk _ _ z.aA
 .rw [hw]
  (rw [aU];with_reducible refine cy (m:=_) ?_ ⟨k+1,_,rfl,z,⟨rfl,by omega,q0⟩,bl⟩;omega)
end Go.Proofs.YtiapegieocgmfaaGreatDoor
