/- Arguments that are slices, by what they hold. No condition. -/
import Derived.Test.YtnkmeidmdaidhaaGreatDoorG5
import Derived.Test.YtnkmeidmdaidhaaGreatDoorG9
import Derived.Test.YtnkmeidmdaidhaaGreatDoorG7
set_option linter.unusedSimpArgs false
set_option linter.unusedVariables false
namespace Go.Am
theorem zyj {Z:Type} {r:aF Z} {P:Program} {h:Heap} {n:Nat} {t e:TypeId} {v:ai} (hu:P.underlying t=some (.slice e)) (hk:P.cellsOf e=r.k) (wU:∀ cs,gW P h n e cs->∃ x,r.R h cs x) (hs:gW P h (n+1) t [v]):∃ l,Sl r h v l:=by
 unfold gW at hs
 rw [hu] at hs
 rcases hs with hs|⟨A,len,cap,row,u,hv,h1,h2,h3,h4,h5,h6⟩
 .simp only [List.cons.injEq,and_true] at hs
  subst hs
  exact ⟨[],Sl.nil⟩
 .simp only [List.cons.injEq,and_true] at hv
  subst hv
  rw [hk] at h5 h6
  have hx:∀ i:Fin len,∃ x,r.R h ((row.drop (i.val*r.k)).take r.k) x:=λi=>wU _ (h6 i.val i.isLt)
  refine ⟨List.ofFn λi=>Classical.choose (hx i),.inr ⟨A,0,cap,row,u,true,by rw [List.length_ofFn],by rw [List.length_ofFn];omega,.inl ⟨by unfold G;unfold maxLen at h2;omega,by rw [List.length_ofFn];exact h1⟩,h3,h4,λi x hi=>?_⟩⟩
  rw [List.getElem?_ofFn] at hi
  split at hi
  .rename_i aW
   simp only [dy] at hi
   subst hi
   refine ⟨_,?_,Classical.choose_spec (hx ⟨i,aW⟩)⟩
   unfold cut
   have:i*r.k+r.k<=len*r.k:=by rw [<- yA];exact uV _ (by omega)
   rw [ia,aG (by omega)]
  .cases hi
end Go.Am
namespace Go.Proofs.YtnkmeidmdaidhaaGreatDoor
open Go.Am Tryz
set_option maxRecDepth 100000
variable {args cs:List ai} {n:Nat} {h:Heap} {v:ai} {P:Program}
theorem zsE {Z:Type} {l:List Z} (h:l.length=11):∃ a0 a1 a2 a3 a4 a5 a6 a7 a8 a9 wt,l=[a0,a1,a2,a3,a4,a5,a6,a7,a8,a9,wt]:=by
 match l,h with
 | [a0,a1,a2,a3,a4,a5,a6,a7,a8,a9,wt],_=>exact ⟨_,_,_,_,_,_,_,_,_,_,_,rfl⟩
theorem Z4:prog.cellsOf 28=11:=by kernel_rfl
theorem zo6:prog.cellsOf 25=2:=by kernel_rfl
theorem zm5:prog.cellsOf 35=12:=by kernel_rfl
theorem Tx (hs:gW prog h (n+1) 9 cs):∃ s:bf,cs=[.string s]:=by
 unfold gW at hs
 rw [underlying9] at hs
 exact ⟨hs.choose,hs.choose_spec.1⟩
theorem zxn (hs:gW prog h (n+1) 4 cs):∃ b:Bool,cs=[.bool b]:=by
 unfold gW at hs
 rw [underlying4] at hs
 exact hs
theorem zvI (hs:gW prog h (n+1) 3 cs):∃ b:Int,cs=[.int .i64 b]/\(Lit.int .i64 b).wf=true:=by
 unfold gW at hs
 rw [underlying3] at hs
 exact hs
theorem Mt {x y:ai} (hs:gW prog h (n+2) 25 [x,y]):∃ (b:Bool) (s:bf),x=.bool b/\y=.string s:=by
 unfold gW at hs
 rw [underlying25] at hs
 obtain ⟨_,hf⟩:=hs
 have h0:gW prog h (n+1) 4 (([x,y].drop 0).take 1):=hf 0 _ rfl
 have h1:gW prog h (n+1) 9 (([x,y].drop 1).take 1):=hf 1 _ rfl
 obtain ⟨b,hb⟩:=zxn h0
 obtain ⟨s,hs⟩:=Tx h1
 simp at hb hs
 exact ⟨b,s,hb,hs⟩
theorem T7 (hs:gW prog h (n+4) 28 cs):∃ a:ae,cs=a.cells:=by
 unfold gW at hs
 rw [underlying28] at hs
 obtain ⟨hl,hf⟩:=hs
 rw [Z4] at hl
 obtain ⟨a0,a1,a2,a3,a4,a5,a6,a7,a8,a9,wt,rfl⟩:=zsE hl
 have h0:gW prog h (n+3) 9 (([a0,a1,a2,a3,a4,a5,a6,a7,a8,a9,wt].drop 0).take 1):=hf 0 _ rfl
 have h1:gW prog h (n+3) 9 (([a0,a1,a2,a3,a4,a5,a6,a7,a8,a9,wt].drop 1).take 1):=hf 1 _ rfl
 have h2:gW prog h (n+3) 3 (([a0,a1,a2,a3,a4,a5,a6,a7,a8,a9,wt].drop 2).take 1):=hf 2 _ rfl
 have h3:gW prog h (n+3) 26 (([a0,a1,a2,a3,a4,a5,a6,a7,a8,a9,wt].drop 3).take 8):=hf 3 _ rfl
 obtain ⟨s,hs⟩:=Tx h0
 obtain ⟨p,hp⟩:=Tx h1
 obtain ⟨i,hi,_⟩:=zvI h2
 unfold gW at h3
 rw [underlying26] at h3
 obtain ⟨_,hg⟩:=h3
 have g0:=hg 0 (by omega)
 have g1:=hg 1 (by omega)
 have g2:=hg 2 (by omega)
 have g3:=hg 3 (by omega)
 simp only [zo6] at g0 g1 g2 g3
 obtain ⟨b0,s0,e0,e0'⟩:=Mt g0
 obtain ⟨b1,s1,e1,e1'⟩:=Mt g1
 obtain ⟨b2,s2,e2,e2'⟩:=Mt g2
 obtain ⟨b3,s3,e3,e3'⟩:=Mt g3
 simp at hs hp hi
 subst hs hp hi e0 e0' e1 e1' e2 e2' e3 e3'
 exact ⟨⟨s,p,i,⟨b0,s0⟩,⟨b1,s1⟩,⟨b2,s2⟩,⟨b3,s3⟩⟩,rfl⟩
theorem zoe (hs:gW prog h (n+5) 23 [v]):∃ l,Sl aF.atom h v l :=
 zyj underlying23 Z4 (λcs hc=>T7 hc) hs
theorem ztg (hs:gW prog h (n+6) 35 cs):∃ x,aF.clause.R h cs x:=by
 unfold gW at hs
 rw [underlying35] at hs
 obtain ⟨hl,hf⟩:=hs
 rw [zm5] at hl
 have h0:gW prog h (n+5) 28 ((cs.drop 0).take 11):=hf 0 _ rfl
 have h1:gW prog h (n+5) 23 ((cs.drop 11).take 1):=hf 1 _ rfl
 obtain ⟨a,ha⟩:=T7 (n:=n+1) h0
 obtain ⟨v,hv⟩:∃ v,(cs.drop 11).take 1=[v]:=by
  match hc:(cs.drop 11).take 1,(show ((cs.drop 11).take 1).length=1 by simp;omega) with
  | [v],_=>exact ⟨v,rfl⟩
 rw [hv] at h1
 obtain ⟨l,lZ⟩:=zoe h1
 refine ⟨⟨a,l⟩,v,?_,lZ⟩
 have e1:cs=cs.take 11++cs.drop 11:=(JV 11 cs).symm
 rw [iK (by simp;omega)] at hv
 rw [List.drop_zero] at ha
 rw [e1,ha,hv]
theorem zp2 (hs:gW prog h (n+7) 22 [v]):∃ l,Sl aF.clause h v l :=
 zyj underlying22 zm5 (λcs hc=>ztg hc) hs
theorem zt1 (hs:r5 prog h (n+5) 23 v):∃ l,Sl aF.atom h v l:=by
 unfold r5 at hs
 rw [underlying23] at hs
 exact zoe hs
theorem zoX (hs:r5 prog h (n+7) 22 v):∃ l,Sl aF.clause h v l:=by
 unfold r5 at hs
 rw [underlying22] at hs
 exact zp2 hs
theorem zyz (hs:r5 prog h (n+1) 3 v):∃ b:Int,v=.int .i64 b/\(Lit.int .i64 b).wf=true:=by
 unfold r5 at hs
 rw [underlying3] at hs
 obtain ⟨b,hb,hw⟩:=zvI hs
 simp only [List.cons.injEq,and_true] at hb
 exact ⟨b,hb,hw⟩
theorem zwn (hs:r5 prog h (n+4) 28 v):∃ x:ae,v=x.val:=by
 unfold r5 at hs
 rw [underlying28] at hs
 obtain ⟨cs,rfl,hc⟩:=hs
 obtain ⟨x,rfl⟩:=T7 hc
 exact ⟨x,rfl⟩
theorem zr1 {ts us:List TypeId} (e:ts=us) (hs:vR P h n ts args):vR P h n us args:=by
 subst e
 exact hs
theorem LW {t:TypeId} {ts:List TypeId} (hs:vR P h n (t::ts) args):∃ v vs,args=v::vs/\r5 P h n t v/\vR P h n ts vs:=by
 cases args with
 |nil=>exact absurd hs id
 |cons v vs=>exact ⟨v,vs,rfl,hs.1,hs.2⟩
theorem zoY (hs:vR P h n [] args):args=[]:=by
 cases args with
 |nil=>rfl
 |cons v vs=>exact absurd hs id
end Go.Proofs.YtnkmeidmdaidhaaGreatDoor
namespace Go.Am
theorem zpn (b:Bool):yk undef b=false:=rfl
theorem zxg (e:Env) (d:Nat) (v:ai):put e (some d) v=Env.set e d v:=rfl
theorem zxf (e:Env) (v:ai):put e none v=e:=rfl
theorem zwI (v:ai) (r:Env):Env.get (v::r) 0=v:=rfl
theorem zwH (v:ai) (r:Env) (n:Nat):Env.get (v::r) (n+1)=Env.get r n:=rfl
theorem zxm (x v:ai) (r:Env):Env.set (x::r) 0 v=v::r:=rfl
theorem zxl (x v:ai) (r:Env) (n:Nat):Env.set (x::r) (n+1) v=x::Env.set r n v:=rfl
theorem zAh (e:Env) (t:Nat):br e (.tmp t)=e.get t:=rfl
theorem zwC (e:Env) (v:ai):br e (.const v)=v:=rfl
theorem zuA (e:Env) (g:Nat):br e (.global g)=.pointer (some ⟨g,0,none⟩):=rfl
theorem zy1 (e:Env) (f:FuncId):br e (.func f)=.func (.func f) #[] #[]:=rfl
theorem zsg (b:Bool):(Value.bool b).cells=#[.bool b]:=rfl
theorem zum (k:IntKind) (i:Int):(Value.int k i).cells=#[.int k i]:=rfl
theorem zm6 (s:bf):(Value.string s).cells=#[.string s]:=rfl
theorem zo5 (a:Option Addr) (n c:Nat):(Value.slice a n c).cells=#[.slice a n c]:=rfl
theorem zlw (a:Option Addr):(Value.pointer a).cells=#[.pointer a]:=rfl
theorem zun (a:Option Nat):(Value.map a).cells=#[.map a]:=rfl
theorem zsh (f:Fn) (a b:Array ai):(Value.func f a b).cells=#[.func f a b]:=rfl
theorem zo4 (t:TypeId) (v:ai):(Value.iface t v).cells=#[.iface t v]:=rfl
theorem zul (cs:Array ai):(Value.agg cs).cells=cs:=rfl
theorem zwd (z:List ai) (n:Nat):lO z n=(List.replicate n z).flatten:=rfl
theorem zkW (cs:List ai) (o:Nat) (vs:List ai):aJ cs o vs=cs.take o++vs++cs.drop (o+vs.length):=rfl
theorem zyV (cs:List ai) (o n:Nat):cut cs o n=if o+n<=cs.length then some ((cs.drop o).take n) else none:=rfl
def jr (J:Nat->ai):Nat->Nat->Env->Env
 |_,0,r=>r
 |a,n+1,r=>J a::jr J (a+1) n r
theorem zze (J:Nat->ai) (a:Nat) (r:Env):jr J a 0 r=r:=rfl
theorem zzd (J:Nat->ai) (a n:Nat) (r:Env):jr J a (n+1) r=J a::jr J (a+1) n r:=rfl
noncomputable def zt:=PLift.up (And.intro @zze <| And.intro @zzd <| And.intro @zpn <| And.intro @zxg <| And.intro @zxf <| And.intro @zwI <| And.intro @zwH <| And.intro @zxm <| And.intro @zxl <| And.intro @zAh <| And.intro @zwC <| And.intro @zuA <| And.intro @zy1 <| And.intro @zsg <| And.intro @zum <| And.intro @zm6 <| And.intro @zo5 <| And.intro @zlw <| And.intro @zun <| And.intro @zsh <| And.intro @zo4 <| And.intro @zul <| And.intro @zwd <| And.intro @zkW <| And.intro @zyV <| And.intro @Option.map_some.{0,0} <| And.intro @Option.bind_some.{0,0} <| And.intro @List.length_cons.{0} <| And.intro @List.length_nil.{0} <| And.intro @List.cons_append.{0} <| And.intro @List.nil_append.{0} <| And.intro @List.getElem?_cons_zero.{0} <| And.intro @List.getElem?_cons_succ.{0} <| And.intro @decide_true <| And.intro @decide_false <| And.intro @Int.cast_ofNat_Int <| And.intro @Int.zero_le_ofNat <| And.intro @Int.le_refl <| And.intro @and_self <| And.intro @and_true <| And.intro @true_and <| And.intro @if_true.{1} <| And.intro @if_false.{1} <| And.intro @Nat.zero_add <| And.intro @Bool.not_true <| And.intro @Bool.not_false <| And.intro @Int.toNat_natCast <| And.intro @zuM <| And.intro @zuN <| And.intro @List.replicate_zero.{0} <| And.intro @List.replicate_succ.{0} <| And.intro @List.flatten_cons.{0} <| And.intro @List.flatten_nil.{0} <| And.intro @List.take_succ_cons.{0} <| And.intro @List.take_zero.{0} <| And.intro @List.drop_succ_cons.{0} <| And.intro @List.drop_zero.{0} <| And.intro @List.append_nil.{0} <| And.intro @Bool.or_self <| And.intro @Bool.false_eq_true <| And.intro @beq_self_eq_true.{0} <| And.intro @List.size_toArray.{0} <| And.intro @List.append_assoc.{0} <| And.intro @zyI <| And.intro @zyJ <| And.intro @zsM <| And.intro @zu5 <| And.intro @ztV <| And.intro @zoW <| And.intro @zmS <| And.intro @zli <| And.intro @zmQ <| And.intro @zmR <| And.intro @zol <| And.intro @zqa <| And.intro @zqb <| And.intro @ztR <| And.intro @bK <| @bo)
theorem bM:type_of% zt.down:=zt.down
noncomputable def zu:=PLift.up (And.intro syms bM)
theorem aa:type_of% zu.down:=zu.down
end Go.Am
