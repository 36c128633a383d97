/- Arguments that are slices, by what they hold. No condition. -/
import Derived.Test.YtnkmeidmdaidhaaGreatDoorG5
import Derived.Test.YtnkmeidmdaidhaaGreatDoorG9
import Derived.Test.YtnkmeidmdaidhaaGreatDoorG7
set_option linter.unusedSimpArgs false
set_option linter.unusedVariables false
noncomputable section
namespace Go.Am
theorem zzt {Z:Type} {r:aG Z} {P:Program} {h:Heap} {n:Nat} {t e:TypeId} {v:ai} (hu:P.underlying t=some (.slice e)) (hk:P.cellsOf e=r.k) (yN:∀ cs,ja P h n e cs->∃ x,r.R h cs x) (hs:ja P h (n+1) t [v]):∃ l,Sl r h v l:=by
 unfold ja at hs
 rw [hu] at hs
 rcases hs with hs|⟨A,len,cap,row,u,hv,h1,h2,h3,h4,h5,h6⟩
 .simp only [List.cons.injEq,and_true] at hs
  subst hs
  exact ⟨[],Sl.nil⟩
 .simp only [List.cons.injEq,and_true] at hv
  subst hv
  rw [hk] at h5 h6
  have hx:∀ i:Fin len,∃ x,r.R h ((row.drop (i.val*r.k)).take r.k) x:=λi=>yN _ (h6 i.val i.isLt)
  refine ⟨List.ofFn λi=>Classical.choose (hx i),.inr ⟨A,0,cap,row,u,true,by rw [List.length_ofFn],by rw [List.length_ofFn];omega,.inl ⟨by unfold G;unfold maxLen at h2;omega,by rw [List.length_ofFn];exact h1⟩,h3,h4,λi x hi=>?_⟩⟩
  rw [List.getElem?_ofFn] at hi
  split at hi
  .rename_i bc
   simp only [dR] at hi
   subst hi
   refine ⟨_,?_,Classical.choose_spec (hx ⟨i,bc⟩)⟩
   unfold cut
   have:i*r.k+r.k<=len*r.k:=by rw [<- uK];exact tN _ (by omega)
   rw [i5,aB (by omega)]
  .cases hi
end Go.Am
namespace Go.Proofs.YtnkmeidmdaidhaaGreatDoor
open Go.Am Tryz
set_option maxRecDepth 100000
variable {args cs:List ai} {n:Nat} {h:Heap} {v:ai} {P:Program}
theorem ztC {Z:Type} {l:List Z} (h:l.length=11):∃ a0 a1 a2 a3 a4 a5 a6 a7 a8 a9 yo,l=[a0,a1,a2,a3,a4,a5,a6,a7,a8,a9,yo]:=by
 match l,h with
 | [a0,a1,a2,a3,a4,a5,a6,a7,a8,a9,yo],_=>exact ⟨_,_,_,_,_,_,_,_,_,_,_,rfl⟩
theorem zjc:prog.cellsOf 28=11:=by kernel_rfl
theorem zp7:prog.cellsOf 25=2:=by kernel_rfl
theorem zn1:prog.cellsOf 35=12:=by kernel_rfl
theorem VN (hs:ja prog h (n+1) 9 cs):∃ s:aV,cs=[.string s]:=by
 unfold ja at hs
 rw [underlying9] at hs
 exact ⟨hs.choose,hs.choose_spec.1⟩
theorem zyB (hs:ja prog h (n+1) 4 cs):∃ b:Bool,cs=[.bool b]:=by
 unfold ja at hs
 rw [underlying4] at hs
 exact hs
theorem zwL (hs:ja prog h (n+1) 3 cs):∃ b:Int,cs=[.int .i64 b]/\(Lit.int .i64 b).wf=true:=by
 unfold ja at hs
 rw [underlying3] at hs
 exact hs
theorem OT {x y:ai} (hs:ja prog h (n+2) 25 [x,y]):∃ (b:Bool) (s:aV),x=.bool b/\y=.string s:=by
 unfold ja at hs
 rw [underlying25] at hs
 obtain ⟨_,hf⟩:=hs
 have h0:ja prog h (n+1) 4 (([x,y].drop 0).take 1):=hf 0 _ rfl
 have h1:ja prog h (n+1) 9 (([x,y].drop 1).take 1):=hf 1 _ rfl
 obtain ⟨b,hb⟩:=zyB h0
 obtain ⟨s,hs⟩:=VN h1
 simp at hb hs
 exact ⟨b,s,hb,hs⟩
theorem WC (hs:ja prog h (n+4) 28 cs):∃ a:ae,cs=a.cells:=by
 unfold ja at hs
 rw [underlying28] at hs
 obtain ⟨hl,hf⟩:=hs
 rw [zjc] at hl
 obtain ⟨a0,a1,a2,a3,a4,a5,a6,a7,a8,a9,yo,rfl⟩:=ztC hl
 have h0:ja prog h (n+3) 9 (([a0,a1,a2,a3,a4,a5,a6,a7,a8,a9,yo].drop 0).take 1):=hf 0 _ rfl
 have h1:ja prog h (n+3) 9 (([a0,a1,a2,a3,a4,a5,a6,a7,a8,a9,yo].drop 1).take 1):=hf 1 _ rfl
 have h2:ja prog h (n+3) 3 (([a0,a1,a2,a3,a4,a5,a6,a7,a8,a9,yo].drop 2).take 1):=hf 2 _ rfl
 have h3:ja prog h (n+3) 26 (([a0,a1,a2,a3,a4,a5,a6,a7,a8,a9,yo].drop 3).take 8):=hf 3 _ rfl
 obtain ⟨s,hs⟩:=VN h0
 obtain ⟨p,hp⟩:=VN h1
 obtain ⟨i,hi,_⟩:=zwL h2
 unfold ja at h3
 rw [underlying26] at h3
 obtain ⟨_,hg⟩:=h3
 have g0:=hg 0 (by omega)
 have g1:=hg 1 (by omega)
 have g2:=hg 2 (by omega)
 have g3:=hg 3 (by omega)
 simp only [zp7] at g0 g1 g2 g3
 obtain ⟨b0,s0,e0,e0'⟩:=OT g0
 obtain ⟨b1,s1,e1,Qf⟩:=OT g1
 obtain ⟨b2,s2,e2,Qg⟩:=OT g2
 obtain ⟨b3,s3,e3,e3'⟩:=OT g3
 simp at hs hp hi
 subst hs hp hi e0 e0' e1 Qf e2 Qg e3 e3'
 exact ⟨⟨s,p,i,⟨b0,s0⟩,⟨b1,s1⟩,⟨b2,s2⟩,⟨b3,s3⟩⟩,rfl⟩
theorem zpd (hs:ja prog h (n+5) 23 [v]):∃ l,Sl aG.atom h v l :=
 zzt underlying23 zjc (λcs hc=>WC hc) hs
theorem zue (hs:ja prog h (n+6) 35 cs):∃ x,aG.clause.R h cs x:=by
 unfold ja at hs
 rw [underlying35] at hs
 obtain ⟨hl,hf⟩:=hs
 rw [zn1] at hl
 have h0:ja prog h (n+5) 28 ((cs.drop 0).take 11):=hf 0 _ rfl
 have h1:ja prog h (n+5) 23 ((cs.drop 11).take 1):=hf 1 _ rfl
 obtain ⟨a,ha⟩:=WC (n:=n+1) h0
 obtain ⟨v,hv⟩:∃ v,(cs.drop 11).take 1=[v]:=by
  match hc:(cs.drop 11).take 1,(show ((cs.drop 11).take 1).length=1 by simp;omega) with
  | [v],_=>exact ⟨v,rfl⟩
 rw [hv] at h1
 obtain ⟨l,oD⟩:=zpd h1
 refine ⟨⟨a,l⟩,v,?_,oD⟩
 have e1:cs=cs.take 11++cs.drop 11:=(GS 11 cs).symm
 rw [iR (by simp;omega)] at hv
 rw [Fi] at ha
 rw [e1,ha,hv]
theorem zqT (hs:ja prog h (n+7) 22 [v]):∃ l,Sl aG.clause h v l :=
 zzt underlying22 zn1 (λcs hc=>zue hc) hs
theorem zuY (hs:uv prog h (n+5) 23 v):∃ l,Sl aG.atom h v l:=by
 unfold uv at hs
 rw [underlying23] at hs
 exact zpd hs
theorem zpX (hs:uv prog h (n+7) 22 v):∃ l,Sl aG.clause h v l:=by
 unfold uv at hs
 rw [underlying22] at hs
 exact zqT hs
theorem zzF (hs:uv prog h (n+1) 3 v):∃ b:Int,v=.int .i64 b/\(Lit.int .i64 b).wf=true:=by
 unfold uv at hs
 rw [underlying3] at hs
 obtain ⟨b,hb,hw⟩:=zwL hs
 simp only [List.cons.injEq,and_true] at hb
 exact ⟨b,hb,hw⟩
theorem zxw (hs:uv prog h (n+4) 28 v):∃ x:ae,v=x.val:=by
 unfold uv at hs
 rw [underlying28] at hs
 obtain ⟨cs,rfl,hc⟩:=hs
 obtain ⟨x,rfl⟩:=WC hc
 exact ⟨x,rfl⟩
theorem zsZ {ts us:List TypeId} (e:ts=us) (hs:xV P h n ts args):xV P h n us args:=by
 subst e
 exact hs
theorem NP {t:TypeId} {ts:List TypeId} (hs:xV P h n (t::ts) args):∃ v vs,args=v::vs/\uv P h n t v/\xV P h n ts vs:=by
 cases args with
 |nil=>exact absurd hs id
 |cons v vs=>exact ⟨v,vs,rfl,hs.1,hs.2⟩
theorem zpY (hs:xV P h n [] args):args=[]:=by
 cases args with
 |nil=>rfl
 |cons v vs=>exact absurd hs id
end Go.Proofs.YtnkmeidmdaidhaaGreatDoor
namespace Go.Am
theorem zqn (b:Bool):Ah undef b=false:=rfl
theorem zyu (e:Env) (d:Nat) (v:ai):put e (some d) v=Env.set e d v:=rfl
theorem zyt (e:Env) (v:ai):put e none v=e:=rfl
theorem zxV (v:ai) (r:Env):Env.get (v::r) 0=v:=rfl
theorem zxU (v:ai) (r:Env) (n:Nat):Env.get (v::r) (n+1)=Env.get r n:=rfl
theorem zyA (x v:ai) (r:Env):Env.set (x::r) 0 v=v::r:=rfl
theorem zyz (x v:ai) (r:Env) (n:Nat):Env.set (x::r) (n+1) v=x::Env.set r n v:=rfl
theorem zBp (e:Env) (t:Nat):bE e (.tmp t)=e.get t:=rfl
theorem zxO (e:Env) (v:ai):bE e (.const v)=v:=rfl
theorem zvu (e:Env) (g:Nat):bE e (.global g)=.pointer (some ⟨g,0,none⟩):=rfl
theorem zz7 (e:Env) (f:FuncId):bE e (.func f)=.func (.func f) #[] #[]:=rfl
theorem ztg (b:Bool):(Value.bool b).cells=#[.bool b]:=rfl
theorem zvi (k:IntKind) (i:Int):(Value.int k i).cells=#[.int k i]:=rfl
theorem zn2 (s:aV):(Value.string s).cells=#[.string s]:=rfl
theorem zp6 (a:Option Addr) (n c:Nat):(Value.slice a n c).cells=#[.slice a n c]:=rfl
theorem zme (a:Option Addr):(Value.pointer a).cells=#[.pointer a]:=rfl
theorem zvj (a:Option Nat):(Value.map a).cells=#[.map a]:=rfl
theorem zth (f:Fn) (a b:Array ai):(Value.func f a b).cells=#[.func f a b]:=rfl
theorem zp5 (t:TypeId) (v:ai):(Value.iface t v).cells=#[.iface t v]:=rfl
theorem zvh (cs:Array ai):(Value.agg cs).cells=cs:=rfl
theorem zxl (z:List ai) (n:Nat):nh z n=(List.replicate n z).flatten:=rfl
theorem zlC (cs:List ai) (o:Nat) (vs:List ai):aI cs o vs=cs.take o++vs++cs.drop (o+vs.length):=rfl
theorem zz2 (cs:List ai) (o n:Nat):cut cs o n=if o+n<=cs.length then some ((cs.drop o).take n) else none:=rfl
def jr (J:Nat->ai):Nat->Nat->Env->Env
 |_,0,r=>r
 |a,n+1,r=>J a::jr J (a+1) n r
theorem zAl (J:Nat->ai) (a:Nat) (r:Env):jr J a 0 r=r:=rfl
theorem zAk (J:Nat->ai) (a n:Nat) (r:Env):jr J a (n+1) r=J a::jr J (a+1) n r:=rfl
def BC:=PLift.up (And.intro @zAl <| And.intro @zAk <| And.intro @zqn <| And.intro @zyu <| And.intro @zyt <| And.intro @zxV <| And.intro @zxU <| And.intro @zyA <| And.intro @zyz <| And.intro @zBp <| And.intro @zxO <| And.intro @zvu <| And.intro @zz7 <| And.intro @ztg <| And.intro @zvi <| And.intro @zn2 <| And.intro @zp6 <| And.intro @zme <| And.intro @zvj <| And.intro @zth <| And.intro @zp5 <| And.intro @zvh <| And.intro @zxl <| And.intro @zlC <| And.intro @zz2 <| And.intro @Option.map_some.{0,0} <| And.intro @Option.bind_some.{0,0} <| And.intro @List.length_cons.{0} <| And.intro @List.length_nil.{0} <| And.intro @List.cons_append.{0} <| And.intro @List.nil_append.{0} <| And.intro @List.getElem?_cons_zero.{0} <| And.intro @List.getElem?_cons_succ.{0} <| And.intro @decide_true <| And.intro @decide_false <| And.intro @Int.cast_ofNat_Int <| And.intro @Int.zero_le_ofNat <| And.intro @Int.le_refl <| And.intro @and_self <| And.intro @and_true <| And.intro @true_and <| And.intro @if_true.{1} <| And.intro @if_false.{1} <| And.intro @Nat.zero_add <| And.intro @Bool.not_true <| And.intro @Bool.not_false <| And.intro @Int.toNat_natCast <| And.intro @zvH <| And.intro @zvI <| And.intro @List.replicate_zero.{0} <| And.intro @List.replicate_succ.{0} <| And.intro @List.flatten_cons.{0} <| And.intro @List.flatten_nil.{0} <| And.intro @List.take_succ_cons.{0} <| And.intro @List.take_zero.{0} <| And.intro @List.drop_succ_cons.{0} <| And.intro @List.drop_zero.{0} <| And.intro @List.append_nil.{0} <| And.intro @Bool.or_self <| And.intro @Bool.false_eq_true <| And.intro @beq_self_eq_true.{0} <| And.intro @List.size_toArray.{0} <| And.intro @List.append_assoc.{0} <| And.intro @zzO <| And.intro @zzP <| And.intro @ztK <| And.intro @zv4 <| And.intro @zuR <| And.intro @zpW <| And.intro @znM <| And.intro @zlY <| And.intro @znK <| And.intro @znL <| And.intro @zpk <| And.intro @zq1 <| And.intro @zq2 <| And.intro @zuN <| And.intro @bS <| @br)
theorem cv:type_of% BC.down:=BC.down
def BD:=PLift.up (And.intro syms cv)
theorem aa:type_of% BD.down:=BD.down
end Go.Am
namespace Go.Am
variable {i:Nat}
def pV:Code->Array Oper
 | .region _ a _=>a
 |_=>#[]
def oS (A:Array Oper) (n:Nat):List Oper:=A.toList.drop n
theorem UF (K:Code) (A:Array Oper) (hK:K=.region i A false:=by rfl) (P:Program) (T:bN) (ov:Ov):∀ (rd:Option Nat) (e:Env) (h:Heap) (Q:Ex->Env->Heap->Prop),W P T ov rd K e h Q=dc P T ov A (oS A 0) e h (Py Q):=by
 subst hK
 intro rd e h Q
 rfl
theorem J5 (A:Array Oper) (n:Nat) (hn:oS A n=[]:=by rfl) (P:Program) (T:bN) (ov:Ov):∀ (e:Env) (h:Heap) (Q:Env->Heap->Prop),dc P T ov A (oS A n) e h Q=Q e h:=by
 intro e h Q
 rw [hn]
 rfl
theorem Uw (A:Array Oper) (n:Nat) (hn:oS A n=[]:=by rfl) (P:Program) (T:bN) (ov:Ov):∀ (b j:Nat) (e:Env) (h:Heap) (Q:Env->Heap->Prop),bT P T ov b A (oS A n) j e h Q=Q e h:=by
 intro b j e h Q
 rw [hn]
 rfl
theorem tx (K A B:Code) (hK:K=.seq A B:=by rfl) (P:Program) (T:bN) (ov:Ov):∀ (rd:Option Nat) (e:Env) (h:Heap) (Q:Ex->Env->Heap->Prop),W P T ov rd K e h Q=W P T ov rd A e h (Co P T ov rd B Q):=by
 subst hK
 intro rd e h Q
 exact zA3 _ _ _ _ _
theorem zBl (K A B:Code) {o:Operand} (hK:K=.cond o A B:=by rfl) (P:Program) (T:bN) (ov:Ov):∀ (rd:Option Nat) (e:Env) (h:Heap) (Q:Ex->Env->Heap->Prop),W P T ov rd K e h Q=EZ P T ov rd A B e h Q (bE e o):=by
 subst hK
 intro rd e h Q
 rfl
theorem PZ (K A:Code) (hK:K=.block i A:=by rfl) (P:Program) (T:bN) (ov:Ov):∀ (rd:Option Nat) (e:Env) (h:Heap) (Q:Ex->Env->Heap->Prop),W P T ov rd K e h Q=W P T ov rd A e h (w8 i Q):=by
 subst hK
 intro rd e h Q
 exact zuS _ _ _ _ _
theorem zCy (K A:Code) (hK:K=.loop A:=by rfl) (P:Program) (T:bN) (ov:Ov):∀ (rd:Option Nat) (e:Env) (h:Heap) (Q:Ex->Env->Heap->Prop),W P T ov rd K e h Q=W P T ov rd (.loop A) e h Q:=by
 subst hK
 intro rd e h Q
 rfl
theorem zBI (K A:Code) (hK:K=.scope A:=by rfl) (P:Program) (T:bN) (ov:Ov):∀ (rd:Option Nat) (e:Env) (h:Heap) (Q:Ex->Env->Heap->Prop),W P T ov rd K e h Q=W P T ov rd A e h Q:=by
 subst hK
 intro rd e h Q
 rfl
theorem zBq (K:Code) (hK:K=.exit i:=by rfl) (P:Program) (T:bN) (ov:Ov):∀ (rd:Option Nat) (e:Env) (h:Heap) (Q:Ex->Env->Heap->Prop),W P T ov rd K e h Q=Q (.exit i) e h:=by
 subst hK
 intro rd e h Q
 rfl
theorem UG (K:Code) (hK:K=.ret:=by rfl) (P:Program) (T:bN) (ov:Ov):∀ (rd:Option Nat) (e:Env) (h:Heap) (Q:Ex->Env->Heap->Prop),W P T ov rd K e h Q=Q .ret e h:=by
 subst hK
 intro rd e h Q
 rfl
theorem zCD (K:Code) (hK:K=.skip:=by rfl) (P:Program) (T:bN) (ov:Ov):∀ (rd:Option Nat) (e:Env) (h:Heap) (Q:Ex->Env->Heap->Prop),W P T ov rd K e h Q=Q .normal e h:=by
 subst hK
 intro rd e h Q
 rfl
theorem zBy (K:Code) (hK:K=.label i:=by rfl) (P:Program) (T:bN) (ov:Ov):∀ (rd:Option Nat) (e:Env) (h:Heap) (Q:Ex->Env->Heap->Prop),W P T ov rd K e h Q=Q .normal e h:=by
 subst hK
 intro rd e h Q
 rfl
abbrev zAY (K:Code) (A:Array Oper):Prop:=∀ {P:Program} {T:bN} {ov:Ov} {rd:Option Nat} {e:Env} {h0 h:Heap} {Q:Ex->Env->Heap->Prop},Ext h0 h->bT P T ov (min h0.low h0.size) A (oS A 0) 0 e h (λe' h1=>qe h0 h1/\H5 h0 Q e' h1)->W P T ov rd K e h Q
theorem zBW {K:Code} {A:Array Oper} (hK:K=.region i A true) (ht:Gz A (nR A.toList [])=true):zAY K A:=by
 subst hK
 intro P T ov rd e h0 h Q z hw
 exact zzB (ops:=A.toList) z ht hw
theorem nd {p q:Prop} (h:p) (g:q):p/\q:=⟨h,g⟩
end Go.Am
namespace Go.Am
def aW:Code->Nat
 | .seq a b=>aW a+aW b+1
 | .cond _ a b=>aW a+aW b+1
 | .block _ a=>aW a+1
 | .loop a=>aW a+1
 | .scope a=>aW a+1
 | .rangeFunc _ _ a b=>aW a+aW b+1
 |_=>1
def iM:Code->Nat->Code
 | .seq a b,n=>if n=0 then .seq a b else if n<=aW a then iM a (n - 1) else iM b (n - 1 - aW a)
 | .cond o a b,n=>if n=0 then .cond o a b else if n<=aW a then iM a (n - 1) else iM b (n - 1 - aW a)
 | .block i a,n=>if n=0 then .block i a else iM a (n - 1)
 | .loop a,n=>if n=0 then .loop a else iM a (n - 1)
 | .scope a,n=>if n=0 then .scope a else iM a (n - 1)
 | .rangeFunc g ps a b,n=>if n=0 then .rangeFunc g ps a b else if n<=aW a then iM a (n - 1) else iM b (n - 1 - aW a)
 |c,_=>c
def codeOf (f:Func):Code:=f.body.getD .skip
def bR (f:Func):Nat->Code:=iM (codeOf f)
theorem VE (c:Code):iM c 0=c:=by cases c <;> rfl
def mS:List Oper->Nat->Option Tmp
 | [],_=>none
 |o::_,0=>o.dst
 |_::l,j+1=>mS l j
theorem zz6 (l:List Oper) (j:Nat):mS l j=(l[j]?).bind (·.dst):=by
 induction l generalizing j with
 |nil=>rfl
 |cons o l ih=>cases j with
  |zero=>rfl
  |succ j=>exact ih j
def pW (L:List Oper) (e:Env):Option (Nat × Bool)->Bool
 |none=>true
 |some (j,g)=>Ah (e.get ((mS L j).getD 0)) g
def LV (L:List Oper) (o:Oper):Bool:=match o.guard with
 |none=>true
 |some (j,_)=>(mS L j).isSome
theorem zsE {A:Array Oper} {o:Oper} (h:LV A.toList o=true) (e:Env):mI A o e=pW A.toList e o.guard:=by
 unfold LV at h
 unfold mI
 cases hg:o.guard with
 |none=>rfl
 |some p =>
  obtain ⟨j,g⟩:=p
  rw [hg] at h
  have e1:A[j]? = A.toList[j]? := by simp
  have h2:(mS A.toList j).isSome=true:=h
  show _=Ah (e.get ((mS A.toList j).getD 0)) g
  simp only [e1,<- zz6]
  cases hd:mS A.toList j with
  |none=>rw [hd] at h2;cases h2
  |some t=>rfl
def Pb:Code->Bool
 | .region _ A true=>Gz A (nR A.toList [])
 |_=>false
theorem eF {K:Code} (hd:Pb K=true):zAY K (pV K):=by
 unfold Pb at hd
 split at hd
 .rename_i i A
  exact zBW rfl hd
 .cases hd
def qC:Code->Bool
 | .seq a b=>qC a && qC b
 | .cond _ a b=>qC a && qC b
 | .block _ a=>qC a
 | .loop a=>qC a
 | .scope a=>qC a
 | .rangeFunc _ _ a b=>qC a && qC b
 | .region i A d=>A.toList.all (LV A.toList) && (!d || Pb (.region i A d))
 |_=>true
def wJ (A:Array Oper) (L:List Oper):List Oper->Nat->Prop
 | [],n=>∀ (P:Program) (T:bN) (ov:Ov) (e:Env) (h:Heap) (Q:Env->Heap->Prop),dc P T ov A (oS A n) e h Q=Q e h
 |o::l,n=>(∀ (P:Program) (T:bN) (ov:Ov) (e:Env) (h:Heap) (Q:Env->Heap->Prop),dc P T ov A (oS A n) e h Q=Pm P T ov A o (oS A (n+1)) o.dst e h Q (pW L e o.guard))/\wJ A L l (n+1)
def wK (A:Array Oper) (L:List Oper):List Oper->Nat->Prop
 | [],n=>∀ (P:Program) (T:bN) (ov:Ov) (b j:Nat) (e:Env) (h:Heap) (Q:Env->Heap->Prop),bT P T ov b A (oS A n) j e h Q=Q e h
 |o::l,n=>(∀ (P:Program) (T:bN) (ov:Ov) (b:Nat) (e:Env) (h:Heap) (Q:Env->Heap->Prop),bT P T ov b A (oS A n) n e h Q=LG P T ov b A o (oS A (n+1)) n o.dst e h Q (pW L e o.guard) (gQ o))/\wK A L l (n+1)
def ck (N:Nat->Code):Code->Nat->Prop
 | .seq a b,n=>(∀ (P:Program) (T:bN) (ov:Ov) (rd:Option Nat) (e:Env) (h:Heap) (Q:Ex->Env->Heap->Prop),W P T ov rd (N n) e h Q=W P T ov rd (N (n+1)) e h (Co P T ov rd (N (n+1+aW a)) Q))/\ck N a (n+1)/\ck N b (n+1+aW a)
 | .cond o a b,n=>(∀ (P:Program) (T:bN) (ov:Ov) (rd:Option Nat) (e:Env) (h:Heap) (Q:Ex->Env->Heap->Prop),W P T ov rd (N n) e h Q=EZ P T ov rd (N (n+1)) (N (n+1+aW a)) e h Q (bE e o))/\ck N a (n+1)/\ck N b (n+1+aW a)
 | .block i a,n=>(∀ (P:Program) (T:bN) (ov:Ov) (rd:Option Nat) (e:Env) (h:Heap) (Q:Ex->Env->Heap->Prop),W P T ov rd (N n) e h Q=W P T ov rd (N (n+1)) e h (w8 i Q))/\ck N a (n+1)
 | .loop a,n=>(∀ (P:Program) (T:bN) (ov:Ov) (rd:Option Nat) (e:Env) (h:Heap) (Q:Ex->Env->Heap->Prop),W P T ov rd (N n) e h Q=W P T ov rd (.loop (N (n+1))) e h Q)/\ck N a (n+1)
 | .scope a,n=>(∀ (P:Program) (T:bN) (ov:Ov) (rd:Option Nat) (e:Env) (h:Heap) (Q:Ex->Env->Heap->Prop),W P T ov rd (N n) e h Q=W P T ov rd (N (n+1)) e h Q)/\ck N a (n+1)
 | .rangeFunc g ps a b,n=>(∀ (P:Program) (T:bN) (ov:Ov) (rd:Option Nat) (e:Env) (h:Heap) (Q:Ex->Env->Heap->Prop),W P T ov rd (N n) e h Q=GZ P T ov rd (bE e g) ps.toList (N (n+1)) (N (n+1+aW a)) e h Q)/\ck N a (n+1)/\ck N b (n+1+aW a)
 | .region i A false,n=>(∀ (P:Program) (T:bN) (ov:Ov) (rd:Option Nat) (e:Env) (h:Heap) (Q:Ex->Env->Heap->Prop),W P T ov rd (N n) e h Q=dc P T ov (pV (N n)) (oS (pV (N n)) 0) e h (Py Q))/\wJ (pV (N n)) A.toList A.toList 0
 | .region i A true,n=>Pb (N n)=true/\wK (pV (N n)) A.toList A.toList 0
 | .exit i,n=>∀ (P:Program) (T:bN) (ov:Ov) (rd:Option Nat) (e:Env) (h:Heap) (Q:Ex->Env->Heap->Prop),W P T ov rd (N n) e h Q=Q (.exit i) e h
 | .ret,n=>∀ (P:Program) (T:bN) (ov:Ov) (rd:Option Nat) (e:Env) (h:Heap) (Q:Ex->Env->Heap->Prop),W P T ov rd (N n) e h Q=Q .ret e h
 | .skip,n=>∀ (P:Program) (T:bN) (ov:Ov) (rd:Option Nat) (e:Env) (h:Heap) (Q:Ex->Env->Heap->Prop),W P T ov rd (N n) e h Q=Q .normal e h
 | .label _,n=>∀ (P:Program) (T:bN) (ov:Ov) (rd:Option Nat) (e:Env) (h:Heap) (Q:Ex->Env->Heap->Prop),W P T ov rd (N n) e h Q=Q .normal e h
 |_,_=>True
theorem zsd (A:Array Oper) (h:∀ o∈A.toList,LV A.toList o=true):∀ (l:List Oper) (n:Nat),oS A n=l->(∀ o∈l,o∈A.toList)->wJ A A.toList l n
 | [],n,hl,_=>J5 A n hl
 |o::l,n,hl,hm=>by
  have oD:oS A (n+1)=l:=by
   unfold oS at hl ⊢
   have:=congrArg (List.drop 1) hl
   rw [Fh] at this
   exact this
  refine ⟨λP T ov e h' Q=>?_,zsd A h l (n+1) oD (λx hx=>hm x (rN _ hx))⟩
  rw [hl,oD,zsT,zsE (h o (hm o (nU ..)))]
theorem zse (A:Array Oper) (h:∀ o∈A.toList,LV A.toList o=true):∀ (l:List Oper) (n:Nat),oS A n=l->(∀ o∈l,o∈A.toList)->wK A A.toList l n
 | [],n,hl,_=>Uw A n hl
 |o::l,n,hl,hm=>by
  have oD:oS A (n+1)=l:=by
   unfold oS at hl ⊢
   have:=congrArg (List.drop 1) hl
   rw [Fh] at this
   exact this
  refine ⟨λP T ov b e h' Q=>?_,zse A h l (n+1) oD (λx hx=>hm x (rN _ hx))⟩
  rw [hl,oD,zpV,zsE (h o (hm o (nU ..)))]
theorem Wq {N:Nat->Code} {a b x:Code} {n:Nat} (h:∀ k,k < aW a+aW b+1->N (n+k)=iM x k) (ha:∀ k,0 < k->k<=aW a->iM x k=iM a (k - 1)) (hb:∀ k,aW a < k->iM x k=iM b (k - 1 - aW a)) (pa:0 < aW a) (pb:0 < aW b) :
 N (n+1)=a/\N (n+1+aW a)=b/\(∀ k,k < aW a->N (n+1+k)=iM a k)/\∀ k,k < aW b->N (n+1+aW a+k)=iM b k:=by
 have h1:∀ k,k < aW a->N (n+1+k)=iM a k:=λk hk=>by
  rw [show n+1+k=n+(k+1) by omega,h _ (by omega),ha _ (by omega) (by omega),Cf]
 have h2:∀ k,k < aW b->N (n+1+aW a+k)=iM b k:=λk hk=>by
  rw [show n+1+aW a+k=n+(k+1+aW a) by omega,h _ (by omega),hb _ (by omega)]
  congr 1
  omega
 have h3:=h1 0 pa
 have h4:=h2 0 pb
 rw [VE] at h3 h4
 exact ⟨h3,h4,h1,h2⟩
theorem oO (c:Code):0 < aW c:=by cases c <;> simp [aW]
theorem WB {N:Nat->Code} {a x:Code} {n:Nat} (h:∀ k,k < aW a+1->N (n+k)=iM x k) (ha:∀ k,0 < k->iM x k=iM a (k - 1)):N (n+1)=a/\∀ k,k < aW a->N (n+1+k)=iM a k:=by
 have h1:∀ k,k < aW a->N (n+1+k)=iM a k:=λk hk=>by
  rw [show n+1+k=n+(k+1) by omega,h _ (by omega),ha _ (by omega),Cf]
 have h3:=h1 0 (oO a)
 rw [VE] at h3
 exact ⟨h3,h1⟩
theorem xO (N:Nat->Code):∀ (c:Code) (n:Nat),qC c=true->(∀ k,k < aW c->N (n+k)=iM c k)->ck N c n
 | .seq a b,n,hw,h=>by
  have h0:N n=.seq a b:=h 0 (oO _)
  simp only [qC,dW] at hw
  obtain ⟨e1,e2,f1,f2⟩:=Wq (a:=a) (b:=b) h (λk h1 h2=>by simp only [iM];rw [aA (by omega),aB h2]) (λk h1=>by simp only [iM];rw [aA (by omega),aA (by omega)]) (oO _) (oO _)
  exact ⟨λP T ov=>by rw [e1,e2];exact tx _ a b h0 P T ov,xO N a _ hw.1 f1,xO N b _ hw.2 f2⟩
 | .cond o a b,n,hw,h=>by
  have h0:N n=.cond o a b:=h 0 (oO _)
  simp only [qC,dW] at hw
  obtain ⟨e1,e2,f1,f2⟩:=Wq (a:=a) (b:=b) h (λk h1 h2=>by simp only [iM];rw [aA (by omega),aB h2]) (λk h1=>by simp only [iM];rw [aA (by omega),aA (by omega)]) (oO _) (oO _)
  exact ⟨λP T ov=>by rw [e1,e2];exact zBl _ a b h0 P T ov,xO N a _ hw.1 f1,xO N b _ hw.2 f2⟩
 | .rangeFunc g ps a b,n,hw,h=>by
  have h0:N n=.rangeFunc g ps a b:=h 0 (oO _)
  simp only [qC,dW] at hw
  obtain ⟨e1,e2,f1,f2⟩:=Wq (a:=a) (b:=b) h (λk h1 h2=>by simp only [iM];rw [aA (by omega),aB h2]) (λk h1=>by simp only [iM];rw [aA (by omega),aA (by omega)]) (oO _) (oO _)
  exact ⟨λP T ov rd e h' Q=>by rw [e1,e2,h0];rfl,xO N a _ hw.1 f1,xO N b _ hw.2 f2⟩
 | .block i a,n,hw,h=>by
  have h0:N n=.block i a:=h 0 (oO _)
  obtain ⟨e1,f1⟩:=WB (a:=a) h (λk h1=>by simp only [iM];rw [aA (by omega)])
  exact ⟨λP T ov=>by rw [e1];exact PZ _ a h0 P T ov,xO N a _ hw f1⟩
 | .loop a,n,hw,h=>by
  have h0:N n=.loop a:=h 0 (oO _)
  obtain ⟨e1,f1⟩:=WB (a:=a) h (λk h1=>by simp only [iM];rw [aA (by omega)])
  exact ⟨λP T ov=>by rw [e1];exact zCy _ a h0 P T ov,xO N a _ hw f1⟩
 | .scope a,n,hw,h=>by
  have h0:N n=.scope a:=h 0 (oO _)
  obtain ⟨e1,f1⟩:=WB (a:=a) h (λk h1=>by simp only [iM];rw [aA (by omega)])
  exact ⟨λP T ov=>by rw [e1];exact zBI _ a h0 P T ov,xO N a _ hw f1⟩
 | .region i A false,n,hw,h=>by
  have h0:N n=.region i A false:=h 0 (oO _)
  have hr:pV (N n)=A:=by rw [h0];rfl
  simp only [qC,dW,jE] at hw
  refine ⟨λP T ov=>?_,?_⟩
  .rw [hr]
   exact UF _ A h0 P T ov
  .rw [hr]
   exact zsd A hw.1 _ 0 rfl (λo ho=>ho)
 | .region i A true,n,hw,h=>by
  have h0:N n=.region i A true:=h 0 (oO _)
  have hr:pV (N n)=A:=by rw [h0];rfl
  simp only [qC,dW,jE,Bool.not_true,Bool.false_or] at hw
  refine ⟨?_,?_⟩
  .rw [h0]
   exact hw.2
  .rw [hr]
   exact zse A hw.1 _ 0 rfl (λo ho=>ho)
 | .exit i,n,hw,h=>zBq _ (h 0 (oO _))
 | .ret,n,hw,h=>UG _ (h 0 (oO _))
 | .skip,n,hw,h=>zCD _ (h 0 (oO _))
 | .label l,n,hw,h=>zBy _ (h 0 (oO _))
 | .goto l,n,hw,h=>trivial
 | .refuse w,n,hw,h=>trivial
theorem bU (N:Nat->Code) (f:Func) (hN:N=bR f:=by rfl) (hw:qC (codeOf f)=true:=by kernel_rfl):ck N (codeOf f) 0 :=
 xO N _ 0 hw (λk _=>by rw [hN,i5];rfl)
theorem bY {f:Func} (N:Nat->Code) (hN:N=bR f:=by rfl) (h:f.body.isSome=true:=by rfl):f.body=some (N 0):=by
 rw [hN]
 unfold bR
 rw [VE]
 unfold codeOf
 cases hb:f.body with
 |none=>rw [hb] at h;cases h
 |some c=>rfl
def BA:=PLift.up (And.intro @codeOf.eq_1 <| And.intro @ck.eq_1 <| And.intro @ck.eq_2 <| And.intro @ck.eq_3 <| And.intro @ck.eq_4 <| And.intro @ck.eq_5 <| And.intro @ck.eq_6 <| And.intro @ck.eq_7 <| And.intro @ck.eq_8 <| And.intro @ck.eq_9 <| And.intro @ck.eq_10 <| And.intro @ck.eq_11 <| And.intro @ck.eq_12 <| And.intro @ck.eq_13 <| And.intro @wJ.eq_1 <| And.intro @wJ.eq_2 <| And.intro @wK.eq_1 <| And.intro @wK.eq_2 <| And.intro @aW.eq_1 <| And.intro @aW.eq_2 <| And.intro @aW.eq_3 <| And.intro @aW.eq_4 <| And.intro @aW.eq_5 <| And.intro @aW.eq_6 <| And.intro @aW.eq_7 <| And.intro @pW.eq_1 <| And.intro @pW.eq_2 <| And.intro @mS.eq_1 <| And.intro @mS.eq_2 <| And.intro @mS.eq_3 <| And.intro @gQ.eq_1 <| And.intro @Option.getD_some.{0} <| And.intro @List.append_eq.{0} <| And.intro @List.cons_append.{0} <| @List.nil_append.{0})
theorem aS:type_of% BA.down:=BA.down
theorem Ok.aF {P:Program} {T:bN} {ov:Ov} {f:FuncId} {fn:Func} {c:Code} {args:List Value} {h:Heap} {K:Value->Heap->Prop} (m:Nat) (hc:fn.body=some c) (hw:W P T ov none c (args++List.replicate m undef) h (eu T fn K)) (ho:ov f=none:=by exact rfl) (hf:T.fn f=some fn:=by kernel_rfl) (yH:T.HZ f=false:=by exact rfl) (hm:fn.ntmps - args.length=m:=by exact rfl):Ok P T ov f args h K:=Ok.Ui ho hf hc yH hm hw
theorem bO {shape:(Nat->Value)->Env} {e:Env} (h:e=shape e.get:=by kernel_rfl):∃ J,e=shape J:=⟨_,h⟩
end Go.Am
namespace Go.Am
variable {T:bN} {fn:Func} {K:aO} {e:Env} {h:Heap}
theorem xZ (hr:fn.results=#[]):eu T fn K .ret e h=K undef h:=by
 simp [eu,nc,hr,undef]
theorem xW (hr:fn.results=#[]):eu T fn K .normal e h=K undef h:=by
 simp [eu,nc,hr,undef]
theorem zvJ {a b c:Tmp} (hr:fn.results=#[.tmp a,.tmp b,.tmp c]):eu T fn K .ret e h=K (.tuple #[e.get a,e.get b,e.get c]) h:=by
 simp [eu,nc,hr,tE]
theorem VC {a b:Tmp} {y:TypeId} (hr:fn.results=#[.cell a y,.tmp b]):eu T fn K .ret e h=aM (hU T y (e.get a) h) h (λx h'=>K (.tuple #[x,e.get b]) h'):=by
 cases hl:hU T y (e.get a) h with
 |none=>simp [eu,nc,hr,tE,aM,hl]
 |some x=>simp [eu,nc,hr,tE,aM,hl]
end Go.Am
