/- Policies: data, their cells. No condition. -/
import Derived.Test.YtnkmeidmdaidhaaGreatDoorG14
set_option linter.unusedSimpArgs false
set_option linter.unusedVariables false
set_option maxRecDepth 100000
noncomputable section
namespace Go.Am
structure BK where
 name:aU
 arity:Int
structure vA where
 who:aU
 reads:List aU
structure vC where
 «to»:aU
 head:ae
 body:aN
structure j9 where
 rU:List aU
 Lr:List BK
 DM:List vA
 acv:Int
 aE:Int
 rules:List ak
 DP:List vC
abbrev aC.pred:aC BK:={ k:=2,R:=λ_ cs x=>cs=[.string x.name,.int .i64 x.arity],len:=by rintro _ _ _ rfl;rfl,mono:=λ_ _ _ _ _ h=>h,gu:=by rintro _ _ _ rfl;rfl }
abbrev aC.clear:aC vA :=
 { k:=2,R:=λh cs x=>∃ v,cs=[.string x.who,v]/\Sl aC.str h v x.reads
   len:=by rintro h cs x ⟨v,rfl,_⟩;rfl
   mono:=by rintro h h' cs x i ⟨v,e,f⟩;exact ⟨v,e,f.mono i⟩
   gu:=by rintro h cs x ⟨v,rfl,f⟩;have:=f.one;simp only [gS,iI,this];rfl }
abbrev aC.JL:aC vC :=
 { k:=13,R:=λh cs x=>∃ v,cs=.string x.to::(x.head.cells++[v])/\Sl aC.atom h v x.body
   len:=by rintro h cs x ⟨v,rfl,_⟩;rfl
   mono:=by rintro h h' cs x i ⟨v,e,f⟩;exact ⟨v,e,f.mono i⟩
   gu:=by rintro h cs x ⟨v,rfl,f⟩;have:=f.one;simp only [Dn,ae.cells,gS,iI,this];rfl }
def zs1 (p0 p1 p2 p5 p6:ai) (q b:Int):List ai:=[p0,p1,p2,.int .i64 q,.int .i64 b,p5,p6]
structure mi (h:Heap) (p0 p1 p2 p5 p6:ai) (d:j9):Prop where
 s0:Sl aC.str h p0 d.rU
 s1:Sl aC.pred h p1 d.Lr
 s2:Sl aC.clear h p2 d.DM
 s5:Sl aC.clause h p5 d.rules
 s6:Sl aC.JL h p6 d.DP
theorem mi.mono {h h':Heap} {p0 p1 p2 p5 p6:ai} {d:j9} (f:mi h p0 p1 p2 p5 p6 d) (i:bN h h'):mi h' p0 p1 p2 p5 p6 d:=⟨f.s0.mono i,f.s1.mono i,f.s2.mono i,f.s5.mono i,f.s6.mono i⟩
theorem mi.lay {h:Heap} {p0 p1 p2 p5 p6:ai} {d:j9} (f:mi h p0 p1 p2 p5 p6 d) (bs:List aZ) (w:Nat):mi (h.lay bs w) p0 p1 p2 p5 p6 d:=f.mono (bN.lay h bs w)
theorem mi.over {h1 h2:Heap} {bs:List aZ} {w:Nat} {p0 p1 p2 p5 p6:ai} {d:j9} (f:mi h1 p0 p1 p2 p5 p6 d) (x:Ext (h1.lay bs w) h2):mi h2 p0 p1 p2 p5 p6 d:=f.mono x.inc.mK
theorem mi.one {h:Heap} {p0 p1 p2 p5 p6:ai} {d:j9} (f:mi h p0 p1 p2 p5 p6 d) (q b:Int):(zs1 p0 p1 p2 p5 p6 q b).all Am.one=true:=by
 have h0:=f.s0.one
 have h1:=f.s1.one
 have h2:=f.s2.one
 have h5:=f.s5.one
 have h6:=f.s6.one
 simp only [zs1,gS,iI,h0,h1,h2,h5,h6]
 rfl
section
variable {h1:Heap} {bs:List aZ} {w:Nat} {T:bJ} {K:aJ} {t e s:TypeId} {v p:ai} {kd:IntKind} {i:Int}
end
end Go.Am
namespace Go.Am
open Go.Proofs
def vE (h:Heap) (A:Nat) (e:TypeId) (v:ai) (l:List aU):Prop:=∃ c,v=.slice (some ⟨A,0,none⟩) l.length c/\QW 1 l.length c/\Holds h A (.row (l.map Value.string) e false)
theorem vE.sl {h:Heap} {A:Nat} {e:TypeId} {v:ai} {l:List aU} (f:vE h A e v l) (hn:l.length<=1000):Sl aC.str h v l:=by
 obtain ⟨c,rfl,hc,q⟩:=f
 have hM:(1000:Nat)<=maxLen:=by decide
 refine .inr ⟨A,0,c,l.map Value.string,e,false,rfl,by omega,hc,q.lt,q.get,λi x hx=>⟨[.string x],?_,rfl⟩⟩
 have hi:=(fG.1 hx).1
 show cut (l.map Value.string) (0+i*1) 1=_
 rw [iA,Nat.mul_one]
 unfold cut
 rw [aD (by rw [gw];omega),<- List.map_drop,<- List.map_take,List.drop_eq_getElem_cons hi]
 simp only [List.take_succ_cons,Dp,qO,List.map_nil]
 rw [(fG.1 hx).2]
end Go.Am
namespace Go.Proofs.YtnkmeidmdaidhaaGreatDoor
open Go.Am Tryz
theorem zrr {h:Heap} {n:Nat} {v:ai} (hs:jd prog h (n+2) 29 [v]):∃ l,Sl aC.str h v l :=
 Zr underlying29 zt0 (λcs hc=>PU hc) hs
theorem zqo {h:Heap} {n:Nat} {v:ai} (hs:vm prog h (n+2) 29 v):∃ l,Sl aC.str h v l:=by
 unfold vm at hs
 rw [underlying29] at hs
 exact zrr hs
end Go.Proofs.YtnkmeidmdaidhaaGreatDoor
namespace Go.Am
theorem zqQ (b:Bool):Bp undef b=false:=rfl
theorem zzx (e:Env) (d:Nat) (v:ai):put e (some d) v=Env.set e d v:=rfl
theorem zzw (e:Env) (v:ai):put e none v=e:=rfl
theorem zyV (v:ai) (r:Env):Env.get (v::r) 0=v:=rfl
theorem zyU (v:ai) (r:Env) (n:Nat):Env.get (v::r) (n+1)=Env.get r n:=rfl
theorem zzF (x v:ai) (r:Env):Env.set (x::r) 0 v=v::r:=rfl
theorem zzE (x v:ai) (r:Env) (n:Nat):Env.set (x::r) (n+1) v=x::Env.set r n v:=rfl
theorem zCJ (e:Env) (t:Nat):bz e (.tmp t)=e.get t:=rfl
theorem zyP (e:Env) (v:ai):bz e (.const v)=v:=rfl
theorem zwm (e:Env) (g:Nat):bz e (.global g)=.pointer (some ⟨g,0,none⟩):=rfl
theorem zBj (e:Env) (f:FuncId):bz e (.func f)=.func (.func f) #[] #[]:=rfl
theorem ztY (b:Bool):(Value.bool b).cells=#[.bool b]:=rfl
theorem zv6 (k:IntKind) (i:Int):(Value.int k i).cells=#[.int k i]:=rfl
theorem zon (s:aU):(Value.string s).cells=#[.string s]:=rfl
theorem zqy (a:Option Addr) (n c:Nat):(Value.slice a n c).cells=#[.slice a n c]:=rfl
theorem zmt (a:Option Addr):(Value.pointer a).cells=#[.pointer a]:=rfl
theorem zv7 (a:Option Nat):(Value.map a).cells=#[.map a]:=rfl
theorem ztZ (f:Fn) (a b:Array ai):(Value.func f a b).cells=#[.func f a b]:=rfl
theorem zqx (t:TypeId) (v:ai):(Value.iface t v).cells=#[.iface t v]:=rfl
theorem zv5 (cs:Array ai):(Value.agg cs).cells=cs:=rfl
theorem zyk (z:List ai) (n:Nat):nN z n=(List.replicate n z).flatten:=rfl
theorem zlP (cs:List ai) (o:Nat) (vs:List ai):aI cs o vs=cs.take o++vs++cs.drop (o+vs.length):=rfl
theorem zBe (cs:List ai) (o n:Nat):cut cs o n=if o+n<=cs.length then some ((cs.drop o).take n) else none:=rfl
def jr (J:Nat->ai):Nat->Nat->Env->Env
 |_,0,r=>r
 |a,n+1,r=>J a::jr J (a+1) n r
theorem zBy (J:Nat->ai) (a:Nat) (r:Env):jr J a 0 r=r:=rfl
theorem zBx (J:Nat->ai) (a n:Nat) (r:Env):jr J a (n+1) r=J a::jr J (a+1) n r:=rfl
def CH:=PLift.up (And.intro @zBy <| And.intro @zBx <| And.intro @zqQ <| And.intro @zzx <| And.intro @zzw <| And.intro @zyV <| And.intro @zyU <| And.intro @zzF <| And.intro @zzE <| And.intro @zCJ <| And.intro @zyP <| And.intro @zwm <| And.intro @zBj <| And.intro @ztY <| And.intro @zv6 <| And.intro @zon <| And.intro @zqy <| And.intro @zmt <| And.intro @zv7 <| And.intro @ztZ <| And.intro @zqx <| And.intro @zv5 <| And.intro @zyk <| And.intro @zlP <| And.intro @zBe <| And.intro @Option.map_some.{0,0} <| And.intro @Option.bind_some.{0,0} <| And.intro @List.length_cons.{0} <| And.intro @List.length_nil.{0} <| And.intro @List.cons_append.{0} <| And.intro @List.nil_append.{0} <| And.intro @List.getElem?_cons_zero.{0} <| And.intro @List.getElem?_cons_succ.{0} <| And.intro @decide_true <| And.intro @decide_false <| And.intro @Int.cast_ofNat_Int <| And.intro @Int.zero_le_ofNat <| And.intro @Int.le_refl <| And.intro @and_self <| And.intro @and_true <| And.intro @true_and <| And.intro @if_true.{1} <| And.intro @if_false.{1} <| And.intro @Nat.zero_add <| And.intro @Bool.not_true <| And.intro @Bool.not_false <| And.intro @Int.toNat_natCast <| And.intro @zwz <| And.intro @zwA <| And.intro @List.replicate_zero.{0} <| And.intro @List.replicate_succ.{0} <| And.intro @List.flatten_cons.{0} <| And.intro @List.flatten_nil.{0} <| And.intro @List.take_succ_cons.{0} <| And.intro @List.take_zero.{0} <| And.intro @List.drop_succ_cons.{0} <| And.intro @List.drop_zero.{0} <| And.intro @List.append_nil.{0} <| And.intro @Bool.or_self <| And.intro @Bool.false_eq_true <| And.intro @beq_self_eq_true.{0} <| And.intro @List.size_toArray.{0} <| And.intro @List.append_assoc.{0} <| And.intro @zAU <| And.intro @zAV <| And.intro @zuv <| And.intro @zw1 <| And.intro @zvH <| And.intro @zql <| And.intro @zn4 <| And.intro @zmc <| And.intro @zn2 <| And.intro @zn3 <| And.intro @zpF <| And.intro @zrz <| And.intro @zrA <| And.intro @zvD <| And.intro @bY <| @bh)
theorem cm:type_of% CH.down:=CH.down
def CI:=PLift.up (And.intro syms cm)
theorem aa:type_of% CI.down:=CI.down
end Go.Am
namespace Go.Am
variable {i:Nat}
def kr:Code->Array Oper
 | .region _ a _=>a
 |_=>#[]
def ln (A:Array Oper) (n:Nat):List Oper:=A.toList.drop n
theorem Wu (K:Code) (A:Array Oper) (hK:K=.region i A false:=by rfl) (P:Program) (T:bJ) (ov:Ov):∀ (rd:Option Nat) (e:Env) (h:Heap) (Q:Ex->Env->Heap->Prop),W P T ov rd K e h Q=di P T ov A (ln A 0) e h (Q6 Q):=by
 subst hK
 intro rd e h Q
 rfl
theorem Ll (A:Array Oper) (n:Nat) (hn:ln A n=[]:=by rfl) (P:Program) (T:bJ) (ov:Ov):∀ (e:Env) (h:Heap) (Q:Env->Heap->Prop),di P T ov A (ln A n) e h Q=Q e h:=by
 intro e h Q
 rw [hn]
 rfl
theorem Wl (A:Array Oper) (n:Nat) (hn:ln A n=[]:=by rfl) (P:Program) (T:bJ) (ov:Ov):∀ (b j:Nat) (e:Env) (h:Heap) (Q:Env->Heap->Prop),b8 P T ov b A (ln A n) j e h Q=Q e h:=by
 intro b j e h Q
 rw [hn]
 rfl
theorem uk (K A B:Code) (hK:K=.seq A B:=by rfl) (P:Program) (T:bJ) (ov:Ov):∀ (rd:Option Nat) (e:Env) (h:Heap) (Q:Ex->Env->Heap->Prop),W P T ov rd K e h Q=W P T ov rd A e h (Dm P T ov rd B Q):=by
 subst hK
 intro rd e h Q
 exact zCp _ _ _ _ _
theorem zCG (K A B:Code) {o:Operand} (hK:K=.cond o A B:=by rfl) (P:Program) (T:bJ) (ov:Ov):∀ (rd:Option Nat) (e:Env) (h:Heap) (Q:Ex->Env->Heap->Prop),W P T ov rd K e h Q=Gb P T ov rd A B e h Q (bz e o):=by
 subst hK
 intro rd e h Q
 rfl
theorem RA (K A:Code) (hK:K=.block i A:=by rfl) (P:Program) (T:bJ) (ov:Ov):∀ (rd:Option Nat) (e:Env) (h:Heap) (Q:Ex->Env->Heap->Prop),W P T ov rd K e h Q=W P T ov rd A e h (xS i Q):=by
 subst hK
 intro rd e h Q
 exact zvI _ _ _ _ _
theorem zEd (K A:Code) (hK:K=.loop A:=by rfl) (P:Program) (T:bJ) (ov:Ov):∀ (rd:Option Nat) (e:Env) (h:Heap) (Q:Ex->Env->Heap->Prop),W P T ov rd K e h Q=W P T ov rd (.loop A) e h Q:=by
 subst hK
 intro rd e h Q
 rfl
theorem zC9 (K A:Code) (hK:K=.scope A:=by rfl) (P:Program) (T:bJ) (ov:Ov):∀ (rd:Option Nat) (e:Env) (h:Heap) (Q:Ex->Env->Heap->Prop),W P T ov rd K e h Q=W P T ov rd A e h Q:=by
 subst hK
 intro rd e h Q
 rfl
theorem zCK (K:Code) (hK:K=.exit i:=by rfl) (P:Program) (T:bJ) (ov:Ov):∀ (rd:Option Nat) (e:Env) (h:Heap) (Q:Ex->Env->Heap->Prop),W P T ov rd K e h Q=Q (.exit i) e h:=by
 subst hK
 intro rd e h Q
 rfl
theorem Wv (K:Code) (hK:K=.ret:=by rfl) (P:Program) (T:bJ) (ov:Ov):∀ (rd:Option Nat) (e:Env) (h:Heap) (Q:Ex->Env->Heap->Prop),W P T ov rd K e h Q=Q .ret e h:=by
 subst hK
 intro rd e h Q
 rfl
theorem zEh (K:Code) (hK:K=.skip:=by rfl) (P:Program) (T:bJ) (ov:Ov):∀ (rd:Option Nat) (e:Env) (h:Heap) (Q:Ex->Env->Heap->Prop),W P T ov rd K e h Q=Q .normal e h:=by
 subst hK
 intro rd e h Q
 rfl
theorem zCT (K:Code) (hK:K=.label i:=by rfl) (P:Program) (T:bJ) (ov:Ov):∀ (rd:Option Nat) (e:Env) (h:Heap) (Q:Ex->Env->Heap->Prop),W P T ov rd K e h Q=Q .normal e h:=by
 subst hK
 intro rd e h Q
 rfl
abbrev zCk (K:Code) (A:Array Oper):Prop:=∀ {P:Program} {T:bJ} {ov:Ov} {rd:Option Nat} {e:Env} {h0 h:Heap} {Q:Ex->Env->Heap->Prop},Ext h0 h->b8 P T ov (min h0.low h0.size) A (ln A 0) 0 e h (λe' h1=>pD h0 h1/\zG h0 Q e' h1)->W P T ov rd K e h Q
theorem zDs {K:Code} {A:Array Oper} (hK:K=.region i A true) (ht:CU A (mS A.toList [])=true):zCk K A:=by
 subst hK
 intro P T ov rd e h0 h Q z hw
 exact zAG (ops:=A.toList) z ht hw
theorem nd {p q:Prop} (h:p) (g:q):p/\q:=⟨h,g⟩
end Go.Am
namespace Go.Am
def aV:Code->Nat
 | .seq a b=>aV a+aV b+1
 | .cond _ a b=>aV a+aV b+1
 | .block _ a=>aV a+1
 | .loop a=>aV a+1
 | .scope a=>aV a+1
 | .rangeFunc _ _ a b=>aV a+aV b+1
 |_=>1
def fV:Code->Nat->Code
 | .seq a b,n=>if n=0 then .seq a b else if n<=aV a then fV a (n - 1) else fV b (n - 1 - aV a)
 | .cond o a b,n=>if n=0 then .cond o a b else if n<=aV a then fV a (n - 1) else fV b (n - 1 - aV a)
 | .block i a,n=>if n=0 then .block i a else fV a (n - 1)
 | .loop a,n=>if n=0 then .loop a else fV a (n - 1)
 | .scope a,n=>if n=0 then .scope a else fV a (n - 1)
 | .rangeFunc g ps a b,n=>if n=0 then .rangeFunc g ps a b else if n<=aV a then fV a (n - 1) else fV b (n - 1 - aV a)
 |c,_=>c
def codeOf (f:Func):Code:=f.body.getD .skip
def bI (f:Func):Nat->Code:=fV (codeOf f)
theorem XG (c:Code):fV c 0=c:=by cases c <;> rfl
def ny:List Oper->Nat->Option Tmp
 | [],_=>none
 |o::_,0=>o.dst
 |_::l,j+1=>ny l j
theorem zBi (l:List Oper) (j:Nat):ny l j=(l[j]?).bind (·.dst):=by
 induction l generalizing j with
 |nil=>rfl
 |cons o l ih=>cases j with
  |zero=>rfl
  |succ j=>exact ih j
def mN (L:List Oper) (e:Env):Option (Nat × Bool)->Bool
 |none=>true
 |some (j,g)=>Bp (e.get ((ny L j).getD 0)) g
def HU (L:List Oper) (o:Oper):Bool:=match o.guard with
 |none=>true
 |some (j,_)=>(ny L j).isSome
theorem YL {A:Array Oper} {o:Oper} (h:HU A.toList o=true) (e:Env):ma A o e=mN A.toList e o.guard:=by
 unfold HU at h
 unfold ma
 cases hg:o.guard with
 |none=>rfl
 |some p =>
  obtain ⟨j,g⟩:=p
  rw [hg] at h
  have e1:A[j]? = A.toList[j]? := by simp
  have h2:(ny A.toList j).isSome=true:=h
  show _=Bp (e.get ((ny A.toList j).getD 0)) g
  simp only [e1,<- zBi]
  cases hd:ny A.toList j with
  |none=>rw [hd] at h2;cases h2
  |some t=>rfl
def Ib:Code->Bool
 | .region _ A true=>CU A (mS A.toList [])
 |_=>false
theorem ez {K:Code} (hd:Ib K=true):zCk K (kr K):=by
 unfold Ib at hd
 split at hd
 .rename_i i A
  exact zDs rfl hd
 .cases hd
def nk:Code->Bool
 | .seq a b=>nk a && nk b
 | .cond _ a b=>nk a && nk b
 | .block _ a=>nk a
 | .loop a=>nk a
 | .scope a=>nk a
 | .rangeFunc _ _ a b=>nk a && nk b
 | .region i A d=>A.toList.all (HU A.toList) && (!d || Ib (.region i A d))
 |_=>true
def xu (A:Array Oper) (L:List Oper):List Oper->Nat->Prop
 | [],n=>∀ (P:Program) (T:bJ) (ov:Ov) (e:Env) (h:Heap) (Q:Env->Heap->Prop),di P T ov A (ln A n) e h Q=Q e h
 |o::l,n=>(∀ (P:Program) (T:bJ) (ov:Ov) (e:Env) (h:Heap) (Q:Env->Heap->Prop),di P T ov A (ln A n) e h Q=QK P T ov A o (ln A (n+1)) o.dst e h Q (mN L e o.guard))/\xu A L l (n+1)
def xw (A:Array Oper) (L:List Oper):List Oper->Nat->Prop
 | [],n=>∀ (P:Program) (T:bJ) (ov:Ov) (b j:Nat) (e:Env) (h:Heap) (Q:Env->Heap->Prop),b8 P T ov b A (ln A n) j e h Q=Q e h
 |o::l,n=>(∀ (P:Program) (T:bJ) (ov:Ov) (b:Nat) (e:Env) (h:Heap) (Q:Env->Heap->Prop),b8 P T ov b A (ln A n) n e h Q=Nj P T ov b A o (ln A (n+1)) n o.dst e h Q (mN L e o.guard) (eR o))/\xw A L l (n+1)
def cB (N:Nat->Code):Code->Nat->Prop
 | .seq a b,n=>(∀ (P:Program) (T:bJ) (ov:Ov) (rd:Option Nat) (e:Env) (h:Heap) (Q:Ex->Env->Heap->Prop),W P T ov rd (N n) e h Q=W P T ov rd (N (n+1)) e h (Dm P T ov rd (N (n+1+aV a)) Q))/\cB N a (n+1)/\cB N b (n+1+aV a)
 | .cond o a b,n=>(∀ (P:Program) (T:bJ) (ov:Ov) (rd:Option Nat) (e:Env) (h:Heap) (Q:Ex->Env->Heap->Prop),W P T ov rd (N n) e h Q=Gb P T ov rd (N (n+1)) (N (n+1+aV a)) e h Q (bz e o))/\cB N a (n+1)/\cB N b (n+1+aV a)
 | .block i a,n=>(∀ (P:Program) (T:bJ) (ov:Ov) (rd:Option Nat) (e:Env) (h:Heap) (Q:Ex->Env->Heap->Prop),W P T ov rd (N n) e h Q=W P T ov rd (N (n+1)) e h (xS i Q))/\cB N a (n+1)
 | .loop a,n=>(∀ (P:Program) (T:bJ) (ov:Ov) (rd:Option Nat) (e:Env) (h:Heap) (Q:Ex->Env->Heap->Prop),W P T ov rd (N n) e h Q=W P T ov rd (.loop (N (n+1))) e h Q)/\cB N a (n+1)
 | .scope a,n=>(∀ (P:Program) (T:bJ) (ov:Ov) (rd:Option Nat) (e:Env) (h:Heap) (Q:Ex->Env->Heap->Prop),W P T ov rd (N n) e h Q=W P T ov rd (N (n+1)) e h Q)/\cB N a (n+1)
 | .rangeFunc g ps a b,n=>(∀ (P:Program) (T:bJ) (ov:Ov) (rd:Option Nat) (e:Env) (h:Heap) (Q:Ex->Env->Heap->Prop),W P T ov rd (N n) e h Q=H8 P T ov rd (bz e g) ps.toList (N (n+1)) (N (n+1+aV a)) e h Q)/\cB N a (n+1)/\cB N b (n+1+aV a)
 | .region i A false,n=>(∀ (P:Program) (T:bJ) (ov:Ov) (rd:Option Nat) (e:Env) (h:Heap) (Q:Ex->Env->Heap->Prop),W P T ov rd (N n) e h Q=di P T ov (kr (N n)) (ln (kr (N n)) 0) e h (Q6 Q))/\xu (kr (N n)) A.toList A.toList 0
 | .region i A true,n=>Ib (N n)=true/\xw (kr (N n)) A.toList A.toList 0
 | .exit i,n=>∀ (P:Program) (T:bJ) (ov:Ov) (rd:Option Nat) (e:Env) (h:Heap) (Q:Ex->Env->Heap->Prop),W P T ov rd (N n) e h Q=Q (.exit i) e h
 | .ret,n=>∀ (P:Program) (T:bJ) (ov:Ov) (rd:Option Nat) (e:Env) (h:Heap) (Q:Ex->Env->Heap->Prop),W P T ov rd (N n) e h Q=Q .ret e h
 | .skip,n=>∀ (P:Program) (T:bJ) (ov:Ov) (rd:Option Nat) (e:Env) (h:Heap) (Q:Ex->Env->Heap->Prop),W P T ov rd (N n) e h Q=Q .normal e h
 | .label _,n=>∀ (P:Program) (T:bJ) (ov:Ov) (rd:Option Nat) (e:Env) (h:Heap) (Q:Ex->Env->Heap->Prop),W P T ov rd (N n) e h Q=Q .normal e h
 |_,_=>True
theorem zsT (A:Array Oper) (h:∀ o∈A.toList,HU A.toList o=true):∀ (l:List Oper) (n:Nat),ln A n=l->(∀ o∈l,o∈A.toList)->xu A A.toList l n
 | [],n,hl,_=>Ll A n hl
 |o::l,n,hl,hm=>by
  have nb:ln A (n+1)=l:=by
   unfold ln at hl ⊢
   have:=congrArg (List.drop 1) hl
   rw [BG] at this
   exact this
  refine ⟨λP T ov e h' Q=>?_,zsT A h l (n+1) nb (λx hx=>hm x (pS _ hx))⟩
  rw [hl,nb,ztz,YL (h o (hm o (np ..)))]
theorem zsV (A:Array Oper) (h:∀ o∈A.toList,HU A.toList o=true):∀ (l:List Oper) (n:Nat),ln A n=l->(∀ o∈l,o∈A.toList)->xw A A.toList l n
 | [],n,hl,_=>Wl A n hl
 |o::l,n,hl,hm=>by
  have nb:ln A (n+1)=l:=by
   unfold ln at hl ⊢
   have:=congrArg (List.drop 1) hl
   rw [BG] at this
   exact this
  refine ⟨λP T ov b e h' Q=>?_,zsV A h l (n+1) nb (λx hx=>hm x (pS _ hx))⟩
  rw [hl,nb,zqk,YL (h o (hm o (np ..)))]
theorem Hv {N:Nat->Code} {a b x:Code} {n:Nat} (h:∀ k,k < aV a+aV b+1->N (n+k)=fV x k) (ha:∀ k,0 < k->k<=aV a->fV x k=fV a (k - 1)) (hb:∀ k,aV a < k->fV x k=fV b (k - 1 - aV a)) (pa:0 < aV a) (pb:0 < aV b) :
 N (n+1)=a/\N (n+1+aV a)=b/\(∀ k,k < aV a->N (n+1+k)=fV a k)/\∀ k,k < aV b->N (n+1+aV a+k)=fV b k:=by
 have h1:∀ k,k < aV a->N (n+1+k)=fV a k:=λk hk=>by
  rw [show n+1+k=n+(k+1) by omega,h _ (by omega),ha _ (by omega) (by omega),De]
 have h2:∀ k,k < aV b->N (n+1+aV a+k)=fV b k:=λk hk=>by
  rw [show n+1+aV a+k=n+(k+1+aV a) by omega,h _ (by omega),hb _ (by omega)]
  congr 1
  omega
 have h3:=h1 0 pa
 have h4:=h2 0 pb
 rw [XG] at h3 h4
 exact ⟨h3,h4,h1,h2⟩
theorem lj (c:Code):0 < aV c:=by cases c <;> simp [aV]
theorem HN {N:Nat->Code} {a x:Code} {n:Nat} (h:∀ k,k < aV a+1->N (n+k)=fV x k) (ha:∀ k,0 < k->fV x k=fV a (k - 1)):N (n+1)=a/\∀ k,k < aV a->N (n+1+k)=fV a k:=by
 have h1:∀ k,k < aV a->N (n+1+k)=fV a k:=λk hk=>by
  rw [show n+1+k=n+(k+1) by omega,h _ (by omega),ha _ (by omega),De]
 have h3:=h1 0 (lj a)
 rw [XG] at h3
 exact ⟨h3,h1⟩
theorem yK (N:Nat->Code):∀ (c:Code) (n:Nat),nk c=true->(∀ k,k < aV c->N (n+k)=fV c k)->cB N c n
 | .seq a b,n,hw,h=>by
  have h0:N n=.seq a b:=h 0 (lj _)
  simp only [nk,dK] at hw
  obtain ⟨e1,e2,f1,f2⟩:=Hv (a:=a) (b:=b) h (λk h1 h2=>by simp only [fV];rw [az (by omega),aD h2]) (λk h1=>by simp only [fV];rw [az (by omega),az (by omega)]) (lj _) (lj _)
  exact ⟨λP T ov=>by rw [e1,e2];exact uk _ a b h0 P T ov,yK N a _ hw.1 f1,yK N b _ hw.2 f2⟩
 | .cond o a b,n,hw,h=>by
  have h0:N n=.cond o a b:=h 0 (lj _)
  simp only [nk,dK] at hw
  obtain ⟨e1,e2,f1,f2⟩:=Hv (a:=a) (b:=b) h (λk h1 h2=>by simp only [fV];rw [az (by omega),aD h2]) (λk h1=>by simp only [fV];rw [az (by omega),az (by omega)]) (lj _) (lj _)
  exact ⟨λP T ov=>by rw [e1,e2];exact zCG _ a b h0 P T ov,yK N a _ hw.1 f1,yK N b _ hw.2 f2⟩
 | .rangeFunc g ps a b,n,hw,h=>by
  have h0:N n=.rangeFunc g ps a b:=h 0 (lj _)
  simp only [nk,dK] at hw
  obtain ⟨e1,e2,f1,f2⟩:=Hv (a:=a) (b:=b) h (λk h1 h2=>by simp only [fV];rw [az (by omega),aD h2]) (λk h1=>by simp only [fV];rw [az (by omega),az (by omega)]) (lj _) (lj _)
  exact ⟨λP T ov rd e h' Q=>by rw [e1,e2,h0];rfl,yK N a _ hw.1 f1,yK N b _ hw.2 f2⟩
 | .block i a,n,hw,h=>by
  have h0:N n=.block i a:=h 0 (lj _)
  obtain ⟨e1,f1⟩:=HN (a:=a) h (λk h1=>by simp only [fV];rw [az (by omega)])
  exact ⟨λP T ov=>by rw [e1];exact RA _ a h0 P T ov,yK N a _ hw f1⟩
 | .loop a,n,hw,h=>by
  have h0:N n=.loop a:=h 0 (lj _)
  obtain ⟨e1,f1⟩:=HN (a:=a) h (λk h1=>by simp only [fV];rw [az (by omega)])
  exact ⟨λP T ov=>by rw [e1];exact zEd _ a h0 P T ov,yK N a _ hw f1⟩
 | .scope a,n,hw,h=>by
  have h0:N n=.scope a:=h 0 (lj _)
  obtain ⟨e1,f1⟩:=HN (a:=a) h (λk h1=>by simp only [fV];rw [az (by omega)])
  exact ⟨λP T ov=>by rw [e1];exact zC9 _ a h0 P T ov,yK N a _ hw f1⟩
 | .region i A false,n,hw,h=>by
  have h0:N n=.region i A false:=h 0 (lj _)
  have hr:kr (N n)=A:=by rw [h0];rfl
  simp only [nk,dK,iM] at hw
  refine ⟨λP T ov=>?_,?_⟩
  .rw [hr]
   exact Wu _ A h0 P T ov
  .rw [hr]
   exact zsT A hw.1 _ 0 rfl (λo ho=>ho)
 | .region i A true,n,hw,h=>by
  have h0:N n=.region i A true:=h 0 (lj _)
  have hr:kr (N n)=A:=by rw [h0];rfl
  simp only [nk,dK,iM,Bool.not_true,Gw] at hw
  refine ⟨?_,?_⟩
  .rw [h0]
   exact hw.2
  .rw [hr]
   exact zsV A hw.1 _ 0 rfl (λo ho=>ho)
 | .exit i,n,hw,h=>zCK _ (h 0 (lj _))
 | .ret,n,hw,h=>Wv _ (h 0 (lj _))
 | .skip,n,hw,h=>zEh _ (h 0 (lj _))
 | .label l,n,hw,h=>zCT _ (h 0 (lj _))
 | .goto l,n,hw,h=>trivial
 | .refuse w,n,hw,h=>trivial
theorem bM (N:Nat->Code) (f:Func) (hN:N=bI f:=by rfl) (hw:nk (codeOf f)=true:=by kernel_rfl):cB N (codeOf f) 0 :=
 yK N _ 0 hw (λk _=>by rw [hN,iA];rfl)
theorem bH {f:Func} (N:Nat->Code) (hN:N=bI f:=by rfl) (h:f.body.isSome=true:=by rfl):f.body=some (N 0):=by
 rw [hN]
 unfold bI
 rw [XG]
 unfold codeOf
 cases hb:f.body with
 |none=>rw [hb] at h;cases h
 |some c=>rfl
def CE:=PLift.up (And.intro @codeOf.eq_1 <| And.intro @cB.eq_1 <| And.intro @cB.eq_2 <| And.intro @cB.eq_3 <| And.intro @cB.eq_4 <| And.intro @cB.eq_5 <| And.intro @cB.eq_6 <| And.intro @cB.eq_7 <| And.intro @cB.eq_8 <| And.intro @cB.eq_9 <| And.intro @cB.eq_10 <| And.intro @cB.eq_11 <| And.intro @cB.eq_12 <| And.intro @cB.eq_13 <| And.intro @xu.eq_1 <| And.intro @xu.eq_2 <| And.intro @xw.eq_1 <| And.intro @xw.eq_2 <| And.intro @aV.eq_1 <| And.intro @aV.eq_2 <| And.intro @aV.eq_3 <| And.intro @aV.eq_4 <| And.intro @aV.eq_5 <| And.intro @aV.eq_6 <| And.intro @aV.eq_7 <| And.intro @mN.eq_1 <| And.intro @mN.eq_2 <| And.intro @ny.eq_1 <| And.intro @ny.eq_2 <| And.intro @ny.eq_3 <| And.intro @eR.eq_1 <| And.intro @Option.getD_some.{0} <| And.intro @List.append_eq.{0} <| And.intro @List.cons_append.{0} <| @List.nil_append.{0})
theorem aO:type_of% CE.down:=CE.down
theorem Ok.aA {P:Program} {T:bJ} {ov:Ov} {f:FuncId} {fn:Func} {c:Code} {args:List Value} {h:Heap} {K:Value->Heap->Prop} (m:Nat) (hc:fn.body=some c) (hw:W P T ov none c (args++List.replicate m undef) h (eI T fn K)) (ho:ov f=none:=by exact rfl) (hf:T.fn f=some fn:=by kernel_rfl) (zP:T.Jy f=false:=by exact rfl) (hm:fn.ntmps - args.length=m:=by exact rfl):Ok P T ov f args h K:=Ok.V8 ho hf hc zP hm hw
theorem bo {shape:(Nat->Value)->Env} {e:Env} (h:e=shape e.get:=by kernel_rfl):∃ J,e=shape J:=⟨_,h⟩
end Go.Am
namespace Go.Am
variable {T:bJ} {fn:Func} {K:aJ} {e:Env} {h:Heap}
theorem yW (hr:fn.results=#[]):eI T fn K .ret e h=K undef h:=by
 simp [eI,nI,hr,undef]
theorem yS (hr:fn.results=#[]):eI T fn K .normal e h=K undef h:=by
 simp [eI,nI,hr,undef]
theorem zwB {a b c:Tmp} (hr:fn.results=#[.tmp a,.tmp b,.tmp c]):eI T fn K .ret e h=K (.tuple #[e.get a,e.get b,e.get c]) h:=by
 simp [eI,nI,hr,uy]
theorem XE {a b:Tmp} {y:TypeId} (hr:fn.results=#[.cell a y,.tmp b]):eI T fn K .ret e h=aK (iz T y (e.get a) h) h (λx h'=>K (.tuple #[x,e.get b]) h'):=by
 cases hl:iz T y (e.get a) h with
 |none=>simp [eI,nI,hr,uy,aK,hl]
 |some x=>simp [eI,nI,hr,uy,aK,hl]
end Go.Am
