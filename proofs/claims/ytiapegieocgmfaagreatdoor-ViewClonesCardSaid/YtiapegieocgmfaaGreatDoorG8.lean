/- A law over plain arguments, told over every world: to the row. No condition. -/
import Derived.Test.YtiapegieocgmfaaGreatDoorG6
import Derived.Test.YtiapegieocgmfaaGreatDoorGRng
import Derived.Test.YtiapegieocgmfaaGreatDoorProg
import Derived.KernelRfl
set_option linter.unusedSimpArgs false
namespace Go.Am
open Go.RowKit Go.ChangeShapes Go.WideShapes Go.ChangeAt
section
variable {P:Program} {T:bI} {W:World} {H:Type} {enc:TypeId × ab->H}
theorem zqu {gs:List Nat} {k:FuncId} {args:List ab} {aK:Array ab} {h:Heap} {ρ:cm} {w:World} (hG:cX gs ρ) (hs:bP ρ h w) (hf:jI ρ h) (s9:h.low=h.size) (hv:cu ρ args aK.toList) (ho:zP P gs k args h λv h'=>v=.bool true/\Ext h h') :
 Calls P k aK w λe w'=>e=.returned (.bool true)/\Below w.heap.size w w':=by
 refine (ho ρ w aK hG hs hf hv).2.mono ?_
 rintro ed w' ⟨ρ',v,u,h',rfl,f1,s1,v1,rfl,x⟩
 refine ⟨by rw [v1.bD rfl],f1.below λA L hA=>?_⟩
 have h1:A < h.size:=by
  rcases lM A h.size with h2|h2
  .exact h2
  .rw [hf A h2] at hA;cases hA
 have:=x.low
 omega
theorem zmO {g:Nat} (BA:T.gs=[g]) {k:FuncId} {fn:Func} {s:ChangeSpec} {n boolT:Nat} {apart fresh handsOn again:Bool} {base:Nat} {args:Array ab} {ds gs:List (DataW H)} {before:List MemPlace}
 (ht:∀ c,c < 256->W.cell? ⟨g,c,none⟩=some (.int .u8 (Lib.asciiSpaceTab.getD c 0))) (hl:laidOutB P=true) (rm:s.vars=[]) (iq:fn.resultTypes.toList=[boolT]) (Sq:fn.resultTypes.size=1) (Dg:P.underlying boolT=some .bool)
 (Xq:fn.params.toList.all (zA P n)=true) (pt:fn.params.toList.all (λt=>P.readableRec t && decide (t < P.types.size))=true)
 (vl:∀ ds:List (DataW H),ds.length=fn.params.size->s.fn H ds={ results:=[.lit (.bool true)],args:=ds })
 (cE:∀ (h:Heap) (args:List ab),h.low=h.size->Holds h g (.row wX wV true)->Ay P h n fn.params.toList args->zP P T.gs k args h λv h'=>v=.bool true/\Ext h h')
 (ez:∀ (j:Nat) t v,fn.params[j]? = some t->args[j]? = some v->Value.okWide P W .any base t v)
 (hW:DataW.Whole enc P fn.params.toList s.vars apart W args.toList ds gs before) :
 Calls P k args W λe W'=>∃ v,e=.returned v/\s.post enc P fn apart fresh handsOn again W args v W':=by
 have hS:0 < W.heap.size:=by
  have:=ht 0 (by omega)
  unfold World.cell? at this
  split at this
  .rename_i c _ _ hh
   have:=(mQ.1 hh).1
   omega
  .cases this
 obtain ⟨M,xV⟩:=zrQ W
 have hM:0 < M:=Nat.lt_of_le_of_lt (lE _) (xV 0 hS)
 have hW':=hW
 obtain ⟨p,q,hA,hV,rfl,MT,iG⟩:=hW
 rw [rm] at hV
 obtain ⟨rfl,rfl⟩:=trodVars_none hV
 have hlen:∀ (ts:List TypeId) (vs:List ab) (ds:List (DataW H)) (ps:List MemPlace),DataW.TrodAll enc P W 0 (λ_=>true) true ts vs ds ps->ds.length=ts.length:=by
  intro ts
  induction ts with
  |nil=>intro vs ds ps h;cases vs <;> cases ds <;> first|rfl|cases h
  |cons t ts ih =>
   intro vs ds ps h
   cases vs with
   |nil=>cases h
   |cons v vs =>
    cases ds with
    |nil=>cases h
    |cons d ds=>obtain ⟨_,_,_,h2,_⟩:=h;simp [ih vs ds _ h2]
 have rf:=hlen _ _ _ _ hA
 have dx:(vU g).size=g+1:=rfl
 have cW:∀ A,(vU g).size<=A->we g A=none:=λA hA=>by
  rw [dx] at hA
  unfold we
  rw [az (by omega)]
 obtain ⟨oc,Ys⟩:=zpe (h:=vU g) (ρ:=we g) (n:=n) (base:=base) hS xV fn.params.toList args.toList ds p Xq (λj t v h1 h2=>ez j t v (by simpa using h1) (by simpa using h2)) hA
 have dV:=zy9 (W:=W) (h:=vU g) (ρ:=we g) (M:=M) (zpH ht) cW (λA L hA=>by
  unfold we at hA
  split at hA
  .rename_i e
   rw [e]
   exact ⟨wX,wV,by rw [zeM,aE rfl]⟩
  .cases hA) hM
 have s9:(v8 W (vU g) M).low=(v8 W (vU g) M).size:=by rw [PR];rfl
 have cG:Holds (v8 W (vU g) M) g (.row wX wV true):=⟨by rw [PR,dx];omega,by rw [zft (by rw [dx];omega),zeM,aE rfl]⟩
 refine (zqu ?_ dV (λA dS=>?_) s9 oc (cE _ _ s9 cG Ys)).mono λe W' ⟨he,hb⟩=>?_
 .rw [BA]
  intro x hx
  obtain rfl:x=g:=by simpa using hx
  refine ⟨0,?_⟩
  unfold rN
  rw [az (by rw [dx];omega)]
  unfold we
  rw [aE rfl]
 .rw [PR] at dS
  unfold rN
  rw [az (by omega)]
  exact cW A (by omega)
 .subst he
  have F5:=vl (ds++[]) (by rw [bu,rf];simp)
  refine ⟨_,rfl,zym (pa:=p) (pv:=[]) hW' (λb sp hd=>?_) (λsp cG=>?_) (λsp _=>?_) (by simp) hb (λj t r h1 h2=>?_)⟩
  .rw [iq,Sq,F5]
   exact trodAll_mk1 (shut_bool Dg true)
  .rw [F5]
   rw [bu]
   exact zg6 hl hb sp _ _ _ _ pt (λx hx=>hW'.lt x (by simp [hx])) (λx hx=>cG x (by simp [hx])) hA
  .rw [rm,F5]
   rfl
  .rw [Sq] at h2
   have hj:fn.resultTypes[j]? = some t:=h1
   have h3:fn.resultTypes.toList[j]? = some t:=by simpa using hj
   rw [iq] at h3
   cases j with
   |zero =>
    simp at h3 h2
    subst h3
    have:r=.bool true:=by simpa [Value.resultList] using h2.symm
    subst this
    exact okWide_bool_mk Dg true
   |succ j=>simp at h3
end
end Go.Am
namespace Go.Am

def jt {Z:Type}:List (List Z)->Nat->Option Z
 | [],_=>none
 |c::cs,i=>match Nat.blt i 16 with
  |true=>c[i]?
  |false=>jt cs (i - 16)
def Hf {Z:Type}:List (List Z)->Bool
 | []=>true
 | [_]=>true
 |c::cs=>c.length == 16 && Hf cs

theorem I0 {Z:Type}:∀ (l:List (List Z)) (i:Nat) (x:Z),Hf l=true->jt l i=some x->l.flatten[i]? = some x
 | [],_,_,_,h=>by simp [jt] at h
 | [c],i,x,_,h=>by
  simp only [jt] at h
  split at h
  .simpa using h
  .simp at h
 |c::d::cs,i,x,hw,h=>by
  simp only [Hf,ep,beq_iff_eq] at hw
  rw [List.flatten_cons]
  simp only [jt] at h
  split at h
  .rename_i hb
   have aT:i < 16:=by simpa [Nat.blt_eq] using hb
   rw [nc (by omega)]
   exact h
  .rename_i hb
   have ka:¬ i < 16:=by
    intro aT
    have:Nat.blt i 16=true:=by simpa [Nat.blt_eq] using aT
    rw [this] at hb
    cases hb
   rw [qu (by omega),hw.1]
   exact I0 (d::cs) (i - 16) x hw.2 (by simpa [jt] using h)

def zzY (py:List (List TypeInfo)) (t:TypeId):Option TypeDesc :=
 match jt py t with
 |some i=>match i.desc with
  | .named _ u=>(jt py u).map (·.desc)
  |d=>some d
 |none=>none

def Cg (i:TypeInfo):Bool:=match i.zero with
 |some z=>z.cells.toList.length == i.size && z.cells.toList.all mO
 |none=>false
def zz6 (py:List (List TypeInfo)) (NZ:List (List Bool)) (t:TypeId):Option (Nat × Nat × List ab) :=
 match jt NZ t with
 |some true=>match jt py t with
  |some i=>match i.zero with
   |some z=>some (i.size,i.bytes,z.cells.toList)
   |none=>none
  |none=>none
 |_=>none

def zAg (py:List (List TypeInfo)) (NZ:List (List Bool)) (t:TypeId):Option ab :=
 match jt NZ t with
 |some true=>match jt py t with
  |some i=>i.zero
  |none=>none
 |_=>none

def zz8 (py:List (List TypeInfo)) (t:TypeId) (name:String):Option Method :=
 match jt py t with
 |some i=>i.methods.find? (·.name == name)
 |none=>none

def zzV (gs:List Nat) (f:Func):Bool:=match f.body with
 |some c=>so gs c
 |none=>false
def Fu (gs:List Nat) (f:Func):Bool := !(f.name == "runtime.NumGoroutine") && zzV gs f
def L4 (fns:List (List Func)) (NZ:List (List Bool)) (f:FuncId):Option Func :=
 match jt NZ f with
 |some true=>jt fns f
 |_=>none

def ZU (P:Program) (t:TypeId):Bool := !P.stoodInHeld t && !P.eqGuardType P.depth t
def zCi (cs:List TypeId) (t:TypeId):Bool:=cs.any (Nat.beq t)
def Ez (py:List (List TypeInfo)) (jF:List (List Bool)) (fns:List (List Func)) (k7:List (List Bool)) (cs:List TypeId) (gs:List Nat) (ds:List FuncId):bI :=
 { desc:=zzY py,info:=zz6 py jF,fn:=L4 fns k7,cmp:=zCi cs,zero:=zAg py jF,gs:=gs,ze:=zz8 py,LS:=λf=>ds.any (Nat.beq f) }

theorem ztY {P:Program} {py:List (List TypeInfo)} {jF:List (List Bool)} {fns:List (List Func)} {k7:List (List Bool)} {cs:List TypeId} {gs:List Nat} {ds:List FuncId} (lS:cs.all (ZU P)=true)
 (w1:Hf py=true) (w2:Hf jF=true) (w3:Hf fns=true) (w4:Hf k7=true) (h1:P.types.toList=py.flatten) (h2:P.types.toList.map Cg=jF.flatten) (h3:P.funcs.toList=fns.flatten) (h4:P.funcs.toList.map (Fu gs)=k7.flatten) :
 (Ez py jF fns k7 cs gs ds).Fits P:=by
 have q8:∀ t i,jt py t=some i->P.types.toList[t]? = some i:=λt i hi=>by rw [h1];exact I0 py t i w1 hi
 have GF:∀ t i,jt py t=some i->P.info? t=some i:=by
  intro t i hi
  have mV:P.types[t]? = some i:=by simpa using q8 t i hi
  have aT:t < P.types.size:=(mQ.1 mV).1
  unfold Tables.info?
  rw [aE aT,mV]
 refine ⟨?_,?_,?_,?_,?_,?_⟩
 .intro t d hd
  simp only [Ez,zzY] at hd
  split at hd
  .rename_i i hi
   have h4:=GF t i hi
   unfold Program.underlying
   rw [h4]
   obtain ⟨desc,str,size,bytes,hp,al,fa,zero,comp,ms⟩:=i
   cases desc <;> simp only at hd ⊢ <;> first
    |exact hd
    |(simp only [cA] at hd
      obtain ⟨j,hj,rfl⟩:=hd
      rw [GF _ j hj]
      rfl)
  .cases hd
 .intro t n b z hz
  simp only [Ez,zz6] at hz
  split at hz
  .rename_i cE
   split at hz
   .rename_i i hi
    split at hz
    .rename_i zv hzv
     simp only [dO,cV] at hz
     obtain ⟨rfl,rfl,rfl⟩:=hz
     have h5:=I0 jF t true w2 cE
     rw [<- h2,lC,q8 t i hi,jn,dO] at h5
     simp only [Cg,hzv,ep,beq_iff_eq] at h5
     exact ⟨i,zv,GF t i hi,rfl,rfl,hzv,rfl,h5.1,h5.2⟩
    .cases hz
   .cases hz
  .cases hz
 .intro f fn hf
  simp only [Ez,L4] at hf
  split at hf
  .rename_i cE
   have h5:=I0 k7 f true w4 cE
   have h6:=I0 fns f fn w3 hf
   rw [<- h3] at h6
   rw [<- h4,lC,h6,jn,dO] at h5
   simp only [Fu,ep,CO] at h5
   refine ⟨by simpa using h6,h5.1,λc FU=>?_⟩
   have:=h5.2
   unfold zzV at this
   rw [FU] at this
   exact this
  .cases hf
 .intro t ht
  simp only [Ez,zCi,xy] at ht
  obtain ⟨u,hu,he⟩:=ht
  have:t=u:=Nat.eq_of_beq_eq_true he
  subst this
  have:=iT.1 lS t hu
  simpa [ZU] using this
 .intro t v hv
  simp only [Ez,zAg] at hv
  split at hv
  .rename_i cE
   split at hv
   .rename_i i hi
    have h5:=I0 jF t true w2 cE
    rw [<- h2,lC,q8 t i hi,jn,dO] at h5
    simp only [Cg,hv,ep,beq_iff_eq] at h5
    refine ⟨⟨i,GF t i hi,hv⟩,?_⟩
    have h6:=h5.2
    cases v <;> simpa [plain,Value.cells] using h6
   .cases hv
  .cases hv
 .intro t name m hm
  simp only [Ez,zz8] at hm
  split at hm
  .rename_i i hi;exact ⟨i,GF t i hi,hm⟩
  .cases hm
end Go.Am
namespace Go.Proofs.YtiapegieocgmfaaGreatDoor
open Go.Am Tryz
noncomputable def DP:List (List TypeInfo):=[[t0,t1,t2,t3,t4,t5,t6,t7,t8,t9,t10,t11,t12,t13,t14,t15],
 [t16,t17,t18,t19,t20,t21,t22,t23,t24,t25,t26,t27,t28,t29,t30,t31],
 [t32,t33,t34,t35,t36,t37,t38,t39,t40,t41,t42,t43,t44,t45,t46,t47],
 [t48,t49,t50,t51,t52,t53,t54,t55,t56,t57,t58,t59,t60,t61,t62,t63],
 [t64,t65,t66,t67,t68,t69,t70,t71,t72,t73,t74,t75,t76,t77,t78,t79],
 [t80,t81,t82,t83,t84,t85,t86,t87,t88,t89,t90,t91,t92,t93,t94,t95],
 [t96,t97,t98,t99,t100,t101,t102,t103,t104,t105,t106,t107,t108,t109,t110,t111],
 [t112,t113,t114,t115,t116,t117,t118,t119,t120,t121,t122,t123,t124,t125,t126,t127],
 [t128,t129,t130,t131,t132,t133,t134,t135,t136,t137,t138,t139,t140,t141,t142,t143],
 [t144,t145,t146,t147,t148,t149,t150,t151,t152,t153,t154,t155,t156,t157,t158,t159],
 [t160,t161,t162,t163,t164,t165,t166,t167,t168,t169,t170,t171,t172,t173,t174,t175],
 [t176,t177,t178,t179,t180,t181,t182,t183,t184,t185,t186,t187,t188,t189,t190,t191],
 [t192,t193,t194,t195,t196,t197,t198,t199,t200,t201,t202,t203,t204,t205,t206,t207],
 [t208,t209,t210,t211,t212,t213,t214,t215,t216,t217,t218,t219,t220,t221,t222,t223],
 [t224,t225,t226,t227,t228,t229,t230,t231,t232,t233,t234,t235,t236,t237,t238,t239],
 [t240,t241,t242,t243,t244,t245,t246,t247,t248,t249,t250,t251,t252,t253,t254,t255],
 [t256,t257,t258,t259,t260,t261,t262,t263,t264,t265,t266,t267,t268]]
def jF:List (List Bool):=[[false,true,true,true,true,true,true,true,true,true,true,true,true,true,true,true],
 [true,true,true,true,true,true,true,true,true,true,true,true,true,true,true,true],
 [true,true,true,false,true,true,true,true,true,true,true,true,true,true,true,true],
 [true,true,true,true,true,true,false,true,true,true,true,true,true,true,true,true],
 [true,true,true,true,true,true,true,false,true,false,true,true,true,true,true,true],
 [true,true,true,true,true,true,true,true,true,true,true,true,true,true,true,true],
 [true,true,true,true,true,true,true,true,true,true,true,true,true,true,true,true],
 [true,true,true,false,true,true,false,true,true,true,false,true,true,true,true,true],
 [true,true,true,true,true,true,true,true,true,true,true,true,true,true,true,true],
 [true,true,true,true,true,true,true,true,true,true,true,true,true,true,true,true],
 [true,true,true,true,true,true,true,true,true,false,true,true,true,true,true,true],
 [true,true,true,false,true,true,true,true,true,true,true,true,true,true,true,true],
 [true,true,true,true,true,true,true,true,true,true,true,true,true,true,true,true],
 [true,true,true,true,true,true,true,true,true,false,true,true,true,true,true,true],
 [true,true,true,true,false,true,true,true,true,true,true,true,true,true,true,true],
 [true,true,true,true,true,true,true,true,true,true,true,true,true,true,true,true],
 [true,true,true,true,true,true,true,true,true,true,true,true,true]]
noncomputable def Db:List (List Func):=[[f0,f1,f2,f3,f4,f5,f6,f7,f8,f9,f10,f11,f12,f13,f14,f15],
 [f16,f17,f18,f19,f20,f21,f22,f23,f24,f25,f26,f27,f28,f29,f30,f31],
 [f32,f33,f34,f35,f36,f37,f38,f39,f40,f41,f42,f43,f44,f45,f46,f47],
 [f48,f49,f50,f51,f52,f53,f54,f55,f56,f57,f58,f59,f60,f61,f62,f63],
 [f64,f65,f66,f67,f68,f69,f70,f71,f72,f73,f74,f75,f76,f77,f78,f79],
 [f80,f81,f82,f83,f84,f85,f86,f87,f88,f89,f90,f91,f92,f93,f94,f95],
 [f96,f97,f98,f99,f100,f101,f102,f103,f104,f105,f106,f107,f108,f109,f110,f111],
 [f112,f113,f114,f115,f116,f117,f118,f119,f120,f121,f122,f123,f124,f125,f126,f127],
 [f128,f129,f130,f131,f132,f133,f134,f135,f136,f137,f138,f139,f140,f141,f142,f143],
 [f144,f145,f146,f147,f148,f149,f150,f151,f152,f153,f154,f155,f156,f157,f158,f159],
 [f160,f161,f162,f163,f164,f165,f166,f167,f168,f169,f170,f171,f172,f173,f174,f175],
 [f176,f177,f178,f179,f180,f181,f182,f183,f184,f185,f186,f187,f188,f189,f190,f191],
 [f192,f193,f194,f195,f196,f197,f198,f199,f200,f201,f202,f203,f204,f205,f206,f207],
 [f208,f209,f210,f211,f212,f213,f214,f215,f216,f217,f218,f219,f220,f221,f222,f223],
 [f224,f225,f226,f227,f228,f229,f230,f231,f232,f233,f234,f235,f236,f237,f238]]
def k7:List (List Bool):=[[false,false,true,true,true,true,true,true,true,true,true,true,true,true,true,true],
 [true,true,true,true,true,true,true,true,true,true,true,true,true,true,true,true],
 [true,true,true,true,true,true,true,true,true,true,true,true,true,true,true,true],
 [true,true,true,true,true,true,true,true,true,true,true,true,true,true,true,true],
 [true,true,true,true,true,true,true,true,true,true,true,true,true,true,true,true],
 [true,true,true,true,true,true,true,true,true,true,true,true,true,true,true,true],
 [true,true,true,true,true,false,true,true,true,true,true,true,true,true,true,true],
 [true,true,true,true,true,true,true,true,true,true,true,true,true,true,true,true],
 [true,true,true,true,true,true,true,true,true,true,true,true,true,true,true,true],
 [true,true,true,true,true,true,true,true,true,true,true,true,true,true,true,true],
 [true,true,true,true,true,true,true,true,true,true,true,true,true,true,true,true],
 [true,true,true,true,true,true,true,false,true,true,true,true,true,true,true,true],
 [true,true,true,true,true,true,true,true,false,false,false,true,true,true,false,false],
 [false,false,false,false,false,false,false,false,false,false,false,false,false,false,true,true],
 [true,true,true,false,true,false,false,false,false,false,false,false,false,false,false]]
def xP:List TypeId:=[7,8,43,44,45,46,47,51,52,61,62,149,150,178,233,240,241,249,250,252,253]
noncomputable def aD:bI:=Ez DP jF Db k7 xP [1] []
theorem zxG:prog.types.toList=DP.flatten:=by kernel_rfl
theorem zxF:prog.types.toList.map Cg=jF.flatten:=by kernel_rfl
theorem zxE:prog.funcs.toList=Db.flatten:=by kernel_rfl
theorem zxD:prog.funcs.toList.map (Fu [1])=k7.flatten:=by kernel_rfl
theorem tB:aD.Fits prog:=ztY (show xP.all (ZU prog)=true by kernel_rfl) (by kernel_rfl) (by kernel_rfl) (by kernel_rfl) (by kernel_rfl) zxG zxF zxE zxD
theorem mixed:prog.follows .mixedOrders=true:=by kernel_rfl
theorem zpQ:aD.info 3=some (1,8,[.int .i64 0]):=by kernel_rfl
theorem D9:aD.info 9=some (1,16,[.string ⟨#[]⟩]):=by kernel_rfl
theorem zuP:aD.info 22=some (1,24,[.slice none 0 0]):=by kernel_rfl
theorem zuQ:aD.info 28=some (7,136,[.slice none 0 0,.slice none 0 0,.slice none 0 0,.int .i64 0,.int .i64 0,.slice none 0 0,.slice none 0 0]):=by kernel_rfl
theorem zlS:aD.info 38=some (1,24,[.slice none 0 0]):=by kernel_rfl
theorem zuR:aD.info 40=some (1,24,[.slice none 0 0]):=by kernel_rfl
theorem zuS:aD.info 44=some (2,24,[.bool false,.string ⟨#[]⟩]):=by kernel_rfl
theorem tD:aD.info 47=some (11,136,[.string ⟨#[]⟩,.string ⟨#[]⟩,.int .i64 0,.bool false,.string ⟨#[]⟩,.bool false,.string ⟨#[]⟩,.bool false,.string ⟨#[]⟩,.bool false,.string ⟨#[]⟩]):=by kernel_rfl
theorem zlT:aD.info 49=some (1,8,[.int .u64 0]):=by kernel_rfl
theorem zhE:aD.info 62=some (2,24,[.string ⟨#[]⟩,.int .i64 0]):=by kernel_rfl
theorem zlU:aD.info 64=some (2,40,[.string ⟨#[]⟩,.slice none 0 0]):=by kernel_rfl
theorem zlV:aD.info 67=some (12,160,[.string ⟨#[]⟩,.string ⟨#[]⟩,.int .i64 0,.bool false,.string ⟨#[]⟩,.bool false,.string ⟨#[]⟩,.bool false,.string ⟨#[]⟩,.bool false,.string ⟨#[]⟩,.slice none 0 0]):=by kernel_rfl
theorem zlW:aD.info 70=some (13,176,[.string ⟨#[]⟩,.string ⟨#[]⟩,.string ⟨#[]⟩,.int .i64 0,.bool false,.string ⟨#[]⟩,.bool false,.string ⟨#[]⟩,.bool false,.string ⟨#[]⟩,.bool false,.string ⟨#[]⟩,.slice none 0 0]):=by kernel_rfl
theorem zuT:aD.info 83=some (2,32,[.slice none 0 0,.int .u64 0]):=by kernel_rfl
theorem zuU:aD.info 86=some (1,24,[.slice none 0 0]):=by kernel_rfl
theorem zrE:aD.info 104=some (1,8,[.nilFunc]):=by kernel_rfl
theorem zj2:aD.info 110=some (3,48,[.string ⟨#[]⟩,.slice none 0 0,.int .u64 0]):=by kernel_rfl
theorem zj3:aD.info 150=some (2,24,[.string ⟨#[]⟩,.int .i64 0]):=by kernel_rfl
theorem zrF:aD.info 159=some (1,8,[.nilFunc]):=by kernel_rfl
theorem zrG:aD.info 178=some (0,0,[]):=by kernel_rfl
theorem zBI:aD.fn 3=some f3:=by kernel_rfl
theorem zBJ:aD.fn 4=some f4:=by kernel_rfl
theorem zBK:aD.fn 8=some f8:=by kernel_rfl
theorem zzy:aD.fn 41=some f41:=by kernel_rfl
theorem zzz:aD.fn 42=some f42:=by kernel_rfl
theorem zzA:aD.fn 61=some f61:=by kernel_rfl
theorem zpN:aD.fn 137=some f137:=by kernel_rfl
theorem zpO:aD.fn 170=some f170:=by kernel_rfl
theorem zpP:aD.fn 189=some f189:=by kernel_rfl
end Go.Proofs.YtiapegieocgmfaaGreatDoor
