/- A law over plain arguments, told over every world: to the row. No condition. -/
import Derived.Test.YtmamldleclamjaaGreatDoorG6
import Derived.Test.YtmamldleclamjaaGreatDoorGRng
import Derived.Test.YtmamldleclamjaaGreatDoorProg
import Derived.KernelRfl
set_option linter.unusedSimpArgs false
namespace Go.Am
open Go.RowKit Go.ChangeShapes Go.WideShapes Go.ChangeAt
section
variable {P:Program} {T:bO} {W:World} {H:Type} {enc:TypeId × ah->H}
theorem zqy {gs:List Nat} {k:FuncId} {args:List ah} {aO:Array ah} {h:Heap} {ρ:cn} {w:World} (hG:cX gs ρ) (hs:bR ρ h w) (hf:jC ρ h) (s8:h.low=h.size) (hv:cx ρ args aO.toList) (ho:zn P gs k args h λv h'=>v=.bool true/\Ext h h') :
 Calls P k aO w λe w'=>e=.returned (.bool true)/\Below w.heap.size w w':=by
 refine (ho ρ w aO hG hs hf hv).2.mono ?_
 rintro ed w' ⟨ρ',v,u,h',rfl,f1,s1,v1,rfl,x⟩
 refine ⟨by rw [v1.bI rfl],f1.below λA L hA=>?_⟩
 have h1:A < h.size:=by
  rcases lB A h.size with h2|h2
  .exact h2
  .rw [hf A h2] at hA;cases hA
 have:=x.low
 omega
theorem zmW {g:Nat} (u7:T.gs=[g]) {k:FuncId} {fn:Func} {s:ChangeSpec} {n boolT:Nat} {apart fresh handsOn again:Bool} {base:Nat} {args:Array ah} {ds gs:List (DataW H)} {before:List MemPlace}
 (ht:∀ c,c < 256->W.cell? ⟨g,c,none⟩=some (.int .u8 (Lib.asciiSpaceTab.getD c 0))) (hl:laidOutB P=true) (qY:s.vars=[]) (jU:fn.resultTypes.toList=[boolT]) (M1:fn.resultTypes.size=1) (CG:P.underlying boolT=some .bool)
 (Xd:fn.params.toList.all (y9 P n)=true) (oX:fn.params.toList.all (λt=>P.readableRec t && decide (t < P.types.size))=true)
 (u5:∀ ds:List (DataW H),ds.length=fn.params.size->s.fn H ds={ results:=[.lit (.bool true)],args:=ds })
 (cE:∀ (h:Heap) (args:List ah),h.low=h.size->Holds h g (.row wN wL true)->Ab P h n fn.params.toList args->zn P T.gs k args h λv h'=>v=.bool true/\Ext h h')
 (dS:∀ (j:Nat) t v,fn.params[j]? = some t->args[j]? = some v->Value.okWide P W .any base t v)
 (hW:DataW.Whole enc P fn.params.toList s.vars apart W args.toList ds gs before) :
 Calls P k args W λe W'=>∃ v,e=.returned v/\s.post enc P fn apart fresh handsOn again W args v W':=by
 have hS:0 < W.heap.size:=by
  have:=ht 0 (by omega)
  unfold World.cell? at this
  split at this
  .rename_i c _ _ hh
   have:=(mO.1 hh).1
   omega
  .cases this
 obtain ⟨M,xy⟩:=zrS W
 have hM:0 < M:=Nat.lt_of_le_of_lt (i6 _) (xy 0 hS)
 have hW':=hW
 obtain ⟨p,q,hA,hV,rfl,Mz,gw⟩:=hW
 rw [qY] at hV
 obtain ⟨rfl,rfl⟩:=trodVars_none hV
 have hlen:∀ (ts:List TypeId) (vs:List ah) (ds:List (DataW H)) (ps:List MemPlace),DataW.TrodAll enc P W 0 (λ_=>true) true ts vs ds ps->ds.length=ts.length:=by
  intro ts
  induction ts with
  |nil=>intro vs ds ps h;cases vs <;> cases ds <;> first|rfl|cases h
  |cons t ts ih =>
   intro vs ds ps h
   cases vs with
   |nil=>cases h
   |cons v vs =>
    cases ds with
    |nil=>cases h
    |cons d ds=>obtain ⟨_,_,_,h2,_⟩:=h;simp [ih vs ds _ h2]
 have sP:=hlen _ _ _ _ hA
 have dF:(vM g).size=g+1:=rfl
 have cQ:∀ A,(vM g).size<=A->vR g A=none:=λA hA=>by
  rw [dF] at hA
  unfold vR
  rw [aA (by omega)]
 obtain ⟨nI,Yh⟩:=zpr (h:=vM g) (ρ:=vR g) (n:=n) (base:=base) hS xy fn.params.toList args.toList ds p Xd (λj t v h1 h2=>dS j t v (by simpa using h1) (by simpa using h2)) hA
 have dR:=zzz (W:=W) (h:=vM g) (ρ:=vR g) (M:=M) (zpN ht) cQ (λA L hA=>by
  unfold vR at hA
  split at hA
  .rename_i e
   rw [e]
   exact ⟨wN,wL,by rw [Z4,aB rfl]⟩
  .cases hA) hM
 have s8:(vQ W (vM g) M).low=(vQ W (vM g) M).size:=by rw [Pw];rfl
 have cR:Holds (vQ W (vM g) M) g (.row wN wL true):=⟨by rw [Pw,dF];omega,by rw [zfu (by rw [dF];omega),Z4,aB rfl]⟩
 refine (zqy ?_ dR (λA dO=>?_) s8 nI (cE _ _ s8 cR Yh)).mono λe W' ⟨he,hb⟩=>?_
 .rw [u7]
  intro x hx
  obtain rfl:x=g:=by simpa using hx
  refine ⟨0,?_⟩
  unfold ry
  rw [aA (by rw [dF];omega)]
  unfold vR
  rw [aB rfl]
 .rw [Pw] at dO
  unfold ry
  rw [aA (by omega)]
  exact cQ A (by omega)
 .subst he
  have Fs:=u5 (ds++[]) (by rw [bG,sP];simp)
  refine ⟨_,rfl,zyJ (pa:=p) (pv:=[]) hW' (λb sp hd=>?_) (λsp cR=>?_) (λsp _=>?_) (by simp) hb (λj t r h1 h2=>?_)⟩
  .rw [jU,M1,Fs]
   exact trodAll_mk1 (shut_bool CG true)
  .rw [Fs]
   rw [bG]
   exact zg6 hl hb sp _ _ _ _ oX (λx hx=>hW'.lt x (by simp [hx])) (λx hx=>cR x (by simp [hx])) hA
  .rw [qY,Fs]
   rfl
  .rw [M1] at h2
   have hj:fn.resultTypes[j]? = some t:=h1
   have h3:fn.resultTypes.toList[j]? = some t:=by simpa using hj
   rw [jU] at h3
   cases j with
   |zero =>
    simp at h3 h2
    subst h3
    have:r=.bool true:=by simpa [Value.resultList] using h2.symm
    subst this
    exact okWide_bool_mk CG true
   |succ j=>simp at h3
end
end Go.Am
namespace Go.Am

def jq {Z:Type}:List (List Z)->Nat->Option Z
 | [],_=>none
 |c::cs,i=>match Nat.blt i 16 with
  |true=>c[i]?
  |false=>jq cs (i - 16)
def GK {Z:Type}:List (List Z)->Bool
 | []=>true
 | [_]=>true
 |c::cs=>c.length == 16 && GK cs

theorem IF {Z:Type}:∀ (l:List (List Z)) (i:Nat) (x:Z),GK l=true->jq l i=some x->l.flatten[i]? = some x
 | [],_,_,_,h=>by simp [jq] at h
 | [c],i,x,_,h=>by
  simp only [jq] at h
  split at h
  .simpa using h
  .simp at h
 |c::d::cs,i,x,hw,h=>by
  simp only [GK,eo,beq_iff_eq] at hw
  rw [List.flatten_cons]
  simp only [jq] at h
  split at h
  .rename_i hb
   have aW:i < 16:=by simpa [Nat.blt_eq] using hb
   rw [nz (by omega)]
   exact h
  .rename_i hb
   have kW:¬ i < 16:=by
    intro aW
    have:Nat.blt i 16=true:=by simpa [Nat.blt_eq] using aW
    rw [this] at hb
    cases hb
   rw [qC (by omega),hw.1]
   exact IF (d::cs) (i - 16) x hw.2 (by simpa [jq] using h)

def zAl (pc:List (List TypeInfo)) (t:TypeId):Option TypeDesc :=
 match jq pc t with
 |some i=>match i.desc with
  | .named _ u=>(jq pc u).map (·.desc)
  |d=>some d
 |none=>none

def BL (i:TypeInfo):Bool:=match i.zero with
 |some z=>z.cells.toList.length == i.size && z.cells.toList.all mz
 |none=>false
def zAs (pc:List (List TypeInfo)) (NC:List (List Bool)) (t:TypeId):Option (Nat × Nat × List ah) :=
 match jq NC t with
 |some true=>match jq pc t with
  |some i=>match i.zero with
   |some z=>some (i.size,i.bytes,z.cells.toList)
   |none=>none
  |none=>none
 |_=>none

def zAC (pc:List (List TypeInfo)) (NC:List (List Bool)) (t:TypeId):Option ah :=
 match jq NC t with
 |some true=>match jq pc t with
  |some i=>i.zero
  |none=>none
 |_=>none

def zAu (pc:List (List TypeInfo)) (t:TypeId) (name:String):Option Method :=
 match jq pc t with
 |some i=>i.methods.find? (·.name == name)
 |none=>none

def zAh (gs:List Nat) (f:Func):Bool:=match f.body with
 |some c=>r9 gs c
 |none=>false
def EM (gs:List Nat) (f:Func):Bool := !(f.name == "runtime.NumGoroutine") && zAh gs f
def LI (fns:List (List Func)) (NC:List (List Bool)) (f:FuncId):Option Func :=
 match jq NC f with
 |some true=>jq fns f
 |_=>none

def ZO (P:Program) (t:TypeId):Bool := !P.stoodInHeld t && !P.eqGuardType P.depth t
def zCZ (cs:List TypeId) (t:TypeId):Bool:=cs.any (Nat.beq t)
def DU (pc:List (List TypeInfo)) (jz:List (List Bool)) (fns:List (List Func)) (kQ:List (List Bool)) (cs:List TypeId) (gs:List Nat) (ds:List FuncId):bO :=
 { desc:=zAl pc,info:=zAs pc jz,fn:=LI fns kQ,cmp:=zCZ cs,zero:=zAC pc jz,gs:=gs,yH:=zAu pc,Lw:=λf=>ds.any (Nat.beq f) }

theorem zt6 {P:Program} {pc:List (List TypeInfo)} {jz:List (List Bool)} {fns:List (List Func)} {kQ:List (List Bool)} {cs:List TypeId} {gs:List Nat} {ds:List FuncId} (mj:cs.all (ZO P)=true)
 (w1:GK pc=true) (w2:GK jz=true) (w3:GK fns=true) (w4:GK kQ=true) (h1:P.types.toList=pc.flatten) (h2:P.types.toList.map BL=jz.flatten) (h3:P.funcs.toList=fns.flatten) (h4:P.funcs.toList.map (EM gs)=kQ.flatten) :
 (DU pc jz fns kQ cs gs ds).Fits P:=by
 have qS:∀ t i,jq pc t=some i->P.types.toList[t]? = some i:=λt i hi=>by rw [h1];exact IF pc t i w1 hi
 have F8:∀ t i,jq pc t=some i->P.info? t=some i:=by
  intro t i hi
  have m9:P.types[t]? = some i:=by simpa using qS t i hi
  have aW:t < P.types.size:=(mO.1 m9).1
  unfold Tables.info?
  rw [aB aW,m9]
 refine ⟨?_,?_,?_,?_,?_,?_⟩
 .intro t d hd
  simp only [DU,zAl] at hd
  split at hd
  .rename_i i hi
   have h4:=F8 t i hi
   unfold Program.underlying
   rw [h4]
   obtain ⟨desc,str,size,bytes,hp,al,fa,zero,comp,ms⟩:=i
   cases desc <;> simp only at hd ⊢ <;> first
    |exact hd
    |(simp only [cD] at hd
      obtain ⟨j,hj,rfl⟩:=hd
      rw [F8 _ j hj]
      rfl)
  .cases hd
 .intro t n b z hz
  simp only [DU,zAs] at hz
  split at hz
  .rename_i cE
   split at hz
   .rename_i i hi
    split at hz
    .rename_i zv hzv
     simp only [eh,da] at hz
     obtain ⟨rfl,rfl,rfl⟩:=hz
     have h5:=IF jz t true w2 cE
     rw [<- h2,lS,qS t i hi,j2,eh] at h5
     simp only [BL,hzv,eo,beq_iff_eq] at h5
     exact ⟨i,zv,F8 t i hi,rfl,rfl,hzv,rfl,h5.1,h5.2⟩
    .cases hz
   .cases hz
  .cases hz
 .intro f fn hf
  simp only [DU,LI] at hf
  split at hf
  .rename_i cE
   have h5:=IF kQ f true w4 cE
   have h6:=IF fns f fn w3 hf
   rw [<- h3] at h6
   rw [<- h4,lS,h6,j2,eh] at h5
   simp only [EM,eo,DT] at h5
   refine ⟨by simpa using h6,h5.1,λc Ia=>?_⟩
   have:=h5.2
   unfold zAh at this
   rw [Ia] at this
   exact this
  .cases hf
 .intro t ht
  simp only [DU,zCZ,tF] at ht
  obtain ⟨u,hu,he⟩:=ht
  have:t=u:=Nat.eq_of_beq_eq_true he
  subst this
  have:=jh.1 mj t hu
  simpa [ZO] using this
 .intro t v hv
  simp only [DU,zAC] at hv
  split at hv
  .rename_i cE
   split at hv
   .rename_i i hi
    have h5:=IF jz t true w2 cE
    rw [<- h2,lS,qS t i hi,j2,eh] at h5
    simp only [BL,hv,eo,beq_iff_eq] at h5
    refine ⟨⟨i,F8 t i hi,hv⟩,?_⟩
    have h6:=h5.2
    cases v <;> simpa [plain,Value.cells] using h6
   .cases hv
  .cases hv
 .intro t name m hm
  simp only [DU,zAu] at hm
  split at hm
  .rename_i i hi;exact ⟨i,F8 t i hi,hm⟩
  .cases hm
end Go.Am
namespace Go.Proofs.YtmamldleclamjaaGreatDoor
open Go.Am Tryz
noncomputable def Dc:List (List TypeInfo):=[[t0,t1,t2,t3,t4,t5,t6,t7,t8,t9,t10,t11,t12,t13,t14,t15],
 [t16,t17,t18,t19,t20,t21,t22,t23,t24,t25,t26,t27,t28,t29,t30,t31],
 [t32,t33,t34,t35,t36,t37,t38,t39,t40,t41,t42,t43,t44,t45,t46,t47],
 [t48,t49,t50,t51,t52,t53,t54,t55,t56,t57,t58,t59,t60,t61,t62,t63],
 [t64,t65,t66,t67,t68,t69,t70,t71,t72,t73,t74,t75,t76,t77,t78,t79],
 [t80,t81,t82,t83,t84,t85,t86,t87,t88,t89,t90,t91,t92,t93,t94,t95],
 [t96,t97,t98,t99,t100,t101,t102,t103,t104,t105,t106,t107,t108,t109,t110,t111],
 [t112,t113,t114,t115,t116,t117,t118,t119,t120,t121,t122,t123,t124,t125,t126,t127],
 [t128,t129,t130,t131,t132,t133,t134,t135,t136,t137,t138,t139,t140,t141,t142,t143],
 [t144,t145,t146,t147,t148,t149,t150,t151,t152,t153,t154,t155,t156,t157,t158,t159],
 [t160,t161,t162,t163,t164,t165,t166,t167,t168,t169,t170,t171,t172,t173,t174,t175],
 [t176,t177,t178,t179,t180,t181,t182,t183,t184,t185,t186,t187,t188,t189,t190,t191],
 [t192,t193,t194,t195,t196,t197,t198,t199,t200,t201,t202,t203,t204,t205,t206,t207],
 [t208,t209,t210,t211,t212,t213,t214,t215,t216,t217,t218,t219,t220,t221,t222,t223],
 [t224,t225,t226,t227,t228,t229,t230,t231]]
def jz:List (List Bool):=[[false,true,true,true,true,true,true,true,true,true,true,true,true,true,true,true],
 [true,true,true,true,true,true,true,true,true,true,true,true,true,true,true,true],
 [true,true,true,false,true,true,false,true,true,true,true,true,true,true,true,true],
 [true,true,true,true,true,true,true,true,true,true,true,true,true,false,true,true],
 [true,true,true,true,true,true,true,true,true,true,true,true,true,true,true,true],
 [true,true,true,true,true,true,true,true,true,true,true,true,true,true,true,true],
 [true,true,true,true,true,true,true,true,true,false,true,true,true,false,true,true],
 [true,true,true,true,true,true,true,true,false,true,true,true,true,true,true,true],
 [false,true,true,true,true,true,true,true,true,true,true,true,true,true,true,true],
 [true,true,true,true,true,true,true,true,true,true,true,true,true,true,true,true],
 [true,true,true,true,true,true,true,true,true,true,true,true,true,true,true,true],
 [true,true,true,true,true,true,true,true,true,true,true,true,true,true,true,false],
 [true,true,true,true,true,true,true,true,true,true,true,true,true,true,true,true],
 [true,true,true,true,true,true,true,true,true,true,true,true,true,true,true,true],
 [true,true,true,true,true,true,true,true]]
noncomputable def Cy:List (List Func):=[[f0,f1,f2,f3,f4,f5,f6,f7,f8,f9,f10,f11,f12,f13,f14,f15],
 [f16,f17,f18,f19,f20,f21,f22,f23,f24,f25,f26,f27,f28,f29,f30,f31],
 [f32,f33,f34,f35,f36,f37,f38,f39,f40,f41,f42,f43,f44,f45,f46,f47],
 [f48,f49,f50,f51,f52,f53,f54,f55,f56,f57,f58,f59,f60,f61,f62,f63],
 [f64,f65,f66,f67,f68,f69,f70,f71,f72,f73,f74,f75,f76,f77,f78,f79],
 [f80,f81,f82,f83,f84,f85,f86,f87,f88,f89,f90,f91,f92,f93,f94,f95],
 [f96,f97,f98,f99,f100,f101,f102,f103,f104,f105,f106,f107,f108,f109,f110,f111],
 [f112,f113,f114,f115,f116,f117,f118,f119,f120,f121,f122,f123,f124,f125,f126,f127],
 [f128,f129,f130,f131,f132,f133,f134,f135,f136,f137,f138,f139,f140,f141,f142,f143],
 [f144,f145,f146,f147,f148,f149,f150,f151,f152,f153,f154,f155,f156,f157,f158,f159],
 [f160,f161,f162,f163,f164,f165,f166,f167,f168,f169,f170,f171,f172,f173,f174,f175],
 [f176,f177,f178,f179,f180,f181,f182,f183,f184,f185,f186,f187,f188,f189,f190,f191],
 [f192,f193,f194,f195,f196,f197,f198,f199,f200,f201,f202,f203,f204,f205,f206,f207],
 [f208,f209,f210,f211,f212,f213,f214,f215,f216]]
def kQ:List (List Bool):=[[false,false,true,true,true,true,true,true,true,true,true,true,true,true,true,true],
 [true,true,true,true,true,true,true,true,true,true,true,true,true,true,true,true],
 [true,true,true,true,true,true,true,true,true,true,true,true,true,true,true,true],
 [true,true,true,true,true,true,true,true,true,true,true,true,true,true,true,true],
 [true,true,true,true,true,true,true,true,true,true,true,true,true,true,true,true],
 [true,true,true,true,true,true,true,true,true,true,true,true,true,true,true,true],
 [true,true,true,true,true,true,true,true,true,true,true,true,true,true,true,false],
 [true,true,true,true,true,true,true,true,true,true,true,true,true,true,true,true],
 [true,true,true,true,true,true,true,true,true,true,true,true,true,true,true,true],
 [true,true,true,true,true,true,true,true,true,true,true,true,true,true,true,true],
 [true,true,true,true,true,true,true,false,true,true,true,true,false,true,true,true],
 [true,true,true,true,true,true,false,false,true,true,false,false,false,false,false,false],
 [false,false,false,false,false,false,false,false,false,false,true,true,true,true,true,false],
 [false,false,false,false,false,false,false,false,false]]
def xr:List TypeId:=[7,8,43,44,45,46,47,48,49,64,65,127,138,139,194,199,200,212,213,215,216]
noncomputable def aG:bO:=DU Dc jz Cy kQ xr [1] []
theorem zx1:prog.types.toList=Dc.flatten:=by kernel_rfl
theorem zx0:prog.types.toList.map BL=jz.flatten:=by kernel_rfl
theorem zxZ:prog.funcs.toList=Cy.flatten:=by kernel_rfl
theorem zxY:prog.funcs.toList.map (EM [1])=kQ.flatten:=by kernel_rfl
theorem vS:aG.Fits prog:=zt6 (show xr.all (ZO prog)=true by kernel_rfl) (by kernel_rfl) (by kernel_rfl) (by kernel_rfl) (by kernel_rfl) zx1 zx0 zxZ zxY
theorem mixed:prog.follows .mixedOrders=true:=by kernel_rfl
theorem zpW:aG.info 3=some (1,8,[.int .i64 0]):=by kernel_rfl
theorem zV:aG.info 9=some (1,16,[.string ⟨#[]⟩]):=by kernel_rfl
theorem zu1:aG.info 22=some (1,24,[.slice none 0 0]):=by kernel_rfl
theorem zu2:aG.info 28=some (7,136,[.slice none 0 0,.slice none 0 0,.slice none 0 0,.int .i64 0,.int .i64 0,.slice none 0 0,.slice none 0 0]):=by kernel_rfl
theorem zu3:aG.info 44=some (2,24,[.bool false,.string ⟨#[]⟩]):=by kernel_rfl
theorem r6:aG.info 47=some (11,136,[.string ⟨#[]⟩,.string ⟨#[]⟩,.int .i64 0,.bool false,.string ⟨#[]⟩,.bool false,.string ⟨#[]⟩,.bool false,.string ⟨#[]⟩,.bool false,.string ⟨#[]⟩]):=by kernel_rfl
theorem zhG:aG.info 65=some (2,24,[.string ⟨#[]⟩,.int .i64 0]):=by kernel_rfl
theorem zu4:aG.info 67=some (2,40,[.string ⟨#[]⟩,.slice none 0 0]):=by kernel_rfl
theorem zu5:aG.info 69=some (12,160,[.string ⟨#[]⟩,.string ⟨#[]⟩,.int .i64 0,.bool false,.string ⟨#[]⟩,.bool false,.string ⟨#[]⟩,.bool false,.string ⟨#[]⟩,.bool false,.string ⟨#[]⟩,.slice none 0 0]):=by kernel_rfl
theorem zu6:aG.info 72=some (13,176,[.string ⟨#[]⟩,.string ⟨#[]⟩,.string ⟨#[]⟩,.int .i64 0,.bool false,.string ⟨#[]⟩,.bool false,.string ⟨#[]⟩,.bool false,.string ⟨#[]⟩,.bool false,.string ⟨#[]⟩,.slice none 0 0]):=by kernel_rfl
theorem zu7:aG.info 73=some (1,8,[.nilFunc]):=by kernel_rfl
theorem SR:aG.info 80=some (3,48,[.string ⟨#[]⟩,.slice none 0 0,.int .u64 0]):=by kernel_rfl
theorem zu8:aG.info 88=some (2,32,[.slice none 0 0,.int .u64 0]):=by kernel_rfl
theorem zrG:aG.info 127=some (0,0,[]):=by kernel_rfl
theorem zrH:aG.info 131=some (1,8,[.nilFunc]):=by kernel_rfl
theorem zkO:aG.info 139=some (2,24,[.string ⟨#[]⟩,.int .i64 0]):=by kernel_rfl
theorem zCq:aG.fn 3=some f3:=by kernel_rfl
theorem zCr:aG.fn 4=some f4:=by kernel_rfl
theorem zCs:aG.fn 9=some f9:=by kernel_rfl
theorem zzY:aG.fn 74=some f74:=by kernel_rfl
theorem zpT:aG.fn 140=some f140:=by kernel_rfl
theorem zpU:aG.fn 157=some f157:=by kernel_rfl
theorem zpV:aG.fn 159=some f159:=by kernel_rfl
end Go.Proofs.YtmamldleclamjaaGreatDoor
