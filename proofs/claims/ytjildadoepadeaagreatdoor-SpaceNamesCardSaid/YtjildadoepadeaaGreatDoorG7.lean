/- Tables for the plain machine, read off a program. No condition. -/
import Derived.Test.YtjildadoepadeaaGreatDoorG1
import Derived.Test.YtjildadoepadeaaGreatDoorProg
import Derived.KernelRfl
set_option linter.unusedSimpArgs false
namespace Go.Am

def getC {α:Type}:List (List α)->Nat->Option α
 | [],_=>none
 |c::cs,i=>match Nat.blt i 16 with
  |true=>c[i]?
  |false=>getC cs (i - 16)
def wfC {α:Type}:List (List α)->Bool
 | []=>true
 | [_]=>true
 |c::cs=>c.length == 16 && wfC cs

theorem zaN {α:Type}:∀ (l:List (List α)) (i:Nat) (x:α),wfC l=true->getC l i=some x->l.flatten[i]? = some x
 | [],_,_,_,h=>by simp [getC] at h
 | [c],i,x,_,h=>by
  simp only [getC] at h
  split at h
  .simpa using h
  .simp at h
 |c::d::cs,i,x,hw,h=>by
  simp only [wfC,Bool.and_eq_true,beq_iff_eq] at hw
  rw [List.flatten_cons]
  simp only [getC] at h
  split at h
  .rename_i hb
   have hlt:i < 16:=by simpa [Nat.blt_eq] using hb
   rw [List.getElem?_append_left (by omega)]
   exact h
  .rename_i hb
   have hge:¬ i < 16:=by
    intro hlt
    have:Nat.blt i 16=true:=by simpa [Nat.blt_eq] using hlt
    rw [this] at hb
    cases hb
   rw [List.getElem?_append_right (by omega),hw.1]
   exact zaN (d::cs) (i - 16) x hw.2 (by simpa [getC] using h)

def zhI (tys:List (List TypeInfo)) (t:TypeId):Option TypeDesc :=
 match getC tys t with
 |some i=>match i.desc with
  | .named _ u=>(getC tys u).map (·.desc)
  |d=>some d
 |none=>none

def tyOk (i:TypeInfo):Bool:=match i.zero with
 |some z=>z.cells.toList.length == i.size && z.cells.toList.all zaG
 |none=>false
def zhK (tys:List (List TypeInfo)) (oks:List (List Bool)) (t:TypeId):Option (Nat × Nat × List Vly) :=
 match getC oks t with
 |some true=>match getC tys t with
  |some i=>match i.zero with
   |some z=>some (i.size,i.bytes,z.cells.toList)
   |none=>none
  |none=>none
 |_=>none

def zhO (tys:List (List TypeInfo)) (oks:List (List Bool)) (t:TypeId):Option Vly :=
 match getC oks t with
 |some true=>match getC tys t with
  |some i=>i.zero
  |none=>none
 |_=>none

def zhM (tys:List (List TypeInfo)) (t:TypeId) (name:String):Option Method :=
 match getC tys t with
 |some i=>i.methods.find? (·.name == name)
 |none=>none

def zhH (gs:List Nat) (f:Func):Bool:=match f.body with
 |some c=>za8 gs c
 |none=>false
def fnOk (gs:List Nat) (f:Func):Bool := !(f.name == "runtime.NumGoroutine") && zhH gs f
def fnOf (fns:List (List Func)) (oks:List (List Bool)) (f:FuncId):Option Func :=
 match getC oks f with
 |some true=>getC fns f
 |_=>none

def zhV (P:Program) (t:TypeId):Bool := !P.stoodInHeld t && !P.eqGuardType P.depth t
def zio (cs:List TypeId) (t:TypeId):Bool:=cs.any (Nat.beq t)
def zfO (tys:List (List TypeInfo)) (tyOks:List (List Bool)) (fns:List (List Func)) (fnOks:List (List Bool)) (cs:List TypeId) (gs:List Nat) (ds:List FuncId):Tab :=
 { desc:=zhI tys,info:=zhK tys tyOks,fn:=fnOf fns fnOks,cmp:=zio cs,zero:=zhO tys tyOks,gs:=gs,meth:=zhM tys,dfr:=λf=>ds.any (Nat.beq f) }

theorem zgX {P:Program} {tys:List (List TypeInfo)} {tyOks:List (List Bool)} {fns:List (List Func)} {fnOks:List (List Bool)} {cs:List TypeId} {gs:List Nat} {ds:List FuncId} (hcs:cs.all (zhV P)=true)
 (w1:wfC tys=true) (w2:wfC tyOks=true) (w3:wfC fns=true) (w4:wfC fnOks=true) (h1:P.types.toList=tys.flatten) (h2:P.types.toList.map tyOk=tyOks.flatten) (h3:P.funcs.toList=fns.flatten) (h4:P.funcs.toList.map (fnOk gs)=fnOks.flatten) :
 (zfO tys tyOks fns fnOks cs gs ds).Fits P:=by
 have hat:∀ t i,getC tys t=some i->P.types.toList[t]? = some i:=λt i hi=>by rw [h1];exact zaN tys t i w1 hi
 have hty:∀ t i,getC tys t=some i->P.info? t=some i:=by
  intro t i hi
  have hi':P.types[t]? = some i:=by simpa using hat t i hi
  have hlt:t < P.types.size:=(Array.getElem?_eq_some_iff.1 hi').1
  unfold Tables.info?
  rw [if_pos hlt,hi']
 refine ⟨?_,?_,?_,?_,?_,?_⟩
 .intro t d hd
  simp only [zfO,zhI] at hd
  split at hd
  .rename_i i hi
   have h4:=hty t i hi
   unfold Program.underlying
   rw [h4]
   obtain ⟨desc,str,size,bytes,hp,al,fa,zero,comp,ms⟩:=i
   cases desc <;> simp only at hd ⊢ <;> first
    |exact hd
    |(simp only [Option.map_eq_some_iff] at hd
      obtain ⟨j,hj,rfl⟩:=hd
      rw [hty _ j hj]
      rfl)
  .cases hd
 .intro t n b z hz
  simp only [zfO,zhK] at hz
  split at hz
  .rename_i hok
   split at hz
   .rename_i i hi
    split at hz
    .rename_i zv hzv
     simp only [Option.some.injEq,Prod.mk.injEq] at hz
     obtain ⟨rfl,rfl,rfl⟩:=hz
     have h5:=zaN tyOks t true w2 hok
     rw [<- h2,List.getElem?_map,hat t i hi,Option.map_some,Option.some.injEq] at h5
     simp only [tyOk,hzv,Bool.and_eq_true,beq_iff_eq] at h5
     exact ⟨i,zv,hty t i hi,rfl,rfl,hzv,rfl,h5.1,h5.2⟩
    .cases hz
   .cases hz
  .cases hz
 .intro f fn hf
  simp only [zfO,fnOf] at hf
  split at hf
  .rename_i hok
   have h5:=zaN fnOks f true w4 hok
   have h6:=zaN fns f fn w3 hf
   rw [<- h3] at h6
   rw [<- h4,List.getElem?_map,h6,Option.map_some,Option.some.injEq] at h5
   simp only [fnOk,Bool.and_eq_true,Bool.not_eq_true'] at h5
   refine ⟨by simpa using h6,h5.1,λc hcb=>?_⟩
   have:=h5.2
   unfold zhH at this
   rw [hcb] at this
   exact this
  .cases hf
 .intro t ht
  simp only [zfO,zio,List.any_eq_true] at ht
  obtain ⟨u,hu,he⟩:=ht
  have:t=u:=Nat.eq_of_beq_eq_true he
  subst this
  have:=List.all_eq_true.1 hcs t hu
  simpa [zhV] using this
 .intro t v hv
  simp only [zfO,zhO] at hv
  split at hv
  .rename_i hok
   split at hv
   .rename_i i hi
    have h5:=zaN tyOks t true w2 hok
    rw [<- h2,List.getElem?_map,hat t i hi,Option.map_some,Option.some.injEq] at h5
    simp only [tyOk,hv,Bool.and_eq_true,beq_iff_eq] at h5
    refine ⟨⟨i,hty t i hi,hv⟩,?_⟩
    have h6:=h5.2
    cases v <;> simpa [plain,Value.cells] using h6
   .cases hv
  .cases hv
 .intro t name m hm
  simp only [zfO,zhM] at hm
  split at hm
  .rename_i i hi;exact ⟨i,hty t i hi,hm⟩
  .cases hm
end Go.Am
namespace Go.Proofs.YtjildadoepadeaaGreatDoor
open Go.Am Tryz
noncomputable def tyTab:List (List TypeInfo):=[[t0,t1,t2,t3,t4,t5,t6,t7,t8,t9,t10,t11,t12,t13,t14,t15],
 [t16,t17,t18,t19,t20,t21,t22,t23,t24,t25,t26,t27,t28,t29,t30,t31],
 [t32,t33,t34,t35,t36,t37,t38,t39,t40,t41,t42,t43,t44,t45,t46,t47],
 [t48,t49,t50,t51,t52,t53,t54,t55,t56,t57,t58,t59,t60,t61,t62,t63],
 [t64,t65,t66,t67,t68,t69,t70,t71,t72,t73,t74,t75,t76,t77,t78,t79],
 [t80,t81,t82,t83,t84,t85,t86,t87,t88,t89,t90,t91,t92,t93,t94,t95],
 [t96,t97,t98,t99,t100,t101,t102,t103,t104,t105,t106,t107,t108,t109,t110,t111],
 [t112,t113,t114,t115,t116,t117,t118,t119,t120,t121,t122,t123,t124,t125,t126,t127],
 [t128,t129,t130,t131,t132,t133,t134,t135,t136,t137,t138,t139,t140,t141,t142,t143],
 [t144,t145,t146,t147,t148,t149,t150,t151,t152,t153,t154,t155,t156,t157,t158,t159],
 [t160,t161,t162,t163,t164,t165,t166,t167,t168,t169,t170,t171,t172,t173,t174,t175],
 [t176,t177,t178,t179,t180,t181,t182,t183,t184,t185,t186,t187,t188,t189,t190,t191],
 [t192,t193,t194,t195,t196,t197,t198,t199,t200,t201,t202,t203,t204,t205,t206,t207],
 [t208,t209,t210,t211,t212,t213,t214,t215,t216,t217,t218,t219,t220,t221,t222,t223],
 [t224,t225,t226,t227,t228,t229,t230,t231,t232,t233,t234,t235,t236,t237,t238,t239],
 [t240,t241,t242,t243,t244,t245,t246,t247,t248,t249,t250,t251,t252,t253,t254,t255],
 [t256,t257,t258,t259,t260,t261,t262,t263,t264,t265,t266,t267,t268,t269,t270,t271],
 [t272,t273,t274,t275,t276,t277,t278,t279,t280,t281,t282,t283,t284,t285,t286,t287],
 [t288,t289,t290,t291,t292,t293,t294,t295,t296,t297,t298,t299,t300,t301,t302,t303],
 [t304,t305,t306,t307,t308,t309,t310,t311,t312,t313,t314,t315,t316,t317,t318,t319],
 [t320,t321,t322,t323,t324,t325,t326,t327,t328,t329,t330,t331,t332,t333,t334,t335],
 [t336,t337,t338,t339,t340,t341,t342,t343,t344,t345,t346,t347,t348,t349,t350,t351],
 [t352,t353,t354,t355,t356,t357,t358,t359,t360,t361,t362,t363,t364,t365,t366,t367],
 [t368,t369,t370,t371,t372,t373,t374]]
def tyOks:List (List Bool):=[[false,true,true,true,true,true,true,true,true,true,true,true,true,true,true,true],
 [true,true,true,true,true,true,true,true,true,true,true,true,true,true,true,true],
 [true,false,true,false,true,true,true,true,true,true,true,true,true,true,true,true],
 [true,true,true,true,true,true,true,false,true,false,true,true,true,true,true,true],
 [true,true,true,true,true,true,true,true,true,true,true,true,true,true,true,true],
 [true,true,true,true,true,true,true,true,true,true,true,true,true,true,false,true],
 [true,true,true,true,true,true,true,true,true,true,true,true,true,true,true,false],
 [false,true,true,true,false,true,true,true,true,true,true,true,true,true,true,true],
 [true,true,true,true,true,true,true,false,true,true,true,true,true,true,true,true],
 [true,true,true,true,true,true,true,true,true,true,true,true,true,true,true,true],
 [true,true,true,true,false,true,true,true,true,true,true,true,true,true,true,true],
 [true,true,true,true,true,true,true,true,true,true,true,true,true,true,true,true],
 [true,true,true,true,true,true,true,true,false,true,false,true,true,true,true,true],
 [true,true,true,true,true,false,true,true,true,true,true,true,true,true,false,true],
 [true,true,true,true,true,true,true,true,true,true,true,true,true,true,true,true],
 [true,true,true,true,true,true,true,false,true,false,true,true,true,true,false,true],
 [true,true,true,true,true,true,true,false,true,true,true,true,true,true,true,true],
 [true,true,true,true,true,true,true,true,true,true,true,true,true,true,true,true],
 [true,true,true,true,true,true,true,true,true,true,true,true,true,false,true,true],
 [true,true,true,true,true,true,true,true,true,true,false,true,true,true,true,true],
 [true,true,true,true,true,true,true,true,true,true,true,true,false,true,true,true],
 [true,true,true,true,true,true,true,true,true,true,true,true,true,true,true,true],
 [true,true,true,true,true,true,true,true,true,true,true,true,true,true,true,true],
 [true,true,true,true,true,true,true]]
noncomputable def fnTab:List (List Func):=[[f0,f1,f2,f3,f4,f5,f6,f7,f8,f9,f10,f11,f12,f13,f14,f15],
 [f16,f17,f18,f19,f20,f21,f22,f23,f24,f25,f26,f27,f28,f29,f30,f31],
 [f32,f33,f34,f35,f36,f37,f38,f39,f40,f41,f42,f43,f44,f45,f46,f47],
 [f48,f49,f50,f51,f52,f53,f54,f55,f56,f57,f58,f59,f60,f61,f62,f63],
 [f64,f65,f66,f67,f68,f69,f70,f71,f72,f73,f74,f75,f76,f77,f78,f79],
 [f80,f81,f82,f83,f84,f85,f86,f87,f88,f89,f90,f91,f92,f93,f94,f95],
 [f96,f97,f98,f99,f100,f101,f102,f103,f104,f105,f106,f107,f108,f109,f110,f111],
 [f112,f113,f114,f115,f116,f117,f118,f119,f120,f121,f122,f123,f124,f125,f126,f127],
 [f128,f129,f130,f131,f132,f133,f134,f135,f136,f137,f138,f139,f140,f141,f142,f143],
 [f144,f145,f146,f147,f148,f149,f150,f151,f152,f153,f154,f155,f156,f157,f158,f159],
 [f160,f161,f162,f163,f164,f165,f166,f167,f168,f169,f170,f171,f172,f173,f174,f175],
 [f176,f177,f178,f179,f180,f181,f182,f183,f184,f185,f186,f187,f188,f189,f190,f191],
 [f192,f193,f194,f195,f196,f197,f198,f199,f200,f201,f202,f203,f204,f205,f206,f207],
 [f208,f209,f210,f211,f212,f213,f214,f215,f216,f217,f218,f219,f220,f221,f222,f223],
 [f224,f225,f226,f227,f228,f229,f230,f231,f232,f233,f234,f235,f236,f237,f238,f239],
 [f240,f241,f242,f243,f244,f245,f246,f247,f248,f249,f250,f251,f252,f253,f254,f255],
 [f256,f257,f258,f259,f260,f261,f262,f263,f264,f265,f266,f267,f268,f269,f270,f271],
 [f272,f273,f274,f275,f276,f277,f278,f279,f280,f281,f282,f283,f284,f285,f286,f287],
 [f288,f289,f290,f291,f292,f293,f294,f295,f296,f297,f298,f299,f300,f301,f302,f303],
 [f304,f305,f306,f307,f308,f309,f310,f311,f312,f313,f314,f315,f316,f317,f318,f319],
 [f320,f321,f322,f323,f324]]
def fnOks:List (List Bool):=[[false,false,true,true,true,true,true,true,true,true,true,true,true,true,true,true],
 [true,true,true,true,true,true,true,true,true,true,true,true,true,true,true,true],
 [true,true,true,true,true,true,true,true,true,true,true,true,true,true,true,true],
 [true,true,true,true,true,true,true,true,true,true,true,true,true,true,true,true],
 [true,true,true,true,true,true,true,true,true,true,true,true,true,true,true,true],
 [true,true,true,true,true,true,true,true,true,true,true,true,true,true,true,true],
 [true,true,true,true,true,true,true,true,true,true,true,true,true,true,true,true],
 [true,true,true,true,true,true,true,false,true,true,true,true,true,true,true,true],
 [true,true,true,true,true,true,true,true,true,true,true,true,true,true,true,true],
 [true,true,true,true,true,true,true,true,true,true,true,true,true,true,true,true],
 [true,true,true,true,true,true,true,true,true,true,true,true,true,true,true,true],
 [true,true,true,true,true,true,true,true,true,true,true,true,true,true,true,true],
 [true,true,true,true,true,true,true,true,true,true,true,true,true,true,true,true],
 [true,true,true,true,true,true,true,true,true,true,true,true,true,true,true,true],
 [true,true,true,true,true,true,true,true,true,true,true,true,true,true,true,true],
 [true,true,true,true,true,true,true,true,true,true,false,true,true,true,true,true],
 [true,true,true,true,true,true,true,true,true,true,true,true,true,true,false,true],
 [true,true,false,true,true,true,true,false,false,true,true,true,true,true,true,true],
 [false,false,false,false,false,false,false,false,false,false,false,false,false,false,false,false],
 [false,false,true,true,true,true,false,true,false,false,false,false,false,false,false,false],
 [false,false,false,false,false]]
def cmpTys:List TypeId:=[7,8,37,38,39,40,41,52,53,59,60,66,67,142,143,153,154,163,171,172,276,277,278,279,297,298,325,329,335,336,344,345,352,353,355,356,361,362]
noncomputable def tab:Tab:=zfO tyTab tyOks fnTab fnOks cmpTys [1] []
theorem zhr:prog.types.toList=tyTab.flatten:=by kernel_rfl
theorem zhq:prog.types.toList.map tyOk=tyOks.flatten:=by kernel_rfl
theorem zhp:prog.funcs.toList=fnTab.flatten:=by kernel_rfl
theorem zho:prog.funcs.toList.map (fnOk [1])=fnOks.flatten:=by kernel_rfl
theorem zaD:tab.Fits prog:=zgX (show cmpTys.all (zhV prog)=true by kernel_rfl) (by kernel_rfl) (by kernel_rfl) (by kernel_rfl) (by kernel_rfl) zhr zhq zhp zho
theorem mixed:prog.follows .mixedOrders=true:=by kernel_rfl
theorem zii:tab.fn 5=some f5:=by kernel_rfl
theorem zhE:tab.fn 18=some f18:=by kernel_rfl
theorem zhF:tab.fn 72=some f72:=by kernel_rfl
theorem zfY:tab.fn 178=some f178:=by kernel_rfl
theorem zfZ:tab.fn 219=some f219:=by kernel_rfl
theorem zf0:tab.fn 249=some f249:=by kernel_rfl
end Go.Proofs.YtjildadoepadeaaGreatDoor
