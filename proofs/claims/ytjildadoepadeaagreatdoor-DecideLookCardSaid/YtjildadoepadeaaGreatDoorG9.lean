/- Tables for the plain machine, read off a program. No condition. -/
import Derived.Test.YtjildadoepadeaaGreatDoorG1
import Derived.Test.YtjildadoepadeaaGreatDoorProg
import Derived.KernelRfl
set_option linter.unusedSimpArgs false
namespace Go.Am

def fG {Z:Type}:List (List Z)->Nat->Option Z
 | [],_=>none
 |c::cs,i=>match Nat.blt i 16 with
  |true=>c[i]?
  |false=>fG cs (i - 16)
def yN {Z:Type}:List (List Z)->Bool
 | []=>true
 | [_]=>true
 |c::cs=>c.length == 16 && yN cs

theorem As {Z:Type}:∀ (l:List (List Z)) (i:Nat) (x:Z),yN l=true->fG l i=some x->l.flatten[i]? = some x
 | [],_,_,_,h=>by simp [fG] at h
 | [c],i,x,_,h=>by
  simp only [fG] at h
  split at h
  .simpa using h
  .simp at h
 |c::d::cs,i,x,hw,h=>by
  simp only [yN,cY,beq_iff_eq] at hw
  rw [List.flatten_cons]
  simp only [fG] at h
  split at h
  .rename_i hb
   have aS:i < 16:=by simpa [Nat.blt_eq] using hb
   rw [kR (by omega)]
   exact h
  .rename_i hb
   have mi:¬ i < 16:=by
    intro aS
    have:Nat.blt i 16=true:=by simpa [Nat.blt_eq] using aS
    rw [this] at hb
    cases hb
   rw [lS (by omega),hw.1]
   exact As (d::cs) (i - 16) x hw.2 (by simpa [fG] using h)

def UG (kM:List (List TypeInfo)) (t:TypeId):Option TypeDesc :=
 match fG kM t with
 |some i=>match i.desc with
  | .named _ u=>(fG kM u).map (·.desc)
  |d=>some d
 |none=>none

def ux (i:TypeInfo):Bool:=match i.zero with
 |some z=>z.cells.toList.length == i.size && z.cells.toList.all iY
 |none=>false
def Ux (kM:List (List TypeInfo)) (Ei:List (List Bool)) (t:TypeId):Option (Nat × Nat × List ai) :=
 match fG Ei t with
 |some true=>match fG kM t with
  |some i=>match i.zero with
   |some z=>some (i.size,i.bytes,z.cells.toList)
   |none=>none
  |none=>none
 |_=>none

def UJ (kM:List (List TypeInfo)) (Ei:List (List Bool)) (t:TypeId):Option ai :=
 match fG Ei t with
 |some true=>match fG kM t with
  |some i=>i.zero
  |none=>none
 |_=>none

def Uz (kM:List (List TypeInfo)) (t:TypeId) (name:String):Option Method :=
 match fG kM t with
 |some i=>i.methods.find? (·.name == name)
 |none=>none

def UD (gs:List Nat) (f:Func):Bool:=match f.body with
 |some c=>mT gs c
 |none=>false
def xj (gs:List Nat) (f:Func):Bool := !(f.name == "runtime.NumGoroutine") && UD gs f
def CY (fns:List (List Func)) (Ei:List (List Bool)) (f:FuncId):Option Func :=
 match fG Ei f with
 |some true=>fG fns f
 |_=>none

def OG (P:Program) (t:TypeId):Bool := !P.stoodInHeld t && !P.eqGuardType P.depth t
def UL (cs:List TypeId) (t:TypeId):Bool:=cs.any (Nat.beq t)
def wA (kM:List (List TypeInfo)) (fN:List (List Bool)) (fns:List (List Func)) (gQ:List (List Bool)) (cs:List TypeId) (gs:List Nat) (ds:List FuncId):bm :=
 { desc:=UG kM,info:=Ux kM fN,fn:=CY fns gQ,cmp:=UL cs,zero:=UJ kM fN,gs:=gs,rQ:=Uz kM,CT:=λf=>ds.any (Nat.beq f) }

theorem zqh {P:Program} {kM:List (List TypeInfo)} {fN:List (List Bool)} {fns:List (List Func)} {gQ:List (List Bool)} {cs:List TypeId} {gs:List Nat} {ds:List FuncId} (nt:cs.all (OG P)=true)
 (w1:yN kM=true) (w2:yN fN=true) (w3:yN fns=true) (w4:yN gQ=true) (h1:P.types.toList=kM.flatten) (h2:P.types.toList.map ux=fN.flatten) (h3:P.funcs.toList=fns.flatten) (h4:P.funcs.toList.map (xj gs)=gQ.flatten) :
 (wA kM fN fns gQ cs gs ds).Fits P:=by
 have hU:∀ t i,fG kM t=some i->P.types.toList[t]? = some i:=λt i hi=>by rw [h1];exact As kM t i w1 hi
 have yp:∀ t i,fG kM t=some i->P.info? t=some i:=by
  intro t i hi
  have oc:P.types[t]? = some i:=by simpa using hU t i hi
  have aS:t < P.types.size:=(jL.1 oc).1
  unfold Tables.info?
  rw [aC aS,oc]
 refine ⟨?_,?_,?_,?_,?_,?_⟩
 .intro t d hd
  simp only [wA,UG] at hd
  split at hd
  .rename_i i hi
   have h4:=yp t i hi
   unfold Program.underlying
   rw [h4]
   obtain ⟨desc,str,size,bytes,hp,al,fa,zero,comp,ms⟩:=i
   cases desc <;> simp only at hd ⊢ <;> first
    |exact hd
    |(simp only [bS] at hd
      obtain ⟨j,hj,rfl⟩:=hd
      rw [yp _ j hj]
      rfl)
  .cases hd
 .intro t n b z hz
  simp only [wA,Ux] at hz
  split at hz
  .rename_i cE
   split at hz
   .rename_i i hi
    split at hz
    .rename_i zv Qw
     simp only [de,cd] at hz
     obtain ⟨rfl,rfl,rfl⟩:=hz
     have h5:=As fN t true w2 cE
     rw [<- h2,lE,hU t i hi,gJ,de] at h5
     simp only [ux,Qw,cY,beq_iff_eq] at h5
     exact ⟨i,zv,yp t i hi,rfl,rfl,Qw,rfl,h5.1,h5.2⟩
    .cases hz
   .cases hz
  .cases hz
 .intro f fn hf
  simp only [wA,CY] at hf
  split at hf
  .rename_i cE
   have h5:=As gQ f true w4 cE
   have h6:=As fns f fn w3 hf
   rw [<- h3] at h6
   rw [<- h4,lE,h6,gJ,de] at h5
   simp only [xj,cY,zo] at h5
   refine ⟨by simpa using h6,h5.1,λc G4=>?_⟩
   have:=h5.2
   unfold UD at this
   rw [G4] at this
   exact this
  .cases hf
 .intro t ht
  simp only [wA,UL,oI] at ht
  obtain ⟨u,hu,he⟩:=ht
  have:t=u:=Nat.eq_of_beq_eq_true he
  subst this
  have:=fD.1 nt t hu
  simpa [OG] using this
 .intro t v hv
  simp only [wA,UJ] at hv
  split at hv
  .rename_i cE
   split at hv
   .rename_i i hi
    have h5:=As fN t true w2 cE
    rw [<- h2,lE,hU t i hi,gJ,de] at h5
    simp only [ux,hv,cY,beq_iff_eq] at h5
    refine ⟨⟨i,yp t i hi,hv⟩,?_⟩
    have h6:=h5.2
    cases v <;> simpa [plain,Value.cells] using h6
   .cases hv
  .cases hv
 .intro t name m hm
  simp only [wA,Uz] at hm
  split at hm
  .rename_i i hi;exact ⟨i,yp t i hi,hm⟩
  .cases hm
end Go.Am
namespace Go.Proofs.YtjildadoepadeaaGreatDoor
open Go.Am Tryz
noncomputable def vK:List (List TypeInfo):=[[t0,t1,t2,t3,t4,t5,t6,t7,t8,t9,t10,t11,t12,t13,t14,t15],
 [t16,t17,t18,t19,t20,t21,t22,t23,t24,t25,t26,t27,t28,t29,t30,t31],
 [t32,t33,t34,t35,t36,t37,t38,t39,t40,t41,t42,t43,t44,t45,t46,t47],
 [t48,t49,t50,t51,t52,t53,t54,t55,t56,t57,t58,t59,t60,t61,t62,t63],
 [t64,t65,t66,t67,t68,t69,t70,t71,t72,t73,t74,t75,t76,t77,t78,t79],
 [t80,t81,t82,t83,t84,t85,t86,t87,t88,t89,t90,t91,t92,t93,t94,t95],
 [t96,t97,t98,t99,t100,t101,t102,t103,t104,t105,t106,t107,t108,t109,t110,t111],
 [t112,t113,t114,t115,t116,t117,t118,t119,t120,t121,t122,t123,t124,t125,t126,t127],
 [t128,t129,t130,t131,t132,t133,t134,t135,t136,t137,t138,t139,t140,t141,t142,t143],
 [t144,t145,t146,t147,t148,t149,t150,t151,t152,t153,t154,t155,t156,t157,t158,t159],
 [t160,t161,t162,t163,t164,t165,t166,t167,t168,t169,t170,t171,t172,t173,t174,t175],
 [t176,t177,t178,t179,t180,t181,t182,t183,t184,t185,t186,t187,t188,t189,t190,t191],
 [t192,t193,t194,t195,t196,t197,t198,t199,t200,t201,t202,t203,t204,t205,t206,t207],
 [t208,t209,t210,t211,t212,t213,t214,t215,t216,t217,t218,t219,t220,t221,t222,t223],
 [t224,t225,t226,t227,t228,t229,t230,t231,t232,t233,t234,t235,t236,t237,t238,t239],
 [t240,t241,t242,t243,t244,t245,t246,t247,t248,t249,t250,t251,t252,t253,t254,t255],
 [t256,t257,t258,t259,t260,t261,t262,t263,t264,t265,t266,t267,t268,t269,t270,t271],
 [t272,t273,t274,t275,t276,t277,t278,t279,t280,t281,t282,t283,t284,t285,t286,t287],
 [t288,t289,t290,t291,t292,t293,t294,t295,t296,t297,t298,t299,t300,t301,t302,t303],
 [t304,t305,t306,t307,t308,t309,t310,t311,t312,t313,t314,t315,t316,t317,t318,t319],
 [t320,t321,t322,t323,t324,t325,t326,t327,t328,t329,t330,t331,t332,t333,t334,t335],
 [t336,t337,t338,t339,t340,t341,t342,t343,t344,t345,t346,t347,t348,t349,t350,t351],
 [t352,t353,t354,t355,t356,t357,t358,t359,t360,t361,t362,t363,t364,t365,t366,t367],
 [t368,t369,t370,t371,t372,t373,t374]]
def fN:List (List Bool):=[[false,true,true,true,true,true,true,true,true,true,true,true,true,true,true,true],
 [true,true,true,true,true,true,true,true,true,true,true,true,true,true,true,true],
 [true,false,true,false,true,true,true,true,true,true,true,true,true,true,true,true],
 [true,true,true,true,true,true,true,false,true,false,true,true,true,true,true,true],
 [true,true,true,true,true,true,true,true,true,true,true,true,true,true,true,true],
 [true,true,true,true,true,true,true,true,true,true,true,true,true,true,false,true],
 [true,true,true,true,true,true,true,true,true,true,true,true,true,true,true,false],
 [false,true,true,true,false,true,true,true,true,true,true,true,true,true,true,true],
 [true,true,true,true,true,true,true,false,true,true,true,true,true,true,true,true],
 [true,true,true,true,true,true,true,true,true,true,true,true,true,true,true,true],
 [true,true,true,true,false,true,true,true,true,true,true,true,true,true,true,true],
 [true,true,true,true,true,true,true,true,true,true,true,true,true,true,true,true],
 [true,true,true,true,true,true,true,true,false,true,false,true,true,true,true,true],
 [true,true,true,true,true,false,true,true,true,true,true,true,true,true,false,true],
 [true,true,true,true,true,true,true,true,true,true,true,true,true,true,true,true],
 [true,true,true,true,true,true,true,false,true,false,true,true,true,true,false,true],
 [true,true,true,true,true,true,true,false,true,true,true,true,true,true,true,true],
 [true,true,true,true,true,true,true,true,true,true,true,true,true,true,true,true],
 [true,true,true,true,true,true,true,true,true,true,true,true,true,false,true,true],
 [true,true,true,true,true,true,true,true,true,true,false,true,true,true,true,true],
 [true,true,true,true,true,true,true,true,true,true,true,true,false,true,true,true],
 [true,true,true,true,true,true,true,true,true,true,true,true,true,true,true,true],
 [true,true,true,true,true,true,true,true,true,true,true,true,true,true,true,true],
 [true,true,true,true,true,true,true]]
noncomputable def u9:List (List Func):=[[f0,f1,f2,f3,f4,f5,f6,f7,f8,f9,f10,f11,f12,f13,f14,f15],
 [f16,f17,f18,f19,f20,f21,f22,f23,f24,f25,f26,f27,f28,f29,f30,f31],
 [f32,f33,f34,f35,f36,f37,f38,f39,f40,f41,f42,f43,f44,f45,f46,f47],
 [f48,f49,f50,f51,f52,f53,f54,f55,f56,f57,f58,f59,f60,f61,f62,f63],
 [f64,f65,f66,f67,f68,f69,f70,f71,f72,f73,f74,f75,f76,f77,f78,f79],
 [f80,f81,f82,f83,f84,f85,f86,f87,f88,f89,f90,f91,f92,f93,f94,f95],
 [f96,f97,f98,f99,f100,f101,f102,f103,f104,f105,f106,f107,f108,f109,f110,f111],
 [f112,f113,f114,f115,f116,f117,f118,f119,f120,f121,f122,f123,f124,f125,f126,f127],
 [f128,f129,f130,f131,f132,f133,f134,f135,f136,f137,f138,f139,f140,f141,f142,f143],
 [f144,f145,f146,f147,f148,f149,f150,f151,f152,f153,f154,f155,f156,f157,f158,f159],
 [f160,f161,f162,f163,f164,f165,f166,f167,f168,f169,f170,f171,f172,f173,f174,f175],
 [f176,f177,f178,f179,f180,f181,f182,f183,f184,f185,f186,f187,f188,f189,f190,f191],
 [f192,f193,f194,f195,f196,f197,f198,f199,f200,f201,f202,f203,f204,f205,f206,f207],
 [f208,f209,f210,f211,f212,f213,f214,f215,f216,f217,f218,f219,f220,f221,f222,f223],
 [f224,f225,f226,f227,f228,f229,f230,f231,f232,f233,f234,f235,f236,f237,f238,f239],
 [f240,f241,f242,f243,f244,f245,f246,f247,f248,f249,f250,f251,f252,f253,f254,f255],
 [f256,f257,f258,f259,f260,f261,f262,f263,f264,f265,f266,f267,f268,f269,f270,f271],
 [f272,f273,f274,f275,f276,f277,f278,f279,f280,f281,f282,f283,f284,f285,f286,f287],
 [f288,f289,f290,f291,f292,f293,f294,f295,f296,f297,f298,f299,f300,f301,f302,f303],
 [f304,f305,f306,f307,f308,f309,f310,f311,f312,f313,f314,f315,f316,f317,f318,f319],
 [f320,f321,f322,f323,f324]]
def gQ:List (List Bool):=[[false,false,true,true,true,true,true,true,true,true,true,true,true,true,true,true],
 [true,true,true,true,true,true,true,true,true,true,true,true,true,true,true,true],
 [true,true,true,true,true,true,true,true,true,true,true,true,true,true,true,true],
 [true,true,true,true,true,true,true,true,true,true,true,true,true,true,true,true],
 [true,true,true,true,true,true,true,true,true,true,true,true,true,true,true,true],
 [true,true,true,true,true,true,true,true,true,true,true,true,true,true,true,true],
 [true,true,true,true,true,true,true,true,true,true,true,true,true,true,true,true],
 [true,true,true,true,true,true,true,false,true,true,true,true,true,true,true,true],
 [true,true,true,true,true,true,true,true,true,true,true,true,true,true,true,true],
 [true,true,true,true,true,true,true,true,true,true,true,true,true,true,true,true],
 [true,true,true,true,true,true,true,true,true,true,true,true,true,true,true,true],
 [true,true,true,true,true,true,true,true,true,true,true,true,true,true,true,true],
 [true,true,true,true,true,true,true,true,true,true,true,true,true,true,true,true],
 [true,true,true,true,true,true,true,true,true,true,true,true,true,true,true,true],
 [true,true,true,true,true,true,true,true,true,true,true,true,true,true,true,true],
 [true,true,true,true,true,true,true,true,true,true,false,true,true,true,true,true],
 [true,true,true,true,true,true,true,true,true,true,true,true,true,true,false,true],
 [true,true,false,true,true,true,true,false,false,true,true,true,true,true,true,true],
 [false,false,false,false,false,false,false,false,false,false,false,false,false,false,false,false],
 [false,false,true,true,true,true,false,true,false,false,false,false,false,false,false,false],
 [false,false,false,false,false]]
def qy:List TypeId:=[7,8,37,38,39,40,41,52,53,59,60,66,67,142,143,153,154,163,171,172,276,277,278,279,297,298,325,329,335,336,344,345,352,353,355,356,361,362]
noncomputable def az:bm:=wA vK fN u9 gQ qy [1] []
theorem zs4:prog.types.toList=vK.flatten:=by kernel_rfl
theorem zs3:prog.types.toList.map ux=fN.flatten:=by kernel_rfl
theorem zs2:prog.funcs.toList=u9.flatten:=by kernel_rfl
theorem zs1:prog.funcs.toList.map (xj [1])=gQ.flatten:=by kernel_rfl
theorem pD:az.Fits prog:=zqh (show qy.all (OG prog)=true by kernel_rfl) (by kernel_rfl) (by kernel_rfl) (by kernel_rfl) (by kernel_rfl) zs4 zs3 zs2 zs1
theorem mixed:prog.follows .mixedOrders=true:=by kernel_rfl
theorem Nl:az.info 5=some (1,1,[.int .u8 0]):=by kernel_rfl
theorem H5:az.info 9=some (1,16,[.string ⟨#[]⟩]):=by kernel_rfl
theorem zqS:az.info 23=some (1,24,[.slice none 0 0]):=by kernel_rfl
theorem zqT:az.info 38=some (2,24,[.bool false,.string ⟨#[]⟩]):=by kernel_rfl
theorem zqU:az.info 41=some (11,136,[.string ⟨#[]⟩,.string ⟨#[]⟩,.int .i64 0,.bool false,.string ⟨#[]⟩,.bool false,.string ⟨#[]⟩,.bool false,.string ⟨#[]⟩,.bool false,.string ⟨#[]⟩]):=by kernel_rfl
theorem zqV:az.info 53=some (12,144,[.int .i64 0,.string ⟨#[]⟩,.string ⟨#[]⟩,.int .i64 0,.bool false,.string ⟨#[]⟩,.bool false,.string ⟨#[]⟩,.bool false,.string ⟨#[]⟩,.bool false,.string ⟨#[]⟩]):=by kernel_rfl
theorem zqW:az.info 61=some (1,8,[.nilFunc]):=by kernel_rfl
theorem zqX:az.info 67=some (2,24,[.string ⟨#[]⟩,.int .i64 0]):=by kernel_rfl
theorem zqY:az.info 69=some (2,40,[.string ⟨#[]⟩,.slice none 0 0]):=by kernel_rfl
theorem zqZ:az.info 71=some (12,160,[.string ⟨#[]⟩,.string ⟨#[]⟩,.int .i64 0,.bool false,.string ⟨#[]⟩,.bool false,.string ⟨#[]⟩,.bool false,.string ⟨#[]⟩,.bool false,.string ⟨#[]⟩,.slice none 0 0]):=by kernel_rfl
theorem zq0:az.info 73=some (13,176,[.string ⟨#[]⟩,.string ⟨#[]⟩,.string ⟨#[]⟩,.int .i64 0,.bool false,.string ⟨#[]⟩,.bool false,.string ⟨#[]⟩,.bool false,.string ⟨#[]⟩,.bool false,.string ⟨#[]⟩,.slice none 0 0]):=by kernel_rfl
theorem zoi:az.info 102=some (1,8,[.nilFunc]):=by kernel_rfl
theorem zoj:az.info 156=some (1,8,[.nilFunc]):=by kernel_rfl
theorem zok:az.info 163=some (0,0,[]):=by kernel_rfl
theorem zwz:az.fn 5=some f5:=by kernel_rfl
theorem zuD:az.fn 18=some f18:=by kernel_rfl
theorem zuE:az.fn 72=some f72:=by kernel_rfl
theorem Tt:az.fn 178=some f178:=by kernel_rfl
theorem Tu:az.fn 219=some f219:=by kernel_rfl
theorem Tv:az.fn 249=some f249:=by kernel_rfl
end Go.Proofs.YtjildadoepadeaaGreatDoor
