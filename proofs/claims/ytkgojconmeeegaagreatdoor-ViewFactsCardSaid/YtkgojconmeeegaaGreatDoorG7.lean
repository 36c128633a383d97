/- Tables for the plain machine, read off a program. No condition. -/
import Derived.Test.YtkgojconmeeegaaGreatDoorG1
import Derived.Test.YtkgojconmeeegaaGreatDoorProg
import Derived.KernelRfl
set_option linter.unusedSimpArgs false
namespace Go.Am

def jn {Z:Type}:List (List Z)->Nat->Option Z
 | [],_=>none
 |c::cs,i=>match Nat.blt i 16 with
  |true=>c[i]?
  |false=>jn cs (i - 16)
def Hk {Z:Type}:List (List Z)->Bool
 | []=>true
 | [_]=>true
 |c::cs=>c.length == 16 && Hk cs

theorem Jc {Z:Type}:∀ (l:List (List Z)) (i:Nat) (x:Z),Hk l=true->jn l i=some x->l.flatten[i]? = some x
 | [],_,_,_,h=>by simp [jn] at h
 | [c],i,x,_,h=>by
  simp only [jn] at h
  split at h
  .simpa using h
  .simp at h
 |c::d::cs,i,x,hw,h=>by
  simp only [Hk,dP,beq_iff_eq] at hw
  rw [List.flatten_cons]
  simp only [jn] at h
  split at h
  .rename_i hb
   have aP:i < 16:=by simpa [Nat.blt_eq] using hb
   rw [mX (by omega)]
   exact h
  .rename_i hb
   have lq:¬ i < 16:=by
    intro aP
    have:Nat.blt i 16=true:=by simpa [Nat.blt_eq] using aP
    rw [this] at hb
    cases hb
   rw [px (by omega),hw.1]
   exact Jc (d::cs) (i - 16) x hw.2 (by simpa [jn] using h)

def zBp (pk:List (List TypeInfo)) (t:TypeId):Option TypeDesc :=
 match jn pk t with
 |some i=>match i.desc with
  | .named _ u=>(jn pk u).map (·.desc)
  |d=>some d
 |none=>none

def CA (i:TypeInfo):Bool:=match i.zero with
 |some z=>z.cells.toList.length == i.size && z.cells.toList.all mN
 |none=>false
def zBv (pk:List (List TypeInfo)) (OO:List (List Bool)) (t:TypeId):Option (Nat × Nat × List ae) :=
 match jn OO t with
 |some true=>match jn pk t with
  |some i=>match i.zero with
   |some z=>some (i.size,i.bytes,z.cells.toList)
   |none=>none
  |none=>none
 |_=>none

def zBF (pk:List (List TypeInfo)) (OO:List (List Bool)) (t:TypeId):Option ae :=
 match jn OO t with
 |some true=>match jn pk t with
  |some i=>i.zero
  |none=>none
 |_=>none

def zBy (pk:List (List TypeInfo)) (t:TypeId) (name:String):Option Method :=
 match jn pk t with
 |some i=>i.methods.find? (·.name == name)
 |none=>none

def zBm (gs:List Nat) (f:Func):Bool:=match f.body with
 |some c=>sP gs c
 |none=>false
def FL (gs:List Nat) (f:Func):Bool := !(f.name == "runtime.NumGoroutine") && zBm gs f
def MI (fns:List (List Func)) (OO:List (List Bool)) (f:FuncId):Option Func :=
 match jn OO f with
 |some true=>jn fns f
 |_=>none

def zCf (P:Program) (t:TypeId):Bool := !P.stoodInHeld t && !P.eqGuardType P.depth t
def zDM (cs:List TypeId) (t:TypeId):Bool:=cs.any (Nat.beq t)
def EY (pk:List (List TypeInfo)) (jB:List (List Bool)) (fns:List (List Func)) (kS:List (List Bool)) (cs:List TypeId) (gs:List Nat) (ds:List FuncId):bL :=
 { desc:=zBp pk,info:=zBv pk jB,fn:=MI fns kS,cmp:=zDM cs,zero:=zBF pk jB,gs:=gs,y7:=zBy pk,MC:=λf=>ds.any (Nat.beq f) }

theorem zuU {P:Program} {pk:List (List TypeInfo)} {jB:List (List Bool)} {fns:List (List Func)} {kS:List (List Bool)} {cs:List TypeId} {gs:List Nat} {ds:List FuncId} (lL:cs.all (zCf P)=true)
 (w1:Hk pk=true) (w2:Hk jB=true) (w3:Hk fns=true) (w4:Hk kS=true) (h1:P.types.toList=pk.flatten) (h2:P.types.toList.map CA=jB.flatten) (h3:P.funcs.toList=fns.flatten) (h4:P.funcs.toList.map (FL gs)=kS.flatten) :
 (EY pk jB fns kS cs gs ds).Fits P:=by
 have mf:∀ t i,jn pk t=some i->P.types.toList[t]? = some i:=λt i hi=>by rw [h1];exact Jc pk t i w1 hi
 have GV:∀ t i,jn pk t=some i->P.info? t=some i:=by
  intro t i hi
  have qz:P.types[t]? = some i:=by simpa using mf t i hi
  have aP:t < P.types.size:=(mY.1 qz).1
  unfold Tables.info?
  rw [aE aP,qz]
 refine ⟨?_,?_,?_,?_,?_,?_⟩
 .intro t d hd
  simp only [EY,zBp] at hd
  split at hd
  .rename_i i hi
   have h4:=GV t i hi
   unfold Program.underlying
   rw [h4]
   obtain ⟨desc,str,size,bytes,hp,al,fa,zero,comp,ms⟩:=i
   cases desc <;> simp only at hd ⊢ <;> first
    |exact hd
    |(simp only [cC] at hd
      obtain ⟨j,hj,rfl⟩:=hd
      rw [GV _ j hj]
      rfl)
  .cases hd
 .intro t n b z hz
  simp only [EY,zBv] at hz
  split at hz
  .rename_i dU
   split at hz
   .rename_i i hi
    split at hz
    .rename_i zv hzv
     simp only [dY,df] at hz
     obtain ⟨rfl,rfl,rfl⟩:=hz
     have h5:=Jc jB t true w2 dU
     rw [<- h2,lB,mf t i hi,jZ,dY] at h5
     simp only [CA,hzv,dP,beq_iff_eq] at h5
     exact ⟨i,zv,GV t i hi,rfl,rfl,hzv,rfl,h5.1,h5.2⟩
    .cases hz
   .cases hz
  .cases hz
 .intro f fn hf
  simp only [EY,MI] at hf
  split at hf
  .rename_i dU
   have h5:=Jc kS f true w4 dU
   have h6:=Jc fns f fn w3 hf
   rw [<- h3] at h6
   rw [<- h4,lB,h6,jZ,dY] at h5
   simp only [FL,dP,C9] at h5
   refine ⟨by simpa using h6,h5.1,λc IF=>?_⟩
   have:=h5.2
   unfold zBm at this
   rw [IF] at this
   exact this
  .cases hf
 .intro t ht
  simp only [EY,zDM,wq] at ht
  obtain ⟨u,hu,he⟩:=ht
  have:t=u:=Nat.eq_of_beq_eq_true he
  subst this
  have:=gK.1 lL t hu
  simpa [zCf] using this
 .intro t v hv
  simp only [EY,zBF] at hv
  split at hv
  .rename_i dU
   split at hv
   .rename_i i hi
    have h5:=Jc jB t true w2 dU
    rw [<- h2,lB,mf t i hi,jZ,dY] at h5
    simp only [CA,hv,dP,beq_iff_eq] at h5
    refine ⟨⟨i,GV t i hi,hv⟩,?_⟩
    have h6:=h5.2
    cases v <;> simpa [plain,Value.cells] using h6
   .cases hv
  .cases hv
 .intro t name m hm
  simp only [EY,zBy] at hm
  split at hm
  .rename_i i hi;exact ⟨i,GV t i hi,hm⟩
  .cases hm
end Go.Am
namespace Go.Proofs.YtkgojconmeeegaaGreatDoor
open Go.Am Tryz
noncomputable def Ef:List (List TypeInfo):=[[t0,t1,t2,t3,t4,t5,t6,t7,t8,t9,t10,t11,t12,t13,t14,t15],
 [t16,t17,t18,t19,t20,t21,t22,t23,t24,t25,t26,t27,t28,t29,t30,t31],
 [t32,t33,t34,t35,t36,t37,t38,t39,t40,t41,t42,t43,t44,t45,t46,t47],
 [t48,t49,t50,t51,t52,t53,t54,t55,t56,t57,t58,t59,t60,t61,t62,t63],
 [t64,t65,t66,t67,t68,t69,t70,t71,t72,t73,t74,t75,t76,t77,t78,t79],
 [t80,t81,t82,t83,t84,t85,t86,t87,t88,t89,t90,t91,t92,t93,t94,t95],
 [t96,t97,t98,t99,t100,t101,t102,t103,t104,t105,t106,t107,t108,t109,t110,t111],
 [t112,t113,t114,t115,t116,t117,t118,t119,t120,t121,t122,t123,t124,t125,t126,t127],
 [t128,t129,t130,t131,t132,t133,t134,t135,t136,t137,t138,t139,t140,t141,t142,t143],
 [t144,t145,t146,t147,t148,t149,t150,t151,t152,t153,t154,t155,t156,t157,t158,t159],
 [t160,t161,t162,t163,t164,t165,t166,t167,t168,t169,t170,t171,t172,t173,t174,t175],
 [t176,t177,t178,t179,t180,t181,t182,t183,t184,t185,t186,t187,t188,t189,t190,t191],
 [t192,t193,t194,t195,t196,t197,t198,t199,t200,t201,t202,t203,t204,t205,t206,t207],
 [t208,t209,t210,t211,t212,t213,t214,t215,t216,t217,t218,t219,t220,t221,t222,t223],
 [t224,t225,t226,t227,t228,t229,t230,t231,t232,t233,t234,t235,t236,t237,t238,t239],
 [t240,t241,t242,t243,t244,t245,t246,t247,t248,t249,t250,t251,t252,t253,t254,t255],
 [t256,t257,t258,t259,t260,t261,t262,t263,t264,t265,t266,t267,t268,t269,t270,t271],
 [t272,t273,t274,t275,t276,t277,t278,t279,t280,t281,t282,t283,t284,t285,t286,t287],
 [t288,t289,t290,t291,t292]]
def jB:List (List Bool):=[[false,true,true,true,true,true,true,true,true,true,true,true,true,true,true,true],
 [true,true,true,true,true,true,true,true,true,true,true,true,true,true,true,true],
 [true,true,true,true,true,true,true,true,true,true,false,true,true,true,true,true],
 [true,true,false,true,true,true,true,true,true,true,true,true,false,true,true,false],
 [true,true,true,true,true,true,true,true,true,true,true,true,true,true,true,true],
 [true,false,true,false,true,true,true,true,true,true,true,true,true,true,true,true],
 [true,true,true,true,true,true,true,true,true,true,true,true,true,true,true,true],
 [true,true,true,true,true,true,true,true,true,true,true,true,true,true,true,true],
 [true,true,false,true,true,true,false,true,true,true,true,true,true,true,true,true],
 [true,true,true,false,true,false,true,true,true,true,true,true,true,true,true,true],
 [true,true,true,true,true,true,true,true,true,true,true,true,true,true,true,true],
 [true,true,true,true,true,true,true,true,true,true,false,true,true,true,true,true],
 [true,true,true,true,true,true,true,true,false,true,true,true,true,true,true,true],
 [true,true,true,true,true,true,true,true,true,true,true,true,true,true,true,true],
 [true,true,true,true,true,true,true,true,true,true,true,true,true,false,true,true],
 [true,true,true,true,true,true,true,true,true,true,true,true,false,true,true,true],
 [true,true,true,true,true,true,true,true,true,true,true,true,true,true,true,true],
 [true,true,true,true,true,true,true,true,true,true,true,true,true,true,true,true],
 [true,true,true,true,true]]
noncomputable def Dv:List (List Func):=[[f0,f1,f2,f3,f4,f5,f6,f7,f8,f9,f10,f11,f12,f13,f14,f15],
 [f16,f17,f18,f19,f20,f21,f22,f23,f24,f25,f26,f27,f28,f29,f30,f31],
 [f32,f33,f34,f35,f36,f37,f38,f39,f40,f41,f42,f43,f44,f45,f46,f47],
 [f48,f49,f50,f51,f52,f53,f54,f55,f56,f57,f58,f59,f60,f61,f62,f63],
 [f64,f65,f66,f67,f68,f69,f70,f71,f72,f73,f74,f75,f76,f77,f78,f79],
 [f80,f81,f82,f83,f84,f85,f86,f87,f88,f89,f90,f91,f92,f93,f94,f95],
 [f96,f97,f98,f99,f100,f101,f102,f103,f104,f105,f106,f107,f108,f109,f110,f111],
 [f112,f113,f114,f115,f116,f117,f118,f119,f120,f121,f122,f123,f124,f125,f126,f127],
 [f128,f129,f130,f131,f132,f133,f134,f135,f136,f137,f138,f139,f140,f141,f142,f143],
 [f144,f145,f146,f147,f148,f149,f150,f151,f152,f153,f154,f155,f156,f157,f158,f159],
 [f160,f161,f162,f163,f164,f165,f166,f167,f168,f169,f170,f171,f172,f173,f174,f175],
 [f176,f177,f178,f179,f180,f181,f182,f183,f184,f185,f186,f187,f188,f189,f190,f191],
 [f192,f193,f194,f195,f196,f197,f198,f199,f200,f201,f202,f203,f204,f205,f206,f207],
 [f208,f209,f210,f211,f212,f213,f214,f215,f216,f217,f218,f219,f220,f221,f222,f223],
 [f224,f225,f226,f227,f228,f229,f230,f231,f232,f233,f234,f235,f236,f237,f238,f239],
 [f240,f241,f242,f243,f244,f245,f246,f247,f248,f249,f250,f251,f252,f253,f254,f255],
 [f256,f257,f258,f259,f260,f261,f262,f263,f264,f265,f266,f267,f268,f269,f270,f271],
 [f272]]
def kS:List (List Bool):=[[false,false,true,true,true,true,true,true,true,true,true,true,true,true,true,true],
 [true,true,true,true,true,true,true,true,true,true,true,true,true,true,true,true],
 [true,true,true,true,true,true,true,true,true,true,true,true,true,true,true,true],
 [true,true,true,true,true,true,true,true,true,true,true,true,true,true,true,true],
 [true,true,true,true,true,true,true,true,true,true,true,true,true,true,true,true],
 [true,true,true,true,true,true,true,true,true,true,true,true,true,true,true,true],
 [true,true,true,true,true,true,true,true,true,true,true,true,true,true,true,true],
 [true,true,true,true,true,true,false,true,true,true,true,true,true,true,true,true],
 [true,true,true,true,true,true,true,true,true,true,true,true,true,true,true,true],
 [true,true,true,true,true,true,true,true,true,true,true,true,true,true,true,true],
 [true,true,true,true,true,true,true,true,true,true,true,true,true,true,true,true],
 [true,true,true,true,true,true,true,true,true,true,true,true,true,true,true,true],
 [true,true,true,true,true,true,true,true,true,true,true,true,true,true,true,true],
 [true,true,true,true,true,true,true,true,false,true,true,true,true,true,true,true],
 [true,true,true,true,true,true,true,true,true,true,false,false,false,true,true,true],
 [false,false,false,false,false,false,false,false,false,false,false,false,false,false,false,false],
 [true,true,true,true,true,false,true,false,false,false,false,false,false,false,false,false],
 [false]]
def xL:List TypeId:=[7,8,30,31,32,33,34,35,36,72,73,177,178,194,195,199,257,264,265,273,274,276,277]
noncomputable def aA:bL:=EY Ef jB Dv kS xL [1] []
theorem zyW:prog.types.toList=Ef.flatten:=by kernel_rfl
theorem zyV:prog.types.toList.map CA=jB.flatten:=by kernel_rfl
theorem zyT:prog.funcs.toList=Dv.flatten:=by kernel_rfl
theorem zyS:prog.funcs.toList.map (FL [1])=kS.flatten:=by kernel_rfl
theorem v8:aA.Fits prog:=zuU (show xL.all (zCf prog)=true by kernel_rfl) (by kernel_rfl) (by kernel_rfl) (by kernel_rfl) (by kernel_rfl) zyW zyV zyT zyS
theorem mixed:prog.follows .mixedOrders=true:=by kernel_rfl
theorem zqr:aA.info 3=some (1,8,[.int .i64 0]):=by kernel_rfl
theorem zyU:aA.info 4=some (1,1,[.bool false]):=by kernel_rfl
theorem Ew:aA.info 9=some (1,16,[.string ⟨#[]⟩]):=by kernel_rfl
theorem zvO:aA.info 22=some (1,24,[.slice none 0 0]):=by kernel_rfl
theorem zvP:aA.info 28=some (7,136,[.slice none 0 0,.slice none 0 0,.slice none 0 0,.int .i64 0,.int .i64 0,.slice none 0 0,.slice none 0 0]):=by kernel_rfl
theorem zvQ:aA.info 31=some (2,24,[.bool false,.string ⟨#[]⟩]):=by kernel_rfl
theorem sJ:aA.info 34=some (11,136,[.string ⟨#[]⟩,.string ⟨#[]⟩,.int .i64 0,.bool false,.string ⟨#[]⟩,.bool false,.string ⟨#[]⟩,.bool false,.string ⟨#[]⟩,.bool false,.string ⟨#[]⟩]):=by kernel_rfl
theorem zvR:aA.info 36=some (13,160,[.int .i64 0,.string ⟨#[]⟩,.string ⟨#[]⟩,.string ⟨#[]⟩,.int .i64 0,.bool false,.string ⟨#[]⟩,.bool false,.string ⟨#[]⟩,.bool false,.string ⟨#[]⟩,.bool false,.string ⟨#[]⟩]):=by kernel_rfl
theorem zh1:aA.info 44=some (1,24,[.slice none 0 0]):=by kernel_rfl
theorem zvS:aA.info 46=some (1,24,[.slice none 0 0]):=by kernel_rfl
theorem zvT:aA.info 55=some (1,8,[.int .u64 0]):=by kernel_rfl
theorem zh2:aA.info 73=some (2,24,[.string ⟨#[]⟩,.int .i64 0]):=by kernel_rfl
theorem zvU:aA.info 75=some (2,40,[.string ⟨#[]⟩,.slice none 0 0]):=by kernel_rfl
theorem zvV:aA.info 77=some (12,160,[.string ⟨#[]⟩,.string ⟨#[]⟩,.int .i64 0,.bool false,.string ⟨#[]⟩,.bool false,.string ⟨#[]⟩,.bool false,.string ⟨#[]⟩,.bool false,.string ⟨#[]⟩,.slice none 0 0]):=by kernel_rfl
theorem zvW:aA.info 80=some (13,176,[.string ⟨#[]⟩,.string ⟨#[]⟩,.string ⟨#[]⟩,.int .i64 0,.bool false,.string ⟨#[]⟩,.bool false,.string ⟨#[]⟩,.bool false,.string ⟨#[]⟩,.bool false,.string ⟨#[]⟩,.slice none 0 0]):=by kernel_rfl
theorem zvX:aA.info 85=some (1,24,[.slice none 0 0]):=by kernel_rfl
theorem zsu:aA.info 109=some (2,32,[.slice none 0 0,.int .u64 0]):=by kernel_rfl
theorem zsv:aA.info 112=some (1,8,[.nilFunc]):=by kernel_rfl
theorem zsw:aA.info 117=some (1,8,[.nilFunc]):=by kernel_rfl
theorem zkg:aA.info 124=some (3,48,[.string ⟨#[]⟩,.slice none 0 0,.int .u64 0]):=by kernel_rfl
theorem zsx:aA.info 164=some (1,8,[.nilFunc]):=by kernel_rfl
theorem zkh:aA.info 178=some (2,24,[.string ⟨#[]⟩,.int .i64 0]):=by kernel_rfl
theorem vU:aA.info 195=some (3,40,[.string ⟨#[]⟩,.bool false,.string ⟨#[]⟩]):=by kernel_rfl
theorem zsy:aA.info 199=some (0,0,[]):=by kernel_rfl
theorem zDi:aA.fn 5=some f5:=by kernel_rfl
theorem zAZ:aA.fn 48=some f48:=by kernel_rfl
theorem zA0:aA.fn 49=some f49:=by kernel_rfl
theorem zA1:aA.fn 71=some f71:=by kernel_rfl
theorem zqo:aA.fn 157=some f157:=by kernel_rfl
theorem zqp:aA.fn 196=some f196:=by kernel_rfl
theorem zqq:aA.fn 223=some f223:=by kernel_rfl
end Go.Proofs.YtkgojconmeeegaaGreatDoor
