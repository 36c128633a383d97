/- Tables for the plain machine, read off a program. No condition. -/
import Derived.Test.YtnkmeidmdaidhaaGreatDoorG1
import Derived.Test.YtnkmeidmdaidhaaGreatDoorProg
import Derived.KernelRfl
set_option linter.unusedSimpArgs false
namespace Go.Am

def iS {Z:Type}:List (List Z)->Nat->Option Z
 | [],_=>none
 |c::cs,i=>match Nat.blt i 16 with
  |true=>c[i]?
  |false=>iS cs (i - 16)
def Fs {Z:Type}:List (List Z)->Bool
 | []=>true
 | [_]=>true
 |c::cs=>c.length == 16 && Fs cs

theorem Hk {Z:Type}:∀ (l:List (List Z)) (i:Nat) (x:Z),Fs l=true->iS l i=some x->l.flatten[i]? = some x
 | [],_,_,_,h=>by simp [iS] at h
 | [c],i,x,_,h=>by
  simp only [iS] at h
  split at h
  .simpa using h
  .simp at h
 |c::d::cs,i,x,hw,h=>by
  simp only [Fs,dK,beq_iff_eq] at hw
  rw [List.flatten_cons]
  simp only [iS] at h
  split at h
  .rename_i hb
   have aT:i < 16:=by simpa [Nat.blt_eq] using hb
   rw [jz (by omega)]
   exact h
  .rename_i hb
   have tN:¬ i < 16:=by
    intro aT
    have:Nat.blt i 16=true:=by simpa [Nat.blt_eq] using aT
    rw [this] at hb
    cases hb
   rw [lp (by omega),hw.1]
   exact Hk (d::cs) (i - 16) x hw.2 (by simpa [iS] using h)

def zAh (oE:List (List TypeInfo)) (t:TypeId):Option TypeDesc :=
 match iS oE t with
 |some i=>match i.desc with
  | .named _ u=>(iS oE u).map (·.desc)
  |d=>some d
 |none=>none

def AZ (i:TypeInfo):Bool:=match i.zero with
 |some z=>z.cells.toList.length == i.size && z.cells.toList.all lM
 |none=>false
def zAs (oE:List (List TypeInfo)) (Lo:List (List Bool)) (t:TypeId):Option (Nat × Nat × List ai) :=
 match iS Lo t with
 |some true=>match iS oE t with
  |some i=>match i.zero with
   |some z=>some (i.size,i.bytes,z.cells.toList)
   |none=>none
  |none=>none
 |_=>none

def zAA (oE:List (List TypeInfo)) (Lo:List (List Bool)) (t:TypeId):Option ai :=
 match iS Lo t with
 |some true=>match iS oE t with
  |some i=>i.zero
  |none=>none
 |_=>none

def zAw (oE:List (List TypeInfo)) (t:TypeId) (name:String):Option Method :=
 match iS oE t with
 |some i=>i.methods.find? (·.name == name)
 |none=>none

def zAc (gs:List Nat) (f:Func):Bool:=match f.body with
 |some c=>rb gs c
 |none=>false
def DO (gs:List Nat) (f:Func):Bool := !(f.name == "runtime.NumGoroutine") && zAc gs f
def JI (fns:List (List Func)) (Lo:List (List Bool)) (f:FuncId):Option Func :=
 match iS Lo f with
 |some true=>iS fns f
 |_=>none

def W6 (P:Program) (t:TypeId):Bool := !P.stoodInHeld t && !P.eqGuardType P.depth t
def zCF (cs:List TypeId) (t:TypeId):Bool:=cs.any (Nat.beq t)
def Dj (oE:List (List TypeInfo)) (i5:List (List Bool)) (fns:List (List Func)) (kc:List (List Bool)) (cs:List TypeId) (gs:List Nat) (ds:List FuncId):bJ :=
 { desc:=zAh oE,info:=zAs oE i5,fn:=JI fns kc,cmp:=zCF cs,zero:=zAA oE i5,gs:=gs,xr:=zAw oE,Jy:=λf=>ds.any (Nat.beq f) }

theorem zux {P:Program} {oE:List (List TypeInfo)} {i5:List (List Bool)} {fns:List (List Func)} {kc:List (List Bool)} {cs:List TypeId} {gs:List Nat} {ds:List FuncId} (rH:cs.all (W6 P)=true)
 (w1:Fs oE=true) (w2:Fs i5=true) (w3:Fs fns=true) (w4:Fs kc=true) (h1:P.types.toList=oE.flatten) (h2:P.types.toList.map AZ=i5.flatten) (h3:P.funcs.toList=fns.flatten) (h4:P.funcs.toList.map (DO gs)=kc.flatten) :
 (Dj oE i5 fns kc cs gs ds).Fits P:=by
 have mr:∀ t i,iS oE t=some i->P.types.toList[t]? = some i:=λt i hi=>by rw [h1];exact Hk oE t i w1 hi
 have EU:∀ t i,iS oE t=some i->P.info? t=some i:=by
  intro t i hi
  have ql:P.types[t]? = some i:=by simpa using mr t i hi
  have aT:t < P.types.size:=(mU.1 ql).1
  unfold Tables.info?
  rw [aD aT,ql]
 refine ⟨?_,?_,?_,?_,?_,?_⟩
 .intro t d hd
  simp only [Dj,zAh] at hd
  split at hd
  .rename_i i hi
   have h4:=EU t i hi
   unfold Program.underlying
   rw [h4]
   obtain ⟨desc,str,size,bytes,hp,al,fa,zero,comp,ms⟩:=i
   cases desc <;> simp only at hd ⊢ <;> first
    |exact hd
    |(simp only [ct] at hd
      obtain ⟨j,hj,rfl⟩:=hd
      rw [EU _ j hj]
      rfl)
  .cases hd
 .intro t n b z hz
  simp only [Dj,zAs] at hz
  split at hz
  .rename_i cV
   split at hz
   .rename_i i hi
    split at hz
    .rename_i zv hzv
     simp only [eh,cQ] at hz
     obtain ⟨rfl,rfl,rfl⟩:=hz
     have h5:=Hk i5 t true w2 cV
     rw [<- h2,lP,mr t i hi,lu,eh] at h5
     simp only [AZ,hzv,dK,beq_iff_eq] at h5
     exact ⟨i,zv,EU t i hi,rfl,rfl,hzv,rfl,h5.1,h5.2⟩
    .cases hz
   .cases hz
  .cases hz
 .intro f fn hf
  simp only [Dj,JI] at hf
  split at hf
  .rename_i cV
   have h5:=Hk kc f true w4 cV
   have h6:=Hk fns f fn w3 hf
   rw [<- h3] at h6
   rw [<- h4,lP,h6,lu,eh] at h5
   simp only [DO,dK,zi] at h5
   refine ⟨by simpa using h6,h5.1,λc jN=>?_⟩
   have:=h5.2
   unfold zAc at this
   rw [jN] at this
   exact this
  .cases hf
 .intro t ht
  simp only [Dj,zCF,Gi] at ht
  obtain ⟨u,hu,he⟩:=ht
  have:t=u:=Nat.eq_of_beq_eq_true he
  subst this
  have:=iM.1 rH t hu
  simpa [W6] using this
 .intro t v hv
  simp only [Dj,zAA] at hv
  split at hv
  .rename_i cV
   split at hv
   .rename_i i hi
    have h5:=Hk i5 t true w2 cV
    rw [<- h2,lP,mr t i hi,lu,eh] at h5
    simp only [AZ,hv,dK,beq_iff_eq] at h5
    refine ⟨⟨i,EU t i hi,hv⟩,?_⟩
    have h6:=h5.2
    cases v <;> simpa [plain,Value.cells] using h6
   .cases hv
  .cases hv
 .intro t name m hm
  simp only [Dj,zAw] at hm
  split at hm
  .rename_i i hi;exact ⟨i,EU t i hi,hm⟩
  .cases hm
end Go.Am
namespace Go.Proofs.YtnkmeidmdaidhaaGreatDoor
open Go.Am Tryz
noncomputable def CD:List (List TypeInfo):=[[t0,t1,t2,t3,t4,t5,t6,t7,t8,t9,t10,t11,t12,t13,t14,t15],
 [t16,t17,t18,t19,t20,t21,t22,t23,t24,t25,t26,t27,t28,t29,t30,t31],
 [t32,t33,t34,t35,t36,t37,t38,t39,t40,t41,t42,t43,t44,t45,t46,t47],
 [t48,t49,t50,t51,t52,t53,t54,t55,t56,t57,t58,t59,t60,t61,t62,t63],
 [t64,t65,t66,t67,t68,t69,t70,t71,t72,t73,t74,t75,t76,t77,t78,t79],
 [t80,t81,t82,t83,t84,t85,t86,t87,t88,t89,t90,t91,t92,t93,t94,t95],
 [t96,t97,t98,t99,t100,t101,t102,t103,t104,t105,t106,t107,t108,t109,t110,t111],
 [t112,t113,t114,t115,t116,t117,t118,t119,t120,t121,t122,t123,t124,t125,t126,t127],
 [t128,t129,t130,t131,t132,t133,t134,t135,t136,t137,t138,t139,t140,t141,t142,t143],
 [t144,t145,t146,t147,t148,t149,t150,t151,t152,t153,t154,t155,t156,t157,t158,t159],
 [t160,t161,t162,t163,t164,t165,t166,t167,t168,t169,t170,t171,t172,t173,t174,t175],
 [t176,t177,t178,t179,t180,t181,t182,t183,t184,t185,t186,t187,t188,t189,t190,t191],
 [t192,t193,t194,t195,t196,t197,t198,t199,t200,t201,t202,t203,t204,t205,t206,t207],
 [t208,t209,t210,t211,t212,t213,t214,t215,t216,t217,t218,t219,t220]]
def i5:List (List Bool):=[[false,true,true,true,true,true,true,true,true,true,true,true,true,true,true,true],
 [true,true,true,true,true,true,true,true,true,true,true,true,true,true,true,true],
 [true,true,true,true,true,true,true,true,true,true,false,true,true,true,false,true],
 [true,true,true,false,true,true,true,true,true,true,true,true,true,true,true,true],
 [true,true,true,true,true,true,true,true,true,true,true,true,true,true,true,true],
 [true,true,true,true,true,true,true,true,true,false,true,false,true,true,true,true],
 [false,true,true,true,true,true,true,false,true,true,true,false,true,true,true,true],
 [true,true,true,true,true,true,true,true,true,true,true,true,false,true,true,true],
 [true,true,true,true,true,true,true,true,true,false,true,true,true,true,true,true],
 [true,true,true,true,true,true,true,true,true,true,true,true,true,true,true,true],
 [true,true,true,true,true,true,false,true,true,true,true,true,true,false,true,true],
 [true,true,true,true,true,true,true,true,true,true,true,true,true,true,true,true],
 [true,true,true,true,true,true,true,true,true,true,true,true,true,true,true,true],
 [true,true,true,true,true,true,true,true,true,true,true,true,true]]
noncomputable def BZ:List (List Func):=[[f0,f1,f2,f3,f4,f5,f6,f7,f8,f9,f10,f11,f12,f13,f14,f15],
 [f16,f17,f18,f19,f20,f21,f22,f23,f24,f25,f26,f27,f28,f29,f30,f31],
 [f32,f33,f34,f35,f36,f37,f38,f39,f40,f41,f42,f43,f44,f45,f46,f47],
 [f48,f49,f50,f51,f52,f53,f54,f55,f56,f57,f58,f59,f60,f61,f62,f63],
 [f64,f65,f66,f67,f68,f69,f70,f71,f72,f73,f74,f75,f76,f77,f78,f79],
 [f80,f81,f82,f83,f84,f85,f86,f87,f88,f89,f90,f91,f92,f93,f94,f95],
 [f96,f97,f98,f99,f100,f101,f102,f103,f104,f105,f106,f107,f108,f109,f110,f111],
 [f112,f113,f114,f115,f116,f117,f118,f119,f120,f121,f122,f123,f124,f125,f126,f127],
 [f128,f129,f130,f131,f132,f133,f134,f135,f136,f137,f138,f139,f140,f141,f142,f143],
 [f144,f145,f146,f147,f148,f149,f150,f151,f152,f153,f154,f155,f156,f157,f158,f159],
 [f160,f161,f162,f163,f164,f165,f166,f167,f168,f169,f170,f171,f172,f173,f174,f175],
 [f176,f177,f178,f179,f180,f181,f182,f183,f184,f185,f186,f187,f188,f189,f190,f191],
 [f192,f193]]
def kc:List (List Bool):=[[false,false,true,true,true,true,true,true,true,true,true,true,true,true,true,true],
 [true,true,true,true,true,true,true,true,true,true,true,true,true,true,true,true],
 [true,true,true,true,true,true,true,true,true,true,true,true,true,true,true,true],
 [true,true,true,true,true,true,true,true,true,true,true,true,true,true,true,true],
 [true,true,true,true,true,true,true,true,true,true,true,true,true,true,true,true],
 [true,true,true,true,true,true,true,true,true,true,true,true,true,true,true,true],
 [true,true,true,true,true,true,true,true,true,true,true,true,true,true,true,true],
 [true,true,true,true,true,true,true,true,true,true,true,true,true,true,true,true],
 [true,true,true,true,true,true,true,true,true,true,true,false,true,true,true,true],
 [false,true,true,true,true,false,true,true,true,true,true,true,true,true,true,false],
 [false,false,false,true,true,false,false,false,false,false,false,false,false,false,false,false],
 [false,false,false,false,false,false,false,false,false,false,false,false,false,false,false,false],
 [false,false]]
def vQ:List TypeId:=[7,8,24,25,26,27,28,123,133,134,169,175,181,183,186,187,199,200,202,203,205,206]
noncomputable def aH:bJ:=Dj CD i5 BZ kc vQ [1] []
theorem zx0:prog.types.toList=CD.flatten:=by kernel_rfl
theorem zxZ:prog.types.toList.map AZ=i5.flatten:=by kernel_rfl
theorem zxY:prog.funcs.toList=BZ.flatten:=by kernel_rfl
theorem zxX:prog.funcs.toList.map (DO [1])=kc.flatten:=by kernel_rfl
theorem Bm:aH.Fits prog:=zux (show vQ.all (W6 prog)=true by kernel_rfl) (by kernel_rfl) (by kernel_rfl) (by kernel_rfl) (by kernel_rfl) zx0 zxZ zxY zxX
theorem mixed:prog.follows .mixedOrders=true:=by kernel_rfl
theorem CW:aH.info 3=some (1,8,[.int .i64 0]):=by kernel_rfl
theorem Qb:aH.info 9=some (1,16,[.string ⟨#[]⟩]):=by kernel_rfl
theorem zve:aH.info 25=some (2,24,[.bool false,.string ⟨#[]⟩]):=by kernel_rfl
theorem sV:aH.info 28=some (11,136,[.string ⟨#[]⟩,.string ⟨#[]⟩,.int .i64 0,.bool false,.string ⟨#[]⟩,.bool false,.string ⟨#[]⟩,.bool false,.string ⟨#[]⟩,.bool false,.string ⟨#[]⟩]):=by kernel_rfl
theorem MQ:aH.info 35=some (12,160,[.string ⟨#[]⟩,.string ⟨#[]⟩,.int .i64 0,.bool false,.string ⟨#[]⟩,.bool false,.string ⟨#[]⟩,.bool false,.string ⟨#[]⟩,.bool false,.string ⟨#[]⟩,.slice none 0 0]):=by kernel_rfl
theorem zvf:aH.info 40=some (4,64,[.slice none 0 0,.int .i64 0,.int .i64 0,.slice none 0 0]):=by kernel_rfl
theorem XK:aH.info 71=some (13,168,[.string ⟨#[]⟩,.string ⟨#[]⟩,.int .i64 0,.bool false,.string ⟨#[]⟩,.bool false,.string ⟨#[]⟩,.bool false,.string ⟨#[]⟩,.bool false,.string ⟨#[]⟩,.int .i64 0,.slice none 0 0]):=by kernel_rfl
theorem zvg:aH.info 95=some (1,24,[.slice none 0 0]):=by kernel_rfl
theorem zlS:aH.info 99=some (1,8,[.pointer none]):=by kernel_rfl
theorem zkz:aH.info 109=some (1,8,[.pointer none]):=by kernel_rfl
theorem zrH:aH.info 123=some (0,0,[]):=by kernel_rfl
theorem Be:aH.info 134=some (3,40,[.string ⟨#[]⟩,.bool false,.string ⟨#[]⟩]):=by kernel_rfl
theorem zrI:aH.info 169=some (24,24,[.int .u8 0,.int .u8 0,.int .u8 0,.int .u8 0,.int .u8 0,.int .u8 0,.int .u8 0,.int .u8 0,.int .u8 0,.int .u8 0,.int .u8 0,.int .u8 0,.int .u8 0,.int .u8 0,.int .u8 0,.int .u8 0,.int .u8 0,.int .u8 0,.int .u8 0,.int .u8 0,.int .u8 0,.int .u8 0,.int .u8 0,.int .u8 0]):=by kernel_rfl
theorem zB9:aH.fn 6=some f6:=by kernel_rfl
theorem ztc:aH.fn 87=some f87:=by kernel_rfl
theorem zpG:aH.fn 120=some f120:=by kernel_rfl
theorem zpH:aH.fn 137=some f137:=by kernel_rfl
end Go.Proofs.YtnkmeidmdaidhaaGreatDoor
