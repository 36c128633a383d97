/- Tables for the plain machine, read off a program. No condition. -/
import Derived.Test.YtdplfgoifjjniaaGreatDoorG1
import Derived.Test.YtdplfgoifjjniaaGreatDoorProg
import Derived.KernelRfl
namespace Go.Am

def gW {α:Type}:List (List α)→Nat→Option α
 | [],_=>none
 |c::cs,i=>match Nat.blt i 16 with
  |true=>c[i]?
  |false=>gW cs (i - 16)
def Ef {α:Type}:List (List α)→Bool
 | []=>true
 | [_]=>true
 |c::cs=>c.length == 16 && Ef cs

theorem F7 {α:Type}:∀ (l:List (List α)) (i:Nat) (x:α),Ef l=true→gW l i=some x→l.flatten[i]? = some x
 | [],_,_,_,h=>by simp [gW] at h
 | [c],i,x,_,h=>by
  simp only [gW] at h
  split at h
  ·simpa using h
  ·simp at h
 |c::d::cs,i,x,hw,h=>by
  simp only [Ef,Bool.and_eq_true,beq_iff_eq] at hw
  rw [List.flatten_cons]
  simp only [gW] at h
  split at h
  ·rename_i hb
   have aS:i < 16:=by simpa [Nat.blt_eq] using hb
   rw [List.getElem?_append_left (by omega)]
   exact h
  ·rename_i hb
   have lr:¬ i < 16:=by
    intro aS
    have:Nat.blt i 16=true:=by simpa [Nat.blt_eq] using aS
    rw [this] at hb
    cases hb
   rw [List.getElem?_append_right (by omega),hw.1]
   exact F7 (d::cs) (i - 16) x hw.2 (by simpa [gW] using h)

def zA9 (mO:List (List TypeInfo)) (t:TypeId):Option TypeDesc :=
 match gW mO t with
 |some i=>match i.desc with
  | .named _ u=>(gW mO u).map (·.desc)
  |d=>some d
 |none=>none

def zG (i:TypeInfo):Bool:=match i.zero with
 |some z=>z.cells.toList.length == i.size && z.cells.toList.all kO
 |none=>false
def zBi (mO:List (List TypeInfo)) (Kt:List (List Bool)) (t:TypeId):Option (Nat × Nat × List Value) :=
 match gW Kt t with
 |some true=>match gW mO t with
  |some i=>match i.zero with
   |some z=>some (i.size,i.bytes,z.cells.toList)
   |none=>none
  |none=>none
 |_=>none

def zBp (mO:List (List TypeInfo)) (Kt:List (List Bool)) (t:TypeId):Option Value :=
 match gW Kt t with
 |some true=>match gW mO t with
  |some i=>i.zero
  |none=>none
 |_=>none

def zBl (mO:List (List TypeInfo)) (t:TypeId) (name:String):Option Method :=
 match gW mO t with
 |some i=>i.methods.find? (·.name == name)
 |none=>none

def zA6 (gs:List Nat) (f:Func):Bool:=match f.body with
 |some c=>pG gs c
 |none=>false
def CB (gs:List Nat) (f:Func):Bool := !(f.name == "runtime.NumGoroutine") && zA6 gs f
def IG (fns:List (List Func)) (Kt:List (List Bool)) (f:FuncId):Option Func :=
 match gW Kt f with
 |some true=>gW fns f
 |_=>none

def X5 (P:Program) (t:TypeId):Bool := !P.stoodInHeld t && !P.eqGuardType P.depth t
def zDL (cs:List TypeId) (t:TypeId):Bool:=cs.any (Nat.beq t)
def BQ (mO:List (List TypeInfo)) (ie:List (List Bool)) (fns:List (List Func)) (jx:List (List Bool)) (cs:List TypeId) (gs:List Nat) (ds:List FuncId):bD :=
 { desc:=zA9 mO,info:=zBi mO ie,fn:=IG fns jx,cmp:=zDL cs,zero:=zBp mO ie,gs:=gs,uX:=zBl mO,Cu:=fun f=>ds.any (Nat.beq f) }

theorem zrv {P:Program} {mO:List (List TypeInfo)} {ie:List (List Bool)} {fns:List (List Func)} {jx:List (List Bool)} {cs:List TypeId} {gs:List Nat} {ds:List FuncId} (kC:cs.all (X5 P)=true)
 (w1:Ef mO=true) (w2:Ef ie=true) (w3:Ef fns=true) (w4:Ef jx=true) (h1:P.types.toList=mO.flatten) (h2:P.types.toList.map zG=ie.flatten) (h3:P.funcs.toList=fns.flatten) (h4:P.funcs.toList.map (CB gs)=jx.flatten) :
 (BQ mO ie fns jx cs gs ds).Fits P:=by
 have nt:∀ t i,gW mO t=some i→P.types.toList[t]? = some i:=fun t i hi=>by rw [h1];exact F7 mO t i w1 hi
 have DJ:∀ t i,gW mO t=some i→P.info? t=some i:=by
  intro t i hi
  have oL:P.types[t]? = some i:=by simpa using nt t i hi
  have aS:t < P.types.size:=(Array.getElem?_eq_some_iff.1 oL).1
  unfold Tables.info?
  rw [if_pos aS,oL]
 refine ⟨?_,?_,?_,?_,?_,?_⟩
 ·intro t d hd
  simp only [BQ,zA9] at hd
  split at hd
  ·rename_i i hi
   have h4:=DJ t i hi
   unfold Program.underlying
   rw [h4]
   obtain ⟨desc,str,size,bytes,hp,al,fa,zero,comp,ms⟩:=i
   cases desc <;> simp only at hd ⊢ <;> first
    |exact hd
    |(simp only [Option.map_eq_some_iff] at hd
      obtain ⟨j,hj,rfl⟩:=hd
      rw [DJ _ j hj]
      rfl)
  ·cases hd
 ·intro t n b z hz
  simp only [BQ,zBi] at hz
  split at hz
  ·rename_i di
   split at hz
   ·rename_i i hi
    split at hz
    ·rename_i zv hzv
     simp only [Option.some.injEq,Prod.mk.injEq] at hz
     obtain ⟨rfl,rfl,rfl⟩:=hz
     have h5:=F7 ie t true w2 di
     rw [← h2,List.getElem?_map,nt t i hi,Option.map_some,Option.some.injEq] at h5
     simp only [zG,hzv,Bool.and_eq_true,beq_iff_eq] at h5
     exact ⟨i,zv,DJ t i hi,rfl,rfl,hzv,rfl,h5.1,h5.2⟩
    ·cases hz
   ·cases hz
  ·cases hz
 ·intro f fn hf
  simp only [BQ,IG] at hf
  split at hf
  ·rename_i di
   have h5:=F7 jx f true w4 di
   have h6:=F7 fns f fn w3 hf
   rw [← h3] at h6
   rw [← h4,List.getElem?_map,h6,Option.map_some,Option.some.injEq] at h5
   simp only [CB,Bool.and_eq_true,Bool.not_eq_true'] at h5
   refine ⟨by simpa using h6,h5.1,fun c Jl=>?_⟩
   have:=h5.2
   unfold zA6 at this
   rw [Jl] at this
   exact this
  ·cases hf
 ·intro t ht
  simp only [BQ,zDL,List.any_eq_true] at ht
  obtain ⟨u,hu,he⟩:=ht
  have:t=u:=Nat.eq_of_beq_eq_true he
  subst this
  have:=List.all_eq_true.1 kC t hu
  simpa [X5] using this
 ·intro t v hv
  simp only [BQ,zBp] at hv
  split at hv
  ·rename_i di
   split at hv
   ·rename_i i hi
    have h5:=F7 ie t true w2 di
    rw [← h2,List.getElem?_map,nt t i hi,Option.map_some,Option.some.injEq] at h5
    simp only [zG,hv,Bool.and_eq_true,beq_iff_eq] at h5
    refine ⟨⟨i,DJ t i hi,hv⟩,?_⟩
    have h6:=h5.2
    cases v <;> simpa [plain,Value.cells] using h6
   ·cases hv
  ·cases hv
 ·intro t name m hm
  simp only [BQ,zBl] at hm
  split at hm
  ·rename_i i hi;exact ⟨i,DJ t i hi,hm⟩
  ·cases hm
end Go.Am
namespace Go.Proofs.YtdplfgoifjjniaaGreatDoor
open Go.Am
noncomputable def Bc:List (List TypeInfo):=[[Tryz.t0,Tryz.t1,Tryz.t2,Tryz.t3,Tryz.t4,Tryz.t5,Tryz.t6,Tryz.t7,Tryz.t8,Tryz.t9,Tryz.t10,Tryz.t11,Tryz.t12,Tryz.t13,Tryz.t14,Tryz.t15],
 [Tryz.t16,Tryz.t17,Tryz.t18,Tryz.t19,Tryz.t20,Tryz.t21,Tryz.t22,Tryz.t23,Tryz.t24,Tryz.t25,Tryz.t26,Tryz.t27,Tryz.t28,Tryz.t29,Tryz.t30,Tryz.t31],
 [Tryz.t32,Tryz.t33,Tryz.t34,Tryz.t35,Tryz.t36,Tryz.t37,Tryz.t38,Tryz.t39,Tryz.t40,Tryz.t41,Tryz.t42,Tryz.t43,Tryz.t44,Tryz.t45,Tryz.t46,Tryz.t47],
 [Tryz.t48,Tryz.t49,Tryz.t50,Tryz.t51,Tryz.t52,Tryz.t53,Tryz.t54,Tryz.t55,Tryz.t56,Tryz.t57,Tryz.t58,Tryz.t59,Tryz.t60,Tryz.t61,Tryz.t62,Tryz.t63],
 [Tryz.t64,Tryz.t65,Tryz.t66,Tryz.t67,Tryz.t68,Tryz.t69,Tryz.t70,Tryz.t71,Tryz.t72,Tryz.t73,Tryz.t74,Tryz.t75,Tryz.t76,Tryz.t77,Tryz.t78,Tryz.t79],
 [Tryz.t80,Tryz.t81,Tryz.t82,Tryz.t83,Tryz.t84,Tryz.t85,Tryz.t86,Tryz.t87,Tryz.t88,Tryz.t89,Tryz.t90,Tryz.t91,Tryz.t92,Tryz.t93,Tryz.t94,Tryz.t95],
 [Tryz.t96,Tryz.t97,Tryz.t98,Tryz.t99,Tryz.t100,Tryz.t101,Tryz.t102,Tryz.t103,Tryz.t104,Tryz.t105,Tryz.t106,Tryz.t107,Tryz.t108,Tryz.t109,Tryz.t110,Tryz.t111],
 [Tryz.t112,Tryz.t113,Tryz.t114,Tryz.t115,Tryz.t116,Tryz.t117,Tryz.t118,Tryz.t119,Tryz.t120,Tryz.t121,Tryz.t122,Tryz.t123,Tryz.t124,Tryz.t125,Tryz.t126,Tryz.t127],
 [Tryz.t128,Tryz.t129,Tryz.t130,Tryz.t131,Tryz.t132,Tryz.t133,Tryz.t134,Tryz.t135,Tryz.t136,Tryz.t137,Tryz.t138,Tryz.t139,Tryz.t140,Tryz.t141,Tryz.t142,Tryz.t143],
 [Tryz.t144,Tryz.t145,Tryz.t146,Tryz.t147,Tryz.t148,Tryz.t149,Tryz.t150,Tryz.t151,Tryz.t152,Tryz.t153,Tryz.t154,Tryz.t155,Tryz.t156,Tryz.t157,Tryz.t158,Tryz.t159],
 [Tryz.t160,Tryz.t161,Tryz.t162,Tryz.t163,Tryz.t164,Tryz.t165,Tryz.t166,Tryz.t167,Tryz.t168,Tryz.t169,Tryz.t170,Tryz.t171,Tryz.t172,Tryz.t173,Tryz.t174,Tryz.t175],
 [Tryz.t176,Tryz.t177,Tryz.t178,Tryz.t179,Tryz.t180,Tryz.t181,Tryz.t182,Tryz.t183,Tryz.t184,Tryz.t185,Tryz.t186,Tryz.t187,Tryz.t188,Tryz.t189,Tryz.t190,Tryz.t191],
 [Tryz.t192,Tryz.t193,Tryz.t194,Tryz.t195,Tryz.t196,Tryz.t197,Tryz.t198,Tryz.t199,Tryz.t200,Tryz.t201,Tryz.t202,Tryz.t203,Tryz.t204,Tryz.t205,Tryz.t206,Tryz.t207],
 [Tryz.t208,Tryz.t209,Tryz.t210,Tryz.t211,Tryz.t212,Tryz.t213,Tryz.t214,Tryz.t215,Tryz.t216,Tryz.t217,Tryz.t218,Tryz.t219,Tryz.t220]]
def ie:List (List Bool):=[[false,true,true,true,true,true,true,true,true,true,true,true,true,true,true,true],
 [true,true,true,true,true,true,true,true,true,true,true,true,true,true,true,true],
 [true,true,false,true,false,true,true,true,true,true,true,true,true,true,true,true],
 [true,true,true,true,true,true,true,true,true,true,true,true,true,true,true,true],
 [true,true,true,true,true,true,true,true,true,true,true,true,true,true,true,true],
 [true,true,true,true,true,true,true,true,true,true,true,true,true,true,true,true],
 [true,true,true,true,true,true,true,false,false,true,true,false,true,true,true,true],
 [true,true,true,true,true,true,true,true,true,true,true,true,true,true,true,false],
 [true,true,true,true,true,true,true,true,true,true,true,true,true,true,true,true],
 [true,true,true,true,true,true,true,true,true,true,true,true,true,true,true,true],
 [true,true,true,true,true,true,true,true,true,true,true,true,true,true,true,true],
 [true,true,true,true,false,true,true,true,true,true,true,true,true,true,true,true],
 [true,true,true,true,true,true,true,true,true,true,true,true,true,true,true,true],
 [true,true,true,true,true,true,true,true,true,true,true,true,true]]
noncomputable def Ap:List (List Func):=[[Tryz.f0,Tryz.f1,Tryz.f2,Tryz.f3,Tryz.f4,Tryz.f5,Tryz.f6,Tryz.f7,Tryz.f8,Tryz.f9,Tryz.f10,Tryz.f11,Tryz.f12,Tryz.f13,Tryz.f14,Tryz.f15],
 [Tryz.f16,Tryz.f17,Tryz.f18,Tryz.f19,Tryz.f20,Tryz.f21,Tryz.f22,Tryz.f23,Tryz.f24,Tryz.f25,Tryz.f26,Tryz.f27,Tryz.f28,Tryz.f29,Tryz.f30,Tryz.f31],
 [Tryz.f32,Tryz.f33,Tryz.f34,Tryz.f35,Tryz.f36,Tryz.f37,Tryz.f38,Tryz.f39,Tryz.f40,Tryz.f41,Tryz.f42,Tryz.f43,Tryz.f44,Tryz.f45,Tryz.f46,Tryz.f47],
 [Tryz.f48,Tryz.f49,Tryz.f50,Tryz.f51,Tryz.f52,Tryz.f53,Tryz.f54,Tryz.f55,Tryz.f56,Tryz.f57,Tryz.f58,Tryz.f59,Tryz.f60,Tryz.f61,Tryz.f62,Tryz.f63],
 [Tryz.f64,Tryz.f65,Tryz.f66,Tryz.f67,Tryz.f68,Tryz.f69,Tryz.f70,Tryz.f71,Tryz.f72,Tryz.f73,Tryz.f74,Tryz.f75,Tryz.f76,Tryz.f77,Tryz.f78,Tryz.f79],
 [Tryz.f80,Tryz.f81,Tryz.f82,Tryz.f83,Tryz.f84,Tryz.f85,Tryz.f86,Tryz.f87,Tryz.f88,Tryz.f89,Tryz.f90,Tryz.f91,Tryz.f92,Tryz.f93,Tryz.f94,Tryz.f95],
 [Tryz.f96,Tryz.f97,Tryz.f98,Tryz.f99,Tryz.f100,Tryz.f101,Tryz.f102,Tryz.f103,Tryz.f104,Tryz.f105,Tryz.f106,Tryz.f107,Tryz.f108,Tryz.f109,Tryz.f110,Tryz.f111],
 [Tryz.f112,Tryz.f113,Tryz.f114,Tryz.f115,Tryz.f116,Tryz.f117,Tryz.f118,Tryz.f119,Tryz.f120,Tryz.f121,Tryz.f122,Tryz.f123,Tryz.f124,Tryz.f125,Tryz.f126,Tryz.f127],
 [Tryz.f128,Tryz.f129,Tryz.f130,Tryz.f131,Tryz.f132,Tryz.f133,Tryz.f134,Tryz.f135,Tryz.f136,Tryz.f137,Tryz.f138,Tryz.f139,Tryz.f140,Tryz.f141,Tryz.f142,Tryz.f143],
 [Tryz.f144,Tryz.f145,Tryz.f146,Tryz.f147,Tryz.f148,Tryz.f149,Tryz.f150,Tryz.f151,Tryz.f152,Tryz.f153,Tryz.f154,Tryz.f155,Tryz.f156,Tryz.f157,Tryz.f158,Tryz.f159],
 [Tryz.f160,Tryz.f161,Tryz.f162,Tryz.f163,Tryz.f164,Tryz.f165,Tryz.f166,Tryz.f167,Tryz.f168,Tryz.f169,Tryz.f170,Tryz.f171,Tryz.f172,Tryz.f173,Tryz.f174,Tryz.f175],
 [Tryz.f176,Tryz.f177,Tryz.f178,Tryz.f179,Tryz.f180,Tryz.f181,Tryz.f182,Tryz.f183,Tryz.f184,Tryz.f185,Tryz.f186,Tryz.f187,Tryz.f188,Tryz.f189,Tryz.f190,Tryz.f191],
 [Tryz.f192,Tryz.f193,Tryz.f194,Tryz.f195,Tryz.f196,Tryz.f197,Tryz.f198,Tryz.f199,Tryz.f200,Tryz.f201,Tryz.f202,Tryz.f203]]
def jx:List (List Bool):=[[false,false,true,true,true,true,true,true,true,true,true,true,true,true,true,true],
 [true,true,true,true,true,true,true,true,true,true,true,true,true,true,true,true],
 [true,true,true,true,true,true,true,true,true,true,true,true,true,true,true,true],
 [true,true,true,true,true,true,true,true,true,true,true,true,true,true,true,true],
 [true,true,true,true,true,true,true,true,true,true,true,true,true,true,true,true],
 [true,true,true,true,true,true,true,true,true,true,true,true,true,true,true,true],
 [false,true,true,true,true,true,true,true,true,true,true,true,true,true,true,true],
 [true,true,true,true,true,true,true,true,true,true,true,true,true,true,true,true],
 [true,true,true,true,true,true,true,true,true,true,true,true,true,true,true,true],
 [true,true,true,true,true,true,true,true,true,true,false,true,true,true,true,true],
 [false,true,true,true,true,true,true,true,true,false,false,true,true,false,false,false],
 [false,false,false,false,false,false,false,false,false,false,false,false,false,true,true,true],
 [true,true,false,false,false,false,false,false,false,false,false,false]]
def tG:List TypeId:=[7,8,38,39,40,41,42,56,57,66,67,126,135,136,183,188,189,201,202,204,205]
noncomputable def ae:bD:=BQ Bc ie Ap jx tG [1] []
theorem zvK:Tryz.prog.types.toList=Bc.flatten:=by kernel_rfl
theorem zvJ:Tryz.prog.types.toList.map zG=ie.flatten:=by kernel_rfl
theorem zvI:Tryz.prog.funcs.toList=Ap.flatten:=by kernel_rfl
theorem zvH:Tryz.prog.funcs.toList.map (CB [1])=jx.flatten:=by kernel_rfl
theorem vn:ae.Fits Tryz.prog:=zrv (show tG.all (X5 Tryz.prog)=true by kernel_rfl) (by kernel_rfl) (by kernel_rfl) (by kernel_rfl) (by kernel_rfl) zvK zvJ zvI zvH
theorem mixed:Tryz.prog.follows .mixedOrders=true:=by kernel_rfl
theorem zn4:ae.info 3=some (1,8,[.int .i64 0]):=by kernel_rfl
theorem Ev:ae.info 9=some (1,16,[.string ⟨#[]⟩]):=by kernel_rfl
theorem zsk:ae.info 23=some (1,24,[.slice none 0 0]):=by kernel_rfl
theorem zsl:ae.info 29=some (7,136,[.slice none 0 0,.slice none 0 0,.slice none 0 0,.int .i64 0,.int .i64 0,.slice none 0 0,.slice none 0 0]):=by kernel_rfl
theorem zsm:ae.info 39=some (2,24,[.bool false,.string ⟨#[]⟩]):=by kernel_rfl
theorem Gd:ae.info 42=some (11,136,[.string ⟨#[]⟩,.string ⟨#[]⟩,.int .i64 0,.bool false,.string ⟨#[]⟩,.bool false,.string ⟨#[]⟩,.bool false,.string ⟨#[]⟩,.bool false,.string ⟨#[]⟩]):=by kernel_rfl
theorem zsn:ae.info 62=some (1,8,[.nilFunc]):=by kernel_rfl
theorem Y7:ae.info 67=some (2,24,[.string ⟨#[]⟩,.int .i64 0]):=by kernel_rfl
theorem zkO:ae.info 69=some (2,40,[.string ⟨#[]⟩,.slice none 0 0]):=by kernel_rfl
theorem zkP:ae.info 71=some (12,160,[.string ⟨#[]⟩,.string ⟨#[]⟩,.int .i64 0,.bool false,.string ⟨#[]⟩,.bool false,.string ⟨#[]⟩,.bool false,.string ⟨#[]⟩,.bool false,.string ⟨#[]⟩,.slice none 0 0]):=by kernel_rfl
theorem zkQ:ae.info 73=some (13,176,[.string ⟨#[]⟩,.string ⟨#[]⟩,.string ⟨#[]⟩,.int .i64 0,.bool false,.string ⟨#[]⟩,.bool false,.string ⟨#[]⟩,.bool false,.string ⟨#[]⟩,.bool false,.string ⟨#[]⟩,.slice none 0 0]):=by kernel_rfl
theorem zso:ae.info 87=some (2,32,[.slice none 0 0,.int .u64 0]):=by kernel_rfl
theorem zpE:ae.info 126=some (0,0,[]):=by kernel_rfl
theorem zpF:ae.info 130=some (1,8,[.nilFunc]):=by kernel_rfl
theorem zjK:ae.info 136=some (2,24,[.string ⟨#[]⟩,.int .i64 0]):=by kernel_rfl
theorem zDb:ae.fn 6=some Tryz.f6:=by kernel_rfl
theorem zDc:ae.fn 7=some Tryz.f7:=by kernel_rfl
theorem zDd:ae.fn 9=some Tryz.f9:=by kernel_rfl
theorem zzu:ae.fn 10=some Tryz.f10:=by kernel_rfl
theorem zzv:ae.fn 11=some Tryz.f11:=by kernel_rfl
theorem zzw:ae.fn 14=some Tryz.f14:=by kernel_rfl
theorem zzx:ae.fn 15=some Tryz.f15:=by kernel_rfl
theorem zzy:ae.fn 16=some Tryz.f16:=by kernel_rfl
theorem zzz:ae.fn 17=some Tryz.f17:=by kernel_rfl
theorem zzA:ae.fn 18=some Tryz.f18:=by kernel_rfl
theorem zzB:ae.fn 19=some Tryz.f19:=by kernel_rfl
theorem zzC:ae.fn 20=some Tryz.f20:=by kernel_rfl
theorem zzD:ae.fn 21=some Tryz.f21:=by kernel_rfl
theorem zzE:ae.fn 22=some Tryz.f22:=by kernel_rfl
theorem zzF:ae.fn 23=some Tryz.f23:=by kernel_rfl
theorem zzG:ae.fn 25=some Tryz.f25:=by kernel_rfl
theorem zzH:ae.fn 26=some Tryz.f26:=by kernel_rfl
theorem zzI:ae.fn 27=some Tryz.f27:=by kernel_rfl
theorem zzJ:ae.fn 28=some Tryz.f28:=by kernel_rfl
theorem zzK:ae.fn 29=some Tryz.f29:=by kernel_rfl
theorem zzL:ae.fn 30=some Tryz.f30:=by kernel_rfl
theorem zzM:ae.fn 31=some Tryz.f31:=by kernel_rfl
theorem zzN:ae.fn 32=some Tryz.f32:=by kernel_rfl
theorem zzO:ae.fn 33=some Tryz.f33:=by kernel_rfl
theorem zzP:ae.fn 34=some Tryz.f34:=by kernel_rfl
theorem zzQ:ae.fn 36=some Tryz.f36:=by kernel_rfl
theorem zzR:ae.fn 37=some Tryz.f37:=by kernel_rfl
theorem zzS:ae.fn 38=some Tryz.f38:=by kernel_rfl
theorem zzT:ae.fn 39=some Tryz.f39:=by kernel_rfl
theorem zzU:ae.fn 40=some Tryz.f40:=by kernel_rfl
theorem zqC:ae.fn 41=some Tryz.f41:=by kernel_rfl
theorem zzV:ae.fn 42=some Tryz.f42:=by kernel_rfl
theorem zzW:ae.fn 43=some Tryz.f43:=by kernel_rfl
theorem zzX:ae.fn 44=some Tryz.f44:=by kernel_rfl
theorem zzY:ae.fn 45=some Tryz.f45:=by kernel_rfl
theorem zzZ:ae.fn 46=some Tryz.f46:=by kernel_rfl
theorem zz0:ae.fn 47=some Tryz.f47:=by kernel_rfl
theorem zz1:ae.fn 48=some Tryz.f48:=by kernel_rfl
theorem zz2:ae.fn 49=some Tryz.f49:=by kernel_rfl
theorem zz3:ae.fn 50=some Tryz.f50:=by kernel_rfl
theorem zz4:ae.fn 51=some Tryz.f51:=by kernel_rfl
theorem zz5:ae.fn 52=some Tryz.f52:=by kernel_rfl
theorem zz6:ae.fn 53=some Tryz.f53:=by kernel_rfl
theorem zz7:ae.fn 54=some Tryz.f54:=by kernel_rfl
theorem zz8:ae.fn 55=some Tryz.f55:=by kernel_rfl
theorem zz9:ae.fn 56=some Tryz.f56:=by kernel_rfl
theorem zAa:ae.fn 57=some Tryz.f57:=by kernel_rfl
theorem zAb:ae.fn 58=some Tryz.f58:=by kernel_rfl
theorem zAc:ae.fn 59=some Tryz.f59:=by kernel_rfl
theorem zAd:ae.fn 60=some Tryz.f60:=by kernel_rfl
theorem zAe:ae.fn 61=some Tryz.f61:=by kernel_rfl
theorem zAf:ae.fn 62=some Tryz.f62:=by kernel_rfl
theorem zAg:ae.fn 63=some Tryz.f63:=by kernel_rfl
theorem zAh:ae.fn 64=some Tryz.f64:=by kernel_rfl
theorem zAi:ae.fn 65=some Tryz.f65:=by kernel_rfl
theorem zAj:ae.fn 66=some Tryz.f66:=by kernel_rfl
theorem zAk:ae.fn 67=some Tryz.f67:=by kernel_rfl
theorem zAl:ae.fn 68=some Tryz.f68:=by kernel_rfl
theorem zAm:ae.fn 69=some Tryz.f69:=by kernel_rfl
theorem zAn:ae.fn 70=some Tryz.f70:=by kernel_rfl
theorem zAo:ae.fn 71=some Tryz.f71:=by kernel_rfl
theorem zAp:ae.fn 72=some Tryz.f72:=by kernel_rfl
theorem zAq:ae.fn 73=some Tryz.f73:=by kernel_rfl
theorem zAr:ae.fn 74=some Tryz.f74:=by kernel_rfl
theorem zAs:ae.fn 75=some Tryz.f75:=by kernel_rfl
theorem zAt:ae.fn 76=some Tryz.f76:=by kernel_rfl
theorem zAu:ae.fn 77=some Tryz.f77:=by kernel_rfl
theorem zAv:ae.fn 78=some Tryz.f78:=by kernel_rfl
theorem zAw:ae.fn 79=some Tryz.f79:=by kernel_rfl
theorem zAx:ae.fn 80=some Tryz.f80:=by kernel_rfl
theorem zAy:ae.fn 81=some Tryz.f81:=by kernel_rfl
theorem zAz:ae.fn 82=some Tryz.f82:=by kernel_rfl
theorem zAA:ae.fn 83=some Tryz.f83:=by kernel_rfl
theorem zAB:ae.fn 84=some Tryz.f84:=by kernel_rfl
theorem zAC:ae.fn 85=some Tryz.f85:=by kernel_rfl
theorem zAD:ae.fn 86=some Tryz.f86:=by kernel_rfl
theorem zAE:ae.fn 87=some Tryz.f87:=by kernel_rfl
theorem zAF:ae.fn 88=some Tryz.f88:=by kernel_rfl
theorem zAG:ae.fn 89=some Tryz.f89:=by kernel_rfl
theorem zAH:ae.fn 90=some Tryz.f90:=by kernel_rfl
theorem zAI:ae.fn 91=some Tryz.f91:=by kernel_rfl
theorem zAJ:ae.fn 92=some Tryz.f92:=by kernel_rfl
theorem zAK:ae.fn 93=some Tryz.f93:=by kernel_rfl
theorem zAL:ae.fn 94=some Tryz.f94:=by kernel_rfl
theorem zAM:ae.fn 95=some Tryz.f95:=by kernel_rfl
theorem zqD:ae.fn 98=some Tryz.f98:=by kernel_rfl
theorem zAN:ae.fn 99=some Tryz.f99:=by kernel_rfl
theorem zuR:ae.fn 100=some Tryz.f100:=by kernel_rfl
theorem zuS:ae.fn 101=some Tryz.f101:=by kernel_rfl
theorem zuT:ae.fn 102=some Tryz.f102:=by kernel_rfl
theorem zuU:ae.fn 103=some Tryz.f103:=by kernel_rfl
theorem zuV:ae.fn 104=some Tryz.f104:=by kernel_rfl
theorem zuW:ae.fn 105=some Tryz.f105:=by kernel_rfl
theorem zuX:ae.fn 106=some Tryz.f106:=by kernel_rfl
theorem zuY:ae.fn 107=some Tryz.f107:=by kernel_rfl
theorem zuZ:ae.fn 108=some Tryz.f108:=by kernel_rfl
theorem zu0:ae.fn 109=some Tryz.f109:=by kernel_rfl
theorem zu1:ae.fn 110=some Tryz.f110:=by kernel_rfl
theorem zu2:ae.fn 111=some Tryz.f111:=by kernel_rfl
theorem zu3:ae.fn 112=some Tryz.f112:=by kernel_rfl
theorem zu4:ae.fn 113=some Tryz.f113:=by kernel_rfl
theorem zu5:ae.fn 114=some Tryz.f114:=by kernel_rfl
theorem zu6:ae.fn 115=some Tryz.f115:=by kernel_rfl
theorem zu7:ae.fn 116=some Tryz.f116:=by kernel_rfl
theorem zu8:ae.fn 117=some Tryz.f117:=by kernel_rfl
theorem zu9:ae.fn 118=some Tryz.f118:=by kernel_rfl
theorem zva:ae.fn 119=some Tryz.f119:=by kernel_rfl
theorem zvb:ae.fn 120=some Tryz.f120:=by kernel_rfl
theorem zvc:ae.fn 121=some Tryz.f121:=by kernel_rfl
theorem zvd:ae.fn 122=some Tryz.f122:=by kernel_rfl
theorem zve:ae.fn 123=some Tryz.f123:=by kernel_rfl
theorem znV:ae.fn 124=some Tryz.f124:=by kernel_rfl
theorem znW:ae.fn 125=some Tryz.f125:=by kernel_rfl
theorem zvf:ae.fn 126=some Tryz.f126:=by kernel_rfl
theorem znX:ae.fn 127=some Tryz.f127:=by kernel_rfl
theorem zvg:ae.fn 128=some Tryz.f128:=by kernel_rfl
theorem zvh:ae.fn 130=some Tryz.f130:=by kernel_rfl
theorem zvi:ae.fn 131=some Tryz.f131:=by kernel_rfl
theorem zvj:ae.fn 132=some Tryz.f132:=by kernel_rfl
theorem zvk:ae.fn 133=some Tryz.f133:=by kernel_rfl
theorem znY:ae.fn 134=some Tryz.f134:=by kernel_rfl
theorem zvl:ae.fn 135=some Tryz.f135:=by kernel_rfl
theorem zvm:ae.fn 136=some Tryz.f136:=by kernel_rfl
theorem zvn:ae.fn 137=some Tryz.f137:=by kernel_rfl
theorem zvo:ae.fn 138=some Tryz.f138:=by kernel_rfl
theorem zvp:ae.fn 139=some Tryz.f139:=by kernel_rfl
theorem znZ:ae.fn 140=some Tryz.f140:=by kernel_rfl
theorem zvq:ae.fn 141=some Tryz.f141:=by kernel_rfl
theorem zn0:ae.fn 142=some Tryz.f142:=by kernel_rfl
theorem zn1:ae.fn 144=some Tryz.f144:=by kernel_rfl
theorem zvr:ae.fn 146=some Tryz.f146:=by kernel_rfl
theorem zvs:ae.fn 147=some Tryz.f147:=by kernel_rfl
theorem zvt:ae.fn 148=some Tryz.f148:=by kernel_rfl
theorem zn2:ae.fn 149=some Tryz.f149:=by kernel_rfl
theorem zvu:ae.fn 150=some Tryz.f150:=by kernel_rfl
theorem zvv:ae.fn 151=some Tryz.f151:=by kernel_rfl
theorem zn3:ae.fn 152=some Tryz.f152:=by kernel_rfl
theorem zvw:ae.fn 153=some Tryz.f153:=by kernel_rfl
theorem zvx:ae.fn 158=some Tryz.f158:=by kernel_rfl
theorem zvy:ae.fn 161=some Tryz.f161:=by kernel_rfl
theorem zvz:ae.fn 162=some Tryz.f162:=by kernel_rfl
theorem zvA:ae.fn 163=some Tryz.f163:=by kernel_rfl
theorem zvB:ae.fn 164=some Tryz.f164:=by kernel_rfl
theorem zvC:ae.fn 168=some Tryz.f168:=by kernel_rfl
theorem zvD:ae.fn 189=some Tryz.f189:=by kernel_rfl
theorem zvE:ae.fn 190=some Tryz.f190:=by kernel_rfl
theorem zvF:ae.fn 191=some Tryz.f191:=by kernel_rfl
theorem zvG:ae.fn 192=some Tryz.f192:=by kernel_rfl
end Go.Proofs.YtdplfgoifjjniaaGreatDoor
