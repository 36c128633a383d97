/- Tables for the plain machine, read off a program. No condition. -/
import Derived.Test.YtdplfgoifjjniaaGreatDoorG1
import Derived.Test.YtdplfgoifjjniaaGreatDoorProg
import Derived.KernelRfl
namespace Go.Am

def getC {α:Type}:List (List α)→Nat→Option α
 | [],_=>none
 |c::cs,i=>match Nat.blt i 16 with
  |true=>c[i]?
  |false=>getC cs (i - 16)
def wfC {α:Type}:List (List α)→Bool
 | []=>true
 | [_]=>true
 |c::cs=>c.length == 16 && wfC cs

theorem zcn {α:Type}:∀ (l:List (List α)) (i:Nat) (x:α),wfC l=true→getC l i=some x→l.flatten[i]? = some x
 | [],_,_,_,h=>by simp [getC] at h
 | [c],i,x,_,h=>by
  simp only [getC] at h
  split at h
  ·simpa using h
  ·simp at h
 |c::d::cs,i,x,hw,h=>by
  simp only [wfC,Bool.and_eq_true,beq_iff_eq] at hw
  rw [List.flatten_cons]
  simp only [getC] at h
  split at h
  ·rename_i hb
   have hlt:i < 16:=by simpa [Nat.blt_eq] using hb
   rw [List.getElem?_append_left (by omega)]
   exact h
  ·rename_i hb
   have hge:¬ i < 16:=by
    intro hlt
    have:Nat.blt i 16=true:=by simpa [Nat.blt_eq] using hlt
    rw [this] at hb
    cases hb
   rw [List.getElem?_append_right (by omega),hw.1]
   exact zcn (d::cs) (i - 16) x hw.2 (by simpa [getC] using h)

def zxn (tys:List (List TypeInfo)) (t:TypeId):Option TypeDesc :=
 match getC tys t with
 |some i=>match i.desc with
  | .named _ u=>(getC tys u).map (·.desc)
  |d=>some d
 |none=>none

def tyOk (i:TypeInfo):Bool:=match i.zero with
 |some z=>z.cells.toList.length == i.size && z.cells.toList.all zbM
 |none=>false
def zxG (tys:List (List TypeInfo)) (oks:List (List Bool)) (t:TypeId):Option (Nat × Nat × List Value) :=
 match getC oks t with
 |some true=>match getC tys t with
  |some i=>match i.zero with
   |some z=>some (i.size,i.bytes,z.cells.toList)
   |none=>none
  |none=>none
 |_=>none

def zxP (tys:List (List TypeInfo)) (oks:List (List Bool)) (t:TypeId):Option Value :=
 match getC oks t with
 |some true=>match getC tys t with
  |some i=>i.zero
  |none=>none
 |_=>none

def zxJ (tys:List (List TypeInfo)) (t:TypeId) (name:String):Option Method :=
 match getC tys t with
 |some i=>i.methods.find? (·.name == name)
 |none=>none

def zxk (gs:List Nat) (f:Func):Bool:=match f.body with
 |some c=>zc7 gs c
 |none=>false
def fnOk (gs:List Nat) (f:Func):Bool := !(f.name == "runtime.NumGoroutine") && zxk gs f
def fnOf (fns:List (List Func)) (oks:List (List Bool)) (f:FuncId):Option Func :=
 match getC oks f with
 |some true=>getC fns f
 |_=>none

def zyj (P:Program) (t:TypeId):Bool := !P.stoodInHeld t && !P.eqGuardType P.depth t
def zz8 (cs:List TypeId) (t:TypeId):Bool:=cs.any (Nat.beq t)
def zmv (tys:List (List TypeInfo)) (tyOks:List (List Bool)) (fns:List (List Func)) (fnOks:List (List Bool)) (cs:List TypeId) (gs:List Nat) (ds:List FuncId):Tab :=
 { desc:=zxn tys,info:=zxG tys tyOks,fn:=fnOf fns fnOks,cmp:=zz8 cs,zero:=zxP tys tyOks,gs:=gs,meth:=zxJ tys,dfr:=fun f=>ds.any (Nat.beq f) }

theorem zqq {P:Program} {tys:List (List TypeInfo)} {tyOks:List (List Bool)} {fns:List (List Func)} {fnOks:List (List Bool)} {cs:List TypeId} {gs:List Nat} {ds:List FuncId} (hcs:cs.all (zyj P)=true)
 (w1:wfC tys=true) (w2:wfC tyOks=true) (w3:wfC fns=true) (w4:wfC fnOks=true) (h1:P.types.toList=tys.flatten) (h2:P.types.toList.map tyOk=tyOks.flatten) (h3:P.funcs.toList=fns.flatten) (h4:P.funcs.toList.map (fnOk gs)=fnOks.flatten) :
 (zmv tys tyOks fns fnOks cs gs ds).Fits P:=by
 have hat:∀ t i,getC tys t=some i→P.types.toList[t]? = some i:=fun t i hi=>by rw [h1];exact zcn tys t i w1 hi
 have hty:∀ t i,getC tys t=some i→P.info? t=some i:=by
  intro t i hi
  have hi':P.types[t]? = some i:=by simpa using hat t i hi
  have hlt:t < P.types.size:=(Array.getElem?_eq_some_iff.1 hi').1
  unfold Tables.info?
  rw [if_pos hlt,hi']
 refine ⟨?_,?_,?_,?_,?_,?_⟩
 ·intro t d hd
  simp only [zmv,zxn] at hd
  split at hd
  ·rename_i i hi
   have h4:=hty t i hi
   unfold Program.underlying
   rw [h4]
   obtain ⟨desc,str,size,bytes,hp,al,fa,zero,comp,ms⟩:=i
   cases desc <;> simp only at hd ⊢ <;> first
    |exact hd
    |(simp only [Option.map_eq_some_iff] at hd
      obtain ⟨j,hj,rfl⟩:=hd
      rw [hty _ j hj]
      rfl)
  ·cases hd
 ·intro t n b z hz
  simp only [zmv,zxG] at hz
  split at hz
  ·rename_i hok
   split at hz
   ·rename_i i hi
    split at hz
    ·rename_i zv hzv
     simp only [Option.some.injEq,Prod.mk.injEq] at hz
     obtain ⟨rfl,rfl,rfl⟩:=hz
     have h5:=zcn tyOks t true w2 hok
     rw [← h2,List.getElem?_map,hat t i hi,Option.map_some,Option.some.injEq] at h5
     simp only [tyOk,hzv,Bool.and_eq_true,beq_iff_eq] at h5
     exact ⟨i,zv,hty t i hi,rfl,rfl,hzv,rfl,h5.1,h5.2⟩
    ·cases hz
   ·cases hz
  ·cases hz
 ·intro f fn hf
  simp only [zmv,fnOf] at hf
  split at hf
  ·rename_i hok
   have h5:=zcn fnOks f true w4 hok
   have h6:=zcn fns f fn w3 hf
   rw [← h3] at h6
   rw [← h4,List.getElem?_map,h6,Option.map_some,Option.some.injEq] at h5
   simp only [fnOk,Bool.and_eq_true,Bool.not_eq_true'] at h5
   refine ⟨by simpa using h6,h5.1,fun c hcb=>?_⟩
   have:=h5.2
   unfold zxk at this
   rw [hcb] at this
   exact this
  ·cases hf
 ·intro t ht
  simp only [zmv,zz8,List.any_eq_true] at ht
  obtain ⟨u,hu,he⟩:=ht
  have:t=u:=Nat.eq_of_beq_eq_true he
  subst this
  have:=List.all_eq_true.1 hcs t hu
  simpa [zyj] using this
 ·intro t v hv
  simp only [zmv,zxP] at hv
  split at hv
  ·rename_i hok
   split at hv
   ·rename_i i hi
    have h5:=zcn tyOks t true w2 hok
    rw [← h2,List.getElem?_map,hat t i hi,Option.map_some,Option.some.injEq] at h5
    simp only [tyOk,hv,Bool.and_eq_true,beq_iff_eq] at h5
    refine ⟨⟨i,hty t i hi,hv⟩,?_⟩
    have h6:=h5.2
    cases v <;> simpa [plain,Value.cells] using h6
   ·cases hv
  ·cases hv
 ·intro t name m hm
  simp only [zmv,zxJ] at hm
  split at hm
  ·rename_i i hi;exact ⟨i,hty t i hi,hm⟩
  ·cases hm
end Go.Am
namespace Go.Proofs.YtdplfgoifjjniaaGreatDoor
open Go.Am
noncomputable def tyTab:List (List TypeInfo):=[[Tryz.t0,Tryz.t1,Tryz.t2,Tryz.t3,Tryz.t4,Tryz.t5,Tryz.t6,Tryz.t7,Tryz.t8,Tryz.t9,Tryz.t10,Tryz.t11,Tryz.t12,Tryz.t13,Tryz.t14,Tryz.t15],
 [Tryz.t16,Tryz.t17,Tryz.t18,Tryz.t19,Tryz.t20,Tryz.t21,Tryz.t22,Tryz.t23,Tryz.t24,Tryz.t25,Tryz.t26,Tryz.t27,Tryz.t28,Tryz.t29,Tryz.t30,Tryz.t31],
 [Tryz.t32,Tryz.t33,Tryz.t34,Tryz.t35,Tryz.t36,Tryz.t37,Tryz.t38,Tryz.t39,Tryz.t40,Tryz.t41,Tryz.t42,Tryz.t43,Tryz.t44,Tryz.t45,Tryz.t46,Tryz.t47],
 [Tryz.t48,Tryz.t49,Tryz.t50,Tryz.t51,Tryz.t52,Tryz.t53,Tryz.t54,Tryz.t55,Tryz.t56,Tryz.t57,Tryz.t58,Tryz.t59,Tryz.t60,Tryz.t61,Tryz.t62,Tryz.t63],
 [Tryz.t64,Tryz.t65,Tryz.t66,Tryz.t67,Tryz.t68,Tryz.t69,Tryz.t70,Tryz.t71,Tryz.t72,Tryz.t73,Tryz.t74,Tryz.t75,Tryz.t76,Tryz.t77,Tryz.t78,Tryz.t79],
 [Tryz.t80,Tryz.t81,Tryz.t82,Tryz.t83,Tryz.t84,Tryz.t85,Tryz.t86,Tryz.t87,Tryz.t88,Tryz.t89,Tryz.t90,Tryz.t91,Tryz.t92,Tryz.t93,Tryz.t94,Tryz.t95],
 [Tryz.t96,Tryz.t97,Tryz.t98,Tryz.t99,Tryz.t100,Tryz.t101,Tryz.t102,Tryz.t103,Tryz.t104,Tryz.t105,Tryz.t106,Tryz.t107,Tryz.t108,Tryz.t109,Tryz.t110,Tryz.t111],
 [Tryz.t112,Tryz.t113,Tryz.t114,Tryz.t115,Tryz.t116,Tryz.t117,Tryz.t118,Tryz.t119,Tryz.t120,Tryz.t121,Tryz.t122,Tryz.t123,Tryz.t124,Tryz.t125,Tryz.t126,Tryz.t127],
 [Tryz.t128,Tryz.t129,Tryz.t130,Tryz.t131,Tryz.t132,Tryz.t133,Tryz.t134,Tryz.t135,Tryz.t136,Tryz.t137,Tryz.t138,Tryz.t139,Tryz.t140,Tryz.t141,Tryz.t142,Tryz.t143],
 [Tryz.t144,Tryz.t145,Tryz.t146,Tryz.t147,Tryz.t148,Tryz.t149,Tryz.t150,Tryz.t151,Tryz.t152,Tryz.t153,Tryz.t154,Tryz.t155,Tryz.t156,Tryz.t157,Tryz.t158,Tryz.t159],
 [Tryz.t160,Tryz.t161,Tryz.t162,Tryz.t163,Tryz.t164,Tryz.t165,Tryz.t166,Tryz.t167,Tryz.t168,Tryz.t169,Tryz.t170,Tryz.t171,Tryz.t172,Tryz.t173,Tryz.t174,Tryz.t175],
 [Tryz.t176,Tryz.t177,Tryz.t178,Tryz.t179,Tryz.t180,Tryz.t181,Tryz.t182,Tryz.t183,Tryz.t184,Tryz.t185,Tryz.t186,Tryz.t187,Tryz.t188,Tryz.t189,Tryz.t190,Tryz.t191],
 [Tryz.t192,Tryz.t193,Tryz.t194,Tryz.t195,Tryz.t196,Tryz.t197,Tryz.t198,Tryz.t199,Tryz.t200,Tryz.t201,Tryz.t202,Tryz.t203,Tryz.t204,Tryz.t205,Tryz.t206,Tryz.t207],
 [Tryz.t208,Tryz.t209,Tryz.t210,Tryz.t211,Tryz.t212,Tryz.t213,Tryz.t214,Tryz.t215,Tryz.t216,Tryz.t217,Tryz.t218,Tryz.t219,Tryz.t220]]
def tyOks:List (List Bool):=[[false,true,true,true,true,true,true,true,true,true,true,true,true,true,true,true],
 [true,true,true,true,true,true,true,true,true,true,true,true,true,true,true,true],
 [true,true,false,true,false,true,true,true,true,true,true,true,true,true,true,true],
 [true,true,true,true,true,true,true,true,true,true,true,true,true,true,true,true],
 [true,true,true,true,true,true,true,true,true,true,true,true,true,true,true,true],
 [true,true,true,true,true,true,true,true,true,true,true,true,true,true,true,true],
 [true,true,true,true,true,true,true,false,false,true,true,false,true,true,true,true],
 [true,true,true,true,true,true,true,true,true,true,true,true,true,true,true,false],
 [true,true,true,true,true,true,true,true,true,true,true,true,true,true,true,true],
 [true,true,true,true,true,true,true,true,true,true,true,true,true,true,true,true],
 [true,true,true,true,true,true,true,true,true,true,true,true,true,true,true,true],
 [true,true,true,true,false,true,true,true,true,true,true,true,true,true,true,true],
 [true,true,true,true,true,true,true,true,true,true,true,true,true,true,true,true],
 [true,true,true,true,true,true,true,true,true,true,true,true,true]]
noncomputable def fnTab:List (List Func):=[[Tryz.f0,Tryz.f1,Tryz.f2,Tryz.f3,Tryz.f4,Tryz.f5,Tryz.f6,Tryz.f7,Tryz.f8,Tryz.f9,Tryz.f10,Tryz.f11,Tryz.f12,Tryz.f13,Tryz.f14,Tryz.f15],
 [Tryz.f16,Tryz.f17,Tryz.f18,Tryz.f19,Tryz.f20,Tryz.f21,Tryz.f22,Tryz.f23,Tryz.f24,Tryz.f25,Tryz.f26,Tryz.f27,Tryz.f28,Tryz.f29,Tryz.f30,Tryz.f31],
 [Tryz.f32,Tryz.f33,Tryz.f34,Tryz.f35,Tryz.f36,Tryz.f37,Tryz.f38,Tryz.f39,Tryz.f40,Tryz.f41,Tryz.f42,Tryz.f43,Tryz.f44,Tryz.f45,Tryz.f46,Tryz.f47],
 [Tryz.f48,Tryz.f49,Tryz.f50,Tryz.f51,Tryz.f52,Tryz.f53,Tryz.f54,Tryz.f55,Tryz.f56,Tryz.f57,Tryz.f58,Tryz.f59,Tryz.f60,Tryz.f61,Tryz.f62,Tryz.f63],
 [Tryz.f64,Tryz.f65,Tryz.f66,Tryz.f67,Tryz.f68,Tryz.f69,Tryz.f70,Tryz.f71,Tryz.f72,Tryz.f73,Tryz.f74,Tryz.f75,Tryz.f76,Tryz.f77,Tryz.f78,Tryz.f79],
 [Tryz.f80,Tryz.f81,Tryz.f82,Tryz.f83,Tryz.f84,Tryz.f85,Tryz.f86,Tryz.f87,Tryz.f88,Tryz.f89,Tryz.f90,Tryz.f91,Tryz.f92,Tryz.f93,Tryz.f94,Tryz.f95],
 [Tryz.f96,Tryz.f97,Tryz.f98,Tryz.f99,Tryz.f100,Tryz.f101,Tryz.f102,Tryz.f103,Tryz.f104,Tryz.f105,Tryz.f106,Tryz.f107,Tryz.f108,Tryz.f109,Tryz.f110,Tryz.f111],
 [Tryz.f112,Tryz.f113,Tryz.f114,Tryz.f115,Tryz.f116,Tryz.f117,Tryz.f118,Tryz.f119,Tryz.f120,Tryz.f121,Tryz.f122,Tryz.f123,Tryz.f124,Tryz.f125,Tryz.f126,Tryz.f127],
 [Tryz.f128,Tryz.f129,Tryz.f130,Tryz.f131,Tryz.f132,Tryz.f133,Tryz.f134,Tryz.f135,Tryz.f136,Tryz.f137,Tryz.f138,Tryz.f139,Tryz.f140,Tryz.f141,Tryz.f142,Tryz.f143],
 [Tryz.f144,Tryz.f145,Tryz.f146,Tryz.f147,Tryz.f148,Tryz.f149,Tryz.f150,Tryz.f151,Tryz.f152,Tryz.f153,Tryz.f154,Tryz.f155,Tryz.f156,Tryz.f157,Tryz.f158,Tryz.f159],
 [Tryz.f160,Tryz.f161,Tryz.f162,Tryz.f163,Tryz.f164,Tryz.f165,Tryz.f166,Tryz.f167,Tryz.f168,Tryz.f169,Tryz.f170,Tryz.f171,Tryz.f172,Tryz.f173,Tryz.f174,Tryz.f175],
 [Tryz.f176,Tryz.f177,Tryz.f178,Tryz.f179,Tryz.f180,Tryz.f181,Tryz.f182,Tryz.f183,Tryz.f184,Tryz.f185,Tryz.f186,Tryz.f187,Tryz.f188,Tryz.f189,Tryz.f190,Tryz.f191],
 [Tryz.f192,Tryz.f193,Tryz.f194,Tryz.f195,Tryz.f196,Tryz.f197,Tryz.f198,Tryz.f199,Tryz.f200,Tryz.f201,Tryz.f202,Tryz.f203]]
def fnOks:List (List Bool):=[[false,false,true,true,true,true,true,true,true,true,true,true,true,true,true,true],
 [true,true,true,true,true,true,true,true,true,true,true,true,true,true,true,true],
 [true,true,true,true,true,true,true,true,true,true,true,true,true,true,true,true],
 [true,true,true,true,true,true,true,true,true,true,true,true,true,true,true,true],
 [true,true,true,true,true,true,true,true,true,true,true,true,true,true,true,true],
 [true,true,true,true,true,true,true,true,true,true,true,true,true,true,true,true],
 [false,true,true,true,true,true,true,true,true,true,true,true,true,true,true,true],
 [true,true,true,true,true,true,true,true,true,true,true,true,true,true,true,true],
 [true,true,true,true,true,true,true,true,true,true,true,true,true,true,true,true],
 [true,true,true,true,true,true,true,true,true,true,false,true,true,true,true,true],
 [false,true,true,true,true,true,true,true,true,false,false,true,true,false,false,false],
 [false,false,false,false,false,false,false,false,false,false,false,false,false,true,true,true],
 [true,true,false,false,false,false,false,false,false,false,false,false]]
def cmpTys:List TypeId:=[7,8,38,39,40,41,42,56,57,66,67,126,135,136,183,188,189,201,202,204,205]
noncomputable def tab:Tab:=zmv tyTab tyOks fnTab fnOks cmpTys [1] []
theorem zum:Tryz.prog.types.toList=tyTab.flatten:=by kernel_rfl
theorem zul:Tryz.prog.types.toList.map tyOk=tyOks.flatten:=by kernel_rfl
theorem zuk:Tryz.prog.funcs.toList=fnTab.flatten:=by kernel_rfl
theorem zuj:Tryz.prog.funcs.toList.map (fnOk [1])=fnOks.flatten:=by kernel_rfl
theorem zcH:tab.Fits Tryz.prog:=zqq (show cmpTys.all (zyj Tryz.prog)=true by kernel_rfl) (by kernel_rfl) (by kernel_rfl) (by kernel_rfl) (by kernel_rfl) zum zul zuk zuj
theorem mixed:Tryz.prog.follows .mixedOrders=true:=by kernel_rfl
theorem zng:tab.info 3=some (1,8,[.int .i64 0]):=by kernel_rfl
theorem zeg:tab.info 9=some (1,16,[.string ⟨#[]⟩]):=by kernel_rfl
theorem zrb:tab.info 23=some (1,24,[.slice none 0 0]):=by kernel_rfl
theorem zrc:tab.info 29=some (7,136,[.slice none 0 0,.slice none 0 0,.slice none 0 0,.int .i64 0,.int .i64 0,.slice none 0 0,.slice none 0 0]):=by kernel_rfl
theorem zrd:tab.info 39=some (2,24,[.bool false,.string ⟨#[]⟩]):=by kernel_rfl
theorem zef:tab.info 42=some (11,136,[.string ⟨#[]⟩,.string ⟨#[]⟩,.int .i64 0,.bool false,.string ⟨#[]⟩,.bool false,.string ⟨#[]⟩,.bool false,.string ⟨#[]⟩,.bool false,.string ⟨#[]⟩]):=by kernel_rfl
theorem zre:tab.info 62=some (1,8,[.nilFunc]):=by kernel_rfl
theorem zhi:tab.info 67=some (2,24,[.string ⟨#[]⟩,.int .i64 0]):=by kernel_rfl
theorem zkl:tab.info 69=some (2,40,[.string ⟨#[]⟩,.slice none 0 0]):=by kernel_rfl
theorem zkm:tab.info 71=some (12,160,[.string ⟨#[]⟩,.string ⟨#[]⟩,.int .i64 0,.bool false,.string ⟨#[]⟩,.bool false,.string ⟨#[]⟩,.bool false,.string ⟨#[]⟩,.bool false,.string ⟨#[]⟩,.slice none 0 0]):=by kernel_rfl
theorem zkn:tab.info 73=some (13,176,[.string ⟨#[]⟩,.string ⟨#[]⟩,.string ⟨#[]⟩,.int .i64 0,.bool false,.string ⟨#[]⟩,.bool false,.string ⟨#[]⟩,.bool false,.string ⟨#[]⟩,.bool false,.string ⟨#[]⟩,.slice none 0 0]):=by kernel_rfl
theorem zrf:tab.info 87=some (2,32,[.slice none 0 0,.int .u64 0]):=by kernel_rfl
theorem zoQ:tab.info 126=some (0,0,[]):=by kernel_rfl
theorem zoR:tab.info 130=some (1,8,[.nilFunc]):=by kernel_rfl
theorem zjk:tab.info 136=some (2,24,[.string ⟨#[]⟩,.int .i64 0]):=by kernel_rfl
theorem zzv:tab.fn 3=some Tryz.f3:=by kernel_rfl
theorem zzw:tab.fn 7=some Tryz.f7:=by kernel_rfl
theorem zzx:tab.fn 8=some Tryz.f8:=by kernel_rfl
theorem zzy:tab.fn 9=some Tryz.f9:=by kernel_rfl
theorem zv7:tab.fn 10=some Tryz.f10:=by kernel_rfl
theorem zv8:tab.fn 11=some Tryz.f11:=by kernel_rfl
theorem zv9:tab.fn 12=some Tryz.f12:=by kernel_rfl
theorem zwa:tab.fn 13=some Tryz.f13:=by kernel_rfl
theorem zwb:tab.fn 14=some Tryz.f14:=by kernel_rfl
theorem zwc:tab.fn 15=some Tryz.f15:=by kernel_rfl
theorem zwd:tab.fn 16=some Tryz.f16:=by kernel_rfl
theorem zwe:tab.fn 29=some Tryz.f29:=by kernel_rfl
theorem zwf:tab.fn 30=some Tryz.f30:=by kernel_rfl
theorem zwg:tab.fn 31=some Tryz.f31:=by kernel_rfl
theorem zwh:tab.fn 32=some Tryz.f32:=by kernel_rfl
theorem zwi:tab.fn 33=some Tryz.f33:=by kernel_rfl
theorem zwj:tab.fn 34=some Tryz.f34:=by kernel_rfl
theorem zwk:tab.fn 35=some Tryz.f35:=by kernel_rfl
theorem zwl:tab.fn 36=some Tryz.f36:=by kernel_rfl
theorem zwm:tab.fn 37=some Tryz.f37:=by kernel_rfl
theorem zwn:tab.fn 38=some Tryz.f38:=by kernel_rfl
theorem zwo:tab.fn 41=some Tryz.f41:=by kernel_rfl
theorem zwp:tab.fn 52=some Tryz.f52:=by kernel_rfl
theorem zwq:tab.fn 53=some Tryz.f53:=by kernel_rfl
theorem zwr:tab.fn 54=some Tryz.f54:=by kernel_rfl
theorem zws:tab.fn 55=some Tryz.f55:=by kernel_rfl
theorem zwt:tab.fn 56=some Tryz.f56:=by kernel_rfl
theorem zwu:tab.fn 57=some Tryz.f57:=by kernel_rfl
theorem zwv:tab.fn 58=some Tryz.f58:=by kernel_rfl
theorem zww:tab.fn 59=some Tryz.f59:=by kernel_rfl
theorem zwx:tab.fn 60=some Tryz.f60:=by kernel_rfl
theorem zwy:tab.fn 61=some Tryz.f61:=by kernel_rfl
theorem zwz:tab.fn 62=some Tryz.f62:=by kernel_rfl
theorem zwA:tab.fn 63=some Tryz.f63:=by kernel_rfl
theorem zwB:tab.fn 64=some Tryz.f64:=by kernel_rfl
theorem zwC:tab.fn 65=some Tryz.f65:=by kernel_rfl
theorem zwD:tab.fn 66=some Tryz.f66:=by kernel_rfl
theorem zwE:tab.fn 67=some Tryz.f67:=by kernel_rfl
theorem zwF:tab.fn 68=some Tryz.f68:=by kernel_rfl
theorem zwG:tab.fn 77=some Tryz.f77:=by kernel_rfl
theorem zwH:tab.fn 78=some Tryz.f78:=by kernel_rfl
theorem zwI:tab.fn 79=some Tryz.f79:=by kernel_rfl
theorem zwJ:tab.fn 80=some Tryz.f80:=by kernel_rfl
theorem zwK:tab.fn 81=some Tryz.f81:=by kernel_rfl
theorem zwL:tab.fn 82=some Tryz.f82:=by kernel_rfl
theorem zwM:tab.fn 83=some Tryz.f83:=by kernel_rfl
theorem zwN:tab.fn 84=some Tryz.f84:=by kernel_rfl
theorem zwO:tab.fn 85=some Tryz.f85:=by kernel_rfl
theorem zwP:tab.fn 86=some Tryz.f86:=by kernel_rfl
theorem zwQ:tab.fn 87=some Tryz.f87:=by kernel_rfl
theorem zwR:tab.fn 88=some Tryz.f88:=by kernel_rfl
theorem zwS:tab.fn 89=some Tryz.f89:=by kernel_rfl
theorem zwT:tab.fn 90=some Tryz.f90:=by kernel_rfl
theorem zwU:tab.fn 91=some Tryz.f91:=by kernel_rfl
theorem zwV:tab.fn 92=some Tryz.f92:=by kernel_rfl
theorem zwW:tab.fn 93=some Tryz.f93:=by kernel_rfl
theorem zwX:tab.fn 94=some Tryz.f94:=by kernel_rfl
theorem zwY:tab.fn 95=some Tryz.f95:=by kernel_rfl
theorem zpE:tab.fn 98=some Tryz.f98:=by kernel_rfl
theorem zwZ:tab.fn 99=some Tryz.f99:=by kernel_rfl
theorem ztD:tab.fn 100=some Tryz.f100:=by kernel_rfl
theorem ztE:tab.fn 101=some Tryz.f101:=by kernel_rfl
theorem ztF:tab.fn 102=some Tryz.f102:=by kernel_rfl
theorem ztG:tab.fn 107=some Tryz.f107:=by kernel_rfl
theorem ztH:tab.fn 108=some Tryz.f108:=by kernel_rfl
theorem ztI:tab.fn 109=some Tryz.f109:=by kernel_rfl
theorem ztJ:tab.fn 110=some Tryz.f110:=by kernel_rfl
theorem ztK:tab.fn 111=some Tryz.f111:=by kernel_rfl
theorem ztL:tab.fn 112=some Tryz.f112:=by kernel_rfl
theorem ztM:tab.fn 113=some Tryz.f113:=by kernel_rfl
theorem ztN:tab.fn 114=some Tryz.f114:=by kernel_rfl
theorem ztO:tab.fn 115=some Tryz.f115:=by kernel_rfl
theorem ztP:tab.fn 116=some Tryz.f116:=by kernel_rfl
theorem ztQ:tab.fn 117=some Tryz.f117:=by kernel_rfl
theorem ztR:tab.fn 118=some Tryz.f118:=by kernel_rfl
theorem ztS:tab.fn 119=some Tryz.f119:=by kernel_rfl
theorem ztT:tab.fn 120=some Tryz.f120:=by kernel_rfl
theorem ztU:tab.fn 121=some Tryz.f121:=by kernel_rfl
theorem ztV:tab.fn 122=some Tryz.f122:=by kernel_rfl
theorem ztW:tab.fn 123=some Tryz.f123:=by kernel_rfl
theorem zm8:tab.fn 124=some Tryz.f124:=by kernel_rfl
theorem zm9:tab.fn 125=some Tryz.f125:=by kernel_rfl
theorem ztX:tab.fn 126=some Tryz.f126:=by kernel_rfl
theorem zna:tab.fn 127=some Tryz.f127:=by kernel_rfl
theorem ztY:tab.fn 128=some Tryz.f128:=by kernel_rfl
theorem ztZ:tab.fn 130=some Tryz.f130:=by kernel_rfl
theorem zt0:tab.fn 131=some Tryz.f131:=by kernel_rfl
theorem zt1:tab.fn 135=some Tryz.f135:=by kernel_rfl
theorem zt2:tab.fn 136=some Tryz.f136:=by kernel_rfl
theorem zt3:tab.fn 137=some Tryz.f137:=by kernel_rfl
theorem zt4:tab.fn 138=some Tryz.f138:=by kernel_rfl
theorem zt5:tab.fn 139=some Tryz.f139:=by kernel_rfl
theorem znb:tab.fn 140=some Tryz.f140:=by kernel_rfl
theorem zt6:tab.fn 141=some Tryz.f141:=by kernel_rfl
theorem znc:tab.fn 142=some Tryz.f142:=by kernel_rfl
theorem znd:tab.fn 144=some Tryz.f144:=by kernel_rfl
theorem zne:tab.fn 149=some Tryz.f149:=by kernel_rfl
theorem zt7:tab.fn 150=some Tryz.f150:=by kernel_rfl
theorem zt8:tab.fn 151=some Tryz.f151:=by kernel_rfl
theorem znf:tab.fn 152=some Tryz.f152:=by kernel_rfl
theorem zt9:tab.fn 153=some Tryz.f153:=by kernel_rfl
theorem zua:tab.fn 161=some Tryz.f161:=by kernel_rfl
theorem zub:tab.fn 162=some Tryz.f162:=by kernel_rfl
theorem zuc:tab.fn 163=some Tryz.f163:=by kernel_rfl
theorem zud:tab.fn 164=some Tryz.f164:=by kernel_rfl
theorem zue:tab.fn 168=some Tryz.f168:=by kernel_rfl
theorem zuf:tab.fn 189=some Tryz.f189:=by kernel_rfl
theorem zug:tab.fn 190=some Tryz.f190:=by kernel_rfl
theorem zuh:tab.fn 191=some Tryz.f191:=by kernel_rfl
theorem zui:tab.fn 192=some Tryz.f192:=by kernel_rfl
end Go.Proofs.YtdplfgoifjjniaaGreatDoor
