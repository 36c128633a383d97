/- Tables for the plain machine, read off a program. No condition. -/
import Derived.Test.YtkgojconmeeegaaGreatDoorG1
import Derived.Test.YtkgojconmeeegaaGreatDoorProg
import Derived.KernelRfl
namespace Go.Am

def iY {α:Type}:List (List α)→Nat→Option α
 | [],_=>none
 |c::cs,i=>match Nat.blt i 16 with
  |true=>c[i]?
  |false=>iY cs (i - 16)
def Ho {α:Type}:List (List α)→Bool
 | []=>true
 | [_]=>true
 |c::cs=>c.length == 16 && Ho cs

theorem Jv {α:Type}:∀ (l:List (List α)) (i:Nat) (x:α),Ho l=true→iY l i=some x→l.flatten[i]? = some x
 | [],_,_,_,h=>by simp [iY] at h
 | [c],i,x,_,h=>by
  simp only [iY] at h
  split at h
  ·simpa using h
  ·simp at h
 |c::d::cs,i,x,hw,h=>by
  simp only [Ho,Bool.and_eq_true,beq_iff_eq] at hw
  rw [List.flatten_cons]
  simp only [iY] at h
  split at h
  ·rename_i hb
   have aR:i < 16:=by simpa [Nat.blt_eq] using hb
   rw [List.getElem?_append_left (by omega)]
   exact h
  ·rename_i hb
   have kQ:¬ i < 16:=by
    intro aR
    have:Nat.blt i 16=true:=by simpa [Nat.blt_eq] using aR
    rw [this] at hb
    cases hb
   rw [List.getElem?_append_right (by omega),hw.1]
   exact Jv (d::cs) (i - 16) x hw.2 (by simpa [iY] using h)

def Jh (ot:List (List TypeInfo)) (t:TypeId):Option TypeDesc :=
 match iY ot t with
 |some i=>match i.desc with
  | .named _ u=>(iY ot u).map (·.desc)
  |d=>some d
 |none=>none

def Cz (i:TypeInfo):Bool:=match i.zero with
 |some z=>z.cells.toList.length == i.size && z.cells.toList.all lZ
 |none=>false
def CT (ot:List (List TypeInfo)) (Pk:List (List Bool)) (t:TypeId):Option (Nat × Nat × List Value) :=
 match iY Pk t with
 |some true=>match iY ot t with
  |some i=>match i.zero with
   |some z=>some (i.size,i.bytes,z.cells.toList)
   |none=>none
  |none=>none
 |_=>none

def C1 (ot:List (List TypeInfo)) (Pk:List (List Bool)) (t:TypeId):Option Value :=
 match iY Pk t with
 |some true=>match iY ot t with
  |some i=>i.zero
  |none=>none
 |_=>none

def CV (ot:List (List TypeInfo)) (t:TypeId) (name:String):Option Method :=
 match iY ot t with
 |some i=>i.methods.find? (·.name == name)
 |none=>none

def Je (gs:List Nat) (f:Func):Bool:=match f.body with
 |some c=>rr gs c
 |none=>false
def FO (gs:List Nat) (f:Func):Bool := !(f.name == "runtime.NumGoroutine") && Je gs f
def MT (fns:List (List Func)) (Pk:List (List Bool)) (f:FuncId):Option Func :=
 match iY Pk f with
 |some true=>iY fns f
 |_=>none

def Ci (P:Program) (t:TypeId):Bool := !P.stoodInHeld t && !P.eqGuardType P.depth t
def OQ (cs:List TypeId) (t:TypeId):Bool:=cs.any (Nat.beq t)
def EU (ot:List (List TypeInfo)) (jg:List (List Bool)) (fns:List (List Func)) (kx:List (List Bool)) (cs:List TypeId) (gs:List Nat) (ds:List FuncId):bK :=
 { desc:=Jh ot,info:=CT ot jg,fn:=MT fns kx,cmp:=OQ cs,zero:=C1 ot jg,gs:=gs,xE:=CV ot,FA:=fun f=>ds.any (Nat.beq f) }

theorem zsX {P:Program} {ot:List (List TypeInfo)} {jg:List (List Bool)} {fns:List (List Func)} {kx:List (List Bool)} {cs:List TypeId} {gs:List Nat} {ds:List FuncId} (k8:cs.all (Ci P)=true)
 (w1:Ho ot=true) (w2:Ho jg=true) (w3:Ho fns=true) (w4:Ho kx=true) (h1:P.types.toList=ot.flatten) (h2:P.types.toList.map Cz=jg.flatten) (h3:P.funcs.toList=fns.flatten) (h4:P.funcs.toList.map (FO gs)=kx.flatten) :
 (EU ot jg fns kx cs gs ds).Fits P:=by
 have oW:∀ t i,iY ot t=some i→P.types.toList[t]? = some i:=fun t i hi=>by rw [h1];exact Jv ot t i w1 hi
 have GU:∀ t i,iY ot t=some i→P.info? t=some i:=by
  intro t i hi
  have pM:P.types[t]? = some i:=by simpa using oW t i hi
  have aR:t < P.types.size:=(Array.getElem?_eq_some_iff.1 pM).1
  unfold Tables.info?
  rw [if_pos aR,pM]
 refine ⟨?_,?_,?_,?_,?_,?_⟩
 ·intro t d hd
  simp only [EU,Jh] at hd
  split at hd
  ·rename_i i hi
   have h4:=GU t i hi
   unfold Program.underlying
   rw [h4]
   obtain ⟨desc,str,size,bytes,hp,al,fa,zero,comp,ms⟩:=i
   cases desc <;> simp only at hd ⊢ <;> first
    |exact hd
    |(simp only [Option.map_eq_some_iff] at hd
      obtain ⟨j,hj,rfl⟩:=hd
      rw [GU _ j hj]
      rfl)
  ·cases hd
 ·intro t n b z hz
  simp only [EU,CT] at hz
  split at hz
  ·rename_i dy
   split at hz
   ·rename_i i hi
    split at hz
    ·rename_i zv YS
     simp only [Option.some.injEq,Prod.mk.injEq] at hz
     obtain ⟨rfl,rfl,rfl⟩:=hz
     have h5:=Jv jg t true w2 dy
     rw [← h2,List.getElem?_map,oW t i hi,Option.map_some,Option.some.injEq] at h5
     simp only [Cz,YS,Bool.and_eq_true,beq_iff_eq] at h5
     exact ⟨i,zv,GU t i hi,rfl,rfl,YS,rfl,h5.1,h5.2⟩
    ·cases hz
   ·cases hz
  ·cases hz
 ·intro f fn hf
  simp only [EU,MT] at hf
  split at hf
  ·rename_i dy
   have h5:=Jv kx f true w4 dy
   have h6:=Jv fns f fn w3 hf
   rw [← h3] at h6
   rw [← h4,List.getElem?_map,h6,Option.map_some,Option.some.injEq] at h5
   simp only [FO,Bool.and_eq_true,Bool.not_eq_true'] at h5
   refine ⟨by simpa using h6,h5.1,fun c Nw=>?_⟩
   have:=h5.2
   unfold Je at this
   rw [Nw] at this
   exact this
  ·cases hf
 ·intro t ht
  simp only [EU,OQ,List.any_eq_true] at ht
  obtain ⟨u,hu,he⟩:=ht
  have:t=u:=Nat.eq_of_beq_eq_true he
  subst this
  have:=List.all_eq_true.1 k8 t hu
  simpa [Ci] using this
 ·intro t v hv
  simp only [EU,C1] at hv
  split at hv
  ·rename_i dy
   split at hv
   ·rename_i i hi
    have h5:=Jv jg t true w2 dy
    rw [← h2,List.getElem?_map,oW t i hi,Option.map_some,Option.some.injEq] at h5
    simp only [Cz,hv,Bool.and_eq_true,beq_iff_eq] at h5
    refine ⟨⟨i,GU t i hi,hv⟩,?_⟩
    have h6:=h5.2
    cases v <;> simpa [plain,Value.cells] using h6
   ·cases hv
  ·cases hv
 ·intro t name m hm
  simp only [EU,CV] at hm
  split at hm
  ·rename_i i hi;exact ⟨i,GU t i hi,hm⟩
  ·cases hm
end Go.Am
namespace Go.Proofs.YtkgojconmeeegaaGreatDoor
open Go.Am
noncomputable def Ed:List (List TypeInfo):=[[Tryz.t0,Tryz.t1,Tryz.t2,Tryz.t3,Tryz.t4,Tryz.t5,Tryz.t6,Tryz.t7,Tryz.t8,Tryz.t9,Tryz.t10,Tryz.t11,Tryz.t12,Tryz.t13,Tryz.t14,Tryz.t15],
 [Tryz.t16,Tryz.t17,Tryz.t18,Tryz.t19,Tryz.t20,Tryz.t21,Tryz.t22,Tryz.t23,Tryz.t24,Tryz.t25,Tryz.t26,Tryz.t27,Tryz.t28,Tryz.t29,Tryz.t30,Tryz.t31],
 [Tryz.t32,Tryz.t33,Tryz.t34,Tryz.t35,Tryz.t36,Tryz.t37,Tryz.t38,Tryz.t39,Tryz.t40,Tryz.t41,Tryz.t42,Tryz.t43,Tryz.t44,Tryz.t45,Tryz.t46,Tryz.t47],
 [Tryz.t48,Tryz.t49,Tryz.t50,Tryz.t51,Tryz.t52,Tryz.t53,Tryz.t54,Tryz.t55,Tryz.t56,Tryz.t57,Tryz.t58,Tryz.t59,Tryz.t60,Tryz.t61,Tryz.t62,Tryz.t63],
 [Tryz.t64,Tryz.t65,Tryz.t66,Tryz.t67,Tryz.t68,Tryz.t69,Tryz.t70,Tryz.t71,Tryz.t72,Tryz.t73,Tryz.t74,Tryz.t75,Tryz.t76,Tryz.t77,Tryz.t78,Tryz.t79],
 [Tryz.t80,Tryz.t81,Tryz.t82,Tryz.t83,Tryz.t84,Tryz.t85,Tryz.t86,Tryz.t87,Tryz.t88,Tryz.t89,Tryz.t90,Tryz.t91,Tryz.t92,Tryz.t93,Tryz.t94,Tryz.t95],
 [Tryz.t96,Tryz.t97,Tryz.t98,Tryz.t99,Tryz.t100,Tryz.t101,Tryz.t102,Tryz.t103,Tryz.t104,Tryz.t105,Tryz.t106,Tryz.t107,Tryz.t108,Tryz.t109,Tryz.t110,Tryz.t111],
 [Tryz.t112,Tryz.t113,Tryz.t114,Tryz.t115,Tryz.t116,Tryz.t117,Tryz.t118,Tryz.t119,Tryz.t120,Tryz.t121,Tryz.t122,Tryz.t123,Tryz.t124,Tryz.t125,Tryz.t126,Tryz.t127],
 [Tryz.t128,Tryz.t129,Tryz.t130,Tryz.t131,Tryz.t132,Tryz.t133,Tryz.t134,Tryz.t135,Tryz.t136,Tryz.t137,Tryz.t138,Tryz.t139,Tryz.t140,Tryz.t141,Tryz.t142,Tryz.t143],
 [Tryz.t144,Tryz.t145,Tryz.t146,Tryz.t147,Tryz.t148,Tryz.t149,Tryz.t150,Tryz.t151,Tryz.t152,Tryz.t153,Tryz.t154,Tryz.t155,Tryz.t156,Tryz.t157,Tryz.t158,Tryz.t159],
 [Tryz.t160,Tryz.t161,Tryz.t162,Tryz.t163,Tryz.t164,Tryz.t165,Tryz.t166,Tryz.t167,Tryz.t168,Tryz.t169,Tryz.t170,Tryz.t171,Tryz.t172,Tryz.t173,Tryz.t174,Tryz.t175],
 [Tryz.t176,Tryz.t177,Tryz.t178,Tryz.t179,Tryz.t180,Tryz.t181,Tryz.t182,Tryz.t183,Tryz.t184,Tryz.t185,Tryz.t186,Tryz.t187,Tryz.t188,Tryz.t189,Tryz.t190,Tryz.t191],
 [Tryz.t192,Tryz.t193,Tryz.t194,Tryz.t195,Tryz.t196,Tryz.t197,Tryz.t198,Tryz.t199,Tryz.t200,Tryz.t201,Tryz.t202,Tryz.t203,Tryz.t204,Tryz.t205,Tryz.t206,Tryz.t207],
 [Tryz.t208,Tryz.t209,Tryz.t210,Tryz.t211,Tryz.t212,Tryz.t213,Tryz.t214,Tryz.t215,Tryz.t216,Tryz.t217,Tryz.t218,Tryz.t219,Tryz.t220,Tryz.t221,Tryz.t222,Tryz.t223],
 [Tryz.t224,Tryz.t225,Tryz.t226,Tryz.t227,Tryz.t228,Tryz.t229,Tryz.t230,Tryz.t231,Tryz.t232,Tryz.t233,Tryz.t234,Tryz.t235,Tryz.t236,Tryz.t237,Tryz.t238,Tryz.t239],
 [Tryz.t240,Tryz.t241,Tryz.t242,Tryz.t243,Tryz.t244,Tryz.t245,Tryz.t246,Tryz.t247,Tryz.t248,Tryz.t249,Tryz.t250,Tryz.t251,Tryz.t252,Tryz.t253,Tryz.t254,Tryz.t255],
 [Tryz.t256,Tryz.t257,Tryz.t258,Tryz.t259,Tryz.t260,Tryz.t261,Tryz.t262,Tryz.t263,Tryz.t264,Tryz.t265,Tryz.t266,Tryz.t267,Tryz.t268,Tryz.t269,Tryz.t270,Tryz.t271],
 [Tryz.t272,Tryz.t273,Tryz.t274,Tryz.t275,Tryz.t276,Tryz.t277,Tryz.t278,Tryz.t279,Tryz.t280,Tryz.t281,Tryz.t282,Tryz.t283,Tryz.t284,Tryz.t285,Tryz.t286,Tryz.t287],
 [Tryz.t288,Tryz.t289,Tryz.t290,Tryz.t291,Tryz.t292]]
def jg:List (List Bool):=[[false,true,true,true,true,true,true,true,true,true,true,true,true,true,true,true],
 [true,true,true,true,true,true,true,true,true,true,true,true,true,true,true,true],
 [true,true,true,true,true,true,true,true,true,true,false,true,true,true,true,true],
 [true,true,false,true,true,true,true,true,true,true,true,true,false,true,true,false],
 [true,true,true,true,true,true,true,true,true,true,true,true,true,true,true,true],
 [true,false,true,false,true,true,true,true,true,true,true,true,true,true,true,true],
 [true,true,true,true,true,true,true,true,true,true,true,true,true,true,true,true],
 [true,true,true,true,true,true,true,true,true,true,true,true,true,true,true,true],
 [true,true,false,true,true,true,false,true,true,true,true,true,true,true,true,true],
 [true,true,true,false,true,false,true,true,true,true,true,true,true,true,true,true],
 [true,true,true,true,true,true,true,true,true,true,true,true,true,true,true,true],
 [true,true,true,true,true,true,true,true,true,true,false,true,true,true,true,true],
 [true,true,true,true,true,true,true,true,false,true,true,true,true,true,true,true],
 [true,true,true,true,true,true,true,true,true,true,true,true,true,true,true,true],
 [true,true,true,true,true,true,true,true,true,true,true,true,true,false,true,true],
 [true,true,true,true,true,true,true,true,true,true,true,true,false,true,true,true],
 [true,true,true,true,true,true,true,true,true,true,true,true,true,true,true,true],
 [true,true,true,true,true,true,true,true,true,true,true,true,true,true,true,true],
 [true,true,true,true,true]]
noncomputable def Dw:List (List Func):=[[Tryz.f0,Tryz.f1,Tryz.f2,Tryz.f3,Tryz.f4,Tryz.f5,Tryz.f6,Tryz.f7,Tryz.f8,Tryz.f9,Tryz.f10,Tryz.f11,Tryz.f12,Tryz.f13,Tryz.f14,Tryz.f15],
 [Tryz.f16,Tryz.f17,Tryz.f18,Tryz.f19,Tryz.f20,Tryz.f21,Tryz.f22,Tryz.f23,Tryz.f24,Tryz.f25,Tryz.f26,Tryz.f27,Tryz.f28,Tryz.f29,Tryz.f30,Tryz.f31],
 [Tryz.f32,Tryz.f33,Tryz.f34,Tryz.f35,Tryz.f36,Tryz.f37,Tryz.f38,Tryz.f39,Tryz.f40,Tryz.f41,Tryz.f42,Tryz.f43,Tryz.f44,Tryz.f45,Tryz.f46,Tryz.f47],
 [Tryz.f48,Tryz.f49,Tryz.f50,Tryz.f51,Tryz.f52,Tryz.f53,Tryz.f54,Tryz.f55,Tryz.f56,Tryz.f57,Tryz.f58,Tryz.f59,Tryz.f60,Tryz.f61,Tryz.f62,Tryz.f63],
 [Tryz.f64,Tryz.f65,Tryz.f66,Tryz.f67,Tryz.f68,Tryz.f69,Tryz.f70,Tryz.f71,Tryz.f72,Tryz.f73,Tryz.f74,Tryz.f75,Tryz.f76,Tryz.f77,Tryz.f78,Tryz.f79],
 [Tryz.f80,Tryz.f81,Tryz.f82,Tryz.f83,Tryz.f84,Tryz.f85,Tryz.f86,Tryz.f87,Tryz.f88,Tryz.f89,Tryz.f90,Tryz.f91,Tryz.f92,Tryz.f93,Tryz.f94,Tryz.f95],
 [Tryz.f96,Tryz.f97,Tryz.f98,Tryz.f99,Tryz.f100,Tryz.f101,Tryz.f102,Tryz.f103,Tryz.f104,Tryz.f105,Tryz.f106,Tryz.f107,Tryz.f108,Tryz.f109,Tryz.f110,Tryz.f111],
 [Tryz.f112,Tryz.f113,Tryz.f114,Tryz.f115,Tryz.f116,Tryz.f117,Tryz.f118,Tryz.f119,Tryz.f120,Tryz.f121,Tryz.f122,Tryz.f123,Tryz.f124,Tryz.f125,Tryz.f126,Tryz.f127],
 [Tryz.f128,Tryz.f129,Tryz.f130,Tryz.f131,Tryz.f132,Tryz.f133,Tryz.f134,Tryz.f135,Tryz.f136,Tryz.f137,Tryz.f138,Tryz.f139,Tryz.f140,Tryz.f141,Tryz.f142,Tryz.f143],
 [Tryz.f144,Tryz.f145,Tryz.f146,Tryz.f147,Tryz.f148,Tryz.f149,Tryz.f150,Tryz.f151,Tryz.f152,Tryz.f153,Tryz.f154,Tryz.f155,Tryz.f156,Tryz.f157,Tryz.f158,Tryz.f159],
 [Tryz.f160,Tryz.f161,Tryz.f162,Tryz.f163,Tryz.f164,Tryz.f165,Tryz.f166,Tryz.f167,Tryz.f168,Tryz.f169,Tryz.f170,Tryz.f171,Tryz.f172,Tryz.f173,Tryz.f174,Tryz.f175],
 [Tryz.f176,Tryz.f177,Tryz.f178,Tryz.f179,Tryz.f180,Tryz.f181,Tryz.f182,Tryz.f183,Tryz.f184,Tryz.f185,Tryz.f186,Tryz.f187,Tryz.f188,Tryz.f189,Tryz.f190,Tryz.f191],
 [Tryz.f192,Tryz.f193,Tryz.f194,Tryz.f195,Tryz.f196,Tryz.f197,Tryz.f198,Tryz.f199,Tryz.f200,Tryz.f201,Tryz.f202,Tryz.f203,Tryz.f204,Tryz.f205,Tryz.f206,Tryz.f207],
 [Tryz.f208,Tryz.f209,Tryz.f210,Tryz.f211,Tryz.f212,Tryz.f213,Tryz.f214,Tryz.f215,Tryz.f216,Tryz.f217,Tryz.f218,Tryz.f219,Tryz.f220,Tryz.f221,Tryz.f222,Tryz.f223],
 [Tryz.f224,Tryz.f225,Tryz.f226,Tryz.f227,Tryz.f228,Tryz.f229,Tryz.f230,Tryz.f231,Tryz.f232,Tryz.f233,Tryz.f234,Tryz.f235,Tryz.f236,Tryz.f237,Tryz.f238,Tryz.f239],
 [Tryz.f240,Tryz.f241,Tryz.f242,Tryz.f243,Tryz.f244,Tryz.f245,Tryz.f246,Tryz.f247,Tryz.f248,Tryz.f249,Tryz.f250,Tryz.f251,Tryz.f252,Tryz.f253,Tryz.f254,Tryz.f255],
 [Tryz.f256,Tryz.f257,Tryz.f258,Tryz.f259,Tryz.f260,Tryz.f261,Tryz.f262,Tryz.f263,Tryz.f264,Tryz.f265,Tryz.f266,Tryz.f267,Tryz.f268,Tryz.f269,Tryz.f270,Tryz.f271],
 [Tryz.f272]]
def kx:List (List Bool):=[[false,false,true,true,true,true,true,true,true,true,true,true,true,true,true,true],
 [true,true,true,true,true,true,true,true,true,true,true,true,true,true,true,true],
 [true,true,true,true,true,true,true,true,true,true,true,true,true,true,true,true],
 [true,true,true,true,true,true,true,true,true,true,true,true,true,true,true,true],
 [true,true,true,true,true,true,true,true,true,true,true,true,true,true,true,true],
 [true,true,true,true,true,true,true,true,true,true,true,true,true,true,true,true],
 [true,true,true,true,true,true,true,true,true,true,true,true,true,true,true,true],
 [true,true,true,true,true,true,false,true,true,true,true,true,true,true,true,true],
 [true,true,true,true,true,true,true,true,true,true,true,true,true,true,true,true],
 [true,true,true,true,true,true,true,true,true,true,true,true,true,true,true,true],
 [true,true,true,true,true,true,true,true,true,true,true,true,true,true,true,true],
 [true,true,true,true,true,true,true,true,true,true,true,true,true,true,true,true],
 [true,true,true,true,true,true,true,true,true,true,true,true,true,true,true,true],
 [true,true,true,true,true,true,true,true,false,true,true,true,true,true,true,true],
 [true,true,true,true,true,true,true,true,true,true,false,false,false,true,true,true],
 [false,false,false,false,false,false,false,false,false,false,false,false,false,false,false,false],
 [true,true,true,true,true,false,true,false,false,false,false,false,false,false,false,false],
 [false]]
def wg:List TypeId:=[7,8,30,31,32,33,34,35,36,72,73,177,178,194,195,199,257,264,265,273,274,276,277]
noncomputable def ae:bK:=EU Ed jg Dw kx wg [1] []
theorem zx4:Tryz.prog.types.toList=Ed.flatten:=by kernel_rfl
theorem zx3:Tryz.prog.types.toList.map Cz=jg.flatten:=by kernel_rfl
theorem zx2:Tryz.prog.funcs.toList=Dw.flatten:=by kernel_rfl
theorem zx1:Tryz.prog.funcs.toList.map (FO [1])=kx.flatten:=by kernel_rfl
theorem uK:ae.Fits Tryz.prog:=zsX (show wg.all (Ci Tryz.prog)=true by kernel_rfl) (by kernel_rfl) (by kernel_rfl) (by kernel_rfl) (by kernel_rfl) zx4 zx3 zx2 zx1
theorem mixed:Tryz.prog.follows .mixedOrders=true:=by kernel_rfl
theorem zpe:ae.info 3=some (1,8,[.int .i64 0]):=by kernel_rfl
theorem Eo:ae.info 9=some (1,16,[.string ⟨#[]⟩]):=by kernel_rfl
theorem ztP:ae.info 22=some (1,24,[.slice none 0 0]):=by kernel_rfl
theorem ztQ:ae.info 28=some (7,136,[.slice none 0 0,.slice none 0 0,.slice none 0 0,.int .i64 0,.int .i64 0,.slice none 0 0,.slice none 0 0]):=by kernel_rfl
theorem ztR:ae.info 31=some (2,24,[.bool false,.string ⟨#[]⟩]):=by kernel_rfl
theorem se:ae.info 34=some (11,136,[.string ⟨#[]⟩,.string ⟨#[]⟩,.int .i64 0,.bool false,.string ⟨#[]⟩,.bool false,.string ⟨#[]⟩,.bool false,.string ⟨#[]⟩,.bool false,.string ⟨#[]⟩]):=by kernel_rfl
theorem ztS:ae.info 36=some (13,160,[.int .i64 0,.string ⟨#[]⟩,.string ⟨#[]⟩,.string ⟨#[]⟩,.int .i64 0,.bool false,.string ⟨#[]⟩,.bool false,.string ⟨#[]⟩,.bool false,.string ⟨#[]⟩,.bool false,.string ⟨#[]⟩]):=by kernel_rfl
theorem zlB:ae.info 44=some (1,24,[.slice none 0 0]):=by kernel_rfl
theorem ztT:ae.info 46=some (1,24,[.slice none 0 0]):=by kernel_rfl
theorem zlC:ae.info 55=some (1,8,[.int .u64 0]):=by kernel_rfl
theorem TP:ae.info 73=some (2,24,[.string ⟨#[]⟩,.int .i64 0]):=by kernel_rfl
theorem ztU:ae.info 75=some (2,40,[.string ⟨#[]⟩,.slice none 0 0]):=by kernel_rfl
theorem ztV:ae.info 77=some (12,160,[.string ⟨#[]⟩,.string ⟨#[]⟩,.int .i64 0,.bool false,.string ⟨#[]⟩,.bool false,.string ⟨#[]⟩,.bool false,.string ⟨#[]⟩,.bool false,.string ⟨#[]⟩,.slice none 0 0]):=by kernel_rfl
theorem ztW:ae.info 80=some (13,176,[.string ⟨#[]⟩,.string ⟨#[]⟩,.string ⟨#[]⟩,.int .i64 0,.bool false,.string ⟨#[]⟩,.bool false,.string ⟨#[]⟩,.bool false,.string ⟨#[]⟩,.bool false,.string ⟨#[]⟩,.slice none 0 0]):=by kernel_rfl
theorem ztX:ae.info 85=some (1,24,[.slice none 0 0]):=by kernel_rfl
theorem zqZ:ae.info 109=some (2,32,[.slice none 0 0,.int .u64 0]):=by kernel_rfl
theorem zq0:ae.info 117=some (1,8,[.nilFunc]):=by kernel_rfl
theorem zkf:ae.info 124=some (3,48,[.string ⟨#[]⟩,.slice none 0 0,.int .u64 0]):=by kernel_rfl
theorem zq1:ae.info 164=some (1,8,[.nilFunc]):=by kernel_rfl
theorem zkg:ae.info 178=some (2,24,[.string ⟨#[]⟩,.int .i64 0]):=by kernel_rfl
theorem zq2:ae.info 199=some (0,0,[]):=by kernel_rfl
theorem zGR:ae.fn 3=some Tryz.f3:=by kernel_rfl
theorem zGS:ae.fn 5=some Tryz.f5:=by kernel_rfl
theorem zGT:ae.fn 6=some Tryz.f6:=by kernel_rfl
theorem zGU:ae.fn 7=some Tryz.f7:=by kernel_rfl
theorem zGV:ae.fn 8=some Tryz.f8:=by kernel_rfl
theorem zGW:ae.fn 9=some Tryz.f9:=by kernel_rfl
theorem zC9:ae.fn 10=some Tryz.f10:=by kernel_rfl
theorem zDa:ae.fn 11=some Tryz.f11:=by kernel_rfl
theorem zDb:ae.fn 12=some Tryz.f12:=by kernel_rfl
theorem zDc:ae.fn 13=some Tryz.f13:=by kernel_rfl
theorem zDd:ae.fn 14=some Tryz.f14:=by kernel_rfl
theorem zr2:ae.fn 15=some Tryz.f15:=by kernel_rfl
theorem zDe:ae.fn 16=some Tryz.f16:=by kernel_rfl
theorem zDf:ae.fn 17=some Tryz.f17:=by kernel_rfl
theorem zDg:ae.fn 18=some Tryz.f18:=by kernel_rfl
theorem zDh:ae.fn 24=some Tryz.f24:=by kernel_rfl
theorem zDi:ae.fn 25=some Tryz.f25:=by kernel_rfl
theorem zDj:ae.fn 28=some Tryz.f28:=by kernel_rfl
theorem zDk:ae.fn 29=some Tryz.f29:=by kernel_rfl
theorem zDl:ae.fn 30=some Tryz.f30:=by kernel_rfl
theorem zDm:ae.fn 31=some Tryz.f31:=by kernel_rfl
theorem zDn:ae.fn 32=some Tryz.f32:=by kernel_rfl
theorem zDo:ae.fn 33=some Tryz.f33:=by kernel_rfl
theorem zDp:ae.fn 34=some Tryz.f34:=by kernel_rfl
theorem zDq:ae.fn 35=some Tryz.f35:=by kernel_rfl
theorem zDr:ae.fn 36=some Tryz.f36:=by kernel_rfl
theorem zDs:ae.fn 37=some Tryz.f37:=by kernel_rfl
theorem zDt:ae.fn 38=some Tryz.f38:=by kernel_rfl
theorem zDu:ae.fn 39=some Tryz.f39:=by kernel_rfl
theorem zDv:ae.fn 40=some Tryz.f40:=by kernel_rfl
theorem zDw:ae.fn 41=some Tryz.f41:=by kernel_rfl
theorem zDx:ae.fn 42=some Tryz.f42:=by kernel_rfl
theorem zDy:ae.fn 43=some Tryz.f43:=by kernel_rfl
theorem zr3:ae.fn 44=some Tryz.f44:=by kernel_rfl
theorem zr4:ae.fn 45=some Tryz.f45:=by kernel_rfl
theorem zDz:ae.fn 46=some Tryz.f46:=by kernel_rfl
theorem zDA:ae.fn 47=some Tryz.f47:=by kernel_rfl
theorem zDB:ae.fn 48=some Tryz.f48:=by kernel_rfl
theorem zDC:ae.fn 49=some Tryz.f49:=by kernel_rfl
theorem zDD:ae.fn 53=some Tryz.f53:=by kernel_rfl
theorem zDE:ae.fn 55=some Tryz.f55:=by kernel_rfl
theorem zDF:ae.fn 56=some Tryz.f56:=by kernel_rfl
theorem zDG:ae.fn 57=some Tryz.f57:=by kernel_rfl
theorem zDH:ae.fn 58=some Tryz.f58:=by kernel_rfl
theorem zDI:ae.fn 59=some Tryz.f59:=by kernel_rfl
theorem zDJ:ae.fn 60=some Tryz.f60:=by kernel_rfl
theorem zDK:ae.fn 61=some Tryz.f61:=by kernel_rfl
theorem zDL:ae.fn 62=some Tryz.f62:=by kernel_rfl
theorem zDM:ae.fn 63=some Tryz.f63:=by kernel_rfl
theorem zDN:ae.fn 64=some Tryz.f64:=by kernel_rfl
theorem zr5:ae.fn 65=some Tryz.f65:=by kernel_rfl
theorem zDO:ae.fn 66=some Tryz.f66:=by kernel_rfl
theorem zDP:ae.fn 67=some Tryz.f67:=by kernel_rfl
theorem zDQ:ae.fn 68=some Tryz.f68:=by kernel_rfl
theorem zDR:ae.fn 69=some Tryz.f69:=by kernel_rfl
theorem zDS:ae.fn 70=some Tryz.f70:=by kernel_rfl
theorem zDT:ae.fn 71=some Tryz.f71:=by kernel_rfl
theorem zDU:ae.fn 72=some Tryz.f72:=by kernel_rfl
theorem zDV:ae.fn 73=some Tryz.f73:=by kernel_rfl
theorem zDW:ae.fn 74=some Tryz.f74:=by kernel_rfl
theorem zDX:ae.fn 75=some Tryz.f75:=by kernel_rfl
theorem zDY:ae.fn 76=some Tryz.f76:=by kernel_rfl
theorem zr6:ae.fn 77=some Tryz.f77:=by kernel_rfl
theorem zDZ:ae.fn 86=some Tryz.f86:=by kernel_rfl
theorem zD0:ae.fn 89=some Tryz.f89:=by kernel_rfl
theorem zD1:ae.fn 91=some Tryz.f91:=by kernel_rfl
theorem zD2:ae.fn 92=some Tryz.f92:=by kernel_rfl
theorem zD3:ae.fn 93=some Tryz.f93:=by kernel_rfl
theorem zD4:ae.fn 94=some Tryz.f94:=by kernel_rfl
theorem zD5:ae.fn 95=some Tryz.f95:=by kernel_rfl
theorem zD6:ae.fn 96=some Tryz.f96:=by kernel_rfl
theorem zD7:ae.fn 97=some Tryz.f97:=by kernel_rfl
theorem zD8:ae.fn 98=some Tryz.f98:=by kernel_rfl
theorem zD9:ae.fn 99=some Tryz.f99:=by kernel_rfl
theorem zwI:ae.fn 100=some Tryz.f100:=by kernel_rfl
theorem zwJ:ae.fn 101=some Tryz.f101:=by kernel_rfl
theorem zwK:ae.fn 102=some Tryz.f102:=by kernel_rfl
theorem zwL:ae.fn 103=some Tryz.f103:=by kernel_rfl
theorem zwM:ae.fn 104=some Tryz.f104:=by kernel_rfl
theorem zwN:ae.fn 105=some Tryz.f105:=by kernel_rfl
theorem zwO:ae.fn 106=some Tryz.f106:=by kernel_rfl
theorem zo4:ae.fn 107=some Tryz.f107:=by kernel_rfl
theorem zwP:ae.fn 108=some Tryz.f108:=by kernel_rfl
theorem zo5:ae.fn 109=some Tryz.f109:=by kernel_rfl
theorem zwQ:ae.fn 110=some Tryz.f110:=by kernel_rfl
theorem zwR:ae.fn 111=some Tryz.f111:=by kernel_rfl
theorem zwS:ae.fn 112=some Tryz.f112:=by kernel_rfl
theorem zwT:ae.fn 113=some Tryz.f113:=by kernel_rfl
theorem zwU:ae.fn 114=some Tryz.f114:=by kernel_rfl
theorem zwV:ae.fn 115=some Tryz.f115:=by kernel_rfl
theorem zwW:ae.fn 116=some Tryz.f116:=by kernel_rfl
theorem zwX:ae.fn 117=some Tryz.f117:=by kernel_rfl
theorem zo6:ae.fn 120=some Tryz.f120:=by kernel_rfl
theorem zwY:ae.fn 121=some Tryz.f121:=by kernel_rfl
theorem zwZ:ae.fn 122=some Tryz.f122:=by kernel_rfl
theorem zw0:ae.fn 123=some Tryz.f123:=by kernel_rfl
theorem zw1:ae.fn 124=some Tryz.f124:=by kernel_rfl
theorem zw2:ae.fn 140=some Tryz.f140:=by kernel_rfl
theorem zw3:ae.fn 141=some Tryz.f141:=by kernel_rfl
theorem zw4:ae.fn 142=some Tryz.f142:=by kernel_rfl
theorem zw5:ae.fn 143=some Tryz.f143:=by kernel_rfl
theorem zw6:ae.fn 144=some Tryz.f144:=by kernel_rfl
theorem zw7:ae.fn 145=some Tryz.f145:=by kernel_rfl
theorem zw8:ae.fn 146=some Tryz.f146:=by kernel_rfl
theorem zw9:ae.fn 147=some Tryz.f147:=by kernel_rfl
theorem zxa:ae.fn 148=some Tryz.f148:=by kernel_rfl
theorem zxb:ae.fn 149=some Tryz.f149:=by kernel_rfl
theorem zxc:ae.fn 150=some Tryz.f150:=by kernel_rfl
theorem zxd:ae.fn 151=some Tryz.f151:=by kernel_rfl
theorem zxe:ae.fn 152=some Tryz.f152:=by kernel_rfl
theorem zxf:ae.fn 153=some Tryz.f153:=by kernel_rfl
theorem zxg:ae.fn 154=some Tryz.f154:=by kernel_rfl
theorem zxh:ae.fn 155=some Tryz.f155:=by kernel_rfl
theorem zo7:ae.fn 156=some Tryz.f156:=by kernel_rfl
theorem zo8:ae.fn 157=some Tryz.f157:=by kernel_rfl
theorem zxi:ae.fn 158=some Tryz.f158:=by kernel_rfl
theorem zxj:ae.fn 159=some Tryz.f159:=by kernel_rfl
theorem zxk:ae.fn 160=some Tryz.f160:=by kernel_rfl
theorem zxl:ae.fn 161=some Tryz.f161:=by kernel_rfl
theorem zxm:ae.fn 162=some Tryz.f162:=by kernel_rfl
theorem zxn:ae.fn 163=some Tryz.f163:=by kernel_rfl
theorem zxo:ae.fn 164=some Tryz.f164:=by kernel_rfl
theorem zxp:ae.fn 165=some Tryz.f165:=by kernel_rfl
theorem zxq:ae.fn 167=some Tryz.f167:=by kernel_rfl
theorem zxr:ae.fn 168=some Tryz.f168:=by kernel_rfl
theorem zxs:ae.fn 180=some Tryz.f180:=by kernel_rfl
theorem zxt:ae.fn 181=some Tryz.f181:=by kernel_rfl
theorem zxu:ae.fn 182=some Tryz.f182:=by kernel_rfl
theorem zxv:ae.fn 183=some Tryz.f183:=by kernel_rfl
theorem zxw:ae.fn 184=some Tryz.f184:=by kernel_rfl
theorem zxx:ae.fn 185=some Tryz.f185:=by kernel_rfl
theorem zxy:ae.fn 186=some Tryz.f186:=by kernel_rfl
theorem zxz:ae.fn 187=some Tryz.f187:=by kernel_rfl
theorem zxA:ae.fn 188=some Tryz.f188:=by kernel_rfl
theorem zxB:ae.fn 189=some Tryz.f189:=by kernel_rfl
theorem zxC:ae.fn 190=some Tryz.f190:=by kernel_rfl
theorem zxD:ae.fn 191=some Tryz.f191:=by kernel_rfl
theorem zo9:ae.fn 192=some Tryz.f192:=by kernel_rfl
theorem zpa:ae.fn 193=some Tryz.f193:=by kernel_rfl
theorem zxE:ae.fn 194=some Tryz.f194:=by kernel_rfl
theorem zpb:ae.fn 196=some Tryz.f196:=by kernel_rfl
theorem zxF:ae.fn 197=some Tryz.f197:=by kernel_rfl
theorem zpc:ae.fn 198=some Tryz.f198:=by kernel_rfl
theorem zxG:ae.fn 199=some Tryz.f199:=by kernel_rfl
theorem zxH:ae.fn 209=some Tryz.f209:=by kernel_rfl
theorem zxI:ae.fn 210=some Tryz.f210:=by kernel_rfl
theorem zxJ:ae.fn 211=some Tryz.f211:=by kernel_rfl
theorem zxK:ae.fn 212=some Tryz.f212:=by kernel_rfl
theorem zxL:ae.fn 213=some Tryz.f213:=by kernel_rfl
theorem zxM:ae.fn 214=some Tryz.f214:=by kernel_rfl
theorem zxN:ae.fn 215=some Tryz.f215:=by kernel_rfl
theorem zxO:ae.fn 220=some Tryz.f220:=by kernel_rfl
theorem zxP:ae.fn 221=some Tryz.f221:=by kernel_rfl
theorem zpd:ae.fn 223=some Tryz.f223:=by kernel_rfl
theorem zxQ:ae.fn 224=some Tryz.f224:=by kernel_rfl
theorem zxR:ae.fn 225=some Tryz.f225:=by kernel_rfl
theorem zxS:ae.fn 226=some Tryz.f226:=by kernel_rfl
theorem zxT:ae.fn 227=some Tryz.f227:=by kernel_rfl
theorem zxU:ae.fn 230=some Tryz.f230:=by kernel_rfl
theorem zxV:ae.fn 231=some Tryz.f231:=by kernel_rfl
theorem zxW:ae.fn 232=some Tryz.f232:=by kernel_rfl
theorem zxX:ae.fn 257=some Tryz.f257:=by kernel_rfl
theorem zxY:ae.fn 258=some Tryz.f258:=by kernel_rfl
theorem zxZ:ae.fn 259=some Tryz.f259:=by kernel_rfl
theorem zx0:ae.fn 260=some Tryz.f260:=by kernel_rfl
end Go.Proofs.YtkgojconmeeegaaGreatDoor
