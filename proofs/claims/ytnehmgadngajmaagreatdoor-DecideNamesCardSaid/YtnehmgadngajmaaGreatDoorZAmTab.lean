/- The plain machine's tables over this seat's program. Written by a program (mktab.py). No condition. -/
import Derived.Test.YtnehmgadngajmaaGreatDoorGTab
import Derived.Test.YtnehmgadngajmaaGreatDoorProg
import Derived.KernelRfl
namespace Go.Proofs.YtnehmgadngajmaaGreatDoor
open Go.Am
noncomputable def tyTab : List (List TypeInfo) := [[Tryz.t0, Tryz.t1, Tryz.t2, Tryz.t3, Tryz.t4, Tryz.t5, Tryz.t6, Tryz.t7, Tryz.t8, Tryz.t9, Tryz.t10, Tryz.t11, Tryz.t12, Tryz.t13, Tryz.t14, Tryz.t15],
  [Tryz.t16, Tryz.t17, Tryz.t18, Tryz.t19, Tryz.t20, Tryz.t21, Tryz.t22, Tryz.t23, Tryz.t24, Tryz.t25, Tryz.t26, Tryz.t27, Tryz.t28, Tryz.t29, Tryz.t30, Tryz.t31],
  [Tryz.t32, Tryz.t33, Tryz.t34, Tryz.t35, Tryz.t36, Tryz.t37, Tryz.t38, Tryz.t39, Tryz.t40, Tryz.t41, Tryz.t42, Tryz.t43, Tryz.t44, Tryz.t45, Tryz.t46, Tryz.t47],
  [Tryz.t48, Tryz.t49, Tryz.t50, Tryz.t51, Tryz.t52, Tryz.t53, Tryz.t54, Tryz.t55, Tryz.t56, Tryz.t57, Tryz.t58, Tryz.t59, Tryz.t60, Tryz.t61, Tryz.t62, Tryz.t63],
  [Tryz.t64, Tryz.t65, Tryz.t66, Tryz.t67, Tryz.t68, Tryz.t69, Tryz.t70, Tryz.t71, Tryz.t72, Tryz.t73, Tryz.t74, Tryz.t75, Tryz.t76, Tryz.t77, Tryz.t78, Tryz.t79],
  [Tryz.t80, Tryz.t81, Tryz.t82, Tryz.t83, Tryz.t84, Tryz.t85, Tryz.t86, Tryz.t87, Tryz.t88, Tryz.t89, Tryz.t90, Tryz.t91, Tryz.t92, Tryz.t93, Tryz.t94, Tryz.t95],
  [Tryz.t96, Tryz.t97, Tryz.t98, Tryz.t99, Tryz.t100, Tryz.t101, Tryz.t102, Tryz.t103, Tryz.t104, Tryz.t105, Tryz.t106, Tryz.t107, Tryz.t108, Tryz.t109, Tryz.t110, Tryz.t111],
  [Tryz.t112, Tryz.t113, Tryz.t114, Tryz.t115, Tryz.t116, Tryz.t117, Tryz.t118, Tryz.t119, Tryz.t120, Tryz.t121, Tryz.t122, Tryz.t123, Tryz.t124, Tryz.t125, Tryz.t126, Tryz.t127],
  [Tryz.t128, Tryz.t129, Tryz.t130, Tryz.t131, Tryz.t132, Tryz.t133, Tryz.t134, Tryz.t135, Tryz.t136, Tryz.t137, Tryz.t138, Tryz.t139, Tryz.t140, Tryz.t141, Tryz.t142, Tryz.t143],
  [Tryz.t144, Tryz.t145, Tryz.t146, Tryz.t147, Tryz.t148, Tryz.t149, Tryz.t150, Tryz.t151, Tryz.t152, Tryz.t153, Tryz.t154, Tryz.t155, Tryz.t156, Tryz.t157, Tryz.t158, Tryz.t159],
  [Tryz.t160, Tryz.t161, Tryz.t162, Tryz.t163, Tryz.t164, Tryz.t165, Tryz.t166, Tryz.t167, Tryz.t168, Tryz.t169, Tryz.t170, Tryz.t171, Tryz.t172, Tryz.t173, Tryz.t174, Tryz.t175],
  [Tryz.t176, Tryz.t177, Tryz.t178, Tryz.t179, Tryz.t180, Tryz.t181, Tryz.t182, Tryz.t183, Tryz.t184, Tryz.t185, Tryz.t186, Tryz.t187, Tryz.t188, Tryz.t189, Tryz.t190, Tryz.t191],
  [Tryz.t192, Tryz.t193, Tryz.t194, Tryz.t195, Tryz.t196, Tryz.t197, Tryz.t198, Tryz.t199, Tryz.t200, Tryz.t201, Tryz.t202, Tryz.t203, Tryz.t204, Tryz.t205, Tryz.t206, Tryz.t207],
  [Tryz.t208, Tryz.t209, Tryz.t210, Tryz.t211, Tryz.t212, Tryz.t213, Tryz.t214, Tryz.t215, Tryz.t216, Tryz.t217, Tryz.t218, Tryz.t219, Tryz.t220, Tryz.t221, Tryz.t222, Tryz.t223],
  [Tryz.t224, Tryz.t225, Tryz.t226, Tryz.t227, Tryz.t228, Tryz.t229, Tryz.t230, Tryz.t231, Tryz.t232, Tryz.t233, Tryz.t234, Tryz.t235, Tryz.t236, Tryz.t237, Tryz.t238, Tryz.t239],
  [Tryz.t240, Tryz.t241, Tryz.t242, Tryz.t243, Tryz.t244, Tryz.t245, Tryz.t246, Tryz.t247, Tryz.t248, Tryz.t249, Tryz.t250, Tryz.t251, Tryz.t252, Tryz.t253, Tryz.t254, Tryz.t255],
  [Tryz.t256, Tryz.t257, Tryz.t258, Tryz.t259, Tryz.t260, Tryz.t261, Tryz.t262, Tryz.t263, Tryz.t264, Tryz.t265, Tryz.t266, Tryz.t267, Tryz.t268, Tryz.t269, Tryz.t270, Tryz.t271],
  [Tryz.t272, Tryz.t273, Tryz.t274, Tryz.t275, Tryz.t276, Tryz.t277, Tryz.t278, Tryz.t279, Tryz.t280, Tryz.t281, Tryz.t282, Tryz.t283, Tryz.t284, Tryz.t285, Tryz.t286, Tryz.t287],
  [Tryz.t288, Tryz.t289, Tryz.t290, Tryz.t291, Tryz.t292, Tryz.t293, Tryz.t294, Tryz.t295, Tryz.t296, Tryz.t297, Tryz.t298, Tryz.t299, Tryz.t300, Tryz.t301, Tryz.t302, Tryz.t303],
  [Tryz.t304, Tryz.t305, Tryz.t306, Tryz.t307, Tryz.t308, Tryz.t309, Tryz.t310, Tryz.t311, Tryz.t312, Tryz.t313, Tryz.t314, Tryz.t315, Tryz.t316, Tryz.t317, Tryz.t318, Tryz.t319],
  [Tryz.t320, Tryz.t321, Tryz.t322, Tryz.t323, Tryz.t324, Tryz.t325, Tryz.t326, Tryz.t327, Tryz.t328, Tryz.t329, Tryz.t330, Tryz.t331, Tryz.t332, Tryz.t333, Tryz.t334, Tryz.t335],
  [Tryz.t336]]
def tyOks : List (List Bool) := [[false, true, true, true, true, true, true, true, true, true, true, true, true, true, true, true],
  [true, true, true, true, true, true, true, true, true, true, true, true, true, true, true, true],
  [true, true, true, true, true, true, true, true, true, false, true, true, true, false, true, true],
  [true, false, true, true, true, true, false, true, true, true, true, true, true, true, true, true],
  [true, true, false, true, true, true, true, true, true, true, true, true, true, true, true, true],
  [true, true, false, true, true, true, true, true, true, true, true, true, true, true, true, true],
  [true, true, true, true, true, true, true, true, true, true, true, true, true, true, true, true],
  [true, true, true, true, true, true, true, true, true, true, true, true, false, true, true, true],
  [true, true, true, true, true, true, true, true, true, true, true, true, true, true, true, true],
  [true, true, true, true, true, true, true, true, true, false, true, false, true, true, true, true],
  [true, true, true, true, true, true, true, true, false, true, true, true, true, true, true, true],
  [true, true, true, true, false, true, false, true, true, true, true, false, true, true, true, true],
  [true, true, true, true, true, false, true, true, true, true, true, true, true, true, true, true],
  [false, true, true, true, true, true, true, true, true, false, true, true, true, true, false, true],
  [true, true, true, true, true, true, true, true, true, false, true, true, true, true, true, true],
  [true, true, true, true, true, true, true, false, true, true, true, true, true, true, true, true],
  [true, true, true, true, true, true, true, true, true, true, true, true, true, true, true, true],
  [true, true, true, true, true, true, true, true, true, true, false, true, true, true, true, true],
  [true, false, true, true, true, true, true, true, true, true, true, true, true, true, true, true],
  [true, true, true, true, true, true, true, true, true, true, true, true, true, true, true, true],
  [true, true, true, true, true, true, true, true, true, true, true, true, true, true, true, true],
  [true]]
noncomputable def fnTab : List (List Func) := [[Tryz.f0, Tryz.f1, Tryz.f2, Tryz.f3, Tryz.f4, Tryz.f5, Tryz.f6, Tryz.f7, Tryz.f8, Tryz.f9, Tryz.f10, Tryz.f11, Tryz.f12, Tryz.f13, Tryz.f14, Tryz.f15],
  [Tryz.f16, Tryz.f17, Tryz.f18, Tryz.f19, Tryz.f20, Tryz.f21, Tryz.f22, Tryz.f23, Tryz.f24, Tryz.f25, Tryz.f26, Tryz.f27, Tryz.f28, Tryz.f29, Tryz.f30, Tryz.f31],
  [Tryz.f32, Tryz.f33, Tryz.f34, Tryz.f35, Tryz.f36, Tryz.f37, Tryz.f38, Tryz.f39, Tryz.f40, Tryz.f41, Tryz.f42, Tryz.f43, Tryz.f44, Tryz.f45, Tryz.f46, Tryz.f47],
  [Tryz.f48, Tryz.f49, Tryz.f50, Tryz.f51, Tryz.f52, Tryz.f53, Tryz.f54, Tryz.f55, Tryz.f56, Tryz.f57, Tryz.f58, Tryz.f59, Tryz.f60, Tryz.f61, Tryz.f62, Tryz.f63],
  [Tryz.f64, Tryz.f65, Tryz.f66, Tryz.f67, Tryz.f68, Tryz.f69, Tryz.f70, Tryz.f71, Tryz.f72, Tryz.f73, Tryz.f74, Tryz.f75, Tryz.f76, Tryz.f77, Tryz.f78, Tryz.f79],
  [Tryz.f80, Tryz.f81, Tryz.f82, Tryz.f83, Tryz.f84, Tryz.f85, Tryz.f86, Tryz.f87, Tryz.f88, Tryz.f89, Tryz.f90, Tryz.f91, Tryz.f92, Tryz.f93, Tryz.f94, Tryz.f95],
  [Tryz.f96, Tryz.f97, Tryz.f98, Tryz.f99, Tryz.f100, Tryz.f101, Tryz.f102, Tryz.f103, Tryz.f104, Tryz.f105, Tryz.f106, Tryz.f107, Tryz.f108, Tryz.f109, Tryz.f110, Tryz.f111],
  [Tryz.f112, Tryz.f113, Tryz.f114, Tryz.f115, Tryz.f116, Tryz.f117, Tryz.f118, Tryz.f119, Tryz.f120, Tryz.f121, Tryz.f122, Tryz.f123, Tryz.f124, Tryz.f125, Tryz.f126, Tryz.f127],
  [Tryz.f128, Tryz.f129, Tryz.f130, Tryz.f131, Tryz.f132, Tryz.f133, Tryz.f134, Tryz.f135, Tryz.f136, Tryz.f137, Tryz.f138, Tryz.f139, Tryz.f140, Tryz.f141, Tryz.f142, Tryz.f143],
  [Tryz.f144, Tryz.f145, Tryz.f146, Tryz.f147, Tryz.f148, Tryz.f149, Tryz.f150, Tryz.f151, Tryz.f152, Tryz.f153, Tryz.f154, Tryz.f155, Tryz.f156, Tryz.f157, Tryz.f158, Tryz.f159],
  [Tryz.f160, Tryz.f161, Tryz.f162, Tryz.f163, Tryz.f164, Tryz.f165, Tryz.f166, Tryz.f167, Tryz.f168, Tryz.f169, Tryz.f170, Tryz.f171, Tryz.f172, Tryz.f173, Tryz.f174, Tryz.f175],
  [Tryz.f176, Tryz.f177, Tryz.f178, Tryz.f179, Tryz.f180, Tryz.f181, Tryz.f182, Tryz.f183, Tryz.f184, Tryz.f185, Tryz.f186, Tryz.f187, Tryz.f188, Tryz.f189, Tryz.f190, Tryz.f191],
  [Tryz.f192, Tryz.f193, Tryz.f194, Tryz.f195, Tryz.f196, Tryz.f197, Tryz.f198, Tryz.f199, Tryz.f200, Tryz.f201, Tryz.f202, Tryz.f203, Tryz.f204, Tryz.f205, Tryz.f206, Tryz.f207],
  [Tryz.f208, Tryz.f209, Tryz.f210, Tryz.f211, Tryz.f212, Tryz.f213, Tryz.f214, Tryz.f215, Tryz.f216, Tryz.f217, Tryz.f218, Tryz.f219, Tryz.f220, Tryz.f221, Tryz.f222, Tryz.f223],
  [Tryz.f224, Tryz.f225, Tryz.f226, Tryz.f227, Tryz.f228, Tryz.f229, Tryz.f230, Tryz.f231, Tryz.f232, Tryz.f233, Tryz.f234, Tryz.f235, Tryz.f236, Tryz.f237, Tryz.f238, Tryz.f239],
  [Tryz.f240, Tryz.f241, Tryz.f242, Tryz.f243, Tryz.f244, Tryz.f245, Tryz.f246, Tryz.f247, Tryz.f248, Tryz.f249, Tryz.f250, Tryz.f251, Tryz.f252, Tryz.f253, Tryz.f254, Tryz.f255],
  [Tryz.f256, Tryz.f257, Tryz.f258, Tryz.f259, Tryz.f260, Tryz.f261, Tryz.f262, Tryz.f263, Tryz.f264, Tryz.f265, Tryz.f266, Tryz.f267, Tryz.f268, Tryz.f269, Tryz.f270, Tryz.f271],
  [Tryz.f272, Tryz.f273, Tryz.f274, Tryz.f275, Tryz.f276, Tryz.f277, Tryz.f278, Tryz.f279]]
def fnOks : List (List Bool) := [[false, false, true, true, true, true, true, true, true, true, true, true, true, true, true, true],
  [true, true, true, true, true, true, true, true, true, true, true, true, true, true, true, true],
  [true, true, true, true, true, true, true, true, true, true, true, true, true, true, true, true],
  [true, true, true, true, true, true, true, true, true, true, true, true, true, true, true, true],
  [true, true, true, true, true, true, true, true, true, true, true, true, true, true, true, true],
  [true, true, true, true, true, true, true, true, true, true, true, true, true, true, true, true],
  [true, true, true, true, true, true, true, true, true, true, true, true, true, true, true, true],
  [true, true, true, true, true, true, true, true, true, true, true, true, true, true, true, true],
  [true, true, true, true, true, true, true, true, true, true, true, true, true, true, true, true],
  [true, true, true, true, true, true, true, true, true, true, true, true, true, true, true, true],
  [true, true, true, true, true, true, true, true, true, true, true, true, true, true, true, true],
  [true, true, true, true, true, true, true, true, true, true, true, true, true, true, true, true],
  [true, true, true, true, true, true, true, true, true, true, true, true, true, true, true, true],
  [true, true, true, true, true, false, true, true, false, true, true, true, true, true, true, true],
  [true, true, true, true, false, true, true, true, true, true, true, true, true, false, true, true],
  [true, true, true, true, false, false, true, false, false, true, true, false, false, false, false, false],
  [false, false, false, false, false, false, false, false, false, false, false, false, false, false, false, false],
  [false, false, false, false, false, false, false, false]]
def cmpTys : List TypeId := [7, 8, 31, 32, 33, 34, 35, 43, 44, 47, 48, 56, 57, 85, 86, 140, 141, 146, 147, 148, 149, 152, 243, 244, 286, 292, 297, 298, 305, 306, 315, 316, 318, 319, 321, 322]
noncomputable def tab : Tab := mkTab tyTab tyOks fnTab fnOks cmpTys [1] [82]
theorem tab_types : Tryz.prog.types.toList = tyTab.flatten := by kernel_rfl
theorem tab_tyOks : Tryz.prog.types.toList.map tyOk = tyOks.flatten := by kernel_rfl
theorem tab_funcs : Tryz.prog.funcs.toList = fnTab.flatten := by kernel_rfl
theorem tab_fnOks : Tryz.prog.funcs.toList.map (fnOk [1]) = fnOks.flatten := by kernel_rfl
theorem tab_fits : tab.Fits Tryz.prog := mkTab_fits (show cmpTys.all (cmpOk Tryz.prog) = true by kernel_rfl) (by kernel_rfl) (by kernel_rfl) (by kernel_rfl) (by kernel_rfl) tab_types tab_tyOks tab_funcs tab_fnOks
theorem mixed : Tryz.prog.follows .mixedOrders = true := by kernel_rfl
theorem tab_desc0 : tab.desc 0 = Tryz.prog.underlying 0 := by kernel_rfl
theorem tab_desc1 : tab.desc 1 = Tryz.prog.underlying 1 := by kernel_rfl
theorem tab_info1 : tab.info 1 = some (1, 8, [.nilFunc]) := by kernel_rfl
theorem tab_desc2 : tab.desc 2 = Tryz.prog.underlying 2 := by kernel_rfl
theorem tab_info2 : tab.info 2 = some (1, 8, [.int .i64 0]) := by kernel_rfl
theorem tab_desc3 : tab.desc 3 = Tryz.prog.underlying 3 := by kernel_rfl
theorem tab_info3 : tab.info 3 = some (1, 8, [.int .i64 0]) := by kernel_rfl
theorem tab_desc4 : tab.desc 4 = Tryz.prog.underlying 4 := by kernel_rfl
theorem tab_info4 : tab.info 4 = some (1, 1, [.bool false]) := by kernel_rfl
theorem tab_desc5 : tab.desc 5 = Tryz.prog.underlying 5 := by kernel_rfl
theorem tab_info5 : tab.info 5 = some (1, 1, [.int .u8 0]) := by kernel_rfl
theorem tab_desc6 : tab.desc 6 = Tryz.prog.underlying 6 := by kernel_rfl
theorem tab_info6 : tab.info 6 = some (1, 1, [.int .u8 0]) := by kernel_rfl
theorem tab_desc7 : tab.desc 7 = Tryz.prog.underlying 7 := by kernel_rfl
theorem tab_info7 : tab.info 7 = some (4, 24, [.int .i64 0, .int .i64 0, .bool false, .int .u8 0]) := by kernel_rfl
theorem tab_desc8 : tab.desc 8 = Tryz.prog.underlying 8 := by kernel_rfl
theorem tab_info8 : tab.info 8 = some (4, 24, [.int .i64 0, .int .i64 0, .bool false, .int .u8 0]) := by kernel_rfl
theorem tab_desc9 : tab.desc 9 = Tryz.prog.underlying 9 := by kernel_rfl
theorem tab_info9 : tab.info 9 = some (1, 16, [.string ⟨#[]⟩]) := by kernel_rfl
theorem tab_desc10 : tab.desc 10 = Tryz.prog.underlying 10 := by kernel_rfl
theorem tab_info10 : tab.info 10 = some (1, 16, [.string ⟨#[]⟩]) := by kernel_rfl
theorem tab_desc11 : tab.desc 11 = Tryz.prog.underlying 11 := by kernel_rfl
theorem tab_info11 : tab.info 11 = some (1, 16, [.string ⟨#[]⟩]) := by kernel_rfl
theorem tab_desc12 : tab.desc 12 = Tryz.prog.underlying 12 := by kernel_rfl
theorem tab_info12 : tab.info 12 = some (1, 8, [.int .u64 0]) := by kernel_rfl
theorem tab_desc13 : tab.desc 13 = Tryz.prog.underlying 13 := by kernel_rfl
theorem tab_info13 : tab.info 13 = some (2, 24, [.string ⟨#[]⟩, .int .u64 0]) := by kernel_rfl
theorem tab_desc14 : tab.desc 14 = Tryz.prog.underlying 14 := by kernel_rfl
theorem tab_info14 : tab.info 14 = some (2, 24, [.string ⟨#[]⟩, .int .u64 0]) := by kernel_rfl
theorem tab_desc15 : tab.desc 15 = Tryz.prog.underlying 15 := by kernel_rfl
theorem tab_info15 : tab.info 15 = some (1, 8, [.pointer none]) := by kernel_rfl
theorem tab_desc16 : tab.desc 16 = Tryz.prog.underlying 16 := by kernel_rfl
theorem tab_info16 : tab.info 16 = some (1, 8, [.pointer none]) := by kernel_rfl
theorem tab_desc17 : tab.desc 17 = Tryz.prog.underlying 17 := by kernel_rfl
theorem tab_info17 : tab.info 17 = some (1, 8, [.pointer none]) := by kernel_rfl
theorem tab_desc18 : tab.desc 18 = Tryz.prog.underlying 18 := by kernel_rfl
theorem tab_info18 : tab.info 18 = some (1, 8, [.pointer none]) := by kernel_rfl
theorem tab_desc19 : tab.desc 19 = Tryz.prog.underlying 19 := by kernel_rfl
theorem tab_info19 : tab.info 19 = some (1, 8, [.pointer none]) := by kernel_rfl
theorem tab_desc20 : tab.desc 20 = Tryz.prog.underlying 20 := by kernel_rfl
theorem tab_info20 : tab.info 20 = some (1, 16, [.nilIface]) := by kernel_rfl
theorem tab_desc21 : tab.desc 21 = Tryz.prog.underlying 21 := by kernel_rfl
theorem tab_info21 : tab.info 21 = some (1, 4, [.int .i32 0]) := by kernel_rfl
theorem tab_desc22 : tab.desc 22 = Tryz.prog.underlying 22 := by kernel_rfl
theorem tab_info22 : tab.info 22 = some (1, 8, [.nilFunc]) := by kernel_rfl
theorem tab_desc23 : tab.desc 23 = Tryz.prog.underlying 23 := by kernel_rfl
theorem tab_info23 : tab.info 23 = some (1, 24, [.slice none 0 0]) := by kernel_rfl
theorem tab_desc24 : tab.desc 24 = Tryz.prog.underlying 24 := by kernel_rfl
theorem tab_info24 : tab.info 24 = some (1, 24, [.slice none 0 0]) := by kernel_rfl
theorem tab_desc25 : tab.desc 25 = Tryz.prog.underlying 25 := by kernel_rfl
theorem tab_info25 : tab.info 25 = some (1, 24, [.slice none 0 0]) := by kernel_rfl
theorem tab_desc26 : tab.desc 26 = Tryz.prog.underlying 26 := by kernel_rfl
theorem tab_info26 : tab.info 26 = some (1, 24, [.slice none 0 0]) := by kernel_rfl
theorem tab_desc27 : tab.desc 27 = Tryz.prog.underlying 27 := by kernel_rfl
theorem tab_info27 : tab.info 27 = some (1, 24, [.slice none 0 0]) := by kernel_rfl
theorem tab_desc28 : tab.desc 28 = Tryz.prog.underlying 28 := by kernel_rfl
theorem tab_info28 : tab.info 28 = some (7, 136, [.slice none 0 0, .slice none 0 0, .slice none 0 0, .int .i64 0, .int .i64 0, .slice none 0 0, .slice none 0 0]) := by kernel_rfl
theorem tab_desc29 : tab.desc 29 = Tryz.prog.underlying 29 := by kernel_rfl
theorem tab_info29 : tab.info 29 = some (7, 136, [.slice none 0 0, .slice none 0 0, .slice none 0 0, .int .i64 0, .int .i64 0, .slice none 0 0, .slice none 0 0]) := by kernel_rfl
theorem tab_desc30 : tab.desc 30 = Tryz.prog.underlying 30 := by kernel_rfl
theorem tab_info30 : tab.info 30 = some (1, 8, [.nilFunc]) := by kernel_rfl
theorem tab_desc31 : tab.desc 31 = Tryz.prog.underlying 31 := by kernel_rfl
theorem tab_info31 : tab.info 31 = some (2, 24, [.bool false, .string ⟨#[]⟩]) := by kernel_rfl
theorem tab_desc32 : tab.desc 32 = Tryz.prog.underlying 32 := by kernel_rfl
theorem tab_info32 : tab.info 32 = some (2, 24, [.bool false, .string ⟨#[]⟩]) := by kernel_rfl
theorem tab_desc33 : tab.desc 33 = Tryz.prog.underlying 33 := by kernel_rfl
theorem tab_info33 : tab.info 33 = some (8, 96, [.bool false, .string ⟨#[]⟩, .bool false, .string ⟨#[]⟩, .bool false, .string ⟨#[]⟩, .bool false, .string ⟨#[]⟩]) := by kernel_rfl
theorem tab_desc34 : tab.desc 34 = Tryz.prog.underlying 34 := by kernel_rfl
theorem tab_info34 : tab.info 34 = some (11, 136, [.string ⟨#[]⟩, .string ⟨#[]⟩, .int .i64 0, .bool false, .string ⟨#[]⟩, .bool false, .string ⟨#[]⟩, .bool false, .string ⟨#[]⟩, .bool false, .string ⟨#[]⟩]) := by kernel_rfl
theorem tab_desc35 : tab.desc 35 = Tryz.prog.underlying 35 := by kernel_rfl
theorem tab_info35 : tab.info 35 = some (11, 136, [.string ⟨#[]⟩, .string ⟨#[]⟩, .int .i64 0, .bool false, .string ⟨#[]⟩, .bool false, .string ⟨#[]⟩, .bool false, .string ⟨#[]⟩, .bool false, .string ⟨#[]⟩]) := by kernel_rfl
theorem tab_desc36 : tab.desc 36 = Tryz.prog.underlying 36 := by kernel_rfl
theorem tab_info36 : tab.info 36 = some (1, 8, [.int .i64 0]) := by kernel_rfl
theorem tab_desc37 : tab.desc 37 = Tryz.prog.underlying 37 := by kernel_rfl
theorem tab_info37 : tab.info 37 = some (1, 24, [.slice none 0 0]) := by kernel_rfl
theorem tab_desc38 : tab.desc 38 = Tryz.prog.underlying 38 := by kernel_rfl
theorem tab_info38 : tab.info 38 = some (4, 56, [.int .i64 0, .bool false, .slice none 0 0, .string ⟨#[]⟩]) := by kernel_rfl
theorem tab_desc39 : tab.desc 39 = Tryz.prog.underlying 39 := by kernel_rfl
theorem tab_info39 : tab.info 39 = some (4, 56, [.int .i64 0, .bool false, .slice none 0 0, .string ⟨#[]⟩]) := by kernel_rfl
theorem tab_desc40 : tab.desc 40 = Tryz.prog.underlying 40 := by kernel_rfl
theorem tab_info40 : tab.info 40 = some (1, 8, [.nilFunc]) := by kernel_rfl
theorem tab_desc41 : tab.desc 41 = Tryz.prog.underlying 41 := by kernel_rfl
theorem tab_desc42 : tab.desc 42 = Tryz.prog.underlying 42 := by kernel_rfl
theorem tab_info42 : tab.info 42 = some (1, 8, [.nilFunc]) := by kernel_rfl
theorem tab_desc43 : tab.desc 43 = Tryz.prog.underlying 43 := by kernel_rfl
theorem tab_info43 : tab.info 43 = some (12, 144, [.int .i64 0, .string ⟨#[]⟩, .string ⟨#[]⟩, .int .i64 0, .bool false, .string ⟨#[]⟩, .bool false, .string ⟨#[]⟩, .bool false, .string ⟨#[]⟩, .bool false, .string ⟨#[]⟩]) := by kernel_rfl
theorem tab_desc44 : tab.desc 44 = Tryz.prog.underlying 44 := by kernel_rfl
theorem tab_info44 : tab.info 44 = some (12, 144, [.int .i64 0, .string ⟨#[]⟩, .string ⟨#[]⟩, .int .i64 0, .bool false, .string ⟨#[]⟩, .bool false, .string ⟨#[]⟩, .bool false, .string ⟨#[]⟩, .bool false, .string ⟨#[]⟩]) := by kernel_rfl
theorem tab_desc45 : tab.desc 45 = Tryz.prog.underlying 45 := by kernel_rfl
theorem tab_desc46 : tab.desc 46 = Tryz.prog.underlying 46 := by kernel_rfl
theorem tab_info46 : tab.info 46 = some (1, 8, [.nilFunc]) := by kernel_rfl
theorem tab_desc47 : tab.desc 47 = Tryz.prog.underlying 47 := by kernel_rfl
theorem tab_info47 : tab.info 47 = some (2, 32, [.string ⟨#[]⟩, .string ⟨#[]⟩]) := by kernel_rfl
theorem tab_desc48 : tab.desc 48 = Tryz.prog.underlying 48 := by kernel_rfl
theorem tab_info48 : tab.info 48 = some (2, 32, [.string ⟨#[]⟩, .string ⟨#[]⟩]) := by kernel_rfl
theorem tab_desc49 : tab.desc 49 = Tryz.prog.underlying 49 := by kernel_rfl
theorem tab_desc50 : tab.desc 50 = Tryz.prog.underlying 50 := by kernel_rfl
theorem tab_info50 : tab.info 50 = some (1, 8, [.nilFunc]) := by kernel_rfl
theorem tab_desc51 : tab.desc 51 = Tryz.prog.underlying 51 := by kernel_rfl
theorem tab_info51 : tab.info 51 = some (1, 8, [.nilFunc]) := by kernel_rfl
theorem tab_desc52 : tab.desc 52 = Tryz.prog.underlying 52 := by kernel_rfl
theorem tab_info52 : tab.info 52 = some (1, 8, [.nilFunc]) := by kernel_rfl
theorem tab_desc53 : tab.desc 53 = Tryz.prog.underlying 53 := by kernel_rfl
theorem tab_info53 : tab.info 53 = some (1, 24, [.slice none 0 0]) := by kernel_rfl
theorem tab_desc54 : tab.desc 54 = Tryz.prog.underlying 54 := by kernel_rfl
theorem tab_desc55 : tab.desc 55 = Tryz.prog.underlying 55 := by kernel_rfl
theorem tab_info55 : tab.info 55 = some (1, 8, [.nilFunc]) := by kernel_rfl
theorem tab_desc56 : tab.desc 56 = Tryz.prog.underlying 56 := by kernel_rfl
theorem tab_info56 : tab.info 56 = some (2, 24, [.string ⟨#[]⟩, .int .i64 0]) := by kernel_rfl
theorem tab_desc57 : tab.desc 57 = Tryz.prog.underlying 57 := by kernel_rfl
theorem tab_info57 : tab.info 57 = some (2, 24, [.string ⟨#[]⟩, .int .i64 0]) := by kernel_rfl
theorem tab_desc58 : tab.desc 58 = Tryz.prog.underlying 58 := by kernel_rfl
theorem tab_info58 : tab.info 58 = some (12, 160, [.string ⟨#[]⟩, .string ⟨#[]⟩, .int .i64 0, .bool false, .string ⟨#[]⟩, .bool false, .string ⟨#[]⟩, .bool false, .string ⟨#[]⟩, .bool false, .string ⟨#[]⟩, .slice none 0 0]) := by kernel_rfl
theorem tab_desc59 : tab.desc 59 = Tryz.prog.underlying 59 := by kernel_rfl
theorem tab_info59 : tab.info 59 = some (12, 160, [.string ⟨#[]⟩, .string ⟨#[]⟩, .int .i64 0, .bool false, .string ⟨#[]⟩, .bool false, .string ⟨#[]⟩, .bool false, .string ⟨#[]⟩, .bool false, .string ⟨#[]⟩, .slice none 0 0]) := by kernel_rfl
theorem tab_desc60 : tab.desc 60 = Tryz.prog.underlying 60 := by kernel_rfl
theorem tab_info60 : tab.info 60 = some (1, 8, [.nilFunc]) := by kernel_rfl
theorem tab_desc61 : tab.desc 61 = Tryz.prog.underlying 61 := by kernel_rfl
theorem tab_info61 : tab.info 61 = some (1, 8, [.nilFunc]) := by kernel_rfl
theorem tab_desc62 : tab.desc 62 = Tryz.prog.underlying 62 := by kernel_rfl
theorem tab_info62 : tab.info 62 = some (1, 8, [.nilFunc]) := by kernel_rfl
theorem tab_desc63 : tab.desc 63 = Tryz.prog.underlying 63 := by kernel_rfl
theorem tab_info63 : tab.info 63 = some (1, 24, [.slice none 0 0]) := by kernel_rfl
theorem tab_desc64 : tab.desc 64 = Tryz.prog.underlying 64 := by kernel_rfl
theorem tab_info64 : tab.info 64 = some (4, 64, [.slice none 0 0, .int .i64 0, .int .i64 0, .slice none 0 0]) := by kernel_rfl
theorem tab_desc65 : tab.desc 65 = Tryz.prog.underlying 65 := by kernel_rfl
theorem tab_info65 : tab.info 65 = some (4, 64, [.slice none 0 0, .int .i64 0, .int .i64 0, .slice none 0 0]) := by kernel_rfl
theorem tab_desc66 : tab.desc 66 = Tryz.prog.underlying 66 := by kernel_rfl
theorem tab_desc67 : tab.desc 67 = Tryz.prog.underlying 67 := by kernel_rfl
theorem tab_info67 : tab.info 67 = some (1, 8, [.nilFunc]) := by kernel_rfl
theorem tab_desc68 : tab.desc 68 = Tryz.prog.underlying 68 := by kernel_rfl
theorem tab_info68 : tab.info 68 = some (1, 24, [.slice none 0 0]) := by kernel_rfl
theorem tab_desc69 : tab.desc 69 = Tryz.prog.underlying 69 := by kernel_rfl
theorem tab_info69 : tab.info 69 = some (1, 8, [.nilFunc]) := by kernel_rfl
theorem tab_desc70 : tab.desc 70 = Tryz.prog.underlying 70 := by kernel_rfl
theorem tab_info70 : tab.info 70 = some (1, 8, [.nilFunc]) := by kernel_rfl
theorem tab_desc71 : tab.desc 71 = Tryz.prog.underlying 71 := by kernel_rfl
theorem tab_info71 : tab.info 71 = some (1, 8, [.nilFunc]) := by kernel_rfl
theorem tab_desc72 : tab.desc 72 = Tryz.prog.underlying 72 := by kernel_rfl
theorem tab_info72 : tab.info 72 = some (1, 8, [.nilFunc]) := by kernel_rfl
theorem tab_desc73 : tab.desc 73 = Tryz.prog.underlying 73 := by kernel_rfl
theorem tab_info73 : tab.info 73 = some (1, 8, [.nilFunc]) := by kernel_rfl
theorem tab_desc74 : tab.desc 74 = Tryz.prog.underlying 74 := by kernel_rfl
theorem tab_info74 : tab.info 74 = some (1, 8, [.nilFunc]) := by kernel_rfl
theorem tab_desc75 : tab.desc 75 = Tryz.prog.underlying 75 := by kernel_rfl
theorem tab_info75 : tab.info 75 = some (1, 24, [.slice none 0 0]) := by kernel_rfl
theorem tab_desc76 : tab.desc 76 = Tryz.prog.underlying 76 := by kernel_rfl
theorem tab_info76 : tab.info 76 = some (1, 8, [.nilFunc]) := by kernel_rfl
theorem tab_desc77 : tab.desc 77 = Tryz.prog.underlying 77 := by kernel_rfl
theorem tab_info77 : tab.info 77 = some (1, 8, [.nilFunc]) := by kernel_rfl
theorem tab_desc78 : tab.desc 78 = Tryz.prog.underlying 78 := by kernel_rfl
theorem tab_info78 : tab.info 78 = some (1, 8, [.nilFunc]) := by kernel_rfl
theorem tab_desc79 : tab.desc 79 = Tryz.prog.underlying 79 := by kernel_rfl
theorem tab_info79 : tab.info 79 = some (1, 8, [.nilFunc]) := by kernel_rfl
theorem tab_desc80 : tab.desc 80 = Tryz.prog.underlying 80 := by kernel_rfl
theorem tab_info80 : tab.info 80 = some (1, 8, [.nilFunc]) := by kernel_rfl
theorem tab_desc81 : tab.desc 81 = Tryz.prog.underlying 81 := by kernel_rfl
theorem tab_info81 : tab.info 81 = some (1, 24, [.slice none 0 0]) := by kernel_rfl
theorem tab_desc82 : tab.desc 82 = Tryz.prog.underlying 82 := by kernel_rfl
theorem tab_desc83 : tab.desc 83 = Tryz.prog.underlying 83 := by kernel_rfl
theorem tab_info83 : tab.info 83 = some (1, 8, [.nilFunc]) := by kernel_rfl
theorem tab_desc84 : tab.desc 84 = Tryz.prog.underlying 84 := by kernel_rfl
theorem tab_info84 : tab.info 84 = some (1, 8, [.pointer none]) := by kernel_rfl
theorem tab_desc85 : tab.desc 85 = Tryz.prog.underlying 85 := by kernel_rfl
theorem tab_info85 : tab.info 85 = some (3, 32, [.string ⟨#[]⟩, .int .i64 0, .int .i64 0]) := by kernel_rfl
theorem tab_desc86 : tab.desc 86 = Tryz.prog.underlying 86 := by kernel_rfl
theorem tab_info86 : tab.info 86 = some (3, 32, [.string ⟨#[]⟩, .int .i64 0, .int .i64 0]) := by kernel_rfl
theorem tab_desc87 : tab.desc 87 = Tryz.prog.underlying 87 := by kernel_rfl
theorem tab_info87 : tab.info 87 = some (1, 4, [.int .u32 0]) := by kernel_rfl
theorem tab_desc88 : tab.desc 88 = Tryz.prog.underlying 88 := by kernel_rfl
theorem tab_info88 : tab.info 88 = some (1, 8, [.nilFunc]) := by kernel_rfl
theorem tab_desc89 : tab.desc 89 = Tryz.prog.underlying 89 := by kernel_rfl
theorem tab_info89 : tab.info 89 = some (1, 8, [.nilFunc]) := by kernel_rfl
theorem tab_desc90 : tab.desc 90 = Tryz.prog.underlying 90 := by kernel_rfl
theorem tab_info90 : tab.info 90 = some (1, 24, [.slice none 0 0]) := by kernel_rfl
theorem tab_desc91 : tab.desc 91 = Tryz.prog.underlying 91 := by kernel_rfl
theorem tab_info91 : tab.info 91 = some (13, 168, [.string ⟨#[]⟩, .string ⟨#[]⟩, .int .i64 0, .bool false, .string ⟨#[]⟩, .bool false, .string ⟨#[]⟩, .bool false, .string ⟨#[]⟩, .bool false, .string ⟨#[]⟩, .int .i64 0, .slice none 0 0]) := by kernel_rfl
theorem tab_desc92 : tab.desc 92 = Tryz.prog.underlying 92 := by kernel_rfl
theorem tab_info92 : tab.info 92 = some (13, 168, [.string ⟨#[]⟩, .string ⟨#[]⟩, .int .i64 0, .bool false, .string ⟨#[]⟩, .bool false, .string ⟨#[]⟩, .bool false, .string ⟨#[]⟩, .bool false, .string ⟨#[]⟩, .int .i64 0, .slice none 0 0]) := by kernel_rfl
theorem tab_desc93 : tab.desc 93 = Tryz.prog.underlying 93 := by kernel_rfl
theorem tab_info93 : tab.info 93 = some (1, 24, [.slice none 0 0]) := by kernel_rfl
theorem tab_desc94 : tab.desc 94 = Tryz.prog.underlying 94 := by kernel_rfl
theorem tab_info94 : tab.info 94 = some (12, 160, [.string ⟨#[]⟩, .string ⟨#[]⟩, .int .i64 0, .bool false, .string ⟨#[]⟩, .bool false, .string ⟨#[]⟩, .bool false, .string ⟨#[]⟩, .bool false, .string ⟨#[]⟩, .slice none 0 0]) := by kernel_rfl
theorem tab_desc95 : tab.desc 95 = Tryz.prog.underlying 95 := by kernel_rfl
theorem tab_info95 : tab.info 95 = some (1, 8, [.nilFunc]) := by kernel_rfl
theorem tab_desc96 : tab.desc 96 = Tryz.prog.underlying 96 := by kernel_rfl
theorem tab_info96 : tab.info 96 = some (1, 8, [.nilFunc]) := by kernel_rfl
theorem tab_desc97 : tab.desc 97 = Tryz.prog.underlying 97 := by kernel_rfl
theorem tab_info97 : tab.info 97 = some (1, 8, [.nilFunc]) := by kernel_rfl
theorem tab_desc98 : tab.desc 98 = Tryz.prog.underlying 98 := by kernel_rfl
theorem tab_info98 : tab.info 98 = some (1, 8, [.pointer none]) := by kernel_rfl
theorem tab_desc99 : tab.desc 99 = Tryz.prog.underlying 99 := by kernel_rfl
theorem tab_info99 : tab.info 99 = some (1, 8, [.nilFunc]) := by kernel_rfl
theorem tab_desc100 : tab.desc 100 = Tryz.prog.underlying 100 := by kernel_rfl
theorem tab_info100 : tab.info 100 = some (1, 8, [.pointer none]) := by kernel_rfl
theorem tab_desc101 : tab.desc 101 = Tryz.prog.underlying 101 := by kernel_rfl
theorem tab_info101 : tab.info 101 = some (1, 8, [.nilFunc]) := by kernel_rfl
theorem tab_desc102 : tab.desc 102 = Tryz.prog.underlying 102 := by kernel_rfl
theorem tab_info102 : tab.info 102 = some (1, 8, [.map none]) := by kernel_rfl
theorem tab_desc103 : tab.desc 103 = Tryz.prog.underlying 103 := by kernel_rfl
theorem tab_info103 : tab.info 103 = some (1, 24, [.slice none 0 0]) := by kernel_rfl
theorem tab_desc104 : tab.desc 104 = Tryz.prog.underlying 104 := by kernel_rfl
theorem tab_info104 : tab.info 104 = some (9, 152, [.slice none 0 0, .slice none 0 0, .int .i64 0, .int .i64 0, .pointer none, .slice none 0 0, .slice none 0 0, .slice none 0 0, .map none]) := by kernel_rfl
theorem tab_desc105 : tab.desc 105 = Tryz.prog.underlying 105 := by kernel_rfl
theorem tab_info105 : tab.info 105 = some (9, 152, [.slice none 0 0, .slice none 0 0, .int .i64 0, .int .i64 0, .pointer none, .slice none 0 0, .slice none 0 0, .slice none 0 0, .map none]) := by kernel_rfl
theorem tab_desc106 : tab.desc 106 = Tryz.prog.underlying 106 := by kernel_rfl
theorem tab_info106 : tab.info 106 = some (1, 8, [.nilFunc]) := by kernel_rfl
theorem tab_desc107 : tab.desc 107 = Tryz.prog.underlying 107 := by kernel_rfl
theorem tab_info107 : tab.info 107 = some (1, 8, [.nilFunc]) := by kernel_rfl
theorem tab_desc108 : tab.desc 108 = Tryz.prog.underlying 108 := by kernel_rfl
theorem tab_info108 : tab.info 108 = some (1, 8, [.nilFunc]) := by kernel_rfl
theorem tab_desc109 : tab.desc 109 = Tryz.prog.underlying 109 := by kernel_rfl
theorem tab_info109 : tab.info 109 = some (1, 8, [.nilFunc]) := by kernel_rfl
theorem tab_desc110 : tab.desc 110 = Tryz.prog.underlying 110 := by kernel_rfl
theorem tab_info110 : tab.info 110 = some (1, 8, [.nilFunc]) := by kernel_rfl
theorem tab_desc111 : tab.desc 111 = Tryz.prog.underlying 111 := by kernel_rfl
theorem tab_info111 : tab.info 111 = some (12, 160, [.string ⟨#[]⟩, .string ⟨#[]⟩, .int .i64 0, .bool false, .string ⟨#[]⟩, .bool false, .string ⟨#[]⟩, .bool false, .string ⟨#[]⟩, .bool false, .string ⟨#[]⟩, .slice none 0 0]) := by kernel_rfl
theorem tab_desc112 : tab.desc 112 = Tryz.prog.underlying 112 := by kernel_rfl
theorem tab_info112 : tab.info 112 = some (12, 160, [.string ⟨#[]⟩, .string ⟨#[]⟩, .int .i64 0, .bool false, .string ⟨#[]⟩, .bool false, .string ⟨#[]⟩, .bool false, .string ⟨#[]⟩, .bool false, .string ⟨#[]⟩, .slice none 0 0]) := by kernel_rfl
theorem tab_desc113 : tab.desc 113 = Tryz.prog.underlying 113 := by kernel_rfl
theorem tab_info113 : tab.info 113 = some (12, 160, [.string ⟨#[]⟩, .string ⟨#[]⟩, .int .i64 0, .bool false, .string ⟨#[]⟩, .bool false, .string ⟨#[]⟩, .bool false, .string ⟨#[]⟩, .bool false, .string ⟨#[]⟩, .slice none 0 0]) := by kernel_rfl
theorem tab_desc114 : tab.desc 114 = Tryz.prog.underlying 114 := by kernel_rfl
theorem tab_info114 : tab.info 114 = some (12, 160, [.string ⟨#[]⟩, .string ⟨#[]⟩, .int .i64 0, .bool false, .string ⟨#[]⟩, .bool false, .string ⟨#[]⟩, .bool false, .string ⟨#[]⟩, .bool false, .string ⟨#[]⟩, .slice none 0 0]) := by kernel_rfl
theorem tab_desc115 : tab.desc 115 = Tryz.prog.underlying 115 := by kernel_rfl
theorem tab_info115 : tab.info 115 = some (1, 8, [.nilFunc]) := by kernel_rfl
theorem tab_desc116 : tab.desc 116 = Tryz.prog.underlying 116 := by kernel_rfl
theorem tab_info116 : tab.info 116 = some (13, 176, [.string ⟨#[]⟩, .string ⟨#[]⟩, .string ⟨#[]⟩, .int .i64 0, .bool false, .string ⟨#[]⟩, .bool false, .string ⟨#[]⟩, .bool false, .string ⟨#[]⟩, .bool false, .string ⟨#[]⟩, .slice none 0 0]) := by kernel_rfl
theorem tab_desc117 : tab.desc 117 = Tryz.prog.underlying 117 := by kernel_rfl
theorem tab_info117 : tab.info 117 = some (13, 176, [.string ⟨#[]⟩, .string ⟨#[]⟩, .string ⟨#[]⟩, .int .i64 0, .bool false, .string ⟨#[]⟩, .bool false, .string ⟨#[]⟩, .bool false, .string ⟨#[]⟩, .bool false, .string ⟨#[]⟩, .slice none 0 0]) := by kernel_rfl
theorem tab_desc118 : tab.desc 118 = Tryz.prog.underlying 118 := by kernel_rfl
theorem tab_info118 : tab.info 118 = some (1, 8, [.nilFunc]) := by kernel_rfl
theorem tab_desc119 : tab.desc 119 = Tryz.prog.underlying 119 := by kernel_rfl
theorem tab_info119 : tab.info 119 = some (1, 8, [.nilFunc]) := by kernel_rfl
theorem tab_desc120 : tab.desc 120 = Tryz.prog.underlying 120 := by kernel_rfl
theorem tab_info120 : tab.info 120 = some (1, 8, [.nilFunc]) := by kernel_rfl
theorem tab_desc121 : tab.desc 121 = Tryz.prog.underlying 121 := by kernel_rfl
theorem tab_info121 : tab.info 121 = some (1, 8, [.nilFunc]) := by kernel_rfl
theorem tab_desc122 : tab.desc 122 = Tryz.prog.underlying 122 := by kernel_rfl
theorem tab_info122 : tab.info 122 = some (1, 8, [.nilFunc]) := by kernel_rfl
theorem tab_desc123 : tab.desc 123 = Tryz.prog.underlying 123 := by kernel_rfl
theorem tab_info123 : tab.info 123 = some (1, 8, [.map none]) := by kernel_rfl
theorem tab_desc124 : tab.desc 124 = Tryz.prog.underlying 124 := by kernel_rfl
theorem tab_desc125 : tab.desc 125 = Tryz.prog.underlying 125 := by kernel_rfl
theorem tab_info125 : tab.info 125 = some (1, 8, [.nilFunc]) := by kernel_rfl
theorem tab_desc126 : tab.desc 126 = Tryz.prog.underlying 126 := by kernel_rfl
theorem tab_info126 : tab.info 126 = some (1, 8, [.nilFunc]) := by kernel_rfl
theorem tab_desc127 : tab.desc 127 = Tryz.prog.underlying 127 := by kernel_rfl
theorem tab_info127 : tab.info 127 = some (1, 24, [.slice none 0 0]) := by kernel_rfl
theorem tab_desc128 : tab.desc 128 = Tryz.prog.underlying 128 := by kernel_rfl
theorem tab_info128 : tab.info 128 = some (1, 8, [.nilFunc]) := by kernel_rfl
theorem tab_desc129 : tab.desc 129 = Tryz.prog.underlying 129 := by kernel_rfl
theorem tab_info129 : tab.info 129 = some (1, 8, [.nilFunc]) := by kernel_rfl
theorem tab_desc130 : tab.desc 130 = Tryz.prog.underlying 130 := by kernel_rfl
theorem tab_info130 : tab.info 130 = some (1, 8, [.nilFunc]) := by kernel_rfl
theorem tab_desc131 : tab.desc 131 = Tryz.prog.underlying 131 := by kernel_rfl
theorem tab_info131 : tab.info 131 = some (13, 168, [.string ⟨#[]⟩, .string ⟨#[]⟩, .int .i64 0, .bool false, .string ⟨#[]⟩, .bool false, .string ⟨#[]⟩, .bool false, .string ⟨#[]⟩, .bool false, .string ⟨#[]⟩, .int .i64 0, .slice none 0 0]) := by kernel_rfl
theorem tab_desc132 : tab.desc 132 = Tryz.prog.underlying 132 := by kernel_rfl
theorem tab_info132 : tab.info 132 = some (13, 168, [.string ⟨#[]⟩, .string ⟨#[]⟩, .int .i64 0, .bool false, .string ⟨#[]⟩, .bool false, .string ⟨#[]⟩, .bool false, .string ⟨#[]⟩, .bool false, .string ⟨#[]⟩, .int .i64 0, .slice none 0 0]) := by kernel_rfl
theorem tab_desc133 : tab.desc 133 = Tryz.prog.underlying 133 := by kernel_rfl
theorem tab_info133 : tab.info 133 = some (1, 8, [.nilFunc]) := by kernel_rfl
theorem tab_desc134 : tab.desc 134 = Tryz.prog.underlying 134 := by kernel_rfl
theorem tab_info134 : tab.info 134 = some (1, 8, [.nilFunc]) := by kernel_rfl
theorem tab_desc135 : tab.desc 135 = Tryz.prog.underlying 135 := by kernel_rfl
theorem tab_info135 : tab.info 135 = some (1, 8, [.nilFunc]) := by kernel_rfl
theorem tab_desc136 : tab.desc 136 = Tryz.prog.underlying 136 := by kernel_rfl
theorem tab_info136 : tab.info 136 = some (1, 8, [.nilFunc]) := by kernel_rfl
theorem tab_desc137 : tab.desc 137 = Tryz.prog.underlying 137 := by kernel_rfl
theorem tab_info137 : tab.info 137 = some (1, 8, [.nilFunc]) := by kernel_rfl
theorem tab_desc138 : tab.desc 138 = Tryz.prog.underlying 138 := by kernel_rfl
theorem tab_info138 : tab.info 138 = some (1, 8, [.nilFunc]) := by kernel_rfl
theorem tab_desc139 : tab.desc 139 = Tryz.prog.underlying 139 := by kernel_rfl
theorem tab_info139 : tab.info 139 = some (1, 8, [.pointer none]) := by kernel_rfl
theorem tab_desc140 : tab.desc 140 = Tryz.prog.underlying 140 := by kernel_rfl
theorem tab_info140 : tab.info 140 = some (2, 24, [.string ⟨#[]⟩, .int .i64 0]) := by kernel_rfl
theorem tab_desc141 : tab.desc 141 = Tryz.prog.underlying 141 := by kernel_rfl
theorem tab_info141 : tab.info 141 = some (2, 24, [.string ⟨#[]⟩, .int .i64 0]) := by kernel_rfl
theorem tab_desc142 : tab.desc 142 = Tryz.prog.underlying 142 := by kernel_rfl
theorem tab_info142 : tab.info 142 = some (1, 8, [.nilFunc]) := by kernel_rfl
theorem tab_desc143 : tab.desc 143 = Tryz.prog.underlying 143 := by kernel_rfl
theorem tab_info143 : tab.info 143 = some (1, 8, [.nilFunc]) := by kernel_rfl
theorem tab_desc144 : tab.desc 144 = Tryz.prog.underlying 144 := by kernel_rfl
theorem tab_info144 : tab.info 144 = some (1, 8, [.nilFunc]) := by kernel_rfl
theorem tab_desc145 : tab.desc 145 = Tryz.prog.underlying 145 := by kernel_rfl
theorem tab_info145 : tab.info 145 = some (1, 8, [.pointer none]) := by kernel_rfl
theorem tab_desc146 : tab.desc 146 = Tryz.prog.underlying 146 := by kernel_rfl
theorem tab_info146 : tab.info 146 = some (3, 32, [.string ⟨#[]⟩, .int .i64 0, .bool false]) := by kernel_rfl
theorem tab_desc147 : tab.desc 147 = Tryz.prog.underlying 147 := by kernel_rfl
theorem tab_info147 : tab.info 147 = some (3, 32, [.string ⟨#[]⟩, .int .i64 0, .bool false]) := by kernel_rfl
theorem tab_desc148 : tab.desc 148 = Tryz.prog.underlying 148 := by kernel_rfl
theorem tab_info148 : tab.info 148 = some (3, 32, [.string ⟨#[]⟩, .int .i64 0, .bool false]) := by kernel_rfl
theorem tab_desc149 : tab.desc 149 = Tryz.prog.underlying 149 := by kernel_rfl
theorem tab_info149 : tab.info 149 = some (3, 32, [.string ⟨#[]⟩, .int .i64 0, .bool false]) := by kernel_rfl
theorem tab_desc150 : tab.desc 150 = Tryz.prog.underlying 150 := by kernel_rfl
theorem tab_info150 : tab.info 150 = some (1, 8, [.nilFunc]) := by kernel_rfl
theorem tab_desc151 : tab.desc 151 = Tryz.prog.underlying 151 := by kernel_rfl
theorem tab_info151 : tab.info 151 = some (1, 8, [.nilFunc]) := by kernel_rfl
theorem tab_desc152 : tab.desc 152 = Tryz.prog.underlying 152 := by kernel_rfl
theorem tab_info152 : tab.info 152 = some (0, 0, []) := by kernel_rfl
theorem tab_desc153 : tab.desc 153 = Tryz.prog.underlying 153 := by kernel_rfl
theorem tab_desc154 : tab.desc 154 = Tryz.prog.underlying 154 := by kernel_rfl
theorem tab_info154 : tab.info 154 = some (1, 8, [.nilFunc]) := by kernel_rfl
theorem tab_desc155 : tab.desc 155 = Tryz.prog.underlying 155 := by kernel_rfl
theorem tab_desc156 : tab.desc 156 = Tryz.prog.underlying 156 := by kernel_rfl
theorem tab_info156 : tab.info 156 = some (1, 8, [.nilFunc]) := by kernel_rfl
theorem tab_desc157 : tab.desc 157 = Tryz.prog.underlying 157 := by kernel_rfl
theorem tab_info157 : tab.info 157 = some (1, 8, [.nilFunc]) := by kernel_rfl
theorem tab_desc158 : tab.desc 158 = Tryz.prog.underlying 158 := by kernel_rfl
theorem tab_info158 : tab.info 158 = some (1, 8, [.nilFunc]) := by kernel_rfl
theorem tab_desc159 : tab.desc 159 = Tryz.prog.underlying 159 := by kernel_rfl
theorem tab_info159 : tab.info 159 = some (1, 8, [.nilFunc]) := by kernel_rfl
theorem tab_desc160 : tab.desc 160 = Tryz.prog.underlying 160 := by kernel_rfl
theorem tab_info160 : tab.info 160 = some (1, 8, [.map none]) := by kernel_rfl
theorem tab_desc161 : tab.desc 161 = Tryz.prog.underlying 161 := by kernel_rfl
theorem tab_info161 : tab.info 161 = some (1, 8, [.nilFunc]) := by kernel_rfl
theorem tab_desc162 : tab.desc 162 = Tryz.prog.underlying 162 := by kernel_rfl
theorem tab_info162 : tab.info 162 = some (2, 40, [.string ⟨#[]⟩, .slice none 0 0]) := by kernel_rfl
theorem tab_desc163 : tab.desc 163 = Tryz.prog.underlying 163 := by kernel_rfl
theorem tab_info163 : tab.info 163 = some (2, 40, [.string ⟨#[]⟩, .slice none 0 0]) := by kernel_rfl
theorem tab_desc164 : tab.desc 164 = Tryz.prog.underlying 164 := by kernel_rfl
theorem tab_info164 : tab.info 164 = some (1, 8, [.nilFunc]) := by kernel_rfl
theorem tab_desc165 : tab.desc 165 = Tryz.prog.underlying 165 := by kernel_rfl
theorem tab_info165 : tab.info 165 = some (1, 8, [.nilFunc]) := by kernel_rfl
theorem tab_desc166 : tab.desc 166 = Tryz.prog.underlying 166 := by kernel_rfl
theorem tab_info166 : tab.info 166 = some (1, 8, [.nilFunc]) := by kernel_rfl
theorem tab_desc167 : tab.desc 167 = Tryz.prog.underlying 167 := by kernel_rfl
theorem tab_info167 : tab.info 167 = some (1, 8, [.nilFunc]) := by kernel_rfl
theorem tab_desc168 : tab.desc 168 = Tryz.prog.underlying 168 := by kernel_rfl
theorem tab_desc169 : tab.desc 169 = Tryz.prog.underlying 169 := by kernel_rfl
theorem tab_info169 : tab.info 169 = some (1, 8, [.nilFunc]) := by kernel_rfl
theorem tab_desc170 : tab.desc 170 = Tryz.prog.underlying 170 := by kernel_rfl
theorem tab_info170 : tab.info 170 = some (1, 8, [.nilFunc]) := by kernel_rfl
theorem tab_desc171 : tab.desc 171 = Tryz.prog.underlying 171 := by kernel_rfl
theorem tab_info171 : tab.info 171 = some (1, 24, [.slice none 0 0]) := by kernel_rfl
theorem tab_desc172 : tab.desc 172 = Tryz.prog.underlying 172 := by kernel_rfl
theorem tab_info172 : tab.info 172 = some (1, 8, [.nilFunc]) := by kernel_rfl
theorem tab_desc173 : tab.desc 173 = Tryz.prog.underlying 173 := by kernel_rfl
theorem tab_info173 : tab.info 173 = some (1, 8, [.nilFunc]) := by kernel_rfl
theorem tab_desc174 : tab.desc 174 = Tryz.prog.underlying 174 := by kernel_rfl
theorem tab_info174 : tab.info 174 = some (1, 8, [.nilFunc]) := by kernel_rfl
theorem tab_desc175 : tab.desc 175 = Tryz.prog.underlying 175 := by kernel_rfl
theorem tab_info175 : tab.info 175 = some (1, 8, [.map none]) := by kernel_rfl
theorem tab_desc176 : tab.desc 176 = Tryz.prog.underlying 176 := by kernel_rfl
theorem tab_info176 : tab.info 176 = some (1, 8, [.map none]) := by kernel_rfl
theorem tab_desc177 : tab.desc 177 = Tryz.prog.underlying 177 := by kernel_rfl
theorem tab_info177 : tab.info 177 = some (1, 24, [.slice none 0 0]) := by kernel_rfl
theorem tab_desc178 : tab.desc 178 = Tryz.prog.underlying 178 := by kernel_rfl
theorem tab_info178 : tab.info 178 = some (3, 40, [.map none, .slice none 0 0, .int .i64 0]) := by kernel_rfl
theorem tab_desc179 : tab.desc 179 = Tryz.prog.underlying 179 := by kernel_rfl
theorem tab_info179 : tab.info 179 = some (3, 40, [.map none, .slice none 0 0, .int .i64 0]) := by kernel_rfl
theorem tab_desc180 : tab.desc 180 = Tryz.prog.underlying 180 := by kernel_rfl
theorem tab_desc181 : tab.desc 181 = Tryz.prog.underlying 181 := by kernel_rfl
theorem tab_info181 : tab.info 181 = some (1, 8, [.nilFunc]) := by kernel_rfl
theorem tab_desc182 : tab.desc 182 = Tryz.prog.underlying 182 := by kernel_rfl
theorem tab_desc183 : tab.desc 183 = Tryz.prog.underlying 183 := by kernel_rfl
theorem tab_info183 : tab.info 183 = some (1, 8, [.nilFunc]) := by kernel_rfl
theorem tab_desc184 : tab.desc 184 = Tryz.prog.underlying 184 := by kernel_rfl
theorem tab_info184 : tab.info 184 = some (1, 8, [.nilFunc]) := by kernel_rfl
theorem tab_desc185 : tab.desc 185 = Tryz.prog.underlying 185 := by kernel_rfl
theorem tab_info185 : tab.info 185 = some (1, 8, [.nilFunc]) := by kernel_rfl
theorem tab_desc186 : tab.desc 186 = Tryz.prog.underlying 186 := by kernel_rfl
theorem tab_info186 : tab.info 186 = some (1, 24, [.slice none 0 0]) := by kernel_rfl
theorem tab_desc187 : tab.desc 187 = Tryz.prog.underlying 187 := by kernel_rfl
theorem tab_desc188 : tab.desc 188 = Tryz.prog.underlying 188 := by kernel_rfl
theorem tab_info188 : tab.info 188 = some (1, 8, [.nilFunc]) := by kernel_rfl
theorem tab_desc189 : tab.desc 189 = Tryz.prog.underlying 189 := by kernel_rfl
theorem tab_info189 : tab.info 189 = some (1, 8, [.nilFunc]) := by kernel_rfl
theorem tab_desc190 : tab.desc 190 = Tryz.prog.underlying 190 := by kernel_rfl
theorem tab_info190 : tab.info 190 = some (1, 8, [.pointer none]) := by kernel_rfl
theorem tab_desc191 : tab.desc 191 = Tryz.prog.underlying 191 := by kernel_rfl
theorem tab_info191 : tab.info 191 = some (17, 200, [.int .i64 0, .int .i64 0, .int .i64 0, .slice none 0 0, .string ⟨#[]⟩, .string ⟨#[]⟩, .int .i64 0, .bool false, .string ⟨#[]⟩, .bool false, .string ⟨#[]⟩, .bool false, .string ⟨#[]⟩, .bool false, .string ⟨#[]⟩, .int .i64 0, .int .i64 0]) := by kernel_rfl
theorem tab_desc192 : tab.desc 192 = Tryz.prog.underlying 192 := by kernel_rfl
theorem tab_info192 : tab.info 192 = some (17, 200, [.int .i64 0, .int .i64 0, .int .i64 0, .slice none 0 0, .string ⟨#[]⟩, .string ⟨#[]⟩, .int .i64 0, .bool false, .string ⟨#[]⟩, .bool false, .string ⟨#[]⟩, .bool false, .string ⟨#[]⟩, .bool false, .string ⟨#[]⟩, .int .i64 0, .int .i64 0]) := by kernel_rfl
theorem tab_desc193 : tab.desc 193 = Tryz.prog.underlying 193 := by kernel_rfl
theorem tab_info193 : tab.info 193 = some (1, 8, [.map none]) := by kernel_rfl
theorem tab_desc194 : tab.desc 194 = Tryz.prog.underlying 194 := by kernel_rfl
theorem tab_info194 : tab.info 194 = some (1, 8, [.nilFunc]) := by kernel_rfl
theorem tab_desc195 : tab.desc 195 = Tryz.prog.underlying 195 := by kernel_rfl
theorem tab_info195 : tab.info 195 = some (1, 8, [.nilFunc]) := by kernel_rfl
theorem tab_desc196 : tab.desc 196 = Tryz.prog.underlying 196 := by kernel_rfl
theorem tab_info196 : tab.info 196 = some (1, 8, [.nilFunc]) := by kernel_rfl
theorem tab_desc197 : tab.desc 197 = Tryz.prog.underlying 197 := by kernel_rfl
theorem tab_desc198 : tab.desc 198 = Tryz.prog.underlying 198 := by kernel_rfl
theorem tab_info198 : tab.info 198 = some (1, 8, [.nilFunc]) := by kernel_rfl
theorem tab_desc199 : tab.desc 199 = Tryz.prog.underlying 199 := by kernel_rfl
theorem tab_info199 : tab.info 199 = some (1, 8, [.pointer none]) := by kernel_rfl
theorem tab_desc200 : tab.desc 200 = Tryz.prog.underlying 200 := by kernel_rfl
theorem tab_info200 : tab.info 200 = some (1, 8, [.nilFunc]) := by kernel_rfl
theorem tab_desc201 : tab.desc 201 = Tryz.prog.underlying 201 := by kernel_rfl
theorem tab_info201 : tab.info 201 = some (14, 192, [.string ⟨#[]⟩, .string ⟨#[]⟩, .int .i64 0, .bool false, .string ⟨#[]⟩, .bool false, .string ⟨#[]⟩, .bool false, .string ⟨#[]⟩, .bool false, .string ⟨#[]⟩, .slice none 0 0, .map none, .slice none 0 0]) := by kernel_rfl
theorem tab_desc202 : tab.desc 202 = Tryz.prog.underlying 202 := by kernel_rfl
theorem tab_info202 : tab.info 202 = some (14, 192, [.string ⟨#[]⟩, .string ⟨#[]⟩, .int .i64 0, .bool false, .string ⟨#[]⟩, .bool false, .string ⟨#[]⟩, .bool false, .string ⟨#[]⟩, .bool false, .string ⟨#[]⟩, .slice none 0 0, .map none, .slice none 0 0]) := by kernel_rfl
theorem tab_desc203 : tab.desc 203 = Tryz.prog.underlying 203 := by kernel_rfl
theorem tab_info203 : tab.info 203 = some (13, 176, [.string ⟨#[]⟩, .string ⟨#[]⟩, .int .i64 0, .bool false, .string ⟨#[]⟩, .bool false, .string ⟨#[]⟩, .bool false, .string ⟨#[]⟩, .bool false, .string ⟨#[]⟩, .slice none 0 0, .string ⟨#[]⟩]) := by kernel_rfl
theorem tab_desc204 : tab.desc 204 = Tryz.prog.underlying 204 := by kernel_rfl
theorem tab_info204 : tab.info 204 = some (13, 176, [.string ⟨#[]⟩, .string ⟨#[]⟩, .int .i64 0, .bool false, .string ⟨#[]⟩, .bool false, .string ⟨#[]⟩, .bool false, .string ⟨#[]⟩, .bool false, .string ⟨#[]⟩, .slice none 0 0, .string ⟨#[]⟩]) := by kernel_rfl
theorem tab_desc205 : tab.desc 205 = Tryz.prog.underlying 205 := by kernel_rfl
theorem tab_info205 : tab.info 205 = some (1, 8, [.nilFunc]) := by kernel_rfl
theorem tab_desc206 : tab.desc 206 = Tryz.prog.underlying 206 := by kernel_rfl
theorem tab_info206 : tab.info 206 = some (1, 8, [.nilFunc]) := by kernel_rfl
theorem tab_desc207 : tab.desc 207 = Tryz.prog.underlying 207 := by kernel_rfl
theorem tab_info207 : tab.info 207 = some (1, 8, [.nilFunc]) := by kernel_rfl
theorem tab_desc208 : tab.desc 208 = Tryz.prog.underlying 208 := by kernel_rfl
theorem tab_desc209 : tab.desc 209 = Tryz.prog.underlying 209 := by kernel_rfl
theorem tab_info209 : tab.info 209 = some (1, 8, [.nilFunc]) := by kernel_rfl
theorem tab_desc210 : tab.desc 210 = Tryz.prog.underlying 210 := by kernel_rfl
theorem tab_info210 : tab.info 210 = some (1, 8, [.nilFunc]) := by kernel_rfl
theorem tab_desc211 : tab.desc 211 = Tryz.prog.underlying 211 := by kernel_rfl
theorem tab_info211 : tab.info 211 = some (1, 8, [.nilFunc]) := by kernel_rfl
theorem tab_desc212 : tab.desc 212 = Tryz.prog.underlying 212 := by kernel_rfl
theorem tab_info212 : tab.info 212 = some (1, 8, [.int .u64 0]) := by kernel_rfl
theorem tab_desc213 : tab.desc 213 = Tryz.prog.underlying 213 := by kernel_rfl
theorem tab_info213 : tab.info 213 = some (1, 8, [.nilFunc]) := by kernel_rfl
theorem tab_desc214 : tab.desc 214 = Tryz.prog.underlying 214 := by kernel_rfl
theorem tab_info214 : tab.info 214 = some (1, 8, [.nilFunc]) := by kernel_rfl
theorem tab_desc215 : tab.desc 215 = Tryz.prog.underlying 215 := by kernel_rfl
theorem tab_info215 : tab.info 215 = some (1, 8, [.nilFunc]) := by kernel_rfl
theorem tab_desc216 : tab.desc 216 = Tryz.prog.underlying 216 := by kernel_rfl
theorem tab_info216 : tab.info 216 = some (1, 8, [.nilFunc]) := by kernel_rfl
theorem tab_desc217 : tab.desc 217 = Tryz.prog.underlying 217 := by kernel_rfl
theorem tab_desc218 : tab.desc 218 = Tryz.prog.underlying 218 := by kernel_rfl
theorem tab_info218 : tab.info 218 = some (1, 8, [.nilFunc]) := by kernel_rfl
theorem tab_desc219 : tab.desc 219 = Tryz.prog.underlying 219 := by kernel_rfl
theorem tab_info219 : tab.info 219 = some (1, 24, [.slice none 0 0]) := by kernel_rfl
theorem tab_desc220 : tab.desc 220 = Tryz.prog.underlying 220 := by kernel_rfl
theorem tab_info220 : tab.info 220 = some (1, 8, [.pointer none]) := by kernel_rfl
theorem tab_desc221 : tab.desc 221 = Tryz.prog.underlying 221 := by kernel_rfl
theorem tab_info221 : tab.info 221 = some (1, 8, [.pointer none]) := by kernel_rfl
theorem tab_desc222 : tab.desc 222 = Tryz.prog.underlying 222 := by kernel_rfl
theorem tab_desc223 : tab.desc 223 = Tryz.prog.underlying 223 := by kernel_rfl
theorem tab_info223 : tab.info 223 = some (1, 8, [.nilFunc]) := by kernel_rfl
theorem tab_desc224 : tab.desc 224 = Tryz.prog.underlying 224 := by kernel_rfl
theorem tab_info224 : tab.info 224 = some (1, 8, [.nilFunc]) := by kernel_rfl
theorem tab_desc225 : tab.desc 225 = Tryz.prog.underlying 225 := by kernel_rfl
theorem tab_info225 : tab.info 225 = some (1, 8, [.int .u64 0]) := by kernel_rfl
theorem tab_desc226 : tab.desc 226 = Tryz.prog.underlying 226 := by kernel_rfl
theorem tab_info226 : tab.info 226 = some (1, 8, [.nilFunc]) := by kernel_rfl
theorem tab_desc227 : tab.desc 227 = Tryz.prog.underlying 227 := by kernel_rfl
theorem tab_info227 : tab.info 227 = some (1, 8, [.nilFunc]) := by kernel_rfl
theorem tab_desc228 : tab.desc 228 = Tryz.prog.underlying 228 := by kernel_rfl
theorem tab_info228 : tab.info 228 = some (1, 8, [.nilFunc]) := by kernel_rfl
theorem tab_desc229 : tab.desc 229 = Tryz.prog.underlying 229 := by kernel_rfl
theorem tab_info229 : tab.info 229 = some (1, 8, [.nilFunc]) := by kernel_rfl
theorem tab_desc230 : tab.desc 230 = Tryz.prog.underlying 230 := by kernel_rfl
theorem tab_info230 : tab.info 230 = some (1, 8, [.nilFunc]) := by kernel_rfl
theorem tab_desc231 : tab.desc 231 = Tryz.prog.underlying 231 := by kernel_rfl
theorem tab_info231 : tab.info 231 = some (1, 8, [.nilFunc]) := by kernel_rfl
theorem tab_desc232 : tab.desc 232 = Tryz.prog.underlying 232 := by kernel_rfl
theorem tab_info232 : tab.info 232 = some (1, 8, [.nilFunc]) := by kernel_rfl
theorem tab_desc233 : tab.desc 233 = Tryz.prog.underlying 233 := by kernel_rfl
theorem tab_desc234 : tab.desc 234 = Tryz.prog.underlying 234 := by kernel_rfl
theorem tab_info234 : tab.info 234 = some (1, 8, [.nilFunc]) := by kernel_rfl
theorem tab_desc235 : tab.desc 235 = Tryz.prog.underlying 235 := by kernel_rfl
theorem tab_info235 : tab.info 235 = some (1, 8, [.nilFunc]) := by kernel_rfl
theorem tab_desc236 : tab.desc 236 = Tryz.prog.underlying 236 := by kernel_rfl
theorem tab_info236 : tab.info 236 = some (1, 8, [.nilFunc]) := by kernel_rfl
theorem tab_desc237 : tab.desc 237 = Tryz.prog.underlying 237 := by kernel_rfl
theorem tab_info237 : tab.info 237 = some (1, 8, [.nilFunc]) := by kernel_rfl
theorem tab_desc238 : tab.desc 238 = Tryz.prog.underlying 238 := by kernel_rfl
theorem tab_info238 : tab.info 238 = some (1, 8, [.nilFunc]) := by kernel_rfl
theorem tab_desc239 : tab.desc 239 = Tryz.prog.underlying 239 := by kernel_rfl
theorem tab_info239 : tab.info 239 = some (1, 8, [.nilFunc]) := by kernel_rfl
theorem tab_desc240 : tab.desc 240 = Tryz.prog.underlying 240 := by kernel_rfl
theorem tab_info240 : tab.info 240 = some (1, 8, [.nilFunc]) := by kernel_rfl
theorem tab_desc241 : tab.desc 241 = Tryz.prog.underlying 241 := by kernel_rfl
theorem tab_info241 : tab.info 241 = some (1, 8, [.nilFunc]) := by kernel_rfl
theorem tab_desc242 : tab.desc 242 = Tryz.prog.underlying 242 := by kernel_rfl
theorem tab_info242 : tab.info 242 = some (1, 8, [.nilFunc]) := by kernel_rfl
theorem tab_desc243 : tab.desc 243 = Tryz.prog.underlying 243 := by kernel_rfl
theorem tab_info243 : tab.info 243 = some (3, 40, [.string ⟨#[]⟩, .bool false, .string ⟨#[]⟩]) := by kernel_rfl
theorem tab_desc244 : tab.desc 244 = Tryz.prog.underlying 244 := by kernel_rfl
theorem tab_info244 : tab.info 244 = some (3, 40, [.string ⟨#[]⟩, .bool false, .string ⟨#[]⟩]) := by kernel_rfl
theorem tab_desc245 : tab.desc 245 = Tryz.prog.underlying 245 := by kernel_rfl
theorem tab_info245 : tab.info 245 = some (1, 8, [.nilFunc]) := by kernel_rfl
theorem tab_desc246 : tab.desc 246 = Tryz.prog.underlying 246 := by kernel_rfl
theorem tab_info246 : tab.info 246 = some (1, 8, [.nilFunc]) := by kernel_rfl
theorem tab_desc247 : tab.desc 247 = Tryz.prog.underlying 247 := by kernel_rfl
theorem tab_desc248 : tab.desc 248 = Tryz.prog.underlying 248 := by kernel_rfl
theorem tab_info248 : tab.info 248 = some (1, 8, [.nilFunc]) := by kernel_rfl
theorem tab_desc249 : tab.desc 249 = Tryz.prog.underlying 249 := by kernel_rfl
theorem tab_info249 : tab.info 249 = some (1, 8, [.nilFunc]) := by kernel_rfl
theorem tab_desc250 : tab.desc 250 = Tryz.prog.underlying 250 := by kernel_rfl
theorem tab_info250 : tab.info 250 = some (1, 8, [.nilFunc]) := by kernel_rfl
theorem tab_desc251 : tab.desc 251 = Tryz.prog.underlying 251 := by kernel_rfl
theorem tab_info251 : tab.info 251 = some (1, 8, [.nilFunc]) := by kernel_rfl
theorem tab_desc252 : tab.desc 252 = Tryz.prog.underlying 252 := by kernel_rfl
theorem tab_info252 : tab.info 252 = some (1, 8, [.nilFunc]) := by kernel_rfl
theorem tab_desc253 : tab.desc 253 = Tryz.prog.underlying 253 := by kernel_rfl
theorem tab_info253 : tab.info 253 = some (1, 8, [.nilFunc]) := by kernel_rfl
theorem tab_desc254 : tab.desc 254 = Tryz.prog.underlying 254 := by kernel_rfl
theorem tab_info254 : tab.info 254 = some (1, 8, [.nilFunc]) := by kernel_rfl
theorem tab_desc255 : tab.desc 255 = Tryz.prog.underlying 255 := by kernel_rfl
theorem tab_info255 : tab.info 255 = some (1, 8, [.nilFunc]) := by kernel_rfl
theorem tab_desc256 : tab.desc 256 = Tryz.prog.underlying 256 := by kernel_rfl
theorem tab_info256 : tab.info 256 = some (1, 8, [.nilFunc]) := by kernel_rfl
theorem tab_desc257 : tab.desc 257 = Tryz.prog.underlying 257 := by kernel_rfl
theorem tab_info257 : tab.info 257 = some (1, 8, [.nilFunc]) := by kernel_rfl
theorem tab_desc258 : tab.desc 258 = Tryz.prog.underlying 258 := by kernel_rfl
theorem tab_info258 : tab.info 258 = some (2, 32, [.slice none 0 0, .map none]) := by kernel_rfl
theorem tab_desc259 : tab.desc 259 = Tryz.prog.underlying 259 := by kernel_rfl
theorem tab_info259 : tab.info 259 = some (2, 32, [.slice none 0 0, .map none]) := by kernel_rfl
theorem tab_desc260 : tab.desc 260 = Tryz.prog.underlying 260 := by kernel_rfl
theorem tab_info260 : tab.info 260 = some (4, 64, [.slice none 0 0, .map none, .slice none 0 0, .map none]) := by kernel_rfl
theorem tab_desc261 : tab.desc 261 = Tryz.prog.underlying 261 := by kernel_rfl
theorem tab_info261 : tab.info 261 = some (4, 64, [.slice none 0 0, .map none, .slice none 0 0, .map none]) := by kernel_rfl
theorem tab_desc262 : tab.desc 262 = Tryz.prog.underlying 262 := by kernel_rfl
theorem tab_info262 : tab.info 262 = some (1, 8, [.nilFunc]) := by kernel_rfl
theorem tab_desc263 : tab.desc 263 = Tryz.prog.underlying 263 := by kernel_rfl
theorem tab_info263 : tab.info 263 = some (1, 8, [.nilFunc]) := by kernel_rfl
theorem tab_desc264 : tab.desc 264 = Tryz.prog.underlying 264 := by kernel_rfl
theorem tab_info264 : tab.info 264 = some (1, 8, [.nilFunc]) := by kernel_rfl
theorem tab_desc265 : tab.desc 265 = Tryz.prog.underlying 265 := by kernel_rfl
theorem tab_info265 : tab.info 265 = some (1, 8, [.nilFunc]) := by kernel_rfl
theorem tab_desc266 : tab.desc 266 = Tryz.prog.underlying 266 := by kernel_rfl
theorem tab_info266 : tab.info 266 = some (1, 8, [.nilFunc]) := by kernel_rfl
theorem tab_desc267 : tab.desc 267 = Tryz.prog.underlying 267 := by kernel_rfl
theorem tab_info267 : tab.info 267 = some (1, 8, [.pointer none]) := by kernel_rfl
theorem tab_desc268 : tab.desc 268 = Tryz.prog.underlying 268 := by kernel_rfl
theorem tab_info268 : tab.info 268 = some (1, 8, [.nilFunc]) := by kernel_rfl
theorem tab_desc269 : tab.desc 269 = Tryz.prog.underlying 269 := by kernel_rfl
theorem tab_info269 : tab.info 269 = some (1, 8, [.nilFunc]) := by kernel_rfl
theorem tab_desc270 : tab.desc 270 = Tryz.prog.underlying 270 := by kernel_rfl
theorem tab_info270 : tab.info 270 = some (1, 8, [.nilFunc]) := by kernel_rfl
theorem tab_desc271 : tab.desc 271 = Tryz.prog.underlying 271 := by kernel_rfl
theorem tab_info271 : tab.info 271 = some (1, 8, [.nilFunc]) := by kernel_rfl
theorem tab_desc272 : tab.desc 272 = Tryz.prog.underlying 272 := by kernel_rfl
theorem tab_info272 : tab.info 272 = some (1, 8, [.nilFunc]) := by kernel_rfl
theorem tab_desc273 : tab.desc 273 = Tryz.prog.underlying 273 := by kernel_rfl
theorem tab_info273 : tab.info 273 = some (1, 8, [.nilFunc]) := by kernel_rfl
theorem tab_desc274 : tab.desc 274 = Tryz.prog.underlying 274 := by kernel_rfl
theorem tab_info274 : tab.info 274 = some (1, 8, [.nilFunc]) := by kernel_rfl
theorem tab_desc275 : tab.desc 275 = Tryz.prog.underlying 275 := by kernel_rfl
theorem tab_info275 : tab.info 275 = some (1, 8, [.nilFunc]) := by kernel_rfl
theorem tab_desc276 : tab.desc 276 = Tryz.prog.underlying 276 := by kernel_rfl
theorem tab_info276 : tab.info 276 = some (1, 8, [.nilFunc]) := by kernel_rfl
theorem tab_desc277 : tab.desc 277 = Tryz.prog.underlying 277 := by kernel_rfl
theorem tab_info277 : tab.info 277 = some (1, 8, [.pointer none]) := by kernel_rfl
theorem tab_desc278 : tab.desc 278 = Tryz.prog.underlying 278 := by kernel_rfl
theorem tab_info278 : tab.info 278 = some (2, 32, [.pointer none, .slice none 0 0]) := by kernel_rfl
theorem tab_desc279 : tab.desc 279 = Tryz.prog.underlying 279 := by kernel_rfl
theorem tab_info279 : tab.info 279 = some (2, 32, [.pointer none, .slice none 0 0]) := by kernel_rfl
theorem tab_desc280 : tab.desc 280 = Tryz.prog.underlying 280 := by kernel_rfl
theorem tab_info280 : tab.info 280 = some (1, 16, [.nilIface]) := by kernel_rfl
theorem tab_desc281 : tab.desc 281 = Tryz.prog.underlying 281 := by kernel_rfl
theorem tab_info281 : tab.info 281 = some (1, 16, [.nilIface]) := by kernel_rfl
theorem tab_desc282 : tab.desc 282 = Tryz.prog.underlying 282 := by kernel_rfl
theorem tab_desc283 : tab.desc 283 = Tryz.prog.underlying 283 := by kernel_rfl
theorem tab_info283 : tab.info 283 = some (1, 8, [.nilFunc]) := by kernel_rfl
theorem tab_desc284 : tab.desc 284 = Tryz.prog.underlying 284 := by kernel_rfl
theorem tab_info284 : tab.info 284 = some (1, 8, [.nilFunc]) := by kernel_rfl
theorem tab_desc285 : tab.desc 285 = Tryz.prog.underlying 285 := by kernel_rfl
theorem tab_info285 : tab.info 285 = some (1, 8, [.nilFunc]) := by kernel_rfl
theorem tab_desc286 : tab.desc 286 = Tryz.prog.underlying 286 := by kernel_rfl
theorem tab_info286 : tab.info 286 = some (24, 24, [.int .u8 0, .int .u8 0, .int .u8 0, .int .u8 0, .int .u8 0, .int .u8 0, .int .u8 0, .int .u8 0, .int .u8 0, .int .u8 0, .int .u8 0, .int .u8 0, .int .u8 0, .int .u8 0, .int .u8 0, .int .u8 0, .int .u8 0, .int .u8 0, .int .u8 0, .int .u8 0, .int .u8 0, .int .u8 0, .int .u8 0, .int .u8 0]) := by kernel_rfl
theorem tab_desc287 : tab.desc 287 = Tryz.prog.underlying 287 := by kernel_rfl
theorem tab_info287 : tab.info 287 = some (1, 8, [.nilFunc]) := by kernel_rfl
theorem tab_desc288 : tab.desc 288 = Tryz.prog.underlying 288 := by kernel_rfl
theorem tab_info288 : tab.info 288 = some (1, 8, [.nilFunc]) := by kernel_rfl
theorem tab_desc289 : tab.desc 289 = Tryz.prog.underlying 289 := by kernel_rfl
theorem tab_desc290 : tab.desc 290 = Tryz.prog.underlying 290 := by kernel_rfl
theorem tab_info290 : tab.info 290 = some (1, 8, [.nilFunc]) := by kernel_rfl
theorem tab_desc291 : tab.desc 291 = Tryz.prog.underlying 291 := by kernel_rfl
theorem tab_info291 : tab.info 291 = some (1, 8, [.pointer none]) := by kernel_rfl
theorem tab_desc292 : tab.desc 292 = Tryz.prog.underlying 292 := by kernel_rfl
theorem tab_info292 : tab.info 292 = some (256, 256, [.int .u8 0, .int .u8 0, .int .u8 0, .int .u8 0, .int .u8 0, .int .u8 0, .int .u8 0, .int .u8 0, .int .u8 0, .int .u8 0, .int .u8 0, .int .u8 0, .int .u8 0, .int .u8 0, .int .u8 0, .int .u8 0, .int .u8 0, .int .u8 0, .int .u8 0, .int .u8 0, .int .u8 0, .int .u8 0, .int .u8 0, .int .u8 0, .int .u8 0, .int .u8 0, .int .u8 0, .int .u8 0, .int .u8 0, .int .u8 0, .int .u8 0, .int .u8 0, .int .u8 0, .int .u8 0, .int .u8 0, .int .u8 0, .int .u8 0, .int .u8 0, .int .u8 0, .int .u8 0, .int .u8 0, .int .u8 0, .int .u8 0, .int .u8 0, .int .u8 0, .int .u8 0, .int .u8 0, .int .u8 0, .int .u8 0, .int .u8 0, .int .u8 0, .int .u8 0, .int .u8 0, .int .u8 0, .int .u8 0, .int .u8 0, .int .u8 0, .int .u8 0, .int .u8 0, .int .u8 0, .int .u8 0, .int .u8 0, .int .u8 0, .int .u8 0, .int .u8 0, .int .u8 0, .int .u8 0, .int .u8 0, .int .u8 0, .int .u8 0, .int .u8 0, .int .u8 0, .int .u8 0, .int .u8 0, .int .u8 0, .int .u8 0, .int .u8 0, .int .u8 0, .int .u8 0, .int .u8 0, .int .u8 0, .int .u8 0, .int .u8 0, .int .u8 0, .int .u8 0, .int .u8 0, .int .u8 0, .int .u8 0, .int .u8 0, .int .u8 0, .int .u8 0, .int .u8 0, .int .u8 0, .int .u8 0, .int .u8 0, .int .u8 0, .int .u8 0, .int .u8 0, .int .u8 0, .int .u8 0, .int .u8 0, .int .u8 0, .int .u8 0, .int .u8 0, .int .u8 0, .int .u8 0, .int .u8 0, .int .u8 0, .int .u8 0, .int .u8 0, .int .u8 0, .int .u8 0, .int .u8 0, .int .u8 0, .int .u8 0, .int .u8 0, .int .u8 0, .int .u8 0, .int .u8 0, .int .u8 0, .int .u8 0, .int .u8 0, .int .u8 0, .int .u8 0, .int .u8 0, .int .u8 0, .int .u8 0, .int .u8 0, .int .u8 0, .int .u8 0, .int .u8 0, .int .u8 0, .int .u8 0, .int .u8 0, .int .u8 0, .int .u8 0, .int .u8 0, .int .u8 0, .int .u8 0, .int .u8 0, .int .u8 0, .int .u8 0, .int .u8 0, .int .u8 0, .int .u8 0, .int .u8 0, .int .u8 0, .int .u8 0, .int .u8 0, .int .u8 0, .int .u8 0, .int .u8 0, .int .u8 0, .int .u8 0, .int .u8 0, .int .u8 0, .int .u8 0, .int .u8 0, .int .u8 0, .int .u8 0, .int .u8 0, .int .u8 0, .int .u8 0, .int .u8 0, .int .u8 0, .int .u8 0, .int .u8 0, .int .u8 0, .int .u8 0, .int .u8 0, .int .u8 0, .int .u8 0, .int .u8 0, .int .u8 0, .int .u8 0, .int .u8 0, .int .u8 0, .int .u8 0, .int .u8 0, .int .u8 0, .int .u8 0, .int .u8 0, .int .u8 0, .int .u8 0, .int .u8 0, .int .u8 0, .int .u8 0, .int .u8 0, .int .u8 0, .int .u8 0, .int .u8 0, .int .u8 0, .int .u8 0, .int .u8 0, .int .u8 0, .int .u8 0, .int .u8 0, .int .u8 0, .int .u8 0, .int .u8 0, .int .u8 0, .int .u8 0, .int .u8 0, .int .u8 0, .int .u8 0, .int .u8 0, .int .u8 0, .int .u8 0, .int .u8 0, .int .u8 0, .int .u8 0, .int .u8 0, .int .u8 0, .int .u8 0, .int .u8 0, .int .u8 0, .int .u8 0, .int .u8 0, .int .u8 0, .int .u8 0, .int .u8 0, .int .u8 0, .int .u8 0, .int .u8 0, .int .u8 0, .int .u8 0, .int .u8 0, .int .u8 0, .int .u8 0, .int .u8 0, .int .u8 0, .int .u8 0, .int .u8 0, .int .u8 0, .int .u8 0, .int .u8 0, .int .u8 0, .int .u8 0, .int .u8 0, .int .u8 0, .int .u8 0, .int .u8 0, .int .u8 0, .int .u8 0, .int .u8 0, .int .u8 0, .int .u8 0, .int .u8 0, .int .u8 0, .int .u8 0, .int .u8 0, .int .u8 0, .int .u8 0, .int .u8 0, .int .u8 0, .int .u8 0]) := by kernel_rfl
theorem tab_desc293 : tab.desc 293 = Tryz.prog.underlying 293 := by kernel_rfl
theorem tab_info293 : tab.info 293 = some (1, 8, [.nilFunc]) := by kernel_rfl
theorem tab_desc294 : tab.desc 294 = Tryz.prog.underlying 294 := by kernel_rfl
theorem tab_info294 : tab.info 294 = some (1, 8, [.nilFunc]) := by kernel_rfl
theorem tab_desc295 : tab.desc 295 = Tryz.prog.underlying 295 := by kernel_rfl
theorem tab_info295 : tab.info 295 = some (1, 8, [.nilFunc]) := by kernel_rfl
theorem tab_desc296 : tab.desc 296 = Tryz.prog.underlying 296 := by kernel_rfl
theorem tab_info296 : tab.info 296 = some (1, 8, [.nilFunc]) := by kernel_rfl
theorem tab_desc297 : tab.desc 297 = Tryz.prog.underlying 297 := by kernel_rfl
theorem tab_info297 : tab.info 297 = some (20, 160, [.int .u64 0, .int .u64 0, .int .u64 0, .int .u64 0, .int .u64 0, .int .u64 0, .int .u64 0, .int .u64 0, .int .u64 0, .int .u64 0, .int .u64 0, .int .u64 0, .int .u64 0, .int .u64 0, .int .u64 0, .int .u64 0, .int .u64 0, .int .u64 0, .int .u64 0, .int .u64 0]) := by kernel_rfl
theorem tab_desc298 : tab.desc 298 = Tryz.prog.underlying 298 := by kernel_rfl
theorem tab_info298 : tab.info 298 = some (65, 65, [.int .u8 0, .int .u8 0, .int .u8 0, .int .u8 0, .int .u8 0, .int .u8 0, .int .u8 0, .int .u8 0, .int .u8 0, .int .u8 0, .int .u8 0, .int .u8 0, .int .u8 0, .int .u8 0, .int .u8 0, .int .u8 0, .int .u8 0, .int .u8 0, .int .u8 0, .int .u8 0, .int .u8 0, .int .u8 0, .int .u8 0, .int .u8 0, .int .u8 0, .int .u8 0, .int .u8 0, .int .u8 0, .int .u8 0, .int .u8 0, .int .u8 0, .int .u8 0, .int .u8 0, .int .u8 0, .int .u8 0, .int .u8 0, .int .u8 0, .int .u8 0, .int .u8 0, .int .u8 0, .int .u8 0, .int .u8 0, .int .u8 0, .int .u8 0, .int .u8 0, .int .u8 0, .int .u8 0, .int .u8 0, .int .u8 0, .int .u8 0, .int .u8 0, .int .u8 0, .int .u8 0, .int .u8 0, .int .u8 0, .int .u8 0, .int .u8 0, .int .u8 0, .int .u8 0, .int .u8 0, .int .u8 0, .int .u8 0, .int .u8 0, .int .u8 0, .int .u8 0]) := by kernel_rfl
theorem tab_desc299 : tab.desc 299 = Tryz.prog.underlying 299 := by kernel_rfl
theorem tab_info299 : tab.info 299 = some (1, 8, [.nilFunc]) := by kernel_rfl
theorem tab_desc300 : tab.desc 300 = Tryz.prog.underlying 300 := by kernel_rfl
theorem tab_info300 : tab.info 300 = some (1, 8, [.nilFunc]) := by kernel_rfl
theorem tab_desc301 : tab.desc 301 = Tryz.prog.underlying 301 := by kernel_rfl
theorem tab_info301 : tab.info 301 = some (1, 8, [.pointer none]) := by kernel_rfl
theorem tab_desc302 : tab.desc 302 = Tryz.prog.underlying 302 := by kernel_rfl
theorem tab_info302 : tab.info 302 = some (1, 8, [.nilFunc]) := by kernel_rfl
theorem tab_desc303 : tab.desc 303 = Tryz.prog.underlying 303 := by kernel_rfl
theorem tab_info303 : tab.info 303 = some (1, 8, [.nilFunc]) := by kernel_rfl
theorem tab_desc304 : tab.desc 304 = Tryz.prog.underlying 304 := by kernel_rfl
theorem tab_info304 : tab.info 304 = some (1, 24, [.slice none 0 0]) := by kernel_rfl
theorem tab_desc305 : tab.desc 305 = Tryz.prog.underlying 305 := by kernel_rfl
theorem tab_info305 : tab.info 305 = some (2, 16, [.int .i64 0, .int .i64 0]) := by kernel_rfl
theorem tab_desc306 : tab.desc 306 = Tryz.prog.underlying 306 := by kernel_rfl
theorem tab_info306 : tab.info 306 = some (2, 16, [.int .i64 0, .int .i64 0]) := by kernel_rfl
theorem tab_desc307 : tab.desc 307 = Tryz.prog.underlying 307 := by kernel_rfl
theorem tab_info307 : tab.info 307 = some (1, 8, [.nilFunc]) := by kernel_rfl
theorem tab_desc308 : tab.desc 308 = Tryz.prog.underlying 308 := by kernel_rfl
theorem tab_info308 : tab.info 308 = some (1, 8, [.pointer none]) := by kernel_rfl
theorem tab_desc309 : tab.desc 309 = Tryz.prog.underlying 309 := by kernel_rfl
theorem tab_info309 : tab.info 309 = some (1, 8, [.nilFunc]) := by kernel_rfl
theorem tab_desc310 : tab.desc 310 = Tryz.prog.underlying 310 := by kernel_rfl
theorem tab_info310 : tab.info 310 = some (1, 24, [.slice none 0 0]) := by kernel_rfl
theorem tab_desc311 : tab.desc 311 = Tryz.prog.underlying 311 := by kernel_rfl
theorem tab_info311 : tab.info 311 = some (1, 24, [.slice none 0 0]) := by kernel_rfl
theorem tab_desc312 : tab.desc 312 = Tryz.prog.underlying 312 := by kernel_rfl
theorem tab_info312 : tab.info 312 = some (3, 56, [.slice none 0 0, .slice none 0 0, .int .i64 0]) := by kernel_rfl
theorem tab_desc313 : tab.desc 313 = Tryz.prog.underlying 313 := by kernel_rfl
theorem tab_info313 : tab.info 313 = some (3, 56, [.slice none 0 0, .slice none 0 0, .int .i64 0]) := by kernel_rfl
theorem tab_desc314 : tab.desc 314 = Tryz.prog.underlying 314 := by kernel_rfl
theorem tab_info314 : tab.info 314 = some (1, 2, [.int .u16 0]) := by kernel_rfl
theorem tab_desc315 : tab.desc 315 = Tryz.prog.underlying 315 := by kernel_rfl
theorem tab_info315 : tab.info 315 = some (3, 6, [.int .u16 0, .int .u16 0, .int .u16 0]) := by kernel_rfl
theorem tab_desc316 : tab.desc 316 = Tryz.prog.underlying 316 := by kernel_rfl
theorem tab_info316 : tab.info 316 = some (3, 6, [.int .u16 0, .int .u16 0, .int .u16 0]) := by kernel_rfl
theorem tab_desc317 : tab.desc 317 = Tryz.prog.underlying 317 := by kernel_rfl
theorem tab_info317 : tab.info 317 = some (1, 8, [.nilFunc]) := by kernel_rfl
theorem tab_desc318 : tab.desc 318 = Tryz.prog.underlying 318 := by kernel_rfl
theorem tab_info318 : tab.info 318 = some (3, 12, [.int .u32 0, .int .u32 0, .int .u32 0]) := by kernel_rfl
theorem tab_desc319 : tab.desc 319 = Tryz.prog.underlying 319 := by kernel_rfl
theorem tab_info319 : tab.info 319 = some (3, 12, [.int .u32 0, .int .u32 0, .int .u32 0]) := by kernel_rfl
theorem tab_desc320 : tab.desc 320 = Tryz.prog.underlying 320 := by kernel_rfl
theorem tab_info320 : tab.info 320 = some (1, 8, [.nilFunc]) := by kernel_rfl
theorem tab_desc321 : tab.desc 321 = Tryz.prog.underlying 321 := by kernel_rfl
theorem tab_info321 : tab.info 321 = some (32, 32, [.int .u8 0, .int .u8 0, .int .u8 0, .int .u8 0, .int .u8 0, .int .u8 0, .int .u8 0, .int .u8 0, .int .u8 0, .int .u8 0, .int .u8 0, .int .u8 0, .int .u8 0, .int .u8 0, .int .u8 0, .int .u8 0, .int .u8 0, .int .u8 0, .int .u8 0, .int .u8 0, .int .u8 0, .int .u8 0, .int .u8 0, .int .u8 0, .int .u8 0, .int .u8 0, .int .u8 0, .int .u8 0, .int .u8 0, .int .u8 0, .int .u8 0, .int .u8 0]) := by kernel_rfl
theorem tab_desc322 : tab.desc 322 = Tryz.prog.underlying 322 := by kernel_rfl
theorem tab_info322 : tab.info 322 = some (64, 64, [.int .u8 0, .int .u8 0, .int .u8 0, .int .u8 0, .int .u8 0, .int .u8 0, .int .u8 0, .int .u8 0, .int .u8 0, .int .u8 0, .int .u8 0, .int .u8 0, .int .u8 0, .int .u8 0, .int .u8 0, .int .u8 0, .int .u8 0, .int .u8 0, .int .u8 0, .int .u8 0, .int .u8 0, .int .u8 0, .int .u8 0, .int .u8 0, .int .u8 0, .int .u8 0, .int .u8 0, .int .u8 0, .int .u8 0, .int .u8 0, .int .u8 0, .int .u8 0, .int .u8 0, .int .u8 0, .int .u8 0, .int .u8 0, .int .u8 0, .int .u8 0, .int .u8 0, .int .u8 0, .int .u8 0, .int .u8 0, .int .u8 0, .int .u8 0, .int .u8 0, .int .u8 0, .int .u8 0, .int .u8 0, .int .u8 0, .int .u8 0, .int .u8 0, .int .u8 0, .int .u8 0, .int .u8 0, .int .u8 0, .int .u8 0, .int .u8 0, .int .u8 0, .int .u8 0, .int .u8 0, .int .u8 0, .int .u8 0, .int .u8 0, .int .u8 0]) := by kernel_rfl
theorem tab_desc323 : tab.desc 323 = Tryz.prog.underlying 323 := by kernel_rfl
theorem tab_info323 : tab.info 323 = some (1, 8, [.pointer none]) := by kernel_rfl
theorem tab_desc324 : tab.desc 324 = Tryz.prog.underlying 324 := by kernel_rfl
theorem tab_info324 : tab.info 324 = some (1, 8, [.pointer none]) := by kernel_rfl
theorem tab_desc325 : tab.desc 325 = Tryz.prog.underlying 325 := by kernel_rfl
theorem tab_info325 : tab.info 325 = some (4, 40, [.pointer none, .pointer none, .pointer none, .string ⟨#[]⟩]) := by kernel_rfl
theorem tab_desc326 : tab.desc 326 = Tryz.prog.underlying 326 := by kernel_rfl
theorem tab_info326 : tab.info 326 = some (4, 40, [.pointer none, .pointer none, .pointer none, .string ⟨#[]⟩]) := by kernel_rfl
theorem tab_desc327 : tab.desc 327 = Tryz.prog.underlying 327 := by kernel_rfl
theorem tab_info327 : tab.info 327 = some (0, 0, []) := by kernel_rfl
theorem tab_desc328 : tab.desc 328 = Tryz.prog.underlying 328 := by kernel_rfl
theorem tab_info328 : tab.info 328 = some (0, 0, []) := by kernel_rfl
theorem tab_desc329 : tab.desc 329 = Tryz.prog.underlying 329 := by kernel_rfl
theorem tab_info329 : tab.info 329 = some (0, 0, []) := by kernel_rfl
theorem tab_desc330 : tab.desc 330 = Tryz.prog.underlying 330 := by kernel_rfl
theorem tab_info330 : tab.info 330 = some (1, 1, [.int .u8 0]) := by kernel_rfl
theorem tab_desc331 : tab.desc 331 = Tryz.prog.underlying 331 := by kernel_rfl
theorem tab_info331 : tab.info 331 = some (1, 1, [.int .u8 0]) := by kernel_rfl
theorem tab_desc332 : tab.desc 332 = Tryz.prog.underlying 332 := by kernel_rfl
theorem tab_info332 : tab.info 332 = some (1, 8, [.nilFunc]) := by kernel_rfl
theorem tab_desc333 : tab.desc 333 = Tryz.prog.underlying 333 := by kernel_rfl
theorem tab_info333 : tab.info 333 = some (1, 4, [.int .i32 0]) := by kernel_rfl
theorem tab_desc334 : tab.desc 334 = Tryz.prog.underlying 334 := by kernel_rfl
theorem tab_info334 : tab.info 334 = some (1, 4, [.int .i32 0]) := by kernel_rfl
theorem tab_desc335 : tab.desc 335 = Tryz.prog.underlying 335 := by kernel_rfl
theorem tab_info335 : tab.info 335 = some (11, 48, [.int .u64 0, .int .u64 0, .int .u32 0, .int .u8 0, .int .u8 0, .int .u8 0, .int .u8 0, .nilFunc, .pointer none, .int .i32 0, .int .i32 0]) := by kernel_rfl
theorem tab_desc336 : tab.desc 336 = Tryz.prog.underlying 336 := by kernel_rfl
theorem tab_info336 : tab.info 336 = some (11, 48, [.int .u64 0, .int .u64 0, .int .u32 0, .int .u8 0, .int .u8 0, .int .u8 0, .int .u8 0, .nilFunc, .pointer none, .int .i32 0, .int .i32 0]) := by kernel_rfl
theorem tab_fn2 : tab.fn 2 = some Tryz.f2 := by kernel_rfl
theorem tab_fn3 : tab.fn 3 = some Tryz.f3 := by kernel_rfl
theorem tab_fn4 : tab.fn 4 = some Tryz.f4 := by kernel_rfl
theorem tab_fn5 : tab.fn 5 = some Tryz.f5 := by kernel_rfl
theorem tab_fn6 : tab.fn 6 = some Tryz.f6 := by kernel_rfl
theorem tab_fn7 : tab.fn 7 = some Tryz.f7 := by kernel_rfl
theorem tab_fn8 : tab.fn 8 = some Tryz.f8 := by kernel_rfl
theorem tab_fn9 : tab.fn 9 = some Tryz.f9 := by kernel_rfl
theorem tab_fn10 : tab.fn 10 = some Tryz.f10 := by kernel_rfl
theorem tab_fn11 : tab.fn 11 = some Tryz.f11 := by kernel_rfl
theorem tab_fn12 : tab.fn 12 = some Tryz.f12 := by kernel_rfl
theorem tab_fn13 : tab.fn 13 = some Tryz.f13 := by kernel_rfl
theorem tab_fn14 : tab.fn 14 = some Tryz.f14 := by kernel_rfl
theorem tab_fn15 : tab.fn 15 = some Tryz.f15 := by kernel_rfl
theorem tab_fn16 : tab.fn 16 = some Tryz.f16 := by kernel_rfl
theorem tab_fn17 : tab.fn 17 = some Tryz.f17 := by kernel_rfl
theorem tab_fn18 : tab.fn 18 = some Tryz.f18 := by kernel_rfl
theorem tab_fn19 : tab.fn 19 = some Tryz.f19 := by kernel_rfl
theorem tab_fn20 : tab.fn 20 = some Tryz.f20 := by kernel_rfl
theorem tab_fn21 : tab.fn 21 = some Tryz.f21 := by kernel_rfl
theorem tab_fn22 : tab.fn 22 = some Tryz.f22 := by kernel_rfl
theorem tab_fn23 : tab.fn 23 = some Tryz.f23 := by kernel_rfl
theorem tab_fn24 : tab.fn 24 = some Tryz.f24 := by kernel_rfl
theorem tab_fn25 : tab.fn 25 = some Tryz.f25 := by kernel_rfl
theorem tab_fn26 : tab.fn 26 = some Tryz.f26 := by kernel_rfl
theorem tab_fn27 : tab.fn 27 = some Tryz.f27 := by kernel_rfl
theorem tab_fn28 : tab.fn 28 = some Tryz.f28 := by kernel_rfl
theorem tab_fn29 : tab.fn 29 = some Tryz.f29 := by kernel_rfl
theorem tab_fn30 : tab.fn 30 = some Tryz.f30 := by kernel_rfl
theorem tab_fn31 : tab.fn 31 = some Tryz.f31 := by kernel_rfl
theorem tab_fn32 : tab.fn 32 = some Tryz.f32 := by kernel_rfl
theorem tab_fn33 : tab.fn 33 = some Tryz.f33 := by kernel_rfl
theorem tab_fn34 : tab.fn 34 = some Tryz.f34 := by kernel_rfl
theorem tab_fn35 : tab.fn 35 = some Tryz.f35 := by kernel_rfl
theorem tab_fn36 : tab.fn 36 = some Tryz.f36 := by kernel_rfl
theorem tab_fn37 : tab.fn 37 = some Tryz.f37 := by kernel_rfl
theorem tab_fn38 : tab.fn 38 = some Tryz.f38 := by kernel_rfl
theorem tab_fn39 : tab.fn 39 = some Tryz.f39 := by kernel_rfl
theorem tab_fn40 : tab.fn 40 = some Tryz.f40 := by kernel_rfl
theorem tab_fn41 : tab.fn 41 = some Tryz.f41 := by kernel_rfl
theorem tab_fn42 : tab.fn 42 = some Tryz.f42 := by kernel_rfl
theorem tab_fn43 : tab.fn 43 = some Tryz.f43 := by kernel_rfl
theorem tab_fn44 : tab.fn 44 = some Tryz.f44 := by kernel_rfl
theorem tab_fn45 : tab.fn 45 = some Tryz.f45 := by kernel_rfl
theorem tab_fn46 : tab.fn 46 = some Tryz.f46 := by kernel_rfl
theorem tab_fn47 : tab.fn 47 = some Tryz.f47 := by kernel_rfl
theorem tab_fn48 : tab.fn 48 = some Tryz.f48 := by kernel_rfl
theorem tab_fn49 : tab.fn 49 = some Tryz.f49 := by kernel_rfl
theorem tab_fn50 : tab.fn 50 = some Tryz.f50 := by kernel_rfl
theorem tab_fn51 : tab.fn 51 = some Tryz.f51 := by kernel_rfl
theorem tab_fn52 : tab.fn 52 = some Tryz.f52 := by kernel_rfl
theorem tab_fn53 : tab.fn 53 = some Tryz.f53 := by kernel_rfl
theorem tab_fn54 : tab.fn 54 = some Tryz.f54 := by kernel_rfl
theorem tab_fn55 : tab.fn 55 = some Tryz.f55 := by kernel_rfl
theorem tab_fn56 : tab.fn 56 = some Tryz.f56 := by kernel_rfl
theorem tab_fn57 : tab.fn 57 = some Tryz.f57 := by kernel_rfl
theorem tab_fn58 : tab.fn 58 = some Tryz.f58 := by kernel_rfl
theorem tab_fn59 : tab.fn 59 = some Tryz.f59 := by kernel_rfl
theorem tab_fn60 : tab.fn 60 = some Tryz.f60 := by kernel_rfl
theorem tab_fn61 : tab.fn 61 = some Tryz.f61 := by kernel_rfl
theorem tab_fn62 : tab.fn 62 = some Tryz.f62 := by kernel_rfl
theorem tab_fn63 : tab.fn 63 = some Tryz.f63 := by kernel_rfl
theorem tab_fn64 : tab.fn 64 = some Tryz.f64 := by kernel_rfl
theorem tab_fn65 : tab.fn 65 = some Tryz.f65 := by kernel_rfl
theorem tab_fn66 : tab.fn 66 = some Tryz.f66 := by kernel_rfl
theorem tab_fn67 : tab.fn 67 = some Tryz.f67 := by kernel_rfl
theorem tab_fn68 : tab.fn 68 = some Tryz.f68 := by kernel_rfl
theorem tab_fn69 : tab.fn 69 = some Tryz.f69 := by kernel_rfl
theorem tab_fn70 : tab.fn 70 = some Tryz.f70 := by kernel_rfl
theorem tab_fn71 : tab.fn 71 = some Tryz.f71 := by kernel_rfl
theorem tab_fn72 : tab.fn 72 = some Tryz.f72 := by kernel_rfl
theorem tab_fn73 : tab.fn 73 = some Tryz.f73 := by kernel_rfl
theorem tab_fn74 : tab.fn 74 = some Tryz.f74 := by kernel_rfl
theorem tab_fn75 : tab.fn 75 = some Tryz.f75 := by kernel_rfl
theorem tab_fn76 : tab.fn 76 = some Tryz.f76 := by kernel_rfl
theorem tab_fn77 : tab.fn 77 = some Tryz.f77 := by kernel_rfl
theorem tab_fn78 : tab.fn 78 = some Tryz.f78 := by kernel_rfl
theorem tab_fn79 : tab.fn 79 = some Tryz.f79 := by kernel_rfl
theorem tab_fn80 : tab.fn 80 = some Tryz.f80 := by kernel_rfl
theorem tab_fn81 : tab.fn 81 = some Tryz.f81 := by kernel_rfl
theorem tab_fn82 : tab.fn 82 = some Tryz.f82 := by kernel_rfl
theorem tab_fn83 : tab.fn 83 = some Tryz.f83 := by kernel_rfl
theorem tab_fn84 : tab.fn 84 = some Tryz.f84 := by kernel_rfl
theorem tab_fn85 : tab.fn 85 = some Tryz.f85 := by kernel_rfl
theorem tab_fn86 : tab.fn 86 = some Tryz.f86 := by kernel_rfl
theorem tab_fn87 : tab.fn 87 = some Tryz.f87 := by kernel_rfl
theorem tab_fn88 : tab.fn 88 = some Tryz.f88 := by kernel_rfl
theorem tab_fn89 : tab.fn 89 = some Tryz.f89 := by kernel_rfl
theorem tab_fn90 : tab.fn 90 = some Tryz.f90 := by kernel_rfl
theorem tab_fn91 : tab.fn 91 = some Tryz.f91 := by kernel_rfl
theorem tab_fn92 : tab.fn 92 = some Tryz.f92 := by kernel_rfl
theorem tab_fn93 : tab.fn 93 = some Tryz.f93 := by kernel_rfl
theorem tab_fn94 : tab.fn 94 = some Tryz.f94 := by kernel_rfl
theorem tab_fn95 : tab.fn 95 = some Tryz.f95 := by kernel_rfl
theorem tab_fn96 : tab.fn 96 = some Tryz.f96 := by kernel_rfl
theorem tab_fn97 : tab.fn 97 = some Tryz.f97 := by kernel_rfl
theorem tab_fn98 : tab.fn 98 = some Tryz.f98 := by kernel_rfl
theorem tab_fn99 : tab.fn 99 = some Tryz.f99 := by kernel_rfl
theorem tab_fn100 : tab.fn 100 = some Tryz.f100 := by kernel_rfl
theorem tab_fn101 : tab.fn 101 = some Tryz.f101 := by kernel_rfl
theorem tab_fn102 : tab.fn 102 = some Tryz.f102 := by kernel_rfl
theorem tab_fn103 : tab.fn 103 = some Tryz.f103 := by kernel_rfl
theorem tab_fn104 : tab.fn 104 = some Tryz.f104 := by kernel_rfl
theorem tab_fn105 : tab.fn 105 = some Tryz.f105 := by kernel_rfl
theorem tab_fn106 : tab.fn 106 = some Tryz.f106 := by kernel_rfl
theorem tab_fn107 : tab.fn 107 = some Tryz.f107 := by kernel_rfl
theorem tab_fn108 : tab.fn 108 = some Tryz.f108 := by kernel_rfl
theorem tab_fn109 : tab.fn 109 = some Tryz.f109 := by kernel_rfl
theorem tab_fn110 : tab.fn 110 = some Tryz.f110 := by kernel_rfl
theorem tab_fn111 : tab.fn 111 = some Tryz.f111 := by kernel_rfl
theorem tab_fn112 : tab.fn 112 = some Tryz.f112 := by kernel_rfl
theorem tab_fn113 : tab.fn 113 = some Tryz.f113 := by kernel_rfl
theorem tab_fn114 : tab.fn 114 = some Tryz.f114 := by kernel_rfl
theorem tab_fn115 : tab.fn 115 = some Tryz.f115 := by kernel_rfl
theorem tab_fn116 : tab.fn 116 = some Tryz.f116 := by kernel_rfl
theorem tab_fn117 : tab.fn 117 = some Tryz.f117 := by kernel_rfl
theorem tab_fn118 : tab.fn 118 = some Tryz.f118 := by kernel_rfl
theorem tab_fn119 : tab.fn 119 = some Tryz.f119 := by kernel_rfl
theorem tab_fn120 : tab.fn 120 = some Tryz.f120 := by kernel_rfl
theorem tab_fn121 : tab.fn 121 = some Tryz.f121 := by kernel_rfl
theorem tab_fn122 : tab.fn 122 = some Tryz.f122 := by kernel_rfl
theorem tab_fn123 : tab.fn 123 = some Tryz.f123 := by kernel_rfl
theorem tab_fn124 : tab.fn 124 = some Tryz.f124 := by kernel_rfl
theorem tab_fn125 : tab.fn 125 = some Tryz.f125 := by kernel_rfl
theorem tab_fn126 : tab.fn 126 = some Tryz.f126 := by kernel_rfl
theorem tab_fn127 : tab.fn 127 = some Tryz.f127 := by kernel_rfl
theorem tab_fn128 : tab.fn 128 = some Tryz.f128 := by kernel_rfl
theorem tab_fn129 : tab.fn 129 = some Tryz.f129 := by kernel_rfl
theorem tab_fn130 : tab.fn 130 = some Tryz.f130 := by kernel_rfl
theorem tab_fn131 : tab.fn 131 = some Tryz.f131 := by kernel_rfl
theorem tab_fn132 : tab.fn 132 = some Tryz.f132 := by kernel_rfl
theorem tab_fn133 : tab.fn 133 = some Tryz.f133 := by kernel_rfl
theorem tab_fn134 : tab.fn 134 = some Tryz.f134 := by kernel_rfl
theorem tab_fn135 : tab.fn 135 = some Tryz.f135 := by kernel_rfl
theorem tab_fn136 : tab.fn 136 = some Tryz.f136 := by kernel_rfl
theorem tab_fn137 : tab.fn 137 = some Tryz.f137 := by kernel_rfl
theorem tab_fn138 : tab.fn 138 = some Tryz.f138 := by kernel_rfl
theorem tab_fn139 : tab.fn 139 = some Tryz.f139 := by kernel_rfl
theorem tab_fn140 : tab.fn 140 = some Tryz.f140 := by kernel_rfl
theorem tab_fn141 : tab.fn 141 = some Tryz.f141 := by kernel_rfl
theorem tab_fn142 : tab.fn 142 = some Tryz.f142 := by kernel_rfl
theorem tab_fn143 : tab.fn 143 = some Tryz.f143 := by kernel_rfl
theorem tab_fn144 : tab.fn 144 = some Tryz.f144 := by kernel_rfl
theorem tab_fn145 : tab.fn 145 = some Tryz.f145 := by kernel_rfl
theorem tab_fn146 : tab.fn 146 = some Tryz.f146 := by kernel_rfl
theorem tab_fn147 : tab.fn 147 = some Tryz.f147 := by kernel_rfl
theorem tab_fn148 : tab.fn 148 = some Tryz.f148 := by kernel_rfl
theorem tab_fn149 : tab.fn 149 = some Tryz.f149 := by kernel_rfl
theorem tab_fn150 : tab.fn 150 = some Tryz.f150 := by kernel_rfl
theorem tab_fn151 : tab.fn 151 = some Tryz.f151 := by kernel_rfl
theorem tab_fn152 : tab.fn 152 = some Tryz.f152 := by kernel_rfl
theorem tab_fn153 : tab.fn 153 = some Tryz.f153 := by kernel_rfl
theorem tab_fn154 : tab.fn 154 = some Tryz.f154 := by kernel_rfl
theorem tab_fn155 : tab.fn 155 = some Tryz.f155 := by kernel_rfl
theorem tab_fn156 : tab.fn 156 = some Tryz.f156 := by kernel_rfl
theorem tab_fn157 : tab.fn 157 = some Tryz.f157 := by kernel_rfl
theorem tab_fn158 : tab.fn 158 = some Tryz.f158 := by kernel_rfl
theorem tab_fn159 : tab.fn 159 = some Tryz.f159 := by kernel_rfl
theorem tab_fn160 : tab.fn 160 = some Tryz.f160 := by kernel_rfl
theorem tab_fn161 : tab.fn 161 = some Tryz.f161 := by kernel_rfl
theorem tab_fn162 : tab.fn 162 = some Tryz.f162 := by kernel_rfl
theorem tab_fn163 : tab.fn 163 = some Tryz.f163 := by kernel_rfl
theorem tab_fn164 : tab.fn 164 = some Tryz.f164 := by kernel_rfl
theorem tab_fn165 : tab.fn 165 = some Tryz.f165 := by kernel_rfl
theorem tab_fn166 : tab.fn 166 = some Tryz.f166 := by kernel_rfl
theorem tab_fn167 : tab.fn 167 = some Tryz.f167 := by kernel_rfl
theorem tab_fn168 : tab.fn 168 = some Tryz.f168 := by kernel_rfl
theorem tab_fn169 : tab.fn 169 = some Tryz.f169 := by kernel_rfl
theorem tab_fn170 : tab.fn 170 = some Tryz.f170 := by kernel_rfl
theorem tab_fn171 : tab.fn 171 = some Tryz.f171 := by kernel_rfl
theorem tab_fn172 : tab.fn 172 = some Tryz.f172 := by kernel_rfl
theorem tab_fn173 : tab.fn 173 = some Tryz.f173 := by kernel_rfl
theorem tab_fn174 : tab.fn 174 = some Tryz.f174 := by kernel_rfl
theorem tab_fn175 : tab.fn 175 = some Tryz.f175 := by kernel_rfl
theorem tab_fn176 : tab.fn 176 = some Tryz.f176 := by kernel_rfl
theorem tab_fn177 : tab.fn 177 = some Tryz.f177 := by kernel_rfl
theorem tab_fn178 : tab.fn 178 = some Tryz.f178 := by kernel_rfl
theorem tab_fn179 : tab.fn 179 = some Tryz.f179 := by kernel_rfl
theorem tab_fn180 : tab.fn 180 = some Tryz.f180 := by kernel_rfl
theorem tab_fn181 : tab.fn 181 = some Tryz.f181 := by kernel_rfl
theorem tab_fn182 : tab.fn 182 = some Tryz.f182 := by kernel_rfl
theorem tab_fn183 : tab.fn 183 = some Tryz.f183 := by kernel_rfl
theorem tab_fn184 : tab.fn 184 = some Tryz.f184 := by kernel_rfl
theorem tab_fn185 : tab.fn 185 = some Tryz.f185 := by kernel_rfl
theorem tab_fn186 : tab.fn 186 = some Tryz.f186 := by kernel_rfl
theorem tab_fn187 : tab.fn 187 = some Tryz.f187 := by kernel_rfl
theorem tab_fn188 : tab.fn 188 = some Tryz.f188 := by kernel_rfl
theorem tab_fn189 : tab.fn 189 = some Tryz.f189 := by kernel_rfl
theorem tab_fn190 : tab.fn 190 = some Tryz.f190 := by kernel_rfl
theorem tab_fn191 : tab.fn 191 = some Tryz.f191 := by kernel_rfl
theorem tab_fn192 : tab.fn 192 = some Tryz.f192 := by kernel_rfl
theorem tab_fn193 : tab.fn 193 = some Tryz.f193 := by kernel_rfl
theorem tab_fn194 : tab.fn 194 = some Tryz.f194 := by kernel_rfl
theorem tab_fn195 : tab.fn 195 = some Tryz.f195 := by kernel_rfl
theorem tab_fn196 : tab.fn 196 = some Tryz.f196 := by kernel_rfl
theorem tab_fn197 : tab.fn 197 = some Tryz.f197 := by kernel_rfl
theorem tab_fn198 : tab.fn 198 = some Tryz.f198 := by kernel_rfl
theorem tab_fn199 : tab.fn 199 = some Tryz.f199 := by kernel_rfl
theorem tab_fn200 : tab.fn 200 = some Tryz.f200 := by kernel_rfl
theorem tab_fn201 : tab.fn 201 = some Tryz.f201 := by kernel_rfl
theorem tab_fn202 : tab.fn 202 = some Tryz.f202 := by kernel_rfl
theorem tab_fn203 : tab.fn 203 = some Tryz.f203 := by kernel_rfl
theorem tab_fn204 : tab.fn 204 = some Tryz.f204 := by kernel_rfl
theorem tab_fn205 : tab.fn 205 = some Tryz.f205 := by kernel_rfl
theorem tab_fn206 : tab.fn 206 = some Tryz.f206 := by kernel_rfl
theorem tab_fn207 : tab.fn 207 = some Tryz.f207 := by kernel_rfl
theorem tab_fn208 : tab.fn 208 = some Tryz.f208 := by kernel_rfl
theorem tab_fn209 : tab.fn 209 = some Tryz.f209 := by kernel_rfl
theorem tab_fn210 : tab.fn 210 = some Tryz.f210 := by kernel_rfl
theorem tab_fn211 : tab.fn 211 = some Tryz.f211 := by kernel_rfl
theorem tab_fn212 : tab.fn 212 = some Tryz.f212 := by kernel_rfl
theorem tab_fn214 : tab.fn 214 = some Tryz.f214 := by kernel_rfl
theorem tab_fn215 : tab.fn 215 = some Tryz.f215 := by kernel_rfl
theorem tab_fn217 : tab.fn 217 = some Tryz.f217 := by kernel_rfl
theorem tab_fn218 : tab.fn 218 = some Tryz.f218 := by kernel_rfl
theorem tab_fn219 : tab.fn 219 = some Tryz.f219 := by kernel_rfl
theorem tab_fn220 : tab.fn 220 = some Tryz.f220 := by kernel_rfl
theorem tab_fn221 : tab.fn 221 = some Tryz.f221 := by kernel_rfl
theorem tab_fn222 : tab.fn 222 = some Tryz.f222 := by kernel_rfl
theorem tab_fn223 : tab.fn 223 = some Tryz.f223 := by kernel_rfl
theorem tab_fn224 : tab.fn 224 = some Tryz.f224 := by kernel_rfl
theorem tab_fn225 : tab.fn 225 = some Tryz.f225 := by kernel_rfl
theorem tab_fn226 : tab.fn 226 = some Tryz.f226 := by kernel_rfl
theorem tab_fn227 : tab.fn 227 = some Tryz.f227 := by kernel_rfl
theorem tab_fn229 : tab.fn 229 = some Tryz.f229 := by kernel_rfl
theorem tab_fn230 : tab.fn 230 = some Tryz.f230 := by kernel_rfl
theorem tab_fn231 : tab.fn 231 = some Tryz.f231 := by kernel_rfl
theorem tab_fn232 : tab.fn 232 = some Tryz.f232 := by kernel_rfl
theorem tab_fn233 : tab.fn 233 = some Tryz.f233 := by kernel_rfl
theorem tab_fn234 : tab.fn 234 = some Tryz.f234 := by kernel_rfl
theorem tab_fn235 : tab.fn 235 = some Tryz.f235 := by kernel_rfl
theorem tab_fn236 : tab.fn 236 = some Tryz.f236 := by kernel_rfl
theorem tab_fn238 : tab.fn 238 = some Tryz.f238 := by kernel_rfl
theorem tab_fn239 : tab.fn 239 = some Tryz.f239 := by kernel_rfl
theorem tab_fn240 : tab.fn 240 = some Tryz.f240 := by kernel_rfl
theorem tab_fn241 : tab.fn 241 = some Tryz.f241 := by kernel_rfl
theorem tab_fn242 : tab.fn 242 = some Tryz.f242 := by kernel_rfl
theorem tab_fn243 : tab.fn 243 = some Tryz.f243 := by kernel_rfl
theorem tab_fn246 : tab.fn 246 = some Tryz.f246 := by kernel_rfl
theorem tab_fn249 : tab.fn 249 = some Tryz.f249 := by kernel_rfl
theorem tab_fn250 : tab.fn 250 = some Tryz.f250 := by kernel_rfl
end Go.Proofs.YtnehmgadngajmaaGreatDoor
