/- My texts for this claim, in one file: part 30. -/
import Derived.Test.YtdadiidfhnojcaaWb29
namespace Go.Proofs.Ytdadiidfhnojcaa.K
open Go Go.Kx
set_option maxRecDepth 20000
set_option linter.unusedVariables false
set_option linter.defProp false
namespace F3
noncomputable section
variable (P : Program) (cl : Cl) (nu mu : Nu) (x0 x1 : Value) (h : H)
end
end F3
namespace F9
noncomputable section
variable (P : Program) (cl : Cl) (nu mu : Nu) (x0 x1 x5 x14 : Value) (h : H)
end
end F9
namespace F10
noncomputable section
variable (P : Program) (cl : Cl) (nu mu : Nu) (x0 x3 x4 x11 x12 : Value) (h : H)
noncomputable def s := sub (bodyOf Try.f10)
noncomputable def k0 : Ko := kfn P Try.f10.results.toList
def k1 : Ko := kC P cl nu an10 (s [1,1,1]) (k0 P)
def k2 : Ko := kblk 0 (k1 P cl nu)
def l3 := mu 7 (lC P cl nu an10 [0,3,4] (s [1,1,0,1,0,0]) (k2 P cl nu)) [(0,x0),(3,x3),(4,x4)] h
def k3 : Ko := kL P cl nu an10 7 [0,3,4] (s [1,1,0,1,0,0]) (k2 P cl nu)
def j5 := mu 10 (evT P cl an10 nu (s [1,1,0,1,0,0,1]) (k3 P cl nu)) [(0,x0),(3,x3),(4,x4),(11,x11),(12,x12)] h
def j9 := mu 18 (evT P cl an10 nu (s [1,1,1]) (k0 P)) [(3,x3)] h
theorem l3n : evT P cl an10 nu (s [1,1,0,1,0,0]) (kL P cl nu an10 7 [0,3,4] (s [1,1,0,1,0,0]) (k2 P cl nu)) [(0,x0),(3,x3),(4,x4)] h = (xbuiltin P .len [22] [x0] h).go .pan fun t1 h => (xbin P .lss 3 x4 t1 h).go .pan fun t2 h => ifV t2 ((xbin P .lss 3 x4 (.int .i64 60) h).go .pan fun t3 h => ifV t3 (j5 P cl nu nu x0 x3 x4 x4 t3 h) (j9 P cl nu nu x3 h)) (j9 P cl nu nu x3 h) := by kernel_rfl
def l3_eq := @id (l3 P cl nu0 nu0 x0 x3 x4 h = _) (lpN (l3n P cl nu0 x0 x3 x4 h))
theorem j5_eq : j5 P cl nu nu0 x0 x3 x4 x11 x12 h = (xindexAddr P 22 x0 x4 h).go .pan fun t4 h => (xload P 55 t4 h).go .pan fun t5 h => (xalloc P 55 h).go .pan fun t6 h => (xstore P 55 t6 t5 h).go .pan fun t7 h => (xfieldAddr P 55 t6 2 h).go .pan fun t8 h => (xload P 52 t8 h).go .pan fun t9 h => (xfieldAddr P 55 t6 2 h).go .pan fun t10 h => (xload P 52 t10 h).go .pan fun t11 h => (xbuiltin P .len [52] [t11] h).go .pan fun t12 h => (xbuiltin P .min [3,3] [t12,(.int .i64 12)] h).go .pan fun t13 h => (xslice P 52 t9 none (some t13) none h).go .pan fun t14 h => (xfieldAddr P 55 t6 2 h).go .pan fun t15 h => (xstore P 52 t15 t14 h).go .pan fun t16 h => (xfieldAddr P 55 t6 3 h).go .pan fun t17 h => (xload P 53 t17 h).go .pan fun t18 h => (xfieldAddr P 55 t6 3 h).go .pan fun t19 h => (xload P 53 t19 h).go .pan fun t20 h => (xbuiltin P .len [53] [t20] h).go .pan fun t21 h => (xbuiltin P .min [3,3] [t21,(.int .i64 12)] h).go .pan fun t22 h => (xslice P 53 t18 none (some t22) none h).go .pan fun t23 h => (xfieldAddr P 55 t6 3 h).go .pan fun t24 h => (xstore P 53 t24 t23 h).go .pan fun t25 h => (xload P 55 t6 h).go .pan fun t26 h => (xbuildSlice P 22 1 [(0,t26)] h).go .pan fun t27 h => (xbuiltin P .append [22,22] [x3,t27] h).go .pan fun t28 h => (xbin P .add 3 x4 (.int .i64 1) h).go .pan fun t29 h => (l3 P cl nu nu x0 t28 t29 h) := by kernel_rfl
theorem j9_eq : j9 P cl nu nu0 x3 h = .ok x3 h := by kernel_rfl
theorem eq : runX P cl nu an10 Try.f10 [x0] h = l3 P cl nu nu x0 (.slice none 0 0) (.int .i64 0) h := by kernel_rfl
end
end F10
namespace F11
noncomputable section
variable (P : Program) (cl : Cl) (nu mu : Nu) (h : H)
theorem eq : runX P cl nu an11 Try.f11 [] h = (xbuild P 63 [(0,(.string ⟨#[120]⟩))] h).go .pan fun t1 h => (xbuildSlice P 53 1 [(0,t1)] h).go .pan fun t2 h => (xbuild P 55 [(0,(.string ⟨#[98]⟩)),(3,t2)] h).go .pan fun t3 h => (xbuildSlice P 52 1 [(0,(.string ⟨#[120]⟩))] h).go .pan fun t4 h => (xbuild P 63 [(0,(.string ⟨#[121]⟩))] h).go .pan fun t5 h => (xbuildSlice P 53 1 [(0,t5)] h).go .pan fun t6 h => (xbuild P 55 [(0,(.string ⟨#[97]⟩)),(2,t4),(3,t6)] h).go .pan fun t7 h => (xbuildSlice P 52 3 [(0,(.string ⟨#[121]⟩)),(1,(.string ⟨#[120]⟩)),(2,(.string ⟨#[115,114,99]⟩))] h).go .pan fun t8 h => (xbuild P 55 [(0,(.string ⟨#[99]⟩)),(2,t8)] h).go .pan fun t9 h => (xbuild P 55 [(0,(.string ⟨#[97,50]⟩))] h).go .pan fun t10 h => (xbuildSlice P 22 4 [(0,t3),(1,t7),(2,t9),(3,t10)] h).go .pan fun t11 h => (cl (.f 13) [t11] h).go .pan fun t12 h => (xextract t12 0 h).go .pan fun t13 h => (xextract t12 1 h).go .pan fun t14 h => (xextract t12 2 h).go .pan fun t15 h => (xbuildSlice P 52 1 [(0,(.string ⟨#[112]⟩))] h).go .pan fun t16 h => (xbuild P 63 [(0,(.string ⟨#[112]⟩))] h).go .pan fun t17 h => (xbuildSlice P 53 1 [(0,t17)] h).go .pan fun t18 h => (xbuild P 55 [(0,(.string ⟨#[116]⟩)),(2,t16),(3,t18)] h).go .pan fun t19 h => (xbuildSlice P 22 1 [(0,t19)] h).go .pan fun t20 h => (cl (.f 13) [t20] h).go .pan fun t21 h => (xextract t21 0 h).go .pan fun t22 h => (xextract t21 1 h).go .pan fun t23 h => (xextract t21 2 h).go .pan fun t24 h => (xbuildSlice P 27 4 [(0,(.int .i64 3)),(1,(.int .i64 0)),(2,(.int .i64 1)),(3,(.int .i64 2))] h).go .pan fun t25 h => (cl (.f 17) [t13,t25] h).go .pan fun t26 h => ifV t26 ((cl (.f 18) [t14] h).go .pan fun t27 h => (xbin P .eql 3 t27 (.int .i64 0) h).go .pan fun t28 h => ifV t28 ((xbin P .eql 9 t15 (.string ⟨#[]⟩) h).go .pan fun t29 h => ifV t29 ((xbuiltin P .len [27] [t22] h).go .pan fun t30 h => (xbin P .eql 3 t30 (.int .i64 0) h).go .pan fun t31 h => ifV t31 ((cl (.f 18) [t23] h).go .pan fun t32 h => (xbin P .eql 3 t32 (.int .i64 130) h).go .pan fun t33 h => ifV t33 ((xbin P .eql 9 t24 (.string ⟨#[116]⟩) h).go .pan fun t34 h => ifV t34 ((cl (.f 21) [t11,(.int .i64 4)] h).go .pan fun t35 h => (xbuiltin P .len [27] [t35] h).go .pan fun t36 h => (xbin P .eql 3 t36 (.int .i64 0) h).go .pan fun t37 h => ifV t37 ((cl (.f 21) [t11,(.int .i64 (-1))] h).go .pan fun t38 h => (xbuiltin P .len [27] [t38] h).go .pan fun t39 h => (xbin P .eql 3 t39 (.int .i64 0) h).go .pan fun t40 h => .ok t40 h) (.ok (.bool false) h)) (.ok (.bool false) h)) (.ok (.bool false) h)) (.ok (.bool false) h)) (.ok (.bool false) h)) (.ok (.bool false) h)) (.ok (.bool false) h) := by kernel_rfl
end
end F11
namespace F12
noncomputable section
variable (P : Program) (cl : Cl) (nu mu : Nu) (x0 x3 x4 x5 x6 x7 : Value) (h : H)
noncomputable def s := sub (bodyOf Try.f12)
noncomputable def k0 : Ko := kfn P Try.f12.results.toList
def k1 : Ko := kC P cl nu an12 (s [1,1,1]) (k0 P)
def k2 : Ko := kblk 0 (k1 P cl nu)
def l3 := mu 7 (lC P cl nu an12 [0,3,4] (s [1,1,0,1,0,0]) (k2 P cl nu)) [(0,x0),(3,x3),(4,x4)] h
def k3 : Ko := kL P cl nu an12 7 [0,3,4] (s [1,1,0,1,0,0]) (k2 P cl nu)
def j5 := mu 10 (evT P cl an12 nu (s [1,1,0,1,0,0,1]) (k3 P cl nu)) [(0,x0),(3,x3),(4,x4)] h
def k5 : Ko := kC P cl nu an12 (s [1,1,0,1,0,0,1,1]) (k3 P cl nu)
def k6 : Ko := kblk 1 (k5 P cl nu)
def j19 := mu 38 (evT P cl an12 nu (s [1,1,1]) (k0 P)) [(0,x0),(3,x3)] h
def j4 := mu 8 (evT P cl an12 nu (s [1,1,0,1,0,0,1,1]) (k3 P cl nu)) [(0,x0),(3,x3),(4,x4)] h
def j7 := mu 14 (evT P cl an12 nu (s [1,1,0,1,0,0,1,0,0,1]) (k6 P cl nu)) [(0,x0),(3,x3),(4,x4)] h
def k8 : Ko := kC P cl nu an12 (s [1,1,0,1,0,0,1,0,0,1,1,1,1,1,1]) (k6 P cl nu)
def k9 : Ko := kblk 2 (k8 P cl nu)
def l12 := mu 25 (lC P cl nu an12 [0,3,4,5,6,7] (s [1,1,0,1,0,0,1,0,0,1,1,1,1,1,0,1,0,0]) (k9 P cl nu)) [(0,x0),(3,x3),(4,x4),(5,x5),(6,x6),(7,x7)] h
def k10 : Ko := kL P cl nu an12 25 [0,3,4,5,6,7] (s [1,1,0,1,0,0,1,0,0,1,1,1,1,1,0,1,0,0]) (k9 P cl nu)
def j14 := mu 28 (evT P cl an12 nu (s [1,1,0,1,0,0,1,0,0,1,1,1,1,1,0,1,0,0,1]) (k10 P cl nu)) [(0,x0),(3,x3),(4,x4),(5,x5),(6,x6),(7,x7)] h
def j16 := mu 32 (evT P cl an12 nu (s [1,1,0,1,0,0,1,0,0,1,1,1,1,1,1]) (k6 P cl nu)) [(0,x0),(3,x3),(4,x4),(5,x5),(6,x6)] h
theorem l3n : evT P cl an12 nu (s [1,1,0,1,0,0]) (kL P cl nu an12 7 [0,3,4] (s [1,1,0,1,0,0]) (k2 P cl nu)) [(0,x0),(3,x3),(4,x4)] h = (xbuiltin P .len [22] [x3] h).go .pan fun t4 h => (xbin P .lss 3 x4 t4 h).go .pan fun t5 h => ifV t5 (j5 P cl nu nu x0 x3 x4 h) (j19 P cl nu nu x0 x3 h) := by kernel_rfl
def l3_eq := @id (l3 P cl nu0 nu0 x0 x3 x4 h = _) (lpN (l3n P cl nu0 x0 x3 x4 h))
theorem j5_eq : j5 P cl nu nu0 x0 x3 x4 h = (xbuiltin P .len [22] [x0] h).go .pan fun t6 h => (xbin P .geq 3 x4 t6 h).go .pan fun t7 h => ifV t7 ((xbuild P 55 [(0,(.string ⟨#[114,111,111,109]⟩))] h).go .pan fun t8 h => (xindexAddr P 22 x3 x4 h).go .pan fun t9 h => (xstore P 55 t9 t8 h).go .pan fun t10 h => (j4 P cl nu nu x0 x3 x4 h)) (j7 P cl nu nu x0 x3 x4 h) := by kernel_rfl
theorem j19_eq : j19 P cl nu nu0 x0 x3 h = (xbuiltin P .len [22] [x0] h).go .pan fun t11 h => (xslice P 22 x3 none (some t11) none h).go .pan fun t12 h => .ok t12 h := by kernel_rfl
theorem j4_eq : j4 P cl nu nu0 x0 x3 x4 h = (xbin P .add 3 x4 (.int .i64 1) h).go .pan fun t13 h => (l3 P cl nu nu x0 x3 t13 h) := by kernel_rfl
theorem j7_eq : j7 P cl nu nu0 x0 x3 x4 h = (xindexAddr P 22 x0 x4 h).go .pan fun t14 h => (xfieldAddr P 55 t14 2 h).go .pan fun t15 h => (xload P 52 t15 h).go .pan fun t16 h => (xbuiltin P .len [52] [t16] h).go .pan fun t17 h => (xbin P .add 3 t17 (.int .i64 3) h).go .pan fun t18 h => (xmakeSlice P 52 t18 t18 h).go .pan fun t19 h => (xindexAddr P 22 x0 x4 h).go .pan fun t20 h => (xfieldAddr P 55 t20 3 h).go .pan fun t21 h => (xload P 53 t21 h).go .pan fun t22 h => (xbuiltin P .len [53] [t22] h).go .pan fun t23 h => (xbin P .add 3 t23 (.int .i64 3) h).go .pan fun t24 h => (xmakeSlice P 53 t24 t24 h).go .pan fun t25 h => (xindexAddr P 22 x0 x4 h).go .pan fun t26 h => (xfieldAddr P 55 t26 2 h).go .pan fun t27 h => (xload P 52 t27 h).go .pan fun t28 h => (xbuiltin P .copy [52,52] [t19,t28] h).go .pan fun t29 h => (xindexAddr P 22 x0 x4 h).go .pan fun t30 h => (xfieldAddr P 55 t30 3 h).go .pan fun t31 h => (xload P 53 t31 h).go .pan fun t32 h => (xbuiltin P .copy [53,53] [t25,t32] h).go .pan fun t33 h => (l12 P cl nu nu x0 x3 x4 t19 t25 (.int .i64 0) h) := by kernel_rfl
theorem l12n : evT P cl an12 nu (s [1,1,0,1,0,0,1,0,0,1,1,1,1,1,0,1,0,0]) (kL P cl nu an12 25 [0,3,4,5,6,7] (s [1,1,0,1,0,0,1,0,0,1,1,1,1,1,0,1,0,0]) (k9 P cl nu)) [(0,x0),(3,x3),(4,x4),(5,x5),(6,x6),(7,x7)] h = (xbin P .lss 3 x7 (.int .i64 3) h).go .pan fun t34 h => ifV t34 (j14 P cl nu nu x0 x3 x4 x5 x6 x7 h) (j16 P cl nu nu x0 x3 x4 x5 x6 h) := by kernel_rfl
def l12_eq := @id (l12 P cl nu0 nu0 x0 x3 x4 x5 x6 x7 h = _) (lpN (l12n P cl nu0 x0 x3 x4 x5 x6 x7 h))
theorem j14_eq : j14 P cl nu nu0 x0 x3 x4 x5 x6 x7 h = (xindexAddr P 22 x0 x4 h).go .pan fun t35 h => (xfieldAddr P 55 t35 2 h).go .pan fun t36 h => (xload P 52 t36 h).go .pan fun t37 h => (xbuiltin P .len [52] [t37] h).go .pan fun t38 h => (xbin P .add 3 t38 x7 h).go .pan fun t39 h => (xindexAddr P 52 x5 t39 h).go .pan fun t40 h => (xstore P 9 t40 (.string ⟨#[114,111,111,109]⟩) h).go .pan fun t41 h => (xindexAddr P 22 x0 x4 h).go .pan fun t42 h => (xfieldAddr P 55 t42 3 h).go .pan fun t43 h => (xload P 53 t43 h).go .pan fun t44 h => (xbuiltin P .len [53] [t44] h).go .pan fun t45 h => (xbin P .add 3 t45 x7 h).go .pan fun t46 h => (xindexAddr P 53 x6 t46 h).go .pan fun t47 h => (xfieldAddr P 63 t47 0 h).go .pan fun t48 h => (xstore P 9 t48 (.string ⟨#[114,111,111,109]⟩) h).go .pan fun t49 h => (xbin P .add 3 x7 (.int .i64 1) h).go .pan fun t50 h => (l12 P cl nu nu x0 x3 x4 x5 x6 t50 h) := by kernel_rfl
theorem j16_eq : j16 P cl nu nu0 x0 x3 x4 x5 x6 h = (xindexAddr P 22 x0 x4 h).go .pan fun t51 h => (xload P 55 t51 h).go .pan fun t52 h => (xindexAddr P 22 x3 x4 h).go .pan fun t53 h => (xstore P 55 t53 t52 h).go .pan fun t54 h => (xindexAddr P 22 x0 x4 h).go .pan fun t55 h => (xfieldAddr P 55 t55 2 h).go .pan fun t56 h => (xload P 52 t56 h).go .pan fun t57 h => (xbuiltin P .len [52] [t57] h).go .pan fun t58 h => (xslice P 52 x5 none (some t58) none h).go .pan fun t59 h => (xindexAddr P 22 x3 x4 h).go .pan fun t60 h => (xfieldAddr P 55 t60 2 h).go .pan fun t61 h => (xstore P 52 t61 t59 h).go .pan fun t62 h => (xindexAddr P 22 x0 x4 h).go .pan fun t63 h => (xfieldAddr P 55 t63 3 h).go .pan fun t64 h => (xload P 53 t64 h).go .pan fun t65 h => (xbuiltin P .len [53] [t65] h).go .pan fun t66 h => (xslice P 53 x6 none (some t66) none h).go .pan fun t67 h => (xindexAddr P 22 x3 x4 h).go .pan fun t68 h => (xfieldAddr P 55 t68 3 h).go .pan fun t69 h => (xstore P 53 t69 t67 h).go .pan fun t70 h => (j4 P cl nu nu x0 x3 x4 h) := by kernel_rfl
theorem eq : runX P cl nu an12 Try.f12 [x0] h = (xbuiltin P .len [22] [x0] h).go .pan fun t1 h => (xbin P .add 3 t1 (.int .i64 3) h).go .pan fun t2 h => (xmakeSlice P 22 t2 t2 h).go .pan fun t3 h => (l3 P cl nu nu x0 t3 (.int .i64 0) h) := by kernel_rfl
end
end F12
namespace F17
noncomputable section
variable (P : Program) (cl : Cl) (nu mu : Nu) (x0 x1 x5 : Value) (h : H)
noncomputable def s := sub (bodyOf Try.f17)
noncomputable def k0 : Ko := kfn P Try.f17.results.toList
def j3 := mu 6 (evT P cl an17 nu (s [1,1]) (k0 P)) [(0,x0),(1,x1)] h
def k2 : Ko := kC P cl nu an17 (s [1,1,1]) (k0 P)
def k3 : Ko := kblk 0 (k2 P cl nu)
def l4 := mu 9 (lC P cl nu an17 [0,1,5] (s [1,1,0,1,0,0]) (k3 P cl nu)) [(0,x0),(1,x1),(5,x5)] h
def k4 : Ko := kL P cl nu an17 9 [0,1,5] (s [1,1,0,1,0,0]) (k3 P cl nu)
def j6 := mu 12 (evT P cl an17 nu (s [1,1,0,1,0,0,1]) (k4 P cl nu)) [(0,x0),(1,x1),(5,x5)] h
def j8 := mu 16 (evT P cl an17 nu (s [1,1,1]) (k0 P)) [] h
theorem j3_eq : j3 P cl nu nu0 x0 x1 h = l4 P cl nu nu x0 x1 (.int .i64 0) h := by kernel_rfl
theorem l4n : evT P cl an17 nu (s [1,1,0,1,0,0]) (kL P cl nu an17 9 [0,1,5] (s [1,1,0,1,0,0]) (k3 P cl nu)) [(0,x0),(1,x1),(5,x5)] h = (xbuiltin P .len [27] [x0] h).go .pan fun t4 h => (xbin P .lss 3 x5 t4 h).go .pan fun t5 h => ifV t5 (j6 P cl nu nu x0 x1 x5 h) (j8 P cl nu nu h) := by kernel_rfl
def l4_eq := @id (l4 P cl nu0 nu0 x0 x1 x5 h = _) (lpN (l4n P cl nu0 x0 x1 x5 h))
theorem j6_eq : j6 P cl nu nu0 x0 x1 x5 h = (xindexAddr P 27 x0 x5 h).ok1 fun t6 h => (xload P 3 t6 h).ok1 fun t7 h => (xindexAddr P 27 x1 x5 h).ok1 fun t8 h => (xload P 3 t8 h).ok1 fun t9 h => bif plain2 t7 t9 then ((xbin P .neq 3 t7 t9 h).ok1 fun t10 h => ifV t10 (.ok (.bool false) h) ((xbin P .add 3 x5 (.int .i64 1) h).go .pan fun t11 h => (l4 P cl nu nu x0 x1 t11 h))) else .bad := by kernel_rfl
theorem j8_eq : j8 P cl nu nu0 h = .ok (.bool true) h := by kernel_rfl
theorem eq : runX P cl nu an17 Try.f17 [x0,x1] h = (xbuiltin P .len [27] [x0] h).go .pan fun t1 h => (xbuiltin P .len [27] [x1] h).go .pan fun t2 h => (xbin P .neq 3 t1 t2 h).go .pan fun t3 h => ifV t3 (.ok (.bool false) h) (j3 P cl nu nu x0 x1 h) := by kernel_rfl
end
end F17
namespace F18
noncomputable section
variable (P : Program) (cl : Cl) (nu mu : Nu) (x0 : Value) (h : H)
theorem eq : runX P cl nu an18 Try.f18 [x0] h = .ok x0 h := by kernel_rfl
end
end F18
namespace F19
noncomputable section
variable (P : Program) (cl : Cl) (nu mu : Nu) (x0 x1 x5 : Value) (h : H)
noncomputable def s := sub (bodyOf Try.f19)
noncomputable def k0 : Ko := kfn P Try.f19.results.toList
def j3 := mu 6 (evT P cl an19 nu (s [1,1]) (k0 P)) [(0,x0),(1,x1)] h
def k2 : Ko := kC P cl nu an19 (s [1,1,1]) (k0 P)
def k3 : Ko := kblk 0 (k2 P cl nu)
def l4 := mu 9 (lC P cl nu an19 [0,1,5] (s [1,1,0,1,0,0]) (k3 P cl nu)) [(0,x0),(1,x1),(5,x5)] h
def k4 : Ko := kL P cl nu an19 9 [0,1,5] (s [1,1,0,1,0,0]) (k3 P cl nu)
def j6 := mu 12 (evT P cl an19 nu (s [1,1,0,1,0,0,1]) (k4 P cl nu)) [(0,x0),(1,x1),(5,x5)] h
def j8 := mu 16 (evT P cl an19 nu (s [1,1,1]) (k0 P)) [] h
theorem j3_eq : j3 P cl nu nu0 x0 x1 h = l4 P cl nu nu x0 x1 (.int .i64 0) h := by kernel_rfl
theorem l4n : evT P cl an19 nu (s [1,1,0,1,0,0]) (kL P cl nu an19 9 [0,1,5] (s [1,1,0,1,0,0]) (k3 P cl nu)) [(0,x0),(1,x1),(5,x5)] h = (xbuiltin P .len [33] [x0] h).go .pan fun t4 h => (xbin P .lss 3 x5 t4 h).go .pan fun t5 h => ifV t5 (j6 P cl nu nu x0 x1 x5 h) (j8 P cl nu nu h) := by kernel_rfl
def l4_eq := @id (l4 P cl nu0 nu0 x0 x1 x5 h = _) (lpN (l4n P cl nu0 x0 x1 x5 h))
theorem j6_eq : j6 P cl nu nu0 x0 x1 x5 h = (xindexAddr P 33 x0 x5 h).ok1 fun t6 h => (xload P 27 t6 h).ok1 fun t7 h => (xindexAddr P 33 x1 x5 h).ok1 fun t8 h => (xload P 27 t8 h).ok1 fun t9 h => (cl (.f 17) [t7,t9] h).go .pan fun t10 h => (xun P .not t10 h).ok1 fun t11 h => ifV t11 (.ok (.bool false) h) ((xbin P .add 3 x5 (.int .i64 1) h).go .pan fun t12 h => (l4 P cl nu nu x0 x1 t12 h)) := by kernel_rfl
theorem j8_eq : j8 P cl nu nu0 h = .ok (.bool true) h := by kernel_rfl
theorem eq : runX P cl nu an19 Try.f19 [x0,x1] h = (xbuiltin P .len [33] [x0] h).go .pan fun t1 h => (xbuiltin P .len [33] [x1] h).go .pan fun t2 h => (xbin P .neq 3 t1 t2 h).go .pan fun t3 h => ifV t3 (.ok (.bool false) h) (j3 P cl nu nu x0 x1 h) := by kernel_rfl
end
end F19
namespace F20
noncomputable section
variable (P : Program) (cl : Cl) (nu mu : Nu) (x0 x1 x2 : Value) (h : H)
theorem eq : runX P cl nu an20 Try.f20 [x0,x1,x2] h = (xbin P .sub 3 x2 x1 h).go .pan fun t1 h => (xbin P .add 3 t1 (.int .i64 1) h).go .pan fun t2 h => (xbin P .rem 3 x0 t2 h).go .pan fun t3 h => (xbin P .lss 3 t3 (.int .i64 0) h).go .pan fun t4 h => ifV t4 ((xbin P .add 3 t3 x2 h).go .pan fun t5 h => (xbin P .sub 3 t5 x1 h).go .pan fun t6 h => (xbin P .add 3 t6 (.int .i64 1) h).go .pan fun t7 h => (xbin P .add 3 x1 t7 h).go .pan fun t8 h => .ok t8 h) ((xbin P .add 3 x1 t3 h).go .pan fun t9 h => .ok t9 h) := by kernel_rfl
end
end F20
namespace F31
noncomputable section
variable (P : Program) (cl : Cl) (nu mu : Nu) (x0 x1 x5 x6 x7 x9 : Value) (h : H)
end
end F31
end Go.Proofs.Ytdadiidfhnojcaa.K
