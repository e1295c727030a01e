/- My texts for this claim, in one file: part 31. -/
import Derived.Sort.Walk0
import Derived.Lib.Strings
import Derived.Sort.LotA
import Derived.Sort.LotB
import Derived.Sort.LotC
import Derived.Sort.LotD3
import Derived.Test.YtdadiidfhnojcaaWe30
namespace Go.Proofs.Ytdadiidfhnojcaa.K
open Go Go.Kx
set_option maxRecDepth 20000
set_option linter.unusedVariables false
set_option linter.defProp false
namespace F4
noncomputable section
variable (P : Program) (cl : Cl) (nu mu : Nu) (x0 x1 x5 x6 x28 x29 x66 x67 x68 x69 x72 x73 x74 x77 x78 x79 x80 x83 x84 x85 x86 x89 x90 x91 : Value) (h : H)
end
end F4
namespace F5
noncomputable section
variable (P : Program) (cl : Cl) (nu mu : Nu) (x0 x3 x4 x5 x6 x9 x10 x11 x12 x13 x14 x15 x16 x92 x93 x94 x95 x96 x97 x98 x101 x102 x103 x104 x105 x106 x107 x108 : Value) (h : H)
end
end F5
namespace F6
noncomputable section
variable (P : Program) (cl : Cl) (nu mu : Nu) (x0 x1 x5 x6 x7 x8 x11 x14 x17 x20 x23 x24 x25 x59 x60 x61 x62 : Value) (h : H)
end
end F6
namespace F7
noncomputable section
variable (P : Program) (cl : Cl) (nu mu : Nu) (x0 x1 x2 x7 x8 x10 x17 x20 x23 : Value) (h : H)
noncomputable def s := sub (bodyOf Try.f7)
noncomputable def k0 : Ko := kfn P Try.f7.results.toList
def j4 := mu 8 (evT P cl an7 nu (s [1,1,1]) (k0 P)) [(0,x0),(1,x1)] h
def k2 : Ko := kC P cl nu an7 (s [1,1,1,1,1]) (k0 P)
def k3 : Ko := kblk 0 (k2 P cl nu)
def l6 := mu 13 (lC P cl nu an7 [0,1,7,8] (s [1,1,1,1,0,1,0,0]) (k3 P cl nu)) [(0,x0),(1,x1),(7,x7),(8,x8)] h
def k4 : Ko := kL P cl nu an7 13 [0,1,7,8] (s [1,1,1,1,0,1,0,0]) (k3 P cl nu)
def j8 := mu 16 (evT P cl an7 nu (s [1,1,1,1,0,1,0,0,1]) (k4 P cl nu)) [(0,x0),(1,x1),(7,x7),(8,x8)] h
def k6 : Ko := kC P cl nu an7 (s [1,1,1,1,0,1,0,0,1,1]) (k4 P cl nu)
def k7 : Ko := kblk 1 (k6 P cl nu)
def j13 := mu 26 (evT P cl an7 nu (s [1,1,1,1,1]) (k0 P)) [(0,x0),(1,x1),(7,x7)] h
def j12 := mu 24 (evT P cl an7 nu (s [1,1,1,1,0,1,0,0,1,0,0,1,1,1]) (k7 P cl nu)) [(0,x0),(1,x1),(7,x7),(8,x8),(10,x10)] h
def j18 := mu 36 (evT P cl an7 nu (s [1,1,1,1,1,1]) (k0 P)) [(0,x0),(7,x7)] h
def j22 := mu 44 (evT P cl an7 nu (s [1,1,1,1,1,1,1,1,1]) (k0 P)) [(0,x0),(17,x17),(20,x20)] h
def k11 : Ko := kC P cl nu an7 (s [1,1,1,1,1,1,1,1,1,1]) (k0 P)
def k12 : Ko := kblk 2 (k11 P cl nu)
def l23 := mu 47 (lC P cl nu an7 [0,17,20,23] (s [1,1,1,1,1,1,1,1,1,0,1,0,0]) (k12 P cl nu)) [(0,x0),(17,x17),(20,x20),(23,x23)] h
def k13 : Ko := kL P cl nu an7 47 [0,17,20,23] (s [1,1,1,1,1,1,1,1,1,0,1,0,0]) (k12 P cl nu)
def j25 := mu 50 (evT P cl an7 nu (s [1,1,1,1,1,1,1,1,1,0,1,0,0,1]) (k13 P cl nu)) [(0,x0),(17,x17),(20,x20),(23,x23)] h
def j27 := mu 54 (evT P cl an7 nu (s [1,1,1,1,1,1,1,1,1,1]) (k0 P)) [] h
theorem j4_eq : j4 P cl nu nu0 x0 x1 h = l6 P cl nu nu x0 x1 (.slice none 0 0) (.int .i64 0) h := by kernel_rfl
theorem l6n : evT P cl an7 nu (s [1,1,1,1,0,1,0,0]) (kL P cl nu an7 13 [0,1,7,8] (s [1,1,1,1,0,1,0,0]) (k3 P cl nu)) [(0,x0),(1,x1),(7,x7),(8,x8)] h = (xbin P .lss 3 x8 x0 h).go .pan fun t4 h => ifV t4 (j8 P cl nu nu x0 x1 x7 x8 h) (j13 P cl nu nu x0 x1 x7 h) := by kernel_rfl
def l6_eq := @id (l6 P cl nu0 nu0 x0 x1 x7 x8 h = _) (lpN (l6n P cl nu0 x0 x1 x7 x8 h))
theorem j8_eq : j8 P cl nu nu0 x0 x1 x7 x8 h = (xbin P .quo 3 x8 (.int .i64 676) h).go .pan fun t5 h => (xbin P .rem 3 t5 (.int .i64 26) h).go .pan fun t6 h => (xbin P .add 3 (.int .i64 97) t6 h).go .pan fun t7 h => (xconvert P 3 5 t7 h).go .pan fun t8 h => (xbin P .quo 3 x8 (.int .i64 26) h).go .pan fun t9 h => (xbin P .rem 3 t9 (.int .i64 26) h).go .pan fun t10 h => (xbin P .add 3 (.int .i64 97) t10 h).go .pan fun t11 h => (xconvert P 3 5 t11 h).go .pan fun t12 h => (xbin P .rem 3 x8 (.int .i64 26) h).go .pan fun t13 h => (xbin P .add 3 (.int .i64 97) t13 h).go .pan fun t14 h => (xconvert P 3 5 t14 h).go .pan fun t15 h => (xbin P .quo 3 x8 (.int .i64 17576) h).go .pan fun t16 h => (xbin P .add 3 (.int .i64 97) t16 h).go .pan fun t17 h => (xconvert P 3 5 t17 h).go .pan fun t18 h => (xbuildSlice P 58 4 [(0,t8),(1,t12),(2,t15),(3,t18)] h).go .pan fun t19 h => (xconvert P 58 9 t19 h).go .pan fun t20 h => (xbin P .add 9 (.string ⟨#[111]⟩) t20 h).go .pan fun t21 h => (xbuild P 63 [(0,t21)] h).go .pan fun t22 h => (xbuildSlice P 53 1 [(0,t22)] h).go .pan fun t23 h => (xbuild P 55 [(0,t20),(3,t23)] h).go .pan fun t24 h => (xalloc P 55 h).go .pan fun t25 h => (xstore P 55 t25 t24 h).go .pan fun t26 h => (xbin P .gtr 3 x8 (.int .i64 0) h).go .pan fun t27 h => ifV t27 ((xbin P .sub 3 x8 (.int .i64 1) h).go .pan fun t28 h => (xindexAddr P 22 x7 t28 h).go .pan fun t29 h => (xfieldAddr P 55 t29 3 h).go .pan fun t30 h => (xload P 53 t30 h).go .pan fun t31 h => (xindexAddr P 53 t31 (.int .i64 0) h).go .pan fun t32 h => (xfieldAddr P 63 t32 0 h).go .pan fun t33 h => (xload P 9 t33 h).go .pan fun t34 h => (xbuildSlice P 52 1 [(0,t34)] h).go .pan fun t35 h => (xfieldAddr P 55 t25 2 h).go .pan fun t36 h => (xstore P 52 t36 t35 h).go .pan fun t37 h => (j12 P cl nu nu x0 x1 x7 x8 t25 h)) (j12 P cl nu nu x0 x1 x7 x8 t25 h) := by kernel_rfl
theorem j13_eq : j13 P cl nu nu0 x0 x1 x7 h = ifV x1 ((xbin P .sub 3 x0 (.int .i64 1) h).go .pan fun t38 h => (xindexAddr P 22 x7 t38 h).go .pan fun t39 h => (xfieldAddr P 55 t39 3 h).go .pan fun t40 h => (xload P 53 t40 h).go .pan fun t41 h => (xindexAddr P 53 t41 (.int .i64 0) h).go .pan fun t42 h => (xfieldAddr P 63 t42 0 h).go .pan fun t43 h => (xload P 9 t43 h).go .pan fun t44 h => (xbuildSlice P 52 1 [(0,t44)] h).go .pan fun t45 h => (xindexAddr P 22 x7 (.int .i64 0) h).go .pan fun t46 h => (xfieldAddr P 55 t46 2 h).go .pan fun t47 h => (xstore P 52 t47 t45 h).go .pan fun t48 h => (cl (.f 13) [x7] h).go .pan fun t49 h => (xextract t49 0 h).go .pan fun t50 h => (xextract t49 1 h).go .pan fun t51 h => (xextract t49 2 h).go .pan fun t52 h => (cl (.f 15) [x7] h).go .pan fun t53 h => (xextract t53 0 h).go .pan fun t54 h => (xextract t53 1 h).go .pan fun t55 h => (xextract t53 2 h).go .pan fun t56 h => (cl (.f 18) [t51] h).go .pan fun t57 h => (xbin P .eql 3 t57 (.int .i64 130) h).go .pan fun t58 h => ifV t58 ((cl (.f 18) [t55] h).go .pan fun t59 h => (xbin P .eql 3 t59 (.int .i64 130) h).go .pan fun t60 h => ifV t60 ((xbin P .eql 9 t52 (.string ⟨#[97,97,97,97]⟩) h).go .pan fun t61 h => ifV t61 ((xbin P .eql 9 t56 (.string ⟨#[97,97,97,97]⟩) h).go .pan fun t62 h => ifV t62 ((cl (.f 11) [] h).go .pan fun t63 h => .ok t63 h) (.ok (.bool false) h)) (.ok (.bool false) h)) (.ok (.bool false) h)) (.ok (.bool false) h)) (j18 P cl nu nu x0 x7 h) := by kernel_rfl
theorem j12_eq : j12 P cl nu nu0 x0 x1 x7 x8 x10 h = (xload P 55 x10 h).go .pan fun t64 h => (xbuildSlice P 22 1 [(0,t64)] h).go .pan fun t65 h => (xbuiltin P .append [22,22] [x7,t65] h).go .pan fun t66 h => (xbin P .add 3 x8 (.int .i64 1) h).go .pan fun t67 h => (l6 P cl nu nu x0 x1 t66 t67 h) := by kernel_rfl
theorem j18_eq : j18 P cl nu nu0 x0 x7 h = (cl (.f 13) [x7] h).go .pan fun t68 h => (xextract t68 0 h).go .pan fun t69 h => (xextract t68 1 h).go .pan fun t70 h => (xextract t68 2 h).go .pan fun t71 h => (cl (.f 15) [x7] h).go .pan fun t72 h => (xextract t72 0 h).go .pan fun t73 h => (xextract t72 1 h).go .pan fun t74 h => (xextract t72 2 h).go .pan fun t75 h => (cl (.f 18) [t70] h).go .pan fun t76 h => (xbin P .neq 3 t76 (.int .i64 0) h).go .pan fun t77 h => ifV t77 (.ok (.bool false) h) ((cl (.f 18) [t74] h).go .pan fun t78 h => (xbin P .neq 3 t78 (.int .i64 0) h).go .pan fun t79 h => ifV t79 (.ok (.bool false) h) ((xbuiltin P .len [27] [t69] h).go .pan fun t80 h => (xbin P .neq 3 t80 x0 h).go .pan fun t81 h => ifV t81 (.ok (.bool false) h) ((xbuiltin P .len [33] [t73] h).go .pan fun t82 h => (xbin P .neq 3 t82 x0 h).go .pan fun t83 h => ifV t83 (.ok (.bool false) h) (j22 P cl nu nu x0 t69 t73 h)))) := by kernel_rfl
theorem j22_eq : j22 P cl nu nu0 x0 x17 x20 h = l23 P cl nu nu x0 x17 x20 (.int .i64 0) h := by kernel_rfl
theorem l23n : evT P cl an7 nu (s [1,1,1,1,1,1,1,1,1,0,1,0,0]) (kL P cl nu an7 47 [0,17,20,23] (s [1,1,1,1,1,1,1,1,1,0,1,0,0]) (k12 P cl nu)) [(0,x0),(17,x17),(20,x20),(23,x23)] h = (xbin P .lss 3 x23 x0 h).go .pan fun t84 h => ifV t84 (j25 P cl nu nu x0 x17 x20 x23 h) (j27 P cl nu nu h) := by kernel_rfl
def l23_eq := @id (l23 P cl nu0 nu0 x0 x17 x20 x23 h = _) (lpN (l23n P cl nu0 x0 x17 x20 x23 h))
theorem j25_eq : j25 P cl nu nu0 x0 x17 x20 x23 h = (xindexAddr P 27 x17 x23 h).go .pan fun t85 h => (xload P 3 t85 h).go .pan fun t86 h => (xbin P .neq 3 t86 x23 h).go .pan fun t87 h => ifV t87 (.ok (.bool false) h) ((xindexAddr P 33 x20 x23 h).go .pan fun t88 h => (xload P 27 t88 h).go .pan fun t89 h => (xbuiltin P .len [27] [t89] h).go .pan fun t90 h => (xbin P .neq 3 t90 (.int .i64 1) h).go .pan fun t91 h => ifV t91 (.ok (.bool false) h) ((xindexAddr P 33 x20 x23 h).go .pan fun t92 h => (xload P 27 t92 h).go .pan fun t93 h => (xindexAddr P 27 t93 (.int .i64 0) h).go .pan fun t94 h => (xload P 3 t94 h).go .pan fun t95 h => (xbin P .neq 3 t95 x23 h).go .pan fun t96 h => ifV t96 (.ok (.bool false) h) ((xbin P .add 3 x23 (.int .i64 1) h).go .pan fun t97 h => (l23 P cl nu nu x0 x17 x20 t97 h)))) := by kernel_rfl
theorem j27_eq : j27 P cl nu nu0 h = (cl (.f 11) [] h).go .pan fun t98 h => .ok t98 h := by kernel_rfl
theorem eq : runX P cl nu an7 Try.f7 [x0,x1,x2] h = (cl (.f 20) [x0,(.int .i64 1),(.int .i64 3000)] h).go .pan fun t1 h => ifV x2 ((cl (.f 28) [t1] h).go .pan fun t2 h => ifV t2 ((cl (.f 11) [] h).go .pan fun t3 h => .ok t3 h) (.ok (.bool false) h)) (j4 P cl nu nu t1 x1 h) := by kernel_rfl
end
end F7
namespace F8
noncomputable section
variable (P : Program) (cl : Cl) (nu mu : Nu) (x0 x1 x5 x6 x7 x8 x9 x10 x11 x12 x15 x18 x19 x20 x21 x22 x23 x24 x25 x26 x87 x88 x89 x129 x130 : Value) (h : H)
end
end F8
namespace F23
noncomputable section
variable (P : Program) (cl : Cl) (nu mu : Nu) (x0 x1 x3 x4 x26 x57 : Value) (h : H)
end
end F23
namespace F24
noncomputable section
variable (P : Program) (cl : Cl) (nu mu : Nu) (x0 x1 x5 x6 x7 x8 x9 x24 x25 x26 x27 x28 x29 x30 x31 x32 x33 x45 x46 x47 x48 x49 x65 x66 x67 x68 x88 x89 x90 x91 x92 x93 x94 : Value) (h : H)
end
end F24
namespace F25
noncomputable section
variable (P : Program) (cl : Cl) (nu mu : Nu) (x0 x1 x5 : Value) (h : H)
end
end F25
namespace F26
noncomputable section
variable (P : Program) (cl : Cl) (nu mu : Nu) (x0 x1 x2 : Value) (h : H)
end
end F26
namespace F27
noncomputable section
variable (P : Program) (cl : Cl) (nu mu : Nu) (x0 x1 x5 x6 x7 x8 x9 x10 x11 x12 x13 x48 x49 x50 x51 x54 x55 x56 x57 x58 x61 x62 x63 x64 x65 x66 x67 x68 x69 x70 x71 x72 x73 x74 x75 x76 x90 x91 x92 x93 : Value) (h : H)
end
end F27
namespace F28
noncomputable section
variable (P : Program) (cl : Cl) (nu mu : Nu) (x0 x3 x4 x6 x8 x11 x14 : Value) (h : H)
noncomputable def s := sub (bodyOf Try.f28)
noncomputable def k0 : Ko := kfn P Try.f28.results.toList
def k1 : Ko := kC P cl nu an28 (s [1,1,1]) (k0 P)
def k2 : Ko := kblk 0 (k1 P cl nu)
def l3 := mu 7 (lC P cl nu an28 [0,3,4] (s [1,1,0,1,0,0]) (k2 P cl nu)) [(0,x0),(3,x3),(4,x4)] h
def k3 : Ko := kL P cl nu an28 7 [0,3,4] (s [1,1,0,1,0,0]) (k2 P cl nu)
def j5 := mu 10 (evT P cl an28 nu (s [1,1,0,1,0,0,1]) (k3 P cl nu)) [(0,x0),(3,x3),(4,x4)] h
def k5 : Ko := kC P cl nu an28 (s [1,1,0,1,0,0,1,1]) (k3 P cl nu)
def k6 : Ko := kblk 1 (k5 P cl nu)
def j11 := mu 22 (evT P cl an28 nu (s [1,1,1]) (k0 P)) [(0,x0),(3,x3)] h
def j10 := mu 20 (evT P cl an28 nu (s [1,1,0,1,0,0,1,0,0,1,1,1]) (k6 P cl nu)) [(0,x0),(3,x3),(4,x4),(6,x6)] h
def j15 := mu 30 (evT P cl an28 nu (s [1,1,1,1,1,1]) (k0 P)) [(0,x0),(8,x8),(11,x11)] h
def k9 : Ko := kC P cl nu an28 (s [1,1,1,1,1,1,1]) (k0 P)
def k10 : Ko := kblk 2 (k9 P cl nu)
def l16 := mu 33 (lC P cl nu an28 [0,8,11,14] (s [1,1,1,1,1,1,0,1,0,0]) (k10 P cl nu)) [(0,x0),(8,x8),(11,x11),(14,x14)] h
def k11 : Ko := kL P cl nu an28 33 [0,8,11,14] (s [1,1,1,1,1,1,0,1,0,0]) (k10 P cl nu)
def j18 := mu 36 (evT P cl an28 nu (s [1,1,1,1,1,1,0,1,0,0,1]) (k11 P cl nu)) [(0,x0),(8,x8),(11,x11),(14,x14)] h
def j20 := mu 40 (evT P cl an28 nu (s [1,1,1,1,1,1,1]) (k0 P)) [(0,x0),(11,x11)] h
theorem l3n : evT P cl an28 nu (s [1,1,0,1,0,0]) (kL P cl nu an28 7 [0,3,4] (s [1,1,0,1,0,0]) (k2 P cl nu)) [(0,x0),(3,x3),(4,x4)] h = (xbin P .lss 3 x4 x0 h).go .pan fun t1 h => ifV t1 (j5 P cl nu nu x0 x3 x4 h) (j11 P cl nu nu x0 x3 h) := by kernel_rfl
def l3_eq := @id (l3 P cl nu0 nu0 x0 x3 x4 h = _) (lpN (l3n P cl nu0 x0 x3 x4 h))
theorem j5_eq : j5 P cl nu nu0 x0 x3 x4 h = (xbin P .quo 3 x4 (.int .i64 676) h).go .pan fun t2 h => (xbin P .rem 3 t2 (.int .i64 26) h).go .pan fun t3 h => (xbin P .add 3 (.int .i64 97) t3 h).go .pan fun t4 h => (xconvert P 3 5 t4 h).go .pan fun t5 h => (xbin P .quo 3 x4 (.int .i64 26) h).go .pan fun t6 h => (xbin P .rem 3 t6 (.int .i64 26) h).go .pan fun t7 h => (xbin P .add 3 (.int .i64 97) t7 h).go .pan fun t8 h => (xconvert P 3 5 t8 h).go .pan fun t9 h => (xbin P .rem 3 x4 (.int .i64 26) h).go .pan fun t10 h => (xbin P .add 3 (.int .i64 97) t10 h).go .pan fun t11 h => (xconvert P 3 5 t11 h).go .pan fun t12 h => (xbuildSlice P 58 3 [(0,t5),(1,t9),(2,t12)] h).go .pan fun t13 h => (xconvert P 58 9 t13 h).go .pan fun t14 h => (xbin P .add 9 (.string ⟨#[111]⟩) t14 h).go .pan fun t15 h => (xbuild P 63 [(0,t15)] h).go .pan fun t16 h => (xbuildSlice P 53 1 [(0,t16)] h).go .pan fun t17 h => (xbuild P 55 [(0,t14),(3,t17)] h).go .pan fun t18 h => (xalloc P 55 h).go .pan fun t19 h => (xstore P 55 t19 t18 h).go .pan fun t20 h => (xbin P .gtr 3 x4 (.int .i64 1) h).go .pan fun t21 h => ifV t21 ((xbin P .quo 3 x4 (.int .i64 2) h).go .pan fun t22 h => (xbin P .mul 3 t22 (.int .i64 2) h).go .pan fun t23 h => (xbin P .sub 3 t23 (.int .i64 2) h).go .pan fun t24 h => (xindexAddr P 22 x3 t24 h).ok1 fun t25 h => (xfieldAddr P 55 t25 3 h).ok1 fun t26 h => (xload P 53 t26 h).ok1 fun t27 h => (xindexAddr P 53 t27 (.int .i64 0) h).ok1 fun t28 h => (xfieldAddr P 63 t28 0 h).ok1 fun t29 h => (xload P 9 t29 h).ok1 fun t30 h => bif plain2 t24 (.int .i64 1) then ((xbin P .add 3 t24 (.int .i64 1) h).ok1 fun t31 h => (xindexAddr P 22 x3 t31 h).ok1 fun t32 h => (xfieldAddr P 55 t32 3 h).ok1 fun t33 h => (xload P 53 t33 h).ok1 fun t34 h => (xindexAddr P 53 t34 (.int .i64 0) h).ok1 fun t35 h => (xfieldAddr P 63 t35 0 h).ok1 fun t36 h => (xload P 9 t36 h).ok1 fun t37 h => (xbuildSlice P 52 2 [(0,t30),(1,t37)] h).go .pan fun t38 h => (xfieldAddr P 55 t19 2 h).ok1 fun t39 h => (xstore P 52 t39 t38 h).go .pan fun t40 h => (j10 P cl nu nu x0 x3 x4 t19 h)) else .bad) (j10 P cl nu nu x0 x3 x4 t19 h) := by kernel_rfl
theorem j11_eq : j11 P cl nu nu0 x0 x3 h = (cl (.f 13) [x3] h).go .pan fun t41 h => (xextract t41 0 h).go .pan fun t42 h => (xextract t41 1 h).go .pan fun t43 h => (xextract t41 2 h).go .pan fun t44 h => (cl (.f 15) [x3] h).go .pan fun t45 h => (xextract t45 0 h).go .pan fun t46 h => (xextract t45 1 h).go .pan fun t47 h => (xextract t45 2 h).go .pan fun t48 h => (cl (.f 18) [t43] h).go .pan fun t49 h => (xbin P .neq 3 t49 (.int .i64 0) h).go .pan fun t50 h => ifV t50 (.ok (.bool false) h) ((cl (.f 18) [t47] h).go .pan fun t51 h => (xbin P .neq 3 t51 (.int .i64 0) h).go .pan fun t52 h => ifV t52 (.ok (.bool false) h) ((xbuiltin P .len [27] [t42] h).go .pan fun t53 h => (xbin P .neq 3 t53 x0 h).go .pan fun t54 h => ifV t54 (.ok (.bool false) h) ((xbuiltin P .len [33] [t46] h).go .pan fun t55 h => (xbin P .add 3 x0 (.int .i64 1) h).go .pan fun t56 h => (xbin P .quo 3 t56 (.int .i64 2) h).go .pan fun t57 h => (xbin P .neq 3 t55 t57 h).go .pan fun t58 h => ifV t58 (.ok (.bool false) h) (j15 P cl nu nu x0 t42 t46 h)))) := by kernel_rfl
theorem j10_eq : j10 P cl nu nu0 x0 x3 x4 x6 h = (xload P 55 x6 h).go .pan fun t59 h => (xbuildSlice P 22 1 [(0,t59)] h).go .pan fun t60 h => (xbuiltin P .append [22,22] [x3,t60] h).go .pan fun t61 h => (xbin P .add 3 x4 (.int .i64 1) h).go .pan fun t62 h => (l3 P cl nu nu x0 t61 t62 h) := by kernel_rfl
theorem j15_eq : j15 P cl nu nu0 x0 x8 x11 h = l16 P cl nu nu x0 x8 x11 (.int .i64 0) h := by kernel_rfl
theorem l16n : evT P cl an28 nu (s [1,1,1,1,1,1,0,1,0,0]) (kL P cl nu an28 33 [0,8,11,14] (s [1,1,1,1,1,1,0,1,0,0]) (k10 P cl nu)) [(0,x0),(8,x8),(11,x11),(14,x14)] h = (xbin P .lss 3 x14 x0 h).go .pan fun t63 h => ifV t63 (j18 P cl nu nu x0 x8 x11 x14 h) (j20 P cl nu nu x0 x11 h) := by kernel_rfl
def l16_eq := @id (l16 P cl nu0 nu0 x0 x8 x11 x14 h = _) (lpN (l16n P cl nu0 x0 x8 x11 x14 h))
theorem j18_eq : j18 P cl nu nu0 x0 x8 x11 x14 h = (xindexAddr P 27 x8 x14 h).go .pan fun t64 h => (xload P 3 t64 h).go .pan fun t65 h => (xbin P .neq 3 t65 x14 h).go .pan fun t66 h => ifV t66 (.ok (.bool false) h) ((xbin P .quo 3 x14 (.int .i64 2) h).go .pan fun t67 h => (xindexAddr P 33 x11 t67 h).go .pan fun t68 h => (xload P 27 t68 h).go .pan fun t69 h => (xbuiltin P .len [27] [t69] h).go .pan fun t70 h => (xbin P .rem 3 x14 (.int .i64 2) h).go .pan fun t71 h => (xbin P .leq 3 t70 t71 h).go .pan fun t72 h => ifV t72 (.ok (.bool false) h) ((xbin P .quo 3 x14 (.int .i64 2) h).go .pan fun t73 h => (xindexAddr P 33 x11 t73 h).go .pan fun t74 h => (xload P 27 t74 h).go .pan fun t75 h => (xbin P .rem 3 x14 (.int .i64 2) h).go .pan fun t76 h => (xindexAddr P 27 t75 t76 h).go .pan fun t77 h => (xload P 3 t77 h).go .pan fun t78 h => (xbin P .neq 3 t78 x14 h).go .pan fun t79 h => ifV t79 (.ok (.bool false) h) ((xbin P .add 3 x14 (.int .i64 1) h).go .pan fun t80 h => (l16 P cl nu nu x0 x8 x11 t80 h)))) := by kernel_rfl
theorem j20_eq : j20 P cl nu nu0 x0 x11 h = (xbuiltin P .len [33] [x11] h).go .pan fun t81 h => (xbin P .sub 3 t81 (.int .i64 1) h).go .pan fun t82 h => (xindexAddr P 33 x11 t82 h).go .pan fun t83 h => (xload P 27 t83 h).go .pan fun t84 h => (xbuiltin P .len [27] [t84] h).go .pan fun t85 h => (xbin P .rem 3 x0 (.int .i64 2) h).go .pan fun t86 h => (xbin P .sub 3 (.int .i64 2) t86 h).go .pan fun t87 h => (xbin P .eql 3 t85 t87 h).go .pan fun t88 h => .ok t88 h := by kernel_rfl
theorem eq : runX P cl nu an28 Try.f28 [x0] h = l3 P cl nu nu x0 (.slice none 0 0) (.int .i64 0) h := by kernel_rfl
end
end F28
namespace F29
noncomputable section
variable (P : Program) (cl : Cl) (nu mu : Nu) (x0 x1 : Value) (h : H)
end
end F29
namespace F30
noncomputable section
variable (P : Program) (cl : Cl) (nu mu : Nu) (x0 x3 x4 x5 x6 x7 x8 x9 x10 : Value) (h : H)
end
end F30
namespace F43
noncomputable section
variable (P : Program) (cl : Cl) (nu mu : Nu) (x0 x3 : Value) (h : H)
end
end F43
namespace F57
noncomputable section
variable (P : Program) (cl : Cl) (nu mu : Nu) (x0 x1 x5 : Value) (h : H)
end
end F57
end Go.Proofs.Ytdadiidfhnojcaa.K
namespace Go.Proofs.Ytdadiidfhnojcaa.K
open Go Go.Kx
set_option maxRecDepth 20000
theorem fa55_0 (b o : Nat) (h : H) : xfieldAddr Try.prog 55 (.pointer (some ⟨b,o,none⟩)) 0 h = .ok (.pointer (some ⟨b,o,none⟩)) h := Eq.trans (by kernel_rfl) rfl
theorem fa55_2 (b o : Nat) (h : H) : xfieldAddr Try.prog 55 (.pointer (some ⟨b,o,none⟩)) 2 h = .ok (.pointer (some ⟨b,o + 2,none⟩)) h := Eq.trans (by kernel_rfl) rfl
theorem fa55_3 (b o : Nat) (h : H) : xfieldAddr Try.prog 55 (.pointer (some ⟨b,o,none⟩)) 3 h = .ok (.pointer (some ⟨b,o + 3,none⟩)) h := Eq.trans (by kernel_rfl) rfl
theorem fa63_0 (b o : Nat) (h : H) : xfieldAddr Try.prog 63 (.pointer (some ⟨b,o,none⟩)) 0 h = .ok (.pointer (some ⟨b,o,none⟩)) h := Eq.trans (by kernel_rfl) rfl
theorem fa79_0 (b o : Nat) (h : H) : xfieldAddr Try.prog 79 (.pointer (some ⟨b,o,none⟩)) 0 h = .ok (.pointer (some ⟨b,o,none⟩)) h := Eq.trans (by kernel_rfl) rfl
theorem fa79_1 (b o : Nat) (h : H) : xfieldAddr Try.prog 79 (.pointer (some ⟨b,o,none⟩)) 1 h = .ok (.pointer (some ⟨b,o + 1,none⟩)) h := Eq.trans (by kernel_rfl) rfl
theorem fa79_2 (b o : Nat) (h : H) : xfieldAddr Try.prog 79 (.pointer (some ⟨b,o,none⟩)) 2 h = .ok (.pointer (some ⟨b,o + 2,none⟩)) h := Eq.trans (by kernel_rfl) rfl
theorem ld114 (a : Addr) (h : H) : xload Try.prog 114 (.pointer (some a)) h = ofO (h.cell a) h := Eq.trans (by kernel_rfl) rfl
theorem ld22 (a : Addr) (h : H) : xload Try.prog 22 (.pointer (some a)) h = ofO (h.cell a) h := Eq.trans (by kernel_rfl) rfl
theorem ld27 (a : Addr) (h : H) : xload Try.prog 27 (.pointer (some a)) h = ofO (h.cell a) h := Eq.trans (by kernel_rfl) rfl
theorem ld3 (a : Addr) (h : H) : xload Try.prog 3 (.pointer (some a)) h = ofO (h.cell a) h := Eq.trans (by kernel_rfl) rfl
theorem ld33 (a : Addr) (h : H) : xload Try.prog 33 (.pointer (some a)) h = ofO (h.cell a) h := Eq.trans (by kernel_rfl) rfl
theorem ld4 (a : Addr) (h : H) : xload Try.prog 4 (.pointer (some a)) h = ofO (h.cell a) h := Eq.trans (by kernel_rfl) rfl
theorem ld52 (a : Addr) (h : H) : xload Try.prog 52 (.pointer (some a)) h = ofO (h.cell a) h := Eq.trans (by kernel_rfl) rfl
theorem ld53 (a : Addr) (h : H) : xload Try.prog 53 (.pointer (some a)) h = ofO (h.cell a) h := Eq.trans (by kernel_rfl) rfl
theorem ld55 (a : Addr) (h : H) : xload Try.prog 55 (.pointer (some a)) h = ofA (h.row a 4) h := by
  show (match h.row a (Try.prog.cellsOf 55) with | some l => (Res.ok (Value.agg ⟨l⟩) h : Res Value) | none => .bad) = _
  rw [show Try.prog.cellsOf 55 = 4 by kernel_rfl]; rfl
theorem ld63 (a : Addr) (h : H) : xload Try.prog 63 (.pointer (some a)) h = ofA (h.row a 6) h := by
  show (match h.row a (Try.prog.cellsOf 63) with | some l => (Res.ok (Value.agg ⟨l⟩) h : Res Value) | none => .bad) = _
  rw [show Try.prog.cellsOf 63 = 6 by kernel_rfl]; rfl
theorem ld9 (a : Addr) (h : H) : xload Try.prog 9 (.pointer (some a)) h = ofO (h.cell a) h := Eq.trans (by kernel_rfl) rfl
theorem st114 (a : Addr) (v : Value) (h : H) (hv : v.cells.size = 1) : xstore Try.prog 114 (.pointer (some a)) v h = ofU (h.write a v.cells.toList) := by
  unfold xstore
  simp only [show szOk Try.prog 114 = true by kernel_rfl,show Try.prog.cellsOf 114 = 1 by kernel_rfl,hv]; rfl
theorem st27 (a : Addr) (v : Value) (h : H) (hv : v.cells.size = 1) : xstore Try.prog 27 (.pointer (some a)) v h = ofU (h.write a v.cells.toList) := by
  unfold xstore
  simp only [show szOk Try.prog 27 = true by kernel_rfl,show Try.prog.cellsOf 27 = 1 by kernel_rfl,hv]; rfl
theorem st3 (a : Addr) (v : Value) (h : H) (hv : v.cells.size = 1) : xstore Try.prog 3 (.pointer (some a)) v h = ofU (h.write a v.cells.toList) := by
  unfold xstore
  simp only [show szOk Try.prog 3 = true by kernel_rfl,show Try.prog.cellsOf 3 = 1 by kernel_rfl,hv]; rfl
theorem st4 (a : Addr) (v : Value) (h : H) (hv : v.cells.size = 1) : xstore Try.prog 4 (.pointer (some a)) v h = ofU (h.write a v.cells.toList) := by
  unfold xstore
  simp only [show szOk Try.prog 4 = true by kernel_rfl,show Try.prog.cellsOf 4 = 1 by kernel_rfl,hv]; rfl
theorem st52 (a : Addr) (v : Value) (h : H) (hv : v.cells.size = 1) : xstore Try.prog 52 (.pointer (some a)) v h = ofU (h.write a v.cells.toList) := by
  unfold xstore
  simp only [show szOk Try.prog 52 = true by kernel_rfl,show Try.prog.cellsOf 52 = 1 by kernel_rfl,hv]; rfl
theorem st55 (a : Addr) (v : Value) (h : H) (hv : v.cells.size = 4) : xstore Try.prog 55 (.pointer (some a)) v h = ofU (h.write a v.cells.toList) := by
  unfold xstore
  simp only [show szOk Try.prog 55 = true by kernel_rfl,show Try.prog.cellsOf 55 = 4 by kernel_rfl,hv]; rfl
theorem st63 (a : Addr) (v : Value) (h : H) (hv : v.cells.size = 6) : xstore Try.prog 63 (.pointer (some a)) v h = ofU (h.write a v.cells.toList) := by
  unfold xstore
  simp only [show szOk Try.prog 63 = true by kernel_rfl,show Try.prog.cellsOf 63 = 6 by kernel_rfl,hv]; rfl
theorem ia22 (b o len cap n : Nat) (sp : Option Nat) (k : IntKind) (h : H) (hn : n < len) : xindexAddr Try.prog 22 (.slice (some ⟨b,o,sp⟩) len cap) (.int k (n : Int)) h = .ok (.pointer (some ⟨b,o + n * 4,none⟩)) h := by
  show (bif Nat.blt n len && szOk Try.prog 55 then Res.ok (Value.pointer (some ⟨b,o + n * Try.prog.cellsOf 55,none⟩)) h else .bad) = _
  rw [show szOk Try.prog 55 = true by kernel_rfl,show Try.prog.cellsOf 55 = 4 by kernel_rfl,bltT hn]; rfl
theorem ia27 (b o len cap n : Nat) (sp : Option Nat) (k : IntKind) (h : H) (hn : n < len) : xindexAddr Try.prog 27 (.slice (some ⟨b,o,sp⟩) len cap) (.int k (n : Int)) h = .ok (.pointer (some ⟨b,o + n * 1,none⟩)) h := by
  show (bif Nat.blt n len && szOk Try.prog 3 then Res.ok (Value.pointer (some ⟨b,o + n * Try.prog.cellsOf 3,none⟩)) h else .bad) = _
  rw [show szOk Try.prog 3 = true by kernel_rfl,show Try.prog.cellsOf 3 = 1 by kernel_rfl,bltT hn]; rfl
theorem ia33 (b o len cap n : Nat) (sp : Option Nat) (k : IntKind) (h : H) (hn : n < len) : xindexAddr Try.prog 33 (.slice (some ⟨b,o,sp⟩) len cap) (.int k (n : Int)) h = .ok (.pointer (some ⟨b,o + n * 1,none⟩)) h := by
  show (bif Nat.blt n len && szOk Try.prog 27 then Res.ok (Value.pointer (some ⟨b,o + n * Try.prog.cellsOf 27,none⟩)) h else .bad) = _
  rw [show szOk Try.prog 27 = true by kernel_rfl,show Try.prog.cellsOf 27 = 1 by kernel_rfl,bltT hn]; rfl
theorem ia52 (b o len cap n : Nat) (sp : Option Nat) (k : IntKind) (h : H) (hn : n < len) : xindexAddr Try.prog 52 (.slice (some ⟨b,o,sp⟩) len cap) (.int k (n : Int)) h = .ok (.pointer (some ⟨b,o + n * 1,none⟩)) h := by
  show (bif Nat.blt n len && szOk Try.prog 9 then Res.ok (Value.pointer (some ⟨b,o + n * Try.prog.cellsOf 9,none⟩)) h else .bad) = _
  rw [show szOk Try.prog 9 = true by kernel_rfl,show Try.prog.cellsOf 9 = 1 by kernel_rfl,bltT hn]; rfl
theorem ia53 (b o len cap n : Nat) (sp : Option Nat) (k : IntKind) (h : H) (hn : n < len) : xindexAddr Try.prog 53 (.slice (some ⟨b,o,sp⟩) len cap) (.int k (n : Int)) h = .ok (.pointer (some ⟨b,o + n * 6,none⟩)) h := by
  show (bif Nat.blt n len && szOk Try.prog 63 then Res.ok (Value.pointer (some ⟨b,o + n * Try.prog.cellsOf 63,none⟩)) h else .bad) = _
  rw [show szOk Try.prog 63 = true by kernel_rfl,show Try.prog.cellsOf 63 = 6 by kernel_rfl,bltT hn]; rfl
theorem ia83 (b o len cap n : Nat) (sp : Option Nat) (k : IntKind) (h : H) (hn : n < len) : xindexAddr Try.prog 83 (.slice (some ⟨b,o,sp⟩) len cap) (.int k (n : Int)) h = .ok (.pointer (some ⟨b,o + n * 1,none⟩)) h := by
  show (bif Nat.blt n len && szOk Try.prog 4 then Res.ok (Value.pointer (some ⟨b,o + n * Try.prog.cellsOf 4,none⟩)) h else .bad) = _
  rw [show szOk Try.prog 4 = true by kernel_rfl,show Try.prog.cellsOf 4 = 1 by kernel_rfl,bltT hn]; rfl
noncomputable def zc114 : List Value := match zeroOf Try.prog 114 with | some z => z.cells.toList | none => []
theorem al114 (h : H) : xalloc Try.prog 114 h = .ok (.pointer (some ⟨h.next,0,none⟩)) (h.alloc (.cells zc114 114 0 false)) := Eq.trans (by kernel_rfl) rfl
noncomputable def zc3 : List Value := match zeroOf Try.prog 3 with | some z => z.cells.toList | none => []
theorem al3 (h : H) : xalloc Try.prog 3 h = .ok (.pointer (some ⟨h.next,0,none⟩)) (h.alloc (.cells zc3 3 0 false)) := Eq.trans (by kernel_rfl) rfl
noncomputable def zc55 : List Value := match zeroOf Try.prog 55 with | some z => z.cells.toList | none => []
theorem al55 (h : H) : xalloc Try.prog 55 h = .ok (.pointer (some ⟨h.next,0,none⟩)) (h.alloc (.cells zc55 55 0 false)) := Eq.trans (by kernel_rfl) rfl
theorem zc55_len : zc55.length = 4 := by kernel_rfl
noncomputable def zc63 : List Value := match zeroOf Try.prog 63 with | some z => z.cells.toList | none => []
theorem al63 (h : H) : xalloc Try.prog 63 h = .ok (.pointer (some ⟨h.next,0,none⟩)) (h.alloc (.cells zc63 63 0 false)) := Eq.trans (by kernel_rfl) rfl
theorem zc63_len : zc63.length = 6 := by kernel_rfl
theorem zc63_ones : ones zc63 = true := by kernel_rfl
theorem ln22 (b : Option Addr) (n c : Nat) (h : H) : xbuiltin Try.prog .len [22] [.slice b n c] h = .ok (.int .i64 (n : Int)) h := Eq.trans (by kernel_rfl) rfl
theorem ln27 (b : Option Addr) (n c : Nat) (h : H) : xbuiltin Try.prog .len [27] [.slice b n c] h = .ok (.int .i64 (n : Int)) h := Eq.trans (by kernel_rfl) rfl
theorem ln33 (b : Option Addr) (n c : Nat) (h : H) : xbuiltin Try.prog .len [33] [.slice b n c] h = .ok (.int .i64 (n : Int)) h := Eq.trans (by kernel_rfl) rfl
theorem ln52 (b : Option Addr) (n c : Nat) (h : H) : xbuiltin Try.prog .len [52] [.slice b n c] h = .ok (.int .i64 (n : Int)) h := Eq.trans (by kernel_rfl) rfl
theorem ln53 (b : Option Addr) (n c : Nat) (h : H) : xbuiltin Try.prog .len [53] [.slice b n c] h = .ok (.int .i64 (n : Int)) h := Eq.trans (by kernel_rfl) rfl
theorem cv111_5 (j : IntKind) (n : Int) (h : H) : xconvert Try.prog 111 5 (.int j n) h = .ok (.int .u8 (IntKind.u8.wrap n)) h := Eq.trans (by kernel_rfl) rfl
theorem cv3_114 (j : IntKind) (n : Int) (h : H) : xconvert Try.prog 3 114 (.int j n) h = .ok (.int .u64 (IntKind.u64.wrap n)) h := Eq.trans (by kernel_rfl) rfl
theorem cv3_5 (j : IntKind) (n : Int) (h : H) : xconvert Try.prog 3 5 (.int j n) h = .ok (.int .u8 (IntKind.u8.wrap n)) h := Eq.trans (by kernel_rfl) rfl
theorem cv3_95 (j : IntKind) (n : Int) (h : H) : xconvert Try.prog 3 95 (.int j n) h = .ok (.int .u64 (IntKind.u64.wrap n)) h := Eq.trans (by kernel_rfl) rfl
theorem cv5_3 (j : IntKind) (n : Int) (h : H) : xconvert Try.prog 5 3 (.int j n) h = .ok (.int .i64 (IntKind.i64.wrap n)) h := Eq.trans (by kernel_rfl) rfl
theorem cv95_3 (j : IntKind) (n : Int) (h : H) : xconvert Try.prog 95 3 (.int j n) h = .ok (.int .i64 (IntKind.i64.wrap n)) h := Eq.trans (by kernel_rfl) rfl
theorem un27 : Try.prog.underlying 27 = some (.slice 3) := by kernel_rfl
theorem un52 : Try.prog.underlying 52 = some (.slice 9) := by kernel_rfl
theorem un58 : Try.prog.underlying 58 = some (.slice 5) := by kernel_rfl
theorem sz3 : szOk Try.prog 3 = true := by kernel_rfl
end Go.Proofs.Ytdadiidfhnojcaa.K
namespace Go.Proofs.Ytdadiidfhnojcaa.K
open Go Go.Kx
set_option linter.unusedVariables false
noncomputable def primM : Pr := fun f args h => match f with
  | 47 => insP Try.prog 27 args h
  | _ => .bad
theorem pmInsert (args : List Value) (h : H) : primM 47 args h = insP Try.prog 27 args h := by kernel_rfl
end Go.Proofs.Ytdadiidfhnojcaa.K
namespace Go.Proofs.Ytdadiidfhnojcaa.K
open Go Go.Kx
set_option maxRecDepth 20000
set_option linter.unusedVariables false
noncomputable def tabM : Tab := fun f => match f with
  | 47 => none
  | n => tab n
noncomputable def CLM : Cl := clS Try.prog tabM primM
variable (args : List Value) (h : H)
theorem cM7 : CLM (.f 7) args h = runX Try.prog CLM nu0 an7 Try.f7 args h := clS_eq (by kernel_rfl) args h
theorem cM11 : CLM (.f 11) args h = runX Try.prog CLM nu0 an11 Try.f11 args h := clS_eq (by kernel_rfl) args h
theorem cM13 : CLM (.f 13) args h = runX Try.prog CLM nu0 an13 Try.f13 args h := clS_eq (by kernel_rfl) args h
theorem cM15 : CLM (.f 15) args h = runX Try.prog CLM nu0 an15 Try.f15 args h := clS_eq (by kernel_rfl) args h
theorem cM17 : CLM (.f 17) args h = runX Try.prog CLM nu0 an17 Try.f17 args h := clS_eq (by kernel_rfl) args h
theorem cM18 : CLM (.f 18) args h = runX Try.prog CLM nu0 an18 Try.f18 args h := clS_eq (by kernel_rfl) args h
theorem cM20 : CLM (.f 20) args h = runX Try.prog CLM nu0 an20 Try.f20 args h := clS_eq (by kernel_rfl) args h
theorem cM21 : CLM (.f 21) args h = runX Try.prog CLM nu0 an21 Try.f21 args h := clS_eq (by kernel_rfl) args h
theorem cM28 : CLM (.f 28) args h = runX Try.prog CLM nu0 an28 Try.f28 args h := clS_eq (by kernel_rfl) args h
theorem cM32 : CLM (.f 32) args h = runX Try.prog CLM nu0 an32 Try.f32 args h := clS_eq (by kernel_rfl) args h
theorem cM33 : CLM (.f 33) args h = runX Try.prog CLM nu0 an33 Try.f33 args h := clS_eq (by kernel_rfl) args h
theorem cM34 : CLM (.f 34) args h = runX Try.prog CLM nu0 an34 Try.f34 args h := clS_eq (by kernel_rfl) args h
theorem cM39 : CLM (.f 39) args h = runX Try.prog CLM nu0 an39 Try.f39 args h := clS_eq (by kernel_rfl) args h
theorem cM40 : CLM (.f 40) args h = runX Try.prog CLM nu0 an40 Try.f40 args h := clS_eq (by kernel_rfl) args h
theorem cM41 : CLM (.f 41) args h = runX Try.prog CLM nu0 an41 Try.f41 args h := clS_eq (by kernel_rfl) args h
theorem cM44 : CLM (.f 44) args h = runX Try.prog CLM nu0 an44 Try.f44 args h := clS_eq (by kernel_rfl) args h
theorem cM45 : CLM (.f 45) args h = runX Try.prog CLM nu0 an45 Try.f45 args h := clS_eq (by kernel_rfl) args h
theorem cM46 : CLM (.f 46) args h = runX Try.prog CLM nu0 an46 Try.f46 args h := clS_eq (by kernel_rfl) args h
theorem cM49 : CLM (.f 49) args h = runX Try.prog CLM nu0 an49 Try.f49 args h := clS_eq (by kernel_rfl) args h
theorem cM50 : CLM (.f 50) args h = runX Try.prog CLM nu0 an50 Try.f50 args h := clS_eq (by kernel_rfl) args h
theorem cM51 : CLM (.f 51) args h = runX Try.prog CLM nu0 an51 Try.f51 args h := clS_eq (by kernel_rfl) args h
theorem cM52 : CLM (.f 52) args h = runX Try.prog CLM nu0 an52 Try.f52 args h := clS_eq (by kernel_rfl) args h
theorem cM53 : CLM (.f 53) args h = runX Try.prog CLM nu0 an53 Try.f53 args h := clS_eq (by kernel_rfl) args h
theorem cM54 : CLM (.f 54) args h = runX Try.prog CLM nu0 an54 Try.f54 args h := clS_eq (by kernel_rfl) args h
theorem cM55 : CLM (.f 55) args h = runX Try.prog CLM nu0 an55 Try.f55 args h := clS_eq (by kernel_rfl) args h
theorem cM56 : CLM (.f 56) args h = runX Try.prog CLM nu0 an56 Try.f56 args h := clS_eq (by kernel_rfl) args h
theorem cM58 : CLM (.f 58) args h = runX Try.prog CLM nu0 an58 Try.f58 args h := clS_eq (by kernel_rfl) args h
theorem cM61 : CLM (.f 61) args h = runX Try.prog CLM nu0 an61 Try.f61 args h := clS_eq (by kernel_rfl) args h
theorem cM62 : CLM (.f 62) args h = runX Try.prog CLM nu0 an62 Try.f62 args h := clS_eq (by kernel_rfl) args h
theorem cM63 : CLM (.f 63) args h = runX Try.prog CLM nu0 an63 Try.f63 args h := clS_eq (by kernel_rfl) args h
theorem cM64 : CLM (.f 64) args h = runX Try.prog CLM nu0 an64 Try.f64 args h := clS_eq (by kernel_rfl) args h
theorem cM65 : CLM (.f 65) args h = runX Try.prog CLM nu0 an65 Try.f65 args h := clS_eq (by kernel_rfl) args h
theorem cM66 : CLM (.f 66) args h = runX Try.prog CLM nu0 an66 Try.f66 args h := clS_eq (by kernel_rfl) args h
theorem cM67 : CLM (.f 67) args h = runX Try.prog CLM nu0 an67 Try.f67 args h := clS_eq (by kernel_rfl) args h
theorem cM68 : CLM (.f 68) args h = runX Try.prog CLM nu0 an68 Try.f68 args h := clS_eq (by kernel_rfl) args h
theorem cM70 : CLM (.f 70) args h = runX Try.prog CLM nu0 an70 Try.f70 args h := clS_eq (by kernel_rfl) args h
theorem cM71 : CLM (.f 71) args h = runX Try.prog CLM nu0 an71 Try.f71 args h := clS_eq (by kernel_rfl) args h
theorem cM72 : CLM (.f 72) args h = runX Try.prog CLM nu0 an72 Try.f72 args h := clS_eq (by kernel_rfl) args h
theorem cM73 : CLM (.f 73) args h = runX Try.prog CLM nu0 an73 Try.f73 args h := clS_eq (by kernel_rfl) args h
theorem cM75 : CLM (.f 75) args h = runX Try.prog CLM nu0 an75 Try.f75 args h := clS_eq (by kernel_rfl) args h
theorem cM76 : CLM (.f 76) args h = runX Try.prog CLM nu0 an76 Try.f76 args h := clS_eq (by kernel_rfl) args h
theorem cM77 : CLM (.f 77) args h = runX Try.prog CLM nu0 an77 Try.f77 args h := clS_eq (by kernel_rfl) args h
theorem cM78 : CLM (.f 78) args h = runX Try.prog CLM nu0 an78 Try.f78 args h := clS_eq (by kernel_rfl) args h
theorem cM79 : CLM (.f 79) args h = runX Try.prog CLM nu0 an79 Try.f79 args h := clS_eq (by kernel_rfl) args h
theorem cM80 : CLM (.f 80) args h = runX Try.prog CLM nu0 an80 Try.f80 args h := clS_eq (by kernel_rfl) args h
theorem cM81 : CLM (.f 81) args h = runX Try.prog CLM nu0 an81 Try.f81 args h := clS_eq (by kernel_rfl) args h
theorem cM82 : CLM (.f 82) args h = runX Try.prog CLM nu0 an82 Try.f82 args h := clS_eq (by kernel_rfl) args h
theorem cM83 : CLM (.f 83) args h = runX Try.prog CLM nu0 an83 Try.f83 args h := clS_eq (by kernel_rfl) args h
theorem cM84 : CLM (.f 84) args h = runX Try.prog CLM nu0 an84 Try.f84 args h := clS_eq (by kernel_rfl) args h
theorem cM85 : CLM (.f 85) args h = runX Try.prog CLM nu0 an85 Try.f85 args h := clS_eq (by kernel_rfl) args h
theorem cM86 : CLM (.f 86) args h = runX Try.prog CLM nu0 an86 Try.f86 args h := clS_eq (by kernel_rfl) args h
theorem cM87 : CLM (.f 87) args h = runX Try.prog CLM nu0 an87 Try.f87 args h := clS_eq (by kernel_rfl) args h
theorem cM88 : CLM (.f 88) args h = runX Try.prog CLM nu0 an88 Try.f88 args h := clS_eq (by kernel_rfl) args h
theorem cM90 : CLM (.f 90) args h = runX Try.prog CLM nu0 an90 Try.f90 args h := clS_eq (by kernel_rfl) args h
theorem cM91 : CLM (.f 91) args h = runX Try.prog CLM nu0 an91 Try.f91 args h := clS_eq (by kernel_rfl) args h
theorem cM92 : CLM (.f 92) args h = runX Try.prog CLM nu0 an92 Try.f92 args h := clS_eq (by kernel_rfl) args h
theorem cM93 : CLM (.f 93) args h = runX Try.prog CLM nu0 an93 Try.f93 args h := clS_eq (by kernel_rfl) args h
theorem cM94 : CLM (.f 94) args h = runX Try.prog CLM nu0 an94 Try.f94 args h := clS_eq (by kernel_rfl) args h
theorem cM47 (args : List Value) (h : H) : CLM (.f 47) args h = primM 47 args h := clS_prim (by kernel_rfl) args h
end Go.Proofs.Ytdadiidfhnojcaa.K
namespace Go.Kx
open Go
set_option linter.unusedVariables false
set_option linter.unusedSimpArgs false
section
variable (P : Program) (t : TypeId) (k : IntKind) (a b : Int) (h : H)
theorem xmul : xbin P .mul t (.int k a) (.int k b) h = .ok (.int k (k.wrap (a * b))) h := by simp [xbin,flat,binOp,Op.intArith,prun,xflat,pure,Sem.pure]
theorem xquo (hb : b ≠ 0) : xbin P .quo t (.int k a) (.int k b) h = .ok (.int k (k.wrap (a.tdiv b))) h := by simp [xbin,flat,binOp,Op.intDiv,hb,prun,xflat,pure,Sem.pure]
theorem xrem (hb : b ≠ 0) : xbin P .rem t (.int k a) (.int k b) h = .ok (.int k (a.tmod b)) h := by simp [xbin,flat,binOp,Op.intDiv,hb,prun,xflat,pure,Sem.pure]
theorem xand : xbin P .and t (.int k a) (.int k b) h = .ok (.int k (k.wrap ((BitVec.ofInt k.bits a &&& BitVec.ofInt k.bits b).toNat))) h := by simp [xbin,flat,binOp,Op.intBits,prun,xflat,pure,Sem.pure]
theorem xxor : xbin P .xor t (.int k a) (.int k b) h = .ok (.int k (k.wrap ((BitVec.ofInt k.bits a ^^^ BitVec.ofInt k.bits b).toNat))) h := by simp [xbin,flat,binOp,Op.intBits,prun,xflat,pure,Sem.pure]
theorem xshl (j : IntKind) (hb : ¬ b < 0) : xbin P .shl t (.int k a) (.int j b) h = .ok (.int k (k.wrap (a * 2 ^ (min b.toNat k.bits)))) h := by simp [xbin,flat,binOp,Op.shift,hb,prun,xflat,pure,Sem.pure]
theorem xshr (j : IntKind) (hb : ¬ b < 0) : xbin P .shr t (.int k a) (.int j b) h = .ok (.int k (a.fdiv (2 ^ (min b.toNat k.bits)))) h := by simp [xbin,flat,binOp,Op.shift,hb,prun,xflat,pure,Sem.pure]
end
theorem wadd {a b : Nat} (h : a + b < 4611686018427387904) : IntKind.i64.wrap ((a : Int) + (b : Int)) = ((a + b : Nat) : Int) := by rw [wrap64 (by omega)]; omega
theorem wadd1 {a : Nat} (h : a < 4611686018427387904) : IntKind.i64.wrap ((a : Int) + 1) = ((a + 1 : Nat) : Int) := by rw [wrap64 (by omega)]; omega
theorem wsub {a b : Nat} (hb : b ≤ a) (h : a < 4611686018427387904) : IntKind.i64.wrap ((a : Int) - (b : Int)) = ((a - b : Nat) : Int) := by rw [wrap64 (by omega)]; omega
theorem wsub1 {a : Nat} (hb : 1 ≤ a) (h : a < 4611686018427387904) : IntKind.i64.wrap ((a : Int) - 1) = ((a - 1 : Nat) : Int) := by rw [wrap64 (by omega)]; omega
theorem wmul {a b : Nat} (h : a * b < 4611686018427387904) : IntKind.i64.wrap ((a : Int) * (b : Int)) = ((a * b : Nat) : Int) := by rw [wrap64 (by have : ((a * b : Nat) : Int) = (a : Int) * (b : Int) := Int.natCast_mul a b; omega)]; exact (Int.natCast_mul a b).symm
theorem wn {a : Nat} (h : a < 4611686018427387904) : IntKind.i64.wrap (a : Int) = (a : Int) := wrap64 (by omega)
theorem wun {a : Nat} (h : a < 4611686018427387904) : IntKind.u64.wrap (a : Int) = (a : Int) := wrapu64 (by omega)
theorem tdivn (a b : Nat) : (a : Int).tdiv (b : Int) = ((a / b : Nat) : Int) := by
  rw [Int.tdiv_eq_ediv_of_nonneg (Int.natCast_nonneg a)]; rfl
theorem xidx_str {P : Program} {t : TypeId} (hu : P.underlying t = some .string) {s : ByteArray} {n : Nat} (k : IntKind) (h : H) {c : UInt8} (hc : s.data[n]? = some c) : xindex P t (.string s) (.int k (n : Int)) h = .ok (.int .u8 (c.toNat : Int)) h := by
  have h1 : s.data.toList[n]? = some c := by rw [Array.getElem?_toList]; exact hc
  unfold xindex
  rw [hu]
  show (match s.data.toList[n]? with | some b => (Res.ok (Value.int .u8 b.toNat) h : Res Value) | none => .bad) = _
  rw [h1]
theorem xslice_m0 {P : Program} {t e : TypeId} {b o n cap : Nat} {h : H} (hu : P.underlying t = some (.slice e)) (hz : szOk P e = true) (hc : n ≤ cap) :
    xslice P t (.slice (some ⟨b,o,none⟩) n cap) none (some (.int .i64 (n : Nat))) (some (.int .i64 (n : Nat))) h = .ok (.slice (some ⟨b,o,some 0⟩) n n) h := by
  have e0 : (cutAt false ⟨b,o,none⟩ 0 n (P.cellsOf e)).off = o := by
    unfold cutAt
    cases q : Nat.beq n 0 with
    | true => rfl
    | false => simp
  unfold xslice
  have h1 : asNat? none 0 = some 0 := rfl
  have h2 : asNat? (some (Value.int .i64 (n : Nat))) n = some n := rfl
  have h3 : asNat? (some (Value.int .i64 (n : Nat))) cap = some n := rfl
  simp only [hu,h1,h2,h3,Nat.ble_eq_true_of_le (Nat.zero_le n),Nat.ble_eq_true_of_le (Nat.le_refl n),Nat.ble_eq_true_of_le hc,hz,Bool.and_true,cond_true,Option.isSome_some,e0,Nat.sub_zero]
theorem write_cell' {h : H} {b k : Nat} {c : List Value} {el : TypeId} {op : Bool} (hg : h.get b = some (.cells c el 0 op)) (hk : k < c.length) {v : Value} (hv : v.oneCell' = true) : h.write ⟨b,k,none⟩ [v] = some (h.put b (.cells (c.set k v) el 0 op)) := by
  rw [H.write_eq hg (by simp only [List.length_singleton]; omega) (by show (v.oneCell' && true) = true; rw [hv]; rfl)]
  congr 3
  rw [List.set_eq_take_append_cons_drop,if_pos hk]; rfl
end Go.Kx
namespace Go.Proofs.Ytdadiidfhnojcaa.K
open Go Go.Kx
set_option linter.unusedVariables false
set_option linter.unusedSimpArgs false
set_option maxRecDepth 20000
def len8 : Array UInt8 := #[0,1,2,2,3,3,3,3,4,4,4,4,4,4,4,4,5,5,5,5,5,5,5,5,5,5,5,5,5,5,5,5,6,6,6,6,6,6,6,6,6,6,6,6,6,6,6,6,6,6,6,6,6,6,6,6,6,6,6,6,6,6,6,6,7,7,7,7,7,7,7,7,7,7,7,7,7,7,7,7,7,7,7,7,7,7,7,7,7,7,7,7,7,7,7,7,7,7,7,7,7,7,7,7,7,7,7,7,7,7,7,7,7,7,7,7,7,7,7,7,7,7,7,7,7,7,7,7,8,8,8,8,8,8,8,8,8,8,8,8,8,8,8,8,8,8,8,8,8,8,8,8,8,8,8,8,8,8,8,8,8,8,8,8,8,8,8,8,8,8,8,8,8,8,8,8,8,8,8,8,8,8,8,8,8,8,8,8,8,8,8,8,8,8,8,8,8,8,8,8,8,8,8,8,8,8,8,8,8,8,8,8,8,8,8,8,8,8,8,8,8,8,8,8,8,8,8,8,8,8,8,8,8,8,8,8,8,8,8,8,8,8,8,8,8,8,8,8,8,8,8,8,8,8,8,8]
theorem len8_ok : ∀ x,x < 256 → (match len8[x]? with | some c => decide (x < 2 ^ c.toNat) && (decide (x = 0) || decide (2 ^ c.toNat ≤ 2 * x)) && decide (c.toNat ≤ 8) | none => false) = true := by decide +kernel
theorem len8_at {x : Nat} (hx : x < 256) : ∃ c : UInt8,len8[x]? = some c ∧ x < 2 ^ c.toNat ∧ (x ≠ 0 → 2 ^ c.toNat ≤ 2 * x) ∧ c.toNat ≤ 8 := by
  have h := len8_ok x hx
  split at h
  · rename_i c hc
    simp only [Bool.and_eq_true,Bool.or_eq_true,decide_eq_true_eq] at h
    exact ⟨c,hc,h.1.1,fun q => h.1.2.resolve_left q,h.2⟩
  · cases h
theorem len_j10 {x k : Nat} (hx : x < 256) (hk : k ≤ 8) (h : H) : ∃ c : UInt8,len8[x]? = some c ∧ F70.j10 Try.prog CLM nu0 nu0 (.int .u64 (x : Nat)) (.int .i64 (k : Nat)) h = .ok (.int .i64 ((k + c.toNat : Nat) : Int)) h ∧ x < 2 ^ c.toNat ∧ (x ≠ 0 → 2 ^ c.toNat ≤ 2 * x) ∧ c.toNat ≤ 8 := by
  obtain ⟨c,h1,h2,h3,h4⟩ := len8_at hx
  refine ⟨c,h1,?_,h2,h3,h4⟩
  have hw : IntKind.u8.wrap (x : Int) = (x : Int) := by simp [IntKind.wrap,IntKind.bits,IntKind.signed]; omega
  rw [F70.j10_eq,cv111_5,go_ok,hw,xidx_str (by kernel_rfl) _ _ h1,go_ok,cv5_3,go_ok,wn (by omega),xadd,go_ok,wadd (by omega)]
theorem eBits {x : Nat} (h8 : 1 ≤ x) (hx : x < 65536) (h : H) : ∃ k : Nat,CLM (.f 50) [.int .u64 (x : Nat)] h = .ok (.int .i64 (k : Nat)) h ∧ x < 2 ^ k ∧ 2 ^ k ≤ 2 * x ∧ k ≤ 16 := by
  have hE : CLM (.f 50) [.int .u64 (x : Nat)] h = ((if (256 : Int) ≤ (x : Int) then F70.j10 Try.prog CLM nu0 nu0 (.int .u64 ((x / 256 : Nat) : Int)) (.int .i64 ((8 : Nat) : Int)) h else F70.j10 Try.prog CLM nu0 nu0 (.int .u64 (x : Nat)) (.int .i64 ((0 : Nat) : Int)) h).go .pan fun t1 h2 => (.ok t1 h2)) := by
    rw [cM50,F50.eq,cM70,F70.eq,xgeq,go_ok,ifV_dec,if_neg (by omega),F70.j4_eq,xgeq,go_ok,ifV_dec,if_neg (by omega),F70.j7_eq,xgeq,go_ok,ifV_dec]
    split
    · rw [xshr _ _ _ _ _ _ _ (by omega),go_ok,xadd,go_ok]
      have e1 : ((x : Nat) : Int).fdiv (2 ^ (min (8 : Int).toNat IntKind.u64.bits)) = ((x / 256 : Nat) : Int) := by
        rw [show (min (8 : Int).toNat IntKind.u64.bits) = 8 from rfl,Int.fdiv_eq_ediv_of_nonneg _ (by omega)]
        omega
      have e2 : IntKind.i64.wrap (0 + 8) = ((8 : Nat) : Int) := by rw [wrap64 (by omega)]; rfl
      rw [e1,e2]
    · rfl
  rw [hE]
  by_cases q : 256 ≤ x
  · obtain ⟨c,c1,c2,c3,c4,c5⟩ := len_j10 (x := x / 256) (k := 8) (by omega) (by omega) h
    refine ⟨8 + c.toNat,?_,?_,?_,by omega⟩
    · rw [if_pos (by omega),c2,go_ok]
    · rw [Nat.pow_add]; omega
    · rw [Nat.pow_add]; have := c4 (by omega); omega
  · obtain ⟨c,c1,c2,c3,c4,c5⟩ := len_j10 (x := x) (k := 0) (by omega) (by omega) h
    refine ⟨c.toNat,?_,c3,c4 (by omega),by omega⟩
    rw [if_neg (by omega),c2,go_ok,Nat.zero_add]
theorem eNpow {len : Nat} (h8 : 1 ≤ len) (hx : len < 65536) (h : H) : ∃ M : Nat,1 ≤ M ∧ M ≤ 2 * len ∧ CLM (.f 76) [.int .i64 (len : Nat)] h = .ok (.int .u64 (M : Nat)) h := by
  obtain ⟨k,e,h1,h2,h3⟩ := eBits h8 hx h
  refine ⟨2 ^ k,by omega,h2,?_⟩
  rw [cM76,F76.eq,cv3_95,go_ok,wun (by omega),e,go_ok,xshl _ _ _ _ _ _ _ (by omega),go_ok]
  have e1 : (1 : Int) * 2 ^ (min ((k : Nat) : Int).toNat IntKind.u64.bits) = ((2 ^ k : Nat) : Int) := by
    rw [show min ((k : Nat) : Int).toNat IntKind.u64.bits = k from by show min k 64 = k; omega,Int.one_mul]
    exact (Int.natCast_pow 2 k).symm
  rw [e1,wun (by omega)]
theorem and_le {P : Program} {t : TypeId} {a : Int} {M : Nat} (h1 : 1 ≤ M) (h2 : M < 4611686018427387904) : ∃ r : Nat,r < M ∧ ∀ h,xbin P .and t (.int .u64 a) (.int .u64 ((M - 1 : Nat) : Int)) h = .ok (.int .u64 (r : Nat)) h := by
  have e : (BitVec.ofInt 64 ((M - 1 : Nat) : Int)).toNat = M - 1 := by
    rw [BitVec.ofInt_natCast,BitVec.toNat_ofNat]
    omega
  have hle : (BitVec.ofInt 64 a &&& BitVec.ofInt 64 ((M - 1 : Nat) : Int)).toNat ≤ M - 1 := by
    rw [BitVec.toNat_and,e]
    exact Nat.and_le_right
  refine ⟨(BitVec.ofInt 64 a &&& BitVec.ofInt 64 ((M - 1 : Nat) : Int)).toNat,by omega,fun h => ?_⟩
  rw [xand]
  show Res.ok (Value.int .u64 (IntKind.u64.wrap ((BitVec.ofInt 64 a &&& BitVec.ofInt 64 ((M - 1 : Nat) : Int)).toNat))) h = _
  rw [wun (by omega)]
theorem eNext {h : H} {w : Nat} {v : Int} (hg : h.get w = some (.cells [.int .u64 v] 114 0 false)) :
    ∃ h1 v1 v2,CLM (.f 77) [.pointer (some ⟨w,0,none⟩)] h = .ok (.int .u64 v2) h1 ∧ Upd (fun x => x = w) h h1 ∧ h1.get w = some (.cells [.int .u64 v1] 114 0 false) := by
  have st : ∀ {h : H} {a : Int} (c : Int),h.get w = some (.cells [.int .u64 a] 114 0 false) → ∃ h',xstore Try.prog 114 (.pointer (some ⟨w,0,none⟩)) (.int .u64 c) h = .ok undef h' ∧ Upd (fun x => x = w) h h' ∧ h'.get w = some (.cells [.int .u64 c] 114 0 false) := by
    intro h a c hg
    have hs : (Value.int .u64 c).cells.size = 1 := rfl
    refine ⟨h.put w (.cells [.int .u64 c] 114 0 false),?_,(Upd.refl (fun x => x = w) h).put (.inl rfl) (H.get_lt hg) _,H.put_self hg⟩
    rw [st114 _ _ _ hs,cells_int,H.write_all hg (l := [.int .u64 c]) rfl rfl,ofU_some]
  have ld : ∀ {h : H} {a : Int},h.get w = some (.cells [.int .u64 a] 114 0 false) → xload Try.prog 114 (.pointer (some ⟨w,0,none⟩)) h = .ok (.int .u64 a) h := by
    intro h a hg
    rw [ld114,H.cell_eq hg,List.getElem?_cons_zero,ofO_some]
  obtain ⟨h1,e1,u1,g1⟩ := st (IntKind.u64.wrap ((BitVec.ofInt IntKind.u64.bits v ^^^ BitVec.ofInt IntKind.u64.bits (IntKind.u64.wrap (v * 2 ^ (min (13 : Int).toNat IntKind.u64.bits)))).toNat)) hg
  obtain ⟨v1,hv1⟩ : ∃ v1,v1 = (IntKind.u64.wrap ((BitVec.ofInt IntKind.u64.bits v ^^^ BitVec.ofInt IntKind.u64.bits (IntKind.u64.wrap (v * 2 ^ (min (13 : Int).toNat IntKind.u64.bits)))).toNat)) := ⟨_,rfl⟩
  rw [← hv1] at e1 g1
  obtain ⟨h2,e2,u2,g2⟩ := st (IntKind.u64.wrap ((BitVec.ofInt IntKind.u64.bits v1 ^^^ BitVec.ofInt IntKind.u64.bits (v1.fdiv (2 ^ (min (7 : Int).toNat IntKind.u64.bits)))).toNat)) g1
  obtain ⟨v2,hv2⟩ : ∃ v2,v2 = (IntKind.u64.wrap ((BitVec.ofInt IntKind.u64.bits v1 ^^^ BitVec.ofInt IntKind.u64.bits (v1.fdiv (2 ^ (min (7 : Int).toNat IntKind.u64.bits)))).toNat)) := ⟨_,rfl⟩
  rw [← hv2] at e2 g2
  obtain ⟨h3,e3,u3,g3⟩ := st (IntKind.u64.wrap ((BitVec.ofInt IntKind.u64.bits v2 ^^^ BitVec.ofInt IntKind.u64.bits (IntKind.u64.wrap (v2 * 2 ^ (min (17 : Int).toNat IntKind.u64.bits)))).toNat)) g2
  obtain ⟨v3,hv3⟩ : ∃ v3,v3 = (IntKind.u64.wrap ((BitVec.ofInt IntKind.u64.bits v2 ^^^ BitVec.ofInt IntKind.u64.bits (IntKind.u64.wrap (v2 * 2 ^ (min (17 : Int).toNat IntKind.u64.bits)))).toNat)) := ⟨_,rfl⟩
  rw [← hv3] at e3 g3
  refine ⟨h3,v3,v3,?_,(u1.trans u2).trans u3,g3⟩
  rw [cM77,F77.eq,xnil_ptr,Res.ok1_ok,ld hg,Res.ok1_ok,xnil_ptr,Res.ok1_ok,ld hg,Res.ok1_ok,plain2_int,cond_true,xshl _ _ _ _ _ _ _ (by omega),Res.ok1_ok,plain2_int,cond_true,xxor,Res.ok1_ok,xnil_ptr,Res.ok1_ok,← hv1,e1,go_ok,
    xnil_ptr,Res.ok1_ok,ld g1,Res.ok1_ok,xnil_ptr,Res.ok1_ok,ld g1,Res.ok1_ok,plain2_int,cond_true,xshr _ _ _ _ _ _ _ (by omega),Res.ok1_ok,plain2_int,cond_true,xxor,Res.ok1_ok,xnil_ptr,Res.ok1_ok,← hv2,e2,go_ok,
    xnil_ptr,Res.ok1_ok,ld g2,Res.ok1_ok,xnil_ptr,Res.ok1_ok,ld g2,Res.ok1_ok,plain2_int,cond_true,xshl _ _ _ _ _ _ _ (by omega),Res.ok1_ok,plain2_int,cond_true,xxor,Res.ok1_ok,xnil_ptr,Res.ok1_ok,← hv3,e3,go_ok,xnil_ptr,go_ok,ld g3,go_ok]
end Go.Proofs.Ytdadiidfhnojcaa.K
namespace Go.Proofs.Ytdadiidfhnojcaa.K
open Go Go.Kx
set_option linter.unusedVariables false
set_option linter.unusedSimpArgs false
set_option maxRecDepth 20000
theorem str_eq (a b : ByteArray) : (a.toList == b.toList) = decide (a = b) := by
  rw [Go.Lib.toList_data,Go.Lib.toList_data]
  by_cases h : a = b
  · subst h; simp
  · have : ¬ a.data = b.data := fun q => h (ByteArray.ext q)
    simp [h,this]
def sLt (a b : ByteArray) : Bool := Op.bytesLess a.toList b.toList
section
variable (P : Program) (t : TypeId) (a b : ByteArray) (h : H)
theorem xseql : xbin P .eql t (.string a) (.string b) h = .ok (.bool (decide (a = b))) h := by rw [← str_eq]; simp [xbin,flat,binOp,Op.stringOp,prun,xflat,pure,Sem.pure]
theorem xsneq : xbin P .neq t (.string a) (.string b) h = .ok (.bool (!decide (a = b))) h := by rw [← str_eq]; simp [xbin,flat,binOp,Op.stringOp,prun,xflat,pure,Sem.pure]
theorem xslss : xbin P .lss t (.string a) (.string b) h = .ok (.bool (sLt a b)) h := by unfold sLt; simp [xbin,flat,binOp,Op.stringOp,prun,xflat,pure,Sem.pure]
theorem xsgtr : xbin P .gtr t (.string a) (.string b) h = .ok (.bool (!(sLt a b || decide (a = b)))) h := by rw [← str_eq]; unfold sLt; simp [xbin,flat,binOp,Op.stringOp,prun,xflat,pure,Sem.pure]
end
theorem sLt_iff (a b : ByteArray) : sLt a b = decide (a.toList < b.toList) := by unfold sLt; exact Go.Proofs.bytesLess_eq _ _
theorem toList_ne {a b : ByteArray} (h : a ≠ b) : a.toList ≠ b.toList := fun q => by
  have := str_eq a b
  rw [q] at this
  simp at this
  exact h this
theorem eCmpStr (a b : ByteArray) (h : H) : CLM (.f 52) [.string a,.string b] h = .ok (.int .i64 (if sLt a b then -1 else if a = b then 0 else 1)) h := by
  have n : ∀ (x : ByteArray) (h : H),CLM (.f 71) [.string x] h = .ok (.bool false) h := fun x h => by
    rw [cM71,F71.eq,xsneq,go_ok]; simp
  rw [cM52,F52.eq,n,go_ok,n,go_ok,ifV_f,ifV_f,xslss,go_ok]
  cases q : sLt a b with
  | true => rw [ifV_t,if_pos rfl]
  | false =>
    rw [ifV_f,if_neg (by simp),xsgtr,go_ok,q,Bool.false_or,ifV_not]
    split <;> rfl
theorem eCmpInt (a b : Int) (h : H) : CLM (.f 53) [.int .i64 a,.int .i64 b] h = .ok (.int .i64 (if a < b then -1 else if b < a then 1 else 0)) h := by
  have n : ∀ (x : Int) (h : H),CLM (.f 72) [.int .i64 x] h = .ok (.bool false) h := fun x h => by
    rw [cM72,F72.eq,xneq,go_ok]; simp
  rw [cM53,F53.eq,n,go_ok,n,go_ok,ifV_f,ifV_f,xlss,go_ok,ifV_dec]
  split
  · rfl
  · rw [xgtr,go_ok,ifV_dec]; split <;> rfl
theorem eCmpLess (a b : Int) (h : H) : CLM (.f 86) [.int .i64 a,.int .i64 b] h = .ok (.bool (decide (a < b))) h := by
  have n : ∀ (x : Int) (h : H),CLM (.f 72) [.int .i64 x] h = .ok (.bool false) h := fun x h => by
    rw [cM72,F72.eq,xneq,go_ok]; simp
  rw [cM86,F86.eq,n,go_ok,ifV_f,xlss,go_ok]
def iv (l : List Int) : List Value := l.map (Value.int .i64 ·)
theorem iv_len (l : List Int) : (iv l).length = l.length := by simp [iv]
theorem iv_get {l : List Int} {tl : List Value} {i : Nat} {z : Int} (h : l[i]? = some z) : (iv l ++ tl)[i]? = some (.int .i64 z) := by
  have hi := (List.getElem?_eq_some_iff.1 h).1
  rw [List.getElem?_append_left (by rw [iv_len]; exact hi),iv,List.getElem?_map,h]; rfl
theorem iv_ones : ∀ (l : List Int),ones (iv l) = true
  | [] => rfl
  | z :: l => by
    show (true && ones (iv l)) = true
    rw [iv_ones l]; rfl
theorem iv_append (a b : List Int) : iv (a ++ b) = iv a ++ iv b := by simp [iv]
theorem iv_set (l : List Int) (tl : List Value) {i : Nat} (hi : i < l.length) (z : Int) : (iv l ++ tl).set i (.int .i64 z) = iv (l.set i z) ++ tl := by
  rw [List.set_append_left _ _ (by rw [iv_len]; exact hi),iv,iv,List.map_set]
def IL (h : H) (v : Value) (l : List Int) : Prop :=
  (v = .slice none 0 0 ∧ l = []) ∨ ∃ b sp cap tl op,v = .slice (some ⟨b,0,sp⟩) l.length cap ∧ h.get b = some (.cells (iv l ++ tl) 3 0 op)
theorem IL.grow {h h' : H} (g : Grow h h') {v : Value} {l : List Int} (q : IL h v l) : IL h' v l := by
  refine q.imp id ?_
  rintro ⟨b,sp,cap,tl,op,e,hg⟩
  exact ⟨b,sp,cap,tl,op,e,g.old _ _ hg⟩
theorem IL.len {h : H} {v : Value} {l : List Int} (q : IL h v l) (h' : H) : xbuiltin Try.prog .len [27] [v] h' = .ok (.int .i64 (l.length : Nat)) h' := by
  rcases q with ⟨rfl,rfl⟩ | ⟨b,sp,cap,tl,op,rfl,_⟩
  · exact ln27 _ _ _ _
  · exact ln27 _ _ _ _
theorem IL.at_ {h : H} {v : Value} {l : List Int} (q : IL h v l) {i : Nat} {z : Int} (hz : l[i]? = some z) : ∃ a,xindexAddr Try.prog 27 v (.int .i64 (i : Nat)) h = .ok (.pointer (some a)) h ∧ xload Try.prog 3 (.pointer (some a)) h = .ok (.int .i64 z) h := by
  have hi := (List.getElem?_eq_some_iff.1 hz).1
  rcases q with ⟨_,rfl⟩ | ⟨b,sp,cap,tl,op,rfl,hg⟩
  · simp at hi
  · refine ⟨⟨b,0 + i * 1,none⟩,ia27 _ _ _ _ _ _ _ _ hi,?_⟩
    rw [ld3,H.cell_eq hg,Nat.zero_add,Nat.mul_one,iv_get hz,ofO_some]
theorem IL.ld {h : H} {v : Value} {l : List Int} (q : IL h v l) {i : Nat} {z : Int} (hz : l[i]? = some z) (K : Value → H → Res Value) :
    ((xindexAddr Try.prog 27 v (.int .i64 (i : Nat)) h).go .pan fun t h' => ((xload Try.prog 3 t h').go .pan K)) = K (.int .i64 z) h := by
  obtain ⟨a,e1,e2⟩ := q.at_ hz
  rw [e1,go_ok,e2,go_ok]
theorem IL.ld1 {h : H} {v : Value} {l : List Int} (q : IL h v l) {i : Nat} {z : Int} (hz : l[i]? = some z) (K : Value → H → Res Value) :
    ((xindexAddr Try.prog 27 v (.int .i64 (i : Nat)) h).ok1 fun t h' => ((xload Try.prog 3 t h').ok1 K)) = K (.int .i64 z) h := by
  obtain ⟨a,e1,e2⟩ := q.at_ hz
  rw [e1,Res.ok1_ok,e2,Res.ok1_ok]
theorem IL.first {h : H} {v : Value} {l : List Int} (q : IL h v l) : lenV v = some l.length ∧ firstC h 1 l.length v = some (iv l) := by
  rcases q with ⟨rfl,rfl⟩ | ⟨b,sp,cap,tl,op,rfl,hg⟩
  · exact ⟨rfl,rfl⟩
  · refine ⟨rfl,?_⟩
    show h.row ⟨b,0,none⟩ (l.length * 1) = _
    rw [H.row_eq hg (by rw [List.length_append,iv_len]; omega),List.drop_zero,Nat.mul_one,List.take_left' (iv_len l)]
def OL (h : H) (v : Value) (br : Option Nat) (l : List Int) : Prop :=
  (br = none ∧ v = .slice none 0 0 ∧ l = []) ∨ ∃ b sp cap,br = some b ∧ v = .slice (some ⟨b,0,none⟩) l.length cap ∧ h.get b = some (.cells (iv l ++ sp) 3 0 true) ∧ l.length + sp.length = cap ∧ ones sp = true
theorem OL.il {h : H} {v : Value} {br : Option Nat} {l : List Int} (q : OL h v br l) : IL h v l := by
  rcases q with ⟨_,rfl,rfl⟩ | ⟨b,sp,cap,_,rfl,hg,_⟩
  · exact .inl ⟨rfl,rfl⟩
  · exact .inr ⟨b,none,cap,sp,true,rfl,hg⟩
theorem OL.nil {h : H} : OL h (.slice none 0 0) none [] := .inl ⟨rfl,rfl,rfl⟩
theorem OL.upd {S : Nat → Prop} {h h' : H} (u : Upd S h h') {v : Value} {br : Option Nat} {l : List Int} (q : OL h v br l) (hS : ∀ b,br = some b → ¬ S b) : OL h' v br l := by
  refine q.imp id ?_
  rintro ⟨b,sp,cap,e1,e2,hg,e3⟩
  exact ⟨b,sp,cap,e1,e2,u.old _ _ (hS b e1) hg,e3⟩
theorem OL.grow {h h' : H} (g : Grow h h') {v : Value} {br : Option Nat} {l : List Int} (q : OL h v br l) : OL h' v br l := q.upd (g.upd fun _ => False) fun _ _ => id
theorem OL.lt {h : H} {v : Value} {br : Option Nat} {l : List Int} (q : OL h v br l) {b : Nat} (hb : br = some b) : b < h.next := by
  rcases q with ⟨e,_⟩ | ⟨b',_,_,e,_,hg,_⟩
  · rw [e] at hb; cases hb
  · rw [e] at hb; cases hb; exact H.get_lt hg
theorem OL.one {h : H} {v : Value} {br : Option Nat} {l : List Int} (q : OL h v br l) : v.cells.size = 1 ∧ v.cells.toList = [v] ∧ v.oneCell' = true := by
  rcases q with ⟨_,rfl,_⟩ | ⟨_,_,_,_,rfl,_⟩ <;> exact ⟨rfl,rfl,rfl⟩
theorem IL.one {h : H} {v : Value} {l : List Int} (q : IL h v l) : v.cells.size = 1 ∧ v.cells.toList = [v] ∧ v.oneCell' = true := by
  rcases q with ⟨rfl,_⟩ | ⟨_,_,_,_,_,rfl,_⟩ <;> exact ⟨rfl,rfl,rfl⟩
theorem LI : LsT Try.prog 27 3 1 := ⟨by kernel_rfl,by kernel_rfl,by kernel_rfl,by kernel_rfl,by kernel_rfl,by omega,by kernel_rfl,Nat.le_of_ble_eq_true (by kernel_rfl)⟩
theorem rows_iv (l : List Int) : ((l.map fun z => [Value.int .i64 z]).flatten) = iv l := by
  induction l with
  | nil => rfl
  | cons z l ih => simp only [List.map_cons,List.flatten_cons,ih]; rfl
theorem rows_good (l : List Int) : GoodR 1 (l.map fun z => [Value.int .i64 z]) := fun r hr => by
  obtain ⟨z,_,rfl⟩ := List.mem_map.1 hr
  exact ⟨rfl,rfl⟩
theorem OL.lst {h : H} {v : Value} {br : Option Nat} {l : List Int} (q : OL h v br l) : Lst 3 1 h v br (l.map fun z => [Value.int .i64 z]) := by
  rcases q with ⟨e1,e2,rfl⟩ | ⟨b,sp,cap,e1,e2,hg,e3,e4⟩
  · exact .inl ⟨e1,e2,rfl⟩
  · refine .inr ⟨b,sp,cap,e1,by rw [List.length_map]; exact e2,by rw [rows_iv]; exact hg,?_,e4⟩
    rw [rows_iv,List.length_append,iv_len]; omega
theorem OL.of {h : H} {v : Value} {br : Option Nat} {l : List Int} (q : Lst 3 1 h v br (l.map fun z => [Value.int .i64 z])) : OL h v br l := by
  rcases q with ⟨e1,e2,e3⟩ | ⟨b,sp,cap,e1,e2,hg,e3,e4⟩
  · exact .inl ⟨e1,e2,List.map_eq_nil_iff.1 e3⟩
  · rw [List.length_map] at e2
    rw [rows_iv] at hg e3
    rw [List.length_append,iv_len] at e3
    exact .inr ⟨b,sp,cap,e1,e2,hg,by omega,e4⟩
theorem OL.app {h : H} {v : Value} {br : Option Nat} {l m : List Int} {w : Value} (q : OL h v br l) (few : l.length + m.length ≤ 1000000) (r : IL h w m) :
    ∃ v' br' h',xbuiltin Try.prog .append [27,27] [v,w] h = .ok v' h' ∧ Upd (fun x => some x = br) h h' ∧ OL h' v' br' (l ++ m) ∧ NewBr h br br' := by
  obtain ⟨f1,f2⟩ := r.first
  obtain ⟨v',br',h',e,u,l',n⟩ := lst_app LI q.lst (rows_good l) (x := w) (k := m.length) (rows2 := m.map fun z => [Value.int .i64 z]) (by rw [List.length_map]; exact few) f1 (by rw [rows_iv,show Try.prog.cellsOf 3 = 1 by kernel_rfl]; exact f2) (by simp) (rows_good m)
  exact ⟨v',br',h',e,u,OL.of (by rw [List.map_append]; exact l'),n⟩
theorem OL.push {h : H} {v : Value} {br : Option Nat} {l : List Int} (q : OL h v br l) (few : l.length < 1000000) (z : Int) :
    ∃ v' br' h',Upd (fun x => some x = br) h h' ∧ OL h' v' br' (l ++ [z]) ∧ NewBr h br br' ∧ ∀ K : Value → H → Res Value,((xbuildSlice Try.prog 27 1 [(0,.int .i64 z)] h).go .pan fun t h2 => ((xbuiltin Try.prog .append [27,27] [v,t] h2).go .pan K)) = K v' h' := by
  have g : Grow h (h.alloc (.cells [.int .i64 z] 3 0 false)) := (Grow.refl h).alloc _
  have r : IL (h.alloc (.cells [.int .i64 z] 3 0 false)) (.slice (some ⟨h.next,0,none⟩) 1 1) [z] := .inr ⟨h.next,none,1,[],false,rfl,H.alloc_self _ _⟩
  obtain ⟨v',br',h',e,u,q',n⟩ := (q.grow g).app (m := [z]) (by simp; omega) r
  refine ⟨v',br',h',(g.upd _).trans u,q',n.imp id fun ⟨b,w1,w2⟩ => ⟨b,w1,Nat.le_of_succ_le w2⟩,fun K => ?_⟩
  have eb : xbuildSlice Try.prog 27 1 [(0,.int .i64 z)] h = .ok (.slice (some ⟨h.next,0,none⟩) 1 1) (h.alloc (.cells [.int .i64 z] 3 0 false)) := by kernel_rfl
  rw [eb,go_ok,e,go_ok]
theorem il_set {h : H} {b n : Nat} {l : List Int} {tl : List Value} {op : Bool} {sp : Option Nat} {cap : Nat} (hg : h.get b = some (.cells (iv l ++ tl) 3 0 op)) {i : Nat} (hi : i < l.length) (z : Int) :
    ∃ h',h' = h.put b (.cells (iv (l.set i z) ++ tl) 3 0 op) ∧ ∀ K : Value → H → Res Value,((xindexAddr Try.prog 27 (.slice (some ⟨b,0,sp⟩) l.length cap) (.int .i64 (i : Nat)) h).go .pan fun t h2 => ((xstore Try.prog 3 t (.int .i64 z) h2).go .pan K)) = K undef h' := by
  refine ⟨_,rfl,fun K => ?_⟩
  have hs : (Value.int .i64 z).cells.size = 1 := rfl
  rw [ia27 _ _ _ _ _ _ _ _ hi,go_ok,st3 _ _ _ hs,cells_int,Nat.zero_add,Nat.mul_one,write_cell' hg (by rw [List.length_append,iv_len]; omega) rfl,iv_set _ _ hi,ofU_some,go_ok]
end Go.Proofs.Ytdadiidfhnojcaa.K
namespace Go.Proofs.Ytdadiidfhnojcaa.K.SrtC
open Go Go.Kx Go.Proofs.Ytdadiidfhnojcaa.K
set_option linter.unusedVariables false
set_option linter.unusedSimpArgs false
set_option linter.unusedSectionVars false
set_option maxRecDepth 20000
def ar (d : Array Int) : List Value := d.toList.map (Value.int .i64 ·)
theorem ar_len (d : Array Int) : (ar d).length = d.size := by simp [ar]
theorem ar_get {d : Array Int} {sp : List Value} {i : Nat} (hi : i < d.size) : (ar d ++ sp)[i]? = some (.int .i64 d[i]!) := by
  rw [List.getElem?_append_left (by rw [ar_len]; exact hi)]
  unfold ar
  rw [List.getElem?_map,getElem!_pos d i hi]
  simp [hi]
theorem ar_set {d : Array Int} {sp : List Value} {i : Nat} (hi : i < d.size) (v : Int) : (ar d ++ sp).set i (.int .i64 v) = ar (d.setIfInBounds i v) ++ sp := by
  rw [List.set_append_left _ _ (by rw [ar_len]; exact hi)]
  unfold ar
  rw [Array.toList_setIfInBounds,List.map_set]
abbrev sl (b n cap : Nat) : Value := .slice (some ⟨b,0,none⟩) n cap
structure SS (b n : Nat) (sp : List Value) (J : H → Prop) (ok : Int → Prop) (h0 h : H) (d : Array Int) : Prop where
  u : Upd (fun x => x = b) h0 h
  g : h.get b = some (.cells (ar d ++ sp) 3 0 true)
  sz : d.size = n
  ok : ∀ i,i < n → ok d[i]!
  j : J h
structure LessOk (b : Nat) (J : H → Prop) (cv : Value) (lt : Int → Int → Bool) (ok : Int → Prop) (h0 : H) : Prop where
  call : ∀ h x y,J h → ok x → ok y → ∃ h',Grow h h' ∧ J h' ∧ ∀ K : Value → H → Res Value,((xcallV CLM cv [.int .i64 x,.int .i64 y] h).go .pan fun t17 h18 => (bif plain2 t17 (.int .i64 0) then ((xbin Try.prog .lss 3 t17 (.int .i64 0) h18).ok1 K) else .bad)) = K (.bool (lt x y)) h'
  upd : ∀ h h',J h → Upd (fun x => x = b ∨ h0.next ≤ x) h h' → J h'
section
variable {b n cap : Nat} {sp : List Value} {J : H → Prop} {cv : Value} {lt : Int → Int → Bool} {ok : Int → Prop} {h0 : H}
theorem SS.grow {h h' : H} {d : Array Int} (L : LessOk b J cv lt ok h0) (s : SS b n sp J ok h0 h d) (g : Grow h h') : SS b n sp J ok h0 h' d := ⟨s.u.trans (g.upd _),g.old _ _ s.g,s.sz,s.ok,L.upd _ _ s.j (g.upd _)⟩
theorem SS.ld {h : H} {d : Array Int} (s : SS b n sp J ok h0 h d) {i : Nat} (hi : i < n) (K : Value → H → Res Value) :
    ((xindexAddr Try.prog 27 (sl b n cap) (.int .i64 (i : Nat)) h).ok1 fun t h' => ((xload Try.prog 3 t h').ok1 K)) = K (.int .i64 d[i]!) h := by
  rw [ia27 _ _ _ _ _ _ _ _ hi,Res.ok1_ok,ld3,H.cell_eq s.g,Nat.zero_add,Nat.mul_one,ar_get (by rw [s.sz]; exact hi),ofO_some,Res.ok1_ok]
theorem SS.less {h : H} {d : Array Int} (s : SS b n sp J ok h0 h d) (L : LessOk b J cv lt ok h0) {x y : Int} (hx : ok x) (hy : ok y) : ∃ h',SS b n sp J ok h0 h' d ∧ ∀ K : Value → H → Res Value,((xcallV CLM cv [.int .i64 x,.int .i64 y] h).go .pan fun t17 h18 => (bif plain2 t17 (.int .i64 0) then ((xbin Try.prog .lss 3 t17 (.int .i64 0) h18).ok1 K) else .bad)) = K (.bool (lt x y)) h' := by
  obtain ⟨h',g,j,e⟩ := L.call h x y s.j hx hy
  exact ⟨h',⟨s.u.trans (g.upd _),g.old _ _ s.g,s.sz,s.ok,j⟩,e⟩
theorem SS.swapU {h : H} {d : Array Int} (s : SS b n sp J ok h0 h d) (L : LessOk b J cv lt ok h0) {i j : Nat} (hi : i < n) (hj : j < n) :
    ∃ h',SS b n sp J ok h0 h' (Go.Sort.swp d i j) ∧ Upd (fun x => x = b) h h' ∧ ∀ K : Value → H → Res Value,((xindexAddr Try.prog 27 (sl b n cap) (.int .i64 (j : Nat)) h).ok1 fun t1 h2 => ((xload Try.prog 3 t1 h2).ok1 fun t3 h4 => ((xindexAddr Try.prog 27 (sl b n cap) (.int .i64 (i : Nat)) h4).ok1 fun t5 h6 => ((xload Try.prog 3 t5 h6).ok1 fun t7 h8 =>
      ((xindexAddr Try.prog 27 (sl b n cap) (.int .i64 (i : Nat)) h8).ok1 fun t9 h10 => ((xstore Try.prog 3 t9 t3 h10).go .pan fun t11 h12 => ((xindexAddr Try.prog 27 (sl b n cap) (.int .i64 (j : Nat)) h12).ok1 fun t13 h14 => ((xstore Try.prog 3 t13 t7 h14).go .pan K)))))))) = K undef h' := by
  have hdi : i < d.size := by rw [s.sz]; exact hi
  have hdj : j < d.size := by rw [s.sz]; exact hj
  obtain ⟨h1,hh1⟩ : ∃ h1,h1 = h.put b (.cells (ar (d.setIfInBounds i d[j]!) ++ sp) 3 0 true) := ⟨_,rfl⟩
  have w1 : h.write ⟨b,i,none⟩ [.int .i64 d[j]!] = some h1 := by rw [write_cell' s.g (by rw [List.length_append,ar_len]; omega) rfl,ar_set hdi,hh1]
  have g1 : h1.get b = some (.cells (ar (d.setIfInBounds i d[j]!) ++ sp) 3 0 true) := by rw [hh1]; exact H.put_self s.g
  obtain ⟨h2,hh2⟩ : ∃ h2,h2 = h1.put b (.cells (ar (Go.Sort.swp d i j) ++ sp) 3 0 true) := ⟨_,rfl⟩
  have w2 : h1.write ⟨b,j,none⟩ [.int .i64 d[i]!] = some h2 := by rw [write_cell' g1 (by rw [List.length_append,ar_len]; simp; omega) rfl,ar_set (by simp; exact hdj),hh2]; rfl
  have g2 : h2.get b = some (.cells (ar (Go.Sort.swp d i j) ++ sp) 3 0 true) := by rw [hh2]; exact H.put_self g1
  have u1 : Upd (fun x => x = b) h h1 := by rw [hh1]; exact (Upd.refl (fun x => x = b) h).put (.inl rfl) (H.get_lt s.g) _
  have u2 : Upd (fun x => x = b) h1 h2 := by rw [hh2]; exact (Upd.refl (fun x => x = b) h1).put (.inl rfl) (H.get_lt g1) _
  have u := u1.trans u2
  refine ⟨h2,⟨s.u.trans u,g2,by rw [Go.Sort.size_swp]; exact s.sz,fun k hk => ?_,L.upd _ _ s.j (u.mono fun x _ q => .inl q)⟩,u,fun K => ?_⟩
  · by_cases q : k = j
    · subst q; rw [Go.Sort.swp_right d i k (by rw [s.sz]; exact hk)]; exact s.ok i hi
    · by_cases q2 : k = i
      · subst q2; rw [Go.Sort.swp_left d k j (by rw [s.sz]; exact hk) q]; exact s.ok j hj
      · rw [Go.Sort.swp_other d i j k q2 q]; exact s.ok k hk
  · have hs : ∀ v : Int,(Value.int .i64 v).cells.size = 1 := fun _ => rfl
    rw [s.ld hj,s.ld hi,ia27 _ _ _ _ _ _ _ _ hi,Res.ok1_ok,st3 _ _ _ (hs _),cells_int,Nat.zero_add,Nat.mul_one,w1,ofU_some,go_ok,ia27 _ _ _ _ _ _ _ _ hj,Res.ok1_ok,st3 _ _ _ (hs _),cells_int,Nat.zero_add,Nat.mul_one,w2,ofU_some,go_ok]
theorem SS.swap {h : H} {d : Array Int} (s : SS b n sp J ok h0 h d) (L : LessOk b J cv lt ok h0) {i j : Nat} (hi : i < n) (hj : j < n) :
    ∃ h',SS b n sp J ok h0 h' (Go.Sort.swp d i j) ∧ ∀ K : Value → H → Res Value,((xindexAddr Try.prog 27 (sl b n cap) (.int .i64 (j : Nat)) h).ok1 fun t1 h2 => ((xload Try.prog 3 t1 h2).ok1 fun t3 h4 => ((xindexAddr Try.prog 27 (sl b n cap) (.int .i64 (i : Nat)) h4).ok1 fun t5 h6 => ((xload Try.prog 3 t5 h6).ok1 fun t7 h8 =>
      ((xindexAddr Try.prog 27 (sl b n cap) (.int .i64 (i : Nat)) h8).ok1 fun t9 h10 => ((xstore Try.prog 3 t9 t3 h10).go .pan fun t11 h12 => ((xindexAddr Try.prog 27 (sl b n cap) (.int .i64 (j : Nat)) h12).ok1 fun t13 h14 => ((xstore Try.prog 3 t13 t7 h14).go .pan K)))))))) = K undef h' := by
  obtain ⟨h',s',_,e'⟩ := s.swapU (cap := cap) L hi hj
  exact ⟨h',s',e'⟩
theorem ins_inner (L : LessOk b J cv lt ok h0) (hn : n < 65536) {a bb i : Nat} : ∀ (j : Nat) {h : H} {d : Array Int},SS b n sp J ok h0 h d → j < n → ∃ h',SS b n sp J ok h0 h' (Go.Sort.insInner lt a j d) ∧
    F61.l4 Try.prog CLM nu0 nu0 (sl b n cap) (.int .i64 (a : Nat)) (.int .i64 (bb : Nat)) cv (.int .i64 (i : Nat)) (.int .i64 (j : Nat)) h = F61.j2 Try.prog CLM nu0 nu0 (sl b n cap) (.int .i64 (a : Nat)) (.int .i64 (bb : Nat)) cv (.int .i64 (i : Nat)) h'
  | 0,h,d,s,hj => by
    refine ⟨h,by simp only [Go.Sort.insInner]; exact s,?_⟩
    rw [F61.l4_eq,plain2_int,cond_true,xgtr,Res.ok1_ok,ifV_dec,if_neg (by omega)]
  | j + 1,h,d,s,hj => by
    rw [F61.l4_eq,plain2_int,cond_true,xgtr,Res.ok1_ok,ifV_dec]
    by_cases ha : j + 1 > a
    · obtain ⟨h1,s1,e1⟩ := s.less L (s.ok (j + 1) hj) (s.ok j (by omega))
      rw [if_pos (by omega),s.ld hj,plain2_int,cond_true,xsub,Res.ok1_ok,wsub1 (by omega) (by omega),Nat.add_sub_cancel,s.ld (show j < n by omega),e1]
      cases q : lt d[j + 1]! d[j]! with
      | false =>
        rw [ifV_f]
        exact ⟨h1,by rw [Go.Sort.insInner,if_neg (by rw [q]; simp)]; exact s1,rfl⟩
      | true =>
        obtain ⟨h2,s2,e2⟩ := s1.swap L (i := j + 1) (j := j) hj (by omega)
        obtain ⟨h3,s3,e3⟩ := ins_inner L hn j s2 (by omega)
        refine ⟨h3,by rw [Go.Sort.insInner,if_pos (by rw [q]; simp; omega)]; exact s3,?_⟩
        rw [ifV_t,F61.j6_eq]
        simp only [plain2_int,cond_true,xsub,Res.ok1_ok,go_ok]
        rw [wsub1 (by omega) (by omega),Nat.add_sub_cancel,e2]
        exact e3
    · rw [if_neg (by omega)]
      exact ⟨h,by rw [Go.Sort.insInner,if_neg (by simp [ha])]; exact s,rfl⟩
theorem ins_outer (L : LessOk b J cv lt ok h0) (hn : n < 65536) {a bb : Nat} (hb : bb ≤ n) : ∀ (m i : Nat) {h : H} {d : Array Int},bb - i = m → SS b n sp J ok h0 h d → i < 65537 → ∃ h',SS b n sp J ok h0 h' (Go.Sort.insOuter lt a bb i d) ∧
    F61.l1 Try.prog CLM nu0 nu0 (sl b n cap) (.int .i64 (a : Nat)) (.int .i64 (bb : Nat)) cv (.int .i64 (i : Nat)) h = .ok (.tuple ⟨[]⟩) h' := by
  intro m
  induction m with
  | zero =>
    intro i h d hm s hi
    refine ⟨h,by rw [Go.Sort.insOuter,if_neg (by omega)]; exact s,?_⟩
    rw [F61.l1_eq,xlss,go_ok,ifV_dec,if_neg (by omega)]
  | succ m ih =>
    intro i h d hm s hi
    obtain ⟨h1,s1,e1⟩ := ins_inner (cap := cap) (a := a) (bb := bb) (i := i) L hn i s (by omega)
    obtain ⟨h2,s2,e2⟩ := ih (i + 1) (by omega) s1 (by omega)
    refine ⟨h2,by rw [Go.Sort.insOuter,if_pos (by omega)]; exact s2,?_⟩
    rw [F61.l1_eq,xlss,go_ok,ifV_dec,if_pos (by omega),F61.j3_eq,e1,F61.j2_eq,xadd,go_ok,wadd1 (by omega)]
    exact e2
theorem eIns (L : LessOk b J cv lt ok h0) (hn : n < 65536) {a bb : Nat} (ha : a ≤ bb) (hb : bb ≤ n) {h : H} {d : Array Int} (s : SS b n sp J ok h0 h d) :
    ∃ h',SS b n sp J ok h0 h' (Go.Sort.insertionSort lt d a bb) ∧ CLM (.f 61) [sl b n cap,.int .i64 (a : Nat),.int .i64 (bb : Nat),cv] h = .ok (.tuple ⟨[]⟩) h' := by
  obtain ⟨h1,s1,e1⟩ := ins_outer (cap := cap) (a := a) L hn hb (bb - (a + 1)) (a + 1) rfl s (by omega)
  refine ⟨h1,s1,?_⟩
  rw [cM61,F61.eq,xadd,go_ok,wadd1 (by omega)]
  exact e1
theorem rev_loop (L : LessOk b J cv lt ok h0) (hn : n < 65536) : ∀ (m i j : Nat) {h : H} {d : Array Int},j - i = m → SS b n sp J ok h0 h d → j < n → ∃ h',SS b n sp J ok h0 h' (Go.Sort.reverseLoop i j d) ∧
    F65.l2 Try.prog CLM nu0 nu0 (sl b n cap) (.int .i64 (i : Nat)) (.int .i64 (j : Nat)) h = .ok (.tuple ⟨[]⟩) h' := by
  intro m
  induction m using Nat.strongRecOn with
  | ind m ih =>
    intro i j h d hm s hj
    rw [F65.l2_eq,xlss,go_ok,ifV_dec]
    by_cases q : i < j
    · obtain ⟨h1,s1,e1⟩ := s.swap (cap := cap) L (i := i) (j := j) (by omega) hj
      obtain ⟨h2,s2,e2⟩ := ih (j - 1 - (i + 1)) (by omega) (i + 1) (j - 1) rfl s1 (by omega)
      rw [if_pos (by omega),F65.j3_eq,e1,xadd,go_ok,wadd1 (by omega),xsub,go_ok,wsub1 (by omega) (by omega)]
      exact ⟨h2,by rw [Go.Sort.reverseLoop,if_pos q]; exact s2,e2⟩
    · rw [if_neg (by omega)]
      exact ⟨h,by rw [Go.Sort.reverseLoop,if_neg q]; exact s,rfl⟩
theorem eRev (L : LessOk b J cv lt ok h0) (hn : n < 65536) {a bb : Nat} (ha : a < bb) (hb : bb ≤ n) {h : H} {d : Array Int} (s : SS b n sp J ok h0 h d) :
    ∃ h',SS b n sp J ok h0 h' (Go.Sort.reverseRange d a bb) ∧ CLM (.f 65) [sl b n cap,.int .i64 (a : Nat),.int .i64 (bb : Nat),cv] h = .ok (.tuple ⟨[]⟩) h' := by
  obtain ⟨h1,s1,e1⟩ := rev_loop (cap := cap) L hn (bb - 1 - a) a (bb - 1) rfl s (by omega)
  refine ⟨h1,s1,?_⟩
  rw [cM65,F65.eq,xsub,go_ok,wsub1 (by omega) (by omega)]
  exact e1
end
end Go.Proofs.Ytdadiidfhnojcaa.K.SrtC
namespace Go.Proofs.Ytdadiidfhnojcaa.K.SrtC
open Go Go.Kx Go.Proofs.Ytdadiidfhnojcaa.K
set_option linter.unusedVariables false
set_option linter.unusedSimpArgs false
set_option linter.unusedSectionVars false
set_option maxRecDepth 20000
section
variable {b n cap : Nat} {sp : List Value} {J : H → Prop} {cv : Value} {lt : Int → Int → Bool} {ok : Int → Prop} {h0 : H}
theorem sift_j5 (L : LessOk b J cv lt ok h0) (hn : n < 65536) {hi first root c : Nat} (hrc : root < c) (hh : first + hi ≤ n) (hcl : c < hi)
    (IH : ∀ {h : H} {d : Array Int},SS b n sp J ok h0 h d → ∃ h',SS b n sp J ok h0 h' (Go.Sort.siftDown lt hi first c d) ∧ F75.l1 Try.prog CLM nu0 nu0 (sl b n cap) (.int .i64 (hi : Nat)) (.int .i64 (first : Nat)) cv (.int .i64 (c : Nat)) h = .ok (.tuple ⟨[]⟩) h')
    {h : H} {d : Array Int} (s : SS b n sp J ok h0 h d) :
    ∃ h',SS b n sp J ok h0 h' (if (!lt d[first + root]! d[first + c]!) = true then d else Go.Sort.siftDown lt hi first c (Go.Sort.swp d (first + root) (first + c))) ∧
      F75.j5 Try.prog CLM nu0 nu0 (sl b n cap) (.int .i64 (hi : Nat)) (.int .i64 (first : Nat)) cv (.int .i64 (root : Nat)) (.int .i64 (c : Nat)) h = .ok (.tuple ⟨[]⟩) h' := by
  obtain ⟨h1,s1,e1⟩ := s.less L (s.ok (first + root) (by omega)) (s.ok (first + c) (by omega))
  have hE : F75.j5 Try.prog CLM nu0 nu0 (sl b n cap) (.int .i64 (hi : Nat)) (.int .i64 (first : Nat)) cv (.int .i64 (root : Nat)) (.int .i64 (c : Nat)) h = ifV (.bool (!lt d[first + root]! d[first + c]!)) (.ok (.tuple ⟨[]⟩) h1) (F75.j6 Try.prog CLM nu0 nu0 (sl b n cap) (.int .i64 (hi : Nat)) (.int .i64 (first : Nat)) cv (.int .i64 (root : Nat)) (.int .i64 (c : Nat)) h1) := by
    rw [F75.j5_eq]
    simp only [plain2_int,cond_true,xadd,Res.ok1_ok]
    rw [wadd (by omega),wadd (by omega),s.ld (by omega),s.ld (by omega),e1,xun_not,Res.ok1_ok]
  rw [hE]
  cases q : lt d[first + root]! d[first + c]! with
  | false => exact ⟨h1,by simpa using s1,rfl⟩
  | true =>
    obtain ⟨h2,s2,e2⟩ := s1.swap (cap := cap) L (i := first + root) (j := first + c) (by omega) (by omega)
    obtain ⟨h3,s3,e3⟩ := IH s2
    refine ⟨h3,by simpa using s3,?_⟩
    rw [show (!true) = false from rfl,ifV_f,F75.j6_eq]
    simp only [plain2_int,cond_true,xadd,Res.ok1_ok]
    rw [wadd (by omega),wadd (by omega),e2]
    exact e3
theorem sift_l1 (L : LessOk b J cv lt ok h0) (hn : n < 65536) {hi first : Nat} (hh : first + hi ≤ n) : ∀ (m root : Nat) {h : H} {d : Array Int},hi - root = m → root < 65536 → SS b n sp J ok h0 h d →
    ∃ h',SS b n sp J ok h0 h' (Go.Sort.siftDown lt hi first root d) ∧ F75.l1 Try.prog CLM nu0 nu0 (sl b n cap) (.int .i64 (hi : Nat)) (.int .i64 (first : Nat)) cv (.int .i64 (root : Nat)) h = .ok (.tuple ⟨[]⟩) h' := by
  intro m
  induction m using Nat.strongRecOn with
  | ind m ih =>
    intro root h d hm hr s
    have hE : F75.l1 Try.prog CLM nu0 nu0 (sl b n cap) (.int .i64 (hi : Nat)) (.int .i64 (first : Nat)) cv (.int .i64 (root : Nat)) h = if (hi : Int) ≤ ((2 * root + 1 : Nat) : Int) then .ok (.tuple ⟨[]⟩) h else F75.j3 Try.prog CLM nu0 nu0 (sl b n cap) (.int .i64 (hi : Nat)) (.int .i64 (first : Nat)) cv (.int .i64 (root : Nat)) (.int .i64 ((2 * root + 1 : Nat) : Int)) h := by
      rw [F75.l1_eq,xmul,go_ok,show IntKind.i64.wrap ((2 : Int) * (root : Int)) = ((2 * root : Nat) : Int) from wmul (a := 2) (by omega),xadd,go_ok,wadd1 (by omega),xgeq,go_ok,ifV_dec]
    rw [hE]
    by_cases q : 2 * root + 1 ≥ hi
    · rw [if_pos (by omega)]
      exact ⟨h,by rw [Go.Sort.siftDown,dif_pos q]; exact s,rfl⟩
    · rw [if_neg (by omega)]
      have j5 : ∀ (c : Nat) {h : H} {d : Array Int},(c = 2 * root + 1 ∨ c = 2 * root + 2) → c < hi → SS b n sp J ok h0 h d → ∃ h',SS b n sp J ok h0 h' (if (!lt d[first + root]! d[first + c]!) = true then d else Go.Sort.siftDown lt hi first c (Go.Sort.swp d (first + root) (first + c))) ∧
          F75.j5 Try.prog CLM nu0 nu0 (sl b n cap) (.int .i64 (hi : Nat)) (.int .i64 (first : Nat)) cv (.int .i64 (root : Nat)) (.int .i64 (c : Nat)) h = .ok (.tuple ⟨[]⟩) h' :=
        fun c h d hc hcl s => sift_j5 L hn (by omega) hh hcl (fun {h d} s' => ih (hi - c) (by omega) c rfl (by omega) s') s
      have hE2 : F75.j3 Try.prog CLM nu0 nu0 (sl b n cap) (.int .i64 (hi : Nat)) (.int .i64 (first : Nat)) cv (.int .i64 (root : Nat)) (.int .i64 ((2 * root + 1 : Nat) : Int)) h =
          if ((2 * root + 1 + 1 : Nat) : Int) < (hi : Int) then (((xcallV CLM cv [.int .i64 d[first + (2 * root + 1)]!,.int .i64 d[first + (2 * root + 1) + 1]!] h).go .pan fun t17 h18 => (bif plain2 t17 (.int .i64 0) then ((xbin Try.prog .lss 3 t17 (.int .i64 0) h18).ok1 (fun t27 h28 => (ifV t27 (F75.j5 Try.prog CLM nu0 nu0 (sl b n cap) (.int .i64 (hi : Nat)) (.int .i64 (first : Nat)) cv (.int .i64 (root : Nat)) (.int .i64 ((2 * root + 1 + 1 : Nat) : Int)) h28) (F75.j5 Try.prog CLM nu0 nu0 (sl b n cap) (.int .i64 (hi : Nat)) (.int .i64 (first : Nat)) cv (.int .i64 (root : Nat)) (.int .i64 ((2 * root + 1 : Nat) : Int)) h28)))) else .bad)))
          else F75.j5 Try.prog CLM nu0 nu0 (sl b n cap) (.int .i64 (hi : Nat)) (.int .i64 (first : Nat)) cv (.int .i64 (root : Nat)) (.int .i64 ((2 * root + 1 : Nat) : Int)) h := by
        rw [F75.j3_eq]
        simp only [plain2_int,cond_true,xadd,Res.ok1_ok,go_ok]
        rw [wadd1 (by omega),xlss,Res.ok1_ok,ifV_dec]
        by_cases q2 : ((2 * root + 1 + 1 : Nat) : Int) < (hi : Int)
        · rw [if_pos q2,if_pos q2,wadd (by omega),wadd1 (by omega),s.ld (by omega),s.ld (by omega)]
        · rw [if_neg q2,if_neg q2]
      rw [hE2]
      by_cases q2 : 2 * root + 1 + 1 < hi
      · obtain ⟨h1,s1,e1⟩ := s.less L (s.ok (first + (2 * root + 1)) (by omega)) (s.ok (first + (2 * root + 1) + 1) (by omega))
        rw [if_pos (by omega),e1]
        cases q3 : lt d[first + (2 * root + 1)]! d[first + (2 * root + 1) + 1]! with
        | true =>
          obtain ⟨h2,s2,e2⟩ := j5 (2 * root + 2) (.inr rfl) (by omega) s1
          refine ⟨h2,?_,by rw [ifV_t]; exact e2⟩
          rw [Go.Sort.siftDown,dif_neg q,if_pos (by rw [q3]; simp; omega)]
          rw [dif_pos (by omega)]
          exact s2
        | false =>
          obtain ⟨h2,s2,e2⟩ := j5 (2 * root + 1) (.inl rfl) (by omega) s1
          refine ⟨h2,?_,by rw [ifV_f]; exact e2⟩
          rw [Go.Sort.siftDown,dif_neg q,if_neg (by rw [q3]; simp)]
          exact s2
      · obtain ⟨h2,s2,e2⟩ := j5 (2 * root + 1) (.inl rfl) (by omega) s
        rw [if_neg (by omega)]
        refine ⟨h2,?_,e2⟩
        rw [Go.Sort.siftDown,dif_neg q,if_neg (by simp [q2])]
        exact s2
theorem eSift (L : LessOk b J cv lt ok h0) (hn : n < 65536) {hi first root : Nat} (hh : first + hi ≤ n) (hr : root < 65536) {h : H} {d : Array Int} (s : SS b n sp J ok h0 h d) :
    ∃ h',SS b n sp J ok h0 h' (Go.Sort.siftDown lt hi first root d) ∧ CLM (.f 75) [sl b n cap,.int .i64 (root : Nat),.int .i64 (hi : Nat),.int .i64 (first : Nat),cv] h = .ok (.tuple ⟨[]⟩) h' := by
  obtain ⟨h1,s1,e1⟩ := sift_l1 (cap := cap) L hn hh (hi - root) root rfl hr s
  refine ⟨h1,s1,?_⟩
  rw [cM75,F75.eq]
  exact e1
theorem heap_l8 (L : LessOk b J cv lt ok h0) (hn : n < 65536) {first hi : Nat} (hh : first + hi ≤ n) : ∀ (k : Nat) {z : Int} {h : H} {d : Array Int},k ≤ hi → z = (k : Int) - 1 → SS b n sp J ok h0 h d →
    ∃ h',SS b n sp J ok h0 h' (Go.Sort.heapPop lt first k d) ∧ F62.l8 Try.prog CLM nu0 nu0 (sl b n cap) cv (.int .i64 (first : Nat)) (.int .i64 0) (.int .i64 z) h = .ok (.tuple ⟨[]⟩) h' := by
  intro k
  induction k with
  | zero =>
    intro z h d hk hz s
    refine ⟨h,by simp only [Go.Sort.heapPop]; exact s,?_⟩
    rw [F62.l8_eq,xgeq,go_ok,ifV_dec,if_neg (by omega)]
  | succ k ih =>
    intro z h d hk hz s
    have hz2 : z = ((k : Nat) : Int) := by omega
    subst hz2
    obtain ⟨h1,s1,e1⟩ := s.swap (cap := cap) L (i := first) (j := first + k) (by omega) (by omega)
    obtain ⟨h2,s2,e2⟩ := eSift (cap := cap) L hn (hi := k) (first := first) (root := 0) (by omega) (by omega) s1
    obtain ⟨h3,s3,e3⟩ := ih (z := (k : Int) - 1) (by omega) rfl s2
    refine ⟨h3,by simp only [Go.Sort.heapPop]; exact s3,?_⟩
    rw [F62.l8_eq,xgeq,go_ok,ifV_dec,if_pos (by omega),F62.j10_eq]
    simp only [plain2_int,cond_true,xadd,Res.ok1_ok]
    rw [wadd (by omega),e1]
    rw [show (Value.int .i64 0) = .int .i64 ((0 : Nat) : Int) from rfl,e2,go_ok,xsub,go_ok,wrap64 (by omega)]
    exact e3
theorem heap_l4 (L : LessOk b J cv lt ok h0) (hn : n < 65536) {first hi : Nat} (hh : first + hi ≤ n) : ∀ (k : Nat) {z : Int} {h : H} {d : Array Int},k ≤ hi → z = (k : Int) - 1 → SS b n sp J ok h0 h d →
    ∃ h',SS b n sp J ok h0 h' (Go.Sort.heapBuild lt hi first k d) ∧ F62.l4 Try.prog CLM nu0 nu0 (sl b n cap) cv (.int .i64 (first : Nat)) (.int .i64 0) (.int .i64 (hi : Nat)) (.int .i64 z) h = F62.j7 Try.prog CLM nu0 nu0 (sl b n cap) cv (.int .i64 (first : Nat)) (.int .i64 0) (.int .i64 (hi : Nat)) h' := by
  intro k
  induction k with
  | zero =>
    intro z h d hk hz s
    refine ⟨h,by simp only [Go.Sort.heapBuild]; exact s,?_⟩
    rw [F62.l4_eq,xgeq,go_ok,ifV_dec,if_neg (by omega)]
  | succ k ih =>
    intro z h d hk hz s
    have hz2 : z = ((k : Nat) : Int) := by omega
    subst hz2
    obtain ⟨h2,s2,e2⟩ := eSift (cap := cap) L hn (hi := hi) (first := first) (root := k) (by omega) (by omega) s
    obtain ⟨h3,s3,e3⟩ := ih (z := (k : Int) - 1) (by omega) rfl s2
    refine ⟨h3,by simp only [Go.Sort.heapBuild]; exact s3,?_⟩
    rw [F62.l4_eq,xgeq,go_ok,ifV_dec,if_pos (by omega),e2,go_ok,xsub,go_ok,wrap64 (by omega)]
    exact e3
theorem eHeap (L : LessOk b J cv lt ok h0) (hn : n < 65536) {a bb : Nat} (ha : a < bb) (hb : bb ≤ n) {h : H} {d : Array Int} (s : SS b n sp J ok h0 h d) :
    ∃ h',SS b n sp J ok h0 h' (Go.Sort.heapSort lt d a bb) ∧ CLM (.f 62) [sl b n cap,.int .i64 (a : Nat),.int .i64 (bb : Nat),cv] h = .ok (.tuple ⟨[]⟩) h' := by
  obtain ⟨h1,s1,e1⟩ := heap_l4 (cap := cap) L hn (first := a) (hi := bb - a) (by omega) ((bb - a - 1) / 2 + 1) (z := (((bb - a - 1) / 2 : Nat) : Int)) (by omega) (by omega) s
  obtain ⟨h2,s2,e2⟩ := heap_l8 (cap := cap) L hn (first := a) (hi := bb - a) (by omega) (bb - a) (z := ((bb - a - 1 : Nat) : Int)) (by omega) (by omega) s1
  refine ⟨h2,s2,?_⟩
  rw [cM62,F62.eq,xsub,go_ok,wsub (by omega) (by omega),xsub,go_ok,wsub1 (by omega) (by omega),xquo _ _ _ _ _ _ (by omega),go_ok,show ((bb - a - 1 : Nat) : Int).tdiv 2 = (((bb - a - 1) / 2 : Nat) : Int) from tdivn _ 2,wn (by omega),e1,F62.j7_eq,xsub,go_ok,wsub1 (by omega) (by omega)]
  exact e2
end
end Go.Proofs.Ytdadiidfhnojcaa.K.SrtC
