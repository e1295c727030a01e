/- My texts for this claim, in one file: part 29. -/
import Derived.Test.YtdadiidfhnojcaaWe28
namespace Go.Proofs.Ytdadiidfhnojcaa.K
open Go Go.Kx
set_option maxRecDepth 20000
set_option linter.unusedVariables false
set_option linter.defProp false
namespace F13
noncomputable section
variable (P : Program) (cl : Cl) (nu mu : Nu) (x0 x5 x7 x8 x11 x32 x33 x34 x35 x73 x74 x75 x76 : Value) (h : H)
noncomputable def s := sub (bodyOf Try.f13)
noncomputable def k0 : Ko := kfn P Try.f13.results.toList
def j5 := mu 10 (evT P cl an13 nu (s [1,1,1]) (k0 P)) [(0,x0),(5,x5)] h
def k2 : Ko := kC P cl nu an13 (s [1,1,1,1,1,1]) (k0 P)
def k3 : Ko := kblk 0 (k2 P cl nu)
def l8 := mu 17 (lC P cl nu an13 [0,5,7,8,32,33,34] (s [1,1,1,1,1,0,1,0,0]) (k3 P cl nu)) [(0,x0),(5,x5),(7,x7),(8,x8),(32,x32),(33,x33),(34,x34)] h
def k4 : Ko := kL P cl nu an13 17 [0,5,7,8,32,33,34] (s [1,1,1,1,1,0,1,0,0]) (k3 P cl nu)
def j9 := mu 18 (evT P cl an13 nu (s [1,1,1,1,1,0,1,0,0,1]) (k4 P cl nu)) [(0,x0),(5,x5),(7,x7),(8,x8),(32,x32),(33,x33),(34,x34),(35,x35)] h
def j9_1 := mu 18 (evT P cl an13 nu (s [1,1,1,1,1,0,1,0,0,1,1]) (k4 P cl nu)) [(0,x0),(5,x5),(7,x7),(8,x8),(32,x32),(33,x33),(34,x34),(35,x35)] h
def j14 := mu 28 (evT P cl an13 nu (s [1,1,1,1,1,1]) (k0 P)) [(0,x0),(5,x5),(7,x7),(8,x8)] h
def k7 : Ko := kC P cl nu an13 (s [1,1,1,1,1,1,1,1]) (k0 P)
def k8 : Ko := kblk 2 (k7 P cl nu)
def l15 := mu 31 (lC P cl nu an13 [5,7,8,11] (s [1,1,1,1,1,1,1,0,0,0]) (k8 P cl nu)) [(5,x5),(7,x7),(8,x8),(11,x11)] h
def k9 : Ko := kL P cl nu an13 31 [5,7,8,11] (s [1,1,1,1,1,1,1,0,0,0]) (k8 P cl nu)
def j16 := mu 32 (evT P cl an13 nu (s [1,1,1,1,1,1,1,0,0,0,1]) (k9 P cl nu)) [(5,x5),(7,x7),(8,x8),(11,x11)] h
def k11 : Ko := kblk 3 (k9 P cl nu)
def k12 : Ko := kblk 4 (k11 P cl nu)
def j26 := mu 52 (evT P cl an13 nu (s [1,1,1,1,1,1,1,1]) (k0 P)) [(11,x11)] h
def l20 := mu 41 (lC P cl nu an13 [5,7,8,11,73,74,75] (s [1,1,1,1,1,1,1,0,0,0,1,0,1,1,1,1,0,0]) (k12 P cl nu)) [(5,x5),(7,x7),(8,x8),(11,x11),(73,x73),(74,x74),(75,x75)] h
def k13 : Ko := kL P cl nu an13 41 [5,7,8,11,73,74,75] (s [1,1,1,1,1,1,1,0,0,0,1,0,1,1,1,1,0,0]) (k12 P cl nu)
def j21 := mu 42 (evT P cl an13 nu (s [1,1,1,1,1,1,1,0,0,0,1,0,1,1,1,1,0,0,1]) (k13 P cl nu)) [(5,x5),(7,x7),(8,x8),(11,x11),(73,x73),(74,x74),(75,x75),(76,x76)] h
def j21_1 := mu 42 (evT P cl an13 nu (s [1,1,1,1,1,1,1,0,0,0,1,0,1,1,1,1,0,0,1,1]) (k13 P cl nu)) [(5,x5),(7,x7),(8,x8),(11,x11),(73,x73),(74,x74),(75,x75),(76,x76)] h
theorem j5_eq : j5 P cl nu nu0 x0 x5 h = (xbuiltin P .len [22] [x0] h).go .pan fun t7 h => (xmakeSlice P 27 t7 t7 h).go .pan fun t8 h => (xnilCheck x5 h).go .pan fun t9 h => (xfieldAddr P 79 t9 1 h).go .pan fun t10 h => (xload P 33 t10 h).go .pan fun t11 h => (xbuiltin P .len [33] [t11] h).go .pan fun t12 h => (l8 P cl nu nu x0 x5 t8 (.slice none 0 0) t11 t12 (.int .i64 0) h) := by kernel_rfl
theorem l8n : evT P cl an13 nu (s [1,1,1,1,1,0,1,0,0]) (kL P cl nu an13 17 [0,5,7,8,32,33,34] (s [1,1,1,1,1,0,1,0,0]) (k3 P cl nu)) [(0,x0),(5,x5),(7,x7),(8,x8),(32,x32),(33,x33),(34,x34)] h = (xbin P .lss 3 x34 x33 h).go .pan fun t13 h => (j9 P cl nu nu x0 x5 x7 x8 x32 x33 x34 t13 h) := by kernel_rfl
def l8_eq := @id (l8 P cl nu0 nu0 x0 x5 x7 x8 x32 x33 x34 h = _) (lpN (l8n P cl nu0 x0 x5 x7 x8 x32 x33 x34 h))
theorem j9_eq : j9 P cl nu nu0 x0 x5 x7 x8 x32 x33 x34 x35 h = ifV x35 (j9_1 P cl nu nu x0 x5 x7 x8 x32 x33 x34 x35 h) (j14 P cl nu nu x0 x5 x7 x8 h) := by kernel_rfl
theorem j9_1_eq : j9_1 P cl nu nu0 x0 x5 x7 x8 x32 x33 x34 x35 h = (xindexAddr P 33 x32 x34 h).go .pan fun t14 h => (xload P 27 t14 h).go .pan fun t15 h => (xbuiltin P .len [27] [t15] h).go .pan fun t16 h => (xindexAddr P 27 x7 x34 h).go .pan fun t17 h => (xstore P 3 t17 t16 h).go .pan fun t18 h => (xbuiltin P .len [27] [t15] h).go .pan fun t19 h => (xbin P .eql 3 t19 (.int .i64 0) h).go .pan fun t20 h => ifV t20 ((cl (.f 34) [x5,x8,x34] h).go .pan fun t21 h => (xbin P .add 3 x34 (.int .i64 1) h).go .pan fun t22 h => (l8 P cl nu nu x0 x5 x7 t21 x32 x33 t22 h)) ((xbin P .add 3 x34 (.int .i64 1) h).go .pan fun t23 h => (l8 P cl nu nu x0 x5 x7 x8 x32 x33 t23 h)) := by kernel_rfl
theorem j14_eq : j14 P cl nu nu0 x0 x5 x7 x8 h = (xbuiltin P .len [22] [x0] h).go .pan fun t24 h => (xmakeSlice P 27 (.int .i64 0) t24 h).go .pan fun t25 h => (l15 P cl nu nu x5 x7 x8 t25 h) := by kernel_rfl
theorem l15n : evT P cl an13 nu (s [1,1,1,1,1,1,1,0,0,0]) (kL P cl nu an13 31 [5,7,8,11] (s [1,1,1,1,1,1,1,0,0,0]) (k8 P cl nu)) [(5,x5),(7,x7),(8,x8),(11,x11)] h = (xbuiltin P .len [27] [x8] h).go .pan fun t26 h => (xbin P .gtr 3 t26 (.int .i64 0) h).go .pan fun t27 h => ifV t27 (j16 P cl nu nu x5 x7 x8 x11 h) (j26 P cl nu nu x11 h) := by kernel_rfl
def l15_eq := @id (l15 P cl nu0 nu0 x5 x7 x8 x11 h = _) (lpN (l15n P cl nu0 x5 x7 x8 x11 h))
theorem j16_eq : j16 P cl nu nu0 x5 x7 x8 x11 h = (xindexAddr P 27 x8 (.int .i64 0) h).go .pan fun t28 h => (xload P 3 t28 h).go .pan fun t29 h => (xslice P 27 x8 (some (.int .i64 1)) none none h).go .pan fun t30 h => (xbuildSlice P 27 1 [(0,t29)] h).go .pan fun t31 h => (xbuiltin P .append [27,27] [x11,t31] h).go .pan fun t32 h => (xnilCheck x5 h).go .pan fun t33 h => (xfieldAddr P 79 t33 2 h).go .pan fun t34 h => (xload P 33 t34 h).go .pan fun t35 h => (xindexAddr P 33 t35 t29 h).go .pan fun t36 h => (xload P 27 t36 h).go .pan fun t37 h => (xbuiltin P .len [27] [t37] h).go .pan fun t38 h => (l20 P cl nu nu x5 x7 t30 t32 t37 t38 (.int .i64 0) h) := by kernel_rfl
theorem j26_eq : j26 P cl nu nu0 x11 h = .ok (.tuple ⟨[x11,(.int .i64 0),(.string ⟨#[]⟩)]⟩) h := by kernel_rfl
theorem l20n : evT P cl an13 nu (s [1,1,1,1,1,1,1,0,0,0,1,0,1,1,1,1,0,0]) (kL P cl nu an13 41 [5,7,8,11,73,74,75] (s [1,1,1,1,1,1,1,0,0,0,1,0,1,1,1,1,0,0]) (k12 P cl nu)) [(5,x5),(7,x7),(8,x8),(11,x11),(73,x73),(74,x74),(75,x75)] h = (xbin P .lss 3 x75 x74 h).go .pan fun t39 h => (j21 P cl nu nu x5 x7 x8 x11 x73 x74 x75 t39 h) := by kernel_rfl
def l20_eq := @id (l20 P cl nu0 nu0 x5 x7 x8 x11 x73 x74 x75 h = _) (lpN (l20n P cl nu0 x5 x7 x8 x11 x73 x74 x75 h))
theorem j21_eq : j21 P cl nu nu0 x5 x7 x8 x11 x73 x74 x75 x76 h = ifV x76 (j21_1 P cl nu nu x5 x7 x8 x11 x73 x74 x75 x76 h) (l15 P cl nu nu x5 x7 x8 x11 h) := by kernel_rfl
theorem j21_1_eq : j21_1 P cl nu nu0 x5 x7 x8 x11 x73 x74 x75 x76 h = (xindexAddr P 27 x73 x75 h).go .pan fun t40 h => (xload P 3 t40 h).go .pan fun t41 h => (xindexAddr P 27 x7 t41 h).go .pan fun t42 h => (xload P 3 t42 h).go .pan fun t43 h => (xbin P .sub 3 t43 (.int .i64 1) h).go .pan fun t44 h => (xindexAddr P 27 x7 t41 h).go .pan fun t45 h => (xstore P 3 t45 t44 h).go .pan fun t46 h => (xindexAddr P 27 x7 t41 h).go .pan fun t47 h => (xload P 3 t47 h).go .pan fun t48 h => (xbin P .eql 3 t48 (.int .i64 0) h).go .pan fun t49 h => ifV t49 ((cl (.f 34) [x5,x8,t41] h).go .pan fun t50 h => (xbin P .add 3 x75 (.int .i64 1) h).go .pan fun t51 h => (l20 P cl nu nu x5 x7 t50 x11 x73 x74 t51 h)) ((xbin P .add 3 x75 (.int .i64 1) h).go .pan fun t52 h => (l20 P cl nu nu x5 x7 x8 x11 x73 x74 t52 h)) := by kernel_rfl
theorem eq : runX P cl nu an13 Try.f13 [x0] h = (cl (.f 32) [x0] h).go .pan fun t1 h => (cl (.f 33) [t1] h).go .pan fun t2 h => (xbin P .geq 3 t2 (.int .i64 0) h).go .pan fun t3 h => ifV t3 ((xindexAddr P 22 x0 t2 h).ok1 fun t4 h => (xfieldAddr P 55 t4 0 h).ok1 fun t5 h => (xload P 9 t5 h).ok1 fun t6 h => bif (rc (xload P 9 t5 h) (some t6) && true) then (bif (rc (xload P 9 t5 h) (some t6) && true) then (.ok (.tuple ⟨[(.slice none 0 0),(.int .i64 130),t6]⟩) h) else .bad) else .bad) (j5 P cl nu nu x0 t1 h) := by kernel_rfl
end
end F13
namespace F15
noncomputable section
variable (P : Program) (cl : Cl) (nu mu : Nu) (x0 x5 x8 x9 x10 x12 x31 x32 x33 x34 x43 x44 x45 x46 x91 x92 x93 : Value) (h : H)
noncomputable def s := sub (bodyOf Try.f15)
noncomputable def k0 : Ko := kfn P Try.f15.results.toList
def j4 := mu 8 (evT P cl an15 nu (s [1,1,1]) (k0 P)) [(0,x0),(5,x5)] h
def k2 : Ko := kC P cl nu an15 (s [1,1,1,1,1,1,1]) (k0 P)
def k3 : Ko := kblk 0 (k2 P cl nu)
def l8 := mu 17 (lC P cl nu an15 [8,9,10,31,32,33] (s [1,1,1,1,1,1,0,1,0,0]) (k3 P cl nu)) [(8,x8),(9,x9),(10,x10),(31,x31),(32,x32),(33,x33)] h
def k4 : Ko := kL P cl nu an15 17 [8,9,10,31,32,33] (s [1,1,1,1,1,1,0,1,0,0]) (k3 P cl nu)
def j9 := mu 18 (evT P cl an15 nu (s [1,1,1,1,1,1,0,1,0,0,1]) (k4 P cl nu)) [(8,x8),(9,x9),(10,x10),(31,x31),(32,x32),(33,x33),(34,x34)] h
def j9_1 := mu 18 (evT P cl an15 nu (s [1,1,1,1,1,1,0,1,0,0,1,1]) (k4 P cl nu)) [(8,x8),(9,x9),(10,x10),(31,x31),(32,x32),(33,x33),(34,x34)] h
def k5 : Ko := kC P cl nu an15 (s [1,1,1,1,1,1,0,1,0,0,1,1,1]) (k4 P cl nu)
def k6 : Ko := kblk 1 (k5 P cl nu)
def k7 : Ko := kC P cl nu an15 (s [1,1,1,1,1,1,0,1,0,0,1,1,0,0,1,1]) (k6 P cl nu)
def k8 : Ko := kblk 2 (k7 P cl nu)
def j19 := mu 38 (evT P cl an15 nu (s [1,1,1,1,1,1,1]) (k0 P)) [(8,x8),(10,x10)] h
def k9 : Ko := kC P cl nu an15 (s [1,1,1,1,1,1,1,1]) (k0 P)
def k10 : Ko := kblk 6 (k9 P cl nu)
def l11 := mu 23 (lC P cl nu an15 [8,9,10,12,31,32,33,43,44,45] (s [1,1,1,1,1,1,0,1,0,0,1,1,0,0,1,0,1,0,0]) (k8 P cl nu)) [(8,x8),(9,x9),(10,x10),(12,x12),(31,x31),(32,x32),(33,x33),(43,x43),(44,x44),(45,x45)] h
def k11 : Ko := kL P cl nu an15 23 [8,9,10,12,31,32,33,43,44,45] (s [1,1,1,1,1,1,0,1,0,0,1,1,0,0,1,0,1,0,0]) (k8 P cl nu)
def l20 := mu 41 (lC P cl nu an15 [8,10,91,92] (s [1,1,1,1,1,1,1,0,1,0,0]) (k10 P cl nu)) [(8,x8),(10,x10),(91,x91),(92,x92)] h
def k12 : Ko := kL P cl nu an15 41 [8,10,91,92] (s [1,1,1,1,1,1,1,0,1,0,0]) (k10 P cl nu)
def j12 := mu 24 (evT P cl an15 nu (s [1,1,1,1,1,1,0,1,0,0,1,1,0,0,1,0,1,0,0,1]) (k11 P cl nu)) [(8,x8),(9,x9),(10,x10),(12,x12),(31,x31),(32,x32),(33,x33),(43,x43),(44,x44),(45,x45),(46,x46)] h
def j21 := mu 42 (evT P cl an15 nu (s [1,1,1,1,1,1,1,0,1,0,0,1]) (k12 P cl nu)) [(8,x8),(10,x10),(91,x91),(92,x92),(93,x93)] h
def j12_1 := mu 24 (evT P cl an15 nu (s [1,1,1,1,1,1,0,1,0,0,1,1,0,0,1,0,1,0,0,1,1]) (k11 P cl nu)) [(8,x8),(9,x9),(10,x10),(12,x12),(31,x31),(32,x32),(33,x33),(43,x43),(44,x44),(45,x45),(46,x46)] h
def j15 := mu 30 (evT P cl an15 nu (s [1,1,1,1,1,1,0,1,0,0,1,1,0,0,1,1]) (k6 P cl nu)) [(8,x8),(9,x9),(10,x10),(12,x12),(31,x31),(32,x32),(33,x33)] h
def k15 : Ko := kC P cl nu an15 (s [1,1,1,1,1,1,0,1,0,0,1,1,0,0,1,1,1]) (k6 P cl nu)
def k16 : Ko := kblk 4 (k15 P cl nu)
def j21_1 := mu 42 (evT P cl an15 nu (s [1,1,1,1,1,1,1,0,1,0,0,1,1]) (k12 P cl nu)) [(8,x8),(10,x10),(91,x91),(92,x92),(93,x93)] h
def j24 := mu 48 (evT P cl an15 nu (s [1,1,1,1,1,1,1,1]) (k0 P)) [(10,x10)] h
def l15 := mu 31 (lC P cl nu an15 [8,9,10,12,31,32,33] (s [1,1,1,1,1,1,0,1,0,0,1,1,0,0,1,1,0,0,0]) (k16 P cl nu)) [(8,x8),(9,x9),(10,x10),(12,x12),(31,x31),(32,x32),(33,x33)] h
def j17 := mu 34 (evT P cl an15 nu (s [1,1,1,1,1,1,0,1,0,0,1,1,0,0,1,1,1]) (k6 P cl nu)) [(8,x8),(9,x9),(10,x10),(12,x12),(31,x31),(32,x32),(33,x33)] h
def j18 := mu 36 (evT P cl an15 nu (s [1,1,1,1,1,1,0,1,0,0,1,1,1]) (k4 P cl nu)) [(8,x8),(9,x9),(10,x10),(31,x31),(32,x32),(33,x33)] h
theorem j4_eq : j4 P cl nu nu0 x0 x5 h = (cl (.f 32) [x0] h).go .pan fun t6 h => (xbuiltin P .len [22] [x0] h).go .pan fun t7 h => (xmakeSlice P 27 t7 t7 h).go .pan fun t8 h => (xbuiltin P .len [27] [x5] h).go .pan fun t9 h => (l8 P cl nu nu t6 t8 (.slice none 0 0) x5 t9 (.int .i64 0) h) := by kernel_rfl
theorem l8n : evT P cl an15 nu (s [1,1,1,1,1,1,0,1,0,0]) (kL P cl nu an15 17 [8,9,10,31,32,33] (s [1,1,1,1,1,1,0,1,0,0]) (k3 P cl nu)) [(8,x8),(9,x9),(10,x10),(31,x31),(32,x32),(33,x33)] h = (xbin P .lss 3 x33 x32 h).go .pan fun t10 h => (j9 P cl nu nu x8 x9 x10 x31 x32 x33 t10 h) := by kernel_rfl
def l8_eq := @id (l8 P cl nu0 nu0 x8 x9 x10 x31 x32 x33 h = _) (lpN (l8n P cl nu0 x8 x9 x10 x31 x32 x33 h))
theorem j9_eq : j9 P cl nu nu0 x8 x9 x10 x31 x32 x33 x34 h = ifV x34 (j9_1 P cl nu nu x8 x9 x10 x31 x32 x33 x34 h) (j19 P cl nu nu x8 x10 h) := by kernel_rfl
theorem j9_1_eq : j9_1 P cl nu nu0 x8 x9 x10 x31 x32 x33 x34 h = (xindexAddr P 27 x31 x33 h).go .pan fun t11 h => (xload P 3 t11 h).go .pan fun t12 h => (xnilCheck x8 h).go .pan fun t13 h => (xfieldAddr P 79 t13 1 h).go .pan fun t14 h => (xload P 33 t14 h).go .pan fun t15 h => (xindexAddr P 33 t15 t12 h).go .pan fun t16 h => (xload P 27 t16 h).go .pan fun t17 h => (xbuiltin P .len [27] [t17] h).go .pan fun t18 h => (l11 P cl nu nu x8 x9 x10 t12 x31 x32 x33 t17 t18 (.int .i64 0) h) := by kernel_rfl
theorem j19_eq : j19 P cl nu nu0 x8 x10 h = (xbuiltin P .len [33] [x10] h).go .pan fun t19 h => (l20 P cl nu nu x8 x10 t19 (.int .i64 0) h) := by kernel_rfl
theorem l11n : evT P cl an15 nu (s [1,1,1,1,1,1,0,1,0,0,1,1,0,0,1,0,1,0,0]) (kL P cl nu an15 23 [8,9,10,12,31,32,33,43,44,45] (s [1,1,1,1,1,1,0,1,0,0,1,1,0,0,1,0,1,0,0]) (k8 P cl nu)) [(8,x8),(9,x9),(10,x10),(12,x12),(31,x31),(32,x32),(33,x33),(43,x43),(44,x44),(45,x45)] h = (xbin P .lss 3 x45 x44 h).go .pan fun t20 h => (j12 P cl nu nu x8 x9 x10 x12 x31 x32 x33 x43 x44 x45 t20 h) := by kernel_rfl
def l11_eq := @id (l11 P cl nu0 nu0 x8 x9 x10 x12 x31 x32 x33 x43 x44 x45 h = _) (lpN (l11n P cl nu0 x8 x9 x10 x12 x31 x32 x33 x43 x44 x45 h))
theorem l20n : evT P cl an15 nu (s [1,1,1,1,1,1,1,0,1,0,0]) (kL P cl nu an15 41 [8,10,91,92] (s [1,1,1,1,1,1,1,0,1,0,0]) (k10 P cl nu)) [(8,x8),(10,x10),(91,x91),(92,x92)] h = (xbin P .lss 3 x92 x91 h).go .pan fun t21 h => (j21 P cl nu nu x8 x10 x91 x92 t21 h) := by kernel_rfl
def l20_eq := @id (l20 P cl nu0 nu0 x8 x10 x91 x92 h = _) (lpN (l20n P cl nu0 x8 x10 x91 x92 h))
theorem j12_eq : j12 P cl nu nu0 x8 x9 x10 x12 x31 x32 x33 x43 x44 x45 x46 h = ifV x46 (j12_1 P cl nu nu x8 x9 x10 x12 x31 x32 x33 x43 x44 x45 x46 h) (j15 P cl nu nu x8 x9 x10 x12 x31 x32 x33 h) := by kernel_rfl
theorem j21_eq : j21 P cl nu nu0 x8 x10 x91 x92 x93 h = ifV x93 (j21_1 P cl nu nu x8 x10 x91 x92 x93 h) (j24 P cl nu nu x10 h) := by kernel_rfl
theorem j12_1_eq : j12_1 P cl nu nu0 x8 x9 x10 x12 x31 x32 x33 x43 x44 x45 x46 h = (xindexAddr P 27 x43 x45 h).go .pan fun t22 h => (xload P 3 t22 h).go .pan fun t23 h => (xindexAddr P 27 x9 x12 h).ok1 fun t24 h => (xload P 3 t24 h).ok1 fun t25 h => (xindexAddr P 27 x9 t23 h).ok1 fun t26 h => (xload P 3 t26 h).ok1 fun t27 h => bif plain2 t27 (.int .i64 1) then ((xbin P .add 3 t27 (.int .i64 1) h).ok1 fun t28 h => (xbuiltin P .max [3,3] [t25,t28] h).go .pan fun t29 h => (xindexAddr P 27 x9 x12 h).ok1 fun t30 h => (xstore P 3 t30 t29 h).go .pan fun t31 h => (xbin P .add 3 x45 (.int .i64 1) h).go .pan fun t32 h => (l11 P cl nu nu x8 x9 x10 x12 x31 x32 x33 x43 x44 t32 h)) else .bad := by kernel_rfl
theorem j15_eq : j15 P cl nu nu0 x8 x9 x10 x12 x31 x32 x33 h = l15 P cl nu nu x8 x9 x10 x12 x31 x32 x33 h := by kernel_rfl
theorem j21_1_eq : j21_1 P cl nu nu0 x8 x10 x91 x92 x93 h = (xindexAddr P 33 x10 x92 h).go .pan fun t33 h => (xload P 27 t33 h).go .pan fun t34 h => (cl (.f 39) [t34,(.func (.func 40) ⟨[x8]⟩ ⟨[]⟩)] h).go .pan fun t35 h => (xbin P .add 3 x92 (.int .i64 1) h).go .pan fun t36 h => (l20 P cl nu nu x8 x10 x91 t36 h) := by kernel_rfl
theorem j24_eq : j24 P cl nu nu0 x10 h = .ok (.tuple ⟨[x10,(.int .i64 0),(.string ⟨#[]⟩)]⟩) h := by kernel_rfl
theorem l15n : evT P cl an15 nu (s [1,1,1,1,1,1,0,1,0,0,1,1,0,0,1,1,0,0,0]) (kL P cl nu an15 31 [8,9,10,12,31,32,33] (s [1,1,1,1,1,1,0,1,0,0,1,1,0,0,1,1,0,0,0]) (k16 P cl nu)) [(8,x8),(9,x9),(10,x10),(12,x12),(31,x31),(32,x32),(33,x33)] h = (xbuiltin P .len [33] [x10] h).go .pan fun t37 h => (xindexAddr P 27 x9 x12 h).go .pan fun t38 h => (xload P 3 t38 h).go .pan fun t39 h => (xbin P .leq 3 t37 t39 h).go .pan fun t40 h => ifV t40 ((xbuildSlice P 33 1 [(0,(.slice none 0 0))] h).go .pan fun t41 h => (xbuiltin P .append [33,33] [x10,t41] h).go .pan fun t42 h => (l15 P cl nu nu x8 x9 t42 x12 x31 x32 x33 h)) (j17 P cl nu nu x8 x9 x10 x12 x31 x32 x33 h) := by kernel_rfl
def l15_eq := @id (l15 P cl nu0 nu0 x8 x9 x10 x12 x31 x32 x33 h = _) (lpN (l15n P cl nu0 x8 x9 x10 x12 x31 x32 x33 h))
theorem j17_eq : j17 P cl nu nu0 x8 x9 x10 x12 x31 x32 x33 h = (xindexAddr P 27 x9 x12 h).ok1 fun t43 h => (xload P 3 t43 h).ok1 fun t44 h => (xindexAddr P 27 x9 x12 h).ok1 fun t45 h => (xload P 3 t45 h).ok1 fun t46 h => (xindexAddr P 33 x10 t46 h).ok1 fun t47 h => (xload P 27 t47 h).ok1 fun t48 h => (xbuildSlice P 27 1 [(0,x12)] h).go .pan fun t49 h => bif (rc (xload P 3 t43 h) (some t44) && (rc (xload P 3 t45 h) (some t46) && (rc (xload P 27 t47 h) (some t48) && true))) then ((xbuiltin P .append [27,27] [t48,t49] h).go .pan fun t50 h => bif (rc (xload P 3 t43 h) (some t44) && true) then ((xindexAddr P 33 x10 t44 h).ok1 fun t51 h => (xstore P 27 t51 t50 h).go .pan fun t52 h => (j18 P cl nu nu x8 x9 x10 x31 x32 x33 h)) else .bad) else .bad := by kernel_rfl
theorem j18_eq : j18 P cl nu nu0 x8 x9 x10 x31 x32 x33 h = (xbin P .add 3 x33 (.int .i64 1) h).go .pan fun t53 h => (l8 P cl nu nu x8 x9 x10 x31 x32 t53 h) := by kernel_rfl
theorem eq : runX P cl nu an15 Try.f15 [x0] h = (cl (.f 13) [x0] h).go .pan fun t1 h => (xextract t1 0 h).go .pan fun t2 h => (xextract t1 1 h).go .pan fun t3 h => (xextract t1 2 h).go .pan fun t4 h => (xbin P .neq 28 t3 (.int .i64 0) h).go .pan fun t5 h => ifV t5 (.ok (.tuple ⟨[(.slice none 0 0),t3,t4]⟩) h) (j4 P cl nu nu x0 t2 h) := by kernel_rfl
end
end F15
namespace F21
noncomputable section
variable (P : Program) (cl : Cl) (nu mu : Nu) (x0 x1 : Value) (h : H)
noncomputable def s := sub (bodyOf Try.f21)
noncomputable def k0 : Ko := kfn P Try.f21.results.toList
def j3 := mu 6 (evT P cl an21 nu (s [1,1]) (k0 P)) [(0,x0),(1,x1)] h
theorem j3_eq : j3 P cl nu nu0 x0 x1 h = (cl (.f 41) [x0] h).go .pan fun t4 h => (xindexAddr P 33 t4 x1 h).go .pan fun t5 h => (xload P 27 t5 h).go .pan fun t6 h => .ok t6 h := by kernel_rfl
theorem eq : runX P cl nu an21 Try.f21 [x0,x1] h = (xbin P .lss 3 x1 (.int .i64 0) h).go .pan fun t1 h => ifV t1 (.ok (.slice none 0 0) h) ((xbuiltin P .len [22] [x0] h).go .pan fun t2 h => (xbin P .geq 3 x1 t2 h).go .pan fun t3 h => ifV t3 (.ok (.slice none 0 0) h) (j3 P cl nu nu x0 x1 h)) := by kernel_rfl
end
end F21
namespace F32
noncomputable section
variable (P : Program) (cl : Cl) (nu mu : Nu) (x0 x3 x4 x19 x20 x21 x22 x26 x27 x28 x29 : Value) (h : H)
noncomputable def s := sub (bodyOf Try.f32)
noncomputable def k0 : Ko := kfn P Try.f32.results.toList
def k1 : Ko := kC P cl nu an32 (s [1,1,1]) (k0 P)
def k2 : Ko := kblk 0 (k1 P cl nu)
def l3 := mu 7 (lC P cl nu an32 [3,19,20,21] (s [1,1,0,1,0,0]) (k2 P cl nu)) [(3,x3),(19,x19),(20,x20),(21,x21)] h
def k3 : Ko := kL P cl nu an32 7 [3,19,20,21] (s [1,1,0,1,0,0]) (k2 P cl nu)
def j4 := mu 8 (evT P cl an32 nu (s [1,1,0,1,0,0,1]) (k3 P cl nu)) [(3,x3),(19,x19),(20,x20),(21,x21),(22,x22)] h
def j4_1 := mu 8 (evT P cl an32 nu (s [1,1,0,1,0,0,1,1]) (k3 P cl nu)) [(3,x3),(19,x19),(20,x20),(21,x21),(22,x22)] h
def k4 : Ko := kC P cl nu an32 (s [1,1,0,1,0,0,1,1,1]) (k3 P cl nu)
def k5 : Ko := kblk 1 (k4 P cl nu)
def k6 : Ko := kblk 2 (k5 P cl nu)
def j11 := mu 22 (evT P cl an32 nu (s [1,1,1]) (k0 P)) [(3,x3)] h
def l6 := mu 13 (lC P cl nu an32 [3,4,19,20,21,26,27,28] (s [1,1,0,1,0,0,1,1,0,0,1,1,0,0]) (k6 P cl nu)) [(3,x3),(4,x4),(19,x19),(20,x20),(21,x21),(26,x26),(27,x27),(28,x28)] h
def k7 : Ko := kL P cl nu an32 13 [3,4,19,20,21,26,27,28] (s [1,1,0,1,0,0,1,1,0,0,1,1,0,0]) (k6 P cl nu)
def j7 := mu 14 (evT P cl an32 nu (s [1,1,0,1,0,0,1,1,0,0,1,1,0,0,1]) (k7 P cl nu)) [(3,x3),(4,x4),(19,x19),(20,x20),(21,x21),(26,x26),(27,x27),(28,x28),(29,x29)] h
def j7_1 := mu 14 (evT P cl an32 nu (s [1,1,0,1,0,0,1,1,0,0,1,1,0,0,1,1]) (k7 P cl nu)) [(3,x3),(4,x4),(19,x19),(20,x20),(21,x21),(26,x26),(27,x27),(28,x28),(29,x29)] h
def j10 := mu 20 (evT P cl an32 nu (s [1,1,0,1,0,0,1,1,1]) (k3 P cl nu)) [(3,x3),(19,x19),(20,x20),(21,x21)] h
theorem l3n : evT P cl an32 nu (s [1,1,0,1,0,0]) (kL P cl nu an32 7 [3,19,20,21] (s [1,1,0,1,0,0]) (k2 P cl nu)) [(3,x3),(19,x19),(20,x20),(21,x21)] h = (xbin P .lss 3 x21 x20 h).go .pan fun t10 h => (j4 P cl nu nu x3 x19 x20 x21 t10 h) := by kernel_rfl
def l3_eq := @id (l3 P cl nu0 nu0 x3 x19 x20 x21 h = _) (lpN (l3n P cl nu0 x3 x19 x20 x21 h))
theorem j4_eq : j4 P cl nu nu0 x3 x19 x20 x21 x22 h = ifV x22 (j4_1 P cl nu nu x3 x19 x20 x21 x22 h) (j11 P cl nu nu x3 h) := by kernel_rfl
theorem j4_1_eq : j4_1 P cl nu nu0 x3 x19 x20 x21 x22 h = (xindexAddr P 33 x19 x21 h).go .pan fun t11 h => (xload P 27 t11 h).go .pan fun t12 h => (xbuiltin P .len [27] [t12] h).go .pan fun t13 h => (l6 P cl nu nu x3 x21 x19 x20 x21 t12 t13 (.int .i64 0) h) := by kernel_rfl
theorem j11_eq : j11 P cl nu nu0 x3 h = .ok x3 h := by kernel_rfl
theorem l6n : evT P cl an32 nu (s [1,1,0,1,0,0,1,1,0,0,1,1,0,0]) (kL P cl nu an32 13 [3,4,19,20,21,26,27,28] (s [1,1,0,1,0,0,1,1,0,0,1,1,0,0]) (k6 P cl nu)) [(3,x3),(4,x4),(19,x19),(20,x20),(21,x21),(26,x26),(27,x27),(28,x28)] h = (xbin P .lss 3 x28 x27 h).go .pan fun t14 h => (j7 P cl nu nu x3 x4 x19 x20 x21 x26 x27 x28 t14 h) := by kernel_rfl
def l6_eq := @id (l6 P cl nu0 nu0 x3 x4 x19 x20 x21 x26 x27 x28 h = _) (lpN (l6n P cl nu0 x3 x4 x19 x20 x21 x26 x27 x28 h))
theorem j7_eq : j7 P cl nu nu0 x3 x4 x19 x20 x21 x26 x27 x28 x29 h = ifV x29 (j7_1 P cl nu nu x3 x4 x19 x20 x21 x26 x27 x28 x29 h) (j10 P cl nu nu x3 x19 x20 x21 h) := by kernel_rfl
theorem j7_1_eq : j7_1 P cl nu nu0 x3 x4 x19 x20 x21 x26 x27 x28 x29 h = (xindexAddr P 27 x26 x28 h).go .pan fun t15 h => (xload P 3 t15 h).go .pan fun t16 h => (xnilCheck x3 h).ok1 fun t17 h => (xfieldAddr P 79 t17 2 h).ok1 fun t18 h => (xload P 33 t18 h).ok1 fun t19 h => (xnilCheck x3 h).ok1 fun t20 h => (xfieldAddr P 79 t20 2 h).ok1 fun t21 h => (xload P 33 t21 h).ok1 fun t22 h => (xindexAddr P 33 t22 t16 h).ok1 fun t23 h => (xload P 27 t23 h).ok1 fun t24 h => (xbuildSlice P 27 1 [(0,x4)] h).go .pan fun t25 h => bif (rc (xload P 33 t18 h) (some t19) && (rc (xload P 33 t21 h) (some t22) && (rc (xload P 27 t23 h) (some t24) && true))) then ((xbuiltin P .append [27,27] [t24,t25] h).go .pan fun t26 h => bif (rc (xload P 33 t18 h) (some t19) && true) then ((xindexAddr P 33 t19 t16 h).ok1 fun t27 h => (xstore P 27 t27 t26 h).go .pan fun t28 h => (xbin P .add 3 x28 (.int .i64 1) h).go .pan fun t29 h => (l6 P cl nu nu x3 x4 x19 x20 x21 x26 x27 t29 h)) else .bad) else .bad := by kernel_rfl
theorem j10_eq : j10 P cl nu nu0 x3 x19 x20 x21 h = (xbin P .add 3 x21 (.int .i64 1) h).go .pan fun t30 h => (l3 P cl nu nu x3 x19 x20 t30 h) := by kernel_rfl
theorem eq : runX P cl nu an32 Try.f32 [x0] h = bif (lenV x0).isSome then ((xbuiltin P .len [22] [x0] h).ok1 fun t1 h => bif ((layMake P 33 t1 t1).isSome && true) then ((cl (.f 41) [x0] h).go .pan fun t2 h => (xmakeSlice P 33 t1 t1 h).go .pan fun t3 h => (xbuild P 79 [(0,x0),(1,t2),(2,t3)] h).ok1 fun t4 h => (xbox 79 t4 h).go .pan fun t5 h => (xnilCheck t5 h).go .pan fun t6 h => (xfieldAddr P 79 t6 1 h).go .pan fun t7 h => (xload P 33 t7 h).go .pan fun t8 h => (xbuiltin P .len [33] [t8] h).go .pan fun t9 h => (l3 P cl nu nu t5 t8 t9 (.int .i64 0) h)) else .bad) else .bad := by kernel_rfl
end
end F32
namespace F33
noncomputable section
variable (P : Program) (cl : Cl) (nu mu : Nu) (x0 x3 x4 x5 x31 x32 x33 x54 x55 x56 x57 : Value) (h : H)
noncomputable def s := sub (bodyOf Try.f33)
noncomputable def k0 : Ko := kfn P Try.f33.results.toList
def k1 : Ko := kC P cl nu an33 (s [1,1,1,1]) (k0 P)
def k2 : Ko := kblk 0 (k1 P cl nu)
def l4 := mu 9 (lC P cl nu an33 [0,3,4,5,31,32] (s [1,1,1,0,1,0,0]) (k2 P cl nu)) [(0,x0),(3,x3),(4,x4),(5,x5),(31,x31),(32,x32)] h
def k3 : Ko := kL P cl nu an33 9 [0,3,4,5,31,32] (s [1,1,1,0,1,0,0]) (k2 P cl nu)
def j5 := mu 10 (evT P cl an33 nu (s [1,1,1,0,1,0,0,1]) (k3 P cl nu)) [(0,x0),(3,x3),(4,x4),(5,x5),(31,x31),(32,x32),(33,x33)] h
def j5_1 := mu 10 (evT P cl an33 nu (s [1,1,1,0,1,0,0,1,1]) (k3 P cl nu)) [(0,x0),(3,x3),(4,x4),(5,x5),(31,x31),(32,x32),(33,x33)] h
def j9 := mu 18 (evT P cl an33 nu (s [1,1,1,1]) (k0 P)) [(0,x0),(5,x5)] h
def k6 : Ko := kC P cl nu an33 (s [1,1,1,1,1,1]) (k0 P)
def k7 : Ko := kblk 2 (k6 P cl nu)
def l11 := mu 23 (lC P cl nu an33 [0,54,55,56] (s [1,1,1,1,1,0,1,0,0]) (k7 P cl nu)) [(0,x0),(54,x54),(55,x55),(56,x56)] h
def k8 : Ko := kL P cl nu an33 23 [0,54,55,56] (s [1,1,1,1,1,0,1,0,0]) (k7 P cl nu)
def j12 := mu 24 (evT P cl an33 nu (s [1,1,1,1,1,0,1,0,0,1]) (k8 P cl nu)) [(0,x0),(54,x54),(55,x55),(56,x56),(57,x57)] h
def j12_1 := mu 24 (evT P cl an33 nu (s [1,1,1,1,1,0,1,0,0,1,1]) (k8 P cl nu)) [(0,x0),(54,x54),(55,x55),(56,x56),(57,x57)] h
def j16 := mu 32 (evT P cl an33 nu (s [1,1,1,1,1,1]) (k0 P)) [] h
theorem l4n : evT P cl an33 nu (s [1,1,1,0,1,0,0]) (kL P cl nu an33 9 [0,3,4,5,31,32] (s [1,1,1,0,1,0,0]) (k2 P cl nu)) [(0,x0),(3,x3),(4,x4),(5,x5),(31,x31),(32,x32)] h = (xbin P .lss 3 x32 x31 h).go .pan fun t19 h => (j5 P cl nu nu x0 x3 x4 x5 x31 x32 t19 h) := by kernel_rfl
def l4_eq := @id (l4 P cl nu0 nu0 x0 x3 x4 x5 x31 x32 h = _) (lpN (l4n P cl nu0 x0 x3 x4 x5 x31 x32 h))
theorem j5_eq : j5 P cl nu nu0 x0 x3 x4 x5 x31 x32 x33 h = ifV x33 (j5_1 P cl nu nu x0 x3 x4 x5 x31 x32 x33 h) (j9 P cl nu nu x0 x5 h) := by kernel_rfl
theorem j5_1_eq : j5_1 P cl nu nu0 x0 x3 x4 x5 x31 x32 x33 h = (xindexAddr P 83 x3 x32 h).go .pan fun t20 h => (xload P 4 t20 h).go .pan fun t21 h => ifV t21 ((xindexAddr P 83 x4 x32 h).go .pan fun t22 h => (xload P 4 t22 h).go .pan fun t23 h => ifV t23 ((xbuildSlice P 27 1 [(0,x32)] h).go .pan fun t24 h => (xbuiltin P .append [27,27] [x5,t24] h).go .pan fun t25 h => (xbin P .add 3 x32 (.int .i64 1) h).go .pan fun t26 h => (l4 P cl nu nu x0 x3 x4 t25 x31 t26 h)) ((xbin P .add 3 x32 (.int .i64 1) h).go .pan fun t27 h => (l4 P cl nu nu x0 x3 x4 x5 x31 t27 h))) ((xbin P .add 3 x32 (.int .i64 1) h).go .pan fun t28 h => (l4 P cl nu nu x0 x3 x4 x5 x31 t28 h)) := by kernel_rfl
theorem j9_eq : j9 P cl nu nu0 x0 x5 h = (cl (.f 39) [x5,(.func (.func 40) ⟨[x0]⟩ ⟨[]⟩)] h).go .pan fun t29 h => (xbuiltin P .len [27] [x5] h).go .pan fun t30 h => (l11 P cl nu nu x0 x5 t30 (.int .i64 0) h) := by kernel_rfl
theorem l11n : evT P cl an33 nu (s [1,1,1,1,1,0,1,0,0]) (kL P cl nu an33 23 [0,54,55,56] (s [1,1,1,1,1,0,1,0,0]) (k7 P cl nu)) [(0,x0),(54,x54),(55,x55),(56,x56)] h = (xbin P .lss 3 x56 x55 h).go .pan fun t31 h => (j12 P cl nu nu x0 x54 x55 x56 t31 h) := by kernel_rfl
def l11_eq := @id (l11 P cl nu0 nu0 x0 x54 x55 x56 h = _) (lpN (l11n P cl nu0 x0 x54 x55 x56 h))
theorem j12_eq : j12 P cl nu nu0 x0 x54 x55 x56 x57 h = ifV x57 (j12_1 P cl nu nu x0 x54 x55 x56 x57 h) (j16 P cl nu nu h) := by kernel_rfl
theorem j12_1_eq : j12_1 P cl nu nu0 x0 x54 x55 x56 x57 h = (xindexAddr P 27 x54 x56 h).go .pan fun t32 h => (xload P 3 t32 h).go .pan fun t33 h => (cl (.f 45) [x0,t33] h).go .pan fun t34 h => ifV t34 (.ok t33 h) ((xbin P .add 3 x56 (.int .i64 1) h).go .pan fun t35 h => (l11 P cl nu nu x0 x54 x55 t35 h)) := by kernel_rfl
theorem j16_eq : j16 P cl nu nu0 h = .ok (.int .i64 (-1)) h := by kernel_rfl
theorem eq : runX P cl nu an33 Try.f33 [x0] h = (xnilCheck x0 h).ok1 fun t1 h => (xfieldAddr P 79 t1 1 h).ok1 fun t2 h => (xload P 33 t2 h).ok1 fun t3 h => (xnilCheck x0 h).ok1 fun t4 h => (xfieldAddr P 79 t4 2 h).ok1 fun t5 h => (xload P 33 t5 h).ok1 fun t6 h => (xnilCheck x0 h).ok1 fun t7 h => (xfieldAddr P 79 t7 2 h).ok1 fun t8 h => (xload P 33 t8 h).ok1 fun t9 h => (xnilCheck x0 h).ok1 fun t10 h => (xfieldAddr P 79 t10 1 h).ok1 fun t11 h => (xload P 33 t11 h).ok1 fun t12 h => (cl (.f 44) [t3,t6] h).go .pan fun t13 h => bif (rc (xload P 33 t8 h) (some t9) && (rc (xload P 33 t11 h) (some t12) && true)) then ((cl (.f 44) [t9,t12] h).go .pan fun t14 h => (xnilCheck x0 h).go .pan fun t15 h => (xfieldAddr P 79 t15 0 h).go .pan fun t16 h => (xload P 22 t16 h).go .pan fun t17 h => (xbuiltin P .len [22] [t17] h).go .pan fun t18 h => (l4 P cl nu nu x0 t13 t14 (.slice none 0 0) t18 (.int .i64 0) h)) else .bad := by kernel_rfl
end
end F33
namespace F34
noncomputable section
variable (P : Program) (cl : Cl) (nu mu : Nu) (x0 x1 x2 : Value) (h : H)
theorem eq : runX P cl nu an34 Try.f34 [x0,x1,x2] h = (cl (.f 46) [x1,x2,(.func (.func 40) ⟨[x0]⟩ ⟨[]⟩)] h).go .pan fun t1 h => (xextract t1 0 h).go .pan fun t2 h => (xextract t1 1 h).go .pan fun t3 h => (xbuildSlice P 27 1 [(0,x2)] h).go .pan fun t4 h => (cl (.f 47) [x1,t2,t4] h).go .pan fun t5 h => .ok t5 h := by kernel_rfl
end
end F34
namespace F39
noncomputable section
variable (P : Program) (cl : Cl) (nu mu : Nu) (x0 x1 : Value) (h : H)
theorem eq : runX P cl nu an39 Try.f39 [x0,x1] h = (xbuiltin P .len [27] [x0] h).go .pan fun t1 h => (xconvert P 3 95 t1 h).go .pan fun t2 h => (cl (.f 50) [t2] h).go .pan fun t3 h => (cl (.f 49) [x0,(.int .i64 0),t1,t3,x1] h).go .pan fun t4 h => .ok (.tuple ⟨[]⟩) h := by kernel_rfl
end
end F39
namespace F40
noncomputable section
variable (P : Program) (cl : Cl) (nu mu : Nu) (x0 x1 x2 : Value) (h : H)
theorem eq : runX P cl nu an40 Try.f40 [x0,x1,x2] h = (xnilCheck x0 h).ok1 fun t1 h => (xfieldAddr P 79 t1 0 h).ok1 fun t2 h => (xload P 22 t2 h).ok1 fun t3 h => (xindexAddr P 22 t3 x1 h).ok1 fun t4 h => (xfieldAddr P 55 t4 0 h).ok1 fun t5 h => (xload P 9 t5 h).ok1 fun t6 h => (xnilCheck x0 h).ok1 fun t7 h => (xfieldAddr P 79 t7 0 h).ok1 fun t8 h => (xload P 22 t8 h).ok1 fun t9 h => (xindexAddr P 22 t9 x2 h).ok1 fun t10 h => (xfieldAddr P 55 t10 0 h).ok1 fun t11 h => (xload P 9 t11 h).ok1 fun t12 h => (cl (.f 52) [t6,t12] h).go .pan fun t13 h => (cl (.f 53) [x1,x2] h).go .pan fun t14 h => (xbuildSlice P 27 2 [(0,t13),(1,t14)] h).go .pan fun t15 h => (cl (.f 51) [t15] h).go .pan fun t16 h => .ok t16 h := by kernel_rfl
end
end F40
namespace F41
noncomputable section
variable (P : Program) (cl : Cl) (nu mu : Nu) (x0 x3 x4 x7 x8 x9 x10 x15 x16 x17 x18 x23 x24 x25 x26 x37 x38 x39 x40 x41 x42 x43 x44 x45 x58 x59 x60 x61 x66 x67 x68 x69 : Value) (h : H)
noncomputable def s := sub (bodyOf Try.f41)
noncomputable def k0 : Ko := kfn P Try.f41.results.toList
def k1 : Ko := kC P cl nu an41 (s [1,1,1]) (k0 P)
def k2 : Ko := kblk 0 (k1 P cl nu)
def l3 := mu 7 (lC P cl nu an41 [0,3,15,16,17] (s [1,1,0,1,0,0]) (k2 P cl nu)) [(0,x0),(3,x3),(15,x15),(16,x16),(17,x17)] h
def k3 : Ko := kL P cl nu an41 7 [0,3,15,16,17] (s [1,1,0,1,0,0]) (k2 P cl nu)
def j4 := mu 8 (evT P cl an41 nu (s [1,1,0,1,0,0,1]) (k3 P cl nu)) [(0,x0),(3,x3),(15,x15),(16,x16),(17,x17),(18,x18)] h
def j4_1 := mu 8 (evT P cl an41 nu (s [1,1,0,1,0,0,1,1]) (k3 P cl nu)) [(0,x0),(3,x3),(15,x15),(16,x16),(17,x17),(18,x18)] h
def k4 : Ko := kC P cl nu an41 (s [1,1,0,1,0,0,1,1,1]) (k3 P cl nu)
def k5 : Ko := kblk 1 (k4 P cl nu)
def k6 : Ko := kblk 2 (k5 P cl nu)
def j13 := mu 26 (evT P cl an41 nu (s [1,1,1]) (k0 P)) [(0,x0),(3,x3)] h
def k7 : Ko := kC P cl nu an41 (s [1,1,1,1,1]) (k0 P)
def k8 : Ko := kblk 4 (k7 P cl nu)
def l6 := mu 13 (lC P cl nu an41 [0,3,4,15,16,17,23,24,25] (s [1,1,0,1,0,0,1,1,0,0,1,1,0,0]) (k6 P cl nu)) [(0,x0),(3,x3),(4,x4),(15,x15),(16,x16),(17,x17),(23,x23),(24,x24),(25,x25)] h
def k9 : Ko := kL P cl nu an41 13 [0,3,4,15,16,17,23,24,25] (s [1,1,0,1,0,0,1,1,0,0,1,1,0,0]) (k6 P cl nu)
def l15 := mu 31 (lC P cl nu an41 [3,9,58,59,60] (s [1,1,1,1,0,1,0,0]) (k8 P cl nu)) [(3,x3),(9,x9),(58,x58),(59,x59),(60,x60)] h
def k10 : Ko := kL P cl nu an41 31 [3,9,58,59,60] (s [1,1,1,1,0,1,0,0]) (k8 P cl nu)
def j7 := mu 14 (evT P cl an41 nu (s [1,1,0,1,0,0,1,1,0,0,1,1,0,0,1]) (k9 P cl nu)) [(0,x0),(3,x3),(4,x4),(15,x15),(16,x16),(17,x17),(23,x23),(24,x24),(25,x25),(26,x26)] h
def j16 := mu 32 (evT P cl an41 nu (s [1,1,1,1,0,1,0,0,1]) (k10 P cl nu)) [(3,x3),(9,x9),(58,x58),(59,x59),(60,x60),(61,x61)] h
def j7_1 := mu 14 (evT P cl an41 nu (s [1,1,0,1,0,0,1,1,0,0,1,1,0,0,1,1]) (k9 P cl nu)) [(0,x0),(3,x3),(4,x4),(15,x15),(16,x16),(17,x17),(23,x23),(24,x24),(25,x25),(26,x26)] h
def k11 : Ko := kC P cl nu an41 (s [1,1,0,1,0,0,1,1,0,0,1,1,0,0,1,1,1]) (k9 P cl nu)
def k12 : Ko := kblk 3 (k11 P cl nu)
def j12 := mu 24 (evT P cl an41 nu (s [1,1,0,1,0,0,1,1,1]) (k3 P cl nu)) [(0,x0),(3,x3),(15,x15),(16,x16),(17,x17)] h
def j16_1 := mu 32 (evT P cl an41 nu (s [1,1,1,1,0,1,0,0,1,1]) (k10 P cl nu)) [(3,x3),(9,x9),(58,x58),(59,x59),(60,x60),(61,x61)] h
def k13 : Ko := kC P cl nu an41 (s [1,1,1,1,0,1,0,0,1,1,1]) (k10 P cl nu)
def k14 : Ko := kblk 5 (k13 P cl nu)
def k15 : Ko := kC P cl nu an41 (s [1,1,1,1,0,1,0,0,1,1,0,0,1,1]) (k14 P cl nu)
def k16 : Ko := kblk 6 (k15 P cl nu)
def j25 := mu 50 (evT P cl an41 nu (s [1,1,1,1,1]) (k0 P)) [(9,x9)] h
def j10 := mu 20 (evT P cl an41 nu (s [1,1,0,1,0,0,1,1,0,0,1,1,0,0,1,1,0,0,1,1,1]) (k12 P cl nu)) [(0,x0),(3,x3),(4,x4),(7,x7),(8,x8),(15,x15),(16,x16),(17,x17),(23,x23),(24,x24),(25,x25),(37,x37),(38,x38),(39,x39),(40,x40),(41,x41),(42,x42),(43,x43),(44,x44),(45,x45)] h
def l18 := mu 37 (lC P cl nu an41 [3,9,10,58,59,60,66,67,68] (s [1,1,1,1,0,1,0,0,1,1,0,0,1,0,1,0,0]) (k16 P cl nu)) [(3,x3),(9,x9),(10,x10),(58,x58),(59,x59),(60,x60),(66,x66),(67,x67),(68,x68)] h
def k17 : Ko := kL P cl nu an41 37 [3,9,10,58,59,60,66,67,68] (s [1,1,1,1,0,1,0,0,1,1,0,0,1,0,1,0,0]) (k16 P cl nu)
def j19 := mu 38 (evT P cl an41 nu (s [1,1,1,1,0,1,0,0,1,1,0,0,1,0,1,0,0,1]) (k17 P cl nu)) [(3,x3),(9,x9),(10,x10),(58,x58),(59,x59),(60,x60),(66,x66),(67,x67),(68,x68),(69,x69)] h
def j19_1 := mu 38 (evT P cl an41 nu (s [1,1,1,1,0,1,0,0,1,1,0,0,1,0,1,0,0,1,1]) (k17 P cl nu)) [(3,x3),(9,x9),(10,x10),(58,x58),(59,x59),(60,x60),(66,x66),(67,x67),(68,x68),(69,x69)] h
def j22 := mu 44 (evT P cl an41 nu (s [1,1,1,1,0,1,0,0,1,1,0,0,1,1]) (k14 P cl nu)) [(3,x3),(9,x9),(10,x10),(58,x58),(59,x59),(60,x60)] h
def j24 := mu 48 (evT P cl an41 nu (s [1,1,1,1,0,1,0,0,1,1,1]) (k10 P cl nu)) [(3,x3),(9,x9),(58,x58),(59,x59),(60,x60)] h
theorem l3n : evT P cl an41 nu (s [1,1,0,1,0,0]) (kL P cl nu an41 7 [0,3,15,16,17] (s [1,1,0,1,0,0]) (k2 P cl nu)) [(0,x0),(3,x3),(15,x15),(16,x16),(17,x17)] h = (xbin P .lss 3 x17 x16 h).go .pan fun t3 h => (j4 P cl nu nu x0 x3 x15 x16 x17 t3 h) := by kernel_rfl
def l3_eq := @id (l3 P cl nu0 nu0 x0 x3 x15 x16 x17 h = _) (lpN (l3n P cl nu0 x0 x3 x15 x16 x17 h))
theorem j4_eq : j4 P cl nu nu0 x0 x3 x15 x16 x17 x18 h = ifV x18 (j4_1 P cl nu nu x0 x3 x15 x16 x17 x18 h) (j13 P cl nu nu x0 x3 h) := by kernel_rfl
theorem j4_1_eq : j4_1 P cl nu nu0 x0 x3 x15 x16 x17 x18 h = (xindexAddr P 22 x15 x17 h).go .pan fun t4 h => (xload P 55 t4 h).go .pan fun t5 h => (xalloc P 55 h).go .pan fun t6 h => (xstore P 55 t6 t5 h).go .pan fun t7 h => (xfieldAddr P 55 t6 3 h).go .pan fun t8 h => (xload P 53 t8 h).go .pan fun t9 h => (xbuiltin P .len [53] [t9] h).go .pan fun t10 h => (l6 P cl nu nu x0 x3 x17 x15 x16 x17 t9 t10 (.int .i64 0) h) := by kernel_rfl
theorem j13_eq : j13 P cl nu nu0 x0 x3 h = (xbuiltin P .len [22] [x0] h).go .pan fun t11 h => (xmakeSlice P 33 t11 t11 h).go .pan fun t12 h => (xbuiltin P .len [22] [x0] h).go .pan fun t13 h => (l15 P cl nu nu x3 t12 x0 t13 (.int .i64 0) h) := by kernel_rfl
theorem l6n : evT P cl an41 nu (s [1,1,0,1,0,0,1,1,0,0,1,1,0,0]) (kL P cl nu an41 13 [0,3,4,15,16,17,23,24,25] (s [1,1,0,1,0,0,1,1,0,0,1,1,0,0]) (k6 P cl nu)) [(0,x0),(3,x3),(4,x4),(15,x15),(16,x16),(17,x17),(23,x23),(24,x24),(25,x25)] h = (xbin P .lss 3 x25 x24 h).go .pan fun t14 h => (j7 P cl nu nu x0 x3 x4 x15 x16 x17 x23 x24 x25 t14 h) := by kernel_rfl
def l6_eq := @id (l6 P cl nu0 nu0 x0 x3 x4 x15 x16 x17 x23 x24 x25 h = _) (lpN (l6n P cl nu0 x0 x3 x4 x15 x16 x17 x23 x24 x25 h))
theorem l15n : evT P cl an41 nu (s [1,1,1,1,0,1,0,0]) (kL P cl nu an41 31 [3,9,58,59,60] (s [1,1,1,1,0,1,0,0]) (k8 P cl nu)) [(3,x3),(9,x9),(58,x58),(59,x59),(60,x60)] h = (xbin P .lss 3 x60 x59 h).go .pan fun t15 h => (j16 P cl nu nu x3 x9 x58 x59 x60 t15 h) := by kernel_rfl
def l15_eq := @id (l15 P cl nu0 nu0 x3 x9 x58 x59 x60 h = _) (lpN (l15n P cl nu0 x3 x9 x58 x59 x60 h))
theorem j7_eq : j7 P cl nu nu0 x0 x3 x4 x15 x16 x17 x23 x24 x25 x26 h = ifV x26 (j7_1 P cl nu nu x0 x3 x4 x15 x16 x17 x23 x24 x25 x26 h) (j12 P cl nu nu x0 x3 x15 x16 x17 h) := by kernel_rfl
theorem j16_eq : j16 P cl nu nu0 x3 x9 x58 x59 x60 x61 h = ifV x61 (j16_1 P cl nu nu x3 x9 x58 x59 x60 x61 h) (j25 P cl nu nu x9 h) := by kernel_rfl
theorem j7_1_eq : j7_1 P cl nu nu0 x0 x3 x4 x15 x16 x17 x23 x24 x25 x26 h = (xindexAddr P 53 x23 x25 h).go .pan fun t16 h => (xload P 63 t16 h).go .pan fun t17 h => (xalloc P 63 h).go .pan fun t18 h => (xstore P 63 t18 t17 h).go .pan fun t19 h => (xfieldAddr P 63 t18 0 h).go .pan fun t20 h => (xload P 9 t20 h).go .pan fun t21 h => (xlookup P 98 x3 t21 false h).go .pan fun t22 h => (xbuiltin P .len [27] [t22] h).go .pan fun t23 h => (xbin P .eql 3 t23 (.int .i64 0) h).go .pan fun t24 h => ifV t24 (j10 P cl nu nu x0 x3 x4 t18 t22 x15 x16 x17 x23 x24 x25 (.tuple #[]) (.tuple #[]) (.tuple #[]) (.tuple #[]) (.tuple #[]) (.tuple #[]) (.tuple #[]) (.tuple #[]) (.bool true) h) ((xbuiltin P .len [27] [t22] h).go .pan fun t25 h => (xbin P .sub 3 t25 (.int .i64 1) h).go .pan fun t26 h => (xindexAddr P 27 t22 t26 h).go .pan fun t27 h => (xload P 3 t27 h).go .pan fun t28 h => (xbin P .neq 3 t28 x4 h).go .pan fun t29 h => (j10 P cl nu nu x0 x3 x4 t18 t22 x15 x16 x17 x23 x24 x25 t22 t22 t25 t26 t27 t28 x4 t29 t29 h)) := by kernel_rfl
theorem j12_eq : j12 P cl nu nu0 x0 x3 x15 x16 x17 h = (xbin P .add 3 x17 (.int .i64 1) h).go .pan fun t30 h => (l3 P cl nu nu x0 x3 x15 x16 t30 h) := by kernel_rfl
theorem j16_1_eq : j16_1 P cl nu nu0 x3 x9 x58 x59 x60 x61 h = (xindexAddr P 22 x58 x60 h).go .pan fun t31 h => (xload P 55 t31 h).go .pan fun t32 h => (xalloc P 55 h).go .pan fun t33 h => (xstore P 55 t33 t32 h).go .pan fun t34 h => (xfieldAddr P 55 t33 2 h).go .pan fun t35 h => (xload P 52 t35 h).go .pan fun t36 h => (xbuiltin P .len [52] [t36] h).go .pan fun t37 h => (l18 P cl nu nu x3 x9 x60 x58 x59 x60 t36 t37 (.int .i64 0) h) := by kernel_rfl
theorem j25_eq : j25 P cl nu nu0 x9 h = .ok x9 h := by kernel_rfl
theorem j10_eq : j10 P cl nu nu0 x0 x3 x4 x7 x8 x15 x16 x17 x23 x24 x25 x37 x38 x39 x40 x41 x42 x43 x44 x45 h = ifV x45 ((xfieldAddr P 63 x7 0 h).ok1 fun t38 h => (xload P 9 t38 h).ok1 fun t39 h => (xbuildSlice P 27 1 [(0,x4)] h).go .pan fun t40 h => bif (rc (xload P 9 t38 h) (some t39) && true) then ((xbuiltin P .append [27,27] [x8,t40] h).go .pan fun t41 h => bif (rc (xload P 9 t38 h) (some t39) && true) then ((xmapUpdate P 98 x3 t39 t41 h).go .pan fun t42 h => (xbin P .add 3 x25 (.int .i64 1) h).go .pan fun t43 h => (l6 P cl nu nu x0 x3 x4 x15 x16 x17 x23 x24 t43 h)) else .bad) else .bad) ((xbin P .add 3 x25 (.int .i64 1) h).go .pan fun t44 h => (l6 P cl nu nu x0 x3 x4 x15 x16 x17 x23 x24 t44 h)) := by kernel_rfl
theorem l18n : evT P cl an41 nu (s [1,1,1,1,0,1,0,0,1,1,0,0,1,0,1,0,0]) (kL P cl nu an41 37 [3,9,10,58,59,60,66,67,68] (s [1,1,1,1,0,1,0,0,1,1,0,0,1,0,1,0,0]) (k16 P cl nu)) [(3,x3),(9,x9),(10,x10),(58,x58),(59,x59),(60,x60),(66,x66),(67,x67),(68,x68)] h = (xbin P .lss 3 x68 x67 h).go .pan fun t45 h => (j19 P cl nu nu x3 x9 x10 x58 x59 x60 x66 x67 x68 t45 h) := by kernel_rfl
def l18_eq := @id (l18 P cl nu0 nu0 x3 x9 x10 x58 x59 x60 x66 x67 x68 h = _) (lpN (l18n P cl nu0 x3 x9 x10 x58 x59 x60 x66 x67 x68 h))
theorem j19_eq : j19 P cl nu nu0 x3 x9 x10 x58 x59 x60 x66 x67 x68 x69 h = ifV x69 (j19_1 P cl nu nu x3 x9 x10 x58 x59 x60 x66 x67 x68 x69 h) (j22 P cl nu nu x3 x9 x10 x58 x59 x60 h) := by kernel_rfl
theorem j19_1_eq : j19_1 P cl nu nu0 x3 x9 x10 x58 x59 x60 x66 x67 x68 x69 h = (xindexAddr P 52 x66 x68 h).go .pan fun t46 h => (xload P 9 t46 h).go .pan fun t47 h => (xindexAddr P 33 x9 x10 h).ok1 fun t48 h => (xload P 27 t48 h).ok1 fun t49 h => (xlookup P 98 x3 t47 false h).go .pan fun t50 h => bif (rc (xload P 27 t48 h) (some t49) && true) then ((xbuiltin P .append [27,27] [t49,t50] h).go .pan fun t51 h => (xindexAddr P 33 x9 x10 h).ok1 fun t52 h => (xstore P 27 t52 t51 h).go .pan fun t53 h => (xbin P .add 3 x68 (.int .i64 1) h).go .pan fun t54 h => (l18 P cl nu nu x3 x9 x10 x58 x59 x60 x66 x67 t54 h)) else .bad := by kernel_rfl
theorem j22_eq : j22 P cl nu nu0 x3 x9 x10 x58 x59 x60 h = (xindexAddr P 33 x9 x10 h).go .pan fun t55 h => (xload P 27 t55 h).go .pan fun t56 h => (cl (.f 54) [t56] h).go .pan fun t57 h => (xindexAddr P 33 x9 x10 h).go .pan fun t58 h => (xload P 27 t58 h).go .pan fun t59 h => (cl (.f 56) [t59] h).go .pan fun t60 h => (cl (.f 55) [t60] h).go .pan fun t61 h => (xindexAddr P 33 x9 x10 h).go .pan fun t62 h => (xstore P 27 t62 t61 h).go .pan fun t63 h => (j24 P cl nu nu x3 x9 x58 x59 x60 h) := by kernel_rfl
theorem j24_eq : j24 P cl nu nu0 x3 x9 x58 x59 x60 h = (xbin P .add 3 x60 (.int .i64 1) h).go .pan fun t64 h => (l15 P cl nu nu x3 x9 x58 x59 t64 h) := by kernel_rfl
theorem eq : runX P cl nu an41 Try.f41 [x0] h = (xmakeMap h).go .pan fun t1 h => (xbuiltin P .len [22] [x0] h).go .pan fun t2 h => (l3 P cl nu nu x0 t1 x0 t2 (.int .i64 0) h) := by kernel_rfl
end
end F41
namespace F44
noncomputable section
variable (P : Program) (cl : Cl) (nu mu : Nu) (x0 x1 x5 x6 x7 x19 x20 x21 x22 x62 x63 x64 x65 : Value) (h : H)
noncomputable def s := sub (bodyOf Try.f44)
noncomputable def k0 : Ko := kfn P Try.f44.results.toList
def k1 : Ko := kC P cl nu an44 (s [1,1,1,1,1]) (k0 P)
def k2 : Ko := kblk 0 (k1 P cl nu)
def l5 := mu 11 (lC P cl nu an44 [1,5,6,7,19,20,21] (s [1,1,1,1,0,1,0,0]) (k2 P cl nu)) [(1,x1),(5,x5),(6,x6),(7,x7),(19,x19),(20,x20),(21,x21)] h
def k3 : Ko := kL P cl nu an44 11 [1,5,6,7,19,20,21] (s [1,1,1,1,0,1,0,0]) (k2 P cl nu)
def j6 := mu 12 (evT P cl an44 nu (s [1,1,1,1,0,1,0,0,1]) (k3 P cl nu)) [(1,x1),(5,x5),(6,x6),(7,x7),(19,x19),(20,x20),(21,x21),(22,x22)] h
def j6_1 := mu 12 (evT P cl an44 nu (s [1,1,1,1,0,1,0,0,1,1]) (k3 P cl nu)) [(1,x1),(5,x5),(6,x6),(7,x7),(19,x19),(20,x20),(21,x21),(22,x22)] h
def j11 := mu 22 (evT P cl an44 nu (s [1,1,1,1,1]) (k0 P)) [(1,x1),(5,x5),(6,x6),(7,x7)] h
def k6 : Ko := kC P cl nu an44 (s [1,1,1,1,1,1]) (k0 P)
def k7 : Ko := kblk 2 (k6 P cl nu)
def l11 := mu 23 (lC P cl nu an44 [1,5,6,7] (s [1,1,1,1,1,0,0,0]) (k7 P cl nu)) [(1,x1),(5,x5),(6,x6),(7,x7)] h
def k8 : Ko := kL P cl nu an44 23 [1,5,6,7] (s [1,1,1,1,1,0,0,0]) (k7 P cl nu)
def j12 := mu 24 (evT P cl an44 nu (s [1,1,1,1,1,0,0,0,1]) (k8 P cl nu)) [(1,x1),(5,x5),(6,x6),(7,x7)] h
def k10 : Ko := kblk 3 (k8 P cl nu)
def k11 : Ko := kblk 4 (k10 P cl nu)
def j22 := mu 44 (evT P cl an44 nu (s [1,1,1,1,1,1]) (k0 P)) [(6,x6)] h
def l16 := mu 33 (lC P cl nu an44 [1,5,6,7,62,63,64] (s [1,1,1,1,1,0,0,0,1,0,1,1,1,1,0,0]) (k11 P cl nu)) [(1,x1),(5,x5),(6,x6),(7,x7),(62,x62),(63,x63),(64,x64)] h
def k12 : Ko := kL P cl nu an44 33 [1,5,6,7,62,63,64] (s [1,1,1,1,1,0,0,0,1,0,1,1,1,1,0,0]) (k11 P cl nu)
def j17 := mu 34 (evT P cl an44 nu (s [1,1,1,1,1,0,0,0,1,0,1,1,1,1,0,0,1]) (k12 P cl nu)) [(1,x1),(5,x5),(6,x6),(7,x7),(62,x62),(63,x63),(64,x64),(65,x65)] h
def j17_1 := mu 34 (evT P cl an44 nu (s [1,1,1,1,1,0,0,0,1,0,1,1,1,1,0,0,1,1]) (k12 P cl nu)) [(1,x1),(5,x5),(6,x6),(7,x7),(62,x62),(63,x63),(64,x64),(65,x65)] h
theorem l5n : evT P cl an44 nu (s [1,1,1,1,0,1,0,0]) (kL P cl nu an44 11 [1,5,6,7,19,20,21] (s [1,1,1,1,0,1,0,0]) (k2 P cl nu)) [(1,x1),(5,x5),(6,x6),(7,x7),(19,x19),(20,x20),(21,x21)] h = (xbin P .lss 3 x21 x20 h).go .pan fun t6 h => (j6 P cl nu nu x1 x5 x6 x7 x19 x20 x21 t6 h) := by kernel_rfl
def l5_eq := @id (l5 P cl nu0 nu0 x1 x5 x6 x7 x19 x20 x21 h = _) (lpN (l5n P cl nu0 x1 x5 x6 x7 x19 x20 x21 h))
theorem j6_eq : j6 P cl nu nu0 x1 x5 x6 x7 x19 x20 x21 x22 h = ifV x22 (j6_1 P cl nu nu x1 x5 x6 x7 x19 x20 x21 x22 h) (j11 P cl nu nu x1 x5 x6 x7 h) := by kernel_rfl
theorem j6_1_eq : j6_1 P cl nu nu0 x1 x5 x6 x7 x19 x20 x21 x22 h = (xindexAddr P 33 x19 x21 h).go .pan fun t7 h => (xload P 27 t7 h).go .pan fun t8 h => (xbuiltin P .len [27] [t8] h).go .pan fun t9 h => (xindexAddr P 27 x5 x21 h).go .pan fun t10 h => (xstore P 3 t10 t9 h).go .pan fun t11 h => (xindexAddr P 83 x6 x21 h).go .pan fun t12 h => (xstore P 4 t12 (.bool true) h).go .pan fun t13 h => (xbuiltin P .len [27] [t8] h).go .pan fun t14 h => (xbin P .eql 3 t14 (.int .i64 0) h).go .pan fun t15 h => ifV t15 ((xbuildSlice P 27 1 [(0,x21)] h).go .pan fun t16 h => (xbuiltin P .append [27,27] [x7,t16] h).go .pan fun t17 h => (xbin P .add 3 x21 (.int .i64 1) h).go .pan fun t18 h => (l5 P cl nu nu x1 x5 x6 t17 x19 x20 t18 h)) ((xbin P .add 3 x21 (.int .i64 1) h).go .pan fun t19 h => (l5 P cl nu nu x1 x5 x6 x7 x19 x20 t19 h)) := by kernel_rfl
theorem j11_eq : j11 P cl nu nu0 x1 x5 x6 x7 h = l11 P cl nu nu x1 x5 x6 x7 h := by kernel_rfl
theorem l11n : evT P cl an44 nu (s [1,1,1,1,1,0,0,0]) (kL P cl nu an44 23 [1,5,6,7] (s [1,1,1,1,1,0,0,0]) (k7 P cl nu)) [(1,x1),(5,x5),(6,x6),(7,x7)] h = (xbuiltin P .len [27] [x7] h).go .pan fun t20 h => (xbin P .gtr 3 t20 (.int .i64 0) h).go .pan fun t21 h => ifV t21 (j12 P cl nu nu x1 x5 x6 x7 h) (j22 P cl nu nu x6 h) := by kernel_rfl
def l11_eq := @id (l11 P cl nu0 nu0 x1 x5 x6 x7 h = _) (lpN (l11n P cl nu0 x1 x5 x6 x7 h))
theorem j12_eq : j12 P cl nu nu0 x1 x5 x6 x7 h = (xbuiltin P .len [27] [x7] h).go .pan fun t22 h => (xbin P .sub 3 t22 (.int .i64 1) h).go .pan fun t23 h => (xindexAddr P 27 x7 t23 h).go .pan fun t24 h => (xload P 3 t24 h).go .pan fun t25 h => (xbuiltin P .len [27] [x7] h).go .pan fun t26 h => (xbin P .sub 3 t26 (.int .i64 1) h).go .pan fun t27 h => (xslice P 27 x7 none (some t27) none h).go .pan fun t28 h => (xindexAddr P 83 x6 t25 h).go .pan fun t29 h => (xstore P 4 t29 (.bool false) h).go .pan fun t30 h => (xindexAddr P 33 x1 t25 h).go .pan fun t31 h => (xload P 27 t31 h).go .pan fun t32 h => (xbuiltin P .len [27] [t32] h).go .pan fun t33 h => (l16 P cl nu nu x1 x5 x6 t28 t32 t33 (.int .i64 0) h) := by kernel_rfl
theorem j22_eq : j22 P cl nu nu0 x6 h = .ok x6 h := by kernel_rfl
theorem l16n : evT P cl an44 nu (s [1,1,1,1,1,0,0,0,1,0,1,1,1,1,0,0]) (kL P cl nu an44 33 [1,5,6,7,62,63,64] (s [1,1,1,1,1,0,0,0,1,0,1,1,1,1,0,0]) (k11 P cl nu)) [(1,x1),(5,x5),(6,x6),(7,x7),(62,x62),(63,x63),(64,x64)] h = (xbin P .lss 3 x64 x63 h).go .pan fun t34 h => (j17 P cl nu nu x1 x5 x6 x7 x62 x63 x64 t34 h) := by kernel_rfl
def l16_eq := @id (l16 P cl nu0 nu0 x1 x5 x6 x7 x62 x63 x64 h = _) (lpN (l16n P cl nu0 x1 x5 x6 x7 x62 x63 x64 h))
theorem j17_eq : j17 P cl nu nu0 x1 x5 x6 x7 x62 x63 x64 x65 h = ifV x65 (j17_1 P cl nu nu x1 x5 x6 x7 x62 x63 x64 x65 h) (l11 P cl nu nu x1 x5 x6 x7 h) := by kernel_rfl
theorem j17_1_eq : j17_1 P cl nu nu0 x1 x5 x6 x7 x62 x63 x64 x65 h = (xindexAddr P 27 x62 x64 h).go .pan fun t35 h => (xload P 3 t35 h).go .pan fun t36 h => (xindexAddr P 27 x5 t36 h).go .pan fun t37 h => (xload P 3 t37 h).go .pan fun t38 h => (xbin P .sub 3 t38 (.int .i64 1) h).go .pan fun t39 h => (xindexAddr P 27 x5 t36 h).go .pan fun t40 h => (xstore P 3 t40 t39 h).go .pan fun t41 h => (xindexAddr P 27 x5 t36 h).go .pan fun t42 h => (xload P 3 t42 h).go .pan fun t43 h => (xbin P .eql 3 t43 (.int .i64 0) h).go .pan fun t44 h => ifV t44 ((xbuildSlice P 27 1 [(0,t36)] h).go .pan fun t45 h => (xbuiltin P .append [27,27] [x7,t45] h).go .pan fun t46 h => (xbin P .add 3 x64 (.int .i64 1) h).go .pan fun t47 h => (l16 P cl nu nu x1 x5 x6 t46 x62 x63 t47 h)) ((xbin P .add 3 x64 (.int .i64 1) h).go .pan fun t48 h => (l16 P cl nu nu x1 x5 x6 x7 x62 x63 t48 h)) := by kernel_rfl
theorem eq : runX P cl nu an44 Try.f44 [x0,x1] h = (xbuiltin P .len [33] [x0] h).go .pan fun t1 h => (xmakeSlice P 27 t1 t1 h).go .pan fun t2 h => (xbuiltin P .len [33] [x0] h).go .pan fun t3 h => (xmakeSlice P 83 t3 t3 h).go .pan fun t4 h => (xbuiltin P .len [33] [x0] h).go .pan fun t5 h => (l5 P cl nu nu x1 t2 t4 (.slice none 0 0) x0 t5 (.int .i64 0) h) := by kernel_rfl
end
end F44
namespace F45
noncomputable section
variable (P : Program) (cl : Cl) (nu mu : Nu) (x0 x1 x5 x6 x7 : Value) (h : H)
noncomputable def s := sub (bodyOf Try.f45)
noncomputable def k0 : Ko := kfn P Try.f45.results.toList
def k1 : Ko := kC P cl nu an45 (s [1,1,1,1]) (k0 P)
def k2 : Ko := kblk 0 (k1 P cl nu)
def l3 := mu 7 (lC P cl nu an45 [0,1,5,6] (s [1,1,1,0,0,0]) (k2 P cl nu)) [(0,x0),(1,x1),(5,x5),(6,x6)] h
def k3 : Ko := kL P cl nu an45 7 [0,1,5,6] (s [1,1,1,0,0,0]) (k2 P cl nu)
def j4 := mu 8 (evT P cl an45 nu (s [1,1,1,0,0,0,1]) (k3 P cl nu)) [(0,x0),(1,x1),(5,x5),(6,x6)] h
def k5 : Ko := kblk 1 (k3 P cl nu)
def j11 := mu 22 (evT P cl an45 nu (s [1,1,1,1]) (k0 P)) [] h
def j8 := mu 16 (evT P cl an45 nu (s [1,1,1,0,0,0,1,0,1,1,1]) (k5 P cl nu)) [(0,x0),(1,x1),(5,x5),(6,x6),(7,x7)] h
theorem l3n : evT P cl an45 nu (s [1,1,1,0,0,0]) (kL P cl nu an45 7 [0,1,5,6] (s [1,1,1,0,0,0]) (k2 P cl nu)) [(0,x0),(1,x1),(5,x5),(6,x6)] h = (xbuiltin P .len [27] [x6] h).go .pan fun t12 h => (xbin P .gtr 3 t12 (.int .i64 0) h).go .pan fun t13 h => ifV t13 (j4 P cl nu nu x0 x1 x5 x6 h) (j11 P cl nu nu h) := by kernel_rfl
def l3_eq := @id (l3 P cl nu0 nu0 x0 x1 x5 x6 h = _) (lpN (l3n P cl nu0 x0 x1 x5 x6 h))
theorem j4_eq : j4 P cl nu nu0 x0 x1 x5 x6 h = (xbuiltin P .len [27] [x6] h).go .pan fun t14 h => (xbin P .sub 3 t14 (.int .i64 1) h).go .pan fun t15 h => (xindexAddr P 27 x6 t15 h).go .pan fun t16 h => (xload P 3 t16 h).go .pan fun t17 h => (xbuiltin P .len [27] [x6] h).go .pan fun t18 h => (xbin P .sub 3 t18 (.int .i64 1) h).go .pan fun t19 h => (xslice P 27 x6 none (some t19) none h).go .pan fun t20 h => (xbin P .eql 3 t17 x1 h).go .pan fun t21 h => ifV t21 (.ok (.bool true) h) (j8 P cl nu nu x0 x1 x5 t20 t17 h) := by kernel_rfl
theorem j11_eq : j11 P cl nu nu0 h = .ok (.bool false) h := by kernel_rfl
theorem j8_eq : j8 P cl nu nu0 x0 x1 x5 x6 x7 h = (xindexAddr P 83 x5 x7 h).go .pan fun t22 h => (xload P 4 t22 h).go .pan fun t23 h => (xun P .not t23 h).go .pan fun t24 h => ifV t24 ((xindexAddr P 83 x5 x7 h).go .pan fun t25 h => (xstore P 4 t25 (.bool true) h).go .pan fun t26 h => (xnilCheck x0 h).go .pan fun t27 h => (xfieldAddr P 79 t27 1 h).go .pan fun t28 h => (xload P 33 t28 h).go .pan fun t29 h => (xindexAddr P 33 t29 x7 h).go .pan fun t30 h => (xload P 27 t30 h).go .pan fun t31 h => (xbuiltin P .append [27,27] [x6,t31] h).go .pan fun t32 h => (l3 P cl nu nu x0 x1 x5 t32 h)) (l3 P cl nu nu x0 x1 x5 x6 h) := by kernel_rfl
theorem eq : runX P cl nu an45 Try.f45 [x0,x1] h = (xnilCheck x0 h).go .pan fun t1 h => (xfieldAddr P 79 t1 0 h).go .pan fun t2 h => (xload P 22 t2 h).go .pan fun t3 h => (xbuiltin P .len [22] [t3] h).go .pan fun t4 h => (xmakeSlice P 83 t4 t4 h).go .pan fun t5 h => (xnilCheck x0 h).go .pan fun t6 h => (xfieldAddr P 79 t6 1 h).go .pan fun t7 h => (xload P 33 t7 h).go .pan fun t8 h => (xindexAddr P 33 t8 x1 h).go .pan fun t9 h => (xload P 27 t9 h).go .pan fun t10 h => (cl (.f 58) [t10] h).go .pan fun t11 h => (l3 P cl nu nu x0 x1 t5 t11 h) := by kernel_rfl
end
end F45
namespace F46
noncomputable section
variable (P : Program) (cl : Cl) (nu mu : Nu) (x0 x1 x2 x8 x9 x10 : Value) (h : H)
noncomputable def s := sub (bodyOf Try.f46)
noncomputable def k0 : Ko := kfn P Try.f46.results.toList
def k1 : Ko := kC P cl nu an46 (s [1,1,1,1]) (k0 P)
def k2 : Ko := kblk 0 (k1 P cl nu)
def l3 := mu 7 (lC P cl nu an46 [0,1,2,8,9,10] (s [1,1,1,0,0,0]) (k2 P cl nu)) [(0,x0),(1,x1),(2,x2),(8,x8),(9,x9),(10,x10)] h
def k3 : Ko := kL P cl nu an46 7 [0,1,2,8,9,10] (s [1,1,1,0,0,0]) (k2 P cl nu)
def j4 := mu 8 (evT P cl an46 nu (s [1,1,1,0,0,0,1]) (k3 P cl nu)) [(0,x0),(1,x1),(2,x2),(8,x8),(9,x9),(10,x10)] h
def j8 := mu 16 (evT P cl an46 nu (s [1,1,1,1]) (k0 P)) [(0,x0),(1,x1),(2,x2),(8,x8),(9,x9)] h
theorem l3n : evT P cl an46 nu (s [1,1,1,0,0,0]) (kL P cl nu an46 7 [0,1,2,8,9,10] (s [1,1,1,0,0,0]) (k2 P cl nu)) [(0,x0),(1,x1),(2,x2),(8,x8),(9,x9),(10,x10)] h = (xbin P .lss 3 x9 x10 h).go .pan fun t2 h => ifV t2 (j4 P cl nu nu x0 x1 x2 x8 x9 x10 h) (j8 P cl nu nu x0 x1 x2 x8 x9 h) := by kernel_rfl
def l3_eq := @id (l3 P cl nu0 nu0 x0 x1 x2 x8 x9 x10 h = _) (lpN (l3n P cl nu0 x0 x1 x2 x8 x9 x10 h))
theorem j4_eq : j4 P cl nu nu0 x0 x1 x2 x8 x9 x10 h = (xbin P .add 3 x9 x10 h).go .pan fun t3 h => (xconvert P 3 95 t3 h).go .pan fun t4 h => (xbin P .shr 95 t4 (.int .u64 1) h).go .pan fun t5 h => (xconvert P 95 3 t5 h).go .pan fun t6 h => (xindexAddr P 27 x0 t6 h).go .pan fun t7 h => (xload P 3 t7 h).go .pan fun t8 h => (xcallV cl x2 [t8,x1] h).go .pan fun t9 h => (xbin P .lss 3 t9 (.int .i64 0) h).go .pan fun t10 h => ifV t10 ((xbin P .add 3 t6 (.int .i64 1) h).go .pan fun t11 h => (l3 P cl nu nu x0 x1 x2 x8 t11 x10 h)) (l3 P cl nu nu x0 x1 x2 x8 x9 t6 h) := by kernel_rfl
theorem j8_eq : j8 P cl nu nu0 x0 x1 x2 x8 x9 h = (xbin P .lss 3 x9 x8 h).go .pan fun t12 h => ifV t12 ((xindexAddr P 27 x0 x9 h).go .pan fun t13 h => (xload P 3 t13 h).go .pan fun t14 h => (xcallV cl x2 [t14,x1] h).go .pan fun t15 h => (xbin P .eql 3 t15 (.int .i64 0) h).go .pan fun t16 h => .ok (.tuple ⟨[x9,t16]⟩) h) (.ok (.tuple ⟨[x9,(.bool false)]⟩) h) := by kernel_rfl
theorem eq : runX P cl nu an46 Try.f46 [x0,x1,x2] h = (xbuiltin P .len [27] [x0] h).go .pan fun t1 h => (l3 P cl nu nu x0 x1 x2 t1 (.int .i64 0) t1 h) := by kernel_rfl
end
end F46
namespace F47
noncomputable section
variable (P : Program) (cl : Cl) (nu mu : Nu) (x0 x1 x2 x7 x8 : Value) (h : H)
noncomputable def s := sub (bodyOf Try.f47)
noncomputable def k0 : Ko := kfn P Try.f47.results.toList
def j5 := mu 10 (evT P cl an47 nu (s [1,1,1,1]) (k0 P)) [(0,x0),(1,x1),(2,x2),(7,x7)] h
def j8 := mu 16 (evT P cl an47 nu (s [1,1,1,1,1,1]) (k0 P)) [(0,x0),(1,x1),(2,x2),(7,x7),(8,x8)] h
def j13 := mu 26 (evT P cl an47 nu (s [1,1,1,1,1,1,1]) (k0 P)) [(0,x0),(1,x1),(2,x2),(7,x7),(8,x8)] h
def j18 := mu 36 (evT P cl an47 nu (s [1,1,1,1,1,1,1,1,1]) (k0 P)) [(0,x0),(1,x1),(2,x2),(7,x7),(8,x8)] h
theorem j5_eq : j5 P cl nu nu0 x0 x1 x2 x7 h = (xbuiltin P .len [27] [x0] h).go .pan fun t4 h => (xbin P .eql 3 x1 t4 h).go .pan fun t5 h => ifV t5 ((xbuiltin P .append [27,27] [x0,x2] h).go .pan fun t6 h => .ok t6 h) (j8 P cl nu nu x0 x1 x2 x7 t4 h) := by kernel_rfl
theorem j8_eq : j8 P cl nu nu0 x0 x1 x2 x7 x8 h = (xbin P .add 3 x8 x7 h).go .pan fun t7 h => (xbuiltin P .cap [27] [x0] h).go .pan fun t8 h => (xbin P .gtr 3 t7 t8 h).go .pan fun t9 h => ifV t9 ((xslice P 27 x0 none (some x1) none h).go .pan fun t10 h => (xbin P .add 3 x8 x7 h).go .pan fun t11 h => (xbin P .sub 3 t11 x1 h).go .pan fun t12 h => (xbuiltin P .append [27,3] [t10,t12] h).go .pan fun t13 h => (xslice P 27 t13 (some x1) none none h).go .pan fun t14 h => (xbuiltin P .copy [27,27] [t14,x2] h).go .pan fun t15 h => bif plain2 x1 x7 then ((xbin P .add 3 x1 x7 h).ok1 fun t16 h => (xslice P 27 t13 (some t16) none none h).ok1 fun t17 h => (xslice P 27 x0 (some x1) none none h).ok1 fun t18 h => (xbuiltin P .copy [27,27] [t17,t18] h).go .pan fun t19 h => .ok t13 h) else .bad) (j13 P cl nu nu x0 x1 x2 x7 x8 h) := by kernel_rfl
theorem j13_eq : j13 P cl nu nu0 x0 x1 x2 x7 x8 h = (xbin P .add 3 x8 x7 h).go .pan fun t20 h => (xslice P 27 x0 none (some t20) none h).go .pan fun t21 h => (xbin P .add 3 x1 x7 h).go .pan fun t22 h => (xslice P 27 t21 (some t22) none none h).go .pan fun t23 h => (cl (.f 59) [x2,t23] h).go .pan fun t24 h => (xun P .not t24 h).go .pan fun t25 h => ifV t25 (bif plain2 x1 x7 then ((xbin P .add 3 x1 x7 h).ok1 fun t26 h => (xslice P 27 t21 (some t26) none none h).ok1 fun t27 h => (xslice P 27 t21 (some x1) none none h).ok1 fun t28 h => (xbuiltin P .copy [27,27] [t27,t28] h).go .pan fun t29 h => (xslice P 27 t21 (some x1) none none h).go .pan fun t30 h => (xbuiltin P .copy [27,27] [t30,x2] h).go .pan fun t31 h => .ok t21 h) else .bad) (j18 P cl nu nu t21 x1 x2 x7 x8 h) := by kernel_rfl
theorem eq : runX P cl nu an47 Try.f47 [x0,x1,x2] h = (xslice P 27 x0 (some x1) none none h).go .pan fun t1 h => (xbuiltin P .len [27] [x2] h).go .pan fun t2 h => (xbin P .eql 3 t2 (.int .i64 0) h).go .pan fun t3 h => ifV t3 (.ok x0 h) (j5 P cl nu nu x0 x1 x2 t2 h) := by kernel_rfl
end
end F47
namespace F50
noncomputable section
variable (P : Program) (cl : Cl) (nu mu : Nu) (x0 : Value) (h : H)
theorem eq : runX P cl nu an50 Try.f50 [x0] h = (cl (.f 70) [x0] h).go .pan fun t1 h => .ok t1 h := by kernel_rfl
end
end F50
namespace F51
noncomputable section
variable (P : Program) (cl : Cl) (nu mu : Nu) (x0 x3 x6 x7 x8 x9 : Value) (h : H)
noncomputable def s := sub (bodyOf Try.f51)
noncomputable def k0 : Ko := kfn P Try.f51.results.toList
def k1 : Ko := kC P cl nu an51 (s [1,1,1]) (k0 P)
def k2 : Ko := kblk 0 (k1 P cl nu)
def l3 := mu 7 (lC P cl nu an51 [3,6,7,8] (s [1,1,0,1,0,0]) (k2 P cl nu)) [(3,x3),(6,x6),(7,x7),(8,x8)] h
def k3 : Ko := kL P cl nu an51 7 [3,6,7,8] (s [1,1,0,1,0,0]) (k2 P cl nu)
def j4 := mu 8 (evT P cl an51 nu (s [1,1,0,1,0,0,1]) (k3 P cl nu)) [(3,x3),(6,x6),(7,x7),(8,x8),(9,x9)] h
def j4_1 := mu 8 (evT P cl an51 nu (s [1,1,0,1,0,0,1,1]) (k3 P cl nu)) [(3,x3),(6,x6),(7,x7),(8,x8),(9,x9)] h
def j8 := mu 16 (evT P cl an51 nu (s [1,1,1]) (k0 P)) [(3,x3)] h
theorem l3n : evT P cl an51 nu (s [1,1,0,1,0,0]) (kL P cl nu an51 7 [3,6,7,8] (s [1,1,0,1,0,0]) (k2 P cl nu)) [(3,x3),(6,x6),(7,x7),(8,x8)] h = (xbin P .lss 3 x8 x7 h).go .pan fun t2 h => (j4 P cl nu nu x3 x6 x7 x8 t2 h) := by kernel_rfl
def l3_eq := @id (l3 P cl nu0 nu0 x3 x6 x7 x8 h = _) (lpN (l3n P cl nu0 x3 x6 x7 x8 h))
theorem j4_eq : j4 P cl nu nu0 x3 x6 x7 x8 x9 h = ifV x9 (j4_1 P cl nu nu x3 x6 x7 x8 x9 h) (j8 P cl nu nu x3 h) := by kernel_rfl
theorem j4_1_eq : j4_1 P cl nu nu0 x3 x6 x7 x8 x9 h = (xindexAddr P 27 x6 x8 h).go .pan fun t3 h => (xload P 3 t3 h).go .pan fun t4 h => (xbin P .neq 3 t4 x3 h).go .pan fun t5 h => ifV t5 (.ok t4 h) ((xbin P .add 3 x8 (.int .i64 1) h).go .pan fun t6 h => (l3 P cl nu nu x3 x6 x7 t6 h)) := by kernel_rfl
theorem j8_eq : j8 P cl nu nu0 x3 h = .ok x3 h := by kernel_rfl
theorem eq : runX P cl nu an51 Try.f51 [x0] h = (xbuiltin P .len [27] [x0] h).go .pan fun t1 h => (l3 P cl nu nu (.int .i64 0) x0 t1 (.int .i64 0) h) := by kernel_rfl
end
end F51
namespace F52
noncomputable section
variable (P : Program) (cl : Cl) (nu mu : Nu) (x0 x1 : Value) (h : H)
theorem eq : runX P cl nu an52 Try.f52 [x0,x1] h = (cl (.f 71) [x0] h).go .pan fun t1 h => (cl (.f 71) [x1] h).go .pan fun t2 h => ifV t1 (ifV t2 (.ok (.int .i64 0) h) (.ok (.int .i64 (-1)) h)) (ifV t2 (.ok (.int .i64 1) h) ((xbin P .lss 9 x0 x1 h).go .pan fun t3 h => ifV t3 (.ok (.int .i64 (-1)) h) ((xbin P .gtr 9 x0 x1 h).go .pan fun t4 h => ifV t4 (.ok (.int .i64 1) h) (.ok (.int .i64 0) h)))) := by kernel_rfl
end
end F52
namespace F53
noncomputable section
variable (P : Program) (cl : Cl) (nu mu : Nu) (x0 x1 : Value) (h : H)
theorem eq : runX P cl nu an53 Try.f53 [x0,x1] h = (cl (.f 72) [x0] h).go .pan fun t1 h => (cl (.f 72) [x1] h).go .pan fun t2 h => ifV t1 (ifV t2 (.ok (.int .i64 0) h) (.ok (.int .i64 (-1)) h)) (ifV t2 (.ok (.int .i64 1) h) ((xbin P .lss 3 x0 x1 h).go .pan fun t3 h => ifV t3 (.ok (.int .i64 (-1)) h) ((xbin P .gtr 3 x0 x1 h).go .pan fun t4 h => ifV t4 (.ok (.int .i64 1) h) (.ok (.int .i64 0) h)))) := by kernel_rfl
end
end F53
namespace F54
noncomputable section
variable (P : Program) (cl : Cl) (nu mu : Nu) (x0 : Value) (h : H)
theorem eq : runX P cl nu an54 Try.f54 [x0] h = (xbuiltin P .len [27] [x0] h).go .pan fun t1 h => (xconvert P 3 95 t1 h).go .pan fun t2 h => (cl (.f 50) [t2] h).go .pan fun t3 h => (cl (.f 73) [x0,(.int .i64 0),t1,t3] h).go .pan fun t4 h => .ok (.tuple ⟨[]⟩) h := by kernel_rfl
end
end F54
namespace F55
noncomputable section
variable (P : Program) (cl : Cl) (nu mu : Nu) (x0 : Value) (h : H)
theorem eq : runX P cl nu an55 Try.f55 [x0] h = (xbuiltin P .len [27] [x0] h).go .pan fun t1 h => (xbuiltin P .len [27] [x0] h).go .pan fun t2 h => (xslice P 27 x0 none (some t1) (some t2) h).go .pan fun t3 h => .ok t3 h := by kernel_rfl
end
end F55
namespace F56
noncomputable section
variable (P : Program) (cl : Cl) (nu mu : Nu) (x0 x3 x4 x5 : Value) (h : H)
noncomputable def s := sub (bodyOf Try.f56)
noncomputable def k0 : Ko := kfn P Try.f56.results.toList
def j3 := mu 6 (evT P cl an56 nu (s [1,1]) (k0 P)) [(0,x0)] h
def k2 : Ko := kC P cl nu an56 (s [1,1,1]) (k0 P)
def k3 : Ko := kblk 0 (k2 P cl nu)
def l4 := mu 9 (lC P cl nu an56 [0,3] (s [1,1,0,1,0,0]) (k3 P cl nu)) [(0,x0),(3,x3)] h
def k4 : Ko := kL P cl nu an56 9 [0,3] (s [1,1,0,1,0,0]) (k3 P cl nu)
def j6 := mu 12 (evT P cl an56 nu (s [1,1,0,1,0,0,1]) (k4 P cl nu)) [(0,x0),(3,x3)] h
def k6 : Ko := kC P cl nu an56 (s [1,1,0,1,0,0,1,1]) (k4 P cl nu)
def k7 : Ko := kblk 1 (k6 P cl nu)
def k8 : Ko := kC P cl nu an56 (s [1,1,0,1,0,0,1,0,0,1,0,1,1]) (k7 P cl nu)
def k9 : Ko := kblk 2 (k8 P cl nu)
def j16 := mu 32 (evT P cl an56 nu (s [1,1,1]) (k0 P)) [(0,x0)] h
def l9 := mu 19 (lC P cl nu an56 [0,3,4,5] (s [1,1,0,1,0,0,1,0,0,1,0,1,0,1,0,0]) (k9 P cl nu)) [(0,x0),(3,x3),(4,x4),(5,x5)] h
def k10 : Ko := kL P cl nu an56 19 [0,3,4,5] (s [1,1,0,1,0,0,1,0,0,1,0,1,0,1,0,0]) (k9 P cl nu)
def j5 := mu 10 (evT P cl an56 nu (s [1,1,0,1,0,0,1,1]) (k4 P cl nu)) [(0,x0),(3,x3)] h
def j11 := mu 22 (evT P cl an56 nu (s [1,1,0,1,0,0,1,0,0,1,0,1,0,1,0,0,1]) (k10 P cl nu)) [(0,x0),(3,x3),(4,x4),(5,x5)] h
def j14 := mu 28 (evT P cl an56 nu (s [1,1,0,1,0,0,1,0,0,1,0,1,1]) (k7 P cl nu)) [(0,x0),(3,x3)] h
theorem j3_eq : j3 P cl nu nu0 x0 h = l4 P cl nu nu x0 (.int .i64 1) h := by kernel_rfl
theorem l4n : evT P cl an56 nu (s [1,1,0,1,0,0]) (kL P cl nu an56 9 [0,3] (s [1,1,0,1,0,0]) (k3 P cl nu)) [(0,x0),(3,x3)] h = (xbuiltin P .len [27] [x0] h).go .pan fun t3 h => (xbin P .lss 3 x3 t3 h).go .pan fun t4 h => ifV t4 (j6 P cl nu nu x0 x3 h) (j16 P cl nu nu x0 h) := by kernel_rfl
def l4_eq := @id (l4 P cl nu0 nu0 x0 x3 h = _) (lpN (l4n P cl nu0 x0 x3 h))
theorem j6_eq : j6 P cl nu nu0 x0 x3 h = (xindexAddr P 27 x0 x3 h).ok1 fun t5 h => (xload P 3 t5 h).ok1 fun t6 h => bif plain2 x3 (.int .i64 1) then ((xbin P .sub 3 x3 (.int .i64 1) h).ok1 fun t7 h => (xindexAddr P 27 x0 t7 h).ok1 fun t8 h => (xload P 3 t8 h).ok1 fun t9 h => bif plain2 t6 t9 then ((xbin P .eql 3 t6 t9 h).ok1 fun t10 h => ifV t10 ((xslice P 27 x0 (some x3) none none h).go .pan fun t11 h => (l9 P cl nu nu x0 x3 t11 (.int .i64 1) h)) (j5 P cl nu nu x0 x3 h)) else .bad) else .bad := by kernel_rfl
theorem j16_eq : j16 P cl nu nu0 x0 h = .ok x0 h := by kernel_rfl
theorem l9n : evT P cl an56 nu (s [1,1,0,1,0,0,1,0,0,1,0,1,0,1,0,0]) (kL P cl nu an56 19 [0,3,4,5] (s [1,1,0,1,0,0,1,0,0,1,0,1,0,1,0,0]) (k9 P cl nu)) [(0,x0),(3,x3),(4,x4),(5,x5)] h = (xbuiltin P .len [27] [x4] h).go .pan fun t12 h => (xbin P .lss 3 x5 t12 h).go .pan fun t13 h => ifV t13 (j11 P cl nu nu x0 x3 x4 x5 h) (j14 P cl nu nu x0 x3 h) := by kernel_rfl
def l9_eq := @id (l9 P cl nu0 nu0 x0 x3 x4 x5 h = _) (lpN (l9n P cl nu0 x0 x3 x4 x5 h))
theorem j5_eq : j5 P cl nu nu0 x0 x3 h = (xbin P .add 3 x3 (.int .i64 1) h).go .pan fun t14 h => (l4 P cl nu nu x0 t14 h) := by kernel_rfl
theorem j11_eq : j11 P cl nu nu0 x0 x3 x4 x5 h = (xindexAddr P 27 x4 x5 h).ok1 fun t15 h => (xload P 3 t15 h).ok1 fun t16 h => bif plain2 x5 (.int .i64 1) then ((xbin P .sub 3 x5 (.int .i64 1) h).ok1 fun t17 h => (xindexAddr P 27 x4 t17 h).ok1 fun t18 h => (xload P 3 t18 h).ok1 fun t19 h => bif plain2 t16 t19 then ((xbin P .neq 3 t16 t19 h).ok1 fun t20 h => ifV t20 ((xindexAddr P 27 x4 x5 h).go .pan fun t21 h => (xload P 3 t21 h).go .pan fun t22 h => (xindexAddr P 27 x0 x3 h).go .pan fun t23 h => (xstore P 3 t23 t22 h).go .pan fun t24 h => (xbin P .add 3 x3 (.int .i64 1) h).go .pan fun t25 h => (xbin P .add 3 x5 (.int .i64 1) h).go .pan fun t26 h => (l9 P cl nu nu x0 t25 x4 t26 h)) ((xbin P .add 3 x5 (.int .i64 1) h).go .pan fun t27 h => (l9 P cl nu nu x0 x3 x4 t27 h))) else .bad) else .bad := by kernel_rfl
theorem j14_eq : j14 P cl nu nu0 x0 x3 h = (xslice P 27 x0 (some x3) none none h).go .pan fun t28 h => (xbuiltin P .clear [27] [t28] h).go .pan fun t29 h => (xslice P 27 x0 none (some x3) none h).go .pan fun t30 h => .ok t30 h := by kernel_rfl
theorem eq : runX P cl nu an56 Try.f56 [x0] h = (xbuiltin P .len [27] [x0] h).go .pan fun t1 h => (xbin P .lss 3 t1 (.int .i64 2) h).go .pan fun t2 h => ifV t2 (.ok x0 h) (j3 P cl nu nu x0 h) := by kernel_rfl
end
end F56
namespace F58
noncomputable section
variable (P : Program) (cl : Cl) (nu mu : Nu) (x0 : Value) (h : H)
theorem eq : runX P cl nu an58 Try.f58 [x0] h = (xbin P .eql 27 x0 (.slice none 0 0) h).go .pan fun t1 h => ifV t1 (.ok (.slice none 0 0) h) ((xbuildSlice P 27 0 [] h).go .pan fun t2 h => (xbuiltin P .append [27,27] [t2,x0] h).go .pan fun t3 h => .ok t3 h) := by kernel_rfl
end
end F58
namespace F60
noncomputable section
variable (P : Program) (cl : Cl) (nu mu : Nu) (x0 x1 : Value) (h : H)
end
end F60
namespace F69
noncomputable section
variable (P : Program) (cl : Cl) (nu mu : Nu) (x0 x2 : Value) (h : H)
end
end F69
namespace F70
noncomputable section
variable (P : Program) (cl : Cl) (nu mu : Nu) (x0 x2 : Value) (h : H)
noncomputable def s := sub (bodyOf Try.f70)
noncomputable def k0 : Ko := kfn P Try.f70.results.toList
def j4 := mu 8 (evT P cl an70 nu (s [1,1]) (k0 P)) [(0,x0),(2,x2)] h
def j7 := mu 14 (evT P cl an70 nu (s [1,1,1]) (k0 P)) [(0,x0),(2,x2)] h
def j10 := mu 20 (evT P cl an70 nu (s [1,1,1,1]) (k0 P)) [(0,x0),(2,x2)] h
theorem j4_eq : j4 P cl nu nu0 x0 x2 h = (xbin P .geq 111 x0 (.int .u64 65536) h).go .pan fun t3 h => ifV t3 ((xbin P .shr 111 x0 (.int .u64 16) h).go .pan fun t4 h => (xbin P .add 3 x2 (.int .i64 16) h).go .pan fun t5 h => (j7 P cl nu nu t4 t5 h)) (j7 P cl nu nu x0 x2 h) := by kernel_rfl
theorem j7_eq : j7 P cl nu nu0 x0 x2 h = (xbin P .geq 111 x0 (.int .u64 256) h).go .pan fun t6 h => ifV t6 ((xbin P .shr 111 x0 (.int .u64 8) h).go .pan fun t7 h => (xbin P .add 3 x2 (.int .i64 8) h).go .pan fun t8 h => (j10 P cl nu nu t7 t8 h)) (j10 P cl nu nu x0 x2 h) := by kernel_rfl
theorem j10_eq : j10 P cl nu nu0 x0 x2 h = (xconvert P 111 5 x0 h).go .pan fun t9 h => (xindex P 9 (.string ⟨#[0,1,2,2,3,3,3,3,4,4,4,4,4,4,4,4,5,5,5,5,5,5,5,5,5,5,5,5,5,5,5,5,6,6,6,6,6,6,6,6,6,6,6,6,6,6,6,6,6,6,6,6,6,6,6,6,6,6,6,6,6,6,6,6,7,7,7,7,7,7,7,7,7,7,7,7,7,7,7,7,7,7,7,7,7,7,7,7,7,7,7,7,7,7,7,7,7,7,7,7,7,7,7,7,7,7,7,7,7,7,7,7,7,7,7,7,7,7,7,7,7,7,7,7,7,7,7,7,8,8,8,8,8,8,8,8,8,8,8,8,8,8,8,8,8,8,8,8,8,8,8,8,8,8,8,8,8,8,8,8,8,8,8,8,8,8,8,8,8,8,8,8,8,8,8,8,8,8,8,8,8,8,8,8,8,8,8,8,8,8,8,8,8,8,8,8,8,8,8,8,8,8,8,8,8,8,8,8,8,8,8,8,8,8,8,8,8,8,8,8,8,8,8,8,8,8,8,8,8,8,8,8,8,8,8,8,8,8,8,8,8,8,8,8,8,8,8,8,8,8,8,8,8,8,8,8]⟩) t9 h).go .pan fun t10 h => (xconvert P 5 3 t10 h).go .pan fun t11 h => (xbin P .add 3 x2 t11 h).go .pan fun t12 h => .ok t12 h := by kernel_rfl
theorem eq : runX P cl nu an70 Try.f70 [x0] h = (xbin P .geq 111 x0 (.int .u64 4294967296) h).go .pan fun t1 h => ifV t1 ((xbin P .shr 111 x0 (.int .u64 32) h).go .pan fun t2 h => (j4 P cl nu nu t2 (.int .i64 32) h)) (j4 P cl nu nu x0 (.int .i64 0) h) := by kernel_rfl
end
end F70
namespace F71
noncomputable section
variable (P : Program) (cl : Cl) (nu mu : Nu) (x0 : Value) (h : H)
theorem eq : runX P cl nu an71 Try.f71 [x0] h = (xbin P .neq 9 x0 x0 h).go .pan fun t1 h => .ok t1 h := by kernel_rfl
end
end F71
namespace F72
noncomputable section
variable (P : Program) (cl : Cl) (nu mu : Nu) (x0 : Value) (h : H)
theorem eq : runX P cl nu an72 Try.f72 [x0] h = (xbin P .neq 3 x0 x0 h).go .pan fun t1 h => .ok t1 h := by kernel_rfl
end
end F72
namespace F74
noncomputable section
variable (P : Program) (cl : Cl) (nu mu : Nu) (x0 x1 : Value) (h : H)
end
end F74
namespace F86
noncomputable section
variable (P : Program) (cl : Cl) (nu mu : Nu) (x0 x1 : Value) (h : H)
theorem eq : runX P cl nu an86 Try.f86 [x0,x1] h = (cl (.f 72) [x0] h).go .pan fun t1 h => ifV t1 ((cl (.f 72) [x1] h).go .pan fun t2 h => (xun P .not t2 h).go .pan fun t3 h => ifV t3 (.ok (.bool true) h) ((xbin P .lss 3 x0 x1 h).go .pan fun t4 h => .ok t4 h)) ((xbin P .lss 3 x0 x1 h).go .pan fun t5 h => .ok t5 h) := by kernel_rfl
end
end F86
namespace F89
noncomputable section
variable (P : Program) (cl : Cl) (nu mu : Nu) (x0 x2 x3 : Value) (h : H)
end
end F89
end Go.Proofs.Ytdadiidfhnojcaa.K
namespace Go.Proofs.Ytdadiidfhnojcaa.K
open Go Go.Kx
set_option maxRecDepth 20000
set_option linter.unusedVariables false
set_option linter.defProp false
namespace F14
noncomputable section
variable (P : Program) (cl : Cl) (nu mu : Nu) (x0 x5 x7 x8 x9 x10 : Value) (h : H)
end
end F14
namespace F16
noncomputable section
variable (P : Program) (cl : Cl) (nu mu : Nu) (x0 x5 x7 x8 x9 x10 x11 x12 x14 x45 x46 x47 x48 x49 x50 x51 x58 x59 x60 x61 x62 x63 x64 : Value) (h : H)
end
end F16
namespace F22
noncomputable section
variable (P : Program) (cl : Cl) (nu mu : Nu) (x0 x1 x5 x6 : Value) (h : H)
end
end F22
namespace F35
noncomputable section
variable (P : Program) (cl : Cl) (nu mu : Nu) (x0 x3 x4 : Value) (h : H)
end
end F35
namespace F36
noncomputable section
variable (P : Program) (cl : Cl) (nu mu : Nu) (x0 x1 x5 x6 : Value) (h : H)
end
end F36
namespace F37
noncomputable section
variable (P : Program) (cl : Cl) (nu mu : Nu) (x0 x1 x5 : Value) (h : H)
end
end F37
namespace F38
noncomputable section
variable (P : Program) (cl : Cl) (nu mu : Nu) (x0 x1 x2 : Value) (h : H)
end
end F38
namespace F42
noncomputable section
variable (P : Program) (cl : Cl) (nu mu : Nu) (x0 x1 x2 x3 x5 x6 : Value) (h : H)
end
end F42
namespace F48
noncomputable section
variable (P : Program) (cl : Cl) (nu mu : Nu) (x0 x1 x5 x6 x7 : Value) (h : H)
end
end F48
end Go.Proofs.Ytdadiidfhnojcaa.K
namespace Go.Proofs.Ytdadiidfhnojcaa.K
open Go Go.Kx
set_option maxRecDepth 20000
set_option linter.unusedVariables false
set_option linter.defProp false
namespace F3
noncomputable section
variable (P : Program) (cl : Cl) (nu mu : Nu) (x0 x1 : Value) (h : H)
end
end F3
namespace F9
noncomputable section
variable (P : Program) (cl : Cl) (nu mu : Nu) (x0 x1 x5 x14 : Value) (h : H)
end
end F9
namespace F10
noncomputable section
variable (P : Program) (cl : Cl) (nu mu : Nu) (x0 x3 x4 x11 x12 : Value) (h : H)
end
end F10
namespace F11
noncomputable section
variable (P : Program) (cl : Cl) (nu mu : Nu) (h : H)
theorem eq : runX P cl nu an11 Try.f11 [] h = (xbuild P 63 [(0,(.string ⟨#[120]⟩))] h).go .pan fun t1 h => (xbuildSlice P 53 1 [(0,t1)] h).go .pan fun t2 h => (xbuild P 55 [(0,(.string ⟨#[98]⟩)),(3,t2)] h).go .pan fun t3 h => (xbuildSlice P 52 1 [(0,(.string ⟨#[120]⟩))] h).go .pan fun t4 h => (xbuild P 63 [(0,(.string ⟨#[121]⟩))] h).go .pan fun t5 h => (xbuildSlice P 53 1 [(0,t5)] h).go .pan fun t6 h => (xbuild P 55 [(0,(.string ⟨#[97]⟩)),(2,t4),(3,t6)] h).go .pan fun t7 h => (xbuildSlice P 52 3 [(0,(.string ⟨#[121]⟩)),(1,(.string ⟨#[120]⟩)),(2,(.string ⟨#[115,114,99]⟩))] h).go .pan fun t8 h => (xbuild P 55 [(0,(.string ⟨#[99]⟩)),(2,t8)] h).go .pan fun t9 h => (xbuild P 55 [(0,(.string ⟨#[97,50]⟩))] h).go .pan fun t10 h => (xbuildSlice P 22 4 [(0,t3),(1,t7),(2,t9),(3,t10)] h).go .pan fun t11 h => (cl (.f 13) [t11] h).go .pan fun t12 h => (xextract t12 0 h).go .pan fun t13 h => (xextract t12 1 h).go .pan fun t14 h => (xextract t12 2 h).go .pan fun t15 h => (xbuildSlice P 52 1 [(0,(.string ⟨#[112]⟩))] h).go .pan fun t16 h => (xbuild P 63 [(0,(.string ⟨#[112]⟩))] h).go .pan fun t17 h => (xbuildSlice P 53 1 [(0,t17)] h).go .pan fun t18 h => (xbuild P 55 [(0,(.string ⟨#[116]⟩)),(2,t16),(3,t18)] h).go .pan fun t19 h => (xbuildSlice P 22 1 [(0,t19)] h).go .pan fun t20 h => (cl (.f 13) [t20] h).go .pan fun t21 h => (xextract t21 0 h).go .pan fun t22 h => (xextract t21 1 h).go .pan fun t23 h => (xextract t21 2 h).go .pan fun t24 h => (xbuildSlice P 27 4 [(0,(.int .i64 3)),(1,(.int .i64 0)),(2,(.int .i64 1)),(3,(.int .i64 2))] h).go .pan fun t25 h => (cl (.f 17) [t13,t25] h).go .pan fun t26 h => ifV t26 ((cl (.f 18) [t14] h).go .pan fun t27 h => (xbin P .eql 3 t27 (.int .i64 0) h).go .pan fun t28 h => ifV t28 ((xbin P .eql 9 t15 (.string ⟨#[]⟩) h).go .pan fun t29 h => ifV t29 ((xbuiltin P .len [27] [t22] h).go .pan fun t30 h => (xbin P .eql 3 t30 (.int .i64 0) h).go .pan fun t31 h => ifV t31 ((cl (.f 18) [t23] h).go .pan fun t32 h => (xbin P .eql 3 t32 (.int .i64 130) h).go .pan fun t33 h => ifV t33 ((xbin P .eql 9 t24 (.string ⟨#[116]⟩) h).go .pan fun t34 h => ifV t34 ((cl (.f 21) [t11,(.int .i64 4)] h).go .pan fun t35 h => (xbuiltin P .len [27] [t35] h).go .pan fun t36 h => (xbin P .eql 3 t36 (.int .i64 0) h).go .pan fun t37 h => ifV t37 ((cl (.f 21) [t11,(.int .i64 (-1))] h).go .pan fun t38 h => (xbuiltin P .len [27] [t38] h).go .pan fun t39 h => (xbin P .eql 3 t39 (.int .i64 0) h).go .pan fun t40 h => .ok t40 h) (.ok (.bool false) h)) (.ok (.bool false) h)) (.ok (.bool false) h)) (.ok (.bool false) h)) (.ok (.bool false) h)) (.ok (.bool false) h)) (.ok (.bool false) h) := by kernel_rfl
end
end F11
namespace F12
noncomputable section
variable (P : Program) (cl : Cl) (nu mu : Nu) (x0 x3 x4 x5 x6 x7 : Value) (h : H)
end
end F12
namespace F17
noncomputable section
variable (P : Program) (cl : Cl) (nu mu : Nu) (x0 x1 x5 : Value) (h : H)
noncomputable def s := sub (bodyOf Try.f17)
noncomputable def k0 : Ko := kfn P Try.f17.results.toList
def j3 := mu 6 (evT P cl an17 nu (s [1,1]) (k0 P)) [(0,x0),(1,x1)] h
def k2 : Ko := kC P cl nu an17 (s [1,1,1]) (k0 P)
def k3 : Ko := kblk 0 (k2 P cl nu)
def l4 := mu 9 (lC P cl nu an17 [0,1,5] (s [1,1,0,1,0,0]) (k3 P cl nu)) [(0,x0),(1,x1),(5,x5)] h
def k4 : Ko := kL P cl nu an17 9 [0,1,5] (s [1,1,0,1,0,0]) (k3 P cl nu)
def j6 := mu 12 (evT P cl an17 nu (s [1,1,0,1,0,0,1]) (k4 P cl nu)) [(0,x0),(1,x1),(5,x5)] h
def j8 := mu 16 (evT P cl an17 nu (s [1,1,1]) (k0 P)) [] h
theorem j3_eq : j3 P cl nu nu0 x0 x1 h = l4 P cl nu nu x0 x1 (.int .i64 0) h := by kernel_rfl
theorem l4n : evT P cl an17 nu (s [1,1,0,1,0,0]) (kL P cl nu an17 9 [0,1,5] (s [1,1,0,1,0,0]) (k3 P cl nu)) [(0,x0),(1,x1),(5,x5)] h = (xbuiltin P .len [27] [x0] h).go .pan fun t4 h => (xbin P .lss 3 x5 t4 h).go .pan fun t5 h => ifV t5 (j6 P cl nu nu x0 x1 x5 h) (j8 P cl nu nu h) := by kernel_rfl
def l4_eq := @id (l4 P cl nu0 nu0 x0 x1 x5 h = _) (lpN (l4n P cl nu0 x0 x1 x5 h))
theorem j6_eq : j6 P cl nu nu0 x0 x1 x5 h = (xindexAddr P 27 x0 x5 h).ok1 fun t6 h => (xload P 3 t6 h).ok1 fun t7 h => (xindexAddr P 27 x1 x5 h).ok1 fun t8 h => (xload P 3 t8 h).ok1 fun t9 h => bif plain2 t7 t9 then ((xbin P .neq 3 t7 t9 h).ok1 fun t10 h => ifV t10 (.ok (.bool false) h) ((xbin P .add 3 x5 (.int .i64 1) h).go .pan fun t11 h => (l4 P cl nu nu x0 x1 t11 h))) else .bad := by kernel_rfl
theorem j8_eq : j8 P cl nu nu0 h = .ok (.bool true) h := by kernel_rfl
theorem eq : runX P cl nu an17 Try.f17 [x0,x1] h = (xbuiltin P .len [27] [x0] h).go .pan fun t1 h => (xbuiltin P .len [27] [x1] h).go .pan fun t2 h => (xbin P .neq 3 t1 t2 h).go .pan fun t3 h => ifV t3 (.ok (.bool false) h) (j3 P cl nu nu x0 x1 h) := by kernel_rfl
end
end F17
namespace F18
noncomputable section
variable (P : Program) (cl : Cl) (nu mu : Nu) (x0 : Value) (h : H)
theorem eq : runX P cl nu an18 Try.f18 [x0] h = .ok x0 h := by kernel_rfl
end
end F18
namespace F19
noncomputable section
variable (P : Program) (cl : Cl) (nu mu : Nu) (x0 x1 x5 : Value) (h : H)
end
end F19
namespace F20
noncomputable section
variable (P : Program) (cl : Cl) (nu mu : Nu) (x0 x1 x2 : Value) (h : H)
theorem eq : runX P cl nu an20 Try.f20 [x0,x1,x2] h = (xbin P .sub 3 x2 x1 h).go .pan fun t1 h => (xbin P .add 3 t1 (.int .i64 1) h).go .pan fun t2 h => (xbin P .rem 3 x0 t2 h).go .pan fun t3 h => (xbin P .lss 3 t3 (.int .i64 0) h).go .pan fun t4 h => ifV t4 ((xbin P .add 3 t3 x2 h).go .pan fun t5 h => (xbin P .sub 3 t5 x1 h).go .pan fun t6 h => (xbin P .add 3 t6 (.int .i64 1) h).go .pan fun t7 h => (xbin P .add 3 x1 t7 h).go .pan fun t8 h => .ok t8 h) ((xbin P .add 3 x1 t3 h).go .pan fun t9 h => .ok t9 h) := by kernel_rfl
end
end F20
namespace F31
noncomputable section
variable (P : Program) (cl : Cl) (nu mu : Nu) (x0 x1 x5 x6 x7 x9 : Value) (h : H)
end
end F31
end Go.Proofs.Ytdadiidfhnojcaa.K
