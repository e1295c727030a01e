/- My texts for this claim, in one file: part 30. -/
import Derived.Test.YtdadiidfhnojcaaWe29
namespace Go.Proofs.Ytdadiidfhnojcaa.K
open Go Go.Kx
set_option maxRecDepth 20000
set_option linter.unusedVariables false
set_option linter.defProp false
namespace F49
noncomputable section
variable (P : Program) (cl : Cl) (nu mu : Nu) (x0 x1 x2 x3 x4 x10 x11 x12 x13 x14 x70 x73 x74 : Value) (h : H)
noncomputable def s := sub (bodyOf Try.f49)
noncomputable def k0 : Ko := kfn P Try.f49.results.toList
noncomputable def k1 : Ko := kblk 0 (k0 P)
def l2 := mu 5 (lC P cl nu an49 [0,1,2,3,4,10,11] (s [1,1,0,0]) (k1 P)) [(0,x0),(1,x1),(2,x2),(3,x3),(4,x4),(10,x10),(11,x11)] h
def k2 : Ko := kL P cl nu an49 5 [0,1,2,3,4,10,11] (s [1,1,0,0]) (k1 P)
def k3 : Ko := kblk 1 (k2 P cl nu)
def j5 := mu 10 (evT P cl an49 nu (s [1,1,0,0,0,1,1]) (k3 P cl nu)) [(0,x0),(1,x1),(2,x2),(3,x3),(4,x4),(10,x10),(11,x11),(12,x12)] h
def j7 := mu 14 (evT P cl an49 nu (s [1,1,0,0,0,1,1,1]) (k3 P cl nu)) [(0,x0),(1,x1),(2,x2),(3,x3),(4,x4),(10,x10),(11,x11),(12,x12)] h
def j10 := mu 20 (evT P cl an49 nu (s [1,1,0,0,0,1,1,1,1]) (k3 P cl nu)) [(0,x0),(1,x1),(2,x2),(3,x3),(4,x4),(10,x10),(11,x11),(12,x12)] h
def j15 := mu 30 (evT P cl an49 nu (s [1,1,0,0,0,1,1,1,1,1,1]) (k3 P cl nu)) [(0,x0),(1,x1),(2,x2),(3,x3),(4,x4),(10,x10),(11,x11),(12,x12),(13,x13),(14,x14)] h
def j17 := mu 34 (evT P cl an49 nu (s [1,1,0,0,0,1,1,1,1,1,1,1]) (k3 P cl nu)) [(0,x0),(1,x1),(2,x2),(3,x3),(4,x4),(10,x10),(11,x11),(12,x12),(13,x13),(70,x70),(73,x73),(74,x74)] h
def j20 := mu 40 (evT P cl an49 nu (s [1,1,0,0,0,1,1,1,1,1,1,1,1]) (k3 P cl nu)) [(0,x0),(1,x1),(2,x2),(3,x3),(4,x4),(12,x12),(13,x13),(70,x70),(73,x73),(74,x74)] h
theorem l2n : evT P cl an49 nu (s [1,1,0,0]) (kL P cl nu an49 5 [0,1,2,3,4,10,11] (s [1,1,0,0]) (k1 P)) [(0,x0),(1,x1),(2,x2),(3,x3),(4,x4),(10,x10),(11,x11)] h = (xbin P .sub 3 x2 x1 h).go .pan fun t1 h => (xbin P .leq 3 t1 (.int .i64 12) h).go .pan fun t2 h => ifV t2 ((cl (.f 61) [x0,x1,x2,x4] h).go .pan fun t3 h => .ok (.tuple ⟨[]⟩) h) (j5 P cl nu nu x0 x1 x2 x3 x4 x10 x11 t1 h) := by kernel_rfl
def l2_eq := @id (l2 P cl nu0 nu0 x0 x1 x2 x3 x4 x10 x11 h = _) (lpN (l2n P cl nu0 x0 x1 x2 x3 x4 x10 x11 h))
theorem j5_eq : j5 P cl nu nu0 x0 x1 x2 x3 x4 x10 x11 x12 h = (xbin P .eql 3 x3 (.int .i64 0) h).go .pan fun t4 h => ifV t4 ((cl (.f 62) [x0,x1,x2,x4] h).go .pan fun t5 h => .ok (.tuple ⟨[]⟩) h) (j7 P cl nu nu x0 x1 x2 x3 x4 x10 x11 x12 h) := by kernel_rfl
theorem j7_eq : j7 P cl nu nu0 x0 x1 x2 x3 x4 x10 x11 x12 h = (xun P .not x10 h).go .pan fun t6 h => ifV t6 ((cl (.f 63) [x0,x1,x2,x4] h).go .pan fun t7 h => (xbin P .sub 3 x3 (.int .i64 1) h).go .pan fun t8 h => (j10 P cl nu nu x0 x1 x2 t8 x4 x10 x11 x12 h)) (j10 P cl nu nu x0 x1 x2 x3 x4 x10 x11 x12 h) := by kernel_rfl
theorem j10_eq : j10 P cl nu nu0 x0 x1 x2 x3 x4 x10 x11 x12 h = (cl (.f 64) [x0,x1,x2,x4] h).go .pan fun t9 h => (xextract t9 0 h).go .pan fun t10 h => (xextract t9 1 h).go .pan fun t11 h => (xbin P .eql 102 t11 (.int .i64 2) h).go .pan fun t12 h => ifV t12 ((cl (.f 65) [x0,x1,x2,x4] h).go .pan fun t13 h => (xbin P .sub 3 x2 (.int .i64 1) h).go .pan fun t14 h => (xbin P .sub 3 t10 x1 h).go .pan fun t15 h => (xbin P .sub 3 t14 t15 h).go .pan fun t16 h => (j15 P cl nu nu x0 x1 x2 x3 x4 x10 x11 x12 t16 (.int .i64 1) h)) (j15 P cl nu nu x0 x1 x2 x3 x4 x10 x11 x12 t10 t11 h) := by kernel_rfl
theorem j15_eq : j15 P cl nu nu0 x0 x1 x2 x3 x4 x10 x11 x12 x13 x14 h = ifV x10 (ifV x11 ((xbin P .eql 102 x14 (.int .i64 1) h).go .pan fun t17 h => ifV t17 ((cl (.f 66) [x0,x1,x2,x4] h).go .pan fun t18 h => ifV t18 (.ok (.tuple ⟨[]⟩) h) (j17 P cl nu nu x0 x1 x2 x3 x4 x10 x11 x12 x13 x11 x14 t17 h)) (j17 P cl nu nu x0 x1 x2 x3 x4 x10 x11 x12 x13 x11 x14 t17 h)) (j17 P cl nu nu x0 x1 x2 x3 x4 x10 x11 x12 x13 x11 (.tuple #[]) (.tuple #[]) h)) (j17 P cl nu nu x0 x1 x2 x3 x4 x10 x11 x12 x13 (.tuple #[]) (.tuple #[]) (.tuple #[]) h) := by kernel_rfl
theorem j17_eq : j17 P cl nu nu0 x0 x1 x2 x3 x4 x10 x11 x12 x13 x70 x73 x74 h = bif plain2 x1 (.int .i64 0) then ((xbin P .gtr 3 x1 (.int .i64 0) h).ok1 fun t19 h => ifV t19 (bif plain2 x1 (.int .i64 1) then ((xbin P .sub 3 x1 (.int .i64 1) h).ok1 fun t20 h => (xindexAddr P 27 x0 t20 h).ok1 fun t21 h => (xload P 3 t21 h).ok1 fun t22 h => (xindexAddr P 27 x0 x13 h).ok1 fun t23 h => (xload P 3 t23 h).ok1 fun t24 h => (xcallV cl x4 [t22,t24] h).go .pan fun t25 h => bif plain2 t25 (.int .i64 0) then ((xbin P .lss 3 t25 (.int .i64 0) h).ok1 fun t26 h => (xun P .not t26 h).ok1 fun t27 h => ifV t27 ((cl (.f 67) [x0,x1,x2,x13,x4] h).go .pan fun t28 h => (l2 P cl nu nu x0 t28 x2 x3 x4 x10 x11 h)) (j20 P cl nu nu x0 x1 x2 x3 x4 x12 x13 x70 x73 x74 h)) else .bad) else .bad) (j20 P cl nu nu x0 x1 x2 x3 x4 x12 x13 x70 x73 x74 h)) else .bad := by kernel_rfl
theorem j20_eq : j20 P cl nu nu0 x0 x1 x2 x3 x4 x12 x13 x70 x73 x74 h = (cl (.f 68) [x0,x1,x2,x13,x4] h).go .pan fun t29 h => (xextract t29 0 h).go .pan fun t30 h => (xextract t29 1 h).go .pan fun t31 h => (xbin P .sub 3 t30 x1 h).go .pan fun t32 h => (xbin P .sub 3 x2 t30 h).go .pan fun t33 h => (xbin P .quo 3 x12 (.int .i64 8) h).go .pan fun t34 h => (xbin P .lss 3 t32 t33 h).go .pan fun t35 h => ifV t35 ((xbin P .geq 3 t32 t34 h).go .pan fun t36 h => (cl (.f 49) [x0,x1,t30,x3,x4] h).go .pan fun t37 h => (xbin P .add 3 t30 (.int .i64 1) h).go .pan fun t38 h => (l2 P cl nu nu x0 t38 x2 x3 x4 t36 t31 h)) ((xbin P .geq 3 t33 t34 h).go .pan fun t39 h => (xbin P .add 3 t30 (.int .i64 1) h).go .pan fun t40 h => (cl (.f 49) [x0,t40,x2,x3,x4] h).go .pan fun t41 h => (l2 P cl nu nu x0 x1 t30 x3 x4 t39 t31 h)) := by kernel_rfl
theorem eq : runX P cl nu an49 Try.f49 [x0,x1,x2,x3,x4] h = l2 P cl nu nu x0 x1 x2 x3 x4 (.bool true) (.bool true) h := by kernel_rfl
end
end F49
namespace F61
noncomputable section
variable (P : Program) (cl : Cl) (nu mu : Nu) (x0 x1 x2 x3 x8 x9 : Value) (h : H)
noncomputable def s := sub (bodyOf Try.f61)
noncomputable def k0 : Ko := kfn P Try.f61.results.toList
noncomputable def k1 : Ko := kblk 0 (k0 P)
def l1 := mu 3 (lC P cl nu an61 [0,1,2,3,8] (s [1,0,0]) (k1 P)) [(0,x0),(1,x1),(2,x2),(3,x3),(8,x8)] h
def k2 : Ko := kL P cl nu an61 3 [0,1,2,3,8] (s [1,0,0]) (k1 P)
def j3 := mu 6 (evT P cl an61 nu (s [1,0,0,1]) (k2 P cl nu)) [(0,x0),(1,x1),(2,x2),(3,x3),(8,x8)] h
def k4 : Ko := kC P cl nu an61 (s [1,0,0,1,1]) (k2 P cl nu)
def k5 : Ko := kblk 1 (k4 P cl nu)
def k6 : Ko := kblk 2 (k5 P cl nu)
def l4 := mu 9 (lC P cl nu an61 [0,1,2,3,8,9] (s [1,0,0,1,0,0,1,0,0]) (k6 P cl nu)) [(0,x0),(1,x1),(2,x2),(3,x3),(8,x8),(9,x9)] h
def k7 : Ko := kL P cl nu an61 9 [0,1,2,3,8,9] (s [1,0,0,1,0,0,1,0,0]) (k6 P cl nu)
def j6 := mu 12 (evT P cl an61 nu (s [1,0,0,1,0,0,1,0,0,1]) (k7 P cl nu)) [(0,x0),(1,x1),(2,x2),(3,x3),(8,x8),(9,x9)] h
def j2 := mu 4 (evT P cl an61 nu (s [1,0,0,1,1]) (k2 P cl nu)) [(0,x0),(1,x1),(2,x2),(3,x3),(8,x8)] h
theorem l1n : evT P cl an61 nu (s [1,0,0]) (kL P cl nu an61 3 [0,1,2,3,8] (s [1,0,0]) (k1 P)) [(0,x0),(1,x1),(2,x2),(3,x3),(8,x8)] h = (xbin P .lss 3 x8 x2 h).go .pan fun t2 h => ifV t2 (j3 P cl nu nu x0 x1 x2 x3 x8 h) (.ok (.tuple ⟨[]⟩) h) := by kernel_rfl
def l1_eq := @id (l1 P cl nu0 nu0 x0 x1 x2 x3 x8 h = _) (lpN (l1n P cl nu0 x0 x1 x2 x3 x8 h))
theorem j3_eq : j3 P cl nu nu0 x0 x1 x2 x3 x8 h = l4 P cl nu nu x0 x1 x2 x3 x8 x8 h := by kernel_rfl
theorem l4n : evT P cl an61 nu (s [1,0,0,1,0,0,1,0,0]) (kL P cl nu an61 9 [0,1,2,3,8,9] (s [1,0,0,1,0,0,1,0,0]) (k6 P cl nu)) [(0,x0),(1,x1),(2,x2),(3,x3),(8,x8),(9,x9)] h = bif plain2 x9 x1 then ((xbin P .gtr 3 x9 x1 h).ok1 fun t3 h => ifV t3 ((xindexAddr P 27 x0 x9 h).ok1 fun t4 h => (xload P 3 t4 h).ok1 fun t5 h => bif plain2 x9 (.int .i64 1) then ((xbin P .sub 3 x9 (.int .i64 1) h).ok1 fun t6 h => (xindexAddr P 27 x0 t6 h).ok1 fun t7 h => (xload P 3 t7 h).ok1 fun t8 h => (xcallV cl x3 [t5,t8] h).go .pan fun t9 h => bif plain2 t9 (.int .i64 0) then ((xbin P .lss 3 t9 (.int .i64 0) h).ok1 fun t10 h => ifV t10 (j6 P cl nu nu x0 x1 x2 x3 x8 x9 h) (j2 P cl nu nu x0 x1 x2 x3 x8 h)) else .bad) else .bad) (j2 P cl nu nu x0 x1 x2 x3 x8 h)) else .bad := by kernel_rfl
def l4_eq := @id (l4 P cl nu0 nu0 x0 x1 x2 x3 x8 x9 h = _) (lpN (l4n P cl nu0 x0 x1 x2 x3 x8 x9 h))
theorem j6_eq : j6 P cl nu nu0 x0 x1 x2 x3 x8 x9 h = bif plain2 x9 (.int .i64 1) then ((xbin P .sub 3 x9 (.int .i64 1) h).ok1 fun t11 h => bif plain2 x9 (.int .i64 1) then ((xbin P .sub 3 x9 (.int .i64 1) h).ok1 fun t12 h => (xindexAddr P 27 x0 t12 h).ok1 fun t13 h => (xload P 3 t13 h).ok1 fun t14 h => (xindexAddr P 27 x0 x9 h).ok1 fun t15 h => (xload P 3 t15 h).ok1 fun t16 h => (xindexAddr P 27 x0 x9 h).ok1 fun t17 h => (xstore P 3 t17 t14 h).go .pan fun t18 h => (xindexAddr P 27 x0 t11 h).ok1 fun t19 h => (xstore P 3 t19 t16 h).go .pan fun t20 h => (xbin P .sub 3 x9 (.int .i64 1) h).go .pan fun t21 h => (l4 P cl nu nu x0 x1 x2 x3 x8 t21 h)) else .bad) else .bad := by kernel_rfl
theorem j2_eq : j2 P cl nu nu0 x0 x1 x2 x3 x8 h = (xbin P .add 3 x8 (.int .i64 1) h).go .pan fun t22 h => (l1 P cl nu nu x0 x1 x2 x3 t22 h) := by kernel_rfl
theorem eq : runX P cl nu an61 Try.f61 [x0,x1,x2,x3] h = (xbin P .add 3 x1 (.int .i64 1) h).go .pan fun t1 h => (l1 P cl nu nu x0 x1 x2 x3 t1 h) := by kernel_rfl
end
end F61
namespace F62
noncomputable section
variable (P : Program) (cl : Cl) (nu mu : Nu) (x0 x1 x2 x3 x8 x9 x10 x11 x12 : Value) (h : H)
noncomputable def s := sub (bodyOf Try.f62)
noncomputable def k0 : Ko := kfn P Try.f62.results.toList
def k1 : Ko := kC P cl nu an62 (s [1,1,1,1]) (k0 P)
def k2 : Ko := kblk 0 (k1 P cl nu)
def l4 := mu 9 (lC P cl nu an62 [0,3,8,9,10,11] (s [1,1,1,0,1,0,0]) (k2 P cl nu)) [(0,x0),(3,x3),(8,x8),(9,x9),(10,x10),(11,x11)] h
def j7 := mu 14 (evT P cl an62 nu (s [1,1,1,1]) (k0 P)) [(0,x0),(3,x3),(8,x8),(9,x9),(10,x10)] h
noncomputable def k6 : Ko := kblk 2 (k0 P)
def l8 := mu 17 (lC P cl nu an62 [0,3,8,9,12] (s [1,1,1,1,1,0,0]) (k6 P)) [(0,x0),(3,x3),(8,x8),(9,x9),(12,x12)] h
def k7 : Ko := kL P cl nu an62 17 [0,3,8,9,12] (s [1,1,1,1,1,0,0]) (k6 P)
def j10 := mu 20 (evT P cl an62 nu (s [1,1,1,1,1,0,0,1]) (k7 P cl nu)) [(0,x0),(3,x3),(8,x8),(9,x9),(12,x12)] h
theorem l4n : evT P cl an62 nu (s [1,1,1,0,1,0,0]) (kL P cl nu an62 9 [0,3,8,9,10,11] (s [1,1,1,0,1,0,0]) (k2 P cl nu)) [(0,x0),(3,x3),(8,x8),(9,x9),(10,x10),(11,x11)] h = (xbin P .geq 3 x11 (.int .i64 0) h).go .pan fun t4 h => ifV t4 ((cl (.f 75) [x0,x11,x10,x8,x3] h).go .pan fun t5 h => (xbin P .sub 3 x11 (.int .i64 1) h).go .pan fun t6 h => (l4 P cl nu nu x0 x3 x8 x9 x10 t6 h)) (j7 P cl nu nu x0 x3 x8 x9 x10 h) := by kernel_rfl
def l4_eq := @id (l4 P cl nu0 nu0 x0 x3 x8 x9 x10 x11 h = _) (lpN (l4n P cl nu0 x0 x3 x8 x9 x10 x11 h))
theorem j7_eq : j7 P cl nu nu0 x0 x3 x8 x9 x10 h = (xbin P .sub 3 x10 (.int .i64 1) h).go .pan fun t7 h => (l8 P cl nu nu x0 x3 x8 x9 t7 h) := by kernel_rfl
theorem l8n : evT P cl an62 nu (s [1,1,1,1,1,0,0]) (kL P cl nu an62 17 [0,3,8,9,12] (s [1,1,1,1,1,0,0]) (k6 P)) [(0,x0),(3,x3),(8,x8),(9,x9),(12,x12)] h = (xbin P .geq 3 x12 (.int .i64 0) h).go .pan fun t8 h => ifV t8 (j10 P cl nu nu x0 x3 x8 x9 x12 h) (.ok (.tuple ⟨[]⟩) h) := by kernel_rfl
def l8_eq := @id (l8 P cl nu0 nu0 x0 x3 x8 x9 x12 h = _) (lpN (l8n P cl nu0 x0 x3 x8 x9 x12 h))
theorem j10_eq : j10 P cl nu nu0 x0 x3 x8 x9 x12 h = bif plain2 x8 x12 then ((xbin P .add 3 x8 x12 h).ok1 fun t9 h => bif plain2 x8 x12 then ((xbin P .add 3 x8 x12 h).ok1 fun t10 h => (xindexAddr P 27 x0 t10 h).ok1 fun t11 h => (xload P 3 t11 h).ok1 fun t12 h => (xindexAddr P 27 x0 x8 h).ok1 fun t13 h => (xload P 3 t13 h).ok1 fun t14 h => (xindexAddr P 27 x0 x8 h).ok1 fun t15 h => (xstore P 3 t15 t12 h).go .pan fun t16 h => (xindexAddr P 27 x0 t9 h).ok1 fun t17 h => (xstore P 3 t17 t14 h).go .pan fun t18 h => (cl (.f 75) [x0,x9,x12,x8,x3] h).go .pan fun t19 h => (xbin P .sub 3 x12 (.int .i64 1) h).go .pan fun t20 h => (l8 P cl nu nu x0 x3 x8 x9 t20 h)) else .bad) else .bad := by kernel_rfl
theorem eq : runX P cl nu an62 Try.f62 [x0,x1,x2,x3] h = (xbin P .sub 3 x2 x1 h).go .pan fun t1 h => (xbin P .sub 3 t1 (.int .i64 1) h).go .pan fun t2 h => (xbin P .quo 3 t2 (.int .i64 2) h).go .pan fun t3 h => (l4 P cl nu nu x0 x3 x1 (.int .i64 0) t1 t3 h) := by kernel_rfl
end
end F62
namespace F63
noncomputable section
variable (P : Program) (cl : Cl) (nu mu : Nu) (x0 x1 x2 x3 x8 x9 x10 x11 x12 : Value) (h : H)
noncomputable def s := sub (bodyOf Try.f63)
noncomputable def k0 : Ko := kfn P Try.f63.results.toList
noncomputable def k1 : Ko := kblk 0 (k0 P)
def l5 := mu 11 (lC P cl nu an63 [0,1,8,9,10,11] (s [1,1,0,1,1,1,0,0]) (k1 P)) [(0,x0),(1,x1),(8,x8),(9,x9),(10,x10),(11,x11)] h
def k2 : Ko := kL P cl nu an63 11 [0,1,8,9,10,11] (s [1,1,0,1,1,1,0,0]) (k1 P)
def j7 := mu 14 (evT P cl an63 nu (s [1,1,0,1,1,1,0,0,1]) (k2 P cl nu)) [(0,x0),(1,x1),(8,x8),(9,x9),(10,x10),(11,x11)] h
def k4 : Ko := kC P cl nu an63 (s [1,1,0,1,1,1,0,0,1,1]) (k2 P cl nu)
def k5 : Ko := kblk 1 (k4 P cl nu)
def j10 := mu 20 (evT P cl an63 nu (s [1,1,0,1,1,1,0,0,1,0,0,1,1]) (k5 P cl nu)) [(0,x0),(1,x1),(8,x8),(9,x9),(10,x10),(11,x11),(12,x12)] h
theorem l5n : evT P cl an63 nu (s [1,1,0,1,1,1,0,0]) (kL P cl nu an63 11 [0,1,8,9,10,11] (s [1,1,0,1,1,1,0,0]) (k1 P)) [(0,x0),(1,x1),(8,x8),(9,x9),(10,x10),(11,x11)] h = (xbin P .quo 3 x8 (.int .i64 4) h).go .pan fun t11 h => (xbin P .mul 3 t11 (.int .i64 2) h).go .pan fun t12 h => (xbin P .add 3 x1 t12 h).go .pan fun t13 h => (xbin P .add 3 t13 (.int .i64 1) h).go .pan fun t14 h => (xbin P .leq 3 x11 t14 h).go .pan fun t15 h => ifV t15 (j7 P cl nu nu x0 x1 x8 x9 x10 x11 h) (.ok (.tuple ⟨[]⟩) h) := by kernel_rfl
def l5_eq := @id (l5 P cl nu0 nu0 x0 x1 x8 x9 x10 x11 h = _) (lpN (l5n P cl nu0 x0 x1 x8 x9 x10 x11 h))
theorem j7_eq : j7 P cl nu nu0 x0 x1 x8 x9 x10 x11 h = (cl (.f 77) [x9] h).go .pan fun t16 h => (xbin P .sub 95 x10 (.int .u64 1) h).go .pan fun t17 h => (xbin P .and 95 t16 t17 h).go .pan fun t18 h => (xconvert P 95 3 t18 h).go .pan fun t19 h => (xbin P .geq 3 t19 x8 h).go .pan fun t20 h => ifV t20 ((xbin P .sub 3 t19 x8 h).go .pan fun t21 h => (j10 P cl nu nu x0 x1 x8 x9 x10 x11 t21 h)) (j10 P cl nu nu x0 x1 x8 x9 x10 x11 t19 h) := by kernel_rfl
theorem j10_eq : j10 P cl nu nu0 x0 x1 x8 x9 x10 x11 x12 h = bif plain2 x1 x12 then ((xbin P .add 3 x1 x12 h).ok1 fun t22 h => bif plain2 x1 x12 then ((xbin P .add 3 x1 x12 h).ok1 fun t23 h => (xindexAddr P 27 x0 t23 h).ok1 fun t24 h => (xload P 3 t24 h).ok1 fun t25 h => (xindexAddr P 27 x0 x11 h).ok1 fun t26 h => (xload P 3 t26 h).ok1 fun t27 h => (xindexAddr P 27 x0 x11 h).ok1 fun t28 h => (xstore P 3 t28 t25 h).go .pan fun t29 h => (xindexAddr P 27 x0 t22 h).ok1 fun t30 h => (xstore P 3 t30 t27 h).go .pan fun t31 h => (xbin P .add 3 x11 (.int .i64 1) h).go .pan fun t32 h => (l5 P cl nu nu x0 x1 x8 x9 x10 t32 h)) else .bad) else .bad := by kernel_rfl
theorem eq : runX P cl nu an63 Try.f63 [x0,x1,x2,x3] h = (xbin P .sub 3 x2 x1 h).go .pan fun t1 h => (xbin P .geq 3 t1 (.int .i64 8) h).go .pan fun t2 h => ifV t2 ((xconvert P 3 114 t1 h).go .pan fun t3 h => (xalloc P 114 h).go .pan fun t4 h => (xstore P 114 t4 t3 h).go .pan fun t5 h => (cl (.f 76) [t1] h).go .pan fun t6 h => (xbin P .quo 3 t1 (.int .i64 4) h).go .pan fun t7 h => (xbin P .mul 3 t7 (.int .i64 2) h).go .pan fun t8 h => (xbin P .add 3 x1 t8 h).go .pan fun t9 h => (xbin P .sub 3 t9 (.int .i64 1) h).go .pan fun t10 h => (l5 P cl nu nu x0 x1 t1 t4 t6 t10 h)) (.ok (.tuple ⟨[]⟩) h) := by kernel_rfl
end
end F63
namespace F64
noncomputable section
variable (P : Program) (cl : Cl) (nu mu : Nu) (x0 x1 x2 x3 x11 x13 : Value) (h : H)
noncomputable def s := sub (bodyOf Try.f64)
noncomputable def k0 : Ko := kfn P Try.f64.results.toList
def j12 := mu 24 (evT P cl an64 nu (s [1,1,1,1,1,1,1]) (k0 P)) [(11,x11),(13,x13)] h
theorem j12_eq : j12 P cl nu nu0 x11 x13 h = (xload P 3 x11 h).go .pan fun t19 h => (xbin P .eql 3 t19 (.int .i64 0) h).go .pan fun t20 h => ifV t20 (.ok (.tuple ⟨[x13,(.int .i64 1)]⟩) h) ((xbin P .eql 3 t19 (.int .i64 12) h).go .pan fun t21 h => ifV t21 (.ok (.tuple ⟨[x13,(.int .i64 2)]⟩) h) (.ok (.tuple ⟨[x13,(.int .i64 0)]⟩) h)) := by kernel_rfl
theorem eq : runX P cl nu an64 Try.f64 [x0,x1,x2,x3] h = (xbin P .sub 3 x2 x1 h).go .pan fun t1 h => (xalloc P 3 h).go .pan fun t2 h => (xbin P .quo 3 t1 (.int .i64 4) h).go .pan fun t3 h => (xbin P .mul 3 t3 (.int .i64 1) h).go .pan fun t4 h => (xbin P .add 3 x1 t4 h).go .pan fun t5 h => (xbin P .quo 3 t1 (.int .i64 4) h).go .pan fun t6 h => (xbin P .mul 3 t6 (.int .i64 2) h).go .pan fun t7 h => (xbin P .add 3 x1 t7 h).go .pan fun t8 h => (xbin P .quo 3 t1 (.int .i64 4) h).go .pan fun t9 h => (xbin P .mul 3 t9 (.int .i64 3) h).go .pan fun t10 h => (xbin P .add 3 x1 t10 h).go .pan fun t11 h => (xbin P .geq 3 t1 (.int .i64 8) h).go .pan fun t12 h => ifV t12 ((xbin P .geq 3 t1 (.int .i64 50) h).go .pan fun t13 h => ifV t13 ((cl (.f 78) [x0,t5,t2,x3] h).go .pan fun t14 h => (cl (.f 78) [x0,t8,t2,x3] h).go .pan fun t15 h => (cl (.f 78) [x0,t11,t2,x3] h).go .pan fun t16 h => (cl (.f 79) [x0,t14,t15,t16,t2,x3] h).go .pan fun t17 h => (j12 P cl nu nu t2 t17 h)) ((cl (.f 79) [x0,t5,t8,t11,t2,x3] h).go .pan fun t18 h => (j12 P cl nu nu t2 t18 h))) (j12 P cl nu nu t2 t8 h) := by kernel_rfl
end
end F64
namespace F65
noncomputable section
variable (P : Program) (cl : Cl) (nu mu : Nu) (x0 x1 x2 x3 x8 x9 : Value) (h : H)
noncomputable def s := sub (bodyOf Try.f65)
noncomputable def k0 : Ko := kfn P Try.f65.results.toList
noncomputable def k1 : Ko := kblk 0 (k0 P)
def l2 := mu 5 (lC P cl nu an65 [0,8,9] (s [1,1,0,0]) (k1 P)) [(0,x0),(8,x8),(9,x9)] h
def k2 : Ko := kL P cl nu an65 5 [0,8,9] (s [1,1,0,0]) (k1 P)
def j3 := mu 6 (evT P cl an65 nu (s [1,1,0,0,1]) (k2 P cl nu)) [(0,x0),(8,x8),(9,x9)] h
theorem l2n : evT P cl an65 nu (s [1,1,0,0]) (kL P cl nu an65 5 [0,8,9] (s [1,1,0,0]) (k1 P)) [(0,x0),(8,x8),(9,x9)] h = (xbin P .lss 3 x8 x9 h).go .pan fun t2 h => ifV t2 (j3 P cl nu nu x0 x8 x9 h) (.ok (.tuple ⟨[]⟩) h) := by kernel_rfl
def l2_eq := @id (l2 P cl nu0 nu0 x0 x8 x9 h = _) (lpN (l2n P cl nu0 x0 x8 x9 h))
theorem j3_eq : j3 P cl nu nu0 x0 x8 x9 h = (xindexAddr P 27 x0 x9 h).ok1 fun t3 h => (xload P 3 t3 h).ok1 fun t4 h => (xindexAddr P 27 x0 x8 h).ok1 fun t5 h => (xload P 3 t5 h).ok1 fun t6 h => (xindexAddr P 27 x0 x8 h).ok1 fun t7 h => (xstore P 3 t7 t4 h).go .pan fun t8 h => (xindexAddr P 27 x0 x9 h).ok1 fun t9 h => (xstore P 3 t9 t6 h).go .pan fun t10 h => (xbin P .add 3 x8 (.int .i64 1) h).go .pan fun t11 h => (xbin P .sub 3 x9 (.int .i64 1) h).go .pan fun t12 h => (l2 P cl nu nu x0 t11 t12 h) := by kernel_rfl
theorem eq : runX P cl nu an65 Try.f65 [x0,x1,x2,x3] h = (xbin P .sub 3 x2 (.int .i64 1) h).go .pan fun t1 h => (l2 P cl nu nu x0 x1 t1 h) := by kernel_rfl
end
end F65
namespace F66
noncomputable section
variable (P : Program) (cl : Cl) (nu mu : Nu) (x0 x1 x2 x3 x9 x10 x11 x12 : Value) (h : H)
noncomputable def s := sub (bodyOf Try.f66)
noncomputable def k0 : Ko := kfn P Try.f66.results.toList
def k1 : Ko := kC P cl nu an66 (s [1,1,1]) (k0 P)
def k2 : Ko := kblk 0 (k1 P cl nu)
def l3 := mu 7 (lC P cl nu an66 [0,1,2,3,9,10] (s [1,1,0,1,0,0]) (k2 P cl nu)) [(0,x0),(1,x1),(2,x2),(3,x3),(9,x9),(10,x10)] h
def k3 : Ko := kL P cl nu an66 7 [0,1,2,3,9,10] (s [1,1,0,1,0,0]) (k2 P cl nu)
def j5 := mu 10 (evT P cl an66 nu (s [1,1,0,1,0,0,1]) (k3 P cl nu)) [(0,x0),(1,x1),(2,x2),(3,x3),(9,x9),(10,x10)] h
def k5 : Ko := kC P cl nu an66 (s [1,1,0,1,0,0,1,1]) (k3 P cl nu)
def k6 : Ko := kblk 1 (k5 P cl nu)
def k7 : Ko := kC P cl nu an66 (s [1,1,0,1,0,0,1,0,0,1]) (k6 P cl nu)
def k8 : Ko := kblk 2 (k7 P cl nu)
def j24 := mu 48 (evT P cl an66 nu (s [1,1,1]) (k0 P)) [] h
def l5 := mu 11 (lC P cl nu an66 [0,1,2,3,9,10] (s [1,1,0,1,0,0,1,0,0,0,0,0]) (k8 P cl nu)) [(0,x0),(1,x1),(2,x2),(3,x3),(9,x9),(10,x10)] h
def j7 := mu 14 (evT P cl an66 nu (s [1,1,0,1,0,0,1,0,0,1]) (k6 P cl nu)) [(0,x0),(1,x1),(2,x2),(3,x3),(9,x9),(10,x10)] h
def j9 := mu 18 (evT P cl an66 nu (s [1,1,0,1,0,0,1,0,0,1,1]) (k6 P cl nu)) [(0,x0),(1,x1),(2,x2),(3,x3),(9,x9),(10,x10)] h
def j11 := mu 22 (evT P cl an66 nu (s [1,1,0,1,0,0,1,0,0,1,1,1]) (k6 P cl nu)) [(0,x0),(1,x1),(2,x2),(3,x3),(9,x9),(10,x10)] h
def k13 : Ko := kC P cl nu an66 (s [1,1,0,1,0,0,1,0,0,1,1,1,1,1]) (k6 P cl nu)
def k14 : Ko := kblk 4 (k13 P cl nu)
def l14 := mu 29 (lC P cl nu an66 [0,1,2,3,9,10,11] (s [1,1,0,1,0,0,1,0,0,1,1,1,1,0,1,0,1,0,0]) (k14 P cl nu)) [(0,x0),(1,x1),(2,x2),(3,x3),(9,x9),(10,x10),(11,x11)] h
def k15 : Ko := kL P cl nu an66 29 [0,1,2,3,9,10,11] (s [1,1,0,1,0,0,1,0,0,1,1,1,1,0,1,0,1,0,0]) (k14 P cl nu)
def j18 := mu 36 (evT P cl an66 nu (s [1,1,0,1,0,0,1,0,0,1,1,1,1,1]) (k6 P cl nu)) [(0,x0),(1,x1),(2,x2),(3,x3),(9,x9),(10,x10)] h
def k17 : Ko := kblk 6 (k6 P cl nu)
def j16 := mu 32 (evT P cl an66 nu (s [1,1,0,1,0,0,1,0,0,1,1,1,1,0,1,0,1,0,0,1]) (k15 P cl nu)) [(0,x0),(1,x1),(2,x2),(3,x3),(9,x9),(10,x10),(11,x11)] h
def k18 : Ko := kC P cl nu an66 (s [1,1,0,1,0,0,1,0,0,1,1,1,1,0,1,0,1,0,0,1,1]) (k15 P cl nu)
def k19 : Ko := kblk 5 (k18 P cl nu)
def l20 := mu 41 (lC P cl nu an66 [0,1,2,3,9,10,12] (s [1,1,0,1,0,0,1,0,0,1,1,1,1,1,1,0,1,0,0]) (k17 P cl nu)) [(0,x0),(1,x1),(2,x2),(3,x3),(9,x9),(10,x10),(12,x12)] h
def k21 : Ko := kL P cl nu an66 41 [0,1,2,3,9,10,12] (s [1,1,0,1,0,0,1,0,0,1,1,1,1,1,1,0,1,0,0]) (k17 P cl nu)
def j4 := mu 8 (evT P cl an66 nu (s [1,1,0,1,0,0,1,1]) (k3 P cl nu)) [(0,x0),(1,x1),(2,x2),(3,x3),(9,x9),(10,x10)] h
def j17 := mu 34 (evT P cl an66 nu (s [1,1,0,1,0,0,1,0,0,1,1,1,1,0,1,0,1,0,0,1,0,0,1]) (k19 P cl nu)) [(0,x0),(1,x1),(2,x2),(3,x3),(9,x9),(10,x10),(11,x11)] h
def j22 := mu 44 (evT P cl an66 nu (s [1,1,0,1,0,0,1,0,0,1,1,1,1,1,1,0,1,0,0,1]) (k21 P cl nu)) [(0,x0),(1,x1),(2,x2),(3,x3),(9,x9),(10,x10),(12,x12)] h
def k23 : Ko := kC P cl nu an66 (s [1,1,0,1,0,0,1,0,0,1,1,1,1,1,1,0,1,0,0,1,1]) (k21 P cl nu)
def k24 : Ko := kblk 7 (k23 P cl nu)
def j23 := mu 46 (evT P cl an66 nu (s [1,1,0,1,0,0,1,0,0,1,1,1,1,1,1,0,1,0,0,1,0,0,1]) (k24 P cl nu)) [(0,x0),(1,x1),(2,x2),(3,x3),(9,x9),(10,x10),(12,x12)] h
theorem l3n : evT P cl an66 nu (s [1,1,0,1,0,0]) (kL P cl nu an66 7 [0,1,2,3,9,10] (s [1,1,0,1,0,0]) (k2 P cl nu)) [(0,x0),(1,x1),(2,x2),(3,x3),(9,x9),(10,x10)] h = (xbin P .lss 3 x10 (.int .i64 5) h).go .pan fun t2 h => ifV t2 (j5 P cl nu nu x0 x1 x2 x3 x9 x10 h) (j24 P cl nu nu h) := by kernel_rfl
def l3_eq := @id (l3 P cl nu0 nu0 x0 x1 x2 x3 x9 x10 h = _) (lpN (l3n P cl nu0 x0 x1 x2 x3 x9 x10 h))
theorem j5_eq : j5 P cl nu nu0 x0 x1 x2 x3 x9 x10 h = l5 P cl nu nu x0 x1 x2 x3 x9 x10 h := by kernel_rfl
theorem j24_eq : j24 P cl nu nu0 h = .ok (.bool false) h := by kernel_rfl
theorem l5n : evT P cl an66 nu (s [1,1,0,1,0,0,1,0,0,0,0,0]) (kL P cl nu an66 11 [0,1,2,3,9,10] (s [1,1,0,1,0,0,1,0,0,0,0,0]) (k8 P cl nu)) [(0,x0),(1,x1),(2,x2),(3,x3),(9,x9),(10,x10)] h = bif plain2 x9 x2 then ((xbin P .lss 3 x9 x2 h).ok1 fun t3 h => ifV t3 ((xindexAddr P 27 x0 x9 h).ok1 fun t4 h => (xload P 3 t4 h).ok1 fun t5 h => bif plain2 x9 (.int .i64 1) then ((xbin P .sub 3 x9 (.int .i64 1) h).ok1 fun t6 h => (xindexAddr P 27 x0 t6 h).ok1 fun t7 h => (xload P 3 t7 h).ok1 fun t8 h => (xcallV cl x3 [t5,t8] h).go .pan fun t9 h => bif plain2 t9 (.int .i64 0) then ((xbin P .lss 3 t9 (.int .i64 0) h).ok1 fun t10 h => (xun P .not t10 h).ok1 fun t11 h => ifV t11 ((xbin P .add 3 x9 (.int .i64 1) h).go .pan fun t12 h => (l5 P cl nu nu x0 x1 x2 x3 t12 x10 h)) (j7 P cl nu nu x0 x1 x2 x3 x9 x10 h)) else .bad) else .bad) (j7 P cl nu nu x0 x1 x2 x3 x9 x10 h)) else .bad := by kernel_rfl
def l5_eq := @id (l5 P cl nu0 nu0 x0 x1 x2 x3 x9 x10 h = _) (lpN (l5n P cl nu0 x0 x1 x2 x3 x9 x10 h))
theorem j7_eq : j7 P cl nu nu0 x0 x1 x2 x3 x9 x10 h = (xbin P .eql 3 x9 x2 h).go .pan fun t13 h => ifV t13 (.ok (.bool true) h) (j9 P cl nu nu x0 x1 x2 x3 x9 x10 h) := by kernel_rfl
theorem j9_eq : j9 P cl nu nu0 x0 x1 x2 x3 x9 x10 h = (xbin P .sub 3 x2 x1 h).go .pan fun t14 h => (xbin P .lss 3 t14 (.int .i64 50) h).go .pan fun t15 h => ifV t15 (.ok (.bool false) h) (j11 P cl nu nu x0 x1 x2 x3 x9 x10 h) := by kernel_rfl
theorem j11_eq : j11 P cl nu nu0 x0 x1 x2 x3 x9 x10 h = bif plain2 x9 (.int .i64 1) then ((xbin P .sub 3 x9 (.int .i64 1) h).ok1 fun t16 h => bif plain2 x9 (.int .i64 1) then ((xbin P .sub 3 x9 (.int .i64 1) h).ok1 fun t17 h => (xindexAddr P 27 x0 t17 h).ok1 fun t18 h => (xload P 3 t18 h).ok1 fun t19 h => (xindexAddr P 27 x0 x9 h).ok1 fun t20 h => (xload P 3 t20 h).ok1 fun t21 h => (xindexAddr P 27 x0 x9 h).ok1 fun t22 h => (xstore P 3 t22 t19 h).go .pan fun t23 h => (xindexAddr P 27 x0 t16 h).ok1 fun t24 h => (xstore P 3 t24 t21 h).go .pan fun t25 h => (xbin P .sub 3 x9 x1 h).go .pan fun t26 h => (xbin P .geq 3 t26 (.int .i64 2) h).go .pan fun t27 h => ifV t27 ((xbin P .sub 3 x9 (.int .i64 1) h).go .pan fun t28 h => (l14 P cl nu nu x0 x1 x2 x3 x9 x10 t28 h)) (j18 P cl nu nu x0 x1 x2 x3 x9 x10 h)) else .bad) else .bad := by kernel_rfl
theorem l14n : evT P cl an66 nu (s [1,1,0,1,0,0,1,0,0,1,1,1,1,0,1,0,1,0,0]) (kL P cl nu an66 29 [0,1,2,3,9,10,11] (s [1,1,0,1,0,0,1,0,0,1,1,1,1,0,1,0,1,0,0]) (k14 P cl nu)) [(0,x0),(1,x1),(2,x2),(3,x3),(9,x9),(10,x10),(11,x11)] h = (xbin P .geq 3 x11 (.int .i64 1) h).go .pan fun t29 h => ifV t29 (j16 P cl nu nu x0 x1 x2 x3 x9 x10 x11 h) (j18 P cl nu nu x0 x1 x2 x3 x9 x10 h) := by kernel_rfl
def l14_eq := @id (l14 P cl nu0 nu0 x0 x1 x2 x3 x9 x10 x11 h = _) (lpN (l14n P cl nu0 x0 x1 x2 x3 x9 x10 x11 h))
theorem j18_eq : j18 P cl nu nu0 x0 x1 x2 x3 x9 x10 h = (xbin P .sub 3 x2 x9 h).go .pan fun t30 h => (xbin P .geq 3 t30 (.int .i64 2) h).go .pan fun t31 h => ifV t31 ((xbin P .add 3 x9 (.int .i64 1) h).go .pan fun t32 h => (l20 P cl nu nu x0 x1 x2 x3 x9 x10 t32 h)) (j4 P cl nu nu x0 x1 x2 x3 x9 x10 h) := by kernel_rfl
theorem j16_eq : j16 P cl nu nu0 x0 x1 x2 x3 x9 x10 x11 h = (xindexAddr P 27 x0 x11 h).ok1 fun t33 h => (xload P 3 t33 h).ok1 fun t34 h => bif plain2 x11 (.int .i64 1) then ((xbin P .sub 3 x11 (.int .i64 1) h).ok1 fun t35 h => (xindexAddr P 27 x0 t35 h).ok1 fun t36 h => (xload P 3 t36 h).ok1 fun t37 h => (xcallV cl x3 [t34,t37] h).go .pan fun t38 h => bif plain2 t38 (.int .i64 0) then ((xbin P .lss 3 t38 (.int .i64 0) h).ok1 fun t39 h => (xun P .not t39 h).ok1 fun t40 h => ifV t40 (j18 P cl nu nu x0 x1 x2 x3 x9 x10 h) (j17 P cl nu nu x0 x1 x2 x3 x9 x10 x11 h)) else .bad) else .bad := by kernel_rfl
theorem l20n : evT P cl an66 nu (s [1,1,0,1,0,0,1,0,0,1,1,1,1,1,1,0,1,0,0]) (kL P cl nu an66 41 [0,1,2,3,9,10,12] (s [1,1,0,1,0,0,1,0,0,1,1,1,1,1,1,0,1,0,0]) (k17 P cl nu)) [(0,x0),(1,x1),(2,x2),(3,x3),(9,x9),(10,x10),(12,x12)] h = (xbin P .lss 3 x12 x2 h).go .pan fun t41 h => ifV t41 (j22 P cl nu nu x0 x1 x2 x3 x9 x10 x12 h) (j4 P cl nu nu x0 x1 x2 x3 x9 x10 h) := by kernel_rfl
def l20_eq := @id (l20 P cl nu0 nu0 x0 x1 x2 x3 x9 x10 x12 h = _) (lpN (l20n P cl nu0 x0 x1 x2 x3 x9 x10 x12 h))
theorem j4_eq : j4 P cl nu nu0 x0 x1 x2 x3 x9 x10 h = (xbin P .add 3 x10 (.int .i64 1) h).go .pan fun t42 h => (l3 P cl nu nu x0 x1 x2 x3 x9 t42 h) := by kernel_rfl
theorem j17_eq : j17 P cl nu nu0 x0 x1 x2 x3 x9 x10 x11 h = bif plain2 x11 (.int .i64 1) then ((xbin P .sub 3 x11 (.int .i64 1) h).ok1 fun t43 h => bif plain2 x11 (.int .i64 1) then ((xbin P .sub 3 x11 (.int .i64 1) h).ok1 fun t44 h => (xindexAddr P 27 x0 t44 h).ok1 fun t45 h => (xload P 3 t45 h).ok1 fun t46 h => (xindexAddr P 27 x0 x11 h).ok1 fun t47 h => (xload P 3 t47 h).ok1 fun t48 h => (xindexAddr P 27 x0 x11 h).ok1 fun t49 h => (xstore P 3 t49 t46 h).go .pan fun t50 h => (xindexAddr P 27 x0 t43 h).ok1 fun t51 h => (xstore P 3 t51 t48 h).go .pan fun t52 h => (xbin P .sub 3 x11 (.int .i64 1) h).go .pan fun t53 h => (l14 P cl nu nu x0 x1 x2 x3 x9 x10 t53 h)) else .bad) else .bad := by kernel_rfl
theorem j22_eq : j22 P cl nu nu0 x0 x1 x2 x3 x9 x10 x12 h = (xindexAddr P 27 x0 x12 h).ok1 fun t54 h => (xload P 3 t54 h).ok1 fun t55 h => bif plain2 x12 (.int .i64 1) then ((xbin P .sub 3 x12 (.int .i64 1) h).ok1 fun t56 h => (xindexAddr P 27 x0 t56 h).ok1 fun t57 h => (xload P 3 t57 h).ok1 fun t58 h => (xcallV cl x3 [t55,t58] h).go .pan fun t59 h => bif plain2 t59 (.int .i64 0) then ((xbin P .lss 3 t59 (.int .i64 0) h).ok1 fun t60 h => (xun P .not t60 h).ok1 fun t61 h => ifV t61 (j4 P cl nu nu x0 x1 x2 x3 x9 x10 h) (j23 P cl nu nu x0 x1 x2 x3 x9 x10 x12 h)) else .bad) else .bad := by kernel_rfl
theorem j23_eq : j23 P cl nu nu0 x0 x1 x2 x3 x9 x10 x12 h = bif plain2 x12 (.int .i64 1) then ((xbin P .sub 3 x12 (.int .i64 1) h).ok1 fun t62 h => bif plain2 x12 (.int .i64 1) then ((xbin P .sub 3 x12 (.int .i64 1) h).ok1 fun t63 h => (xindexAddr P 27 x0 t63 h).ok1 fun t64 h => (xload P 3 t64 h).ok1 fun t65 h => (xindexAddr P 27 x0 x12 h).ok1 fun t66 h => (xload P 3 t66 h).ok1 fun t67 h => (xindexAddr P 27 x0 x12 h).ok1 fun t68 h => (xstore P 3 t68 t65 h).go .pan fun t69 h => (xindexAddr P 27 x0 t62 h).ok1 fun t70 h => (xstore P 3 t70 t67 h).go .pan fun t71 h => (xbin P .add 3 x12 (.int .i64 1) h).go .pan fun t72 h => (l20 P cl nu nu x0 x1 x2 x3 x9 x10 t72 h)) else .bad) else .bad := by kernel_rfl
theorem eq : runX P cl nu an66 Try.f66 [x0,x1,x2,x3] h = (xbin P .add 3 x1 (.int .i64 1) h).go .pan fun t1 h => (l3 P cl nu nu x0 x1 x2 x3 t1 (.int .i64 0) h) := by kernel_rfl
end
end F66
namespace F67
noncomputable section
variable (P : Program) (cl : Cl) (nu mu : Nu) (x0 x1 x2 x3 x4 x11 x12 : Value) (h : H)
noncomputable def s := sub (bodyOf Try.f67)
noncomputable def k0 : Ko := kfn P Try.f67.results.toList
def k1 : Ko := kC P cl nu an67 (s [1,1,1,1]) (k0 P)
def k2 : Ko := kblk 0 (k1 P cl nu)
def l3 := mu 7 (lC P cl nu an67 [0,1,4,11,12] (s [1,1,1,0,0,0]) (k2 P cl nu)) [(0,x0),(1,x1),(4,x4),(11,x11),(12,x12)] h
def k3 : Ko := kL P cl nu an67 7 [0,1,4,11,12] (s [1,1,1,0,0,0]) (k2 P cl nu)
def k4 : Ko := kblk 1 (k3 P cl nu)
def k5 : Ko := kC P cl nu an67 (s [1,1,1,0,0,0,0,1]) (k4 P cl nu)
def k6 : Ko := kblk 2 (k5 P cl nu)
def l3_1 := mu 7 (lC P cl nu an67 [0,1,4,11,12] (s [1,1,1,0,0,0,0,0,0,0]) (k6 P cl nu)) [(0,x0),(1,x1),(4,x4),(11,x11),(12,x12)] h
def j5 := mu 10 (evT P cl an67 nu (s [1,1,1,0,0,0,0,1]) (k4 P cl nu)) [(0,x0),(1,x1),(4,x4),(11,x11),(12,x12)] h
def k9 : Ko := kC P cl nu an67 (s [1,1,1,0,0,0,0,1,1]) (k4 P cl nu)
def k10 : Ko := kblk 4 (k9 P cl nu)
def l5 := mu 11 (lC P cl nu an67 [0,1,4,11,12] (s [1,1,1,0,0,0,0,1,0,0,0]) (k10 P cl nu)) [(0,x0),(1,x1),(4,x4),(11,x11),(12,x12)] h
def j7 := mu 14 (evT P cl an67 nu (s [1,1,1,0,0,0,0,1,1]) (k4 P cl nu)) [(0,x0),(1,x1),(4,x4),(11,x11),(12,x12)] h
def j11 := mu 22 (evT P cl an67 nu (s [1,1,1,1]) (k0 P)) [(11,x11)] h
def j8 := mu 16 (evT P cl an67 nu (s [1,1,1,0,0,0,0,1,1,1]) (k4 P cl nu)) [(0,x0),(1,x1),(4,x4),(11,x11),(12,x12)] h
theorem l3n : evT P cl an67 nu (s [1,1,1,0,0,0]) (kL P cl nu an67 7 [0,1,4,11,12] (s [1,1,1,0,0,0]) (k2 P cl nu)) [(0,x0),(1,x1),(4,x4),(11,x11),(12,x12)] h = l3_1 P cl nu nu x0 x1 x4 x11 x12 h := by kernel_rfl
def l3_eq := @id (l3 P cl nu0 nu0 x0 x1 x4 x11 x12 h = _) (lpN (l3n P cl nu0 x0 x1 x4 x11 x12 h))
theorem l3_1n : evT P cl an67 nu (s [1,1,1,0,0,0,0,0,0,0]) (kL P cl nu an67 7 [0,1,4,11,12] (s [1,1,1,0,0,0,0,0,0,0]) (k6 P cl nu)) [(0,x0),(1,x1),(4,x4),(11,x11),(12,x12)] h = bif plain2 x11 x12 then ((xbin P .leq 3 x11 x12 h).ok1 fun t11 h => ifV t11 ((xindexAddr P 27 x0 x1 h).ok1 fun t12 h => (xload P 3 t12 h).ok1 fun t13 h => (xindexAddr P 27 x0 x11 h).ok1 fun t14 h => (xload P 3 t14 h).ok1 fun t15 h => (xcallV cl x4 [t13,t15] h).go .pan fun t16 h => bif plain2 t16 (.int .i64 0) then ((xbin P .lss 3 t16 (.int .i64 0) h).ok1 fun t17 h => (xun P .not t17 h).ok1 fun t18 h => ifV t18 ((xbin P .add 3 x11 (.int .i64 1) h).go .pan fun t19 h => (l3_1 P cl nu nu x0 x1 x4 t19 x12 h)) (j5 P cl nu nu x0 x1 x4 x11 x12 h)) else .bad) (j5 P cl nu nu x0 x1 x4 x11 x12 h)) else .bad := by kernel_rfl
def l3_1_eq := @id (l3_1 P cl nu0 nu0 x0 x1 x4 x11 x12 h = _) (lpN (l3_1n P cl nu0 x0 x1 x4 x11 x12 h))
theorem j5_eq : j5 P cl nu nu0 x0 x1 x4 x11 x12 h = l5 P cl nu nu x0 x1 x4 x11 x12 h := by kernel_rfl
theorem l5n : evT P cl an67 nu (s [1,1,1,0,0,0,0,1,0,0,0]) (kL P cl nu an67 11 [0,1,4,11,12] (s [1,1,1,0,0,0,0,1,0,0,0]) (k10 P cl nu)) [(0,x0),(1,x1),(4,x4),(11,x11),(12,x12)] h = bif plain2 x11 x12 then ((xbin P .leq 3 x11 x12 h).ok1 fun t20 h => ifV t20 ((xindexAddr P 27 x0 x1 h).ok1 fun t21 h => (xload P 3 t21 h).ok1 fun t22 h => (xindexAddr P 27 x0 x12 h).ok1 fun t23 h => (xload P 3 t23 h).ok1 fun t24 h => (xcallV cl x4 [t22,t24] h).go .pan fun t25 h => bif plain2 t25 (.int .i64 0) then ((xbin P .lss 3 t25 (.int .i64 0) h).ok1 fun t26 h => ifV t26 ((xbin P .sub 3 x12 (.int .i64 1) h).go .pan fun t27 h => (l5 P cl nu nu x0 x1 x4 x11 t27 h)) (j7 P cl nu nu x0 x1 x4 x11 x12 h)) else .bad) (j7 P cl nu nu x0 x1 x4 x11 x12 h)) else .bad := by kernel_rfl
def l5_eq := @id (l5 P cl nu0 nu0 x0 x1 x4 x11 x12 h = _) (lpN (l5n P cl nu0 x0 x1 x4 x11 x12 h))
theorem j7_eq : j7 P cl nu nu0 x0 x1 x4 x11 x12 h = (xbin P .gtr 3 x11 x12 h).go .pan fun t28 h => ifV t28 (j11 P cl nu nu x11 h) (j8 P cl nu nu x0 x1 x4 x11 x12 h) := by kernel_rfl
theorem j11_eq : j11 P cl nu nu0 x11 h = .ok x11 h := by kernel_rfl
theorem j8_eq : j8 P cl nu nu0 x0 x1 x4 x11 x12 h = (xindexAddr P 27 x0 x12 h).ok1 fun t29 h => (xload P 3 t29 h).ok1 fun t30 h => (xindexAddr P 27 x0 x11 h).ok1 fun t31 h => (xload P 3 t31 h).ok1 fun t32 h => (xindexAddr P 27 x0 x11 h).ok1 fun t33 h => (xstore P 3 t33 t30 h).go .pan fun t34 h => (xindexAddr P 27 x0 x12 h).ok1 fun t35 h => (xstore P 3 t35 t32 h).go .pan fun t36 h => (xbin P .add 3 x11 (.int .i64 1) h).go .pan fun t37 h => (xbin P .sub 3 x12 (.int .i64 1) h).go .pan fun t38 h => (l3 P cl nu nu x0 x1 x4 t37 t38 h) := by kernel_rfl
theorem eq : runX P cl nu an67 Try.f67 [x0,x1,x2,x3,x4] h = (xindexAddr P 27 x0 x3 h).ok1 fun t1 h => (xload P 3 t1 h).ok1 fun t2 h => (xindexAddr P 27 x0 x1 h).ok1 fun t3 h => (xload P 3 t3 h).ok1 fun t4 h => (xindexAddr P 27 x0 x1 h).ok1 fun t5 h => (xstore P 3 t5 t2 h).go .pan fun t6 h => (xindexAddr P 27 x0 x3 h).ok1 fun t7 h => (xstore P 3 t7 t4 h).go .pan fun t8 h => (xbin P .add 3 x1 (.int .i64 1) h).go .pan fun t9 h => (xbin P .sub 3 x2 (.int .i64 1) h).go .pan fun t10 h => (l3 P cl nu nu x0 x1 x4 t9 t10 h) := by kernel_rfl
end
end F67
namespace F68
noncomputable section
variable (P : Program) (cl : Cl) (nu mu : Nu) (x0 x1 x2 x3 x4 x12 x13 : Value) (h : H)
noncomputable def s := sub (bodyOf Try.f68)
noncomputable def k0 : Ko := kfn P Try.f68.results.toList
def k1 : Ko := kC P cl nu an68 (s [1,1,1,1]) (k0 P)
def k2 : Ko := kblk 0 (k1 P cl nu)
def l3 := mu 7 (lC P cl nu an68 [0,1,4,12,13] (s [1,1,1,0,0,0]) (k2 P cl nu)) [(0,x0),(1,x1),(4,x4),(12,x12),(13,x13)] h
def j5 := mu 10 (evT P cl an68 nu (s [1,1,1,1]) (k0 P)) [(0,x0),(1,x1),(4,x4),(12,x12),(13,x13)] h
def k5 : Ko := kC P cl nu an68 (s [1,1,1,1,1]) (k0 P)
def k6 : Ko := kblk 2 (k5 P cl nu)
def l5 := mu 11 (lC P cl nu an68 [0,1,4,12,13] (s [1,1,1,1,0,0,0]) (k6 P cl nu)) [(0,x0),(1,x1),(4,x4),(12,x12),(13,x13)] h
def j7 := mu 14 (evT P cl an68 nu (s [1,1,1,1,1]) (k0 P)) [(0,x0),(1,x1),(4,x4),(12,x12),(13,x13)] h
def j10 := mu 20 (evT P cl an68 nu (s [1,1,1,1,1,1]) (k0 P)) [(0,x0),(1,x1),(4,x4),(12,x12),(13,x13)] h
def k10 : Ko := kC P cl nu an68 (s [1,1,1,1,1,1,1,1,1,1]) (k0 P)
def k11 : Ko := kblk 4 (k10 P cl nu)
def l13 := mu 27 (lC P cl nu an68 [0,1,4,12,13] (s [1,1,1,1,1,1,1,1,1,0,0,0]) (k11 P cl nu)) [(0,x0),(1,x1),(4,x4),(12,x12),(13,x13)] h
def k12 : Ko := kL P cl nu an68 27 [0,1,4,12,13] (s [1,1,1,1,1,1,1,1,1,0,0,0]) (k11 P cl nu)
def k13 : Ko := kblk 5 (k12 P cl nu)
def k14 : Ko := kC P cl nu an68 (s [1,1,1,1,1,1,1,1,1,0,0,0,0,1]) (k13 P cl nu)
def k15 : Ko := kblk 6 (k14 P cl nu)
def l13_1 := mu 27 (lC P cl nu an68 [0,1,4,12,13] (s [1,1,1,1,1,1,1,1,1,0,0,0,0,0,0,0]) (k15 P cl nu)) [(0,x0),(1,x1),(4,x4),(12,x12),(13,x13)] h
def j15 := mu 30 (evT P cl an68 nu (s [1,1,1,1,1,1,1,1,1,0,0,0,0,1]) (k13 P cl nu)) [(0,x0),(1,x1),(4,x4),(12,x12),(13,x13)] h
def k18 : Ko := kC P cl nu an68 (s [1,1,1,1,1,1,1,1,1,0,0,0,0,1,1]) (k13 P cl nu)
def k19 : Ko := kblk 8 (k18 P cl nu)
def l15 := mu 31 (lC P cl nu an68 [0,1,4,12,13] (s [1,1,1,1,1,1,1,1,1,0,0,0,0,1,0,0,0]) (k19 P cl nu)) [(0,x0),(1,x1),(4,x4),(12,x12),(13,x13)] h
def j17 := mu 34 (evT P cl an68 nu (s [1,1,1,1,1,1,1,1,1,0,0,0,0,1,1]) (k13 P cl nu)) [(0,x0),(1,x1),(4,x4),(12,x12),(13,x13)] h
def j21 := mu 42 (evT P cl an68 nu (s [1,1,1,1,1,1,1,1,1,1]) (k0 P)) [(0,x0),(1,x1),(13,x13)] h
def j18 := mu 36 (evT P cl an68 nu (s [1,1,1,1,1,1,1,1,1,0,0,0,0,1,1,1]) (k13 P cl nu)) [(0,x0),(1,x1),(4,x4),(12,x12),(13,x13)] h
theorem l3n : evT P cl an68 nu (s [1,1,1,0,0,0]) (kL P cl nu an68 7 [0,1,4,12,13] (s [1,1,1,0,0,0]) (k2 P cl nu)) [(0,x0),(1,x1),(4,x4),(12,x12),(13,x13)] h = bif plain2 x12 x13 then ((xbin P .leq 3 x12 x13 h).ok1 fun t11 h => ifV t11 ((xindexAddr P 27 x0 x12 h).ok1 fun t12 h => (xload P 3 t12 h).ok1 fun t13 h => (xindexAddr P 27 x0 x1 h).ok1 fun t14 h => (xload P 3 t14 h).ok1 fun t15 h => (xcallV cl x4 [t13,t15] h).go .pan fun t16 h => bif plain2 t16 (.int .i64 0) then ((xbin P .lss 3 t16 (.int .i64 0) h).ok1 fun t17 h => ifV t17 ((xbin P .add 3 x12 (.int .i64 1) h).go .pan fun t18 h => (l3 P cl nu nu x0 x1 x4 t18 x13 h)) (j5 P cl nu nu x0 x1 x4 x12 x13 h)) else .bad) (j5 P cl nu nu x0 x1 x4 x12 x13 h)) else .bad := by kernel_rfl
def l3_eq := @id (l3 P cl nu0 nu0 x0 x1 x4 x12 x13 h = _) (lpN (l3n P cl nu0 x0 x1 x4 x12 x13 h))
theorem j5_eq : j5 P cl nu nu0 x0 x1 x4 x12 x13 h = l5 P cl nu nu x0 x1 x4 x12 x13 h := by kernel_rfl
theorem l5n : evT P cl an68 nu (s [1,1,1,1,0,0,0]) (kL P cl nu an68 11 [0,1,4,12,13] (s [1,1,1,1,0,0,0]) (k6 P cl nu)) [(0,x0),(1,x1),(4,x4),(12,x12),(13,x13)] h = bif plain2 x12 x13 then ((xbin P .leq 3 x12 x13 h).ok1 fun t19 h => ifV t19 ((xindexAddr P 27 x0 x13 h).ok1 fun t20 h => (xload P 3 t20 h).ok1 fun t21 h => (xindexAddr P 27 x0 x1 h).ok1 fun t22 h => (xload P 3 t22 h).ok1 fun t23 h => (xcallV cl x4 [t21,t23] h).go .pan fun t24 h => bif plain2 t24 (.int .i64 0) then ((xbin P .lss 3 t24 (.int .i64 0) h).ok1 fun t25 h => (xun P .not t25 h).ok1 fun t26 h => ifV t26 ((xbin P .sub 3 x13 (.int .i64 1) h).go .pan fun t27 h => (l5 P cl nu nu x0 x1 x4 x12 t27 h)) (j7 P cl nu nu x0 x1 x4 x12 x13 h)) else .bad) (j7 P cl nu nu x0 x1 x4 x12 x13 h)) else .bad := by kernel_rfl
def l5_eq := @id (l5 P cl nu0 nu0 x0 x1 x4 x12 x13 h = _) (lpN (l5n P cl nu0 x0 x1 x4 x12 x13 h))
theorem j7_eq : j7 P cl nu nu0 x0 x1 x4 x12 x13 h = (xbin P .gtr 3 x12 x13 h).go .pan fun t28 h => ifV t28 ((xindexAddr P 27 x0 x1 h).ok1 fun t29 h => (xload P 3 t29 h).ok1 fun t30 h => (xindexAddr P 27 x0 x13 h).ok1 fun t31 h => (xload P 3 t31 h).ok1 fun t32 h => (xindexAddr P 27 x0 x13 h).ok1 fun t33 h => (xstore P 3 t33 t30 h).go .pan fun t34 h => (xindexAddr P 27 x0 x1 h).ok1 fun t35 h => (xstore P 3 t35 t32 h).go .pan fun t36 h => .ok (.tuple ⟨[x13,(.bool true)]⟩) h) (j10 P cl nu nu x0 x1 x4 x12 x13 h) := by kernel_rfl
theorem j10_eq : j10 P cl nu nu0 x0 x1 x4 x12 x13 h = (xindexAddr P 27 x0 x13 h).ok1 fun t37 h => (xload P 3 t37 h).ok1 fun t38 h => (xindexAddr P 27 x0 x12 h).ok1 fun t39 h => (xload P 3 t39 h).ok1 fun t40 h => (xindexAddr P 27 x0 x12 h).ok1 fun t41 h => (xstore P 3 t41 t38 h).go .pan fun t42 h => (xindexAddr P 27 x0 x13 h).ok1 fun t43 h => (xstore P 3 t43 t40 h).go .pan fun t44 h => (xbin P .add 3 x12 (.int .i64 1) h).go .pan fun t45 h => (xbin P .sub 3 x13 (.int .i64 1) h).go .pan fun t46 h => (l13 P cl nu nu x0 x1 x4 t45 t46 h) := by kernel_rfl
theorem l13n : evT P cl an68 nu (s [1,1,1,1,1,1,1,1,1,0,0,0]) (kL P cl nu an68 27 [0,1,4,12,13] (s [1,1,1,1,1,1,1,1,1,0,0,0]) (k11 P cl nu)) [(0,x0),(1,x1),(4,x4),(12,x12),(13,x13)] h = l13_1 P cl nu nu x0 x1 x4 x12 x13 h := by kernel_rfl
def l13_eq := @id (l13 P cl nu0 nu0 x0 x1 x4 x12 x13 h = _) (lpN (l13n P cl nu0 x0 x1 x4 x12 x13 h))
theorem l13_1n : evT P cl an68 nu (s [1,1,1,1,1,1,1,1,1,0,0,0,0,0,0,0]) (kL P cl nu an68 27 [0,1,4,12,13] (s [1,1,1,1,1,1,1,1,1,0,0,0,0,0,0,0]) (k15 P cl nu)) [(0,x0),(1,x1),(4,x4),(12,x12),(13,x13)] h = bif plain2 x12 x13 then ((xbin P .leq 3 x12 x13 h).ok1 fun t47 h => ifV t47 ((xindexAddr P 27 x0 x12 h).ok1 fun t48 h => (xload P 3 t48 h).ok1 fun t49 h => (xindexAddr P 27 x0 x1 h).ok1 fun t50 h => (xload P 3 t50 h).ok1 fun t51 h => (xcallV cl x4 [t49,t51] h).go .pan fun t52 h => bif plain2 t52 (.int .i64 0) then ((xbin P .lss 3 t52 (.int .i64 0) h).ok1 fun t53 h => ifV t53 ((xbin P .add 3 x12 (.int .i64 1) h).go .pan fun t54 h => (l13_1 P cl nu nu x0 x1 x4 t54 x13 h)) (j15 P cl nu nu x0 x1 x4 x12 x13 h)) else .bad) (j15 P cl nu nu x0 x1 x4 x12 x13 h)) else .bad := by kernel_rfl
def l13_1_eq := @id (l13_1 P cl nu0 nu0 x0 x1 x4 x12 x13 h = _) (lpN (l13_1n P cl nu0 x0 x1 x4 x12 x13 h))
theorem j15_eq : j15 P cl nu nu0 x0 x1 x4 x12 x13 h = l15 P cl nu nu x0 x1 x4 x12 x13 h := by kernel_rfl
theorem l15n : evT P cl an68 nu (s [1,1,1,1,1,1,1,1,1,0,0,0,0,1,0,0,0]) (kL P cl nu an68 31 [0,1,4,12,13] (s [1,1,1,1,1,1,1,1,1,0,0,0,0,1,0,0,0]) (k19 P cl nu)) [(0,x0),(1,x1),(4,x4),(12,x12),(13,x13)] h = bif plain2 x12 x13 then ((xbin P .leq 3 x12 x13 h).ok1 fun t55 h => ifV t55 ((xindexAddr P 27 x0 x13 h).ok1 fun t56 h => (xload P 3 t56 h).ok1 fun t57 h => (xindexAddr P 27 x0 x1 h).ok1 fun t58 h => (xload P 3 t58 h).ok1 fun t59 h => (xcallV cl x4 [t57,t59] h).go .pan fun t60 h => bif plain2 t60 (.int .i64 0) then ((xbin P .lss 3 t60 (.int .i64 0) h).ok1 fun t61 h => (xun P .not t61 h).ok1 fun t62 h => ifV t62 ((xbin P .sub 3 x13 (.int .i64 1) h).go .pan fun t63 h => (l15 P cl nu nu x0 x1 x4 x12 t63 h)) (j17 P cl nu nu x0 x1 x4 x12 x13 h)) else .bad) (j17 P cl nu nu x0 x1 x4 x12 x13 h)) else .bad := by kernel_rfl
def l15_eq := @id (l15 P cl nu0 nu0 x0 x1 x4 x12 x13 h = _) (lpN (l15n P cl nu0 x0 x1 x4 x12 x13 h))
theorem j17_eq : j17 P cl nu nu0 x0 x1 x4 x12 x13 h = (xbin P .gtr 3 x12 x13 h).go .pan fun t64 h => ifV t64 (j21 P cl nu nu x0 x1 x13 h) (j18 P cl nu nu x0 x1 x4 x12 x13 h) := by kernel_rfl
theorem j21_eq : j21 P cl nu nu0 x0 x1 x13 h = (xindexAddr P 27 x0 x1 h).ok1 fun t65 h => (xload P 3 t65 h).ok1 fun t66 h => (xindexAddr P 27 x0 x13 h).ok1 fun t67 h => (xload P 3 t67 h).ok1 fun t68 h => (xindexAddr P 27 x0 x13 h).ok1 fun t69 h => (xstore P 3 t69 t66 h).go .pan fun t70 h => (xindexAddr P 27 x0 x1 h).ok1 fun t71 h => (xstore P 3 t71 t68 h).go .pan fun t72 h => .ok (.tuple ⟨[x13,(.bool false)]⟩) h := by kernel_rfl
theorem j18_eq : j18 P cl nu nu0 x0 x1 x4 x12 x13 h = (xindexAddr P 27 x0 x13 h).ok1 fun t73 h => (xload P 3 t73 h).ok1 fun t74 h => (xindexAddr P 27 x0 x12 h).ok1 fun t75 h => (xload P 3 t75 h).ok1 fun t76 h => (xindexAddr P 27 x0 x12 h).ok1 fun t77 h => (xstore P 3 t77 t74 h).go .pan fun t78 h => (xindexAddr P 27 x0 x13 h).ok1 fun t79 h => (xstore P 3 t79 t76 h).go .pan fun t80 h => (xbin P .add 3 x12 (.int .i64 1) h).go .pan fun t81 h => (xbin P .sub 3 x13 (.int .i64 1) h).go .pan fun t82 h => (l13 P cl nu nu x0 x1 x4 t81 t82 h) := by kernel_rfl
theorem eq : runX P cl nu an68 Try.f68 [x0,x1,x2,x3,x4] h = (xindexAddr P 27 x0 x3 h).ok1 fun t1 h => (xload P 3 t1 h).ok1 fun t2 h => (xindexAddr P 27 x0 x1 h).ok1 fun t3 h => (xload P 3 t3 h).ok1 fun t4 h => (xindexAddr P 27 x0 x1 h).ok1 fun t5 h => (xstore P 3 t5 t2 h).go .pan fun t6 h => (xindexAddr P 27 x0 x3 h).ok1 fun t7 h => (xstore P 3 t7 t4 h).go .pan fun t8 h => (xbin P .add 3 x1 (.int .i64 1) h).go .pan fun t9 h => (xbin P .sub 3 x2 (.int .i64 1) h).go .pan fun t10 h => (l3 P cl nu nu x0 x1 x4 t9 t10 h) := by kernel_rfl
end
end F68
namespace F75
noncomputable section
variable (P : Program) (cl : Cl) (nu mu : Nu) (x0 x1 x2 x3 x4 x10 x11 : Value) (h : H)
noncomputable def s := sub (bodyOf Try.f75)
noncomputable def k0 : Ko := kfn P Try.f75.results.toList
noncomputable def k1 : Ko := kblk 0 (k0 P)
def l1 := mu 3 (lC P cl nu an75 [0,2,3,4,10] (s [1,0,0]) (k1 P)) [(0,x0),(2,x2),(3,x3),(4,x4),(10,x10)] h
def k2 : Ko := kL P cl nu an75 3 [0,2,3,4,10] (s [1,0,0]) (k1 P)
def k3 : Ko := kblk 1 (k2 P cl nu)
def j3 := mu 6 (evT P cl an75 nu (s [1,0,0,0,1,1]) (k3 P cl nu)) [(0,x0),(2,x2),(3,x3),(4,x4),(10,x10),(11,x11)] h
def j5 := mu 10 (evT P cl an75 nu (s [1,0,0,0,1,1,1]) (k3 P cl nu)) [(0,x0),(2,x2),(3,x3),(4,x4),(10,x10),(11,x11)] h
def j6 := mu 12 (evT P cl an75 nu (s [1,0,0,0,1,1,1,1]) (k3 P cl nu)) [(0,x0),(2,x2),(3,x3),(4,x4),(10,x10),(11,x11)] h
theorem l1n : evT P cl an75 nu (s [1,0,0]) (kL P cl nu an75 3 [0,2,3,4,10] (s [1,0,0]) (k1 P)) [(0,x0),(2,x2),(3,x3),(4,x4),(10,x10)] h = (xbin P .mul 3 (.int .i64 2) x10 h).go .pan fun t1 h => (xbin P .add 3 t1 (.int .i64 1) h).go .pan fun t2 h => (xbin P .geq 3 t2 x2 h).go .pan fun t3 h => ifV t3 (.ok (.tuple ⟨[]⟩) h) (j3 P cl nu nu x0 x2 x3 x4 x10 t2 h) := by kernel_rfl
def l1_eq := @id (l1 P cl nu0 nu0 x0 x2 x3 x4 x10 h = _) (lpN (l1n P cl nu0 x0 x2 x3 x4 x10 h))
theorem j3_eq : j3 P cl nu nu0 x0 x2 x3 x4 x10 x11 h = bif plain2 x11 (.int .i64 1) then ((xbin P .add 3 x11 (.int .i64 1) h).ok1 fun t4 h => bif plain2 t4 x2 then ((xbin P .lss 3 t4 x2 h).ok1 fun t5 h => ifV t5 (bif plain2 x3 x11 then ((xbin P .add 3 x3 x11 h).ok1 fun t6 h => (xindexAddr P 27 x0 t6 h).ok1 fun t7 h => (xload P 3 t7 h).ok1 fun t8 h => bif plain2 x3 x11 then ((xbin P .add 3 x3 x11 h).ok1 fun t9 h => bif plain2 t9 (.int .i64 1) then ((xbin P .add 3 t9 (.int .i64 1) h).ok1 fun t10 h => (xindexAddr P 27 x0 t10 h).ok1 fun t11 h => (xload P 3 t11 h).ok1 fun t12 h => (xcallV cl x4 [t8,t12] h).go .pan fun t13 h => bif plain2 t13 (.int .i64 0) then ((xbin P .lss 3 t13 (.int .i64 0) h).ok1 fun t14 h => ifV t14 ((xbin P .add 3 x11 (.int .i64 1) h).go .pan fun t15 h => (j5 P cl nu nu x0 x2 x3 x4 x10 t15 h)) (j5 P cl nu nu x0 x2 x3 x4 x10 x11 h)) else .bad) else .bad) else .bad) else .bad) (j5 P cl nu nu x0 x2 x3 x4 x10 x11 h)) else .bad) else .bad := by kernel_rfl
theorem j5_eq : j5 P cl nu nu0 x0 x2 x3 x4 x10 x11 h = bif plain2 x3 x10 then ((xbin P .add 3 x3 x10 h).ok1 fun t16 h => (xindexAddr P 27 x0 t16 h).ok1 fun t17 h => (xload P 3 t17 h).ok1 fun t18 h => bif plain2 x3 x11 then ((xbin P .add 3 x3 x11 h).ok1 fun t19 h => (xindexAddr P 27 x0 t19 h).ok1 fun t20 h => (xload P 3 t20 h).ok1 fun t21 h => (xcallV cl x4 [t18,t21] h).go .pan fun t22 h => bif plain2 t22 (.int .i64 0) then ((xbin P .lss 3 t22 (.int .i64 0) h).ok1 fun t23 h => (xun P .not t23 h).ok1 fun t24 h => ifV t24 (.ok (.tuple ⟨[]⟩) h) (j6 P cl nu nu x0 x2 x3 x4 x10 x11 h)) else .bad) else .bad) else .bad := by kernel_rfl
theorem j6_eq : j6 P cl nu nu0 x0 x2 x3 x4 x10 x11 h = bif plain2 x3 x10 then ((xbin P .add 3 x3 x10 h).ok1 fun t25 h => bif plain2 x3 x11 then ((xbin P .add 3 x3 x11 h).ok1 fun t26 h => bif plain2 x3 x11 then ((xbin P .add 3 x3 x11 h).ok1 fun t27 h => (xindexAddr P 27 x0 t27 h).ok1 fun t28 h => (xload P 3 t28 h).ok1 fun t29 h => bif plain2 x3 x10 then ((xbin P .add 3 x3 x10 h).ok1 fun t30 h => (xindexAddr P 27 x0 t30 h).ok1 fun t31 h => (xload P 3 t31 h).ok1 fun t32 h => (xindexAddr P 27 x0 t25 h).ok1 fun t33 h => (xstore P 3 t33 t29 h).go .pan fun t34 h => (xindexAddr P 27 x0 t26 h).ok1 fun t35 h => (xstore P 3 t35 t32 h).go .pan fun t36 h => (l1 P cl nu nu x0 x2 x3 x4 x11 h)) else .bad) else .bad) else .bad) else .bad := by kernel_rfl
theorem eq : runX P cl nu an75 Try.f75 [x0,x1,x2,x3,x4] h = l1 P cl nu nu x0 x2 x3 x4 x1 h := by kernel_rfl
end
end F75
namespace F76
noncomputable section
variable (P : Program) (cl : Cl) (nu mu : Nu) (x0 : Value) (h : H)
theorem eq : runX P cl nu an76 Try.f76 [x0] h = (xconvert P 3 95 x0 h).go .pan fun t1 h => (cl (.f 50) [t1] h).go .pan fun t2 h => (xbin P .shl 95 (.int .u64 1) t2 h).go .pan fun t3 h => .ok t3 h := by kernel_rfl
end
end F76
namespace F77
noncomputable section
variable (P : Program) (cl : Cl) (nu mu : Nu) (x0 : Value) (h : H)
theorem eq : runX P cl nu an77 Try.f77 [x0] h = (xnilCheck x0 h).ok1 fun t1 h => (xload P 114 t1 h).ok1 fun t2 h => (xnilCheck x0 h).ok1 fun t3 h => (xload P 114 t3 h).ok1 fun t4 h => bif plain2 t4 (.int .u64 13) then ((xbin P .shl 114 t4 (.int .u64 13) h).ok1 fun t5 h => bif plain2 t2 t5 then ((xbin P .xor 114 t2 t5 h).ok1 fun t6 h => (xnilCheck x0 h).ok1 fun t7 h => (xstore P 114 t7 t6 h).go .pan fun t8 h => (xnilCheck x0 h).ok1 fun t9 h => (xload P 114 t9 h).ok1 fun t10 h => (xnilCheck x0 h).ok1 fun t11 h => (xload P 114 t11 h).ok1 fun t12 h => bif plain2 t12 (.int .u64 7) then ((xbin P .shr 114 t12 (.int .u64 7) h).ok1 fun t13 h => bif plain2 t10 t13 then ((xbin P .xor 114 t10 t13 h).ok1 fun t14 h => (xnilCheck x0 h).ok1 fun t15 h => (xstore P 114 t15 t14 h).go .pan fun t16 h => (xnilCheck x0 h).ok1 fun t17 h => (xload P 114 t17 h).ok1 fun t18 h => (xnilCheck x0 h).ok1 fun t19 h => (xload P 114 t19 h).ok1 fun t20 h => bif plain2 t20 (.int .u64 17) then ((xbin P .shl 114 t20 (.int .u64 17) h).ok1 fun t21 h => bif plain2 t18 t21 then ((xbin P .xor 114 t18 t21 h).ok1 fun t22 h => (xnilCheck x0 h).ok1 fun t23 h => (xstore P 114 t23 t22 h).go .pan fun t24 h => (xnilCheck x0 h).go .pan fun t25 h => (xload P 114 t25 h).go .pan fun t26 h => .ok t26 h) else .bad) else .bad) else .bad) else .bad) else .bad) else .bad := by kernel_rfl
end
end F77
namespace F78
noncomputable section
variable (P : Program) (cl : Cl) (nu mu : Nu) (x0 x1 x2 x3 : Value) (h : H)
theorem eq : runX P cl nu an78 Try.f78 [x0,x1,x2,x3] h = (xbin P .sub 3 x1 (.int .i64 1) h).go .pan fun t1 h => (xbin P .add 3 x1 (.int .i64 1) h).go .pan fun t2 h => (cl (.f 79) [x0,t1,x1,t2,x2,x3] h).go .pan fun t3 h => .ok t3 h := by kernel_rfl
end
end F78
namespace F79
noncomputable section
variable (P : Program) (cl : Cl) (nu mu : Nu) (x0 x1 x2 x3 x4 x5 : Value) (h : H)
theorem eq : runX P cl nu an79 Try.f79 [x0,x1,x2,x3,x4,x5] h = (cl (.f 90) [x0,x1,x2,x4,x5] h).go .pan fun t1 h => (xextract t1 0 h).go .pan fun t2 h => (xextract t1 1 h).go .pan fun t3 h => (cl (.f 90) [x0,t3,x3,x4,x5] h).go .pan fun t4 h => (xextract t4 0 h).go .pan fun t5 h => (xextract t4 1 h).go .pan fun t6 h => (cl (.f 90) [x0,t2,t5,x4,x5] h).go .pan fun t7 h => (xextract t7 0 h).go .pan fun t8 h => (xextract t7 1 h).go .pan fun t9 h => .ok t9 h := by kernel_rfl
end
end F79
namespace F90
noncomputable section
variable (P : Program) (cl : Cl) (nu mu : Nu) (x0 x1 x2 x3 x4 : Value) (h : H)
theorem eq : runX P cl nu an90 Try.f90 [x0,x1,x2,x3,x4] h = (xindexAddr P 27 x0 x2 h).ok1 fun t1 h => (xload P 3 t1 h).ok1 fun t2 h => (xindexAddr P 27 x0 x1 h).ok1 fun t3 h => (xload P 3 t3 h).ok1 fun t4 h => (xcallV cl x4 [t2,t4] h).go .pan fun t5 h => bif plain2 t5 (.int .i64 0) then ((xbin P .lss 3 t5 (.int .i64 0) h).ok1 fun t6 h => ifV t6 ((xnilCheck x3 h).go .pan fun t7 h => (xload P 3 t7 h).go .pan fun t8 h => (xbin P .add 3 t8 (.int .i64 1) h).go .pan fun t9 h => (xnilCheck x3 h).go .pan fun t10 h => (xstore P 3 t10 t9 h).go .pan fun t11 h => .ok (.tuple ⟨[x2,x1]⟩) h) (.ok (.tuple ⟨[x1,x2]⟩) h)) else .bad := by kernel_rfl
end
end F90
namespace F73
noncomputable section
variable (P : Program) (cl : Cl) (nu mu : Nu) (x0 x1 x2 x3 x8 x9 x10 x11 x12 x63 x66 x67 : Value) (h : H)
noncomputable def s := sub (bodyOf Try.f73)
noncomputable def k0 : Ko := kfn P Try.f73.results.toList
noncomputable def k1 : Ko := kblk 0 (k0 P)
def l2 := mu 5 (lC P cl nu an73 [0,1,2,3,8,9] (s [1,1,0,0]) (k1 P)) [(0,x0),(1,x1),(2,x2),(3,x3),(8,x8),(9,x9)] h
def k2 : Ko := kL P cl nu an73 5 [0,1,2,3,8,9] (s [1,1,0,0]) (k1 P)
def k3 : Ko := kblk 1 (k2 P cl nu)
def j5 := mu 10 (evT P cl an73 nu (s [1,1,0,0,0,1,1]) (k3 P cl nu)) [(0,x0),(1,x1),(2,x2),(3,x3),(8,x8),(9,x9),(10,x10)] h
def j7 := mu 14 (evT P cl an73 nu (s [1,1,0,0,0,1,1,1]) (k3 P cl nu)) [(0,x0),(1,x1),(2,x2),(3,x3),(8,x8),(9,x9),(10,x10)] h
def j10 := mu 20 (evT P cl an73 nu (s [1,1,0,0,0,1,1,1,1]) (k3 P cl nu)) [(0,x0),(1,x1),(2,x2),(3,x3),(8,x8),(9,x9),(10,x10)] h
def j15 := mu 30 (evT P cl an73 nu (s [1,1,0,0,0,1,1,1,1,1,1]) (k3 P cl nu)) [(0,x0),(1,x1),(2,x2),(3,x3),(8,x8),(9,x9),(10,x10),(11,x11),(12,x12)] h
def j17 := mu 34 (evT P cl an73 nu (s [1,1,0,0,0,1,1,1,1,1,1,1]) (k3 P cl nu)) [(0,x0),(1,x1),(2,x2),(3,x3),(8,x8),(9,x9),(10,x10),(11,x11),(63,x63),(66,x66),(67,x67)] h
def j20 := mu 40 (evT P cl an73 nu (s [1,1,0,0,0,1,1,1,1,1,1,1,1]) (k3 P cl nu)) [(0,x0),(1,x1),(2,x2),(3,x3),(10,x10),(11,x11),(63,x63),(66,x66),(67,x67)] h
theorem l2n : evT P cl an73 nu (s [1,1,0,0]) (kL P cl nu an73 5 [0,1,2,3,8,9] (s [1,1,0,0]) (k1 P)) [(0,x0),(1,x1),(2,x2),(3,x3),(8,x8),(9,x9)] h = (xbin P .sub 3 x2 x1 h).go .pan fun t1 h => (xbin P .leq 3 t1 (.int .i64 12) h).go .pan fun t2 h => ifV t2 ((cl (.f 80) [x0,x1,x2] h).go .pan fun t3 h => .ok (.tuple ⟨[]⟩) h) (j5 P cl nu nu x0 x1 x2 x3 x8 x9 t1 h) := by kernel_rfl
def l2_eq := @id (l2 P cl nu0 nu0 x0 x1 x2 x3 x8 x9 h = _) (lpN (l2n P cl nu0 x0 x1 x2 x3 x8 x9 h))
theorem j5_eq : j5 P cl nu nu0 x0 x1 x2 x3 x8 x9 x10 h = (xbin P .eql 3 x3 (.int .i64 0) h).go .pan fun t4 h => ifV t4 ((cl (.f 81) [x0,x1,x2] h).go .pan fun t5 h => .ok (.tuple ⟨[]⟩) h) (j7 P cl nu nu x0 x1 x2 x3 x8 x9 x10 h) := by kernel_rfl
theorem j7_eq : j7 P cl nu nu0 x0 x1 x2 x3 x8 x9 x10 h = (xun P .not x8 h).go .pan fun t6 h => ifV t6 ((cl (.f 82) [x0,x1,x2] h).go .pan fun t7 h => (xbin P .sub 3 x3 (.int .i64 1) h).go .pan fun t8 h => (j10 P cl nu nu x0 x1 x2 t8 x8 x9 x10 h)) (j10 P cl nu nu x0 x1 x2 x3 x8 x9 x10 h) := by kernel_rfl
theorem j10_eq : j10 P cl nu nu0 x0 x1 x2 x3 x8 x9 x10 h = (cl (.f 83) [x0,x1,x2] h).go .pan fun t9 h => (xextract t9 0 h).go .pan fun t10 h => (xextract t9 1 h).go .pan fun t11 h => (xbin P .eql 102 t11 (.int .i64 2) h).go .pan fun t12 h => ifV t12 ((cl (.f 84) [x0,x1,x2] h).go .pan fun t13 h => (xbin P .sub 3 x2 (.int .i64 1) h).go .pan fun t14 h => (xbin P .sub 3 t10 x1 h).go .pan fun t15 h => (xbin P .sub 3 t14 t15 h).go .pan fun t16 h => (j15 P cl nu nu x0 x1 x2 x3 x8 x9 x10 t16 (.int .i64 1) h)) (j15 P cl nu nu x0 x1 x2 x3 x8 x9 x10 t10 t11 h) := by kernel_rfl
theorem j15_eq : j15 P cl nu nu0 x0 x1 x2 x3 x8 x9 x10 x11 x12 h = ifV x8 (ifV x9 ((xbin P .eql 102 x12 (.int .i64 1) h).go .pan fun t17 h => ifV t17 ((cl (.f 85) [x0,x1,x2] h).go .pan fun t18 h => ifV t18 (.ok (.tuple ⟨[]⟩) h) (j17 P cl nu nu x0 x1 x2 x3 x8 x9 x10 x11 x9 x12 t17 h)) (j17 P cl nu nu x0 x1 x2 x3 x8 x9 x10 x11 x9 x12 t17 h)) (j17 P cl nu nu x0 x1 x2 x3 x8 x9 x10 x11 x9 (.tuple #[]) (.tuple #[]) h)) (j17 P cl nu nu x0 x1 x2 x3 x8 x9 x10 x11 (.tuple #[]) (.tuple #[]) (.tuple #[]) h) := by kernel_rfl
theorem j17_eq : j17 P cl nu nu0 x0 x1 x2 x3 x8 x9 x10 x11 x63 x66 x67 h = bif plain2 x1 (.int .i64 0) then ((xbin P .gtr 3 x1 (.int .i64 0) h).ok1 fun t19 h => ifV t19 (bif plain2 x1 (.int .i64 1) then ((xbin P .sub 3 x1 (.int .i64 1) h).ok1 fun t20 h => (xindexAddr P 27 x0 t20 h).ok1 fun t21 h => (xload P 3 t21 h).ok1 fun t22 h => (xindexAddr P 27 x0 x11 h).ok1 fun t23 h => (xload P 3 t23 h).ok1 fun t24 h => (cl (.f 86) [t22,t24] h).go .pan fun t25 h => (xun P .not t25 h).ok1 fun t26 h => ifV t26 ((cl (.f 87) [x0,x1,x2,x11] h).go .pan fun t27 h => (l2 P cl nu nu x0 t27 x2 x3 x8 x9 h)) (j20 P cl nu nu x0 x1 x2 x3 x10 x11 x63 x66 x67 h)) else .bad) (j20 P cl nu nu x0 x1 x2 x3 x10 x11 x63 x66 x67 h)) else .bad := by kernel_rfl
theorem j20_eq : j20 P cl nu nu0 x0 x1 x2 x3 x10 x11 x63 x66 x67 h = (cl (.f 88) [x0,x1,x2,x11] h).go .pan fun t28 h => (xextract t28 0 h).go .pan fun t29 h => (xextract t28 1 h).go .pan fun t30 h => (xbin P .sub 3 t29 x1 h).go .pan fun t31 h => (xbin P .sub 3 x2 t29 h).go .pan fun t32 h => (xbin P .quo 3 x10 (.int .i64 8) h).go .pan fun t33 h => (xbin P .lss 3 t31 t32 h).go .pan fun t34 h => ifV t34 ((xbin P .geq 3 t31 t33 h).go .pan fun t35 h => (cl (.f 73) [x0,x1,t29,x3] h).go .pan fun t36 h => (xbin P .add 3 t29 (.int .i64 1) h).go .pan fun t37 h => (l2 P cl nu nu x0 t37 x2 x3 t35 t30 h)) ((xbin P .geq 3 t32 t33 h).go .pan fun t38 h => (xbin P .add 3 t29 (.int .i64 1) h).go .pan fun t39 h => (cl (.f 73) [x0,t39,x2,x3] h).go .pan fun t40 h => (l2 P cl nu nu x0 x1 t29 x3 t38 t30 h)) := by kernel_rfl
theorem eq : runX P cl nu an73 Try.f73 [x0,x1,x2,x3] h = l2 P cl nu nu x0 x1 x2 x3 (.bool true) (.bool true) h := by kernel_rfl
end
end F73
namespace F80
noncomputable section
variable (P : Program) (cl : Cl) (nu mu : Nu) (x0 x1 x2 x6 x7 : Value) (h : H)
noncomputable def s := sub (bodyOf Try.f80)
noncomputable def k0 : Ko := kfn P Try.f80.results.toList
noncomputable def k1 : Ko := kblk 0 (k0 P)
def l1 := mu 3 (lC P cl nu an80 [0,1,2,6] (s [1,0,0]) (k1 P)) [(0,x0),(1,x1),(2,x2),(6,x6)] h
def k2 : Ko := kL P cl nu an80 3 [0,1,2,6] (s [1,0,0]) (k1 P)
def j3 := mu 6 (evT P cl an80 nu (s [1,0,0,1]) (k2 P cl nu)) [(0,x0),(1,x1),(2,x2),(6,x6)] h
def k4 : Ko := kC P cl nu an80 (s [1,0,0,1,1]) (k2 P cl nu)
def k5 : Ko := kblk 1 (k4 P cl nu)
def k6 : Ko := kblk 2 (k5 P cl nu)
def l4 := mu 9 (lC P cl nu an80 [0,1,2,6,7] (s [1,0,0,1,0,0,1,0,0]) (k6 P cl nu)) [(0,x0),(1,x1),(2,x2),(6,x6),(7,x7)] h
def k7 : Ko := kL P cl nu an80 9 [0,1,2,6,7] (s [1,0,0,1,0,0,1,0,0]) (k6 P cl nu)
def j6 := mu 12 (evT P cl an80 nu (s [1,0,0,1,0,0,1,0,0,1]) (k7 P cl nu)) [(0,x0),(1,x1),(2,x2),(6,x6),(7,x7)] h
def j2 := mu 4 (evT P cl an80 nu (s [1,0,0,1,1]) (k2 P cl nu)) [(0,x0),(1,x1),(2,x2),(6,x6)] h
theorem l1n : evT P cl an80 nu (s [1,0,0]) (kL P cl nu an80 3 [0,1,2,6] (s [1,0,0]) (k1 P)) [(0,x0),(1,x1),(2,x2),(6,x6)] h = (xbin P .lss 3 x6 x2 h).go .pan fun t2 h => ifV t2 (j3 P cl nu nu x0 x1 x2 x6 h) (.ok (.tuple ⟨[]⟩) h) := by kernel_rfl
def l1_eq := @id (l1 P cl nu0 nu0 x0 x1 x2 x6 h = _) (lpN (l1n P cl nu0 x0 x1 x2 x6 h))
theorem j3_eq : j3 P cl nu nu0 x0 x1 x2 x6 h = l4 P cl nu nu x0 x1 x2 x6 x6 h := by kernel_rfl
theorem l4n : evT P cl an80 nu (s [1,0,0,1,0,0,1,0,0]) (kL P cl nu an80 9 [0,1,2,6,7] (s [1,0,0,1,0,0,1,0,0]) (k6 P cl nu)) [(0,x0),(1,x1),(2,x2),(6,x6),(7,x7)] h = bif plain2 x7 x1 then ((xbin P .gtr 3 x7 x1 h).ok1 fun t3 h => ifV t3 ((xindexAddr P 27 x0 x7 h).ok1 fun t4 h => (xload P 3 t4 h).ok1 fun t5 h => bif plain2 x7 (.int .i64 1) then ((xbin P .sub 3 x7 (.int .i64 1) h).ok1 fun t6 h => (xindexAddr P 27 x0 t6 h).ok1 fun t7 h => (xload P 3 t7 h).ok1 fun t8 h => (cl (.f 86) [t5,t8] h).go .pan fun t9 h => ifV t9 (j6 P cl nu nu x0 x1 x2 x6 x7 h) (j2 P cl nu nu x0 x1 x2 x6 h)) else .bad) (j2 P cl nu nu x0 x1 x2 x6 h)) else .bad := by kernel_rfl
def l4_eq := @id (l4 P cl nu0 nu0 x0 x1 x2 x6 x7 h = _) (lpN (l4n P cl nu0 x0 x1 x2 x6 x7 h))
theorem j6_eq : j6 P cl nu nu0 x0 x1 x2 x6 x7 h = bif plain2 x7 (.int .i64 1) then ((xbin P .sub 3 x7 (.int .i64 1) h).ok1 fun t10 h => bif plain2 x7 (.int .i64 1) then ((xbin P .sub 3 x7 (.int .i64 1) h).ok1 fun t11 h => (xindexAddr P 27 x0 t11 h).ok1 fun t12 h => (xload P 3 t12 h).ok1 fun t13 h => (xindexAddr P 27 x0 x7 h).ok1 fun t14 h => (xload P 3 t14 h).ok1 fun t15 h => (xindexAddr P 27 x0 x7 h).ok1 fun t16 h => (xstore P 3 t16 t13 h).go .pan fun t17 h => (xindexAddr P 27 x0 t10 h).ok1 fun t18 h => (xstore P 3 t18 t15 h).go .pan fun t19 h => (xbin P .sub 3 x7 (.int .i64 1) h).go .pan fun t20 h => (l4 P cl nu nu x0 x1 x2 x6 t20 h)) else .bad) else .bad := by kernel_rfl
theorem j2_eq : j2 P cl nu nu0 x0 x1 x2 x6 h = (xbin P .add 3 x6 (.int .i64 1) h).go .pan fun t21 h => (l1 P cl nu nu x0 x1 x2 t21 h) := by kernel_rfl
theorem eq : runX P cl nu an80 Try.f80 [x0,x1,x2] h = (xbin P .add 3 x1 (.int .i64 1) h).go .pan fun t1 h => (l1 P cl nu nu x0 x1 x2 t1 h) := by kernel_rfl
end
end F80
namespace F81
noncomputable section
variable (P : Program) (cl : Cl) (nu mu : Nu) (x0 x1 x2 x6 x7 x8 x9 x10 : Value) (h : H)
noncomputable def s := sub (bodyOf Try.f81)
noncomputable def k0 : Ko := kfn P Try.f81.results.toList
def k1 : Ko := kC P cl nu an81 (s [1,1,1,1]) (k0 P)
def k2 : Ko := kblk 0 (k1 P cl nu)
def l4 := mu 9 (lC P cl nu an81 [0,6,7,8,9] (s [1,1,1,0,1,0,0]) (k2 P cl nu)) [(0,x0),(6,x6),(7,x7),(8,x8),(9,x9)] h
def j7 := mu 14 (evT P cl an81 nu (s [1,1,1,1]) (k0 P)) [(0,x0),(6,x6),(7,x7),(8,x8)] h
noncomputable def k6 : Ko := kblk 2 (k0 P)
def l8 := mu 17 (lC P cl nu an81 [0,6,7,10] (s [1,1,1,1,1,0,0]) (k6 P)) [(0,x0),(6,x6),(7,x7),(10,x10)] h
def k7 : Ko := kL P cl nu an81 17 [0,6,7,10] (s [1,1,1,1,1,0,0]) (k6 P)
def j10 := mu 20 (evT P cl an81 nu (s [1,1,1,1,1,0,0,1]) (k7 P cl nu)) [(0,x0),(6,x6),(7,x7),(10,x10)] h
theorem l4n : evT P cl an81 nu (s [1,1,1,0,1,0,0]) (kL P cl nu an81 9 [0,6,7,8,9] (s [1,1,1,0,1,0,0]) (k2 P cl nu)) [(0,x0),(6,x6),(7,x7),(8,x8),(9,x9)] h = (xbin P .geq 3 x9 (.int .i64 0) h).go .pan fun t4 h => ifV t4 ((cl (.f 91) [x0,x9,x8,x6] h).go .pan fun t5 h => (xbin P .sub 3 x9 (.int .i64 1) h).go .pan fun t6 h => (l4 P cl nu nu x0 x6 x7 x8 t6 h)) (j7 P cl nu nu x0 x6 x7 x8 h) := by kernel_rfl
def l4_eq := @id (l4 P cl nu0 nu0 x0 x6 x7 x8 x9 h = _) (lpN (l4n P cl nu0 x0 x6 x7 x8 x9 h))
theorem j7_eq : j7 P cl nu nu0 x0 x6 x7 x8 h = (xbin P .sub 3 x8 (.int .i64 1) h).go .pan fun t7 h => (l8 P cl nu nu x0 x6 x7 t7 h) := by kernel_rfl
theorem l8n : evT P cl an81 nu (s [1,1,1,1,1,0,0]) (kL P cl nu an81 17 [0,6,7,10] (s [1,1,1,1,1,0,0]) (k6 P)) [(0,x0),(6,x6),(7,x7),(10,x10)] h = (xbin P .geq 3 x10 (.int .i64 0) h).go .pan fun t8 h => ifV t8 (j10 P cl nu nu x0 x6 x7 x10 h) (.ok (.tuple ⟨[]⟩) h) := by kernel_rfl
def l8_eq := @id (l8 P cl nu0 nu0 x0 x6 x7 x10 h = _) (lpN (l8n P cl nu0 x0 x6 x7 x10 h))
theorem j10_eq : j10 P cl nu nu0 x0 x6 x7 x10 h = bif plain2 x6 x10 then ((xbin P .add 3 x6 x10 h).ok1 fun t9 h => bif plain2 x6 x10 then ((xbin P .add 3 x6 x10 h).ok1 fun t10 h => (xindexAddr P 27 x0 t10 h).ok1 fun t11 h => (xload P 3 t11 h).ok1 fun t12 h => (xindexAddr P 27 x0 x6 h).ok1 fun t13 h => (xload P 3 t13 h).ok1 fun t14 h => (xindexAddr P 27 x0 x6 h).ok1 fun t15 h => (xstore P 3 t15 t12 h).go .pan fun t16 h => (xindexAddr P 27 x0 t9 h).ok1 fun t17 h => (xstore P 3 t17 t14 h).go .pan fun t18 h => (cl (.f 91) [x0,x7,x10,x6] h).go .pan fun t19 h => (xbin P .sub 3 x10 (.int .i64 1) h).go .pan fun t20 h => (l8 P cl nu nu x0 x6 x7 t20 h)) else .bad) else .bad := by kernel_rfl
theorem eq : runX P cl nu an81 Try.f81 [x0,x1,x2] h = (xbin P .sub 3 x2 x1 h).go .pan fun t1 h => (xbin P .sub 3 t1 (.int .i64 1) h).go .pan fun t2 h => (xbin P .quo 3 t2 (.int .i64 2) h).go .pan fun t3 h => (l4 P cl nu nu x0 x1 (.int .i64 0) t1 t3 h) := by kernel_rfl
end
end F81
namespace F82
noncomputable section
variable (P : Program) (cl : Cl) (nu mu : Nu) (x0 x1 x2 x6 x7 x8 x9 x10 : Value) (h : H)
noncomputable def s := sub (bodyOf Try.f82)
noncomputable def k0 : Ko := kfn P Try.f82.results.toList
noncomputable def k1 : Ko := kblk 0 (k0 P)
def l5 := mu 11 (lC P cl nu an82 [0,1,6,7,8,9] (s [1,1,0,1,1,1,0,0]) (k1 P)) [(0,x0),(1,x1),(6,x6),(7,x7),(8,x8),(9,x9)] h
def k2 : Ko := kL P cl nu an82 11 [0,1,6,7,8,9] (s [1,1,0,1,1,1,0,0]) (k1 P)
def j7 := mu 14 (evT P cl an82 nu (s [1,1,0,1,1,1,0,0,1]) (k2 P cl nu)) [(0,x0),(1,x1),(6,x6),(7,x7),(8,x8),(9,x9)] h
def k4 : Ko := kC P cl nu an82 (s [1,1,0,1,1,1,0,0,1,1]) (k2 P cl nu)
def k5 : Ko := kblk 1 (k4 P cl nu)
def j10 := mu 20 (evT P cl an82 nu (s [1,1,0,1,1,1,0,0,1,0,0,1,1]) (k5 P cl nu)) [(0,x0),(1,x1),(6,x6),(7,x7),(8,x8),(9,x9),(10,x10)] h
theorem l5n : evT P cl an82 nu (s [1,1,0,1,1,1,0,0]) (kL P cl nu an82 11 [0,1,6,7,8,9] (s [1,1,0,1,1,1,0,0]) (k1 P)) [(0,x0),(1,x1),(6,x6),(7,x7),(8,x8),(9,x9)] h = (xbin P .quo 3 x6 (.int .i64 4) h).go .pan fun t11 h => (xbin P .mul 3 t11 (.int .i64 2) h).go .pan fun t12 h => (xbin P .add 3 x1 t12 h).go .pan fun t13 h => (xbin P .add 3 t13 (.int .i64 1) h).go .pan fun t14 h => (xbin P .leq 3 x9 t14 h).go .pan fun t15 h => ifV t15 (j7 P cl nu nu x0 x1 x6 x7 x8 x9 h) (.ok (.tuple ⟨[]⟩) h) := by kernel_rfl
def l5_eq := @id (l5 P cl nu0 nu0 x0 x1 x6 x7 x8 x9 h = _) (lpN (l5n P cl nu0 x0 x1 x6 x7 x8 x9 h))
theorem j7_eq : j7 P cl nu nu0 x0 x1 x6 x7 x8 x9 h = (cl (.f 77) [x7] h).go .pan fun t16 h => (xbin P .sub 95 x8 (.int .u64 1) h).go .pan fun t17 h => (xbin P .and 95 t16 t17 h).go .pan fun t18 h => (xconvert P 95 3 t18 h).go .pan fun t19 h => (xbin P .geq 3 t19 x6 h).go .pan fun t20 h => ifV t20 ((xbin P .sub 3 t19 x6 h).go .pan fun t21 h => (j10 P cl nu nu x0 x1 x6 x7 x8 x9 t21 h)) (j10 P cl nu nu x0 x1 x6 x7 x8 x9 t19 h) := by kernel_rfl
theorem j10_eq : j10 P cl nu nu0 x0 x1 x6 x7 x8 x9 x10 h = bif plain2 x1 x10 then ((xbin P .add 3 x1 x10 h).ok1 fun t22 h => bif plain2 x1 x10 then ((xbin P .add 3 x1 x10 h).ok1 fun t23 h => (xindexAddr P 27 x0 t23 h).ok1 fun t24 h => (xload P 3 t24 h).ok1 fun t25 h => (xindexAddr P 27 x0 x9 h).ok1 fun t26 h => (xload P 3 t26 h).ok1 fun t27 h => (xindexAddr P 27 x0 x9 h).ok1 fun t28 h => (xstore P 3 t28 t25 h).go .pan fun t29 h => (xindexAddr P 27 x0 t22 h).ok1 fun t30 h => (xstore P 3 t30 t27 h).go .pan fun t31 h => (xbin P .add 3 x9 (.int .i64 1) h).go .pan fun t32 h => (l5 P cl nu nu x0 x1 x6 x7 x8 t32 h)) else .bad) else .bad := by kernel_rfl
theorem eq : runX P cl nu an82 Try.f82 [x0,x1,x2] h = (xbin P .sub 3 x2 x1 h).go .pan fun t1 h => (xbin P .geq 3 t1 (.int .i64 8) h).go .pan fun t2 h => ifV t2 ((xconvert P 3 114 t1 h).go .pan fun t3 h => (xalloc P 114 h).go .pan fun t4 h => (xstore P 114 t4 t3 h).go .pan fun t5 h => (cl (.f 76) [t1] h).go .pan fun t6 h => (xbin P .quo 3 t1 (.int .i64 4) h).go .pan fun t7 h => (xbin P .mul 3 t7 (.int .i64 2) h).go .pan fun t8 h => (xbin P .add 3 x1 t8 h).go .pan fun t9 h => (xbin P .sub 3 t9 (.int .i64 1) h).go .pan fun t10 h => (l5 P cl nu nu x0 x1 t1 t4 t6 t10 h)) (.ok (.tuple ⟨[]⟩) h) := by kernel_rfl
end
end F82
namespace F83
noncomputable section
variable (P : Program) (cl : Cl) (nu mu : Nu) (x0 x1 x2 x9 x11 : Value) (h : H)
noncomputable def s := sub (bodyOf Try.f83)
noncomputable def k0 : Ko := kfn P Try.f83.results.toList
def j12 := mu 24 (evT P cl an83 nu (s [1,1,1,1,1,1,1]) (k0 P)) [(9,x9),(11,x11)] h
theorem j12_eq : j12 P cl nu nu0 x9 x11 h = (xload P 3 x9 h).go .pan fun t19 h => (xbin P .eql 3 t19 (.int .i64 0) h).go .pan fun t20 h => ifV t20 (.ok (.tuple ⟨[x11,(.int .i64 1)]⟩) h) ((xbin P .eql 3 t19 (.int .i64 12) h).go .pan fun t21 h => ifV t21 (.ok (.tuple ⟨[x11,(.int .i64 2)]⟩) h) (.ok (.tuple ⟨[x11,(.int .i64 0)]⟩) h)) := by kernel_rfl
theorem eq : runX P cl nu an83 Try.f83 [x0,x1,x2] h = (xbin P .sub 3 x2 x1 h).go .pan fun t1 h => (xalloc P 3 h).go .pan fun t2 h => (xbin P .quo 3 t1 (.int .i64 4) h).go .pan fun t3 h => (xbin P .mul 3 t3 (.int .i64 1) h).go .pan fun t4 h => (xbin P .add 3 x1 t4 h).go .pan fun t5 h => (xbin P .quo 3 t1 (.int .i64 4) h).go .pan fun t6 h => (xbin P .mul 3 t6 (.int .i64 2) h).go .pan fun t7 h => (xbin P .add 3 x1 t7 h).go .pan fun t8 h => (xbin P .quo 3 t1 (.int .i64 4) h).go .pan fun t9 h => (xbin P .mul 3 t9 (.int .i64 3) h).go .pan fun t10 h => (xbin P .add 3 x1 t10 h).go .pan fun t11 h => (xbin P .geq 3 t1 (.int .i64 8) h).go .pan fun t12 h => ifV t12 ((xbin P .geq 3 t1 (.int .i64 50) h).go .pan fun t13 h => ifV t13 ((cl (.f 92) [x0,t5,t2] h).go .pan fun t14 h => (cl (.f 92) [x0,t8,t2] h).go .pan fun t15 h => (cl (.f 92) [x0,t11,t2] h).go .pan fun t16 h => (cl (.f 93) [x0,t14,t15,t16,t2] h).go .pan fun t17 h => (j12 P cl nu nu t2 t17 h)) ((cl (.f 93) [x0,t5,t8,t11,t2] h).go .pan fun t18 h => (j12 P cl nu nu t2 t18 h))) (j12 P cl nu nu t2 t8 h) := by kernel_rfl
end
end F83
namespace F84
noncomputable section
variable (P : Program) (cl : Cl) (nu mu : Nu) (x0 x1 x2 x6 x7 : Value) (h : H)
noncomputable def s := sub (bodyOf Try.f84)
noncomputable def k0 : Ko := kfn P Try.f84.results.toList
noncomputable def k1 : Ko := kblk 0 (k0 P)
def l2 := mu 5 (lC P cl nu an84 [0,6,7] (s [1,1,0,0]) (k1 P)) [(0,x0),(6,x6),(7,x7)] h
def k2 : Ko := kL P cl nu an84 5 [0,6,7] (s [1,1,0,0]) (k1 P)
def j3 := mu 6 (evT P cl an84 nu (s [1,1,0,0,1]) (k2 P cl nu)) [(0,x0),(6,x6),(7,x7)] h
theorem l2n : evT P cl an84 nu (s [1,1,0,0]) (kL P cl nu an84 5 [0,6,7] (s [1,1,0,0]) (k1 P)) [(0,x0),(6,x6),(7,x7)] h = (xbin P .lss 3 x6 x7 h).go .pan fun t2 h => ifV t2 (j3 P cl nu nu x0 x6 x7 h) (.ok (.tuple ⟨[]⟩) h) := by kernel_rfl
def l2_eq := @id (l2 P cl nu0 nu0 x0 x6 x7 h = _) (lpN (l2n P cl nu0 x0 x6 x7 h))
theorem j3_eq : j3 P cl nu nu0 x0 x6 x7 h = (xindexAddr P 27 x0 x7 h).ok1 fun t3 h => (xload P 3 t3 h).ok1 fun t4 h => (xindexAddr P 27 x0 x6 h).ok1 fun t5 h => (xload P 3 t5 h).ok1 fun t6 h => (xindexAddr P 27 x0 x6 h).ok1 fun t7 h => (xstore P 3 t7 t4 h).go .pan fun t8 h => (xindexAddr P 27 x0 x7 h).ok1 fun t9 h => (xstore P 3 t9 t6 h).go .pan fun t10 h => (xbin P .add 3 x6 (.int .i64 1) h).go .pan fun t11 h => (xbin P .sub 3 x7 (.int .i64 1) h).go .pan fun t12 h => (l2 P cl nu nu x0 t11 t12 h) := by kernel_rfl
theorem eq : runX P cl nu an84 Try.f84 [x0,x1,x2] h = (xbin P .sub 3 x2 (.int .i64 1) h).go .pan fun t1 h => (l2 P cl nu nu x0 x1 t1 h) := by kernel_rfl
end
end F84
namespace F85
noncomputable section
variable (P : Program) (cl : Cl) (nu mu : Nu) (x0 x1 x2 x7 x8 x9 x10 : Value) (h : H)
noncomputable def s := sub (bodyOf Try.f85)
noncomputable def k0 : Ko := kfn P Try.f85.results.toList
def k1 : Ko := kC P cl nu an85 (s [1,1,1]) (k0 P)
def k2 : Ko := kblk 0 (k1 P cl nu)
def l3 := mu 7 (lC P cl nu an85 [0,1,2,7,8] (s [1,1,0,1,0,0]) (k2 P cl nu)) [(0,x0),(1,x1),(2,x2),(7,x7),(8,x8)] h
def k3 : Ko := kL P cl nu an85 7 [0,1,2,7,8] (s [1,1,0,1,0,0]) (k2 P cl nu)
def j5 := mu 10 (evT P cl an85 nu (s [1,1,0,1,0,0,1]) (k3 P cl nu)) [(0,x0),(1,x1),(2,x2),(7,x7),(8,x8)] h
def k5 : Ko := kC P cl nu an85 (s [1,1,0,1,0,0,1,1]) (k3 P cl nu)
def k6 : Ko := kblk 1 (k5 P cl nu)
def k7 : Ko := kC P cl nu an85 (s [1,1,0,1,0,0,1,0,0,1]) (k6 P cl nu)
def k8 : Ko := kblk 2 (k7 P cl nu)
def j24 := mu 48 (evT P cl an85 nu (s [1,1,1]) (k0 P)) [] h
def l5 := mu 11 (lC P cl nu an85 [0,1,2,7,8] (s [1,1,0,1,0,0,1,0,0,0,0,0]) (k8 P cl nu)) [(0,x0),(1,x1),(2,x2),(7,x7),(8,x8)] h
def j7 := mu 14 (evT P cl an85 nu (s [1,1,0,1,0,0,1,0,0,1]) (k6 P cl nu)) [(0,x0),(1,x1),(2,x2),(7,x7),(8,x8)] h
def j9 := mu 18 (evT P cl an85 nu (s [1,1,0,1,0,0,1,0,0,1,1]) (k6 P cl nu)) [(0,x0),(1,x1),(2,x2),(7,x7),(8,x8)] h
def j11 := mu 22 (evT P cl an85 nu (s [1,1,0,1,0,0,1,0,0,1,1,1]) (k6 P cl nu)) [(0,x0),(1,x1),(2,x2),(7,x7),(8,x8)] h
def k13 : Ko := kC P cl nu an85 (s [1,1,0,1,0,0,1,0,0,1,1,1,1,1]) (k6 P cl nu)
def k14 : Ko := kblk 4 (k13 P cl nu)
def l14 := mu 29 (lC P cl nu an85 [0,1,2,7,8,9] (s [1,1,0,1,0,0,1,0,0,1,1,1,1,0,1,0,1,0,0]) (k14 P cl nu)) [(0,x0),(1,x1),(2,x2),(7,x7),(8,x8),(9,x9)] h
def k15 : Ko := kL P cl nu an85 29 [0,1,2,7,8,9] (s [1,1,0,1,0,0,1,0,0,1,1,1,1,0,1,0,1,0,0]) (k14 P cl nu)
def j18 := mu 36 (evT P cl an85 nu (s [1,1,0,1,0,0,1,0,0,1,1,1,1,1]) (k6 P cl nu)) [(0,x0),(1,x1),(2,x2),(7,x7),(8,x8)] h
def k17 : Ko := kblk 6 (k6 P cl nu)
def j16 := mu 32 (evT P cl an85 nu (s [1,1,0,1,0,0,1,0,0,1,1,1,1,0,1,0,1,0,0,1]) (k15 P cl nu)) [(0,x0),(1,x1),(2,x2),(7,x7),(8,x8),(9,x9)] h
def k18 : Ko := kC P cl nu an85 (s [1,1,0,1,0,0,1,0,0,1,1,1,1,0,1,0,1,0,0,1,1]) (k15 P cl nu)
def k19 : Ko := kblk 5 (k18 P cl nu)
def l20 := mu 41 (lC P cl nu an85 [0,1,2,7,8,10] (s [1,1,0,1,0,0,1,0,0,1,1,1,1,1,1,0,1,0,0]) (k17 P cl nu)) [(0,x0),(1,x1),(2,x2),(7,x7),(8,x8),(10,x10)] h
def k21 : Ko := kL P cl nu an85 41 [0,1,2,7,8,10] (s [1,1,0,1,0,0,1,0,0,1,1,1,1,1,1,0,1,0,0]) (k17 P cl nu)
def j4 := mu 8 (evT P cl an85 nu (s [1,1,0,1,0,0,1,1]) (k3 P cl nu)) [(0,x0),(1,x1),(2,x2),(7,x7),(8,x8)] h
def j17 := mu 34 (evT P cl an85 nu (s [1,1,0,1,0,0,1,0,0,1,1,1,1,0,1,0,1,0,0,1,0,0,1]) (k19 P cl nu)) [(0,x0),(1,x1),(2,x2),(7,x7),(8,x8),(9,x9)] h
def j22 := mu 44 (evT P cl an85 nu (s [1,1,0,1,0,0,1,0,0,1,1,1,1,1,1,0,1,0,0,1]) (k21 P cl nu)) [(0,x0),(1,x1),(2,x2),(7,x7),(8,x8),(10,x10)] h
def k23 : Ko := kC P cl nu an85 (s [1,1,0,1,0,0,1,0,0,1,1,1,1,1,1,0,1,0,0,1,1]) (k21 P cl nu)
def k24 : Ko := kblk 7 (k23 P cl nu)
def j23 := mu 46 (evT P cl an85 nu (s [1,1,0,1,0,0,1,0,0,1,1,1,1,1,1,0,1,0,0,1,0,0,1]) (k24 P cl nu)) [(0,x0),(1,x1),(2,x2),(7,x7),(8,x8),(10,x10)] h
theorem l3n : evT P cl an85 nu (s [1,1,0,1,0,0]) (kL P cl nu an85 7 [0,1,2,7,8] (s [1,1,0,1,0,0]) (k2 P cl nu)) [(0,x0),(1,x1),(2,x2),(7,x7),(8,x8)] h = (xbin P .lss 3 x8 (.int .i64 5) h).go .pan fun t2 h => ifV t2 (j5 P cl nu nu x0 x1 x2 x7 x8 h) (j24 P cl nu nu h) := by kernel_rfl
def l3_eq := @id (l3 P cl nu0 nu0 x0 x1 x2 x7 x8 h = _) (lpN (l3n P cl nu0 x0 x1 x2 x7 x8 h))
theorem j5_eq : j5 P cl nu nu0 x0 x1 x2 x7 x8 h = l5 P cl nu nu x0 x1 x2 x7 x8 h := by kernel_rfl
theorem j24_eq : j24 P cl nu nu0 h = .ok (.bool false) h := by kernel_rfl
theorem l5n : evT P cl an85 nu (s [1,1,0,1,0,0,1,0,0,0,0,0]) (kL P cl nu an85 11 [0,1,2,7,8] (s [1,1,0,1,0,0,1,0,0,0,0,0]) (k8 P cl nu)) [(0,x0),(1,x1),(2,x2),(7,x7),(8,x8)] h = bif plain2 x7 x2 then ((xbin P .lss 3 x7 x2 h).ok1 fun t3 h => ifV t3 ((xindexAddr P 27 x0 x7 h).ok1 fun t4 h => (xload P 3 t4 h).ok1 fun t5 h => bif plain2 x7 (.int .i64 1) then ((xbin P .sub 3 x7 (.int .i64 1) h).ok1 fun t6 h => (xindexAddr P 27 x0 t6 h).ok1 fun t7 h => (xload P 3 t7 h).ok1 fun t8 h => (cl (.f 86) [t5,t8] h).go .pan fun t9 h => (xun P .not t9 h).ok1 fun t10 h => ifV t10 ((xbin P .add 3 x7 (.int .i64 1) h).go .pan fun t11 h => (l5 P cl nu nu x0 x1 x2 t11 x8 h)) (j7 P cl nu nu x0 x1 x2 x7 x8 h)) else .bad) (j7 P cl nu nu x0 x1 x2 x7 x8 h)) else .bad := by kernel_rfl
def l5_eq := @id (l5 P cl nu0 nu0 x0 x1 x2 x7 x8 h = _) (lpN (l5n P cl nu0 x0 x1 x2 x7 x8 h))
theorem j7_eq : j7 P cl nu nu0 x0 x1 x2 x7 x8 h = (xbin P .eql 3 x7 x2 h).go .pan fun t12 h => ifV t12 (.ok (.bool true) h) (j9 P cl nu nu x0 x1 x2 x7 x8 h) := by kernel_rfl
theorem j9_eq : j9 P cl nu nu0 x0 x1 x2 x7 x8 h = (xbin P .sub 3 x2 x1 h).go .pan fun t13 h => (xbin P .lss 3 t13 (.int .i64 50) h).go .pan fun t14 h => ifV t14 (.ok (.bool false) h) (j11 P cl nu nu x0 x1 x2 x7 x8 h) := by kernel_rfl
theorem j11_eq : j11 P cl nu nu0 x0 x1 x2 x7 x8 h = bif plain2 x7 (.int .i64 1) then ((xbin P .sub 3 x7 (.int .i64 1) h).ok1 fun t15 h => bif plain2 x7 (.int .i64 1) then ((xbin P .sub 3 x7 (.int .i64 1) h).ok1 fun t16 h => (xindexAddr P 27 x0 t16 h).ok1 fun t17 h => (xload P 3 t17 h).ok1 fun t18 h => (xindexAddr P 27 x0 x7 h).ok1 fun t19 h => (xload P 3 t19 h).ok1 fun t20 h => (xindexAddr P 27 x0 x7 h).ok1 fun t21 h => (xstore P 3 t21 t18 h).go .pan fun t22 h => (xindexAddr P 27 x0 t15 h).ok1 fun t23 h => (xstore P 3 t23 t20 h).go .pan fun t24 h => (xbin P .sub 3 x7 x1 h).go .pan fun t25 h => (xbin P .geq 3 t25 (.int .i64 2) h).go .pan fun t26 h => ifV t26 ((xbin P .sub 3 x7 (.int .i64 1) h).go .pan fun t27 h => (l14 P cl nu nu x0 x1 x2 x7 x8 t27 h)) (j18 P cl nu nu x0 x1 x2 x7 x8 h)) else .bad) else .bad := by kernel_rfl
theorem l14n : evT P cl an85 nu (s [1,1,0,1,0,0,1,0,0,1,1,1,1,0,1,0,1,0,0]) (kL P cl nu an85 29 [0,1,2,7,8,9] (s [1,1,0,1,0,0,1,0,0,1,1,1,1,0,1,0,1,0,0]) (k14 P cl nu)) [(0,x0),(1,x1),(2,x2),(7,x7),(8,x8),(9,x9)] h = (xbin P .geq 3 x9 (.int .i64 1) h).go .pan fun t28 h => ifV t28 (j16 P cl nu nu x0 x1 x2 x7 x8 x9 h) (j18 P cl nu nu x0 x1 x2 x7 x8 h) := by kernel_rfl
def l14_eq := @id (l14 P cl nu0 nu0 x0 x1 x2 x7 x8 x9 h = _) (lpN (l14n P cl nu0 x0 x1 x2 x7 x8 x9 h))
theorem j18_eq : j18 P cl nu nu0 x0 x1 x2 x7 x8 h = (xbin P .sub 3 x2 x7 h).go .pan fun t29 h => (xbin P .geq 3 t29 (.int .i64 2) h).go .pan fun t30 h => ifV t30 ((xbin P .add 3 x7 (.int .i64 1) h).go .pan fun t31 h => (l20 P cl nu nu x0 x1 x2 x7 x8 t31 h)) (j4 P cl nu nu x0 x1 x2 x7 x8 h) := by kernel_rfl
theorem j16_eq : j16 P cl nu nu0 x0 x1 x2 x7 x8 x9 h = (xindexAddr P 27 x0 x9 h).ok1 fun t32 h => (xload P 3 t32 h).ok1 fun t33 h => bif plain2 x9 (.int .i64 1) then ((xbin P .sub 3 x9 (.int .i64 1) h).ok1 fun t34 h => (xindexAddr P 27 x0 t34 h).ok1 fun t35 h => (xload P 3 t35 h).ok1 fun t36 h => (cl (.f 86) [t33,t36] h).go .pan fun t37 h => (xun P .not t37 h).ok1 fun t38 h => ifV t38 (j18 P cl nu nu x0 x1 x2 x7 x8 h) (j17 P cl nu nu x0 x1 x2 x7 x8 x9 h)) else .bad := by kernel_rfl
theorem l20n : evT P cl an85 nu (s [1,1,0,1,0,0,1,0,0,1,1,1,1,1,1,0,1,0,0]) (kL P cl nu an85 41 [0,1,2,7,8,10] (s [1,1,0,1,0,0,1,0,0,1,1,1,1,1,1,0,1,0,0]) (k17 P cl nu)) [(0,x0),(1,x1),(2,x2),(7,x7),(8,x8),(10,x10)] h = (xbin P .lss 3 x10 x2 h).go .pan fun t39 h => ifV t39 (j22 P cl nu nu x0 x1 x2 x7 x8 x10 h) (j4 P cl nu nu x0 x1 x2 x7 x8 h) := by kernel_rfl
def l20_eq := @id (l20 P cl nu0 nu0 x0 x1 x2 x7 x8 x10 h = _) (lpN (l20n P cl nu0 x0 x1 x2 x7 x8 x10 h))
theorem j4_eq : j4 P cl nu nu0 x0 x1 x2 x7 x8 h = (xbin P .add 3 x8 (.int .i64 1) h).go .pan fun t40 h => (l3 P cl nu nu x0 x1 x2 x7 t40 h) := by kernel_rfl
theorem j17_eq : j17 P cl nu nu0 x0 x1 x2 x7 x8 x9 h = bif plain2 x9 (.int .i64 1) then ((xbin P .sub 3 x9 (.int .i64 1) h).ok1 fun t41 h => bif plain2 x9 (.int .i64 1) then ((xbin P .sub 3 x9 (.int .i64 1) h).ok1 fun t42 h => (xindexAddr P 27 x0 t42 h).ok1 fun t43 h => (xload P 3 t43 h).ok1 fun t44 h => (xindexAddr P 27 x0 x9 h).ok1 fun t45 h => (xload P 3 t45 h).ok1 fun t46 h => (xindexAddr P 27 x0 x9 h).ok1 fun t47 h => (xstore P 3 t47 t44 h).go .pan fun t48 h => (xindexAddr P 27 x0 t41 h).ok1 fun t49 h => (xstore P 3 t49 t46 h).go .pan fun t50 h => (xbin P .sub 3 x9 (.int .i64 1) h).go .pan fun t51 h => (l14 P cl nu nu x0 x1 x2 x7 x8 t51 h)) else .bad) else .bad := by kernel_rfl
theorem j22_eq : j22 P cl nu nu0 x0 x1 x2 x7 x8 x10 h = (xindexAddr P 27 x0 x10 h).ok1 fun t52 h => (xload P 3 t52 h).ok1 fun t53 h => bif plain2 x10 (.int .i64 1) then ((xbin P .sub 3 x10 (.int .i64 1) h).ok1 fun t54 h => (xindexAddr P 27 x0 t54 h).ok1 fun t55 h => (xload P 3 t55 h).ok1 fun t56 h => (cl (.f 86) [t53,t56] h).go .pan fun t57 h => (xun P .not t57 h).ok1 fun t58 h => ifV t58 (j4 P cl nu nu x0 x1 x2 x7 x8 h) (j23 P cl nu nu x0 x1 x2 x7 x8 x10 h)) else .bad := by kernel_rfl
theorem j23_eq : j23 P cl nu nu0 x0 x1 x2 x7 x8 x10 h = bif plain2 x10 (.int .i64 1) then ((xbin P .sub 3 x10 (.int .i64 1) h).ok1 fun t59 h => bif plain2 x10 (.int .i64 1) then ((xbin P .sub 3 x10 (.int .i64 1) h).ok1 fun t60 h => (xindexAddr P 27 x0 t60 h).ok1 fun t61 h => (xload P 3 t61 h).ok1 fun t62 h => (xindexAddr P 27 x0 x10 h).ok1 fun t63 h => (xload P 3 t63 h).ok1 fun t64 h => (xindexAddr P 27 x0 x10 h).ok1 fun t65 h => (xstore P 3 t65 t62 h).go .pan fun t66 h => (xindexAddr P 27 x0 t59 h).ok1 fun t67 h => (xstore P 3 t67 t64 h).go .pan fun t68 h => (xbin P .add 3 x10 (.int .i64 1) h).go .pan fun t69 h => (l20 P cl nu nu x0 x1 x2 x7 x8 t69 h)) else .bad) else .bad := by kernel_rfl
theorem eq : runX P cl nu an85 Try.f85 [x0,x1,x2] h = (xbin P .add 3 x1 (.int .i64 1) h).go .pan fun t1 h => (l3 P cl nu nu x0 x1 x2 t1 (.int .i64 0) h) := by kernel_rfl
end
end F85
namespace F87
noncomputable section
variable (P : Program) (cl : Cl) (nu mu : Nu) (x0 x1 x2 x3 x9 x10 : Value) (h : H)
noncomputable def s := sub (bodyOf Try.f87)
noncomputable def k0 : Ko := kfn P Try.f87.results.toList
def k1 : Ko := kC P cl nu an87 (s [1,1,1,1]) (k0 P)
def k2 : Ko := kblk 0 (k1 P cl nu)
def l3 := mu 7 (lC P cl nu an87 [0,1,9,10] (s [1,1,1,0,0,0]) (k2 P cl nu)) [(0,x0),(1,x1),(9,x9),(10,x10)] h
def k3 : Ko := kL P cl nu an87 7 [0,1,9,10] (s [1,1,1,0,0,0]) (k2 P cl nu)
def k4 : Ko := kblk 1 (k3 P cl nu)
def k5 : Ko := kC P cl nu an87 (s [1,1,1,0,0,0,0,1]) (k4 P cl nu)
def k6 : Ko := kblk 2 (k5 P cl nu)
def l3_1 := mu 7 (lC P cl nu an87 [0,1,9,10] (s [1,1,1,0,0,0,0,0,0,0]) (k6 P cl nu)) [(0,x0),(1,x1),(9,x9),(10,x10)] h
def j5 := mu 10 (evT P cl an87 nu (s [1,1,1,0,0,0,0,1]) (k4 P cl nu)) [(0,x0),(1,x1),(9,x9),(10,x10)] h
def k9 : Ko := kC P cl nu an87 (s [1,1,1,0,0,0,0,1,1]) (k4 P cl nu)
def k10 : Ko := kblk 4 (k9 P cl nu)
def l5 := mu 11 (lC P cl nu an87 [0,1,9,10] (s [1,1,1,0,0,0,0,1,0,0,0]) (k10 P cl nu)) [(0,x0),(1,x1),(9,x9),(10,x10)] h
def j7 := mu 14 (evT P cl an87 nu (s [1,1,1,0,0,0,0,1,1]) (k4 P cl nu)) [(0,x0),(1,x1),(9,x9),(10,x10)] h
def j11 := mu 22 (evT P cl an87 nu (s [1,1,1,1]) (k0 P)) [(9,x9)] h
def j8 := mu 16 (evT P cl an87 nu (s [1,1,1,0,0,0,0,1,1,1]) (k4 P cl nu)) [(0,x0),(1,x1),(9,x9),(10,x10)] h
theorem l3n : evT P cl an87 nu (s [1,1,1,0,0,0]) (kL P cl nu an87 7 [0,1,9,10] (s [1,1,1,0,0,0]) (k2 P cl nu)) [(0,x0),(1,x1),(9,x9),(10,x10)] h = l3_1 P cl nu nu x0 x1 x9 x10 h := by kernel_rfl
def l3_eq := @id (l3 P cl nu0 nu0 x0 x1 x9 x10 h = _) (lpN (l3n P cl nu0 x0 x1 x9 x10 h))
theorem l3_1n : evT P cl an87 nu (s [1,1,1,0,0,0,0,0,0,0]) (kL P cl nu an87 7 [0,1,9,10] (s [1,1,1,0,0,0,0,0,0,0]) (k6 P cl nu)) [(0,x0),(1,x1),(9,x9),(10,x10)] h = bif plain2 x9 x10 then ((xbin P .leq 3 x9 x10 h).ok1 fun t11 h => ifV t11 ((xindexAddr P 27 x0 x1 h).ok1 fun t12 h => (xload P 3 t12 h).ok1 fun t13 h => (xindexAddr P 27 x0 x9 h).ok1 fun t14 h => (xload P 3 t14 h).ok1 fun t15 h => (cl (.f 86) [t13,t15] h).go .pan fun t16 h => (xun P .not t16 h).ok1 fun t17 h => ifV t17 ((xbin P .add 3 x9 (.int .i64 1) h).go .pan fun t18 h => (l3_1 P cl nu nu x0 x1 t18 x10 h)) (j5 P cl nu nu x0 x1 x9 x10 h)) (j5 P cl nu nu x0 x1 x9 x10 h)) else .bad := by kernel_rfl
def l3_1_eq := @id (l3_1 P cl nu0 nu0 x0 x1 x9 x10 h = _) (lpN (l3_1n P cl nu0 x0 x1 x9 x10 h))
theorem j5_eq : j5 P cl nu nu0 x0 x1 x9 x10 h = l5 P cl nu nu x0 x1 x9 x10 h := by kernel_rfl
theorem l5n : evT P cl an87 nu (s [1,1,1,0,0,0,0,1,0,0,0]) (kL P cl nu an87 11 [0,1,9,10] (s [1,1,1,0,0,0,0,1,0,0,0]) (k10 P cl nu)) [(0,x0),(1,x1),(9,x9),(10,x10)] h = bif plain2 x9 x10 then ((xbin P .leq 3 x9 x10 h).ok1 fun t19 h => ifV t19 ((xindexAddr P 27 x0 x1 h).ok1 fun t20 h => (xload P 3 t20 h).ok1 fun t21 h => (xindexAddr P 27 x0 x10 h).ok1 fun t22 h => (xload P 3 t22 h).ok1 fun t23 h => (cl (.f 86) [t21,t23] h).go .pan fun t24 h => ifV t24 ((xbin P .sub 3 x10 (.int .i64 1) h).go .pan fun t25 h => (l5 P cl nu nu x0 x1 x9 t25 h)) (j7 P cl nu nu x0 x1 x9 x10 h)) (j7 P cl nu nu x0 x1 x9 x10 h)) else .bad := by kernel_rfl
def l5_eq := @id (l5 P cl nu0 nu0 x0 x1 x9 x10 h = _) (lpN (l5n P cl nu0 x0 x1 x9 x10 h))
theorem j7_eq : j7 P cl nu nu0 x0 x1 x9 x10 h = (xbin P .gtr 3 x9 x10 h).go .pan fun t26 h => ifV t26 (j11 P cl nu nu x9 h) (j8 P cl nu nu x0 x1 x9 x10 h) := by kernel_rfl
theorem j11_eq : j11 P cl nu nu0 x9 h = .ok x9 h := by kernel_rfl
theorem j8_eq : j8 P cl nu nu0 x0 x1 x9 x10 h = (xindexAddr P 27 x0 x10 h).ok1 fun t27 h => (xload P 3 t27 h).ok1 fun t28 h => (xindexAddr P 27 x0 x9 h).ok1 fun t29 h => (xload P 3 t29 h).ok1 fun t30 h => (xindexAddr P 27 x0 x9 h).ok1 fun t31 h => (xstore P 3 t31 t28 h).go .pan fun t32 h => (xindexAddr P 27 x0 x10 h).ok1 fun t33 h => (xstore P 3 t33 t30 h).go .pan fun t34 h => (xbin P .add 3 x9 (.int .i64 1) h).go .pan fun t35 h => (xbin P .sub 3 x10 (.int .i64 1) h).go .pan fun t36 h => (l3 P cl nu nu x0 x1 t35 t36 h) := by kernel_rfl
theorem eq : runX P cl nu an87 Try.f87 [x0,x1,x2,x3] h = (xindexAddr P 27 x0 x3 h).ok1 fun t1 h => (xload P 3 t1 h).ok1 fun t2 h => (xindexAddr P 27 x0 x1 h).ok1 fun t3 h => (xload P 3 t3 h).ok1 fun t4 h => (xindexAddr P 27 x0 x1 h).ok1 fun t5 h => (xstore P 3 t5 t2 h).go .pan fun t6 h => (xindexAddr P 27 x0 x3 h).ok1 fun t7 h => (xstore P 3 t7 t4 h).go .pan fun t8 h => (xbin P .add 3 x1 (.int .i64 1) h).go .pan fun t9 h => (xbin P .sub 3 x2 (.int .i64 1) h).go .pan fun t10 h => (l3 P cl nu nu x0 x1 t9 t10 h) := by kernel_rfl
end
end F87
namespace F88
noncomputable section
variable (P : Program) (cl : Cl) (nu mu : Nu) (x0 x1 x2 x3 x10 x11 : Value) (h : H)
noncomputable def s := sub (bodyOf Try.f88)
noncomputable def k0 : Ko := kfn P Try.f88.results.toList
def k1 : Ko := kC P cl nu an88 (s [1,1,1,1]) (k0 P)
def k2 : Ko := kblk 0 (k1 P cl nu)
def l3 := mu 7 (lC P cl nu an88 [0,1,10,11] (s [1,1,1,0,0,0]) (k2 P cl nu)) [(0,x0),(1,x1),(10,x10),(11,x11)] h
def j5 := mu 10 (evT P cl an88 nu (s [1,1,1,1]) (k0 P)) [(0,x0),(1,x1),(10,x10),(11,x11)] h
def k5 : Ko := kC P cl nu an88 (s [1,1,1,1,1]) (k0 P)
def k6 : Ko := kblk 2 (k5 P cl nu)
def l5 := mu 11 (lC P cl nu an88 [0,1,10,11] (s [1,1,1,1,0,0,0]) (k6 P cl nu)) [(0,x0),(1,x1),(10,x10),(11,x11)] h
def j7 := mu 14 (evT P cl an88 nu (s [1,1,1,1,1]) (k0 P)) [(0,x0),(1,x1),(10,x10),(11,x11)] h
def j10 := mu 20 (evT P cl an88 nu (s [1,1,1,1,1,1]) (k0 P)) [(0,x0),(1,x1),(10,x10),(11,x11)] h
def k10 : Ko := kC P cl nu an88 (s [1,1,1,1,1,1,1,1,1,1]) (k0 P)
def k11 : Ko := kblk 4 (k10 P cl nu)
def l13 := mu 27 (lC P cl nu an88 [0,1,10,11] (s [1,1,1,1,1,1,1,1,1,0,0,0]) (k11 P cl nu)) [(0,x0),(1,x1),(10,x10),(11,x11)] h
def k12 : Ko := kL P cl nu an88 27 [0,1,10,11] (s [1,1,1,1,1,1,1,1,1,0,0,0]) (k11 P cl nu)
def k13 : Ko := kblk 5 (k12 P cl nu)
def k14 : Ko := kC P cl nu an88 (s [1,1,1,1,1,1,1,1,1,0,0,0,0,1]) (k13 P cl nu)
def k15 : Ko := kblk 6 (k14 P cl nu)
def l13_1 := mu 27 (lC P cl nu an88 [0,1,10,11] (s [1,1,1,1,1,1,1,1,1,0,0,0,0,0,0,0]) (k15 P cl nu)) [(0,x0),(1,x1),(10,x10),(11,x11)] h
def j15 := mu 30 (evT P cl an88 nu (s [1,1,1,1,1,1,1,1,1,0,0,0,0,1]) (k13 P cl nu)) [(0,x0),(1,x1),(10,x10),(11,x11)] h
def k18 : Ko := kC P cl nu an88 (s [1,1,1,1,1,1,1,1,1,0,0,0,0,1,1]) (k13 P cl nu)
def k19 : Ko := kblk 8 (k18 P cl nu)
def l15 := mu 31 (lC P cl nu an88 [0,1,10,11] (s [1,1,1,1,1,1,1,1,1,0,0,0,0,1,0,0,0]) (k19 P cl nu)) [(0,x0),(1,x1),(10,x10),(11,x11)] h
def j17 := mu 34 (evT P cl an88 nu (s [1,1,1,1,1,1,1,1,1,0,0,0,0,1,1]) (k13 P cl nu)) [(0,x0),(1,x1),(10,x10),(11,x11)] h
def j21 := mu 42 (evT P cl an88 nu (s [1,1,1,1,1,1,1,1,1,1]) (k0 P)) [(0,x0),(1,x1),(11,x11)] h
def j18 := mu 36 (evT P cl an88 nu (s [1,1,1,1,1,1,1,1,1,0,0,0,0,1,1,1]) (k13 P cl nu)) [(0,x0),(1,x1),(10,x10),(11,x11)] h
theorem l3n : evT P cl an88 nu (s [1,1,1,0,0,0]) (kL P cl nu an88 7 [0,1,10,11] (s [1,1,1,0,0,0]) (k2 P cl nu)) [(0,x0),(1,x1),(10,x10),(11,x11)] h = bif plain2 x10 x11 then ((xbin P .leq 3 x10 x11 h).ok1 fun t11 h => ifV t11 ((xindexAddr P 27 x0 x10 h).ok1 fun t12 h => (xload P 3 t12 h).ok1 fun t13 h => (xindexAddr P 27 x0 x1 h).ok1 fun t14 h => (xload P 3 t14 h).ok1 fun t15 h => (cl (.f 86) [t13,t15] h).go .pan fun t16 h => ifV t16 ((xbin P .add 3 x10 (.int .i64 1) h).go .pan fun t17 h => (l3 P cl nu nu x0 x1 t17 x11 h)) (j5 P cl nu nu x0 x1 x10 x11 h)) (j5 P cl nu nu x0 x1 x10 x11 h)) else .bad := by kernel_rfl
def l3_eq := @id (l3 P cl nu0 nu0 x0 x1 x10 x11 h = _) (lpN (l3n P cl nu0 x0 x1 x10 x11 h))
theorem j5_eq : j5 P cl nu nu0 x0 x1 x10 x11 h = l5 P cl nu nu x0 x1 x10 x11 h := by kernel_rfl
theorem l5n : evT P cl an88 nu (s [1,1,1,1,0,0,0]) (kL P cl nu an88 11 [0,1,10,11] (s [1,1,1,1,0,0,0]) (k6 P cl nu)) [(0,x0),(1,x1),(10,x10),(11,x11)] h = bif plain2 x10 x11 then ((xbin P .leq 3 x10 x11 h).ok1 fun t18 h => ifV t18 ((xindexAddr P 27 x0 x11 h).ok1 fun t19 h => (xload P 3 t19 h).ok1 fun t20 h => (xindexAddr P 27 x0 x1 h).ok1 fun t21 h => (xload P 3 t21 h).ok1 fun t22 h => (cl (.f 86) [t20,t22] h).go .pan fun t23 h => (xun P .not t23 h).ok1 fun t24 h => ifV t24 ((xbin P .sub 3 x11 (.int .i64 1) h).go .pan fun t25 h => (l5 P cl nu nu x0 x1 x10 t25 h)) (j7 P cl nu nu x0 x1 x10 x11 h)) (j7 P cl nu nu x0 x1 x10 x11 h)) else .bad := by kernel_rfl
def l5_eq := @id (l5 P cl nu0 nu0 x0 x1 x10 x11 h = _) (lpN (l5n P cl nu0 x0 x1 x10 x11 h))
theorem j7_eq : j7 P cl nu nu0 x0 x1 x10 x11 h = (xbin P .gtr 3 x10 x11 h).go .pan fun t26 h => ifV t26 ((xindexAddr P 27 x0 x1 h).ok1 fun t27 h => (xload P 3 t27 h).ok1 fun t28 h => (xindexAddr P 27 x0 x11 h).ok1 fun t29 h => (xload P 3 t29 h).ok1 fun t30 h => (xindexAddr P 27 x0 x11 h).ok1 fun t31 h => (xstore P 3 t31 t28 h).go .pan fun t32 h => (xindexAddr P 27 x0 x1 h).ok1 fun t33 h => (xstore P 3 t33 t30 h).go .pan fun t34 h => .ok (.tuple ⟨[x11,(.bool true)]⟩) h) (j10 P cl nu nu x0 x1 x10 x11 h) := by kernel_rfl
theorem j10_eq : j10 P cl nu nu0 x0 x1 x10 x11 h = (xindexAddr P 27 x0 x11 h).ok1 fun t35 h => (xload P 3 t35 h).ok1 fun t36 h => (xindexAddr P 27 x0 x10 h).ok1 fun t37 h => (xload P 3 t37 h).ok1 fun t38 h => (xindexAddr P 27 x0 x10 h).ok1 fun t39 h => (xstore P 3 t39 t36 h).go .pan fun t40 h => (xindexAddr P 27 x0 x11 h).ok1 fun t41 h => (xstore P 3 t41 t38 h).go .pan fun t42 h => (xbin P .add 3 x10 (.int .i64 1) h).go .pan fun t43 h => (xbin P .sub 3 x11 (.int .i64 1) h).go .pan fun t44 h => (l13 P cl nu nu x0 x1 t43 t44 h) := by kernel_rfl
theorem l13n : evT P cl an88 nu (s [1,1,1,1,1,1,1,1,1,0,0,0]) (kL P cl nu an88 27 [0,1,10,11] (s [1,1,1,1,1,1,1,1,1,0,0,0]) (k11 P cl nu)) [(0,x0),(1,x1),(10,x10),(11,x11)] h = l13_1 P cl nu nu x0 x1 x10 x11 h := by kernel_rfl
def l13_eq := @id (l13 P cl nu0 nu0 x0 x1 x10 x11 h = _) (lpN (l13n P cl nu0 x0 x1 x10 x11 h))
theorem l13_1n : evT P cl an88 nu (s [1,1,1,1,1,1,1,1,1,0,0,0,0,0,0,0]) (kL P cl nu an88 27 [0,1,10,11] (s [1,1,1,1,1,1,1,1,1,0,0,0,0,0,0,0]) (k15 P cl nu)) [(0,x0),(1,x1),(10,x10),(11,x11)] h = bif plain2 x10 x11 then ((xbin P .leq 3 x10 x11 h).ok1 fun t45 h => ifV t45 ((xindexAddr P 27 x0 x10 h).ok1 fun t46 h => (xload P 3 t46 h).ok1 fun t47 h => (xindexAddr P 27 x0 x1 h).ok1 fun t48 h => (xload P 3 t48 h).ok1 fun t49 h => (cl (.f 86) [t47,t49] h).go .pan fun t50 h => ifV t50 ((xbin P .add 3 x10 (.int .i64 1) h).go .pan fun t51 h => (l13_1 P cl nu nu x0 x1 t51 x11 h)) (j15 P cl nu nu x0 x1 x10 x11 h)) (j15 P cl nu nu x0 x1 x10 x11 h)) else .bad := by kernel_rfl
def l13_1_eq := @id (l13_1 P cl nu0 nu0 x0 x1 x10 x11 h = _) (lpN (l13_1n P cl nu0 x0 x1 x10 x11 h))
theorem j15_eq : j15 P cl nu nu0 x0 x1 x10 x11 h = l15 P cl nu nu x0 x1 x10 x11 h := by kernel_rfl
theorem l15n : evT P cl an88 nu (s [1,1,1,1,1,1,1,1,1,0,0,0,0,1,0,0,0]) (kL P cl nu an88 31 [0,1,10,11] (s [1,1,1,1,1,1,1,1,1,0,0,0,0,1,0,0,0]) (k19 P cl nu)) [(0,x0),(1,x1),(10,x10),(11,x11)] h = bif plain2 x10 x11 then ((xbin P .leq 3 x10 x11 h).ok1 fun t52 h => ifV t52 ((xindexAddr P 27 x0 x11 h).ok1 fun t53 h => (xload P 3 t53 h).ok1 fun t54 h => (xindexAddr P 27 x0 x1 h).ok1 fun t55 h => (xload P 3 t55 h).ok1 fun t56 h => (cl (.f 86) [t54,t56] h).go .pan fun t57 h => (xun P .not t57 h).ok1 fun t58 h => ifV t58 ((xbin P .sub 3 x11 (.int .i64 1) h).go .pan fun t59 h => (l15 P cl nu nu x0 x1 x10 t59 h)) (j17 P cl nu nu x0 x1 x10 x11 h)) (j17 P cl nu nu x0 x1 x10 x11 h)) else .bad := by kernel_rfl
def l15_eq := @id (l15 P cl nu0 nu0 x0 x1 x10 x11 h = _) (lpN (l15n P cl nu0 x0 x1 x10 x11 h))
theorem j17_eq : j17 P cl nu nu0 x0 x1 x10 x11 h = (xbin P .gtr 3 x10 x11 h).go .pan fun t60 h => ifV t60 (j21 P cl nu nu x0 x1 x11 h) (j18 P cl nu nu x0 x1 x10 x11 h) := by kernel_rfl
theorem j21_eq : j21 P cl nu nu0 x0 x1 x11 h = (xindexAddr P 27 x0 x1 h).ok1 fun t61 h => (xload P 3 t61 h).ok1 fun t62 h => (xindexAddr P 27 x0 x11 h).ok1 fun t63 h => (xload P 3 t63 h).ok1 fun t64 h => (xindexAddr P 27 x0 x11 h).ok1 fun t65 h => (xstore P 3 t65 t62 h).go .pan fun t66 h => (xindexAddr P 27 x0 x1 h).ok1 fun t67 h => (xstore P 3 t67 t64 h).go .pan fun t68 h => .ok (.tuple ⟨[x11,(.bool false)]⟩) h := by kernel_rfl
theorem j18_eq : j18 P cl nu nu0 x0 x1 x10 x11 h = (xindexAddr P 27 x0 x11 h).ok1 fun t69 h => (xload P 3 t69 h).ok1 fun t70 h => (xindexAddr P 27 x0 x10 h).ok1 fun t71 h => (xload P 3 t71 h).ok1 fun t72 h => (xindexAddr P 27 x0 x10 h).ok1 fun t73 h => (xstore P 3 t73 t70 h).go .pan fun t74 h => (xindexAddr P 27 x0 x11 h).ok1 fun t75 h => (xstore P 3 t75 t72 h).go .pan fun t76 h => (xbin P .add 3 x10 (.int .i64 1) h).go .pan fun t77 h => (xbin P .sub 3 x11 (.int .i64 1) h).go .pan fun t78 h => (l13 P cl nu nu x0 x1 t77 t78 h) := by kernel_rfl
theorem eq : runX P cl nu an88 Try.f88 [x0,x1,x2,x3] h = (xindexAddr P 27 x0 x3 h).ok1 fun t1 h => (xload P 3 t1 h).ok1 fun t2 h => (xindexAddr P 27 x0 x1 h).ok1 fun t3 h => (xload P 3 t3 h).ok1 fun t4 h => (xindexAddr P 27 x0 x1 h).ok1 fun t5 h => (xstore P 3 t5 t2 h).go .pan fun t6 h => (xindexAddr P 27 x0 x3 h).ok1 fun t7 h => (xstore P 3 t7 t4 h).go .pan fun t8 h => (xbin P .add 3 x1 (.int .i64 1) h).go .pan fun t9 h => (xbin P .sub 3 x2 (.int .i64 1) h).go .pan fun t10 h => (l3 P cl nu nu x0 x1 t9 t10 h) := by kernel_rfl
end
end F88
namespace F91
noncomputable section
variable (P : Program) (cl : Cl) (nu mu : Nu) (x0 x1 x2 x3 x8 x9 : Value) (h : H)
noncomputable def s := sub (bodyOf Try.f91)
noncomputable def k0 : Ko := kfn P Try.f91.results.toList
noncomputable def k1 : Ko := kblk 0 (k0 P)
def l1 := mu 3 (lC P cl nu an91 [0,2,3,8] (s [1,0,0]) (k1 P)) [(0,x0),(2,x2),(3,x3),(8,x8)] h
def k2 : Ko := kL P cl nu an91 3 [0,2,3,8] (s [1,0,0]) (k1 P)
def k3 : Ko := kblk 1 (k2 P cl nu)
def j3 := mu 6 (evT P cl an91 nu (s [1,0,0,0,1,1]) (k3 P cl nu)) [(0,x0),(2,x2),(3,x3),(8,x8),(9,x9)] h
def j5 := mu 10 (evT P cl an91 nu (s [1,0,0,0,1,1,1]) (k3 P cl nu)) [(0,x0),(2,x2),(3,x3),(8,x8),(9,x9)] h
def j6 := mu 12 (evT P cl an91 nu (s [1,0,0,0,1,1,1,1]) (k3 P cl nu)) [(0,x0),(2,x2),(3,x3),(8,x8),(9,x9)] h
theorem l1n : evT P cl an91 nu (s [1,0,0]) (kL P cl nu an91 3 [0,2,3,8] (s [1,0,0]) (k1 P)) [(0,x0),(2,x2),(3,x3),(8,x8)] h = (xbin P .mul 3 (.int .i64 2) x8 h).go .pan fun t1 h => (xbin P .add 3 t1 (.int .i64 1) h).go .pan fun t2 h => (xbin P .geq 3 t2 x2 h).go .pan fun t3 h => ifV t3 (.ok (.tuple ⟨[]⟩) h) (j3 P cl nu nu x0 x2 x3 x8 t2 h) := by kernel_rfl
def l1_eq := @id (l1 P cl nu0 nu0 x0 x2 x3 x8 h = _) (lpN (l1n P cl nu0 x0 x2 x3 x8 h))
theorem j3_eq : j3 P cl nu nu0 x0 x2 x3 x8 x9 h = bif plain2 x9 (.int .i64 1) then ((xbin P .add 3 x9 (.int .i64 1) h).ok1 fun t4 h => bif plain2 t4 x2 then ((xbin P .lss 3 t4 x2 h).ok1 fun t5 h => ifV t5 (bif plain2 x3 x9 then ((xbin P .add 3 x3 x9 h).ok1 fun t6 h => (xindexAddr P 27 x0 t6 h).ok1 fun t7 h => (xload P 3 t7 h).ok1 fun t8 h => bif plain2 x3 x9 then ((xbin P .add 3 x3 x9 h).ok1 fun t9 h => bif plain2 t9 (.int .i64 1) then ((xbin P .add 3 t9 (.int .i64 1) h).ok1 fun t10 h => (xindexAddr P 27 x0 t10 h).ok1 fun t11 h => (xload P 3 t11 h).ok1 fun t12 h => (cl (.f 86) [t8,t12] h).go .pan fun t13 h => ifV t13 ((xbin P .add 3 x9 (.int .i64 1) h).go .pan fun t14 h => (j5 P cl nu nu x0 x2 x3 x8 t14 h)) (j5 P cl nu nu x0 x2 x3 x8 x9 h)) else .bad) else .bad) else .bad) (j5 P cl nu nu x0 x2 x3 x8 x9 h)) else .bad) else .bad := by kernel_rfl
theorem j5_eq : j5 P cl nu nu0 x0 x2 x3 x8 x9 h = bif plain2 x3 x8 then ((xbin P .add 3 x3 x8 h).ok1 fun t15 h => (xindexAddr P 27 x0 t15 h).ok1 fun t16 h => (xload P 3 t16 h).ok1 fun t17 h => bif plain2 x3 x9 then ((xbin P .add 3 x3 x9 h).ok1 fun t18 h => (xindexAddr P 27 x0 t18 h).ok1 fun t19 h => (xload P 3 t19 h).ok1 fun t20 h => (cl (.f 86) [t17,t20] h).go .pan fun t21 h => (xun P .not t21 h).ok1 fun t22 h => ifV t22 (.ok (.tuple ⟨[]⟩) h) (j6 P cl nu nu x0 x2 x3 x8 x9 h)) else .bad) else .bad := by kernel_rfl
theorem j6_eq : j6 P cl nu nu0 x0 x2 x3 x8 x9 h = bif plain2 x3 x8 then ((xbin P .add 3 x3 x8 h).ok1 fun t23 h => bif plain2 x3 x9 then ((xbin P .add 3 x3 x9 h).ok1 fun t24 h => bif plain2 x3 x9 then ((xbin P .add 3 x3 x9 h).ok1 fun t25 h => (xindexAddr P 27 x0 t25 h).ok1 fun t26 h => (xload P 3 t26 h).ok1 fun t27 h => bif plain2 x3 x8 then ((xbin P .add 3 x3 x8 h).ok1 fun t28 h => (xindexAddr P 27 x0 t28 h).ok1 fun t29 h => (xload P 3 t29 h).ok1 fun t30 h => (xindexAddr P 27 x0 t23 h).ok1 fun t31 h => (xstore P 3 t31 t27 h).go .pan fun t32 h => (xindexAddr P 27 x0 t24 h).ok1 fun t33 h => (xstore P 3 t33 t30 h).go .pan fun t34 h => (l1 P cl nu nu x0 x2 x3 x9 h)) else .bad) else .bad) else .bad) else .bad := by kernel_rfl
theorem eq : runX P cl nu an91 Try.f91 [x0,x1,x2,x3] h = l1 P cl nu nu x0 x2 x3 x1 h := by kernel_rfl
end
end F91
namespace F92
noncomputable section
variable (P : Program) (cl : Cl) (nu mu : Nu) (x0 x1 x2 : Value) (h : H)
theorem eq : runX P cl nu an92 Try.f92 [x0,x1,x2] h = (xbin P .sub 3 x1 (.int .i64 1) h).go .pan fun t1 h => (xbin P .add 3 x1 (.int .i64 1) h).go .pan fun t2 h => (cl (.f 93) [x0,t1,x1,t2,x2] h).go .pan fun t3 h => .ok t3 h := by kernel_rfl
end
end F92
namespace F93
noncomputable section
variable (P : Program) (cl : Cl) (nu mu : Nu) (x0 x1 x2 x3 x4 : Value) (h : H)
theorem eq : runX P cl nu an93 Try.f93 [x0,x1,x2,x3,x4] h = (cl (.f 94) [x0,x1,x2,x4] h).go .pan fun t1 h => (xextract t1 0 h).go .pan fun t2 h => (xextract t1 1 h).go .pan fun t3 h => (cl (.f 94) [x0,t3,x3,x4] h).go .pan fun t4 h => (xextract t4 0 h).go .pan fun t5 h => (xextract t4 1 h).go .pan fun t6 h => (cl (.f 94) [x0,t2,t5,x4] h).go .pan fun t7 h => (xextract t7 0 h).go .pan fun t8 h => (xextract t7 1 h).go .pan fun t9 h => .ok t9 h := by kernel_rfl
end
end F93
namespace F94
noncomputable section
variable (P : Program) (cl : Cl) (nu mu : Nu) (x0 x1 x2 x3 : Value) (h : H)
theorem eq : runX P cl nu an94 Try.f94 [x0,x1,x2,x3] h = (xindexAddr P 27 x0 x2 h).ok1 fun t1 h => (xload P 3 t1 h).ok1 fun t2 h => (xindexAddr P 27 x0 x1 h).ok1 fun t3 h => (xload P 3 t3 h).ok1 fun t4 h => (cl (.f 86) [t2,t4] h).go .pan fun t5 h => ifV t5 ((xnilCheck x3 h).go .pan fun t6 h => (xload P 3 t6 h).go .pan fun t7 h => (xbin P .add 3 t7 (.int .i64 1) h).go .pan fun t8 h => (xnilCheck x3 h).go .pan fun t9 h => (xstore P 3 t9 t8 h).go .pan fun t10 h => .ok (.tuple ⟨[x2,x1]⟩) h) (.ok (.tuple ⟨[x1,x2]⟩) h) := by kernel_rfl
end
end F94
end Go.Proofs.Ytdadiidfhnojcaa.K
