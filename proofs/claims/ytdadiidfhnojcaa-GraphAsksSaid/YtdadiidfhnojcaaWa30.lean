/- My texts for this claim, in one file: part 30. -/
import Derived.Test.YtdadiidfhnojcaaWa29
namespace Go.Proofs.Ytdadiidfhnojcaa.K
open Go Go.Kx
set_option maxRecDepth 20000
set_option linter.unusedVariables false
set_option linter.defProp false
namespace F14
noncomputable section
variable (P : Program) (cl : Cl) (nu mu : Nu) (x0 x5 x7 x8 x9 x10 : Value) (h : H)
noncomputable def s := sub (bodyOf Try.f14)
noncomputable def k0 : Ko := kfn P Try.f14.results.toList
def k1 : Ko := kC P cl nu an14 (s [1,1,1,1]) (k0 P)
def j5 := mu 10 (evT P cl an14 nu (s [1,1,1,1]) (k0 P)) [(0,x0),(5,x5)] h
def k2 : Ko := kC P cl nu an14 (s [1,1,1,1,1,1,1]) (k0 P)
def k3 : Ko := kblk 0 (k2 P cl nu)
def l7 := mu 15 (lC P cl nu an14 [0,5,7,8] (s [1,1,1,1,1,1,0,0,0]) (k3 P cl nu)) [(0,x0),(5,x5),(7,x7),(8,x8)] h
def k4 : Ko := kL P cl nu an14 15 [0,5,7,8] (s [1,1,1,1,1,1,0,0,0]) (k3 P cl nu)
def k5 : Ko := kC P cl nu an14 (s [1,1,1,1,1,1,0,0,0,1]) (k4 P cl nu)
def j8 := mu 16 (evT P cl an14 nu (s [1,1,1,1,1,1,0,0,0,1]) (k4 P cl nu)) [(0,x0),(5,x5),(7,x7),(8,x8)] h
def k6 : Ko := kblk 1 (k4 P cl nu)
def k7 : Ko := kC P cl nu an14 (s [1,1,1,1,1,1,0,0,0,1,0,1,1]) (k6 P cl nu)
def k8 : Ko := kblk 2 (k7 P cl nu)
def j16 := mu 32 (evT P cl an14 nu (s [1,1,1,1,1,1,1]) (k0 P)) [(8,x8)] h
def l10 := mu 21 (lC P cl nu an14 [0,5,7,8,9,10] (s [1,1,1,1,1,1,0,0,0,1,0,1,0,1,0,0]) (k8 P cl nu)) [(0,x0),(5,x5),(7,x7),(8,x8),(9,x9),(10,x10)] h
def k9 : Ko := kL P cl nu an14 21 [0,5,7,8,9,10] (s [1,1,1,1,1,1,0,0,0,1,0,1,0,1,0,0]) (k8 P cl nu)
def k10 : Ko := kC P cl nu an14 (s [1,1,1,1,1,1,0,0,0,1,0,1,0,1,0,0,1]) (k9 P cl nu)
def j12 := mu 24 (evT P cl an14 nu (s [1,1,1,1,1,1,0,0,0,1,0,1,0,1,0,0,1]) (k9 P cl nu)) [(0,x0),(5,x5),(7,x7),(8,x8),(9,x9),(10,x10)] h
def k11 : Ko := kC P cl nu an14 (s [1,1,1,1,1,1,0,0,0,1,0,1,0,1,0,0,1,1]) (k9 P cl nu)
def k12 : Ko := kblk 3 (k11 P cl nu)
def j14 := mu 28 (evT P cl an14 nu (s [1,1,1,1,1,1,0,0,0,1,0,1,1]) (k6 P cl nu)) [(0,x0),(5,x5),(7,x7),(8,x8),(9,x9)] h
theorem j5_eq : j5 P cl nu nu0 x0 x5 h = (xbuiltin P .len [22] [x0] h).go .pan fun t7 h => (xmakeSlice P 83 t7 t7 h).go .pan fun t8 h => (l7 P cl nu nu x0 x5 t8 (.slice none 0 0) h) := by kernel_rfl
theorem l7n : evT P cl an14 nu (s [1,1,1,1,1,1,0,0,0]) (kL P cl nu an14 15 [0,5,7,8] (s [1,1,1,1,1,1,0,0,0]) (k3 P cl nu)) [(0,x0),(5,x5),(7,x7),(8,x8)] h = (xbuiltin P .len [27] [x8] h).go .pan fun t9 h => (xbuiltin P .len [22] [x0] h).go .pan fun t10 h => (xbin P .lss 3 t9 t10 h).go .pan fun t11 h => ifV t11 (j8 P cl nu nu x0 x5 x7 x8 h) (j16 P cl nu nu x8 h) := by kernel_rfl
def l7_eq := @id (l7 P cl nu0 nu0 x0 x5 x7 x8 h = _) (lpN (l7n P cl nu0 x0 x5 x7 x8 h))
theorem j8_eq : j8 P cl nu nu0 x0 x5 x7 x8 h = l10 P cl nu nu x0 x5 x7 x8 (.int .i64 (-1)) (.int .i64 0) h := by kernel_rfl
theorem j16_eq : j16 P cl nu nu0 x8 h = .ok (.tuple ⟨[x8,(.int .i64 0),(.string ⟨#[]⟩)]⟩) h := by kernel_rfl
theorem l10n : evT P cl an14 nu (s [1,1,1,1,1,1,0,0,0,1,0,1,0,1,0,0]) (kL P cl nu an14 21 [0,5,7,8,9,10] (s [1,1,1,1,1,1,0,0,0,1,0,1,0,1,0,0]) (k8 P cl nu)) [(0,x0),(5,x5),(7,x7),(8,x8),(9,x9),(10,x10)] h = (xbuiltin P .len [22] [x0] h).go .pan fun t12 h => (xbin P .lss 3 x10 t12 h).go .pan fun t13 h => ifV t13 (j12 P cl nu nu x0 x5 x7 x8 x9 x10 h) (j14 P cl nu nu x0 x5 x7 x8 x9 h) := by kernel_rfl
def l10_eq := @id (l10 P cl nu0 nu0 x0 x5 x7 x8 x9 x10 h = _) (lpN (l10n P cl nu0 x0 x5 x7 x8 x9 x10 h))
theorem j12_eq : j12 P cl nu nu0 x0 x5 x7 x8 x9 x10 h = (xindexAddr P 83 x7 x10 h).go .pan fun t14 h => (xload P 4 t14 h).go .pan fun t15 h => (xun P .not t15 h).go .pan fun t16 h => ifV t16 ((xindexAddr P 33 x5 x10 h).go .pan fun t17 h => (xload P 27 t17 h).go .pan fun t18 h => (cl (.f 37) [t18,x7] h).go .pan fun t19 h => ifV t19 ((xbin P .lss 3 x9 (.int .i64 0) h).go .pan fun t20 h => ifV t20 ((xbin P .add 3 x10 (.int .i64 1) h).go .pan fun t21 h => (l10 P cl nu nu x0 x5 x7 x8 x10 t21 h)) ((cl (.f 38) [x0,x10,x9] h).go .pan fun t22 h => ifV t22 ((xbin P .add 3 x10 (.int .i64 1) h).go .pan fun t23 h => (l10 P cl nu nu x0 x5 x7 x8 x10 t23 h)) ((xbin P .add 3 x10 (.int .i64 1) h).go .pan fun t24 h => (l10 P cl nu nu x0 x5 x7 x8 x9 t24 h)))) ((xbin P .add 3 x10 (.int .i64 1) h).go .pan fun t25 h => (l10 P cl nu nu x0 x5 x7 x8 x9 t25 h))) ((xbin P .add 3 x10 (.int .i64 1) h).go .pan fun t26 h => (l10 P cl nu nu x0 x5 x7 x8 x9 t26 h)) := by kernel_rfl
theorem j14_eq : j14 P cl nu nu0 x0 x5 x7 x8 x9 h = (xindexAddr P 83 x7 x9 h).go .pan fun t27 h => (xstore P 4 t27 (.bool true) h).go .pan fun t28 h => (xbuildSlice P 27 1 [(0,x9)] h).go .pan fun t29 h => (xbuiltin P .append [27,27] [x8,t29] h).go .pan fun t30 h => (l7 P cl nu nu x0 x5 x7 t30 h) := by kernel_rfl
theorem eq : runX P cl nu an14 Try.f14 [x0] h = (cl (.f 35) [x0] h).go .pan fun t1 h => (cl (.f 36) [x0,t1] h).go .pan fun t2 h => (xbin P .geq 3 t2 (.int .i64 0) h).go .pan fun t3 h => ifV t3 ((xindexAddr P 22 x0 t2 h).ok1 fun t4 h => (xfieldAddr P 55 t4 0 h).ok1 fun t5 h => (xload P 9 t5 h).ok1 fun t6 h => bif (rc (xload P 9 t5 h) (some t6) && true) then (bif (rc (xload P 9 t5 h) (some t6) && true) then (.ok (.tuple ⟨[(.slice none 0 0),(.int .i64 130),t6]⟩) h) else .bad) else .bad) (j5 P cl nu nu x0 t1 h) := by kernel_rfl
end
end F14
namespace F16
noncomputable section
variable (P : Program) (cl : Cl) (nu mu : Nu) (x0 x5 x7 x8 x9 x10 x11 x12 x14 x45 x46 x47 x48 x49 x50 x51 x58 x59 x60 x61 x62 x63 x64 : Value) (h : H)
noncomputable def s := sub (bodyOf Try.f16)
noncomputable def k0 : Ko := kfn P Try.f16.results.toList
def k1 : Ko := kC P cl nu an16 (s [1,1,1,1]) (k0 P)
def j5 := mu 10 (evT P cl an16 nu (s [1,1,1,1]) (k0 P)) [(0,x0),(5,x5)] h
def k2 : Ko := kC P cl nu an16 (s [1,1,1,1,1,1,1]) (k0 P)
def k3 : Ko := kblk 0 (k2 P cl nu)
def l8 := mu 17 (lC P cl nu an16 [0,5,7,8,9] (s [1,1,1,1,1,1,0,1,0,0]) (k3 P cl nu)) [(0,x0),(5,x5),(7,x7),(8,x8),(9,x9)] h
def k4 : Ko := kL P cl nu an16 17 [0,5,7,8,9] (s [1,1,1,1,1,1,0,1,0,0]) (k3 P cl nu)
def k5 : Ko := kC P cl nu an16 (s [1,1,1,1,1,1,0,1,0,0,1]) (k4 P cl nu)
def j9 := mu 18 (evT P cl an16 nu (s [1,1,1,1,1,1,0,1,0,0,1]) (k4 P cl nu)) [(0,x0),(5,x5),(7,x7),(8,x8),(9,x9)] h
def k6 : Ko := kblk 1 (k4 P cl nu)
def k7 : Ko := kC P cl nu an16 (s [1,1,1,1,1,1,0,1,0,0,1,0,1,1]) (k6 P cl nu)
def k8 : Ko := kblk 2 (k7 P cl nu)
def j27 := mu 54 (evT P cl an16 nu (s [1,1,1,1,1,1,1]) (k0 P)) [(8,x8)] h
def l11 := mu 23 (lC P cl nu an16 [0,5,7,8,9,10,11] (s [1,1,1,1,1,1,0,1,0,0,1,0,1,0,1,0,0]) (k8 P cl nu)) [(0,x0),(5,x5),(7,x7),(8,x8),(9,x9),(10,x10),(11,x11)] h
def k9 : Ko := kL P cl nu an16 23 [0,5,7,8,9,10,11] (s [1,1,1,1,1,1,0,1,0,0,1,0,1,0,1,0,0]) (k8 P cl nu)
def k10 : Ko := kC P cl nu an16 (s [1,1,1,1,1,1,0,1,0,0,1,0,1,0,1,0,0,1]) (k9 P cl nu)
def j13 := mu 26 (evT P cl an16 nu (s [1,1,1,1,1,1,0,1,0,0,1,0,1,0,1,0,0,1]) (k9 P cl nu)) [(0,x0),(5,x5),(7,x7),(8,x8),(9,x9),(10,x10),(11,x11)] h
def k11 : Ko := kC P cl nu an16 (s [1,1,1,1,1,1,0,1,0,0,1,0,1,0,1,0,0,1,1]) (k9 P cl nu)
def k12 : Ko := kblk 3 (k11 P cl nu)
def k13 : Ko := kC P cl nu an16 (s [1,1,1,1,1,1,0,1,0,0,1,0,1,0,1,0,0,1,0,0,1]) (k12 P cl nu)
def j21 := mu 42 (evT P cl an16 nu (s [1,1,1,1,1,1,0,1,0,0,1,0,1,1]) (k6 P cl nu)) [(0,x0),(5,x5),(7,x7),(8,x8),(9,x9),(10,x10)] h
def k14 : Ko := kC P cl nu an16 (s [1,1,1,1,1,1,0,1,0,0,1,0,1,1,1]) (k6 P cl nu)
def k15 : Ko := kblk 6 (k14 P cl nu)
def j12 := mu 24 (evT P cl an16 nu (s [1,1,1,1,1,1,0,1,0,0,1,0,1,0,1,0,0,1,1]) (k9 P cl nu)) [(0,x0),(5,x5),(7,x7),(8,x8),(9,x9),(10,x10),(11,x11),(45,x45),(46,x46),(47,x47),(48,x48),(49,x49),(50,x50),(51,x51)] h
def j14 := mu 28 (evT P cl an16 nu (s [1,1,1,1,1,1,0,1,0,0,1,0,1,0,1,0,0,1,0,0,1]) (k12 P cl nu)) [(0,x0),(5,x5),(7,x7),(8,x8),(9,x9),(10,x10),(11,x11),(45,x45),(46,x46),(47,x47),(48,x48),(49,x49),(50,x50),(51,x51)] h
def k16 : Ko := kC P cl nu an16 (s [1,1,1,1,1,1,0,1,0,0,1,0,1,0,1,0,0,1,0,0,1,1,1]) (k12 P cl nu)
def k17 : Ko := kblk 4 (k16 P cl nu)
def l22 := mu 45 (lC P cl nu an16 [0,5,7,8,9,10,14] (s [1,1,1,1,1,1,0,1,0,0,1,0,1,1,0,1,0,0]) (k15 P cl nu)) [(0,x0),(5,x5),(7,x7),(8,x8),(9,x9),(10,x10),(14,x14)] h
def k18 : Ko := kL P cl nu an16 45 [0,5,7,8,9,10,14] (s [1,1,1,1,1,1,0,1,0,0,1,0,1,1,0,1,0,0]) (k15 P cl nu)
def k19 : Ko := kC P cl nu an16 (s [1,1,1,1,1,1,0,1,0,0,1,0,1,1,0,1,0,0,1]) (k18 P cl nu)
def l15 := mu 31 (lC P cl nu an16 [0,5,7,8,9,10,11,12,45,46,47,48,49,50,51] (s [1,1,1,1,1,1,0,1,0,0,1,0,1,0,1,0,0,1,0,0,1,1,0,0,0]) (k17 P cl nu)) [(0,x0),(5,x5),(7,x7),(8,x8),(9,x9),(10,x10),(11,x11),(12,x12),(45,x45),(46,x46),(47,x47),(48,x48),(49,x49),(50,x50),(51,x51)] h
def k20 : Ko := kL P cl nu an16 31 [0,5,7,8,9,10,11,12,45,46,47,48,49,50,51] (s [1,1,1,1,1,1,0,1,0,0,1,0,1,0,1,0,0,1,0,0,1,1,0,0,0]) (k17 P cl nu)
def k21 : Ko := kC P cl nu an16 (s [1,1,1,1,1,1,0,1,0,0,1,0,1,0,1,0,0,1,0,0,1,1,0,0,0,1]) (k20 P cl nu)
def j24 := mu 48 (evT P cl an16 nu (s [1,1,1,1,1,1,0,1,0,0,1,0,1,1,0,1,0,0,1]) (k18 P cl nu)) [(0,x0),(5,x5),(7,x7),(8,x8),(9,x9),(10,x10),(14,x14)] h
def j25 := mu 50 (evT P cl an16 nu (s [1,1,1,1,1,1,0,1,0,0,1,0,1,1,1]) (k6 P cl nu)) [(0,x0),(5,x5),(7,x7),(8,x8),(9,x9),(10,x10)] h
def j17 := mu 34 (evT P cl an16 nu (s [1,1,1,1,1,1,0,1,0,0,1,0,1,0,1,0,0,1,0,0,1,1,1]) (k12 P cl nu)) [(0,x0),(5,x5),(7,x7),(8,x8),(9,x9),(10,x10),(11,x11),(12,x12),(45,x45),(46,x46),(47,x47),(48,x48),(49,x49),(50,x50),(51,x51),(58,x58),(59,x59),(60,x60),(61,x61),(62,x62),(63,x63),(64,x64)] h
theorem j5_eq : j5 P cl nu nu0 x0 x5 h = (xbuiltin P .len [22] [x0] h).go .pan fun t7 h => (xmakeSlice P 83 t7 t7 h).go .pan fun t8 h => (l8 P cl nu nu x0 x5 t8 (.slice none 0 0) (.int .i64 0) h) := by kernel_rfl
theorem l8n : evT P cl an16 nu (s [1,1,1,1,1,1,0,1,0,0]) (kL P cl nu an16 17 [0,5,7,8,9] (s [1,1,1,1,1,1,0,1,0,0]) (k3 P cl nu)) [(0,x0),(5,x5),(7,x7),(8,x8),(9,x9)] h = (xbuiltin P .len [22] [x0] h).go .pan fun t9 h => (xbin P .lss 3 x9 t9 h).go .pan fun t10 h => ifV t10 (j9 P cl nu nu x0 x5 x7 x8 x9 h) (j27 P cl nu nu x8 h) := by kernel_rfl
def l8_eq := @id (l8 P cl nu0 nu0 x0 x5 x7 x8 x9 h = _) (lpN (l8n P cl nu0 x0 x5 x7 x8 x9 h))
theorem j9_eq : j9 P cl nu nu0 x0 x5 x7 x8 x9 h = l11 P cl nu nu x0 x5 x7 x8 x9 (.slice none 0 0) (.int .i64 0) h := by kernel_rfl
theorem j27_eq : j27 P cl nu nu0 x8 h = .ok (.tuple ⟨[x8,(.int .i64 0),(.string ⟨#[]⟩)]⟩) h := by kernel_rfl
theorem l11n : evT P cl an16 nu (s [1,1,1,1,1,1,0,1,0,0,1,0,1,0,1,0,0]) (kL P cl nu an16 23 [0,5,7,8,9,10,11] (s [1,1,1,1,1,1,0,1,0,0,1,0,1,0,1,0,0]) (k8 P cl nu)) [(0,x0),(5,x5),(7,x7),(8,x8),(9,x9),(10,x10),(11,x11)] h = (xbuiltin P .len [22] [x0] h).go .pan fun t11 h => (xbin P .lss 3 x11 t11 h).go .pan fun t12 h => ifV t12 (j13 P cl nu nu x0 x5 x7 x8 x9 x10 x11 h) (j21 P cl nu nu x0 x5 x7 x8 x9 x10 h) := by kernel_rfl
def l11_eq := @id (l11 P cl nu0 nu0 x0 x5 x7 x8 x9 x10 x11 h = _) (lpN (l11n P cl nu0 x0 x5 x7 x8 x9 x10 x11 h))
theorem j13_eq : j13 P cl nu nu0 x0 x5 x7 x8 x9 x10 x11 h = (xindexAddr P 83 x7 x11 h).go .pan fun t13 h => (xload P 4 t13 h).go .pan fun t14 h => ifV t14 (j12 P cl nu nu x0 x5 x7 x8 x9 x10 x11 (.tuple #[]) (.tuple #[]) (.tuple #[]) (.tuple #[]) (.tuple #[]) (.tuple #[]) (.tuple #[]) h) ((xindexAddr P 33 x5 x11 h).go .pan fun t15 h => (xload P 27 t15 h).go .pan fun t16 h => (cl (.f 37) [t16,x7] h).go .pan fun t17 h => (xun P .not t17 h).go .pan fun t18 h => ifV t18 (j12 P cl nu nu x0 x5 x7 x8 x9 x10 x11 x5 x11 t15 t16 x7 t17 t18 h) (j14 P cl nu nu x0 x5 x7 x8 x9 x10 x11 x5 x11 t15 t16 x7 t17 t18 h)) := by kernel_rfl
theorem j21_eq : j21 P cl nu nu0 x0 x5 x7 x8 x9 x10 h = l22 P cl nu nu x0 x5 x7 x8 x9 x10 (.int .i64 0) h := by kernel_rfl
theorem j12_eq : j12 P cl nu nu0 x0 x5 x7 x8 x9 x10 x11 x45 x46 x47 x48 x49 x50 x51 h = (xbin P .add 3 x11 (.int .i64 1) h).go .pan fun t19 h => (l11 P cl nu nu x0 x5 x7 x8 x9 x10 t19 h) := by kernel_rfl
theorem j14_eq : j14 P cl nu nu0 x0 x5 x7 x8 x9 x10 x11 x45 x46 x47 x48 x49 x50 x51 h = l15 P cl nu nu x0 x5 x7 x8 x9 x10 x11 (.int .i64 0) x45 x46 x47 x48 x49 x50 x51 h := by kernel_rfl
theorem l22n : evT P cl an16 nu (s [1,1,1,1,1,1,0,1,0,0,1,0,1,1,0,1,0,0]) (kL P cl nu an16 45 [0,5,7,8,9,10,14] (s [1,1,1,1,1,1,0,1,0,0,1,0,1,1,0,1,0,0]) (k15 P cl nu)) [(0,x0),(5,x5),(7,x7),(8,x8),(9,x9),(10,x10),(14,x14)] h = (xbuiltin P .len [27] [x10] h).go .pan fun t20 h => (xbin P .lss 3 x14 t20 h).go .pan fun t21 h => ifV t21 (j24 P cl nu nu x0 x5 x7 x8 x9 x10 x14 h) (j25 P cl nu nu x0 x5 x7 x8 x9 x10 h) := by kernel_rfl
def l22_eq := @id (l22 P cl nu0 nu0 x0 x5 x7 x8 x9 x10 x14 h = _) (lpN (l22n P cl nu0 x0 x5 x7 x8 x9 x10 x14 h))
theorem l15n : evT P cl an16 nu (s [1,1,1,1,1,1,0,1,0,0,1,0,1,0,1,0,0,1,0,0,1,1,0,0,0]) (kL P cl nu an16 31 [0,5,7,8,9,10,11,12,45,46,47,48,49,50,51] (s [1,1,1,1,1,1,0,1,0,0,1,0,1,0,1,0,0,1,0,0,1,1,0,0,0]) (k17 P cl nu)) [(0,x0),(5,x5),(7,x7),(8,x8),(9,x9),(10,x10),(11,x11),(12,x12),(45,x45),(46,x46),(47,x47),(48,x48),(49,x49),(50,x50),(51,x51)] h = (xbuiltin P .len [27] [x10] h).go .pan fun t22 h => (xbin P .lss 3 x12 t22 h).go .pan fun t23 h => ifV t23 ((xindexAddr P 27 x10 x12 h).go .pan fun t24 h => (xload P 3 t24 h).go .pan fun t25 h => (cl (.f 38) [x0,t25,x11] h).go .pan fun t26 h => ifV t26 ((xbin P .add 3 x12 (.int .i64 1) h).go .pan fun t27 h => (l15 P cl nu nu x0 x5 x7 x8 x9 x10 x11 t27 x45 x46 x47 x48 x49 x50 x51 h)) (j17 P cl nu nu x0 x5 x7 x8 x9 x10 x11 x12 x45 x46 x47 x48 x49 x50 x51 x0 x10 x12 t24 t25 x11 t26 h)) (j17 P cl nu nu x0 x5 x7 x8 x9 x10 x11 x12 x45 x46 x47 x48 x49 x50 x51 (.tuple #[]) (.tuple #[]) (.tuple #[]) (.tuple #[]) (.tuple #[]) (.tuple #[]) (.tuple #[]) h) := by kernel_rfl
def l15_eq := @id (l15 P cl nu0 nu0 x0 x5 x7 x8 x9 x10 x11 x12 x45 x46 x47 x48 x49 x50 x51 h = _) (lpN (l15n P cl nu0 x0 x5 x7 x8 x9 x10 x11 x12 x45 x46 x47 x48 x49 x50 x51 h))
theorem j24_eq : j24 P cl nu nu0 x0 x5 x7 x8 x9 x10 x14 h = (xindexAddr P 27 x10 x14 h).go .pan fun t28 h => (xload P 3 t28 h).go .pan fun t29 h => (xindexAddr P 83 x7 t29 h).go .pan fun t30 h => (xstore P 4 t30 (.bool true) h).go .pan fun t31 h => (xbin P .add 3 x14 (.int .i64 1) h).go .pan fun t32 h => (l22 P cl nu nu x0 x5 x7 x8 x9 x10 t32 h) := by kernel_rfl
theorem j25_eq : j25 P cl nu nu0 x0 x5 x7 x8 x9 x10 h = (xbuiltin P .len [27] [x10] h).go .pan fun t33 h => (xbin P .add 3 x9 t33 h).go .pan fun t34 h => (xbuildSlice P 33 1 [(0,x10)] h).go .pan fun t35 h => (xbuiltin P .append [33,33] [x8,t35] h).go .pan fun t36 h => (l8 P cl nu nu x0 x5 x7 t36 t34 h) := by kernel_rfl
theorem j17_eq : j17 P cl nu nu0 x0 x5 x7 x8 x9 x10 x11 x12 x45 x46 x47 x48 x49 x50 x51 x58 x59 x60 x61 x62 x63 x64 h = (xslice P 27 x10 none (some x12) none h).go .pan fun t37 h => (xbuiltin P .append [27,27] [(.slice none 0 0),t37] h).go .pan fun t38 h => (xbuildSlice P 27 1 [(0,x11)] h).go .pan fun t39 h => (xbuiltin P .append [27,27] [t38,t39] h).go .pan fun t40 h => (xslice P 27 x10 (some x12) none none h).go .pan fun t41 h => (xbuiltin P .append [27,27] [t40,t41] h).go .pan fun t42 h => (j12 P cl nu nu x0 x5 x7 x8 x9 t42 x11 x45 x46 x47 x48 x49 x50 x51 h) := by kernel_rfl
theorem eq : runX P cl nu an16 Try.f16 [x0] h = (cl (.f 35) [x0] h).go .pan fun t1 h => (cl (.f 36) [x0,t1] h).go .pan fun t2 h => (xbin P .geq 3 t2 (.int .i64 0) h).go .pan fun t3 h => ifV t3 ((xindexAddr P 22 x0 t2 h).ok1 fun t4 h => (xfieldAddr P 55 t4 0 h).ok1 fun t5 h => (xload P 9 t5 h).ok1 fun t6 h => bif (rc (xload P 9 t5 h) (some t6) && true) then (bif (rc (xload P 9 t5 h) (some t6) && true) then (.ok (.tuple ⟨[(.slice none 0 0),(.int .i64 130),t6]⟩) h) else .bad) else .bad) (j5 P cl nu nu x0 t1 h) := by kernel_rfl
end
end F16
namespace F22
noncomputable section
variable (P : Program) (cl : Cl) (nu mu : Nu) (x0 x1 x5 x6 : Value) (h : H)
noncomputable def s := sub (bodyOf Try.f22)
noncomputable def k0 : Ko := kfn P Try.f22.results.toList
def k1 : Ko := kC P cl nu an22 (s [1,1,1]) (k0 P)
def j4 := mu 8 (evT P cl an22 nu (s [1,1,1]) (k0 P)) [(0,x0),(1,x1),(5,x5)] h
def k2 : Ko := kC P cl nu an22 (s [1,1,1,1]) (k0 P)
def k3 : Ko := kblk 0 (k2 P cl nu)
def l5 := mu 11 (lC P cl nu an22 [0,1,5,6] (s [1,1,1,0,1,0,0]) (k3 P cl nu)) [(0,x0),(1,x1),(5,x5),(6,x6)] h
def k4 : Ko := kL P cl nu an22 11 [0,1,5,6] (s [1,1,1,0,1,0,0]) (k3 P cl nu)
def k5 : Ko := kC P cl nu an22 (s [1,1,1,0,1,0,0,1]) (k4 P cl nu)
def j7 := mu 14 (evT P cl an22 nu (s [1,1,1,0,1,0,0,1]) (k4 P cl nu)) [(0,x0),(1,x1),(5,x5),(6,x6)] h
def k6 : Ko := kC P cl nu an22 (s [1,1,1,0,1,0,0,1,1]) (k4 P cl nu)
def k7 : Ko := kblk 1 (k6 P cl nu)
def j9 := mu 18 (evT P cl an22 nu (s [1,1,1,1]) (k0 P)) [(5,x5)] h
theorem j4_eq : j4 P cl nu nu0 x0 x1 x5 h = l5 P cl nu nu x0 x1 x5 (.int .i64 0) h := by kernel_rfl
theorem l5n : evT P cl an22 nu (s [1,1,1,0,1,0,0]) (kL P cl nu an22 11 [0,1,5,6] (s [1,1,1,0,1,0,0]) (k3 P cl nu)) [(0,x0),(1,x1),(5,x5),(6,x6)] h = (xbuiltin P .len [22] [x0] h).go .pan fun t4 h => (xbin P .lss 3 x6 t4 h).go .pan fun t5 h => ifV t5 (j7 P cl nu nu x0 x1 x5 x6 h) (j9 P cl nu nu x5 h) := by kernel_rfl
def l5_eq := @id (l5 P cl nu0 nu0 x0 x1 x5 x6 h = _) (lpN (l5n P cl nu0 x0 x1 x5 x6 h))
theorem j7_eq : j7 P cl nu nu0 x0 x1 x5 x6 h = (xindexAddr P 22 x0 x1 h).ok1 fun t6 h => (xload P 55 t6 h).ok1 fun t7 h => (xindexAddr P 22 x0 x6 h).ok1 fun t8 h => (xload P 55 t8 h).ok1 fun t9 h => (cl (.f 42) [t7,t9] h).go .pan fun t10 h => ifV t10 ((xbuildSlice P 27 1 [(0,x6)] h).go .pan fun t11 h => (xbuiltin P .append [27,27] [x5,t11] h).go .pan fun t12 h => (xbin P .add 3 x6 (.int .i64 1) h).go .pan fun t13 h => (l5 P cl nu nu x0 x1 t12 t13 h)) ((xbin P .add 3 x6 (.int .i64 1) h).go .pan fun t14 h => (l5 P cl nu nu x0 x1 x5 t14 h)) := by kernel_rfl
theorem j9_eq : j9 P cl nu nu0 x5 h = .ok x5 h := by kernel_rfl
theorem eq : runX P cl nu an22 Try.f22 [x0,x1] h = (xbin P .lss 3 x1 (.int .i64 0) h).go .pan fun t1 h => ifV t1 (.ok (.slice none 0 0) h) ((xbuiltin P .len [22] [x0] h).go .pan fun t2 h => (xbin P .geq 3 x1 t2 h).go .pan fun t3 h => ifV t3 (.ok (.slice none 0 0) h) (j4 P cl nu nu x0 x1 (.slice none 0 0) h)) := by kernel_rfl
end
end F22
namespace F35
noncomputable section
variable (P : Program) (cl : Cl) (nu mu : Nu) (x0 x3 x4 : Value) (h : H)
noncomputable def s := sub (bodyOf Try.f35)
noncomputable def k0 : Ko := kfn P Try.f35.results.toList
def k1 : Ko := kC P cl nu an35 (s [1,1,1]) (k0 P)
def k2 : Ko := kblk 0 (k1 P cl nu)
def l3 := mu 7 (lC P cl nu an35 [0,3,4] (s [1,1,0,1,0,0]) (k2 P cl nu)) [(0,x0),(3,x3),(4,x4)] h
def k3 : Ko := kL P cl nu an35 7 [0,3,4] (s [1,1,0,1,0,0]) (k2 P cl nu)
def k4 : Ko := kC P cl nu an35 (s [1,1,0,1,0,0,1]) (k3 P cl nu)
def j5 := mu 10 (evT P cl an35 nu (s [1,1,0,1,0,0,1]) (k3 P cl nu)) [(0,x0),(3,x3),(4,x4)] h
def k5 : Ko := kC P cl nu an35 (s [1,1,0,1,0,0,1,1]) (k3 P cl nu)
def j6 := mu 12 (evT P cl an35 nu (s [1,1,1]) (k0 P)) [(3,x3)] h
theorem l3n : evT P cl an35 nu (s [1,1,0,1,0,0]) (kL P cl nu an35 7 [0,3,4] (s [1,1,0,1,0,0]) (k2 P cl nu)) [(0,x0),(3,x3),(4,x4)] h = (xbuiltin P .len [22] [x0] h).go .pan fun t1 h => (xbin P .lss 3 x4 t1 h).go .pan fun t2 h => ifV t2 (j5 P cl nu nu x0 x3 x4 h) (j6 P cl nu nu x3 h) := by kernel_rfl
def l3_eq := @id (l3 P cl nu0 nu0 x0 x3 x4 h = _) (lpN (l3n P cl nu0 x0 x3 x4 h))
theorem j5_eq : j5 P cl nu nu0 x0 x3 x4 h = (cl (.f 22) [x0,x4] h).go .pan fun t3 h => (xbuildSlice P 33 1 [(0,t3)] h).go .pan fun t4 h => (xbuiltin P .append [33,33] [x3,t4] h).go .pan fun t5 h => (xbin P .add 3 x4 (.int .i64 1) h).go .pan fun t6 h => (l3 P cl nu nu x0 t5 t6 h) := by kernel_rfl
theorem j6_eq : j6 P cl nu nu0 x3 h = .ok x3 h := by kernel_rfl
theorem eq : runX P cl nu an35 Try.f35 [x0] h = l3 P cl nu nu x0 (.slice none 0 0) (.int .i64 0) h := by kernel_rfl
end
end F35
namespace F36
noncomputable section
variable (P : Program) (cl : Cl) (nu mu : Nu) (x0 x1 x5 x6 : Value) (h : H)
noncomputable def s := sub (bodyOf Try.f36)
noncomputable def k0 : Ko := kfn P Try.f36.results.toList
def k1 : Ko := kC P cl nu an36 (s [1,1,1]) (k0 P)
def k2 : Ko := kblk 0 (k1 P cl nu)
def l3 := mu 7 (lC P cl nu an36 [0,1,5,6] (s [1,1,0,1,0,0]) (k2 P cl nu)) [(0,x0),(1,x1),(5,x5),(6,x6)] h
def k3 : Ko := kL P cl nu an36 7 [0,1,5,6] (s [1,1,0,1,0,0]) (k2 P cl nu)
def k4 : Ko := kC P cl nu an36 (s [1,1,0,1,0,0,1]) (k3 P cl nu)
def j5 := mu 10 (evT P cl an36 nu (s [1,1,0,1,0,0,1]) (k3 P cl nu)) [(0,x0),(1,x1),(5,x5),(6,x6)] h
def k5 : Ko := kC P cl nu an36 (s [1,1,0,1,0,0,1,1]) (k3 P cl nu)
def k6 : Ko := kblk 1 (k5 P cl nu)
def j7 := mu 14 (evT P cl an36 nu (s [1,1,1]) (k0 P)) [(5,x5)] h
theorem l3n : evT P cl an36 nu (s [1,1,0,1,0,0]) (kL P cl nu an36 7 [0,1,5,6] (s [1,1,0,1,0,0]) (k2 P cl nu)) [(0,x0),(1,x1),(5,x5),(6,x6)] h = (xbuiltin P .len [22] [x0] h).go .pan fun t1 h => (xbin P .lss 3 x6 t1 h).go .pan fun t2 h => ifV t2 (j5 P cl nu nu x0 x1 x5 x6 h) (j7 P cl nu nu x5 h) := by kernel_rfl
def l3_eq := @id (l3 P cl nu0 nu0 x0 x1 x5 x6 h = _) (lpN (l3n P cl nu0 x0 x1 x5 x6 h))
theorem j5_eq : j5 P cl nu nu0 x0 x1 x5 x6 h = (xbin P .lss 3 x5 (.int .i64 0) h).go .pan fun t3 h => ifV t3 ((cl (.f 48) [x1,x6] h).go .pan fun t4 h => ifV t4 ((xbin P .add 3 x6 (.int .i64 1) h).go .pan fun t5 h => (l3 P cl nu nu x0 x1 x6 t5 h)) ((xbin P .add 3 x6 (.int .i64 1) h).go .pan fun t6 h => (l3 P cl nu nu x0 x1 x5 t6 h))) ((cl (.f 38) [x0,x6,x5] h).go .pan fun t7 h => ifV t7 ((cl (.f 48) [x1,x6] h).go .pan fun t8 h => ifV t8 ((xbin P .add 3 x6 (.int .i64 1) h).go .pan fun t9 h => (l3 P cl nu nu x0 x1 x6 t9 h)) ((xbin P .add 3 x6 (.int .i64 1) h).go .pan fun t10 h => (l3 P cl nu nu x0 x1 x5 t10 h))) ((xbin P .add 3 x6 (.int .i64 1) h).go .pan fun t11 h => (l3 P cl nu nu x0 x1 x5 t11 h))) := by kernel_rfl
theorem j7_eq : j7 P cl nu nu0 x5 h = .ok x5 h := by kernel_rfl
theorem eq : runX P cl nu an36 Try.f36 [x0,x1] h = l3 P cl nu nu x0 x1 (.int .i64 (-1)) (.int .i64 0) h := by kernel_rfl
end
end F36
namespace F37
noncomputable section
variable (P : Program) (cl : Cl) (nu mu : Nu) (x0 x1 x5 : Value) (h : H)
noncomputable def s := sub (bodyOf Try.f37)
noncomputable def k0 : Ko := kfn P Try.f37.results.toList
def k1 : Ko := kC P cl nu an37 (s [1,1]) (k0 P)
def k2 : Ko := kblk 0 (k1 P cl nu)
def l2 := mu 5 (lC P cl nu an37 [0,1,5] (s [1,0,1,0,0]) (k2 P cl nu)) [(0,x0),(1,x1),(5,x5)] h
def k3 : Ko := kL P cl nu an37 5 [0,1,5] (s [1,0,1,0,0]) (k2 P cl nu)
def k4 : Ko := kC P cl nu an37 (s [1,0,1,0,0,1]) (k3 P cl nu)
def j4 := mu 8 (evT P cl an37 nu (s [1,0,1,0,0,1]) (k3 P cl nu)) [(0,x0),(1,x1),(5,x5)] h
def k5 : Ko := kC P cl nu an37 (s [1,0,1,0,0,1,1]) (k3 P cl nu)
def k6 : Ko := kblk 1 (k5 P cl nu)
def j6 := mu 12 (evT P cl an37 nu (s [1,1]) (k0 P)) [] h
theorem l2n : evT P cl an37 nu (s [1,0,1,0,0]) (kL P cl nu an37 5 [0,1,5] (s [1,0,1,0,0]) (k2 P cl nu)) [(0,x0),(1,x1),(5,x5)] h = (xbuiltin P .len [27] [x0] h).go .pan fun t1 h => (xbin P .lss 3 x5 t1 h).go .pan fun t2 h => ifV t2 (j4 P cl nu nu x0 x1 x5 h) (j6 P cl nu nu h) := by kernel_rfl
def l2_eq := @id (l2 P cl nu0 nu0 x0 x1 x5 h = _) (lpN (l2n P cl nu0 x0 x1 x5 h))
theorem j4_eq : j4 P cl nu nu0 x0 x1 x5 h = (xindexAddr P 27 x0 x5 h).go .pan fun t3 h => (xload P 3 t3 h).go .pan fun t4 h => (xindexAddr P 83 x1 t4 h).go .pan fun t5 h => (xload P 4 t5 h).go .pan fun t6 h => (xun P .not t6 h).go .pan fun t7 h => ifV t7 (.ok (.bool false) h) ((xbin P .add 3 x5 (.int .i64 1) h).go .pan fun t8 h => (l2 P cl nu nu x0 x1 t8 h)) := by kernel_rfl
theorem j6_eq : j6 P cl nu nu0 h = .ok (.bool true) h := by kernel_rfl
theorem eq : runX P cl nu an37 Try.f37 [x0,x1] h = l2 P cl nu nu x0 x1 (.int .i64 0) h := by kernel_rfl
end
end F37
namespace F38
noncomputable section
variable (P : Program) (cl : Cl) (nu mu : Nu) (x0 x1 x2 : Value) (h : H)
noncomputable def s := sub (bodyOf Try.f38)
noncomputable def k0 : Ko := kfn P Try.f38.results.toList
def k1 : Ko := kC P cl nu an38 (s [1,1]) (k0 P)
theorem eq : runX P cl nu an38 Try.f38 [x0,x1,x2] h = (xindexAddr P 22 x0 x1 h).ok1 fun t1 h => (xfieldAddr P 55 t1 0 h).ok1 fun t2 h => (xload P 9 t2 h).ok1 fun t3 h => (xindexAddr P 22 x0 x2 h).ok1 fun t4 h => (xfieldAddr P 55 t4 0 h).ok1 fun t5 h => (xload P 9 t5 h).ok1 fun t6 h => bif plain2 t3 t6 then ((xbin P .neq 9 t3 t6 h).ok1 fun t7 h => ifV t7 ((xindexAddr P 22 x0 x1 h).ok1 fun t8 h => (xfieldAddr P 55 t8 0 h).ok1 fun t9 h => (xload P 9 t9 h).ok1 fun t10 h => (xindexAddr P 22 x0 x2 h).ok1 fun t11 h => (xfieldAddr P 55 t11 0 h).ok1 fun t12 h => (xload P 9 t12 h).ok1 fun t13 h => bif plain2 t10 t13 then ((xbin P .lss 9 t10 t13 h).ok1 fun t14 h => .ok t14 h) else .bad) ((xbin P .lss 3 x1 x2 h).go .pan fun t15 h => .ok t15 h)) else .bad := by kernel_rfl
end
end F38
namespace F42
noncomputable section
variable (P : Program) (cl : Cl) (nu mu : Nu) (x0 x1 x2 x3 x5 x6 : Value) (h : H)
noncomputable def s := sub (bodyOf Try.f42)
noncomputable def k0 : Ko := kfn P Try.f42.results.toList
def k1 : Ko := kC P cl nu an42 (s [1,1]) (k0 P)
def k2 : Ko := kblk 0 (k1 P cl nu)
def l2 := mu 5 (lC P cl nu an42 [2,3,5] (s [1,0,1,0,0]) (k2 P cl nu)) [(2,x2),(3,x3),(5,x5)] h
def k3 : Ko := kL P cl nu an42 5 [2,3,5] (s [1,0,1,0,0]) (k2 P cl nu)
def k4 : Ko := kC P cl nu an42 (s [1,0,1,0,0,1]) (k3 P cl nu)
def j4 := mu 8 (evT P cl an42 nu (s [1,0,1,0,0,1]) (k3 P cl nu)) [(2,x2),(3,x3),(5,x5)] h
def k5 : Ko := kC P cl nu an42 (s [1,0,1,0,0,1,1]) (k3 P cl nu)
def k6 : Ko := kblk 1 (k5 P cl nu)
def k7 : Ko := kblk 2 (k6 P cl nu)
def j9 := mu 18 (evT P cl an42 nu (s [1,1]) (k0 P)) [] h
def l5 := mu 11 (lC P cl nu an42 [2,3,5,6] (s [1,0,1,0,0,1,0,0,1,0,0]) (k7 P cl nu)) [(2,x2),(3,x3),(5,x5),(6,x6)] h
def k8 : Ko := kL P cl nu an42 11 [2,3,5,6] (s [1,0,1,0,0,1,0,0,1,0,0]) (k7 P cl nu)
def k9 : Ko := kC P cl nu an42 (s [1,0,1,0,0,1,0,0,1,0,0,1]) (k8 P cl nu)
def j7 := mu 14 (evT P cl an42 nu (s [1,0,1,0,0,1,0,0,1,0,0,1]) (k8 P cl nu)) [(2,x2),(3,x3),(5,x5),(6,x6)] h
def k10 : Ko := kC P cl nu an42 (s [1,0,1,0,0,1,0,0,1,0,0,1,1]) (k8 P cl nu)
def k11 : Ko := kblk 3 (k10 P cl nu)
def j3 := mu 6 (evT P cl an42 nu (s [1,0,1,0,0,1,1]) (k3 P cl nu)) [(2,x2),(3,x3),(5,x5)] h
theorem l2n : evT P cl an42 nu (s [1,0,1,0,0]) (kL P cl nu an42 5 [2,3,5] (s [1,0,1,0,0]) (k2 P cl nu)) [(2,x2),(3,x3),(5,x5)] h = (xfieldAddr P 55 x2 2 h).go .pan fun t3 h => (xload P 52 t3 h).go .pan fun t4 h => (xbuiltin P .len [52] [t4] h).go .pan fun t5 h => (xbin P .lss 3 x5 t5 h).go .pan fun t6 h => ifV t6 (j4 P cl nu nu x2 x3 x5 h) (j9 P cl nu nu h) := by kernel_rfl
def l2_eq := @id (l2 P cl nu0 nu0 x2 x3 x5 h = _) (lpN (l2n P cl nu0 x2 x3 x5 h))
theorem j4_eq : j4 P cl nu nu0 x2 x3 x5 h = l5 P cl nu nu x2 x3 x5 (.int .i64 0) h := by kernel_rfl
theorem j9_eq : j9 P cl nu nu0 h = .ok (.bool false) h := by kernel_rfl
theorem l5n : evT P cl an42 nu (s [1,0,1,0,0,1,0,0,1,0,0]) (kL P cl nu an42 11 [2,3,5,6] (s [1,0,1,0,0,1,0,0,1,0,0]) (k7 P cl nu)) [(2,x2),(3,x3),(5,x5),(6,x6)] h = (xfieldAddr P 55 x3 3 h).go .pan fun t7 h => (xload P 53 t7 h).go .pan fun t8 h => (xbuiltin P .len [53] [t8] h).go .pan fun t9 h => (xbin P .lss 3 x6 t9 h).go .pan fun t10 h => ifV t10 (j7 P cl nu nu x2 x3 x5 x6 h) (j3 P cl nu nu x2 x3 x5 h) := by kernel_rfl
def l5_eq := @id (l5 P cl nu0 nu0 x2 x3 x5 x6 h = _) (lpN (l5n P cl nu0 x2 x3 x5 x6 h))
theorem j7_eq : j7 P cl nu nu0 x2 x3 x5 x6 h = (xfieldAddr P 55 x2 2 h).ok1 fun t11 h => (xload P 52 t11 h).ok1 fun t12 h => (xindexAddr P 52 t12 x5 h).ok1 fun t13 h => (xload P 9 t13 h).ok1 fun t14 h => (xfieldAddr P 55 x3 3 h).ok1 fun t15 h => (xload P 53 t15 h).ok1 fun t16 h => (xindexAddr P 53 t16 x6 h).ok1 fun t17 h => (xfieldAddr P 63 t17 0 h).ok1 fun t18 h => (xload P 9 t18 h).ok1 fun t19 h => bif plain2 t14 t19 then ((xbin P .eql 9 t14 t19 h).ok1 fun t20 h => ifV t20 (.ok (.bool true) h) ((xbin P .add 3 x6 (.int .i64 1) h).go .pan fun t21 h => (l5 P cl nu nu x2 x3 x5 t21 h))) else .bad := by kernel_rfl
theorem j3_eq : j3 P cl nu nu0 x2 x3 x5 h = (xbin P .add 3 x5 (.int .i64 1) h).go .pan fun t22 h => (l2 P cl nu nu x2 x3 t22 h) := by kernel_rfl
theorem eq : runX P cl nu an42 Try.f42 [x0,x1] h = (xbox 55 x0 h).go .pan fun t1 h => (xbox 55 x1 h).go .pan fun t2 h => (l2 P cl nu nu t1 t2 (.int .i64 0) h) := by kernel_rfl
end
end F42
namespace F48
noncomputable section
variable (P : Program) (cl : Cl) (nu mu : Nu) (x0 x1 x5 x6 x7 : Value) (h : H)
noncomputable def s := sub (bodyOf Try.f48)
noncomputable def k0 : Ko := kfn P Try.f48.results.toList
def k1 : Ko := kC P cl nu an48 (s [1,1,1,1,1]) (k0 P)
def k2 : Ko := kblk 0 (k1 P cl nu)
def l4 := mu 9 (lC P cl nu an48 [0,1,5,6] (s [1,1,1,1,0,0,0]) (k2 P cl nu)) [(0,x0),(1,x1),(5,x5),(6,x6)] h
def k3 : Ko := kL P cl nu an48 9 [0,1,5,6] (s [1,1,1,1,0,0,0]) (k2 P cl nu)
def k4 : Ko := kC P cl nu an48 (s [1,1,1,1,0,0,0,1]) (k3 P cl nu)
def j5 := mu 10 (evT P cl an48 nu (s [1,1,1,1,0,0,0,1]) (k3 P cl nu)) [(0,x0),(1,x1),(5,x5),(6,x6)] h
def k5 : Ko := kblk 1 (k3 P cl nu)
def k6 : Ko := kC P cl nu an48 (s [1,1,1,1,0,0,0,1,0,1,1,1]) (k5 P cl nu)
def j12 := mu 24 (evT P cl an48 nu (s [1,1,1,1,1]) (k0 P)) [] h
def j9 := mu 18 (evT P cl an48 nu (s [1,1,1,1,0,0,0,1,0,1,1,1]) (k5 P cl nu)) [(0,x0),(1,x1),(5,x5),(6,x6),(7,x7)] h
theorem l4n : evT P cl an48 nu (s [1,1,1,1,0,0,0]) (kL P cl nu an48 9 [0,1,5,6] (s [1,1,1,1,0,0,0]) (k2 P cl nu)) [(0,x0),(1,x1),(5,x5),(6,x6)] h = (xbuiltin P .len [27] [x6] h).go .pan fun t6 h => (xbin P .gtr 3 t6 (.int .i64 0) h).go .pan fun t7 h => ifV t7 (j5 P cl nu nu x0 x1 x5 x6 h) (j12 P cl nu nu h) := by kernel_rfl
def l4_eq := @id (l4 P cl nu0 nu0 x0 x1 x5 x6 h = _) (lpN (l4n P cl nu0 x0 x1 x5 x6 h))
theorem j5_eq : j5 P cl nu nu0 x0 x1 x5 x6 h = (xbuiltin P .len [27] [x6] h).go .pan fun t8 h => (xbin P .sub 3 t8 (.int .i64 1) h).go .pan fun t9 h => (xindexAddr P 27 x6 t9 h).go .pan fun t10 h => (xload P 3 t10 h).go .pan fun t11 h => (xbuiltin P .len [27] [x6] h).go .pan fun t12 h => (xbin P .sub 3 t12 (.int .i64 1) h).go .pan fun t13 h => (xslice P 27 x6 none (some t13) none h).go .pan fun t14 h => (xbin P .eql 3 t11 x1 h).go .pan fun t15 h => ifV t15 (.ok (.bool true) h) (j9 P cl nu nu x0 x1 x5 t14 t11 h) := by kernel_rfl
theorem j12_eq : j12 P cl nu nu0 h = .ok (.bool false) h := by kernel_rfl
theorem j9_eq : j9 P cl nu nu0 x0 x1 x5 x6 x7 h = (xindexAddr P 83 x5 x7 h).go .pan fun t16 h => (xload P 4 t16 h).go .pan fun t17 h => (xun P .not t17 h).go .pan fun t18 h => ifV t18 ((xindexAddr P 83 x5 x7 h).go .pan fun t19 h => (xstore P 4 t19 (.bool true) h).go .pan fun t20 h => (xindexAddr P 33 x0 x7 h).go .pan fun t21 h => (xload P 27 t21 h).go .pan fun t22 h => (xbuiltin P .append [27,27] [x6,t22] h).go .pan fun t23 h => (l4 P cl nu nu x0 x1 x5 t23 h)) (l4 P cl nu nu x0 x1 x5 x6 h) := by kernel_rfl
theorem eq : runX P cl nu an48 Try.f48 [x0,x1] h = (xbuiltin P .len [33] [x0] h).go .pan fun t1 h => (xmakeSlice P 83 t1 t1 h).go .pan fun t2 h => (xindexAddr P 33 x0 x1 h).go .pan fun t3 h => (xload P 27 t3 h).go .pan fun t4 h => (xbuiltin P .append [27,27] [(.slice none 0 0),t4] h).go .pan fun t5 h => (l4 P cl nu nu x0 x1 t2 t5 h) := by kernel_rfl
end
end F48
end Go.Proofs.Ytdadiidfhnojcaa.K
namespace Go.Proofs.Ytdadiidfhnojcaa.K
open Go Go.Kx
set_option maxRecDepth 20000
set_option linter.unusedVariables false
set_option linter.defProp false
namespace F3
noncomputable section
variable (P : Program) (cl : Cl) (nu mu : Nu) (x0 x1 : Value) (h : H)
noncomputable def s := sub (bodyOf Try.f3)
noncomputable def k0 : Ko := kfn P Try.f3.results.toList
theorem eq : runX P cl nu an3 Try.f3 [x0,x1] h = (cl (.f 10) [x0] h).go .pan fun t1 h => (cl (.f 9) [t1,x1] h).go .pan fun t2 h => ifV t2 ((cl (.f 11) [] h).go .pan fun t3 h => .ok t3 h) (.ok (.bool false) h) := by kernel_rfl
end
end F3
namespace F9
noncomputable section
variable (P : Program) (cl : Cl) (nu mu : Nu) (x0 x1 x5 x14 : Value) (h : H)
noncomputable def s := sub (bodyOf Try.f9)
noncomputable def k0 : Ko := kfn P Try.f9.results.toList
def k1 : Ko := kC P cl nu an9 (s [1,1,1,1,1]) (k0 P)
def j6 := mu 12 (evT P cl an9 nu (s [1,1,1,1,1]) (k0 P)) [(0,x0),(1,x1),(5,x5)] h
def k2 : Ko := kC P cl nu an9 (s [1,1,1,1,1,1,1,1]) (k0 P)
def j10 := mu 20 (evT P cl an9 nu (s [1,1,1,1,1,1,1,1]) (k0 P)) [(0,x0),(1,x1),(5,x5)] h
def k3 : Ko := kC P cl nu an9 (s [1,1,1,1,1,1,1,1,1]) (k0 P)
def k4 : Ko := kblk 0 (k3 P cl nu)
def l11 := mu 23 (lC P cl nu an9 [0,1,5,14] (s [1,1,1,1,1,1,1,1,0,1,0,0]) (k4 P cl nu)) [(0,x0),(1,x1),(5,x5),(14,x14)] h
def k5 : Ko := kL P cl nu an9 23 [0,1,5,14] (s [1,1,1,1,1,1,1,1,0,1,0,0]) (k4 P cl nu)
def k6 : Ko := kC P cl nu an9 (s [1,1,1,1,1,1,1,1,0,1,0,0,1]) (k5 P cl nu)
def j13 := mu 26 (evT P cl an9 nu (s [1,1,1,1,1,1,1,1,0,1,0,0,1]) (k5 P cl nu)) [(0,x0),(1,x1),(5,x5),(14,x14)] h
def k7 : Ko := kC P cl nu an9 (s [1,1,1,1,1,1,1,1,0,1,0,0,1,1]) (k5 P cl nu)
def k8 : Ko := kblk 1 (k7 P cl nu)
def j15 := mu 30 (evT P cl an9 nu (s [1,1,1,1,1,1,1,1,1]) (k0 P)) [(0,x0),(1,x1),(5,x5)] h
theorem j6_eq : j6 P cl nu nu0 x0 x1 x5 h = (cl (.f 15) [x5] h).go .pan fun t15 h => (xextract t15 0 h).go .pan fun t16 h => (xextract t15 1 h).go .pan fun t17 h => (xextract t15 2 h).go .pan fun t18 h => (cl (.f 16) [x0] h).go .pan fun t19 h => (xextract t19 0 h).go .pan fun t20 h => (xextract t19 1 h).go .pan fun t21 h => (xextract t19 2 h).go .pan fun t22 h => (cl (.f 19) [t16,t20] h).go .pan fun t23 h => (xun P .not t23 h).go .pan fun t24 h => ifV t24 (.ok (.bool false) h) ((cl (.f 18) [t17] h).go .pan fun t25 h => (xbin P .neq 3 t25 t21 h).go .pan fun t26 h => ifV t26 (.ok (.bool false) h) ((xbin P .neq 9 t18 t22 h).go .pan fun t27 h => ifV t27 (.ok (.bool false) h) (j10 P cl nu nu x0 x1 x5 h))) := by kernel_rfl
theorem j10_eq : j10 P cl nu nu0 x0 x1 x5 h = l11 P cl nu nu x0 x1 x5 (.int .i64 0) h := by kernel_rfl
theorem l11n : evT P cl an9 nu (s [1,1,1,1,1,1,1,1,0,1,0,0]) (kL P cl nu an9 23 [0,1,5,14] (s [1,1,1,1,1,1,1,1,0,1,0,0]) (k4 P cl nu)) [(0,x0),(1,x1),(5,x5),(14,x14)] h = (xbuiltin P .len [22] [x0] h).go .pan fun t28 h => (xbin P .lss 3 x14 t28 h).go .pan fun t29 h => ifV t29 (j13 P cl nu nu x0 x1 x5 x14 h) (j15 P cl nu nu x0 x1 x5 h) := by kernel_rfl
def l11_eq := @id (l11 P cl nu0 nu0 x0 x1 x5 x14 h = _) (lpN (l11n P cl nu0 x0 x1 x5 x14 h))
theorem j13_eq : j13 P cl nu nu0 x0 x1 x5 x14 h = (cl (.f 21) [x5,x14] h).go .pan fun t30 h => (cl (.f 22) [x0,x14] h).go .pan fun t31 h => (cl (.f 17) [t30,t31] h).go .pan fun t32 h => (xun P .not t32 h).go .pan fun t33 h => ifV t33 (.ok (.bool false) h) ((xbin P .add 3 x14 (.int .i64 1) h).go .pan fun t34 h => (l11 P cl nu nu x0 x1 x5 t34 h)) := by kernel_rfl
theorem j15_eq : j15 P cl nu nu0 x0 x1 x5 h = (cl (.f 21) [x5,x1] h).go .pan fun t35 h => (cl (.f 22) [x0,x1] h).go .pan fun t36 h => (cl (.f 17) [t35,t36] h).go .pan fun t37 h => ifV t37 ((cl (.f 31) [x5,x0] h).go .pan fun t38 h => .ok t38 h) (.ok (.bool false) h) := by kernel_rfl
theorem eq : runX P cl nu an9 Try.f9 [x0,x1] h = (cl (.f 12) [x0] h).go .pan fun t1 h => (cl (.f 13) [t1] h).go .pan fun t2 h => (xextract t2 0 h).go .pan fun t3 h => (xextract t2 1 h).go .pan fun t4 h => (xextract t2 2 h).go .pan fun t5 h => (cl (.f 14) [x0] h).go .pan fun t6 h => (xextract t6 0 h).go .pan fun t7 h => (xextract t6 1 h).go .pan fun t8 h => (xextract t6 2 h).go .pan fun t9 h => (cl (.f 17) [t3,t7] h).go .pan fun t10 h => (xun P .not t10 h).go .pan fun t11 h => ifV t11 (.ok (.bool false) h) ((cl (.f 18) [t4] h).go .pan fun t12 h => (xbin P .neq 3 t12 t8 h).go .pan fun t13 h => ifV t13 (.ok (.bool false) h) ((xbin P .neq 9 t5 t9 h).go .pan fun t14 h => ifV t14 (.ok (.bool false) h) (j6 P cl nu nu x0 x1 t1 h))) := by kernel_rfl
end
end F9
namespace F10
noncomputable section
variable (P : Program) (cl : Cl) (nu mu : Nu) (x0 x3 x4 x11 x12 : Value) (h : H)
noncomputable def s := sub (bodyOf Try.f10)
noncomputable def k0 : Ko := kfn P Try.f10.results.toList
def k1 : Ko := kC P cl nu an10 (s [1,1,1]) (k0 P)
def k2 : Ko := kblk 0 (k1 P cl nu)
def l3 := mu 7 (lC P cl nu an10 [0,3,4] (s [1,1,0,1,0,0]) (k2 P cl nu)) [(0,x0),(3,x3),(4,x4)] h
def k3 : Ko := kL P cl nu an10 7 [0,3,4] (s [1,1,0,1,0,0]) (k2 P cl nu)
def k4 : Ko := kC P cl nu an10 (s [1,1,0,1,0,0,1]) (k3 P cl nu)
def j5 := mu 10 (evT P cl an10 nu (s [1,1,0,1,0,0,1]) (k3 P cl nu)) [(0,x0),(3,x3),(4,x4),(11,x11),(12,x12)] h
def k5 : Ko := kC P cl nu an10 (s [1,1,0,1,0,0,1,1]) (k3 P cl nu)
def k6 : Ko := kblk 1 (k5 P cl nu)
def j9 := mu 18 (evT P cl an10 nu (s [1,1,1]) (k0 P)) [(3,x3)] h
theorem l3n : evT P cl an10 nu (s [1,1,0,1,0,0]) (kL P cl nu an10 7 [0,3,4] (s [1,1,0,1,0,0]) (k2 P cl nu)) [(0,x0),(3,x3),(4,x4)] h = (xbuiltin P .len [22] [x0] h).go .pan fun t1 h => (xbin P .lss 3 x4 t1 h).go .pan fun t2 h => ifV t2 ((xbin P .lss 3 x4 (.int .i64 60) h).go .pan fun t3 h => ifV t3 (j5 P cl nu nu x0 x3 x4 x4 t3 h) (j9 P cl nu nu x3 h)) (j9 P cl nu nu x3 h) := by kernel_rfl
def l3_eq := @id (l3 P cl nu0 nu0 x0 x3 x4 h = _) (lpN (l3n P cl nu0 x0 x3 x4 h))
theorem j5_eq : j5 P cl nu nu0 x0 x3 x4 x11 x12 h = (xindexAddr P 22 x0 x4 h).go .pan fun t4 h => (xload P 55 t4 h).go .pan fun t5 h => (xalloc P 55 h).go .pan fun t6 h => (xstore P 55 t6 t5 h).go .pan fun t7 h => (xfieldAddr P 55 t6 2 h).go .pan fun t8 h => (xload P 52 t8 h).go .pan fun t9 h => (xfieldAddr P 55 t6 2 h).go .pan fun t10 h => (xload P 52 t10 h).go .pan fun t11 h => (xbuiltin P .len [52] [t11] h).go .pan fun t12 h => (xbuiltin P .min [3,3] [t12,(.int .i64 12)] h).go .pan fun t13 h => (xslice P 52 t9 none (some t13) none h).go .pan fun t14 h => (xfieldAddr P 55 t6 2 h).go .pan fun t15 h => (xstore P 52 t15 t14 h).go .pan fun t16 h => (xfieldAddr P 55 t6 3 h).go .pan fun t17 h => (xload P 53 t17 h).go .pan fun t18 h => (xfieldAddr P 55 t6 3 h).go .pan fun t19 h => (xload P 53 t19 h).go .pan fun t20 h => (xbuiltin P .len [53] [t20] h).go .pan fun t21 h => (xbuiltin P .min [3,3] [t21,(.int .i64 12)] h).go .pan fun t22 h => (xslice P 53 t18 none (some t22) none h).go .pan fun t23 h => (xfieldAddr P 55 t6 3 h).go .pan fun t24 h => (xstore P 53 t24 t23 h).go .pan fun t25 h => (xload P 55 t6 h).go .pan fun t26 h => (xbuildSlice P 22 1 [(0,t26)] h).go .pan fun t27 h => (xbuiltin P .append [22,22] [x3,t27] h).go .pan fun t28 h => (xbin P .add 3 x4 (.int .i64 1) h).go .pan fun t29 h => (l3 P cl nu nu x0 t28 t29 h) := by kernel_rfl
theorem j9_eq : j9 P cl nu nu0 x3 h = .ok x3 h := by kernel_rfl
theorem eq : runX P cl nu an10 Try.f10 [x0] h = l3 P cl nu nu x0 (.slice none 0 0) (.int .i64 0) h := by kernel_rfl
end
end F10
namespace F11
noncomputable section
variable (P : Program) (cl : Cl) (nu mu : Nu) (h : H)
noncomputable def s := sub (bodyOf Try.f11)
noncomputable def k0 : Ko := kfn P Try.f11.results.toList
theorem eq : runX P cl nu an11 Try.f11 [] h = (xbuild P 63 [(0,(.string ⟨#[120]⟩))] h).go .pan fun t1 h => (xbuildSlice P 53 1 [(0,t1)] h).go .pan fun t2 h => (xbuild P 55 [(0,(.string ⟨#[98]⟩)),(3,t2)] h).go .pan fun t3 h => (xbuildSlice P 52 1 [(0,(.string ⟨#[120]⟩))] h).go .pan fun t4 h => (xbuild P 63 [(0,(.string ⟨#[121]⟩))] h).go .pan fun t5 h => (xbuildSlice P 53 1 [(0,t5)] h).go .pan fun t6 h => (xbuild P 55 [(0,(.string ⟨#[97]⟩)),(2,t4),(3,t6)] h).go .pan fun t7 h => (xbuildSlice P 52 3 [(0,(.string ⟨#[121]⟩)),(1,(.string ⟨#[120]⟩)),(2,(.string ⟨#[115,114,99]⟩))] h).go .pan fun t8 h => (xbuild P 55 [(0,(.string ⟨#[99]⟩)),(2,t8)] h).go .pan fun t9 h => (xbuild P 55 [(0,(.string ⟨#[97,50]⟩))] h).go .pan fun t10 h => (xbuildSlice P 22 4 [(0,t3),(1,t7),(2,t9),(3,t10)] h).go .pan fun t11 h => (cl (.f 13) [t11] h).go .pan fun t12 h => (xextract t12 0 h).go .pan fun t13 h => (xextract t12 1 h).go .pan fun t14 h => (xextract t12 2 h).go .pan fun t15 h => (xbuildSlice P 52 1 [(0,(.string ⟨#[112]⟩))] h).go .pan fun t16 h => (xbuild P 63 [(0,(.string ⟨#[112]⟩))] h).go .pan fun t17 h => (xbuildSlice P 53 1 [(0,t17)] h).go .pan fun t18 h => (xbuild P 55 [(0,(.string ⟨#[116]⟩)),(2,t16),(3,t18)] h).go .pan fun t19 h => (xbuildSlice P 22 1 [(0,t19)] h).go .pan fun t20 h => (cl (.f 13) [t20] h).go .pan fun t21 h => (xextract t21 0 h).go .pan fun t22 h => (xextract t21 1 h).go .pan fun t23 h => (xextract t21 2 h).go .pan fun t24 h => (xbuildSlice P 27 4 [(0,(.int .i64 3)),(1,(.int .i64 0)),(2,(.int .i64 1)),(3,(.int .i64 2))] h).go .pan fun t25 h => (cl (.f 17) [t13,t25] h).go .pan fun t26 h => ifV t26 ((cl (.f 18) [t14] h).go .pan fun t27 h => (xbin P .eql 3 t27 (.int .i64 0) h).go .pan fun t28 h => ifV t28 ((xbin P .eql 9 t15 (.string ⟨#[]⟩) h).go .pan fun t29 h => ifV t29 ((xbuiltin P .len [27] [t22] h).go .pan fun t30 h => (xbin P .eql 3 t30 (.int .i64 0) h).go .pan fun t31 h => ifV t31 ((cl (.f 18) [t23] h).go .pan fun t32 h => (xbin P .eql 3 t32 (.int .i64 130) h).go .pan fun t33 h => ifV t33 ((xbin P .eql 9 t24 (.string ⟨#[116]⟩) h).go .pan fun t34 h => ifV t34 ((cl (.f 21) [t11,(.int .i64 4)] h).go .pan fun t35 h => (xbuiltin P .len [27] [t35] h).go .pan fun t36 h => (xbin P .eql 3 t36 (.int .i64 0) h).go .pan fun t37 h => ifV t37 ((cl (.f 21) [t11,(.int .i64 (-1))] h).go .pan fun t38 h => (xbuiltin P .len [27] [t38] h).go .pan fun t39 h => (xbin P .eql 3 t39 (.int .i64 0) h).go .pan fun t40 h => .ok t40 h) (.ok (.bool false) h)) (.ok (.bool false) h)) (.ok (.bool false) h)) (.ok (.bool false) h)) (.ok (.bool false) h)) (.ok (.bool false) h)) (.ok (.bool false) h) := by kernel_rfl
end
end F11
namespace F12
noncomputable section
variable (P : Program) (cl : Cl) (nu mu : Nu) (x0 x3 x4 x5 x6 x7 : Value) (h : H)
noncomputable def s := sub (bodyOf Try.f12)
noncomputable def k0 : Ko := kfn P Try.f12.results.toList
def k1 : Ko := kC P cl nu an12 (s [1,1,1]) (k0 P)
def k2 : Ko := kblk 0 (k1 P cl nu)
def l3 := mu 7 (lC P cl nu an12 [0,3,4] (s [1,1,0,1,0,0]) (k2 P cl nu)) [(0,x0),(3,x3),(4,x4)] h
def k3 : Ko := kL P cl nu an12 7 [0,3,4] (s [1,1,0,1,0,0]) (k2 P cl nu)
def k4 : Ko := kC P cl nu an12 (s [1,1,0,1,0,0,1]) (k3 P cl nu)
def j5 := mu 10 (evT P cl an12 nu (s [1,1,0,1,0,0,1]) (k3 P cl nu)) [(0,x0),(3,x3),(4,x4)] h
def k5 : Ko := kC P cl nu an12 (s [1,1,0,1,0,0,1,1]) (k3 P cl nu)
def k6 : Ko := kblk 1 (k5 P cl nu)
def k7 : Ko := kC P cl nu an12 (s [1,1,0,1,0,0,1,0,0,1]) (k6 P cl nu)
def j19 := mu 38 (evT P cl an12 nu (s [1,1,1]) (k0 P)) [(0,x0),(3,x3)] h
def j4 := mu 8 (evT P cl an12 nu (s [1,1,0,1,0,0,1,1]) (k3 P cl nu)) [(0,x0),(3,x3),(4,x4)] h
def j7 := mu 14 (evT P cl an12 nu (s [1,1,0,1,0,0,1,0,0,1]) (k6 P cl nu)) [(0,x0),(3,x3),(4,x4)] h
def k8 : Ko := kC P cl nu an12 (s [1,1,0,1,0,0,1,0,0,1,1,1,1,1,1]) (k6 P cl nu)
def k9 : Ko := kblk 2 (k8 P cl nu)
def l12 := mu 25 (lC P cl nu an12 [0,3,4,5,6,7] (s [1,1,0,1,0,0,1,0,0,1,1,1,1,1,0,1,0,0]) (k9 P cl nu)) [(0,x0),(3,x3),(4,x4),(5,x5),(6,x6),(7,x7)] h
def k10 : Ko := kL P cl nu an12 25 [0,3,4,5,6,7] (s [1,1,0,1,0,0,1,0,0,1,1,1,1,1,0,1,0,0]) (k9 P cl nu)
def k11 : Ko := kC P cl nu an12 (s [1,1,0,1,0,0,1,0,0,1,1,1,1,1,0,1,0,0,1]) (k10 P cl nu)
def j14 := mu 28 (evT P cl an12 nu (s [1,1,0,1,0,0,1,0,0,1,1,1,1,1,0,1,0,0,1]) (k10 P cl nu)) [(0,x0),(3,x3),(4,x4),(5,x5),(6,x6),(7,x7)] h
def k12 : Ko := kC P cl nu an12 (s [1,1,0,1,0,0,1,0,0,1,1,1,1,1,0,1,0,0,1,1]) (k10 P cl nu)
def k13 : Ko := kblk 3 (k12 P cl nu)
def j16 := mu 32 (evT P cl an12 nu (s [1,1,0,1,0,0,1,0,0,1,1,1,1,1,1]) (k6 P cl nu)) [(0,x0),(3,x3),(4,x4),(5,x5),(6,x6)] h
theorem l3n : evT P cl an12 nu (s [1,1,0,1,0,0]) (kL P cl nu an12 7 [0,3,4] (s [1,1,0,1,0,0]) (k2 P cl nu)) [(0,x0),(3,x3),(4,x4)] h = (xbuiltin P .len [22] [x3] h).go .pan fun t4 h => (xbin P .lss 3 x4 t4 h).go .pan fun t5 h => ifV t5 (j5 P cl nu nu x0 x3 x4 h) (j19 P cl nu nu x0 x3 h) := by kernel_rfl
def l3_eq := @id (l3 P cl nu0 nu0 x0 x3 x4 h = _) (lpN (l3n P cl nu0 x0 x3 x4 h))
theorem j5_eq : j5 P cl nu nu0 x0 x3 x4 h = (xbuiltin P .len [22] [x0] h).go .pan fun t6 h => (xbin P .geq 3 x4 t6 h).go .pan fun t7 h => ifV t7 ((xbuild P 55 [(0,(.string ⟨#[114,111,111,109]⟩))] h).go .pan fun t8 h => (xindexAddr P 22 x3 x4 h).go .pan fun t9 h => (xstore P 55 t9 t8 h).go .pan fun t10 h => (j4 P cl nu nu x0 x3 x4 h)) (j7 P cl nu nu x0 x3 x4 h) := by kernel_rfl
theorem j19_eq : j19 P cl nu nu0 x0 x3 h = (xbuiltin P .len [22] [x0] h).go .pan fun t11 h => (xslice P 22 x3 none (some t11) none h).go .pan fun t12 h => .ok t12 h := by kernel_rfl
theorem j4_eq : j4 P cl nu nu0 x0 x3 x4 h = (xbin P .add 3 x4 (.int .i64 1) h).go .pan fun t13 h => (l3 P cl nu nu x0 x3 t13 h) := by kernel_rfl
theorem j7_eq : j7 P cl nu nu0 x0 x3 x4 h = (xindexAddr P 22 x0 x4 h).go .pan fun t14 h => (xfieldAddr P 55 t14 2 h).go .pan fun t15 h => (xload P 52 t15 h).go .pan fun t16 h => (xbuiltin P .len [52] [t16] h).go .pan fun t17 h => (xbin P .add 3 t17 (.int .i64 3) h).go .pan fun t18 h => (xmakeSlice P 52 t18 t18 h).go .pan fun t19 h => (xindexAddr P 22 x0 x4 h).go .pan fun t20 h => (xfieldAddr P 55 t20 3 h).go .pan fun t21 h => (xload P 53 t21 h).go .pan fun t22 h => (xbuiltin P .len [53] [t22] h).go .pan fun t23 h => (xbin P .add 3 t23 (.int .i64 3) h).go .pan fun t24 h => (xmakeSlice P 53 t24 t24 h).go .pan fun t25 h => (xindexAddr P 22 x0 x4 h).go .pan fun t26 h => (xfieldAddr P 55 t26 2 h).go .pan fun t27 h => (xload P 52 t27 h).go .pan fun t28 h => (xbuiltin P .copy [52,52] [t19,t28] h).go .pan fun t29 h => (xindexAddr P 22 x0 x4 h).go .pan fun t30 h => (xfieldAddr P 55 t30 3 h).go .pan fun t31 h => (xload P 53 t31 h).go .pan fun t32 h => (xbuiltin P .copy [53,53] [t25,t32] h).go .pan fun t33 h => (l12 P cl nu nu x0 x3 x4 t19 t25 (.int .i64 0) h) := by kernel_rfl
theorem l12n : evT P cl an12 nu (s [1,1,0,1,0,0,1,0,0,1,1,1,1,1,0,1,0,0]) (kL P cl nu an12 25 [0,3,4,5,6,7] (s [1,1,0,1,0,0,1,0,0,1,1,1,1,1,0,1,0,0]) (k9 P cl nu)) [(0,x0),(3,x3),(4,x4),(5,x5),(6,x6),(7,x7)] h = (xbin P .lss 3 x7 (.int .i64 3) h).go .pan fun t34 h => ifV t34 (j14 P cl nu nu x0 x3 x4 x5 x6 x7 h) (j16 P cl nu nu x0 x3 x4 x5 x6 h) := by kernel_rfl
def l12_eq := @id (l12 P cl nu0 nu0 x0 x3 x4 x5 x6 x7 h = _) (lpN (l12n P cl nu0 x0 x3 x4 x5 x6 x7 h))
theorem j14_eq : j14 P cl nu nu0 x0 x3 x4 x5 x6 x7 h = (xindexAddr P 22 x0 x4 h).go .pan fun t35 h => (xfieldAddr P 55 t35 2 h).go .pan fun t36 h => (xload P 52 t36 h).go .pan fun t37 h => (xbuiltin P .len [52] [t37] h).go .pan fun t38 h => (xbin P .add 3 t38 x7 h).go .pan fun t39 h => (xindexAddr P 52 x5 t39 h).go .pan fun t40 h => (xstore P 9 t40 (.string ⟨#[114,111,111,109]⟩) h).go .pan fun t41 h => (xindexAddr P 22 x0 x4 h).go .pan fun t42 h => (xfieldAddr P 55 t42 3 h).go .pan fun t43 h => (xload P 53 t43 h).go .pan fun t44 h => (xbuiltin P .len [53] [t44] h).go .pan fun t45 h => (xbin P .add 3 t45 x7 h).go .pan fun t46 h => (xindexAddr P 53 x6 t46 h).go .pan fun t47 h => (xfieldAddr P 63 t47 0 h).go .pan fun t48 h => (xstore P 9 t48 (.string ⟨#[114,111,111,109]⟩) h).go .pan fun t49 h => (xbin P .add 3 x7 (.int .i64 1) h).go .pan fun t50 h => (l12 P cl nu nu x0 x3 x4 x5 x6 t50 h) := by kernel_rfl
theorem j16_eq : j16 P cl nu nu0 x0 x3 x4 x5 x6 h = (xindexAddr P 22 x0 x4 h).go .pan fun t51 h => (xload P 55 t51 h).go .pan fun t52 h => (xindexAddr P 22 x3 x4 h).go .pan fun t53 h => (xstore P 55 t53 t52 h).go .pan fun t54 h => (xindexAddr P 22 x0 x4 h).go .pan fun t55 h => (xfieldAddr P 55 t55 2 h).go .pan fun t56 h => (xload P 52 t56 h).go .pan fun t57 h => (xbuiltin P .len [52] [t57] h).go .pan fun t58 h => (xslice P 52 x5 none (some t58) none h).go .pan fun t59 h => (xindexAddr P 22 x3 x4 h).go .pan fun t60 h => (xfieldAddr P 55 t60 2 h).go .pan fun t61 h => (xstore P 52 t61 t59 h).go .pan fun t62 h => (xindexAddr P 22 x0 x4 h).go .pan fun t63 h => (xfieldAddr P 55 t63 3 h).go .pan fun t64 h => (xload P 53 t64 h).go .pan fun t65 h => (xbuiltin P .len [53] [t65] h).go .pan fun t66 h => (xslice P 53 x6 none (some t66) none h).go .pan fun t67 h => (xindexAddr P 22 x3 x4 h).go .pan fun t68 h => (xfieldAddr P 55 t68 3 h).go .pan fun t69 h => (xstore P 53 t69 t67 h).go .pan fun t70 h => (j4 P cl nu nu x0 x3 x4 h) := by kernel_rfl
theorem eq : runX P cl nu an12 Try.f12 [x0] h = (xbuiltin P .len [22] [x0] h).go .pan fun t1 h => (xbin P .add 3 t1 (.int .i64 3) h).go .pan fun t2 h => (xmakeSlice P 22 t2 t2 h).go .pan fun t3 h => (l3 P cl nu nu x0 t3 (.int .i64 0) h) := by kernel_rfl
end
end F12
namespace F17
noncomputable section
variable (P : Program) (cl : Cl) (nu mu : Nu) (x0 x1 x5 : Value) (h : H)
noncomputable def s := sub (bodyOf Try.f17)
noncomputable def k0 : Ko := kfn P Try.f17.results.toList
def k1 : Ko := kC P cl nu an17 (s [1,1]) (k0 P)
def j3 := mu 6 (evT P cl an17 nu (s [1,1]) (k0 P)) [(0,x0),(1,x1)] h
def k2 : Ko := kC P cl nu an17 (s [1,1,1]) (k0 P)
def k3 : Ko := kblk 0 (k2 P cl nu)
def l4 := mu 9 (lC P cl nu an17 [0,1,5] (s [1,1,0,1,0,0]) (k3 P cl nu)) [(0,x0),(1,x1),(5,x5)] h
def k4 : Ko := kL P cl nu an17 9 [0,1,5] (s [1,1,0,1,0,0]) (k3 P cl nu)
def k5 : Ko := kC P cl nu an17 (s [1,1,0,1,0,0,1]) (k4 P cl nu)
def j6 := mu 12 (evT P cl an17 nu (s [1,1,0,1,0,0,1]) (k4 P cl nu)) [(0,x0),(1,x1),(5,x5)] h
def k6 : Ko := kC P cl nu an17 (s [1,1,0,1,0,0,1,1]) (k4 P cl nu)
def k7 : Ko := kblk 1 (k6 P cl nu)
def j8 := mu 16 (evT P cl an17 nu (s [1,1,1]) (k0 P)) [] h
theorem j3_eq : j3 P cl nu nu0 x0 x1 h = l4 P cl nu nu x0 x1 (.int .i64 0) h := by kernel_rfl
theorem l4n : evT P cl an17 nu (s [1,1,0,1,0,0]) (kL P cl nu an17 9 [0,1,5] (s [1,1,0,1,0,0]) (k3 P cl nu)) [(0,x0),(1,x1),(5,x5)] h = (xbuiltin P .len [27] [x0] h).go .pan fun t4 h => (xbin P .lss 3 x5 t4 h).go .pan fun t5 h => ifV t5 (j6 P cl nu nu x0 x1 x5 h) (j8 P cl nu nu h) := by kernel_rfl
def l4_eq := @id (l4 P cl nu0 nu0 x0 x1 x5 h = _) (lpN (l4n P cl nu0 x0 x1 x5 h))
theorem j6_eq : j6 P cl nu nu0 x0 x1 x5 h = (xindexAddr P 27 x0 x5 h).ok1 fun t6 h => (xload P 3 t6 h).ok1 fun t7 h => (xindexAddr P 27 x1 x5 h).ok1 fun t8 h => (xload P 3 t8 h).ok1 fun t9 h => bif plain2 t7 t9 then ((xbin P .neq 3 t7 t9 h).ok1 fun t10 h => ifV t10 (.ok (.bool false) h) ((xbin P .add 3 x5 (.int .i64 1) h).go .pan fun t11 h => (l4 P cl nu nu x0 x1 t11 h))) else .bad := by kernel_rfl
theorem j8_eq : j8 P cl nu nu0 h = .ok (.bool true) h := by kernel_rfl
theorem eq : runX P cl nu an17 Try.f17 [x0,x1] h = (xbuiltin P .len [27] [x0] h).go .pan fun t1 h => (xbuiltin P .len [27] [x1] h).go .pan fun t2 h => (xbin P .neq 3 t1 t2 h).go .pan fun t3 h => ifV t3 (.ok (.bool false) h) (j3 P cl nu nu x0 x1 h) := by kernel_rfl
end
end F17
namespace F18
noncomputable section
variable (P : Program) (cl : Cl) (nu mu : Nu) (x0 : Value) (h : H)
noncomputable def s := sub (bodyOf Try.f18)
noncomputable def k0 : Ko := kfn P Try.f18.results.toList
theorem eq : runX P cl nu an18 Try.f18 [x0] h = .ok x0 h := by kernel_rfl
end
end F18
namespace F19
noncomputable section
variable (P : Program) (cl : Cl) (nu mu : Nu) (x0 x1 x5 : Value) (h : H)
noncomputable def s := sub (bodyOf Try.f19)
noncomputable def k0 : Ko := kfn P Try.f19.results.toList
def k1 : Ko := kC P cl nu an19 (s [1,1]) (k0 P)
def j3 := mu 6 (evT P cl an19 nu (s [1,1]) (k0 P)) [(0,x0),(1,x1)] h
def k2 : Ko := kC P cl nu an19 (s [1,1,1]) (k0 P)
def k3 : Ko := kblk 0 (k2 P cl nu)
def l4 := mu 9 (lC P cl nu an19 [0,1,5] (s [1,1,0,1,0,0]) (k3 P cl nu)) [(0,x0),(1,x1),(5,x5)] h
def k4 : Ko := kL P cl nu an19 9 [0,1,5] (s [1,1,0,1,0,0]) (k3 P cl nu)
def k5 : Ko := kC P cl nu an19 (s [1,1,0,1,0,0,1]) (k4 P cl nu)
def j6 := mu 12 (evT P cl an19 nu (s [1,1,0,1,0,0,1]) (k4 P cl nu)) [(0,x0),(1,x1),(5,x5)] h
def k6 : Ko := kC P cl nu an19 (s [1,1,0,1,0,0,1,1]) (k4 P cl nu)
def k7 : Ko := kblk 1 (k6 P cl nu)
def j8 := mu 16 (evT P cl an19 nu (s [1,1,1]) (k0 P)) [] h
theorem j3_eq : j3 P cl nu nu0 x0 x1 h = l4 P cl nu nu x0 x1 (.int .i64 0) h := by kernel_rfl
theorem l4n : evT P cl an19 nu (s [1,1,0,1,0,0]) (kL P cl nu an19 9 [0,1,5] (s [1,1,0,1,0,0]) (k3 P cl nu)) [(0,x0),(1,x1),(5,x5)] h = (xbuiltin P .len [33] [x0] h).go .pan fun t4 h => (xbin P .lss 3 x5 t4 h).go .pan fun t5 h => ifV t5 (j6 P cl nu nu x0 x1 x5 h) (j8 P cl nu nu h) := by kernel_rfl
def l4_eq := @id (l4 P cl nu0 nu0 x0 x1 x5 h = _) (lpN (l4n P cl nu0 x0 x1 x5 h))
theorem j6_eq : j6 P cl nu nu0 x0 x1 x5 h = (xindexAddr P 33 x0 x5 h).ok1 fun t6 h => (xload P 27 t6 h).ok1 fun t7 h => (xindexAddr P 33 x1 x5 h).ok1 fun t8 h => (xload P 27 t8 h).ok1 fun t9 h => (cl (.f 17) [t7,t9] h).go .pan fun t10 h => (xun P .not t10 h).ok1 fun t11 h => ifV t11 (.ok (.bool false) h) ((xbin P .add 3 x5 (.int .i64 1) h).go .pan fun t12 h => (l4 P cl nu nu x0 x1 t12 h)) := by kernel_rfl
theorem j8_eq : j8 P cl nu nu0 h = .ok (.bool true) h := by kernel_rfl
theorem eq : runX P cl nu an19 Try.f19 [x0,x1] h = (xbuiltin P .len [33] [x0] h).go .pan fun t1 h => (xbuiltin P .len [33] [x1] h).go .pan fun t2 h => (xbin P .neq 3 t1 t2 h).go .pan fun t3 h => ifV t3 (.ok (.bool false) h) (j3 P cl nu nu x0 x1 h) := by kernel_rfl
end
end F19
namespace F20
noncomputable section
variable (P : Program) (cl : Cl) (nu mu : Nu) (x0 x1 x2 : Value) (h : H)
noncomputable def s := sub (bodyOf Try.f20)
noncomputable def k0 : Ko := kfn P Try.f20.results.toList
def k1 : Ko := kC P cl nu an20 (s [1,1,1]) (k0 P)
theorem eq : runX P cl nu an20 Try.f20 [x0,x1,x2] h = (xbin P .sub 3 x2 x1 h).go .pan fun t1 h => (xbin P .add 3 t1 (.int .i64 1) h).go .pan fun t2 h => (xbin P .rem 3 x0 t2 h).go .pan fun t3 h => (xbin P .lss 3 t3 (.int .i64 0) h).go .pan fun t4 h => ifV t4 ((xbin P .add 3 t3 x2 h).go .pan fun t5 h => (xbin P .sub 3 t5 x1 h).go .pan fun t6 h => (xbin P .add 3 t6 (.int .i64 1) h).go .pan fun t7 h => (xbin P .add 3 x1 t7 h).go .pan fun t8 h => .ok t8 h) ((xbin P .add 3 x1 t3 h).go .pan fun t9 h => .ok t9 h) := by kernel_rfl
end
end F20
namespace F31
noncomputable section
variable (P : Program) (cl : Cl) (nu mu : Nu) (x0 x1 x5 x6 x7 x9 : Value) (h : H)
noncomputable def s := sub (bodyOf Try.f31)
noncomputable def k0 : Ko := kfn P Try.f31.results.toList
def k1 : Ko := kC P cl nu an31 (s [1,1]) (k0 P)
def k2 : Ko := kblk 0 (k1 P cl nu)
def l2 := mu 5 (lC P cl nu an31 [0,1,5] (s [1,0,1,0,0]) (k2 P cl nu)) [(0,x0),(1,x1),(5,x5)] h
def k3 : Ko := kL P cl nu an31 5 [0,1,5] (s [1,0,1,0,0]) (k2 P cl nu)
def k4 : Ko := kC P cl nu an31 (s [1,0,1,0,0,1]) (k3 P cl nu)
def j4 := mu 8 (evT P cl an31 nu (s [1,0,1,0,0,1]) (k3 P cl nu)) [(0,x0),(1,x1),(5,x5)] h
def k5 : Ko := kC P cl nu an31 (s [1,0,1,0,0,1,1]) (k3 P cl nu)
def k6 : Ko := kblk 1 (k5 P cl nu)
def k7 : Ko := kC P cl nu an31 (s [1,0,1,0,0,1,0,0,1,1]) (k6 P cl nu)
def k8 : Ko := kC P cl nu an31 (s [1,0,1,0,0,1,0,0,1,0,1,0,1]) (k7 P cl nu)
def j22 := mu 44 (evT P cl an31 nu (s [1,1]) (k0 P)) [] h
def j3 := mu 6 (evT P cl an31 nu (s [1,0,1,0,0,1,1]) (k3 P cl nu)) [(0,x0),(1,x1),(5,x5)] h
def j8 := mu 16 (evT P cl an31 nu (s [1,0,1,0,0,1,0,0,1,1]) (k6 P cl nu)) [(0,x0),(1,x1),(5,x5),(6,x6)] h
def k9 : Ko := kC P cl nu an31 (s [1,0,1,0,0,1,0,0,1,1,1]) (k6 P cl nu)
def j10 := mu 20 (evT P cl an31 nu (s [1,0,1,0,0,1,0,0,1,1,1]) (k6 P cl nu)) [(0,x0),(1,x1),(5,x5),(6,x6)] h
def k10 : Ko := kC P cl nu an31 (s [1,0,1,0,0,1,0,0,1,1,1,1]) (k6 P cl nu)
def k11 : Ko := kblk 2 (k10 P cl nu)
def l11 := mu 23 (lC P cl nu an31 [0,1,5,6,7] (s [1,0,1,0,0,1,0,0,1,1,1,0,1,0,0]) (k11 P cl nu)) [(0,x0),(1,x1),(5,x5),(6,x6),(7,x7)] h
def k12 : Ko := kL P cl nu an31 23 [0,1,5,6,7] (s [1,0,1,0,0,1,0,0,1,1,1,0,1,0,0]) (k11 P cl nu)
def k13 : Ko := kC P cl nu an31 (s [1,0,1,0,0,1,0,0,1,1,1,0,1,0,0,1]) (k12 P cl nu)
def j13 := mu 26 (evT P cl an31 nu (s [1,0,1,0,0,1,0,0,1,1,1,0,1,0,0,1]) (k12 P cl nu)) [(0,x0),(1,x1),(5,x5),(6,x6),(7,x7)] h
def k14 : Ko := kC P cl nu an31 (s [1,0,1,0,0,1,0,0,1,1,1,0,1,0,0,1,1]) (k12 P cl nu)
def k15 : Ko := kblk 3 (k14 P cl nu)
def j16 := mu 32 (evT P cl an31 nu (s [1,0,1,0,0,1,0,0,1,1,1,1]) (k6 P cl nu)) [(0,x0),(1,x1),(5,x5),(6,x6)] h
def k16 : Ko := kblk 4 (k6 P cl nu)
def l17 := mu 35 (lC P cl nu an31 [0,1,5,6,9] (s [1,0,1,0,0,1,0,0,1,1,1,1,1,0,0]) (k16 P cl nu)) [(0,x0),(1,x1),(5,x5),(6,x6),(9,x9)] h
def k17 : Ko := kL P cl nu an31 35 [0,1,5,6,9] (s [1,0,1,0,0,1,0,0,1,1,1,1,1,0,0]) (k16 P cl nu)
def k18 : Ko := kC P cl nu an31 (s [1,0,1,0,0,1,0,0,1,1,1,1,1,0,0,1]) (k17 P cl nu)
def j19 := mu 38 (evT P cl an31 nu (s [1,0,1,0,0,1,0,0,1,1,1,1,1,0,0,1]) (k17 P cl nu)) [(0,x0),(1,x1),(5,x5),(6,x6),(9,x9)] h
def k19 : Ko := kC P cl nu an31 (s [1,0,1,0,0,1,0,0,1,1,1,1,1,0,0,1,1]) (k17 P cl nu)
def k20 : Ko := kblk 5 (k19 P cl nu)
theorem l2n : evT P cl an31 nu (s [1,0,1,0,0]) (kL P cl nu an31 5 [0,1,5] (s [1,0,1,0,0]) (k2 P cl nu)) [(0,x0),(1,x1),(5,x5)] h = (xbuiltin P .len [22] [x1] h).go .pan fun t1 h => (xbin P .add 3 t1 (.int .i64 3) h).go .pan fun t2 h => (xbin P .lss 3 x5 t2 h).go .pan fun t3 h => ifV t3 (j4 P cl nu nu x0 x1 x5 h) (j22 P cl nu nu h) := by kernel_rfl
def l2_eq := @id (l2 P cl nu0 nu0 x0 x1 x5 h = _) (lpN (l2n P cl nu0 x0 x1 x5 h))
theorem j4_eq : j4 P cl nu nu0 x0 x1 x5 h = (xbuiltin P .len [22] [x1] h).go .pan fun t4 h => (xbin P .add 3 t4 (.int .i64 3) h).go .pan fun t5 h => (xslice P 22 x0 none (some t5) none h).go .pan fun t6 h => (xindexAddr P 22 t6 x5 h).go .pan fun t7 h => (xload P 55 t7 h).go .pan fun t8 h => (xalloc P 55 h).go .pan fun t9 h => (xstore P 55 t9 t8 h).go .pan fun t10 h => (xbuiltin P .len [22] [x1] h).go .pan fun t11 h => (xbin P .geq 3 x5 t11 h).go .pan fun t12 h => ifV t12 ((xfieldAddr P 55 t9 0 h).go .pan fun t13 h => (xload P 9 t13 h).go .pan fun t14 h => (xbin P .neq 9 t14 (.string ⟨#[114,111,111,109]⟩) h).go .pan fun t15 h => ifV t15 (.ok (.bool false) h) ((xfieldAddr P 55 t9 2 h).go .pan fun t16 h => (xload P 52 t16 h).go .pan fun t17 h => (xbuiltin P .len [52] [t17] h).go .pan fun t18 h => (xfieldAddr P 55 t9 3 h).go .pan fun t19 h => (xload P 53 t19 h).go .pan fun t20 h => (xbuiltin P .len [53] [t20] h).go .pan fun t21 h => (xbin P .add 3 t18 t21 h).go .pan fun t22 h => (xbin P .neq 3 t22 (.int .i64 0) h).go .pan fun t23 h => ifV t23 (.ok (.bool false) h) (j3 P cl nu nu x0 x1 x5 h))) (j8 P cl nu nu x0 x1 x5 t9 h) := by kernel_rfl
theorem j22_eq : j22 P cl nu nu0 h = .ok (.bool true) h := by kernel_rfl
theorem j3_eq : j3 P cl nu nu0 x0 x1 x5 h = (xbin P .add 3 x5 (.int .i64 1) h).go .pan fun t24 h => (l2 P cl nu nu x0 x1 t24 h) := by kernel_rfl
theorem j8_eq : j8 P cl nu nu0 x0 x1 x5 x6 h = (xfieldAddr P 55 x6 0 h).ok1 fun t25 h => (xload P 9 t25 h).ok1 fun t26 h => (xindexAddr P 22 x1 x5 h).ok1 fun t27 h => (xfieldAddr P 55 t27 0 h).ok1 fun t28 h => (xload P 9 t28 h).ok1 fun t29 h => bif plain2 t26 t29 then ((xbin P .neq 9 t26 t29 h).ok1 fun t30 h => ifV t30 (.ok (.bool false) h) ((xfieldAddr P 55 x6 1 h).ok1 fun t31 h => (xload P 3 t31 h).ok1 fun t32 h => (xindexAddr P 22 x1 x5 h).ok1 fun t33 h => (xfieldAddr P 55 t33 1 h).ok1 fun t34 h => (xload P 3 t34 h).ok1 fun t35 h => bif plain2 t32 t35 then ((xbin P .neq 3 t32 t35 h).ok1 fun t36 h => ifV t36 (.ok (.bool false) h) ((xfieldAddr P 55 x6 2 h).ok1 fun t37 h => (xload P 52 t37 h).ok1 fun t38 h => bif (lenV t38).isSome then ((xbuiltin P .len [52] [t38] h).ok1 fun t39 h => (xindexAddr P 22 x1 x5 h).ok1 fun t40 h => (xfieldAddr P 55 t40 2 h).ok1 fun t41 h => (xload P 52 t41 h).ok1 fun t42 h => bif (lenV t42).isSome then ((xbuiltin P .len [52] [t42] h).ok1 fun t43 h => bif plain2 t39 t43 then ((xbin P .neq 3 t39 t43 h).ok1 fun t44 h => ifV t44 (.ok (.bool false) h) ((xfieldAddr P 55 x6 3 h).ok1 fun t45 h => (xload P 53 t45 h).ok1 fun t46 h => bif (lenV t46).isSome then ((xbuiltin P .len [53] [t46] h).ok1 fun t47 h => (xindexAddr P 22 x1 x5 h).ok1 fun t48 h => (xfieldAddr P 55 t48 3 h).ok1 fun t49 h => (xload P 53 t49 h).ok1 fun t50 h => bif (lenV t50).isSome then ((xbuiltin P .len [53] [t50] h).ok1 fun t51 h => bif plain2 t47 t51 then ((xbin P .neq 3 t47 t51 h).ok1 fun t52 h => ifV t52 (.ok (.bool false) h) (j10 P cl nu nu x0 x1 x5 x6 h)) else .bad) else .bad) else .bad)) else .bad) else .bad) else .bad)) else .bad)) else .bad := by kernel_rfl
theorem j10_eq : j10 P cl nu nu0 x0 x1 x5 x6 h = l11 P cl nu nu x0 x1 x5 x6 (.int .i64 0) h := by kernel_rfl
theorem l11n : evT P cl an31 nu (s [1,0,1,0,0,1,0,0,1,1,1,0,1,0,0]) (kL P cl nu an31 23 [0,1,5,6,7] (s [1,0,1,0,0,1,0,0,1,1,1,0,1,0,0]) (k11 P cl nu)) [(0,x0),(1,x1),(5,x5),(6,x6),(7,x7)] h = (xfieldAddr P 55 x6 2 h).go .pan fun t53 h => (xload P 52 t53 h).go .pan fun t54 h => (xbuiltin P .len [52] [t54] h).go .pan fun t55 h => (xbin P .add 3 t55 (.int .i64 3) h).go .pan fun t56 h => (xbin P .lss 3 x7 t56 h).go .pan fun t57 h => ifV t57 (j13 P cl nu nu x0 x1 x5 x6 x7 h) (j16 P cl nu nu x0 x1 x5 x6 h) := by kernel_rfl
def l11_eq := @id (l11 P cl nu0 nu0 x0 x1 x5 x6 x7 h = _) (lpN (l11n P cl nu0 x0 x1 x5 x6 x7 h))
theorem j13_eq : j13 P cl nu nu0 x0 x1 x5 x6 x7 h = (xfieldAddr P 55 x6 2 h).go .pan fun t58 h => (xload P 52 t58 h).go .pan fun t59 h => (xfieldAddr P 55 x6 2 h).go .pan fun t60 h => (xload P 52 t60 h).go .pan fun t61 h => (xbuiltin P .len [52] [t61] h).go .pan fun t62 h => (xbin P .add 3 t62 (.int .i64 3) h).go .pan fun t63 h => (xslice P 52 t59 none (some t63) none h).go .pan fun t64 h => (xindexAddr P 52 t64 x7 h).go .pan fun t65 h => (xload P 9 t65 h).go .pan fun t66 h => (xfieldAddr P 55 x6 2 h).go .pan fun t67 h => (xload P 52 t67 h).go .pan fun t68 h => (xbuiltin P .len [52] [t68] h).go .pan fun t69 h => (xbin P .lss 3 x7 t69 h).go .pan fun t70 h => ifV t70 ((xindexAddr P 22 x1 x5 h).go .pan fun t71 h => (xfieldAddr P 55 t71 2 h).go .pan fun t72 h => (xload P 52 t72 h).go .pan fun t73 h => (xindexAddr P 52 t73 x7 h).go .pan fun t74 h => (xload P 9 t74 h).go .pan fun t75 h => (xbin P .neq 9 t66 t75 h).go .pan fun t76 h => ifV t76 (.ok (.bool false) h) ((xfieldAddr P 55 x6 2 h).go .pan fun t77 h => (xload P 52 t77 h).go .pan fun t78 h => (xbuiltin P .len [52] [t78] h).go .pan fun t79 h => (xbin P .geq 3 x7 t79 h).go .pan fun t80 h => ifV t80 ((xbin P .neq 9 t66 (.string ⟨#[114,111,111,109]⟩) h).go .pan fun t81 h => ifV t81 (.ok (.bool false) h) ((xbin P .add 3 x7 (.int .i64 1) h).go .pan fun t82 h => (l11 P cl nu nu x0 x1 x5 x6 t82 h))) ((xbin P .add 3 x7 (.int .i64 1) h).go .pan fun t83 h => (l11 P cl nu nu x0 x1 x5 x6 t83 h)))) ((xfieldAddr P 55 x6 2 h).go .pan fun t84 h => (xload P 52 t84 h).go .pan fun t85 h => (xbuiltin P .len [52] [t85] h).go .pan fun t86 h => (xbin P .geq 3 x7 t86 h).go .pan fun t87 h => ifV t87 ((xbin P .neq 9 t66 (.string ⟨#[114,111,111,109]⟩) h).go .pan fun t88 h => ifV t88 (.ok (.bool false) h) ((xbin P .add 3 x7 (.int .i64 1) h).go .pan fun t89 h => (l11 P cl nu nu x0 x1 x5 x6 t89 h))) ((xbin P .add 3 x7 (.int .i64 1) h).go .pan fun t90 h => (l11 P cl nu nu x0 x1 x5 x6 t90 h))) := by kernel_rfl
theorem j16_eq : j16 P cl nu nu0 x0 x1 x5 x6 h = l17 P cl nu nu x0 x1 x5 x6 (.int .i64 0) h := by kernel_rfl
theorem l17n : evT P cl an31 nu (s [1,0,1,0,0,1,0,0,1,1,1,1,1,0,0]) (kL P cl nu an31 35 [0,1,5,6,9] (s [1,0,1,0,0,1,0,0,1,1,1,1,1,0,0]) (k16 P cl nu)) [(0,x0),(1,x1),(5,x5),(6,x6),(9,x9)] h = (xfieldAddr P 55 x6 3 h).go .pan fun t91 h => (xload P 53 t91 h).go .pan fun t92 h => (xbuiltin P .len [53] [t92] h).go .pan fun t93 h => (xbin P .add 3 t93 (.int .i64 3) h).go .pan fun t94 h => (xbin P .lss 3 x9 t94 h).go .pan fun t95 h => ifV t95 (j19 P cl nu nu x0 x1 x5 x6 x9 h) (j3 P cl nu nu x0 x1 x5 h) := by kernel_rfl
def l17_eq := @id (l17 P cl nu0 nu0 x0 x1 x5 x6 x9 h = _) (lpN (l17n P cl nu0 x0 x1 x5 x6 x9 h))
theorem j19_eq : j19 P cl nu nu0 x0 x1 x5 x6 x9 h = (xfieldAddr P 55 x6 3 h).go .pan fun t96 h => (xload P 53 t96 h).go .pan fun t97 h => (xfieldAddr P 55 x6 3 h).go .pan fun t98 h => (xload P 53 t98 h).go .pan fun t99 h => (xbuiltin P .len [53] [t99] h).go .pan fun t100 h => (xbin P .add 3 t100 (.int .i64 3) h).go .pan fun t101 h => (xslice P 53 t97 none (some t101) none h).go .pan fun t102 h => (xindexAddr P 53 t102 x9 h).go .pan fun t103 h => (xfieldAddr P 63 t103 0 h).go .pan fun t104 h => (xload P 9 t104 h).go .pan fun t105 h => (xfieldAddr P 55 x6 3 h).go .pan fun t106 h => (xload P 53 t106 h).go .pan fun t107 h => (xbuiltin P .len [53] [t107] h).go .pan fun t108 h => (xbin P .lss 3 x9 t108 h).go .pan fun t109 h => ifV t109 ((xindexAddr P 22 x1 x5 h).go .pan fun t110 h => (xfieldAddr P 55 t110 3 h).go .pan fun t111 h => (xload P 53 t111 h).go .pan fun t112 h => (xindexAddr P 53 t112 x9 h).go .pan fun t113 h => (xfieldAddr P 63 t113 0 h).go .pan fun t114 h => (xload P 9 t114 h).go .pan fun t115 h => (xbin P .neq 9 t105 t115 h).go .pan fun t116 h => ifV t116 (.ok (.bool false) h) ((xfieldAddr P 55 x6 3 h).go .pan fun t117 h => (xload P 53 t117 h).go .pan fun t118 h => (xbuiltin P .len [53] [t118] h).go .pan fun t119 h => (xbin P .geq 3 x9 t119 h).go .pan fun t120 h => ifV t120 ((xbin P .neq 9 t105 (.string ⟨#[114,111,111,109]⟩) h).go .pan fun t121 h => ifV t121 (.ok (.bool false) h) ((xbin P .add 3 x9 (.int .i64 1) h).go .pan fun t122 h => (l17 P cl nu nu x0 x1 x5 x6 t122 h))) ((xbin P .add 3 x9 (.int .i64 1) h).go .pan fun t123 h => (l17 P cl nu nu x0 x1 x5 x6 t123 h)))) ((xfieldAddr P 55 x6 3 h).go .pan fun t124 h => (xload P 53 t124 h).go .pan fun t125 h => (xbuiltin P .len [53] [t125] h).go .pan fun t126 h => (xbin P .geq 3 x9 t126 h).go .pan fun t127 h => ifV t127 ((xbin P .neq 9 t105 (.string ⟨#[114,111,111,109]⟩) h).go .pan fun t128 h => ifV t128 (.ok (.bool false) h) ((xbin P .add 3 x9 (.int .i64 1) h).go .pan fun t129 h => (l17 P cl nu nu x0 x1 x5 x6 t129 h))) ((xbin P .add 3 x9 (.int .i64 1) h).go .pan fun t130 h => (l17 P cl nu nu x0 x1 x5 x6 t130 h))) := by kernel_rfl
theorem eq : runX P cl nu an31 Try.f31 [x0,x1] h = l2 P cl nu nu x0 x1 (.int .i64 0) h := by kernel_rfl
end
end F31
end Go.Proofs.Ytdadiidfhnojcaa.K
