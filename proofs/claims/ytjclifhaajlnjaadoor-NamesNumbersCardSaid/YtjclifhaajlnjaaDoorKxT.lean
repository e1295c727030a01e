/- The engine's table: annotations of the functions, and what is static of them. Printed by a program of mine. -/
import Derived.Test.YtjclifhaajlnjaaDoorKxQ
import Derived.Test.YtjclifhaajlnjaaDoorProg
import Derived.KernelRfl
namespace Go.Proofs.YtjclifhaajlnjaaDoor.K
open Go Go.Kx
set_option maxRecDepth 20000
/-- kiln/kilnlaw0.NamesNumbers -/
def an3 : Ann := ⟨[(2, [6, 7, 8, 34, 35, 36, 39, 40]), (8, [18, 19, 20, 34, 35, 36, 39, 40])], [], []⟩
/-- kiln/kilnlaw0.errs -/
def an4 : Ann := ⟨[], [], []⟩
/-- kiln/kilnlaw0.limits -/
def an5 : Ann := ⟨[], [], []⟩
/-- kiln/kilnlaw0.errno -/
def an6 : Ann := ⟨[], [], []⟩
/-- (kiln/api.Errno).Error -/
def an7 : Ann := ⟨[], [], []⟩
/-- strconv.Itoa -/
def an8 : Ann := ⟨[], [], []⟩
/-- internal/strconv.Itoa -/
def an9 : Ann := ⟨[], [], []⟩
/-- internal/strconv.FormatInt -/
def an10 : Ann := ⟨[], [], []⟩
/-- internal/strconv.small -/
def an11 : Ann := ⟨[], [], []⟩
/-- internal/strconv.numDigits -/
def an12 : Ann := ⟨[], [], []⟩
/-- internal/strconv.formatBase10 -/
def an13 : Ann := ⟨[(1, [0, 1, 4])], [(7, [(0, []), (1, []), (2, []), (3, []), (4, []), (5, []), (6, []), (7, []), (8, []), (9, []), (10, []), (11, []), (12, []), (13, []), (14, [])]), (8, [(0, []), (1, []), (2, []), (3, []), (4, []), (5, []), (6, []), (7, []), (8, []), (9, []), (10, []), (11, []), (12, []), (13, []), (14, [])]), (9, [(0, []), (1, []), (2, []), (3, []), (4, []), (5, []), (6, []), (7, []), (8, []), (9, []), (10, []), (11, []), (12, []), (13, []), (14, [])]), (10, [(0, []), (1, []), (2, []), (3, []), (4, []), (5, []), (6, []), (7, []), (8, []), (9, []), (10, []), (11, []), (12, []), (13, []), (14, [])]), (17, [(0, []), (1, []), (2, []), (3, []), (4, []), (5, []), (6, []), (7, []), (8, []), (9, []), (10, []), (11, []), (12, []), (13, []), (14, [])]), (18, [(0, []), (1, []), (2, []), (3, []), (4, []), (5, []), (6, []), (7, []), (8, []), (9, []), (10, []), (11, []), (12, []), (13, []), (14, [])]), (23, [(0, []), (1, []), (2, []), (3, []), (4, []), (5, []), (6, []), (7, []), (8, []), (9, []), (10, []), (11, []), (12, []), (13, []), (14, [])])], []⟩
/-- internal/strconv.formatBits -/
def an14 : Ann := ⟨[(11, [0, 1, 3, 4, 10, 11, 12, 13, 14, 15, 16]), (18, [0, 1, 3, 4, 10, 11, 12, 13, 17])], [], []⟩
/-- internal/strconv.log10Pow2 -/
def an15 : Ann := ⟨[], [], []⟩
/-- math/bits.Len64 -/
def an16 : Ann := ⟨[], [], []⟩
/-- internal/strconv.bool2[int] -/
def an17 : Ann := ⟨[], [], []⟩
/-- internal/strconv.isPowerOfTwo -/
def an18 : Ann := ⟨[], [], []⟩
/-- math/bits.TrailingZeros -/
def an19 : Ann := ⟨[], [], []⟩
/-- math/bits.TrailingZeros32 -/
def an20 : Ann := ⟨[], [], []⟩
/-- math/bits.TrailingZeros64 -/
def an21 : Ann := ⟨[], [], []⟩
noncomputable def tab : Tab := fun f => match f with
  | 3 => some (Tryd.f3, an3)
  | 4 => some (Tryd.f4, an4)
  | 5 => some (Tryd.f5, an5)
  | 6 => some (Tryd.f6, an6)
  | 7 => some (Tryd.f7, an7)
  | 8 => some (Tryd.f8, an8)
  | 9 => some (Tryd.f9, an9)
  | 10 => some (Tryd.f10, an10)
  | 11 => some (Tryd.f11, an11)
  | 12 => some (Tryd.f12, an12)
  | 13 => some (Tryd.f13, an13)
  | 14 => some (Tryd.f14, an14)
  | 15 => some (Tryd.f15, an15)
  | 16 => some (Tryd.f16, an16)
  | 17 => some (Tryd.f17, an17)
  | 18 => some (Tryd.f18, an18)
  | 19 => some (Tryd.f19, an19)
  | 20 => some (Tryd.f20, an20)
  | 21 => some (Tryd.f21, an21)
  | _ => none
theorem ok3 : fnOk Tryd.prog 3 an3 3 Tryd.f3 := ⟨Tryd.func3, by kernel_rfl, by kernel_rfl, by kernel_rfl⟩
theorem ok4 : fnOk Tryd.prog 3 an4 4 Tryd.f4 := ⟨Tryd.func4, by kernel_rfl, by kernel_rfl, by kernel_rfl⟩
theorem ok5 : fnOk Tryd.prog 3 an5 5 Tryd.f5 := ⟨Tryd.func5, by kernel_rfl, by kernel_rfl, by kernel_rfl⟩
theorem ok6 : fnOk Tryd.prog 3 an6 6 Tryd.f6 := ⟨Tryd.func6, by kernel_rfl, by kernel_rfl, by kernel_rfl⟩
theorem ok7 : fnOk Tryd.prog 3 an7 7 Tryd.f7 := ⟨Tryd.func7, by kernel_rfl, by kernel_rfl, by kernel_rfl⟩
theorem ok8 : fnOk Tryd.prog 3 an8 8 Tryd.f8 := ⟨Tryd.func8, by kernel_rfl, by kernel_rfl, by kernel_rfl⟩
theorem ok9 : fnOk Tryd.prog 3 an9 9 Tryd.f9 := ⟨Tryd.func9, by kernel_rfl, by kernel_rfl, by kernel_rfl⟩
theorem ok10 : fnOk Tryd.prog 3 an10 10 Tryd.f10 := ⟨Tryd.func10, by kernel_rfl, by kernel_rfl, by kernel_rfl⟩
theorem ok11 : fnOk Tryd.prog 3 an11 11 Tryd.f11 := ⟨Tryd.func11, by kernel_rfl, by kernel_rfl, by kernel_rfl⟩
theorem ok12 : fnOk Tryd.prog 3 an12 12 Tryd.f12 := ⟨Tryd.func12, by kernel_rfl, by kernel_rfl, by kernel_rfl⟩
theorem ok13 : fnOk Tryd.prog 3 an13 13 Tryd.f13 := ⟨Tryd.func13, by kernel_rfl, by kernel_rfl, by kernel_rfl⟩
theorem ok14 : fnOk Tryd.prog 3 an14 14 Tryd.f14 := ⟨Tryd.func14, by kernel_rfl, by kernel_rfl, by kernel_rfl⟩
theorem ok15 : fnOk Tryd.prog 3 an15 15 Tryd.f15 := ⟨Tryd.func15, by kernel_rfl, by kernel_rfl, by kernel_rfl⟩
theorem ok16 : fnOk Tryd.prog 3 an16 16 Tryd.f16 := ⟨Tryd.func16, by kernel_rfl, by kernel_rfl, by kernel_rfl⟩
theorem ok17 : fnOk Tryd.prog 3 an17 17 Tryd.f17 := ⟨Tryd.func17, by kernel_rfl, by kernel_rfl, by kernel_rfl⟩
theorem ok18 : fnOk Tryd.prog 3 an18 18 Tryd.f18 := ⟨Tryd.func18, by kernel_rfl, by kernel_rfl, by kernel_rfl⟩
theorem ok19 : fnOk Tryd.prog 3 an19 19 Tryd.f19 := ⟨Tryd.func19, by kernel_rfl, by kernel_rfl, by kernel_rfl⟩
theorem ok20 : fnOk Tryd.prog 3 an20 20 Tryd.f20 := ⟨Tryd.func20, by kernel_rfl, by kernel_rfl, by kernel_rfl⟩
theorem ok21 : fnOk Tryd.prog 3 an21 21 Tryd.f21 := ⟨Tryd.func21, by kernel_rfl, by kernel_rfl, by kernel_rfl⟩
theorem tab_ok : ∀ f fn an, tab f = some (fn, an) → fnOk Tryd.prog 3 an f fn := by
  intro f fn an h
  unfold tab at h
  split at h
  · cases h; exact ok3
  · cases h; exact ok4
  · cases h; exact ok5
  · cases h; exact ok6
  · cases h; exact ok7
  · cases h; exact ok8
  · cases h; exact ok9
  · cases h; exact ok10
  · cases h; exact ok11
  · cases h; exact ok12
  · cases h; exact ok13
  · cases h; exact ok14
  · cases h; exact ok15
  · cases h; exact ok16
  · cases h; exact ok17
  · cases h; exact ok18
  · cases h; exact ok19
  · cases h; exact ok20
  · cases h; exact ok21
  · cases h
end Go.Proofs.YtjclifhaajlnjaaDoor.K
