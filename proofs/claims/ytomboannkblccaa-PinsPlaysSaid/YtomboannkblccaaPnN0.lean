/- The pins' program: the list of steps that the model test is put through. -/
import Derived.KernelRfl
import Derived.Test.YtomboannkblccaaPnA
import Derived.Test.YtomboannkblccaaEqs
import Derived.Test.YtomboannkblccaaTy
namespace Go.Proofs.Ytomboannkblccaa.K
open Go Go.Kx
set_option maxRecDepth 20000
set_option linter.unusedVariables false
theorem bd63a (k n v : Int) (h : H) : xbuild Try.prog 63 [(0, (.int .i64 k)), (1, (.int .i64 n)), (4, (.int .i64 v))] h = .ok (.agg ⟨opR (k, n, v)⟩) h := by kernel_rfl
theorem bd63b (k n : Int) (h : H) : xbuild Try.prog 63 [(0, (.int .i64 k)), (1, (.int .i64 n))] h = .ok (.agg ⟨opR (k, n, 0)⟩) h := by kernel_rfl
theorem bd63c (k : Int) (h : H) : xbuild Try.prog 63 [(0, (.int .i64 k))] h = .ok (.agg ⟨opR (k, 0, 0)⟩) h := by kernel_rfl
theorem bs64 (h : H) : xbuildSlice Try.prog 64 8 [(0, .agg ⟨opR (1, 5, 1)⟩), (1, .agg ⟨opR (1, 2, 2)⟩), (2, .agg ⟨opR (1, 5, 3)⟩), (3, .agg ⟨opR (5, 0, 0)⟩), (4, .agg ⟨opR (6, 3, 0)⟩), (5, .agg ⟨opR (3, 2, 0)⟩), (6, .agg ⟨opR (3, 2, 0)⟩), (7, .agg ⟨opR (4, 0, 0)⟩)] h =
    .ok (.slice (some ⟨h.next, 0, none⟩) 8 8) (h.alloc (.cells (opsC ops8) 63 0 false)) := by kernel_rfl
noncomputable def zc23 : List Value := match xbuild Try.prog 23 [] H0 with | .ok (.agg l) _ => l.toList | _ => []
noncomputable def zc25 : List Value := match xbuild Try.prog 25 [] H0 with | .ok (.agg l) _ => l.toList | _ => []
theorem bd23 (h : H) : xbuild Try.prog 23 [] h = .ok (.agg ⟨zc23⟩) h := by kernel_rfl
theorem bd25 (h : H) : xbuild Try.prog 25 [] h = .ok (.agg ⟨zc25⟩) h := by kernel_rfl
theorem zc23_ok : zc23.length = 32 ∧ ones zc23 = true := ⟨by kernel_rfl, by kernel_rfl⟩
theorem zc25_ok : zc25.length = 34 ∧ ones zc25 = true := ⟨by kernel_rfl, by kernel_rfl⟩
end Go.Proofs.Ytomboannkblccaa.K
