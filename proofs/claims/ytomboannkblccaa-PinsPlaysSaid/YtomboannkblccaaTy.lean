/- How operations go at the program's types. Printed by a program of mine. -/
import Derived.KernelRfl
import Derived.Test.YtomboannkblccaaKxT
import Derived.Test.YtomboannkblccaaProg
namespace Go.Proofs.Ytomboannkblccaa.K
open Go Go.Kx
set_option maxRecDepth 20000
theorem fa35_0 (b o : Nat) (h : H) : xfieldAddr Try.prog 35 (.pointer (some ⟨b, o, none⟩)) 0 h = .ok (.pointer (some ⟨b, o, none⟩)) h := Eq.trans (by kernel_rfl) rfl
theorem fa35_1 (b o : Nat) (h : H) : xfieldAddr Try.prog 35 (.pointer (some ⟨b, o, none⟩)) 1 h = .ok (.pointer (some ⟨b, o + 1, none⟩)) h := Eq.trans (by kernel_rfl) rfl
theorem fa35_2 (b o : Nat) (h : H) : xfieldAddr Try.prog 35 (.pointer (some ⟨b, o, none⟩)) 2 h = .ok (.pointer (some ⟨b, o + 2, none⟩)) h := Eq.trans (by kernel_rfl) rfl
theorem fa35_3 (b o : Nat) (h : H) : xfieldAddr Try.prog 35 (.pointer (some ⟨b, o, none⟩)) 3 h = .ok (.pointer (some ⟨b, o + 3, none⟩)) h := Eq.trans (by kernel_rfl) rfl
theorem fa35_4 (b o : Nat) (h : H) : xfieldAddr Try.prog 35 (.pointer (some ⟨b, o, none⟩)) 4 h = .ok (.pointer (some ⟨b, o + 35, none⟩)) h := Eq.trans (by kernel_rfl) rfl
theorem fa35_5 (b o : Nat) (h : H) : xfieldAddr Try.prog 35 (.pointer (some ⟨b, o, none⟩)) 5 h = .ok (.pointer (some ⟨b, o + 69, none⟩)) h := Eq.trans (by kernel_rfl) rfl
theorem fa38_0 (b o : Nat) (h : H) : xfieldAddr Try.prog 38 (.pointer (some ⟨b, o, none⟩)) 0 h = .ok (.pointer (some ⟨b, o, none⟩)) h := Eq.trans (by kernel_rfl) rfl
theorem fa38_1 (b o : Nat) (h : H) : xfieldAddr Try.prog 38 (.pointer (some ⟨b, o, none⟩)) 1 h = .ok (.pointer (some ⟨b, o + 1, none⟩)) h := Eq.trans (by kernel_rfl) rfl
theorem fa38_2 (b o : Nat) (h : H) : xfieldAddr Try.prog 38 (.pointer (some ⟨b, o, none⟩)) 2 h = .ok (.pointer (some ⟨b, o + 2, none⟩)) h := Eq.trans (by kernel_rfl) rfl
theorem fa38_3 (b o : Nat) (h : H) : xfieldAddr Try.prog 38 (.pointer (some ⟨b, o, none⟩)) 3 h = .ok (.pointer (some ⟨b, o + 34, none⟩)) h := Eq.trans (by kernel_rfl) rfl
theorem fa38_4 (b o : Nat) (h : H) : xfieldAddr Try.prog 38 (.pointer (some ⟨b, o, none⟩)) 4 h = .ok (.pointer (some ⟨b, o + 68, none⟩)) h := Eq.trans (by kernel_rfl) rfl
theorem fa46_0 (b o : Nat) (h : H) : xfieldAddr Try.prog 46 (.pointer (some ⟨b, o, none⟩)) 0 h = .ok (.pointer (some ⟨b, o, none⟩)) h := Eq.trans (by kernel_rfl) rfl
theorem fa46_1 (b o : Nat) (h : H) : xfieldAddr Try.prog 46 (.pointer (some ⟨b, o, none⟩)) 1 h = .ok (.pointer (some ⟨b, o + 1, none⟩)) h := Eq.trans (by kernel_rfl) rfl
theorem fa56_0 (b o : Nat) (h : H) : xfieldAddr Try.prog 56 (.pointer (some ⟨b, o, none⟩)) 0 h = .ok (.pointer (some ⟨b, o, none⟩)) h := Eq.trans (by kernel_rfl) rfl
theorem fa56_1 (b o : Nat) (h : H) : xfieldAddr Try.prog 56 (.pointer (some ⟨b, o, none⟩)) 1 h = .ok (.pointer (some ⟨b, o + 1, none⟩)) h := Eq.trans (by kernel_rfl) rfl
theorem fa69_0 (b o : Nat) (h : H) : xfieldAddr Try.prog 69 (.pointer (some ⟨b, o, none⟩)) 0 h = .ok (.pointer (some ⟨b, o, none⟩)) h := Eq.trans (by kernel_rfl) rfl
theorem fa69_1 (b o : Nat) (h : H) : xfieldAddr Try.prog 69 (.pointer (some ⟨b, o, none⟩)) 1 h = .ok (.pointer (some ⟨b, o + 1, none⟩)) h := Eq.trans (by kernel_rfl) rfl
theorem fa69_2 (b o : Nat) (h : H) : xfieldAddr Try.prog 69 (.pointer (some ⟨b, o, none⟩)) 2 h = .ok (.pointer (some ⟨b, o + 2, none⟩)) h := Eq.trans (by kernel_rfl) rfl
theorem fa69_3 (b o : Nat) (h : H) : xfieldAddr Try.prog 69 (.pointer (some ⟨b, o, none⟩)) 3 h = .ok (.pointer (some ⟨b, o + 34, none⟩)) h := Eq.trans (by kernel_rfl) rfl
theorem fa69_4 (b o : Nat) (h : H) : xfieldAddr Try.prog 69 (.pointer (some ⟨b, o, none⟩)) 4 h = .ok (.pointer (some ⟨b, o + 68, none⟩)) h := Eq.trans (by kernel_rfl) rfl
theorem fa77_0 (b o : Nat) (h : H) : xfieldAddr Try.prog 77 (.pointer (some ⟨b, o, none⟩)) 0 h = .ok (.pointer (some ⟨b, o, none⟩)) h := Eq.trans (by kernel_rfl) rfl
theorem fa81_0 (b o : Nat) (h : H) : xfieldAddr Try.prog 81 (.pointer (some ⟨b, o, none⟩)) 0 h = .ok (.pointer (some ⟨b, o, none⟩)) h := Eq.trans (by kernel_rfl) rfl
theorem fa81_1 (b o : Nat) (h : H) : xfieldAddr Try.prog 81 (.pointer (some ⟨b, o, none⟩)) 1 h = .ok (.pointer (some ⟨b, o + 1, none⟩)) h := Eq.trans (by kernel_rfl) rfl
theorem ld23 (a : Addr) (h : H) : xload Try.prog 23 (.pointer (some a)) h = ofA (h.row a 32) h := by
  show (match h.row a (Try.prog.cellsOf 23) with | some l => (Res.ok (Value.agg ⟨l⟩) h : Res Value) | none => .bad) = _
  rw [show Try.prog.cellsOf 23 = 32 by kernel_rfl]; rfl
theorem ld25 (a : Addr) (h : H) : xload Try.prog 25 (.pointer (some a)) h = ofA (h.row a 34) h := by
  show (match h.row a (Try.prog.cellsOf 25) with | some l => (Res.ok (Value.agg ⟨l⟩) h : Res Value) | none => .bad) = _
  rw [show Try.prog.cellsOf 25 = 34 by kernel_rfl]; rfl
theorem ld27 (a : Addr) (h : H) : xload Try.prog 27 (.pointer (some a)) h = ofO (h.cell a) h := Eq.trans (by kernel_rfl) rfl
theorem ld3 (a : Addr) (h : H) : xload Try.prog 3 (.pointer (some a)) h = ofO (h.cell a) h := Eq.trans (by kernel_rfl) rfl
theorem ld35 (a : Addr) (h : H) : xload Try.prog 35 (.pointer (some a)) h = ofA (h.row a 103) h := by
  show (match h.row a (Try.prog.cellsOf 35) with | some l => (Res.ok (Value.agg ⟨l⟩) h : Res Value) | none => .bad) = _
  rw [show Try.prog.cellsOf 35 = 103 by kernel_rfl]; rfl
theorem ld38 (a : Addr) (h : H) : xload Try.prog 38 (.pointer (some a)) h = ofA (h.row a 102) h := by
  show (match h.row a (Try.prog.cellsOf 38) with | some l => (Res.ok (Value.agg ⟨l⟩) h : Res Value) | none => .bad) = _
  rw [show Try.prog.cellsOf 38 = 102 by kernel_rfl]; rfl
theorem ld44 (a : Addr) (h : H) : xload Try.prog 44 (.pointer (some a)) h = ofO (h.cell a) h := Eq.trans (by kernel_rfl) rfl
theorem ld50 (a : Addr) (h : H) : xload Try.prog 50 (.pointer (some a)) h = ofO (h.cell a) h := Eq.trans (by kernel_rfl) rfl
theorem ld53 (a : Addr) (h : H) : xload Try.prog 53 (.pointer (some a)) h = ofO (h.cell a) h := Eq.trans (by kernel_rfl) rfl
theorem ld69 (a : Addr) (h : H) : xload Try.prog 69 (.pointer (some a)) h = ofA (h.row a 102) h := by
  show (match h.row a (Try.prog.cellsOf 69) with | some l => (Res.ok (Value.agg ⟨l⟩) h : Res Value) | none => .bad) = _
  rw [show Try.prog.cellsOf 69 = 102 by kernel_rfl]; rfl
theorem ld73 (a : Addr) (h : H) : xload Try.prog 73 (.pointer (some a)) h = ofO (h.cell a) h := Eq.trans (by kernel_rfl) rfl
theorem ld75 (a : Addr) (h : H) : xload Try.prog 75 (.pointer (some a)) h = ofO (h.cell a) h := Eq.trans (by kernel_rfl) rfl
theorem ld81 (a : Addr) (h : H) : xload Try.prog 81 (.pointer (some a)) h = ofA (h.row a 103) h := by
  show (match h.row a (Try.prog.cellsOf 81) with | some l => (Res.ok (Value.agg ⟨l⟩) h : Res Value) | none => .bad) = _
  rw [show Try.prog.cellsOf 81 = 103 by kernel_rfl]; rfl
theorem st3 (a : Addr) (v : Value) (h : H) (hv : v.cells.size = 1) : xstore Try.prog 3 (.pointer (some a)) v h = ofU (h.write a v.cells.toList) := by
  unfold xstore
  simp only [show szOk Try.prog 3 = true by kernel_rfl, show Try.prog.cellsOf 3 = 1 by kernel_rfl, hv]; rfl
theorem st35 (a : Addr) (v : Value) (h : H) (hv : v.cells.size = 103) : xstore Try.prog 35 (.pointer (some a)) v h = ofU (h.write a v.cells.toList) := by
  unfold xstore
  simp only [show szOk Try.prog 35 = true by kernel_rfl, show Try.prog.cellsOf 35 = 103 by kernel_rfl, hv]; rfl
theorem st38 (a : Addr) (v : Value) (h : H) (hv : v.cells.size = 102) : xstore Try.prog 38 (.pointer (some a)) v h = ofU (h.write a v.cells.toList) := by
  unfold xstore
  simp only [show szOk Try.prog 38 = true by kernel_rfl, show Try.prog.cellsOf 38 = 102 by kernel_rfl, hv]; rfl
theorem st43 (a : Addr) (v : Value) (h : H) (hv : v.cells.size = 2) : xstore Try.prog 43 (.pointer (some a)) v h = ofU (h.write a v.cells.toList) := by
  unfold xstore
  simp only [show szOk Try.prog 43 = true by kernel_rfl, show Try.prog.cellsOf 43 = 2 by kernel_rfl, hv]; rfl
theorem st44 (a : Addr) (v : Value) (h : H) (hv : v.cells.size = 1) : xstore Try.prog 44 (.pointer (some a)) v h = ofU (h.write a v.cells.toList) := by
  unfold xstore
  simp only [show szOk Try.prog 44 = true by kernel_rfl, show Try.prog.cellsOf 44 = 1 by kernel_rfl, hv]; rfl
theorem st69 (a : Addr) (v : Value) (h : H) (hv : v.cells.size = 102) : xstore Try.prog 69 (.pointer (some a)) v h = ofU (h.write a v.cells.toList) := by
  unfold xstore
  simp only [show szOk Try.prog 69 = true by kernel_rfl, show Try.prog.cellsOf 69 = 102 by kernel_rfl, hv]; rfl
theorem st73 (a : Addr) (v : Value) (h : H) (hv : v.cells.size = 1) : xstore Try.prog 73 (.pointer (some a)) v h = ofU (h.write a v.cells.toList) := by
  unfold xstore
  simp only [show szOk Try.prog 73 = true by kernel_rfl, show Try.prog.cellsOf 73 = 1 by kernel_rfl, hv]; rfl
theorem st75 (a : Addr) (v : Value) (h : H) (hv : v.cells.size = 1) : xstore Try.prog 75 (.pointer (some a)) v h = ofU (h.write a v.cells.toList) := by
  unfold xstore
  simp only [show szOk Try.prog 75 = true by kernel_rfl, show Try.prog.cellsOf 75 = 1 by kernel_rfl, hv]; rfl
theorem st81 (a : Addr) (v : Value) (h : H) (hv : v.cells.size = 103) : xstore Try.prog 81 (.pointer (some a)) v h = ofU (h.write a v.cells.toList) := by
  unfold xstore
  simp only [show szOk Try.prog 81 = true by kernel_rfl, show Try.prog.cellsOf 81 = 103 by kernel_rfl, hv]; rfl
theorem ia26 (b o len cap n : Nat) (sp : Option Nat) (k : IntKind) (h : H) (hn : n < len) : xindexAddr Try.prog 26 (.slice (some ⟨b, o, sp⟩) len cap) (.int k (n : Int)) h = .ok (.pointer (some ⟨b, o + n * 103, none⟩)) h := by
  show (bif Nat.blt n len && szOk Try.prog 35 then Res.ok (Value.pointer (some ⟨b, o + n * Try.prog.cellsOf 35, none⟩)) h else .bad) = _
  rw [show szOk Try.prog 35 = true by kernel_rfl, show Try.prog.cellsOf 35 = 103 by kernel_rfl, bltT hn]; rfl
theorem ia33 (b o len cap n : Nat) (sp : Option Nat) (k : IntKind) (h : H) (hn : n < len) : xindexAddr Try.prog 33 (.slice (some ⟨b, o, sp⟩) len cap) (.int k (n : Int)) h = .ok (.pointer (some ⟨b, o + n * 1, none⟩)) h := by
  show (bif Nat.blt n len && szOk Try.prog 3 then Res.ok (Value.pointer (some ⟨b, o + n * Try.prog.cellsOf 3, none⟩)) h else .bad) = _
  rw [show szOk Try.prog 3 = true by kernel_rfl, show Try.prog.cellsOf 3 = 1 by kernel_rfl, bltT hn]; rfl
theorem ia43 (b o n : Nat) (k : IntKind) (h : H) (hn : n < 2) : xindexAddr Try.prog 43 (.pointer (some ⟨b, o, none⟩)) (.int k (n : Int)) h = .ok (.pointer (some ⟨b, o + n * 1, none⟩)) h := by
  show (bif Nat.blt n 2 && szOk Try.prog 27 && true then Res.ok (Value.pointer (some ⟨b, o + n * Try.prog.cellsOf 27, none⟩)) h else .bad) = _
  rw [show szOk Try.prog 27 = true by kernel_rfl, show Try.prog.cellsOf 27 = 1 by kernel_rfl, bltT hn]; rfl
theorem ia44 (b o len cap n : Nat) (sp : Option Nat) (k : IntKind) (h : H) (hn : n < len) : xindexAddr Try.prog 44 (.slice (some ⟨b, o, sp⟩) len cap) (.int k (n : Int)) h = .ok (.pointer (some ⟨b, o + n * 102, none⟩)) h := by
  show (bif Nat.blt n len && szOk Try.prog 69 then Res.ok (Value.pointer (some ⟨b, o + n * Try.prog.cellsOf 69, none⟩)) h else .bad) = _
  rw [show szOk Try.prog 69 = true by kernel_rfl, show Try.prog.cellsOf 69 = 102 by kernel_rfl, bltT hn]; rfl
theorem ia47 (b o n : Nat) (k : IntKind) (h : H) (hn : n < 2) : xindexAddr Try.prog 47 (.pointer (some ⟨b, o, none⟩)) (.int k (n : Int)) h = .ok (.pointer (some ⟨b, o + n * 2, none⟩)) h := by
  show (bif Nat.blt n 2 && szOk Try.prog 46 && true then Res.ok (Value.pointer (some ⟨b, o + n * Try.prog.cellsOf 46, none⟩)) h else .bad) = _
  rw [show szOk Try.prog 46 = true by kernel_rfl, show Try.prog.cellsOf 46 = 2 by kernel_rfl, bltT hn]; rfl
theorem ia73 (b o len cap n : Nat) (sp : Option Nat) (k : IntKind) (h : H) (hn : n < len) : xindexAddr Try.prog 73 (.slice (some ⟨b, o, sp⟩) len cap) (.int k (n : Int)) h = .ok (.pointer (some ⟨b, o + n * 102, none⟩)) h := by
  show (bif Nat.blt n len && szOk Try.prog 38 then Res.ok (Value.pointer (some ⟨b, o + n * Try.prog.cellsOf 38, none⟩)) h else .bad) = _
  rw [show szOk Try.prog 38 = true by kernel_rfl, show Try.prog.cellsOf 38 = 102 by kernel_rfl, bltT hn]; rfl
theorem ia75 (b o len cap n : Nat) (sp : Option Nat) (k : IntKind) (h : H) (hn : n < len) : xindexAddr Try.prog 75 (.slice (some ⟨b, o, sp⟩) len cap) (.int k (n : Int)) h = .ok (.pointer (some ⟨b, o + n * 103, none⟩)) h := by
  show (bif Nat.blt n len && szOk Try.prog 81 then Res.ok (Value.pointer (some ⟨b, o + n * Try.prog.cellsOf 81, none⟩)) h else .bad) = _
  rw [show szOk Try.prog 81 = true by kernel_rfl, show Try.prog.cellsOf 81 = 103 by kernel_rfl, bltT hn]; rfl
noncomputable def zc3 : List Value := match zeroOf Try.prog 3 with | some z => z.cells.toList | none => []
theorem al3 (h : H) : xalloc Try.prog 3 h = .ok (.pointer (some ⟨h.next, 0, none⟩)) (h.alloc (.cells zc3 3 0 false)) := Eq.trans (by kernel_rfl) rfl
theorem zc3_len : zc3.length = 1 := by kernel_rfl
theorem zc3_ones : ones zc3 = true := by kernel_rfl
noncomputable def zc35 : List Value := match zeroOf Try.prog 35 with | some z => z.cells.toList | none => []
theorem al35 (h : H) : xalloc Try.prog 35 h = .ok (.pointer (some ⟨h.next, 0, none⟩)) (h.alloc (.cells zc35 35 0 false)) := Eq.trans (by kernel_rfl) rfl
theorem zc35_len : zc35.length = 103 := by kernel_rfl
theorem zc35_ones : ones zc35 = true := by kernel_rfl
noncomputable def zc38 : List Value := match zeroOf Try.prog 38 with | some z => z.cells.toList | none => []
theorem al38 (h : H) : xalloc Try.prog 38 h = .ok (.pointer (some ⟨h.next, 0, none⟩)) (h.alloc (.cells zc38 38 0 false)) := Eq.trans (by kernel_rfl) rfl
theorem zc38_len : zc38.length = 102 := by kernel_rfl
theorem zc38_ones : ones zc38 = true := by kernel_rfl
noncomputable def zc43 : List Value := match zeroOf Try.prog 43 with | some z => z.cells.toList | none => []
theorem al43 (h : H) : xalloc Try.prog 43 h = .ok (.pointer (some ⟨h.next, 0, none⟩)) (h.alloc (.cells zc43 43 0 false)) := Eq.trans (by kernel_rfl) rfl
theorem zc43_len : zc43.length = 2 := by kernel_rfl
theorem zc43_ones : ones zc43 = true := by kernel_rfl
noncomputable def zc47 : List Value := match zeroOf Try.prog 47 with | some z => z.cells.toList | none => []
theorem al47 (h : H) : xalloc Try.prog 47 h = .ok (.pointer (some ⟨h.next, 0, none⟩)) (h.alloc (.cells zc47 47 0 false)) := Eq.trans (by kernel_rfl) rfl
theorem zc47_len : zc47.length = 4 := by kernel_rfl
theorem zc47_ones : ones zc47 = true := by kernel_rfl
noncomputable def zc69 : List Value := match zeroOf Try.prog 69 with | some z => z.cells.toList | none => []
theorem al69 (h : H) : xalloc Try.prog 69 h = .ok (.pointer (some ⟨h.next, 0, none⟩)) (h.alloc (.cells zc69 69 0 false)) := Eq.trans (by kernel_rfl) rfl
theorem zc69_len : zc69.length = 102 := by kernel_rfl
theorem zc69_ones : ones zc69 = true := by kernel_rfl
noncomputable def zc73 : List Value := match zeroOf Try.prog 73 with | some z => z.cells.toList | none => []
theorem al73 (h : H) : xalloc Try.prog 73 h = .ok (.pointer (some ⟨h.next, 0, none⟩)) (h.alloc (.cells zc73 73 0 false)) := Eq.trans (by kernel_rfl) rfl
theorem zc73_len : zc73.length = 1 := by kernel_rfl
theorem zc73_ones : ones zc73 = true := by kernel_rfl
noncomputable def zc81 : List Value := match zeroOf Try.prog 81 with | some z => z.cells.toList | none => []
theorem al81 (h : H) : xalloc Try.prog 81 h = .ok (.pointer (some ⟨h.next, 0, none⟩)) (h.alloc (.cells zc81 81 0 false)) := Eq.trans (by kernel_rfl) rfl
theorem zc81_len : zc81.length = 103 := by kernel_rfl
theorem zc81_ones : ones zc81 = true := by kernel_rfl
theorem ln115 (b : Option Addr) (n c : Nat) (h : H) : xbuiltin Try.prog .len [115] [.slice b n c] h = .ok (.int .i64 (n : Int)) h := Eq.trans (by kernel_rfl) rfl
theorem ln26 (b : Option Addr) (n c : Nat) (h : H) : xbuiltin Try.prog .len [26] [.slice b n c] h = .ok (.int .i64 (n : Int)) h := Eq.trans (by kernel_rfl) rfl
theorem ln33 (b : Option Addr) (n c : Nat) (h : H) : xbuiltin Try.prog .len [33] [.slice b n c] h = .ok (.int .i64 (n : Int)) h := Eq.trans (by kernel_rfl) rfl
theorem ln44 (b : Option Addr) (n c : Nat) (h : H) : xbuiltin Try.prog .len [44] [.slice b n c] h = .ok (.int .i64 (n : Int)) h := Eq.trans (by kernel_rfl) rfl
theorem ln73 (b : Option Addr) (n c : Nat) (h : H) : xbuiltin Try.prog .len [73] [.slice b n c] h = .ok (.int .i64 (n : Int)) h := Eq.trans (by kernel_rfl) rfl
theorem ln75 (b : Option Addr) (n c : Nat) (h : H) : xbuiltin Try.prog .len [75] [.slice b n c] h = .ok (.int .i64 (n : Int)) h := Eq.trans (by kernel_rfl) rfl
theorem cv114_3 (j : IntKind) (n : Int) (h : H) : xconvert Try.prog 114 3 (.int j n) h = .ok (.int .i64 (IntKind.i64.wrap n)) h := Eq.trans (by kernel_rfl) rfl
theorem cv3_114 (j : IntKind) (n : Int) (h : H) : xconvert Try.prog 3 114 (.int j n) h = .ok (.int .u64 (IntKind.u64.wrap n)) h := Eq.trans (by kernel_rfl) rfl
theorem un115 : Try.prog.underlying 115 = some (.slice 130) := by kernel_rfl
theorem eo115 : elemOf? Try.prog 115 = some 130 := by kernel_rfl
theorem un26 : Try.prog.underlying 26 = some (.slice 35) := by kernel_rfl
theorem eo26 : elemOf? Try.prog 26 = some 35 := by kernel_rfl
theorem un33 : Try.prog.underlying 33 = some (.slice 3) := by kernel_rfl
theorem eo33 : elemOf? Try.prog 33 = some 3 := by kernel_rfl
theorem un44 : Try.prog.underlying 44 = some (.slice 69) := by kernel_rfl
theorem eo44 : elemOf? Try.prog 44 = some 69 := by kernel_rfl
theorem un64 : Try.prog.underlying 64 = some (.slice 63) := by kernel_rfl
theorem eo64 : elemOf? Try.prog 64 = some 63 := by kernel_rfl
theorem un73 : Try.prog.underlying 73 = some (.slice 38) := by kernel_rfl
theorem eo73 : elemOf? Try.prog 73 = some 38 := by kernel_rfl
theorem un75 : Try.prog.underlying 75 = some (.slice 81) := by kernel_rfl
theorem eo75 : elemOf? Try.prog 75 = some 81 := by kernel_rfl
theorem sz3 : szOk Try.prog 3 = true := by kernel_rfl
theorem co3 : Try.prog.cellsOf 3 = 1 := by kernel_rfl
theorem sz5 : szOk Try.prog 5 = true := by kernel_rfl
theorem co5 : Try.prog.cellsOf 5 = 1 := by kernel_rfl
theorem sz27 : szOk Try.prog 27 = true := by kernel_rfl
theorem co27 : Try.prog.cellsOf 27 = 1 := by kernel_rfl
theorem sz35 : szOk Try.prog 35 = true := by kernel_rfl
theorem co35 : Try.prog.cellsOf 35 = 103 := by kernel_rfl
theorem sz38 : szOk Try.prog 38 = true := by kernel_rfl
theorem co38 : Try.prog.cellsOf 38 = 102 := by kernel_rfl
theorem sz46 : szOk Try.prog 46 = true := by kernel_rfl
theorem co46 : Try.prog.cellsOf 46 = 2 := by kernel_rfl
theorem sz63 : szOk Try.prog 63 = true := by kernel_rfl
theorem co63 : Try.prog.cellsOf 63 = 5 := by kernel_rfl
theorem sz69 : szOk Try.prog 69 = true := by kernel_rfl
theorem co69 : Try.prog.cellsOf 69 = 102 := by kernel_rfl
theorem sz81 : szOk Try.prog 81 = true := by kernel_rfl
theorem co81 : Try.prog.cellsOf 81 = 103 := by kernel_rfl
theorem sz130 : szOk Try.prog 130 = true := by kernel_rfl
theorem co130 : Try.prog.cellsOf 130 = 2 := by kernel_rfl
end Go.Proofs.Ytomboannkblccaa.K
