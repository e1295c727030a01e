/- My texts for this claim, in one file: part 29. -/
import Derived.Sort.Walk0
import Derived.Lib.Strings
import Derived.Test.YtialpopmeamojaaGreatPV28
namespace Go.Proofs.YtialpopmeamojaaGreat.K
open Go Go.Kx
set_option maxRecDepth 20000
theorem fa102_0 (b o : Nat) (h : H) : xfieldAddr Tryz.prog 102 (.pointer (some ⟨b,o,none⟩)) 0 h = .ok (.pointer (some ⟨b,o,none⟩)) h := Eq.trans (by kernel_rfl) rfl
theorem fa121_0 (b o : Nat) (h : H) : xfieldAddr Tryz.prog 121 (.pointer (some ⟨b,o,none⟩)) 0 h = .ok (.pointer (some ⟨b,o,none⟩)) h := Eq.trans (by kernel_rfl) rfl
theorem fa121_1 (b o : Nat) (h : H) : xfieldAddr Tryz.prog 121 (.pointer (some ⟨b,o,none⟩)) 1 h = .ok (.pointer (some ⟨b,o + 1,none⟩)) h := Eq.trans (by kernel_rfl) rfl
theorem fa30_0 (b o : Nat) (h : H) : xfieldAddr Tryz.prog 30 (.pointer (some ⟨b,o,none⟩)) 0 h = .ok (.pointer (some ⟨b,o,none⟩)) h := Eq.trans (by kernel_rfl) rfl
theorem fa44_0 (b o : Nat) (h : H) : xfieldAddr Tryz.prog 44 (.pointer (some ⟨b,o,none⟩)) 0 h = .ok (.pointer (some ⟨b,o,none⟩)) h := Eq.trans (by kernel_rfl) rfl
theorem fa47_0 (b o : Nat) (h : H) : xfieldAddr Tryz.prog 47 (.pointer (some ⟨b,o,none⟩)) 0 h = .ok (.pointer (some ⟨b,o,none⟩)) h := Eq.trans (by kernel_rfl) rfl
theorem fa51_0 (b o : Nat) (h : H) : xfieldAddr Tryz.prog 51 (.pointer (some ⟨b,o,none⟩)) 0 h = .ok (.pointer (some ⟨b,o,none⟩)) h := Eq.trans (by kernel_rfl) rfl
theorem fa51_1 (b o : Nat) (h : H) : xfieldAddr Tryz.prog 51 (.pointer (some ⟨b,o,none⟩)) 1 h = .ok (.pointer (some ⟨b,o + 1,none⟩)) h := Eq.trans (by kernel_rfl) rfl
theorem fa54_0 (b o : Nat) (h : H) : xfieldAddr Tryz.prog 54 (.pointer (some ⟨b,o,none⟩)) 0 h = .ok (.pointer (some ⟨b,o,none⟩)) h := Eq.trans (by kernel_rfl) rfl
theorem fa54_1 (b o : Nat) (h : H) : xfieldAddr Tryz.prog 54 (.pointer (some ⟨b,o,none⟩)) 1 h = .ok (.pointer (some ⟨b,o + 1,none⟩)) h := Eq.trans (by kernel_rfl) rfl
theorem fa86_1 (b o : Nat) (h : H) : xfieldAddr Tryz.prog 86 (.pointer (some ⟨b,o,none⟩)) 1 h = .ok (.pointer (some ⟨b,o + 1,none⟩)) h := Eq.trans (by kernel_rfl) rfl
theorem fa88_0 (b o : Nat) (h : H) : xfieldAddr Tryz.prog 88 (.pointer (some ⟨b,o,none⟩)) 0 h = .ok (.pointer (some ⟨b,o,none⟩)) h := Eq.trans (by kernel_rfl) rfl
theorem fa88_1 (b o : Nat) (h : H) : xfieldAddr Tryz.prog 88 (.pointer (some ⟨b,o,none⟩)) 1 h = .ok (.pointer (some ⟨b,o + 1,none⟩)) h := Eq.trans (by kernel_rfl) rfl
theorem ld100 (a : Addr) (h : H) : xload Tryz.prog 100 (.pointer (some a)) h = ofO (h.cell a) h := Eq.trans (by kernel_rfl) rfl
theorem ld121 (a : Addr) (h : H) : xload Tryz.prog 121 (.pointer (some a)) h = ofA (h.row a 103) h := by
  show (match h.row a (Tryz.prog.cellsOf 121) with | some l => (Res.ok (Value.agg ⟨l⟩) h : Res Value) | none => .bad) = _
  rw [show Tryz.prog.cellsOf 121 = 103 by kernel_rfl]; rfl
theorem ld25 (a : Addr) (h : H) : xload Tryz.prog 25 (.pointer (some a)) h = ofO (h.cell a) h := Eq.trans (by kernel_rfl) rfl
theorem ld28 (a : Addr) (h : H) : xload Tryz.prog 28 (.pointer (some a)) h = ofO (h.cell a) h := Eq.trans (by kernel_rfl) rfl
theorem ld3 (a : Addr) (h : H) : xload Tryz.prog 3 (.pointer (some a)) h = ofO (h.cell a) h := Eq.trans (by kernel_rfl) rfl
theorem ld30 (a : Addr) (h : H) : xload Tryz.prog 30 (.pointer (some a)) h = ofA (h.row a 1) h := by
  show (match h.row a (Tryz.prog.cellsOf 30) with | some l => (Res.ok (Value.agg ⟨l⟩) h : Res Value) | none => .bad) = _
  rw [show Tryz.prog.cellsOf 30 = 1 by kernel_rfl]; rfl
theorem ld38 (a : Addr) (h : H) : xload Tryz.prog 38 (.pointer (some a)) h = ofO (h.cell a) h := Eq.trans (by kernel_rfl) rfl
theorem ld42 (a : Addr) (h : H) : xload Tryz.prog 42 (.pointer (some a)) h = ofO (h.cell a) h := Eq.trans (by kernel_rfl) rfl
theorem ld45 (a : Addr) (h : H) : xload Tryz.prog 45 (.pointer (some a)) h = ofO (h.cell a) h := Eq.trans (by kernel_rfl) rfl
theorem ld51 (a : Addr) (h : H) : xload Tryz.prog 51 (.pointer (some a)) h = ofA (h.row a 2) h := by
  show (match h.row a (Tryz.prog.cellsOf 51) with | some l => (Res.ok (Value.agg ⟨l⟩) h : Res Value) | none => .bad) = _
  rw [show Tryz.prog.cellsOf 51 = 2 by kernel_rfl]; rfl
theorem ld54 (a : Addr) (h : H) : xload Tryz.prog 54 (.pointer (some a)) h = ofA (h.row a 2) h := by
  show (match h.row a (Tryz.prog.cellsOf 54) with | some l => (Res.ok (Value.agg ⟨l⟩) h : Res Value) | none => .bad) = _
  rw [show Tryz.prog.cellsOf 54 = 2 by kernel_rfl]; rfl
theorem ld68 (a : Addr) (h : H) : xload Tryz.prog 68 (.pointer (some a)) h = ofA (h.row a 32) h := by
  show (match h.row a (Tryz.prog.cellsOf 68) with | some l => (Res.ok (Value.agg ⟨l⟩) h : Res Value) | none => .bad) = _
  rw [show Tryz.prog.cellsOf 68 = 32 by kernel_rfl]; rfl
theorem ld70 (a : Addr) (h : H) : xload Tryz.prog 70 (.pointer (some a)) h = ofA (h.row a 34) h := by
  show (match h.row a (Tryz.prog.cellsOf 70) with | some l => (Res.ok (Value.agg ⟨l⟩) h : Res Value) | none => .bad) = _
  rw [show Tryz.prog.cellsOf 70 = 34 by kernel_rfl]; rfl
theorem ld83 (a : Addr) (h : H) : xload Tryz.prog 83 (.pointer (some a)) h = ofO (h.cell a) h := Eq.trans (by kernel_rfl) rfl
theorem ld86 (a : Addr) (h : H) : xload Tryz.prog 86 (.pointer (some a)) h = ofA (h.row a 102) h := by
  show (match h.row a (Tryz.prog.cellsOf 86) with | some l => (Res.ok (Value.agg ⟨l⟩) h : Res Value) | none => .bad) = _
  rw [show Tryz.prog.cellsOf 86 = 102 by kernel_rfl]; rfl
theorem ld9 (a : Addr) (h : H) : xload Tryz.prog 9 (.pointer (some a)) h = ofO (h.cell a) h := Eq.trans (by kernel_rfl) rfl
theorem st100 (a : Addr) (v : Value) (h : H) (hv : v.cells.size = 1) : xstore Tryz.prog 100 (.pointer (some a)) v h = ofU (h.write a v.cells.toList) := by
  unfold xstore
  simp only [show szOk Tryz.prog 100 = true by kernel_rfl,show Tryz.prog.cellsOf 100 = 1 by kernel_rfl,hv]; rfl
theorem st121 (a : Addr) (v : Value) (h : H) (hv : v.cells.size = 103) : xstore Tryz.prog 121 (.pointer (some a)) v h = ofU (h.write a v.cells.toList) := by
  unfold xstore
  simp only [show szOk Tryz.prog 121 = true by kernel_rfl,show Tryz.prog.cellsOf 121 = 103 by kernel_rfl,hv]; rfl
theorem st25 (a : Addr) (v : Value) (h : H) (hv : v.cells.size = 1) : xstore Tryz.prog 25 (.pointer (some a)) v h = ofU (h.write a v.cells.toList) := by
  unfold xstore
  simp only [show szOk Tryz.prog 25 = true by kernel_rfl,show Tryz.prog.cellsOf 25 = 1 by kernel_rfl,hv]; rfl
theorem st3 (a : Addr) (v : Value) (h : H) (hv : v.cells.size = 1) : xstore Tryz.prog 3 (.pointer (some a)) v h = ofU (h.write a v.cells.toList) := by
  unfold xstore
  simp only [show szOk Tryz.prog 3 = true by kernel_rfl,show Tryz.prog.cellsOf 3 = 1 by kernel_rfl,hv]; rfl
theorem st30 (a : Addr) (v : Value) (h : H) (hv : v.cells.size = 1) : xstore Tryz.prog 30 (.pointer (some a)) v h = ofU (h.write a v.cells.toList) := by
  unfold xstore
  simp only [show szOk Tryz.prog 30 = true by kernel_rfl,show Tryz.prog.cellsOf 30 = 1 by kernel_rfl,hv]; rfl
theorem st42 (a : Addr) (v : Value) (h : H) (hv : v.cells.size = 1) : xstore Tryz.prog 42 (.pointer (some a)) v h = ofU (h.write a v.cells.toList) := by
  unfold xstore
  simp only [show szOk Tryz.prog 42 = true by kernel_rfl,show Tryz.prog.cellsOf 42 = 1 by kernel_rfl,hv]; rfl
theorem st45 (a : Addr) (v : Value) (h : H) (hv : v.cells.size = 1) : xstore Tryz.prog 45 (.pointer (some a)) v h = ofU (h.write a v.cells.toList) := by
  unfold xstore
  simp only [show szOk Tryz.prog 45 = true by kernel_rfl,show Tryz.prog.cellsOf 45 = 1 by kernel_rfl,hv]; rfl
theorem st86 (a : Addr) (v : Value) (h : H) (hv : v.cells.size = 102) : xstore Tryz.prog 86 (.pointer (some a)) v h = ofU (h.write a v.cells.toList) := by
  unfold xstore
  simp only [show szOk Tryz.prog 86 = true by kernel_rfl,show Tryz.prog.cellsOf 86 = 102 by kernel_rfl,hv]; rfl
theorem ia100 (b o len cap n : Nat) (sp : Option Nat) (k : IntKind) (h : H) (hn : n < len) : xindexAddr Tryz.prog 100 (.slice (some ⟨b,o,sp⟩) len cap) (.int k (n : Int)) h = .ok (.pointer (some ⟨b,o + n * 103,none⟩)) h := by
  show (bif Nat.blt n len && szOk Tryz.prog 121 then Res.ok (Value.pointer (some ⟨b,o + n * Tryz.prog.cellsOf 121,none⟩)) h else .bad) = _
  rw [show szOk Tryz.prog 121 = true by kernel_rfl,show Tryz.prog.cellsOf 121 = 103 by kernel_rfl,bltT hn]; rfl
theorem ia22 (b o len cap n : Nat) (sp : Option Nat) (k : IntKind) (h : H) (hn : n < len) : xindexAddr Tryz.prog 22 (.slice (some ⟨b,o,sp⟩) len cap) (.int k (n : Int)) h = .ok (.pointer (some ⟨b,o + n * 1,none⟩)) h := by
  show (bif Nat.blt n len && szOk Tryz.prog 9 then Res.ok (Value.pointer (some ⟨b,o + n * Tryz.prog.cellsOf 9,none⟩)) h else .bad) = _
  rw [show szOk Tryz.prog 9 = true by kernel_rfl,show Tryz.prog.cellsOf 9 = 1 by kernel_rfl,bltT hn]; rfl
theorem ia28 (b o len cap n : Nat) (sp : Option Nat) (k : IntKind) (h : H) (hn : n < len) : xindexAddr Tryz.prog 28 (.slice (some ⟨b,o,sp⟩) len cap) (.int k (n : Int)) h = .ok (.pointer (some ⟨b,o + n * 1,none⟩)) h := by
  show (bif Nat.blt n len && szOk Tryz.prog 3 then Res.ok (Value.pointer (some ⟨b,o + n * Tryz.prog.cellsOf 3,none⟩)) h else .bad) = _
  rw [show szOk Tryz.prog 3 = true by kernel_rfl,show Tryz.prog.cellsOf 3 = 1 by kernel_rfl,bltT hn]; rfl
theorem ia42 (b o len cap n : Nat) (sp : Option Nat) (k : IntKind) (h : H) (hn : n < len) : xindexAddr Tryz.prog 42 (.slice (some ⟨b,o,sp⟩) len cap) (.int k (n : Int)) h = .ok (.pointer (some ⟨b,o + n * 2,none⟩)) h := by
  show (bif Nat.blt n len && szOk Tryz.prog 51 then Res.ok (Value.pointer (some ⟨b,o + n * Tryz.prog.cellsOf 51,none⟩)) h else .bad) = _
  rw [show szOk Tryz.prog 51 = true by kernel_rfl,show Tryz.prog.cellsOf 51 = 2 by kernel_rfl,bltT hn]; rfl
theorem ia45 (b o len cap n : Nat) (sp : Option Nat) (k : IntKind) (h : H) (hn : n < len) : xindexAddr Tryz.prog 45 (.slice (some ⟨b,o,sp⟩) len cap) (.int k (n : Int)) h = .ok (.pointer (some ⟨b,o + n * 2,none⟩)) h := by
  show (bif Nat.blt n len && szOk Tryz.prog 54 then Res.ok (Value.pointer (some ⟨b,o + n * Tryz.prog.cellsOf 54,none⟩)) h else .bad) = _
  rw [show szOk Tryz.prog 54 = true by kernel_rfl,show Tryz.prog.cellsOf 54 = 2 by kernel_rfl,bltT hn]; rfl
noncomputable def zc121 : List Value := match zeroOf Tryz.prog 121 with | some z => z.cells.toList | none => []
theorem al121 (h : H) : xalloc Tryz.prog 121 h = .ok (.pointer (some ⟨h.next,0,none⟩)) (h.alloc (.cells zc121 121 0 false)) := Eq.trans (by kernel_rfl) rfl
theorem zc121_len : zc121.length = 103 := by kernel_rfl
theorem zc121_ones : ones zc121 = true := by kernel_rfl
noncomputable def zc3 : List Value := match zeroOf Tryz.prog 3 with | some z => z.cells.toList | none => []
theorem al3 (h : H) : xalloc Tryz.prog 3 h = .ok (.pointer (some ⟨h.next,0,none⟩)) (h.alloc (.cells zc3 3 0 false)) := Eq.trans (by kernel_rfl) rfl
noncomputable def zc30 : List Value := match zeroOf Tryz.prog 30 with | some z => z.cells.toList | none => []
theorem al30 (h : H) : xalloc Tryz.prog 30 h = .ok (.pointer (some ⟨h.next,0,none⟩)) (h.alloc (.cells zc30 30 0 false)) := Eq.trans (by kernel_rfl) rfl
theorem zc30_len : zc30.length = 1 := by kernel_rfl
noncomputable def zc86 : List Value := match zeroOf Tryz.prog 86 with | some z => z.cells.toList | none => []
theorem al86 (h : H) : xalloc Tryz.prog 86 h = .ok (.pointer (some ⟨h.next,0,none⟩)) (h.alloc (.cells zc86 86 0 false)) := Eq.trans (by kernel_rfl) rfl
theorem zc86_len : zc86.length = 102 := by kernel_rfl
theorem ln100 (b : Option Addr) (n c : Nat) (h : H) : xbuiltin Tryz.prog .len [100] [.slice b n c] h = .ok (.int .i64 (n : Int)) h := Eq.trans (by kernel_rfl) rfl
theorem ln22 (b : Option Addr) (n c : Nat) (h : H) : xbuiltin Tryz.prog .len [22] [.slice b n c] h = .ok (.int .i64 (n : Int)) h := Eq.trans (by kernel_rfl) rfl
theorem ln28 (b : Option Addr) (n c : Nat) (h : H) : xbuiltin Tryz.prog .len [28] [.slice b n c] h = .ok (.int .i64 (n : Int)) h := Eq.trans (by kernel_rfl) rfl
theorem ln42 (b : Option Addr) (n c : Nat) (h : H) : xbuiltin Tryz.prog .len [42] [.slice b n c] h = .ok (.int .i64 (n : Int)) h := Eq.trans (by kernel_rfl) rfl
theorem ln45 (b : Option Addr) (n c : Nat) (h : H) : xbuiltin Tryz.prog .len [45] [.slice b n c] h = .ok (.int .i64 (n : Int)) h := Eq.trans (by kernel_rfl) rfl
theorem cv3_99 (j : IntKind) (n : Int) (h : H) : xconvert Tryz.prog 3 99 (.int j n) h = .ok (.int .u64 (IntKind.u64.wrap n)) h := Eq.trans (by kernel_rfl) rfl
theorem cv99_3 (j : IntKind) (n : Int) (h : H) : xconvert Tryz.prog 99 3 (.int j n) h = .ok (.int .i64 (IntKind.i64.wrap n)) h := Eq.trans (by kernel_rfl) rfl
theorem un100 : Tryz.prog.underlying 100 = some (.slice 121) := by kernel_rfl
theorem eo100 : elemOf? Tryz.prog 100 = some 121 := by kernel_rfl
theorem un42 : Tryz.prog.underlying 42 = some (.slice 51) := by kernel_rfl
theorem eo42 : elemOf? Tryz.prog 42 = some 51 := by kernel_rfl
theorem sz51 : szOk Tryz.prog 51 = true := by kernel_rfl
theorem co51 : Tryz.prog.cellsOf 51 = 2 := by kernel_rfl
theorem sz121 : szOk Tryz.prog 121 = true := by kernel_rfl
theorem co121 : Tryz.prog.cellsOf 121 = 103 := by kernel_rfl
end Go.Proofs.YtialpopmeamojaaGreat.K
namespace Go.Proofs.YtialpopmeamojaaGreat.K
open Go Go.Kx
set_option maxRecDepth 20000
set_option linter.unusedVariables false
noncomputable def tabM : Tab := fun f => match f with
  | 15 => none
  | 17 => none
  | 20 => none
  | 53 => none
  | 82 => none
  | n => tab n
noncomputable def CLM : Cl := clS Tryz.prog tabM primM
variable (args : List Value) (h : H)
theorem cM3 : CLM (.f 3) args h = runX Tryz.prog CLM nu0 an3 Tryz.f3 args h := clS_eq (by kernel_rfl) args h
theorem cM4 : CLM (.f 4) args h = runX Tryz.prog CLM nu0 an4 Tryz.f4 args h := clS_eq (by kernel_rfl) args h
theorem cM5 : CLM (.f 5) args h = runX Tryz.prog CLM nu0 an5 Tryz.f5 args h := clS_eq (by kernel_rfl) args h
theorem cM6 : CLM (.f 6) args h = runX Tryz.prog CLM nu0 an6 Tryz.f6 args h := clS_eq (by kernel_rfl) args h
theorem cM7 : CLM (.f 7) args h = runX Tryz.prog CLM nu0 an7 Tryz.f7 args h := clS_eq (by kernel_rfl) args h
theorem cM8 : CLM (.f 8) args h = runX Tryz.prog CLM nu0 an8 Tryz.f8 args h := clS_eq (by kernel_rfl) args h
theorem cM9 : CLM (.f 9) args h = runX Tryz.prog CLM nu0 an9 Tryz.f9 args h := clS_eq (by kernel_rfl) args h
theorem cM10 : CLM (.f 10) args h = runX Tryz.prog CLM nu0 an10 Tryz.f10 args h := clS_eq (by kernel_rfl) args h
theorem cM11 : CLM (.f 11) args h = runX Tryz.prog CLM nu0 an11 Tryz.f11 args h := clS_eq (by kernel_rfl) args h
theorem cM12 : CLM (.f 12) args h = runX Tryz.prog CLM nu0 an12 Tryz.f12 args h := clS_eq (by kernel_rfl) args h
theorem cM14 : CLM (.f 14) args h = runX Tryz.prog CLM nu0 an14 Tryz.f14 args h := clS_eq (by kernel_rfl) args h
theorem cM16 : CLM (.f 16) args h = runX Tryz.prog CLM nu0 an16 Tryz.f16 args h := clS_eq (by kernel_rfl) args h
theorem cM18 : CLM (.f 18) args h = runX Tryz.prog CLM nu0 an18 Tryz.f18 args h := clS_eq (by kernel_rfl) args h
theorem cM25 : CLM (.f 25) args h = runX Tryz.prog CLM nu0 an25 Tryz.f25 args h := clS_eq (by kernel_rfl) args h
theorem cM26 : CLM (.f 26) args h = runX Tryz.prog CLM nu0 an26 Tryz.f26 args h := clS_eq (by kernel_rfl) args h
theorem cM27 : CLM (.f 27) args h = runX Tryz.prog CLM nu0 an27 Tryz.f27 args h := clS_eq (by kernel_rfl) args h
theorem cM30 : CLM (.f 30) args h = runX Tryz.prog CLM nu0 an30 Tryz.f30 args h := clS_eq (by kernel_rfl) args h
theorem cM31 : CLM (.f 31) args h = runX Tryz.prog CLM nu0 an31 Tryz.f31 args h := clS_eq (by kernel_rfl) args h
theorem cM42 : CLM (.f 42) args h = runX Tryz.prog CLM nu0 an42 Tryz.f42 args h := clS_eq (by kernel_rfl) args h
theorem cM13 : CLM (.f 13) args h = runX Tryz.prog CLM nu0 an13 Tryz.f13 args h := clS_eq (by kernel_rfl) args h
theorem cM19 : CLM (.f 19) args h = runX Tryz.prog CLM nu0 an19 Tryz.f19 args h := clS_eq (by kernel_rfl) args h
theorem cM21 : CLM (.f 21) args h = runX Tryz.prog CLM nu0 an21 Tryz.f21 args h := clS_eq (by kernel_rfl) args h
theorem cM22 : CLM (.f 22) args h = runX Tryz.prog CLM nu0 an22 Tryz.f22 args h := clS_eq (by kernel_rfl) args h
theorem cM23 : CLM (.f 23) args h = runX Tryz.prog CLM nu0 an23 Tryz.f23 args h := clS_eq (by kernel_rfl) args h
theorem cM24 : CLM (.f 24) args h = runX Tryz.prog CLM nu0 an24 Tryz.f24 args h := clS_eq (by kernel_rfl) args h
theorem cM34 : CLM (.f 34) args h = runX Tryz.prog CLM nu0 an34 Tryz.f34 args h := clS_eq (by kernel_rfl) args h
theorem cM38 : CLM (.f 38) args h = runX Tryz.prog CLM nu0 an38 Tryz.f38 args h := clS_eq (by kernel_rfl) args h
theorem cM39 : CLM (.f 39) args h = runX Tryz.prog CLM nu0 an39 Tryz.f39 args h := clS_eq (by kernel_rfl) args h
theorem cM40 : CLM (.f 40) args h = runX Tryz.prog CLM nu0 an40 Tryz.f40 args h := clS_eq (by kernel_rfl) args h
theorem cM41 : CLM (.f 41) args h = runX Tryz.prog CLM nu0 an41 Tryz.f41 args h := clS_eq (by kernel_rfl) args h
theorem cM52 : CLM (.f 52) args h = runX Tryz.prog CLM nu0 an52 Tryz.f52 args h := clS_eq (by kernel_rfl) args h
theorem cM54 : CLM (.f 54) args h = runX Tryz.prog CLM nu0 an54 Tryz.f54 args h := clS_eq (by kernel_rfl) args h
theorem cM55 : CLM (.f 55) args h = runX Tryz.prog CLM nu0 an55 Tryz.f55 args h := clS_eq (by kernel_rfl) args h
theorem cM56 : CLM (.f 56) args h = runX Tryz.prog CLM nu0 an56 Tryz.f56 args h := clS_eq (by kernel_rfl) args h
theorem cM74 : CLM (.f 74) args h = runX Tryz.prog CLM nu0 an74 Tryz.f74 args h := clS_eq (by kernel_rfl) args h
theorem cM75 : CLM (.f 75) args h = runX Tryz.prog CLM nu0 an75 Tryz.f75 args h := clS_eq (by kernel_rfl) args h
theorem cM76 : CLM (.f 76) args h = runX Tryz.prog CLM nu0 an76 Tryz.f76 args h := clS_eq (by kernel_rfl) args h
theorem cM79 : CLM (.f 79) args h = runX Tryz.prog CLM nu0 an79 Tryz.f79 args h := clS_eq (by kernel_rfl) args h
theorem cM80 : CLM (.f 80) args h = runX Tryz.prog CLM nu0 an80 Tryz.f80 args h := clS_eq (by kernel_rfl) args h
theorem cM88 : CLM (.f 88) args h = runX Tryz.prog CLM nu0 an88 Tryz.f88 args h := clS_eq (by kernel_rfl) args h
theorem cM15 (args : List Value) (h : H) : CLM (.f 15) args h = primM 15 args h := clS_prim (by kernel_rfl) args h
theorem cM17 (args : List Value) (h : H) : CLM (.f 17) args h = primM 17 args h := clS_prim (by kernel_rfl) args h
theorem cM20 (args : List Value) (h : H) : CLM (.f 20) args h = primM 20 args h := clS_prim (by kernel_rfl) args h
theorem cM53 (args : List Value) (h : H) : CLM (.f 53) args h = primM 53 args h := clS_prim (by kernel_rfl) args h
end Go.Proofs.YtialpopmeamojaaGreat.K
namespace Go.Proofs.YtialpopmeamojaaGreat.K
open Go Go.Kx
set_option maxRecDepth 100000
set_option linter.unusedVariables false
def hOps : H := H0.alloc (.cells (opsC ops8) 59 0 false)
noncomputable def toldI : Res Value := clR Tryz.prog tabI primI 400 (.f 20) [.slice (some ⟨0,0,none⟩) 8 8] hOps
theorem toldI_run : (match toldI with | .ok v h => (some v,h.get 0) | _ => (none,none)) = (some (.bool true),hOps.get 0) := by kernel_rfl
theorem toldI_ok : ∃ h1,toldI = .ok (.bool true) h1 ∧ h1.get 0 = hOps.get 0 := by
  have hr := toldI_run
  cases h : toldI with
  | ok v h' =>
    rw [h] at hr
    simp only [Prod.mk.injEq,Option.some.injEq] at hr
    obtain ⟨rfl,q1⟩ := hr
    exact ⟨h',rfl,q1⟩
  | pan v h' => rw [h] at hr; simp at hr
  | bad => rw [h] at hr; simp at hr
theorem CLI_ints : ∃ h1,CLI (.f 20) [.slice (some ⟨0,0,none⟩) 8 8] hOps = .ok (.bool true) h1 ∧ h1.get 0 = hOps.get 0 := toldI_ok
end Go.Proofs.YtialpopmeamojaaGreat.K
namespace Go.Proofs.YtialpopmeamojaaGreat.K
open Go Go.Kx
set_option maxRecDepth 100000
set_option linter.unusedVariables false
theorem back {P : Program} {ι ι₂ : Io} {h : H} {w w' : World} (s : Sim P ι h w) {b : Nat} {e : Ent} {c : List Value} {el : TypeId} (hg : h.get b = some (.cells c el 0 false)) (he : ι b = some e) (hf : flatL c = true)
    (st : Step (fun x => if x = 0 then some e else none) w ι₂ w') (bv : BRel P ι₂ e w' (.cells c el 0 false)) : Step ι w ι w' ∧ Sim P ι h w' := by
  have hι : ∀ x e',(fun x => if x = 0 then some e else none : Io) x = some e' → e' = e := by
    intro x e' z
    by_cases hx : x = 0
    · simpa [hx] using z.symm
    · simp [hx] at z
  have hcs : ∀ x y e',h.get x = some y → y.live = true → ι x = some e' → x ≠ b → w'.heap[e'.c]? = w.heap[e'.c]? := by
    intro x y e' hy hl hi hne
    refine st.keep _ (s.dom _ _ hi).2 fun x1 e1 q1 q2 => ?_
    rw [hι x1 e1 q1] at q2
    exact hne (s.inj _ _ _ _ _ _ hy hg hl rfl hi he q2.symm)
  refine ⟨⟨Ext.refl _,fun _ _ h1 h2 => (by rw [h1] at h2; cases h2),st.os,st.tape,st.output,st.size,?_,st.shp⟩,⟨?_,?_,s.inj⟩⟩
  · intro k hk hno
    refine st.keep k hk fun x1 e1 q1 q2 => ?_
    rw [hι x1 e1 q1] at q2
    exact hno _ _ he q2
  · intro x e' hx
    have := s.dom x e' hx
    have := st.size
    omega
  · intro x y hy hl
    obtain ⟨e',he',hr⟩ := s.blk x y hy hl
    refine ⟨e',he',?_⟩
    by_cases hxb : x = b
    · subst hxb
      rw [he] at he'; cases he'
      rw [hg] at hy; cases hy
      obtain ⟨arr,lo,hi,g1,g2,g3,g4,g5,g6,g7,g8⟩ := bv
      exact ⟨arr,lo,hi,g1,g2,g3,by rw [RL.flatEq g4 hf]; exact RL.ofFlat ι _ hf,g5,g6,g7,g8⟩
    · exact hr.mono (Ext.refl _) (hcs x y e' hy hl he' hxb)
theorem ops_flat : flatL (opsC ops8) = true := by kernel_rfl
theorem ints19_gen {cl : Cl} (hcl : ClOk Tryz.prog 0 cl) {h1 : H} (hr : cl (.f 20) [.slice (some ⟨0,0,none⟩) 8 8] hOps = .ok (.bool true) h1) (hg1 : h1.get 0 = hOps.get 0) (args args' : List Value) (ι : Io) (h : H) (w : World) (s : Sim Tryz.prog ι h w) (ha : RL ι args args') : SN Tryz.prog ι w (bif ops8At args h then .ok (.bool true) h else .bad) (callFunc 20 ⟨args'⟩) := by
  cases hq : ops8At args h with
  | false => trivial
  | true =>
    simp only [cond_true]
    unfold ops8At at hq
    split at hq
    · rename_i b
      split at hq
      · rename_i c hg
        have hc := isOps_eq _ _ hq
        subst hc
        cases ha with
        | cons q1 q2 =>
          cases q2
          cases q1 with
          | @slcO _ _ _ _ e he hcap =>
            obtain ⟨e',k1,bv⟩ := s.blk b _ hg rfl
            rw [he] at k1; cases k1
            have hsl := (opn_of s he hg).2 rfl
            let ι₁ : Io := fun x => if x = 0 then some e else none
            have bv1 : ∀ ι',BRel Tryz.prog ι' e w (.cells (opsC ops8) 59 0 false) := by
              intro ι'
              obtain ⟨arr,lo,hi,g1,g2,g3,g4,g5,g6,g7,g8⟩ := bv
              exact ⟨arr,lo,hi,g1,g2,g3,by rw [RL.flatEq g4 ops_flat]; exact RL.ofFlat ι' _ ops_flat,g5,g6,g7,g8⟩
            have g0 : hOps.get 0 = some (.cells (opsC ops8) 59 0 false) := H.alloc_self H0 _
            have hn0 : hOps.next = 1 := rfl
            have s₁ : Sim Tryz.prog ι₁ hOps w := by
              refine ⟨?_,?_,?_⟩
              · intro x e' z
                by_cases hx : x = 0
                · have : e' = e := by simpa [ι₁,hx] using z.symm
                  subst this
                  exact ⟨by rw [hn0]; omega,(s.dom _ _ he).2⟩
                · simp [ι₁,hx] at z
              · intro x y hy hl
                have hlt := H.get_lt hy
                rw [hn0] at hlt
                have : x = 0 := by omega
                subst this
                rw [g0] at hy; cases hy
                exact ⟨e,rfl,bv1 _⟩
              · intro x₁ x₂ _ _ _ _ y₁ y₂ _ _ _ _ _
                have h1 := H.get_lt y₁
                have h2 := H.get_lt y₂
                rw [hn0] at h1 h2
                omega
            have := hcl.fn 20 [.slice (some ⟨0,0,none⟩) 8 8] [.slice (some ⟨e.c,0 + e.sh,none⟩) 8 (8 + e.slack)] ι₁ hOps w (fun g hg => absurd hg (Nat.not_lt_zero g)) s₁
              (.cons (.slcO (b := 0) (e := e) rfl hcap) .nil)
            rw [hr] at this
            unfold SN at this ⊢
            refine Upon.mono ?_ (fun _ _ z => z) this
            rintro v' w' ⟨ι₂,st,s₂,rr⟩
            cases rr
            obtain ⟨e2,k2,bv2⟩ := s₂.blk 0 _ (hg1.trans g0) rfl
            have j0 := st.ext 0 e rfl
            rw [j0] at k2; cases k2
            obtain ⟨t1,t2⟩ := back s hg he ops_flat st bv2
            exact ⟨ι,t1,t2,.bool _⟩
      · cases hq
    · cases hq
theorem ints19_ok (args args' : List Value) (ι : Io) (h : H) (w : World) (s : Sim Tryz.prog ι h w) (ha : RL ι args args') : SN Tryz.prog ι w (bif ops8At args h then .ok (.bool true) h else .bad) (callFunc 20 ⟨args'⟩) := by
  obtain ⟨h1,hr,hg1⟩ := CLI_ints
  exact ints19_gen CLI_ok hr hg1 args args' ι h w s ha
theorem primM_ok : PrOk Tryz.prog 0 primM := by
  intro f args args' ι h w hg s ha
  unfold primM
  split
  · exact ints19_ok args args' ι h w s ha
  · exact insP_ok TA (G := 0) CLO_ok bodyA (fun args h => clS_prim (by kernel_rfl) args h) args args' ι h w s ha
  · exact insP_ok TB (G := 0) CLO_ok bodyB (fun args h => clS_prim (by kernel_rfl) args h) args args' ι h w s ha
  · exact insP_ok TC (G := 0) CLO_ok bodyC (fun args h => clS_prim (by kernel_rfl) args h) args args' ι h w s ha
  · exact insP_ok TD (G := 0) CLO_ok bodyD (fun args h => clS_prim (by kernel_rfl) args h) args args' ι h w s ha
  · trivial
theorem tabM_ok : ∀ f fn an,tabM f = some (fn,an) → fnOk Tryz.prog 0 an f fn := by
  intro f fn an h
  unfold tabM at h
  split at h
  · cases h
  · cases h
  · cases h
  · cases h
  · cases h
  · exact tab_ok _ _ _ h
theorem CLM_ok : ClOk Tryz.prog 0 CLM := clS_ok mixed tabM_ok primM_ok
end Go.Proofs.YtialpopmeamojaaGreat.K
namespace Go.Proofs.YtialpopmeamojaaGreat.K
open Go Go.Kx
set_option linter.unusedVariables false
set_option linter.unusedSimpArgs false
set_option maxRecDepth 20000
theorem str_eq (a b : ByteArray) : (a.toList == b.toList) = decide (a = b) := by
  rw [Go.Lib.toList_data,Go.Lib.toList_data]
  by_cases h : a = b
  · subst h; simp
  · have : ¬ a.data = b.data := fun q => h (ByteArray.ext q)
    simp [h,this]
def sLt (a b : ByteArray) : Bool := Op.bytesLess a.toList b.toList
section
variable (P : Program) (t : TypeId) (a b : ByteArray) (h : H)
theorem xsneq : xbin P .neq t (.string a) (.string b) h = .ok (.bool (!decide (a = b))) h := by rw [← str_eq]; simp [xbin,flat,binOp,Op.stringOp,prun,xflat,pure,Sem.pure]
theorem xslss : xbin P .lss t (.string a) (.string b) h = .ok (.bool (sLt a b)) h := by unfold sLt; simp [xbin,flat,binOp,Op.stringOp,prun,xflat,pure,Sem.pure]
theorem xsgtr : xbin P .gtr t (.string a) (.string b) h = .ok (.bool (!(sLt a b || decide (a = b)))) h := by rw [← str_eq]; unfold sLt; simp [xbin,flat,binOp,Op.stringOp,prun,xflat,pure,Sem.pure]
end
theorem sLt_iff (a b : ByteArray) : sLt a b = decide (a.toList < b.toList) := by unfold sLt; exact Go.Proofs.bytesLess_eq _ _
theorem toList_ne {a b : ByteArray} (h : a ≠ b) : a.toList ≠ b.toList := fun q => by
  have := str_eq a b
  rw [q] at this
  simp at this
  exact h this
theorem sLt_irrefl (a : ByteArray) : sLt a a = false := by rw [sLt_iff]; exact decide_eq_false (List.lt_irrefl _)
theorem sLt_trans {a b c : ByteArray} (h1 : sLt a b = true) (h2 : sLt b c = true) : sLt a c = true := by
  rw [sLt_iff,decide_eq_true_iff] at *
  exact List.lt_trans h1 h2
theorem toList_inj {a b : ByteArray} (h : a.toList = b.toList) : a = b := by
  by_cases q : a = b
  · exact q
  · exact absurd h (toList_ne q)
theorem sLt_tri (a b : ByteArray) : sLt a b = true ∨ a = b ∨ sLt b a = true := by
  rw [sLt_iff,sLt_iff,decide_eq_true_iff,decide_eq_true_iff]
  by_cases h1 : a.toList < b.toList
  · exact .inl h1
  · by_cases h2 : b.toList < a.toList
    · exact .inr (.inr h2)
    · exact .inr (.inl (toList_inj (List.le_antisymm (List.not_lt.1 h2) (List.not_lt.1 h1))))
def cmpS (a b : ByteArray) : Int := if sLt a b then -1 else if a = b then 0 else 1
theorem eCmpStr (a b : ByteArray) (h : H) : CLM (.f 27) [.string a,.string b] h = .ok (.int .i64 (cmpS a b)) h := by
  have n : ∀ (x : ByteArray) (h : H),CLM (.f 42) [.string x] h = .ok (.bool false) h := fun x h => by
    rw [cM42,F42.eq,xsneq,go_ok]; simp
  unfold cmpS
  rw [cM27,F27.eq,n,go_ok,n,go_ok,ifV_f,ifV_f,xslss,go_ok]
  cases q : sLt a b with
  | true => rw [ifV_t,if_pos rfl]
  | false =>
    rw [ifV_f,if_neg (by simp),xsgtr,go_ok,q,Bool.false_or,ifV_not]
    split <;> rfl
theorem wadd1 {n : Nat} (h : n < 2000000) : IntKind.i64.wrap ((n : Int) + 1) = ((n + 1 : Nat) : Int) := by rw [wrap64 (by omega)]; omega
abbrev Rw := ByteArray × Value
def rws (rows : List Rw) : List (List Value) := rows.map fun r => [.string r.1,r.2]
theorem rws_len (rows : List Rw) : (rws rows).length = rows.length := by simp [rws]
def Good (rows : List Rw) : Prop := ∀ r ∈ rows,r.2.oneCell' = true
theorem Good.r {rows : List Rw} (g : Good rows) : GoodR 2 (rws rows) := fun r hr => by
  obtain ⟨q,hq,rfl⟩ := List.mem_map.1 hr
  refine ⟨rfl,?_⟩
  show (true && (q.2.oneCell' && true)) = true
  rw [g q hq]; rfl
def key (rows : List Rw) (m : Nat) : ByteArray := ((rows[m]?).map (·.1)).getD ⟨#[]⟩
def Srt : List Rw → Prop
  | [] => True
  | r :: l => (∀ q ∈ l,sLt r.1 q.1 = true) ∧ Srt l
def lb (rows : List Rw) (k : ByteArray) : Nat := (rows.takeWhile fun r => sLt r.1 k).length
theorem lb_le (rows : List Rw) (k : ByteArray) : lb rows k ≤ rows.length := (List.takeWhile_prefix _).length_le
theorem lb_pos {r : Rw} {l : List Rw} {k : ByteArray} (h : sLt r.1 k = true) : lb (r :: l) k = lb l k + 1 := by
  unfold lb
  rw [List.takeWhile_cons_of_pos (by simpa using h)]
  simp
theorem lb_neg {r : Rw} {l : List Rw} {k : ByteArray} (h : sLt r.1 k = false) : lb (r :: l) k = 0 := by
  unfold lb
  rw [List.takeWhile_cons_of_neg (by simp [h])]
  simp
theorem key_0 (r : Rw) (l : List Rw) : key (r :: l) 0 = r.1 := rfl
theorem key_s (r : Rw) (l : List Rw) (m : Nat) : key (r :: l) (m + 1) = key l m := by unfold key; rw [List.getElem?_cons_succ]
theorem lb_lo : ∀ (rows : List Rw) (k : ByteArray) (m : Nat),m < lb rows k → sLt (key rows m) k = true
  | [],k,m,h => by simp [lb] at h
  | r :: l,k,m,h => by
    cases hr : sLt r.1 k with
    | true =>
      rw [lb_pos hr] at h
      cases m with
      | zero => exact hr
      | succ m => rw [key_s]; exact lb_lo l k m (by omega)
    | false => rw [lb_neg hr] at h; omega
theorem lb_hi : ∀ {rows : List Rw} (s : Srt rows) (k : ByteArray) (m : Nat),lb rows k ≤ m → m < rows.length → sLt (key rows m) k = false
  | [],_,k,m,_,h => by simp at h
  | r :: l,s,k,m,h,hm => by
    simp only [List.length_cons] at hm
    cases hr : sLt r.1 k with
    | true =>
      rw [lb_pos hr] at h
      cases m with
      | zero => omega
      | succ m => rw [key_s]; exact lb_hi s.2 k m (by omega) (by omega)
    | false =>
      cases m with
      | zero => exact hr
      | succ m =>
        rw [key_s]
        have hm' : m < l.length := by omega
        have := s.1 l[m] (List.getElem_mem hm')
        have hk : key l m = l[m].1 := by unfold key; rw [List.getElem?_eq_getElem hm']; rfl
        rw [hk]
        cases q : sLt l[m].1 k with
        | false => rfl
        | true => rw [sLt_trans this q] at hr; cases hr
def hasK (rows : List Rw) (k : ByteArray) : Prop := lb rows k < rows.length ∧ key rows (lb rows k) = k
instance (rows : List Rw) (k : ByteArray) : Decidable (hasK rows k) := by unfold hasK; exact inferInstance
theorem has_iff : ∀ {rows : List Rw} (s : Srt rows) {k : ByteArray},hasK rows k ↔ ∃ v,(k,v) ∈ rows
  | [],_,k => ⟨fun h => by simp [hasK] at h,fun ⟨v,h⟩ => by cases h⟩
  | r :: l,s,k => by
    have ih := has_iff (rows := l) s.2 (k := k)
    cases hr : sLt r.1 k with
    | true =>
      have e : hasK (r :: l) k ↔ hasK l k := by
        unfold hasK
        rw [lb_pos hr,key_s,List.length_cons]
        constructor
        · rintro ⟨a,b⟩; exact ⟨by omega,b⟩
        · rintro ⟨a,b⟩; exact ⟨by omega,b⟩
      rw [e,ih]
      constructor
      · rintro ⟨v,h⟩; exact ⟨v,List.mem_cons_of_mem _ h⟩
      · rintro ⟨v,h⟩
        rcases List.mem_cons.1 h with q | q
        · rw [← q] at hr; rw [sLt_irrefl] at hr; cases hr
        · exact ⟨v,q⟩
    | false =>
      have e : hasK (r :: l) k ↔ r.1 = k := by
        unfold hasK
        rw [lb_neg hr,key_0,List.length_cons]
        exact ⟨fun h => h.2,fun h => ⟨by omega,h⟩⟩
      rw [e]
      constructor
      · intro h; exact ⟨r.2,by rw [← h]; exact List.mem_cons_self⟩
      · rintro ⟨v,h⟩
        rcases List.mem_cons.1 h with q | q
        · rw [← q]
        · have := s.1 _ q
          rw [hr] at this; cases this
theorem Srt.uniq : ∀ {rows : List Rw} (s : Srt rows) {k : ByteArray} {v w : Value},(k,v) ∈ rows → (k,w) ∈ rows → v = w
  | r :: l,s,k,v,w,h1,h2 => by
    rcases List.mem_cons.1 h1 with q1 | q1 <;> rcases List.mem_cons.1 h2 with q2 | q2
    · rw [← q1] at q2; cases q2; rfl
    · have := s.1 _ q2; rw [← q1,sLt_irrefl] at this; cases this
    · have := s.1 _ q1; rw [← q2,sLt_irrefl] at this; cases this
    · exact Srt.uniq s.2 q1 q2
theorem key_at {rows : List Rw} {m : Nat} {r : Rw} (h : rows[m]? = some r) : key rows m = r.1 := by unfold key; rw [h]; rfl
theorem Srt.append : ∀ {a b : List Rw},Srt (a ++ b) → Srt a ∧ Srt b ∧ ∀ p ∈ a,∀ q ∈ b,sLt p.1 q.1 = true
  | [],b,h => ⟨trivial,h,fun p hp => by cases hp⟩
  | r :: a,b,h => by
    obtain ⟨h1,h2,h3⟩ := Srt.append h.2
    refine ⟨⟨fun q hq => h.1 q (List.mem_append.2 (.inl hq)),h1⟩,h2,fun p hp q hq => ?_⟩
    rcases List.mem_cons.1 hp with rfl | hp
    · exact h.1 q (List.mem_append.2 (.inr hq))
    · exact h3 p hp q hq
theorem Srt.of_append : ∀ {a b : List Rw},Srt a → Srt b → (∀ p ∈ a,∀ q ∈ b,sLt p.1 q.1 = true) → Srt (a ++ b)
  | [],b,_,h,_ => h
  | r :: a,b,h,hb,hx => ⟨fun q hq => (List.mem_append.1 hq).elim (h.1 q) (hx r (by simp) q),Srt.of_append h.2 hb fun p hp => hx p (by simp [hp])⟩
def insR (rows : List Rw) (k : ByteArray) (v : Value) : List Rw := rows.take (lb rows k) ++ (k,v) :: rows.drop (lb rows k)
theorem ins_len (rows : List Rw) (k : ByteArray) (v : Value) : (insR rows k v).length = rows.length + 1 := by
  have := lb_le rows k
  simp only [insR,List.length_append,List.length_cons,List.length_take,List.length_drop]
  omega
theorem ins_mem {rows : List Rw} {k : ByteArray} {v : Value} {q : Rw} : q ∈ insR rows k v ↔ q = (k,v) ∨ q ∈ rows := by
  unfold insR
  rw [List.mem_append,List.mem_cons]
  constructor
  · rintro (h | h | h)
    · exact .inr (List.mem_of_mem_take h)
    · exact .inl h
    · exact .inr (List.mem_of_mem_drop h)
  · rintro (h | h)
    · exact .inr (.inl h)
    · rw [← List.take_append_drop (lb rows k) rows,List.mem_append] at h
      exact h.imp id .inr
theorem ins_good {rows : List Rw} (g : Good rows) {k : ByteArray} {v : Value} (hv : v.oneCell' = true) : Good (insR rows k v) := fun r hr => by
  rcases ins_mem.1 hr with rfl | h
  · exact hv
  · exact g r h
theorem ins_srt : ∀ {rows : List Rw} (s : Srt rows) {k : ByteArray} (v : Value),¬ hasK rows k → Srt (insR rows k v)
  | [],_,k,v,_ => ⟨fun q hq => by simp at hq,trivial⟩
  | r :: l,s,k,v,hk => by
    cases hr : sLt r.1 k with
    | true =>
      have e : insR (r :: l) k v = r :: insR l k v := by unfold insR; rw [lb_pos hr]; rfl
      have hk' : ¬ hasK l k := fun q => hk ⟨by rw [lb_pos hr]; simpa using q.1,by rw [lb_pos hr,key_s]; exact q.2⟩
      rw [e]
      refine ⟨fun q hq => ?_,ins_srt s.2 v hk'⟩
      rcases ins_mem.1 hq with rfl | hq
      · exact hr
      · exact s.1 q hq
    | false =>
      have e : insR (r :: l) k v = (k,v) :: r :: l := by unfold insR; rw [lb_neg hr]; rfl
      have hne : r.1 ≠ k := fun q => hk ⟨by rw [lb_neg hr]; simp,by rw [lb_neg hr]; exact q⟩
      have hlt : sLt k r.1 = true := by
        rcases sLt_tri r.1 k with w | w | w
        · rw [w] at hr; cases hr
        · exact absurd w hne
        · exact w
      rw [e]
      refine ⟨fun q hq => ?_,s⟩
      rcases List.mem_cons.1 hq with rfl | hq
      · exact hlt
      · exact sLt_trans hlt (s.1 q hq)
def setR (rows : List Rw) (k : ByteArray) (v : Value) : List Rw := rows.set (lb rows k) (k,v)
theorem set_mem {rows : List Rw} {k : ByteArray} {v : Value} {q : Rw} (h : q ∈ setR rows k v) : q = (k,v) ∨ q ∈ rows := (List.mem_or_eq_of_mem_set h).symm
theorem set_in {rows : List Rw} {k : ByteArray} (v : Value) (hk : hasK rows k) : (k,v) ∈ setR rows k v := List.mem_iff_getElem?.2 ⟨lb rows k,List.getElem?_set_self hk.1⟩
theorem set_keys {rows : List Rw} {k : ByteArray} {v : Value} (hk : hasK rows k) : (setR rows k v).map (·.1) = rows.map (·.1) := by
  unfold setR
  rw [List.map_set]
  apply List.ext_getElem?
  intro j
  by_cases e : j = lb rows k
  · subst e
    rw [List.getElem?_set_self (by rw [List.length_map]; exact hk.1),List.getElem?_map,List.getElem?_eq_getElem hk.1]
    have := hk.2
    rw [key_at (List.getElem?_eq_getElem hk.1)] at this
    simp [this]
  · rw [List.getElem?_set_ne (fun z => e z.symm)]
theorem srt_keys : ∀ {a b : List Rw},a.map (·.1) = b.map (·.1) → Srt a → Srt b
  | [],[],_,_ => trivial
  | r :: a,q :: b,h,s => by
    simp only [List.map_cons,List.cons.injEq] at h
    refine ⟨fun x hx => ?_,srt_keys h.2 s.2⟩
    have : x.1 ∈ a.map (·.1) := by rw [h.2]; exact List.mem_map.2 ⟨x,hx,rfl⟩
    obtain ⟨y,hy,e⟩ := List.mem_map.1 this
    rw [← e,← h.1]
    exact s.1 y hy
  | [],q :: b,h,_ => by simp at h
  | r :: a,[],h,_ => by simp at h
theorem set_srt {rows : List Rw} (s : Srt rows) {k : ByteArray} (v : Value) (hk : hasK rows k) : Srt (setR rows k v) := srt_keys (set_keys hk).symm s
theorem set_good {rows : List Rw} (g : Good rows) {k : ByteArray} {v : Value} (hv : v.oneCell' = true) : Good (setR rows k v) := fun r hr => by
  rcases set_mem hr with rfl | h
  · exact hv
  · exact g r h
def putR (rows : List Rw) (k : ByteArray) (v : Value) : List Rw := if hasK rows k then setR rows k v else insR rows k v
theorem put_in (rows : List Rw) (k : ByteArray) (v : Value) : (k,v) ∈ putR rows k v := by
  unfold putR
  split
  · rename_i h; exact set_in v h
  · exact ins_mem.2 (.inl rfl)
theorem put_mem {rows : List Rw} {k : ByteArray} {v : Value} {q : Rw} (h : q ∈ putR rows k v) : q = (k,v) ∨ q ∈ rows := by
  unfold putR at h
  split at h
  · exact set_mem h
  · exact ins_mem.1 h
theorem put_old {rows : List Rw} (s : Srt rows) {k k2 : ByteArray} {v w : Value} (h : (k2,w) ∈ rows) : ∃ w',(k2,w') ∈ putR rows k v := by
  unfold putR
  split
  · rename_i hk
    have : k2 ∈ (setR rows k v).map (·.1) := by rw [set_keys hk]; exact List.mem_map.2 ⟨_,h,rfl⟩
    obtain ⟨⟨a,w'⟩,h',e⟩ := List.mem_map.1 this
    exact ⟨w',by rw [← show a = k2 from e]; exact h'⟩
  · exact ⟨w,ins_mem.2 (.inr h)⟩
theorem put_srt {rows : List Rw} (s : Srt rows) (k : ByteArray) (v : Value) : Srt (putR rows k v) := by
  unfold putR
  split
  · rename_i h; exact set_srt s v h
  · rename_i h; exact ins_srt s v h
theorem put_len (rows : List Rw) (k : ByteArray) (v : Value) : (putR rows k v).length ≤ rows.length + 1 := by
  unfold putR
  split
  · unfold setR; rw [List.length_set]; omega
  · rw [ins_len]; omega
def delR (rows : List Rw) (k : ByteArray) : List Rw := if hasK rows k then rows.take (lb rows k) ++ rows.drop (lb rows k + 1) else rows
theorem del_mem {rows : List Rw} {k : ByteArray} {q : Rw} (h : q ∈ delR rows k) : q ∈ rows := by
  unfold delR at h
  split at h
  · rcases List.mem_append.1 h with h | h
    · exact List.mem_of_mem_take h
    · exact List.mem_of_mem_drop h
  · exact h
theorem split_at {rows : List Rw} {m : Nat} {r : Rw} (h : rows[m]? = some r) : rows = rows.take m ++ r :: rows.drop (m + 1) := by
  have hm := (List.getElem?_eq_some_iff.1 h).1
  conv => lhs; rw [← List.take_append_drop m rows]
  rw [List.drop_eq_getElem_cons hm,(List.getElem?_eq_some_iff.1 h).2]
theorem del_no {rows : List Rw} (s : Srt rows) {k : ByteArray} {v : Value} : (k,v) ∉ delR rows k := by
  unfold delR
  split
  · rename_i hk
    obtain ⟨r,hr'⟩ : ∃ r,rows[lb rows k]? = some r := ⟨_,List.getElem?_eq_getElem hk.1⟩
    have hk1 : r.1 = k := by rw [← key_at hr']; exact hk.2
    have sp := split_at hr'
    have s' := s
    rw [sp] at s'
    obtain ⟨_,s2,s3⟩ := s'.append
    intro h
    rcases List.mem_append.1 h with h | h
    · have := s3 _ h r List.mem_cons_self
      rw [hk1,sLt_irrefl] at this; cases this
    · have := s2.1 _ h
      rw [hk1,sLt_irrefl] at this; cases this
  · rename_i hk
    exact fun h => hk ((has_iff s).2 ⟨v,h⟩)
theorem del_srt {rows : List Rw} (s : Srt rows) (k : ByteArray) : Srt (delR rows k) := by
  unfold delR
  split
  · rename_i hk
    have hr := List.getElem?_eq_getElem hk.1
    have s' := s
    rw [split_at hr] at s'
    obtain ⟨s1,s2,s3⟩ := s'.append
    exact s1.of_append s2.2 fun p hp q hq => s3 p hp q (List.mem_cons_of_mem _ hq)
  · exact s
theorem del_good {rows : List Rw} (g : Good rows) (k : ByteArray) : Good (delR rows k) := fun r hr => g r (del_mem hr)
theorem del_len (rows : List Rw) (k : ByteArray) : (delR rows k).length = if hasK rows k then rows.length - 1 else rows.length := by
  unfold delR
  split
  · rename_i hk
    have := hk.1
    simp only [List.length_append,List.length_take,List.length_drop]
    omega
  · rfl
end Go.Proofs.YtialpopmeamojaaGreat.K
namespace Go.Proofs.YtialpopmeamojaaGreat.K.TbA
open Go Go.Kx Go.Proofs.YtialpopmeamojaaGreat.K
set_option linter.unusedVariables false
set_option linter.unusedSimpArgs false
set_option maxRecDepth 20000
theorem LT : LsT Tryz.prog 42 51 2 := ⟨by kernel_rfl,by kernel_rfl,by kernel_rfl,by kernel_rfl,by kernel_rfl,by omega,by kernel_rfl,Nat.le_of_ble_eq_true (by kernel_rfl)⟩
theorem eCmpr (a b : ByteArray) (v : Value) (h : H) : CLM (.f 26) [.agg ⟨[.string a,v]⟩,.string b] h = .ok (.int .i64 (cmpS a b)) (h.alloc (.cells [.string a,v] 51 0 false)) := by
  rw [cM26,F26.eq,xbox_eq,go_ok,cells_agg,fa51_0,go_ok,ld9,H.cell_eq (H.alloc_self _ _),List.getElem?_cons_zero,ofO_some,go_ok,eCmpStr,go_ok]
def Rd (h : H) (b n : Nat) (ky : Nat → ByteArray) : Prop := ∀ m,m < n → ∃ v,h.row ⟨b,0 + m * 2,none⟩ 2 = some [.string (ky m),v]
theorem Rd.grow {h h' : H} (g : Grow h h') {b n : Nat} {ky : Nat → ByteArray} (r : Rd h b n ky) : Rd h' b n ky := fun m hm => let ⟨v,hv⟩ := r m hm; ⟨v,g.row hv⟩
theorem search_loop {b n cap p : Nat} {ky : Nat → ByteArray} {k : ByteArray} (hn : n ≤ 1000000) (hp : p ≤ n) (h1 : ∀ m,m < p → sLt (ky m) k = true) (h2 : ∀ m,p ≤ m → m < n → sLt (ky m) k = false) :
    ∀ (d i j : Nat) (h : H),j - i ≤ d → i ≤ p → p ≤ j → j ≤ n → Rd h b n ky →
      ∃ h',Grow h h' ∧ F25.l3 Tryz.prog CLM nu0 nu0 (.slice (some ⟨b,0,none⟩) n cap) (.string k) (.func (.func 26) #[] #[]) (.int .i64 (n : Nat)) (.int .i64 (i : Nat)) (.int .i64 (j : Nat)) h = .ok (.tuple ⟨[.int .i64 (p : Nat),.bool (decide (p < n ∧ ky p = k))]⟩) h' := by
  intro d
  induction d with
  | zero =>
    intro i j h hd hi hj hjn hr
    obtain rfl : p = i := by omega
    obtain rfl : j = p := by omega
    rw [F25.l3_eq,xlss,go_ok,ifV_dec,if_neg (by omega),F25.j8_eq,xlss,go_ok,ifV_dec]
    by_cases hlt : j < n
    · rw [if_pos (by omega)]
      obtain ⟨v,hv⟩ := hr j hlt
      have ec := eCmpr (ky j) k v h
      rw [ia42 _ _ _ _ _ _ _ _ hlt,go_ok,ld51,hv,ofA_some,go_ok]
      simp only [xcallV_func,List.nil_append,List.append_nil,List.cons_append]
      rw [ec,go_ok,xeql,go_ok]
      have e : decide (cmpS (ky j) k = 0) = decide (j < n ∧ ky j = k) := by
        have := h2 j (Nat.le_refl _) hlt
        unfold cmpS
        rw [this]
        by_cases hk : ky j = k
        · simp [hk,hlt]
        · simp [hk]
      rw [e]
      exact ⟨_,(Grow.refl h).alloc _,rfl⟩
    · rw [if_neg (by omega)]
      refine ⟨_,Grow.refl h,?_⟩
      simp [hlt]
  | succ d ih =>
    intro i j h hd hi hj hjn hr
    by_cases hij : i < j
    · have e1 : IntKind.i64.wrap ((i : Int) + j) = ((i + j : Nat) : Int) := by rw [wrap64 (by omega)]; omega
      have e2 : IntKind.u64.wrap ((i + j : Nat) : Int) = ((i + j : Nat) : Int) := wrapu64 (by omega)
      have e3 : ((i + j : Nat) : Int).fdiv 2 = (((i + j) / 2 : Nat) : Int) := by
        rw [Int.fdiv_eq_ediv_of_nonneg _ (by omega)]; omega
      have e4 : IntKind.i64.wrap (((i + j) / 2 : Nat) : Int) = (((i + j) / 2 : Nat) : Int) := wrap64 (by omega)
      have hm : (i + j) / 2 < n := by omega
      obtain ⟨v,hv⟩ := hr _ hm
      have ec := eCmpr (ky ((i + j) / 2)) k v h
      have g1 : Grow h (h.alloc (.cells [.string (ky ((i + j) / 2)),v] 51 0 false)) := (Grow.refl h).alloc _
      rw [F25.l3_eq,xlss,go_ok,ifV_dec,if_pos (by omega),F25.j4_eq,xadd,go_ok,e1,cv3_99,go_ok,e2,xshr1,go_ok,e3,cv99_3,go_ok,e4,ia42 _ _ _ _ _ _ _ _ hm,go_ok,ld51,hv,ofA_some,go_ok]
      simp only [xcallV_func,List.nil_append,List.append_nil,List.cons_append]
      rw [ec,go_ok,xlss,go_ok,ifV_dec]
      cases hc : sLt (ky ((i + j) / 2)) k with
      | true =>
        have hlt0 : cmpS (ky ((i + j) / 2)) k < 0 := by unfold cmpS; rw [hc,if_pos rfl]; decide
        rw [if_pos hlt0,xadd,go_ok,wadd1 (by omega)]
        have hle : (i + j) / 2 < p := by
          rcases Nat.lt_or_ge ((i + j) / 2) p with q | q
          · exact q
          · have := h2 _ q hm; rw [hc] at this; cases this
        obtain ⟨h',q1,q2⟩ := ih ((i + j) / 2 + 1) j _ (by omega) hle hj hjn (hr.grow g1)
        exact ⟨h',g1.trans q1,q2⟩
      | false =>
        have hlt0 : ¬ cmpS (ky ((i + j) / 2)) k < 0 := by unfold cmpS; rw [hc]; split <;> (try split) <;> simp_all
        rw [if_neg hlt0]
        have hle : p ≤ (i + j) / 2 := by
          rcases Nat.lt_or_ge ((i + j) / 2) p with q | q
          · have := h1 _ q; rw [hc] at this; cases this
          · exact q
        obtain ⟨h',q1,q2⟩ := ih i ((i + j) / 2) _ (by omega) hi hle (by omega) (hr.grow g1)
        exact ⟨h',g1.trans q1,q2⟩
    · exact ih i j h (by omega) hi hj hjn hr
structure Tbl (h : H) (bt : Nat) (br : Option Nat) (rows : List Rw) : Prop where
  sl : ∃ sl,h.get bt = some (.cells [sl] 44 0 false) ∧ Lst 51 2 h sl br (rws rows)
  good : Good rows
  srt : Srt rows
  few : rows.length ≤ 1000000
theorem Tbl.ne {h : H} {bt : Nat} {br : Option Nat} {rows : List Rw} (t : Tbl h bt br rows) : some bt ≠ br := fun z => by
  obtain ⟨sl,h1,l⟩ := t.sl
  rcases l with ⟨e,_⟩ | ⟨b,sp,cap,e,_,hg,_⟩
  · rw [e] at z; cases z
  · rw [e] at z; cases z
    rw [h1] at hg
    simp only [Option.some.injEq,Blk.cells.injEq] at hg
    exact absurd hg.2.1 (by decide)
theorem Tbl.upd {S : Nat → Prop} {h h' : H} (u : Upd S h h') {bt : Nat} {br : Option Nat} {rows : List Rw} (t : Tbl h bt br rows) (h1 : ¬ S bt) (h2 : ∀ b,br = some b → ¬ S b) : Tbl h' bt br rows := by
  obtain ⟨sl,q1,q2⟩ := t.sl
  exact ⟨⟨sl,u.old _ _ h1 q1,q2.upd u h2⟩,t.good,t.srt,t.few⟩
theorem Tbl.grow {h h' : H} (g : Grow h h') {bt : Nat} {br : Option Nat} {rows : List Rw} (t : Tbl h bt br rows) : Tbl h' bt br rows := t.upd (g.upd fun _ => False) id fun _ _ => id
theorem rd {h : H} {b : Nat} {rows : List Rw} (g : Good rows) {sp : List Value} (hg : h.get b = some (.cells ((rws rows).flatten ++ sp) 51 0 true)) : Rd h b rows.length (key rows) := by
  intro m hm
  have hr : rows[m]? = some rows[m] := List.getElem?_eq_getElem hm
  have hl := flat_len g.r
  rw [rws_len] at hl
  have hr2 : (rws rows)[m]? = some [.string rows[m].1,rows[m].2] := by unfold rws; rw [List.getElem?_map,hr]; rfl
  refine ⟨rows[m].2,?_⟩
  have := flat_at g.r hr2 sp
  rw [H.row_eq hg (by rw [List.length_append]; omega),Nat.zero_add,this,key_at hr]
theorem search_nil {k : ByteArray} (n : Nat) (h : H) : CLM (.f 25) [.slice none 0 n,.string k,.func (.func 26) #[] #[]] h = .ok (.tuple ⟨[.int .i64 0,.bool false]⟩) h := by
  have e : ((0 : Nat) : Int) = 0 := rfl
  rw [cM25,F25.eq,ln42,go_ok,e,F25.l3_eq,xlss,go_ok,ifV_dec,if_neg (by omega),F25.j8_eq,xlss,go_ok,ifV_dec,if_neg (by omega)]
theorem place {h : H} {bt : Nat} {br : Option Nat} {rows : List Rw} (t : Tbl h bt br rows) (k : ByteArray) :
    ∃ h',Grow h h' ∧ CLM (.f 14) [.pointer (some ⟨bt,0,none⟩),.string k] h = .ok (.tuple ⟨[.int .i64 (lb rows k : Nat),.bool (decide (hasK rows k))]⟩) h' := by
  obtain ⟨sl,q1,q2⟩ := t.sl
  have top : CLM (.f 14) [.pointer (some ⟨bt,0,none⟩),.string k] h = ((CLM (.f 25) [sl,.string k,.func (.func 26) #[] #[]] h).go .pan fun t4 h => (xextract t4 0 h).go .pan fun t5 h => (xextract t4 1 h).go .pan fun t6 h => .ok (.tuple ⟨[t5,t6]⟩) h) := by
    rw [cM14,F14.eq,xnil_ptr,go_ok,fa44_0,go_ok,ld42,H.cell_eq q1,List.getElem?_cons_zero,ofO_some,go_ok]
  rw [top]
  rcases q2 with ⟨rfl,rfl,e⟩ | ⟨b,sp,cap,rfl,rfl,hg,hl,ho⟩
  · have : rows = [] := List.map_eq_nil_iff.1 e
    subst this
    rw [search_nil,go_ok,xextract_0,go_ok,xextract_1,go_ok]
    exact ⟨h,Grow.refl h,rfl⟩
  · rw [rws_len]
    obtain ⟨h',g,e⟩ := search_loop (cap := cap) (k := k) t.few (lb_le rows k) (lb_lo rows k) (lb_hi t.srt k) rows.length 0 rows.length h (by omega) (Nat.zero_le _) (lb_le rows k) (Nat.le_refl _) (rd t.good hg)
    refine ⟨h',g,?_⟩
    rw [cM25,F25.eq,ln42,go_ok,show (Value.int .i64 0) = .int .i64 ((0 : Nat) : Int) from rfl,e,go_ok,xextract_0,go_ok,xextract_1,go_ok]
    rfl
theorem eLen {h : H} {bt : Nat} {br : Option Nat} {rows : List Rw} (t : Tbl h bt br rows) : CLM (.f 10) [.pointer (some ⟨bt,0,none⟩)] h = .ok (.int .i64 (rows.length : Nat)) h := by
  obtain ⟨sl,q1,q2⟩ := t.sl
  rw [cM10,F10.eq,xnil_ptr,go_ok,fa44_0,go_ok,ld42,H.cell_eq q1,List.getElem?_cons_zero,ofO_some,go_ok]
  rcases q2 with ⟨rfl,rfl,e⟩ | ⟨b,sp,cap,rfl,rfl,hg,hl,ho⟩
  · have : rows = [] := List.map_eq_nil_iff.1 e
    subst this
    rw [ln42,go_ok]
    rfl
  · rw [ln42,go_ok,rws_len]
theorem eIns {h : H} {sl : Value} {br : Option Nat} {vb : Nat} {rows : List Rw} {r : Rw} (l : Lst 51 2 h sl br (rws rows)) (g : Good rows) (hr : r.2.oneCell' = true) (few : rows.length ≤ 1000000)
    (hv : h.get vb = some (.cells [.string r.1,r.2] 51 0 false)) {i : Nat} (hi : i ≤ rows.length) :
    ∃ h',Upd (fun b => some b = br) h h' ∧ CLM (.f 15) [sl,.int .i64 (i : Nat),.slice (some ⟨vb,0,none⟩) 1 1] h = .ok (.slice (some ⟨h.next,0,none⟩) (rows.length + 1) (rows.length + 1)) h' ∧
      h.next < h'.next ∧ h'.get h.next = some (.cells (rws (rows.take i ++ r :: rows.drop i)).flatten 51 0 true) := by
  have hce : Tryz.prog.cellsOf 51 = 2 := LT.ce
  have hone : ones [Value.string r.1,r.2] = true := by show (true && (r.2.oneCell' && true)) = true; rw [hr]; rfl
  have hrow : h.row ⟨vb,0,none⟩ (1 * 2) = some [.string r.1,r.2] := H.row_all hv rfl
  have hby := LT.by_
  have hb1 : Nat.ble ((rows.length + 1) * bytesOf Tryz.prog 51) 35184372088832 = true := Nat.ble_eq_true_of_le (by
    have := Nat.mul_le_mul (show rows.length + 1 ≤ 1000001 by omega) hby
    omega)
  have hb2 : Nat.ble (rows.length + 1) 35184372088832 = true := Nat.ble_eq_true_of_le (by omega)
  have hb3 : Nat.ble (bytesOf Tryz.prog 51) 1048576 = true := Nat.ble_eq_true_of_le (by omega)
  have hzf : zeroFits Tryz.prog 51 = true := LT.zf
  have hlist : ((rws rows).flatten).take (i * 2) ++ ([Value.string r.1,r.2] ++ ((rws rows).flatten).drop (i * 2)) = (rws (rows.take i ++ r :: rows.drop i)).flatten := by
    have h1 := flat_take g.r (m := i) (by rw [rws_len]; exact hi) []
    have h2 := flat_drop g.r (m := i) (by rw [rws_len]; exact hi) []
    simp only [List.append_nil] at h1 h2
    rw [h1,h2]
    unfold rws
    simp
  rw [cM15]
  rcases l with ⟨rfl,rfl,e⟩ | ⟨b,sp,cap,rfl,rfl,hb,hl,ho⟩
  · have : rows = [] := List.map_eq_nil_iff.1 e
    subst this
    have hi0 : i = 0 := by simpa using hi
    subst hi0
    have e : primM 15 [.slice none 0 0,.int .i64 ((0 : Nat) : Int),.slice (some ⟨vb,0,none⟩) 1 1] h = .ok (.slice (some ⟨h.next,0,none⟩) 1 1) (h.alloc (.cells [.string r.1,r.2] 51 0 true)) := by
      rw [pmA]
      unfold insP
      simp only [LT.el,hce,firstC,hrow,insOk,hv,hone,hzf]
      simp only [List.length_nil,Nat.zero_add] at hb1 hb2
      simp [hb1,hb2,hb3,H.leave]
      rfl
    rw [e]
    exact ⟨_,(Upd.refl _ h).alloc _,rfl,Nat.lt_succ_self _,by rw [H.alloc_self]; rfl⟩
  · rw [rws_len]
    have hne : b ≠ vb := fun q => by subst q; rw [hb] at hv; simp at hv
    have hlen := flat_len g.r
    rw [rws_len] at hlen
    have hfirst : h.row ⟨b,0,none⟩ (rows.length * 2) = some (rws rows).flatten := by
      rw [H.row_eq hb (by rw [List.length_append]; omega),List.drop_zero,List.take_left' hlen]
    have hcap : rows.length ≤ cap := by rw [List.length_append] at hl; omega
    have e : primM 15 [.slice (some ⟨b,0,none⟩) rows.length cap,.int .i64 (i : Int),.slice (some ⟨vb,0,none⟩) 1 1] h = .ok (.slice (some ⟨h.next,0,none⟩) (rows.length + 1) (rows.length + 1)) ((h.put b .dead).alloc (.cells (rws (rows.take i ++ r :: rows.drop i)).flatten 51 0 true)) := by
      rw [pmA]
      unfold insP
      simp only [LT.el,hce,firstC,hrow,hfirst,insOk,hb,hv,hone,hzf,ones_append (flat_ones g.r) ho]
      have hbq : Nat.beq b vb = false := beqF hne
      have c1 : Nat.ble i rows.length = true := Nat.ble_eq_true_of_le hi
      have c2 : Nat.ble rows.length cap = true := Nat.ble_eq_true_of_le hcap
      have hlist' : ((rws rows).flatten).take (i * 2) ++ Value.string r.1 :: r.2 :: ((rws rows).flatten).drop (i * 2) = (rws (rows.take i ++ r :: rows.drop i)).flatten := by simpa using hlist
      simp [hb1,hb2,hb3,H.leave,hb,hbq,c1,c2,hlist',show Nat.beq 2 0 = false from rfl,show Nat.blt 0 1 = true from rfl,show Nat.ble 1 1 = true from rfl]
    rw [e]
    exact ⟨_,((Upd.refl (fun x => some x = some b) h).put (.inl rfl) (H.get_lt hb) _).alloc _,rfl,Nat.lt_succ_self _,H.alloc_self _ _⟩
theorem Lst.cell2 {h : H} {b cap : Nat} {rows : List Rw} {sp : List Value} (g : Good rows) (hg : h.get b = some (.cells ((rws rows).flatten ++ sp) 51 0 true)) {i : Nat} {r : Rw} (hr : rows[i]? = some r) : h.cell ⟨b,0 + i * 2 + 1,none⟩ = some r.2 := by
  have hi := (List.getElem?_eq_some_iff.1 hr).1
  have hr2 : (rws rows)[i]? = some [.string r.1,r.2] := by unfold rws; rw [List.getElem?_map,hr]; rfl
  have := congrArg (fun l => l[1]?) (flat_at g.r hr2 sp)
  simp only [List.getElem?_cons_succ,List.getElem?_cons_zero] at this
  rw [List.getElem?_take_of_lt (by omega),List.getElem?_drop] at this
  rw [H.cell_eq hg,Nat.zero_add]
  exact this
theorem Lst.set2 {h : H} {b : Nat} {rows : List Rw} {sp : List Value} (g : Good rows) (hg : h.get b = some (.cells ((rws rows).flatten ++ sp) 51 0 true)) {i : Nat} {r : Rw} (hr : rows[i]? = some r) {v : Value} (hv : v.oneCell' = true) :
    ∃ h',h.write ⟨b,0 + i * 2 + 1,none⟩ [v] = some h' ∧ Upd (fun x => x = b) h h' ∧ h'.get b = some (.cells ((rws (rows.set i (r.1,v))).flatten ++ sp) 51 0 true) := by
  have hi := (List.getElem?_eq_some_iff.1 hr).1
  have hr2 : (rws rows)[i]? = some [.string r.1,r.2] := by unfold rws; rw [List.getElem?_map,hr]; rfl
  have hl := flat_len g.r
  rw [rws_len] at hl
  have hw : h.write ⟨b,0 + i * 2 + 1,none⟩ [v] = _ := H.write_eq hg (by rw [List.length_append,List.length_singleton]; omega) (by show (v.oneCell' && true) = true; rw [hv]; rfl)
  have e : ((rws rows).flatten ++ sp).take (0 + i * 2 + 1) ++ ([v] ++ ((rws rows).flatten ++ sp).drop (0 + i * 2 + 1 + [v].length)) = (rws (rows.set i (r.1,v))).flatten ++ sp := by
    have t1 := flat_take g.r (m := i) (by rw [rws_len]; omega) sp
    have d1 := flat_drop g.r (m := i) (by rw [rws_len]; omega) sp
    have d2 := flat_drop g.r (m := i + 1) (by rw [rws_len]; omega) sp
    have hsp := split_at hr
    have hd : (rws rows).drop i = [.string r.1,r.2] :: (rws rows).drop (i + 1) := by
      rw [List.drop_eq_getElem_cons (by rw [rws_len]; exact hi),(List.getElem?_eq_some_iff.1 hr2).2]
    rw [Nat.zero_add,List.take_add,t1,d1,hd,List.length_singleton,show i * 2 + 1 + 1 = (i + 1) * 2 by omega,d2]
    have hset : rows.set i (r.1,v) = rows.take i ++ (r.1,v) :: rows.drop (i + 1) := by rw [List.set_eq_take_append_cons_drop,if_pos hi]
    rw [hset]
    unfold rws
    simp
  rw [e] at hw
  exact ⟨_,hw,(Upd.refl (fun x => x = b) h).put (.inl rfl) (H.get_lt hg) _,H.put_self hg⟩
end Go.Proofs.YtialpopmeamojaaGreat.K.TbA
namespace Go.Proofs.YtialpopmeamojaaGreat.K.TbB
open Go Go.Kx Go.Proofs.YtialpopmeamojaaGreat.K
set_option linter.unusedVariables false
set_option linter.unusedSimpArgs false
set_option maxRecDepth 20000
theorem LT : LsT Tryz.prog 45 54 2 := ⟨by kernel_rfl,by kernel_rfl,by kernel_rfl,by kernel_rfl,by kernel_rfl,by omega,by kernel_rfl,Nat.le_of_ble_eq_true (by kernel_rfl)⟩
theorem eCmpr (a b : ByteArray) (v : Value) (h : H) : CLM (.f 31) [.agg ⟨[.string a,v]⟩,.string b] h = .ok (.int .i64 (cmpS a b)) (h.alloc (.cells [.string a,v] 54 0 false)) := by
  rw [cM31,F31.eq,xbox_eq,go_ok,cells_agg,fa54_0,go_ok,ld9,H.cell_eq (H.alloc_self _ _),List.getElem?_cons_zero,ofO_some,go_ok,eCmpStr,go_ok]
def Rd (h : H) (b n : Nat) (ky : Nat → ByteArray) : Prop := ∀ m,m < n → ∃ v,h.row ⟨b,0 + m * 2,none⟩ 2 = some [.string (ky m),v]
theorem Rd.grow {h h' : H} (g : Grow h h') {b n : Nat} {ky : Nat → ByteArray} (r : Rd h b n ky) : Rd h' b n ky := fun m hm => let ⟨v,hv⟩ := r m hm; ⟨v,g.row hv⟩
theorem search_loop {b n cap p : Nat} {ky : Nat → ByteArray} {k : ByteArray} (hn : n ≤ 1000000) (hp : p ≤ n) (h1 : ∀ m,m < p → sLt (ky m) k = true) (h2 : ∀ m,p ≤ m → m < n → sLt (ky m) k = false) :
    ∀ (d i j : Nat) (h : H),j - i ≤ d → i ≤ p → p ≤ j → j ≤ n → Rd h b n ky →
      ∃ h',Grow h h' ∧ F30.l3 Tryz.prog CLM nu0 nu0 (.slice (some ⟨b,0,none⟩) n cap) (.string k) (.func (.func 31) #[] #[]) (.int .i64 (n : Nat)) (.int .i64 (i : Nat)) (.int .i64 (j : Nat)) h = .ok (.tuple ⟨[.int .i64 (p : Nat),.bool (decide (p < n ∧ ky p = k))]⟩) h' := by
  intro d
  induction d with
  | zero =>
    intro i j h hd hi hj hjn hr
    obtain rfl : p = i := by omega
    obtain rfl : j = p := by omega
    rw [F30.l3_eq,xlss,go_ok,ifV_dec,if_neg (by omega),F30.j8_eq,xlss,go_ok,ifV_dec]
    by_cases hlt : j < n
    · rw [if_pos (by omega)]
      obtain ⟨v,hv⟩ := hr j hlt
      have ec := eCmpr (ky j) k v h
      rw [ia45 _ _ _ _ _ _ _ _ hlt,go_ok,ld54,hv,ofA_some,go_ok]
      simp only [xcallV_func,List.nil_append,List.append_nil,List.cons_append]
      rw [ec,go_ok,xeql,go_ok]
      have e : decide (cmpS (ky j) k = 0) = decide (j < n ∧ ky j = k) := by
        have := h2 j (Nat.le_refl _) hlt
        unfold cmpS
        rw [this]
        by_cases hk : ky j = k
        · simp [hk,hlt]
        · simp [hk]
      rw [e]
      exact ⟨_,(Grow.refl h).alloc _,rfl⟩
    · rw [if_neg (by omega)]
      refine ⟨_,Grow.refl h,?_⟩
      simp [hlt]
  | succ d ih =>
    intro i j h hd hi hj hjn hr
    by_cases hij : i < j
    · have e1 : IntKind.i64.wrap ((i : Int) + j) = ((i + j : Nat) : Int) := by rw [wrap64 (by omega)]; omega
      have e2 : IntKind.u64.wrap ((i + j : Nat) : Int) = ((i + j : Nat) : Int) := wrapu64 (by omega)
      have e3 : ((i + j : Nat) : Int).fdiv 2 = (((i + j) / 2 : Nat) : Int) := by
        rw [Int.fdiv_eq_ediv_of_nonneg _ (by omega)]; omega
      have e4 : IntKind.i64.wrap (((i + j) / 2 : Nat) : Int) = (((i + j) / 2 : Nat) : Int) := wrap64 (by omega)
      have hm : (i + j) / 2 < n := by omega
      obtain ⟨v,hv⟩ := hr _ hm
      have ec := eCmpr (ky ((i + j) / 2)) k v h
      have g1 : Grow h (h.alloc (.cells [.string (ky ((i + j) / 2)),v] 54 0 false)) := (Grow.refl h).alloc _
      rw [F30.l3_eq,xlss,go_ok,ifV_dec,if_pos (by omega),F30.j4_eq,xadd,go_ok,e1,cv3_99,go_ok,e2,xshr1,go_ok,e3,cv99_3,go_ok,e4,ia45 _ _ _ _ _ _ _ _ hm,go_ok,ld54,hv,ofA_some,go_ok]
      simp only [xcallV_func,List.nil_append,List.append_nil,List.cons_append]
      rw [ec,go_ok,xlss,go_ok,ifV_dec]
      cases hc : sLt (ky ((i + j) / 2)) k with
      | true =>
        have hlt0 : cmpS (ky ((i + j) / 2)) k < 0 := by unfold cmpS; rw [hc,if_pos rfl]; decide
        rw [if_pos hlt0,xadd,go_ok,wadd1 (by omega)]
        have hle : (i + j) / 2 < p := by
          rcases Nat.lt_or_ge ((i + j) / 2) p with q | q
          · exact q
          · have := h2 _ q hm; rw [hc] at this; cases this
        obtain ⟨h',q1,q2⟩ := ih ((i + j) / 2 + 1) j _ (by omega) hle hj hjn (hr.grow g1)
        exact ⟨h',g1.trans q1,q2⟩
      | false =>
        have hlt0 : ¬ cmpS (ky ((i + j) / 2)) k < 0 := by unfold cmpS; rw [hc]; split <;> (try split) <;> simp_all
        rw [if_neg hlt0]
        have hle : p ≤ (i + j) / 2 := by
          rcases Nat.lt_or_ge ((i + j) / 2) p with q | q
          · have := h1 _ q; rw [hc] at this; cases this
          · exact q
        obtain ⟨h',q1,q2⟩ := ih i ((i + j) / 2) _ (by omega) hi hle (by omega) (hr.grow g1)
        exact ⟨h',g1.trans q1,q2⟩
    · exact ih i j h (by omega) hi hj hjn hr
structure Tbl (h : H) (bt : Nat) (br : Option Nat) (rows : List Rw) : Prop where
  sl : ∃ sl,h.get bt = some (.cells [sl] 47 0 false) ∧ Lst 54 2 h sl br (rws rows)
  good : Good rows
  srt : Srt rows
  few : rows.length ≤ 1000000
theorem Tbl.ne {h : H} {bt : Nat} {br : Option Nat} {rows : List Rw} (t : Tbl h bt br rows) : some bt ≠ br := fun z => by
  obtain ⟨sl,h1,l⟩ := t.sl
  rcases l with ⟨e,_⟩ | ⟨b,sp,cap,e,_,hg,_⟩
  · rw [e] at z; cases z
  · rw [e] at z; cases z
    rw [h1] at hg
    simp only [Option.some.injEq,Blk.cells.injEq] at hg
    exact absurd hg.2.1 (by decide)
theorem Tbl.upd {S : Nat → Prop} {h h' : H} (u : Upd S h h') {bt : Nat} {br : Option Nat} {rows : List Rw} (t : Tbl h bt br rows) (h1 : ¬ S bt) (h2 : ∀ b,br = some b → ¬ S b) : Tbl h' bt br rows := by
  obtain ⟨sl,q1,q2⟩ := t.sl
  exact ⟨⟨sl,u.old _ _ h1 q1,q2.upd u h2⟩,t.good,t.srt,t.few⟩
theorem Tbl.grow {h h' : H} (g : Grow h h') {bt : Nat} {br : Option Nat} {rows : List Rw} (t : Tbl h bt br rows) : Tbl h' bt br rows := t.upd (g.upd fun _ => False) id fun _ _ => id
theorem rd {h : H} {b : Nat} {rows : List Rw} (g : Good rows) {sp : List Value} (hg : h.get b = some (.cells ((rws rows).flatten ++ sp) 54 0 true)) : Rd h b rows.length (key rows) := by
  intro m hm
  have hr : rows[m]? = some rows[m] := List.getElem?_eq_getElem hm
  have hl := flat_len g.r
  rw [rws_len] at hl
  have hr2 : (rws rows)[m]? = some [.string rows[m].1,rows[m].2] := by unfold rws; rw [List.getElem?_map,hr]; rfl
  refine ⟨rows[m].2,?_⟩
  have := flat_at g.r hr2 sp
  rw [H.row_eq hg (by rw [List.length_append]; omega),Nat.zero_add,this,key_at hr]
theorem search_nil {k : ByteArray} (n : Nat) (h : H) : CLM (.f 30) [.slice none 0 n,.string k,.func (.func 31) #[] #[]] h = .ok (.tuple ⟨[.int .i64 0,.bool false]⟩) h := by
  have e : ((0 : Nat) : Int) = 0 := rfl
  rw [cM30,F30.eq,ln45,go_ok,e,F30.l3_eq,xlss,go_ok,ifV_dec,if_neg (by omega),F30.j8_eq,xlss,go_ok,ifV_dec,if_neg (by omega)]
theorem place {h : H} {bt : Nat} {br : Option Nat} {rows : List Rw} (t : Tbl h bt br rows) (k : ByteArray) :
    ∃ h',Grow h h' ∧ CLM (.f 16) [.pointer (some ⟨bt,0,none⟩),.string k] h = .ok (.tuple ⟨[.int .i64 (lb rows k : Nat),.bool (decide (hasK rows k))]⟩) h' := by
  obtain ⟨sl,q1,q2⟩ := t.sl
  have top : CLM (.f 16) [.pointer (some ⟨bt,0,none⟩),.string k] h = ((CLM (.f 30) [sl,.string k,.func (.func 31) #[] #[]] h).go .pan fun t4 h => (xextract t4 0 h).go .pan fun t5 h => (xextract t4 1 h).go .pan fun t6 h => .ok (.tuple ⟨[t5,t6]⟩) h) := by
    rw [cM16,F16.eq,xnil_ptr,go_ok,fa47_0,go_ok,ld45,H.cell_eq q1,List.getElem?_cons_zero,ofO_some,go_ok]
  rw [top]
  rcases q2 with ⟨rfl,rfl,e⟩ | ⟨b,sp,cap,rfl,rfl,hg,hl,ho⟩
  · have : rows = [] := List.map_eq_nil_iff.1 e
    subst this
    rw [search_nil,go_ok,xextract_0,go_ok,xextract_1,go_ok]
    exact ⟨h,Grow.refl h,rfl⟩
  · rw [rws_len]
    obtain ⟨h',g,e⟩ := search_loop (cap := cap) (k := k) t.few (lb_le rows k) (lb_lo rows k) (lb_hi t.srt k) rows.length 0 rows.length h (by omega) (Nat.zero_le _) (lb_le rows k) (Nat.le_refl _) (rd t.good hg)
    refine ⟨h',g,?_⟩
    rw [cM30,F30.eq,ln45,go_ok,show (Value.int .i64 0) = .int .i64 ((0 : Nat) : Int) from rfl,e,go_ok,xextract_0,go_ok,xextract_1,go_ok]
    rfl
theorem eLen {h : H} {bt : Nat} {br : Option Nat} {rows : List Rw} (t : Tbl h bt br rows) : CLM (.f 12) [.pointer (some ⟨bt,0,none⟩)] h = .ok (.int .i64 (rows.length : Nat)) h := by
  obtain ⟨sl,q1,q2⟩ := t.sl
  rw [cM12,F12.eq,xnil_ptr,go_ok,fa47_0,go_ok,ld45,H.cell_eq q1,List.getElem?_cons_zero,ofO_some,go_ok]
  rcases q2 with ⟨rfl,rfl,e⟩ | ⟨b,sp,cap,rfl,rfl,hg,hl,ho⟩
  · have : rows = [] := List.map_eq_nil_iff.1 e
    subst this
    rw [ln45,go_ok]
    rfl
  · rw [ln45,go_ok,rws_len]
theorem eIns {h : H} {sl : Value} {br : Option Nat} {vb : Nat} {rows : List Rw} {r : Rw} (l : Lst 54 2 h sl br (rws rows)) (g : Good rows) (hr : r.2.oneCell' = true) (few : rows.length ≤ 1000000)
    (hv : h.get vb = some (.cells [.string r.1,r.2] 54 0 false)) {i : Nat} (hi : i ≤ rows.length) :
    ∃ h',Upd (fun b => some b = br) h h' ∧ CLM (.f 17) [sl,.int .i64 (i : Nat),.slice (some ⟨vb,0,none⟩) 1 1] h = .ok (.slice (some ⟨h.next,0,none⟩) (rows.length + 1) (rows.length + 1)) h' ∧
      h.next < h'.next ∧ h'.get h.next = some (.cells (rws (rows.take i ++ r :: rows.drop i)).flatten 54 0 true) := by
  have hce : Tryz.prog.cellsOf 54 = 2 := LT.ce
  have hone : ones [Value.string r.1,r.2] = true := by show (true && (r.2.oneCell' && true)) = true; rw [hr]; rfl
  have hrow : h.row ⟨vb,0,none⟩ (1 * 2) = some [.string r.1,r.2] := H.row_all hv rfl
  have hby := LT.by_
  have hb1 : Nat.ble ((rows.length + 1) * bytesOf Tryz.prog 54) 35184372088832 = true := Nat.ble_eq_true_of_le (by
    have := Nat.mul_le_mul (show rows.length + 1 ≤ 1000001 by omega) hby
    omega)
  have hb2 : Nat.ble (rows.length + 1) 35184372088832 = true := Nat.ble_eq_true_of_le (by omega)
  have hb3 : Nat.ble (bytesOf Tryz.prog 54) 1048576 = true := Nat.ble_eq_true_of_le (by omega)
  have hzf : zeroFits Tryz.prog 54 = true := LT.zf
  have hlist : ((rws rows).flatten).take (i * 2) ++ ([Value.string r.1,r.2] ++ ((rws rows).flatten).drop (i * 2)) = (rws (rows.take i ++ r :: rows.drop i)).flatten := by
    have h1 := flat_take g.r (m := i) (by rw [rws_len]; exact hi) []
    have h2 := flat_drop g.r (m := i) (by rw [rws_len]; exact hi) []
    simp only [List.append_nil] at h1 h2
    rw [h1,h2]
    unfold rws
    simp
  rw [cM17]
  rcases l with ⟨rfl,rfl,e⟩ | ⟨b,sp,cap,rfl,rfl,hb,hl,ho⟩
  · have : rows = [] := List.map_eq_nil_iff.1 e
    subst this
    have hi0 : i = 0 := by simpa using hi
    subst hi0
    have e : primM 17 [.slice none 0 0,.int .i64 ((0 : Nat) : Int),.slice (some ⟨vb,0,none⟩) 1 1] h = .ok (.slice (some ⟨h.next,0,none⟩) 1 1) (h.alloc (.cells [.string r.1,r.2] 54 0 true)) := by
      rw [pmB]
      unfold insP
      simp only [LT.el,hce,firstC,hrow,insOk,hv,hone,hzf]
      simp only [List.length_nil,Nat.zero_add] at hb1 hb2
      simp [hb1,hb2,hb3,H.leave]
      rfl
    rw [e]
    exact ⟨_,(Upd.refl _ h).alloc _,rfl,Nat.lt_succ_self _,by rw [H.alloc_self]; rfl⟩
  · rw [rws_len]
    have hne : b ≠ vb := fun q => by subst q; rw [hb] at hv; simp at hv
    have hlen := flat_len g.r
    rw [rws_len] at hlen
    have hfirst : h.row ⟨b,0,none⟩ (rows.length * 2) = some (rws rows).flatten := by
      rw [H.row_eq hb (by rw [List.length_append]; omega),List.drop_zero,List.take_left' hlen]
    have hcap : rows.length ≤ cap := by rw [List.length_append] at hl; omega
    have e : primM 17 [.slice (some ⟨b,0,none⟩) rows.length cap,.int .i64 (i : Int),.slice (some ⟨vb,0,none⟩) 1 1] h = .ok (.slice (some ⟨h.next,0,none⟩) (rows.length + 1) (rows.length + 1)) ((h.put b .dead).alloc (.cells (rws (rows.take i ++ r :: rows.drop i)).flatten 54 0 true)) := by
      rw [pmB]
      unfold insP
      simp only [LT.el,hce,firstC,hrow,hfirst,insOk,hb,hv,hone,hzf,ones_append (flat_ones g.r) ho]
      have hbq : Nat.beq b vb = false := beqF hne
      have c1 : Nat.ble i rows.length = true := Nat.ble_eq_true_of_le hi
      have c2 : Nat.ble rows.length cap = true := Nat.ble_eq_true_of_le hcap
      have hlist' : ((rws rows).flatten).take (i * 2) ++ Value.string r.1 :: r.2 :: ((rws rows).flatten).drop (i * 2) = (rws (rows.take i ++ r :: rows.drop i)).flatten := by simpa using hlist
      simp [hb1,hb2,hb3,H.leave,hb,hbq,c1,c2,hlist',show Nat.beq 2 0 = false from rfl,show Nat.blt 0 1 = true from rfl,show Nat.ble 1 1 = true from rfl]
    rw [e]
    exact ⟨_,((Upd.refl (fun x => some x = some b) h).put (.inl rfl) (H.get_lt hb) _).alloc _,rfl,Nat.lt_succ_self _,H.alloc_self _ _⟩
theorem Lst.cell2 {h : H} {b cap : Nat} {rows : List Rw} {sp : List Value} (g : Good rows) (hg : h.get b = some (.cells ((rws rows).flatten ++ sp) 54 0 true)) {i : Nat} {r : Rw} (hr : rows[i]? = some r) : h.cell ⟨b,0 + i * 2 + 1,none⟩ = some r.2 := by
  have hi := (List.getElem?_eq_some_iff.1 hr).1
  have hr2 : (rws rows)[i]? = some [.string r.1,r.2] := by unfold rws; rw [List.getElem?_map,hr]; rfl
  have := congrArg (fun l => l[1]?) (flat_at g.r hr2 sp)
  simp only [List.getElem?_cons_succ,List.getElem?_cons_zero] at this
  rw [List.getElem?_take_of_lt (by omega),List.getElem?_drop] at this
  rw [H.cell_eq hg,Nat.zero_add]
  exact this
theorem Lst.set2 {h : H} {b : Nat} {rows : List Rw} {sp : List Value} (g : Good rows) (hg : h.get b = some (.cells ((rws rows).flatten ++ sp) 54 0 true)) {i : Nat} {r : Rw} (hr : rows[i]? = some r) {v : Value} (hv : v.oneCell' = true) :
    ∃ h',h.write ⟨b,0 + i * 2 + 1,none⟩ [v] = some h' ∧ Upd (fun x => x = b) h h' ∧ h'.get b = some (.cells ((rws (rows.set i (r.1,v))).flatten ++ sp) 54 0 true) := by
  have hi := (List.getElem?_eq_some_iff.1 hr).1
  have hr2 : (rws rows)[i]? = some [.string r.1,r.2] := by unfold rws; rw [List.getElem?_map,hr]; rfl
  have hl := flat_len g.r
  rw [rws_len] at hl
  have hw : h.write ⟨b,0 + i * 2 + 1,none⟩ [v] = _ := H.write_eq hg (by rw [List.length_append,List.length_singleton]; omega) (by show (v.oneCell' && true) = true; rw [hv]; rfl)
  have e : ((rws rows).flatten ++ sp).take (0 + i * 2 + 1) ++ ([v] ++ ((rws rows).flatten ++ sp).drop (0 + i * 2 + 1 + [v].length)) = (rws (rows.set i (r.1,v))).flatten ++ sp := by
    have t1 := flat_take g.r (m := i) (by rw [rws_len]; omega) sp
    have d1 := flat_drop g.r (m := i) (by rw [rws_len]; omega) sp
    have d2 := flat_drop g.r (m := i + 1) (by rw [rws_len]; omega) sp
    have hsp := split_at hr
    have hd : (rws rows).drop i = [.string r.1,r.2] :: (rws rows).drop (i + 1) := by
      rw [List.drop_eq_getElem_cons (by rw [rws_len]; exact hi),(List.getElem?_eq_some_iff.1 hr2).2]
    rw [Nat.zero_add,List.take_add,t1,d1,hd,List.length_singleton,show i * 2 + 1 + 1 = (i + 1) * 2 by omega,d2]
    have hset : rows.set i (r.1,v) = rows.take i ++ (r.1,v) :: rows.drop (i + 1) := by rw [List.set_eq_take_append_cons_drop,if_pos hi]
    rw [hset]
    unfold rws
    simp
  rw [e] at hw
  exact ⟨_,hw,(Upd.refl (fun x => x = b) h).put (.inl rfl) (H.get_lt hg) _,H.put_self hg⟩
end Go.Proofs.YtialpopmeamojaaGreat.K.TbB
namespace Go.Proofs.YtialpopmeamojaaGreat.K.TbA
open Go Go.Kx Go.Proofs.YtialpopmeamojaaGreat.K
set_option linter.unusedVariables false
set_option linter.unusedSimpArgs false
set_option maxRecDepth 20000
theorem Tbl.putIn {h : H} {bt : Nat} {br : Option Nat} {rows : List Rw} (t : Tbl h bt br rows) {sl : Value} (q1 : h.get bt = some (.cells [sl] 44 0 false)) (l : Lst 51 2 h sl br (rws rows)) {k : ByteArray} {v : Value} (hk : ¬ hasK rows k) (hv : v.oneCell' = true) (few : rows.length < 1000000) {vb : Nat} (hvb : h.get vb = some (.cells [.string k,v] 51 0 false)) :
    ∃ h4 h5,CLM (.f 15) [sl,.int .i64 (lb rows k : Nat),.slice (some ⟨vb,0,none⟩) 1 1] h = .ok (.slice (some ⟨h.next,0,none⟩) (rows.length + 1) (rows.length + 1)) h4 ∧ xstore Tryz.prog 42 (.pointer (some ⟨bt,0,none⟩)) (.slice (some ⟨h.next,0,none⟩) (rows.length + 1) (rows.length + 1)) h4 = .ok undef h5 ∧
      Upd (fun b => b = bt ∨ some b = br) h h5 ∧ Tbl h5 bt (some h.next) (insR rows k v) := by
  obtain ⟨h4,u4,e4,n4,b4⟩ := eIns (r := (k,v)) l t.good hv t.few hvb (lb_le rows k)
  have hbt4 : h4.get bt = some (.cells [sl] 44 0 false) := u4.old _ _ t.ne q1
  have hlt := H.get_lt q1
  refine ⟨h4,h4.put bt (.cells [.slice (some ⟨h.next,0,none⟩) (rows.length + 1) (rows.length + 1)] 44 0 false),e4,?_,(u4.mono fun x _ z => .inr z).put (.inl (.inl rfl)) (H.get_lt hbt4) _,⟨_,H.put_self hbt4,?_⟩,ins_good t.good hv,ins_srt t.srt v hk,by rw [ins_len]; omega⟩
  · rw [st42 _ _ _ rfl,cells_slice,H.write_all hbt4 (l := [.slice (some ⟨h.next,0,none⟩) (rows.length + 1) (rows.length + 1)]) rfl rfl,ofU_some]
  · refine .inr ⟨h.next,[],rows.length + 1,rfl,by rw [rws_len,ins_len],?_,?_,rfl⟩
    · rw [List.append_nil]; exact H.put_ne hbt4 (by omega) b4
    · rw [List.append_nil,flat_len (ins_good t.good hv).r,rws_len,ins_len]
theorem Tbl.putAt {h : H} {bt : Nat} {br : Option Nat} {rows : List Rw} (t : Tbl h bt br rows) {sl : Value} (q1 : h.get bt = some (.cells [sl] 44 0 false)) (l : Lst 51 2 h sl br (rws rows)) {k : ByteArray} {v : Value} (hk : hasK rows k) (hv : v.oneCell' = true) :
    ∃ b h',(∀ h2,xindexAddr Tryz.prog 42 sl (.int .i64 (lb rows k : Nat)) h2 = .ok (.pointer (some ⟨b,0 + lb rows k * 2,none⟩)) h2) ∧ h.write ⟨b,0 + lb rows k * 2 + 1,none⟩ [v] = some h' ∧ Upd (fun x => some x = br) h h' ∧ Tbl h' bt br (setR rows k v) := by
  obtain ⟨r,hr⟩ : ∃ r,rows[lb rows k]? = some r := ⟨_,List.getElem?_eq_getElem hk.1⟩
  have hk1 : r.1 = k := by rw [← key_at hr]; exact hk.2
  have hne := t.ne
  rcases l with ⟨_,_,e⟩ | ⟨b,sp,cap,rfl,rfl,hg,hl,ho⟩
  · have : rows = [] := List.map_eq_nil_iff.1 e
    subst this
    exact absurd hk.1 (Nat.not_lt_zero _)
  · rw [rws_len]
    obtain ⟨h',w,u,g'⟩ := Lst.set2 t.good hg hr hv
    rw [hk1] at g'
    have hgood : Good (setR rows k v) := set_good t.good hv
    refine ⟨b,h',fun h2 => ia42 _ _ _ _ _ _ _ h2 hk.1,w,u.mono fun x _ z => by rw [z],⟨_,u.old _ _ (fun z => hne (by rw [z])) q1,.inr ⟨b,sp,cap,rfl,?_,g',?_,ho⟩⟩,hgood,set_srt t.srt v hk,by unfold setR; rw [List.length_set]; exact t.few⟩
    · unfold setR; simp only [rws_len,List.length_set]
    · rw [List.length_append,flat_len t.good.r,rws_len] at hl
      rw [List.length_append,flat_len hgood.r,rws_len]
      unfold setR; rw [List.length_set]; exact hl
theorem Tbl.getAt {h : H} {bt : Nat} {br : Option Nat} {rows : List Rw} (t : Tbl h bt br rows) {sl : Value} (l : Lst 51 2 h sl br (rws rows)) {k : ByteArray} (hk : hasK rows k) :
    ∃ b v,(k,v) ∈ rows ∧ (∀ h2,xindexAddr Tryz.prog 42 sl (.int .i64 (lb rows k : Nat)) h2 = .ok (.pointer (some ⟨b,0 + lb rows k * 2,none⟩)) h2) ∧ h.cell ⟨b,0 + lb rows k * 2 + 1,none⟩ = some v ∧ h.row ⟨b,0 + lb rows k * 2 + 1,none⟩ 1 = some [v] := by
  obtain ⟨r,hr⟩ : ∃ r,rows[lb rows k]? = some r := ⟨_,List.getElem?_eq_getElem hk.1⟩
  have hk1 : r.1 = k := by rw [← key_at hr]; exact hk.2
  have hmem := List.mem_of_getElem? hr
  rw [show r = (k,r.2) by rw [← hk1]] at hmem
  rcases l with ⟨_,_,e⟩ | ⟨b,sp,cap,rfl,rfl,hg,hl,ho⟩
  · have : rows = [] := List.map_eq_nil_iff.1 e
    subst this
    exact absurd hk.1 (Nat.not_lt_zero _)
  · rw [rws_len]
    have hc := Lst.cell2 (cap := cap) t.good hg hr
    refine ⟨b,r.2,hmem,fun h2 => ia42 _ _ _ _ _ _ _ h2 hk.1,hc,?_⟩
    have hl2 := flat_len t.good.r
    rw [rws_len] at hl2
    have hk0 := hk.1
    have hle : 0 + lb rows k * 2 + 1 + 1 ≤ ((rws rows).flatten ++ sp).length := by rw [List.length_append]; omega
    rw [H.row_eq hg hle]
    rw [H.cell_eq hg] at hc
    rw [List.drop_eq_getElem_cons (by omega),List.take_succ_cons,List.take_zero,(List.getElem?_eq_some_iff.1 hc).2]
end Go.Proofs.YtialpopmeamojaaGreat.K.TbA
namespace Go.Proofs.YtialpopmeamojaaGreat.K.TbB
open Go Go.Kx Go.Proofs.YtialpopmeamojaaGreat.K
set_option linter.unusedVariables false
set_option linter.unusedSimpArgs false
set_option maxRecDepth 20000
theorem Tbl.putIn {h : H} {bt : Nat} {br : Option Nat} {rows : List Rw} (t : Tbl h bt br rows) {sl : Value} (q1 : h.get bt = some (.cells [sl] 47 0 false)) (l : Lst 54 2 h sl br (rws rows)) {k : ByteArray} {v : Value} (hk : ¬ hasK rows k) (hv : v.oneCell' = true) (few : rows.length < 1000000) {vb : Nat} (hvb : h.get vb = some (.cells [.string k,v] 54 0 false)) :
    ∃ h4 h5,CLM (.f 17) [sl,.int .i64 (lb rows k : Nat),.slice (some ⟨vb,0,none⟩) 1 1] h = .ok (.slice (some ⟨h.next,0,none⟩) (rows.length + 1) (rows.length + 1)) h4 ∧ xstore Tryz.prog 45 (.pointer (some ⟨bt,0,none⟩)) (.slice (some ⟨h.next,0,none⟩) (rows.length + 1) (rows.length + 1)) h4 = .ok undef h5 ∧
      Upd (fun b => b = bt ∨ some b = br) h h5 ∧ Tbl h5 bt (some h.next) (insR rows k v) := by
  obtain ⟨h4,u4,e4,n4,b4⟩ := eIns (r := (k,v)) l t.good hv t.few hvb (lb_le rows k)
  have hbt4 : h4.get bt = some (.cells [sl] 47 0 false) := u4.old _ _ t.ne q1
  have hlt := H.get_lt q1
  refine ⟨h4,h4.put bt (.cells [.slice (some ⟨h.next,0,none⟩) (rows.length + 1) (rows.length + 1)] 47 0 false),e4,?_,(u4.mono fun x _ z => .inr z).put (.inl (.inl rfl)) (H.get_lt hbt4) _,⟨_,H.put_self hbt4,?_⟩,ins_good t.good hv,ins_srt t.srt v hk,by rw [ins_len]; omega⟩
  · rw [st45 _ _ _ rfl,cells_slice,H.write_all hbt4 (l := [.slice (some ⟨h.next,0,none⟩) (rows.length + 1) (rows.length + 1)]) rfl rfl,ofU_some]
  · refine .inr ⟨h.next,[],rows.length + 1,rfl,by rw [rws_len,ins_len],?_,?_,rfl⟩
    · rw [List.append_nil]; exact H.put_ne hbt4 (by omega) b4
    · rw [List.append_nil,flat_len (ins_good t.good hv).r,rws_len,ins_len]
theorem Tbl.putAt {h : H} {bt : Nat} {br : Option Nat} {rows : List Rw} (t : Tbl h bt br rows) {sl : Value} (q1 : h.get bt = some (.cells [sl] 47 0 false)) (l : Lst 54 2 h sl br (rws rows)) {k : ByteArray} {v : Value} (hk : hasK rows k) (hv : v.oneCell' = true) :
    ∃ b h',(∀ h2,xindexAddr Tryz.prog 45 sl (.int .i64 (lb rows k : Nat)) h2 = .ok (.pointer (some ⟨b,0 + lb rows k * 2,none⟩)) h2) ∧ h.write ⟨b,0 + lb rows k * 2 + 1,none⟩ [v] = some h' ∧ Upd (fun x => some x = br) h h' ∧ Tbl h' bt br (setR rows k v) := by
  obtain ⟨r,hr⟩ : ∃ r,rows[lb rows k]? = some r := ⟨_,List.getElem?_eq_getElem hk.1⟩
  have hk1 : r.1 = k := by rw [← key_at hr]; exact hk.2
  have hne := t.ne
  rcases l with ⟨_,_,e⟩ | ⟨b,sp,cap,rfl,rfl,hg,hl,ho⟩
  · have : rows = [] := List.map_eq_nil_iff.1 e
    subst this
    exact absurd hk.1 (Nat.not_lt_zero _)
  · rw [rws_len]
    obtain ⟨h',w,u,g'⟩ := Lst.set2 t.good hg hr hv
    rw [hk1] at g'
    have hgood : Good (setR rows k v) := set_good t.good hv
    refine ⟨b,h',fun h2 => ia45 _ _ _ _ _ _ _ h2 hk.1,w,u.mono fun x _ z => by rw [z],⟨_,u.old _ _ (fun z => hne (by rw [z])) q1,.inr ⟨b,sp,cap,rfl,?_,g',?_,ho⟩⟩,hgood,set_srt t.srt v hk,by unfold setR; rw [List.length_set]; exact t.few⟩
    · unfold setR; simp only [rws_len,List.length_set]
    · rw [List.length_append,flat_len t.good.r,rws_len] at hl
      rw [List.length_append,flat_len hgood.r,rws_len]
      unfold setR; rw [List.length_set]; exact hl
theorem Tbl.getAt {h : H} {bt : Nat} {br : Option Nat} {rows : List Rw} (t : Tbl h bt br rows) {sl : Value} (l : Lst 54 2 h sl br (rws rows)) {k : ByteArray} (hk : hasK rows k) :
    ∃ b v,(k,v) ∈ rows ∧ (∀ h2,xindexAddr Tryz.prog 45 sl (.int .i64 (lb rows k : Nat)) h2 = .ok (.pointer (some ⟨b,0 + lb rows k * 2,none⟩)) h2) ∧ h.cell ⟨b,0 + lb rows k * 2 + 1,none⟩ = some v ∧ h.row ⟨b,0 + lb rows k * 2 + 1,none⟩ 1 = some [v] := by
  obtain ⟨r,hr⟩ : ∃ r,rows[lb rows k]? = some r := ⟨_,List.getElem?_eq_getElem hk.1⟩
  have hk1 : r.1 = k := by rw [← key_at hr]; exact hk.2
  have hmem := List.mem_of_getElem? hr
  rw [show r = (k,r.2) by rw [← hk1]] at hmem
  rcases l with ⟨_,_,e⟩ | ⟨b,sp,cap,rfl,rfl,hg,hl,ho⟩
  · have : rows = [] := List.map_eq_nil_iff.1 e
    subst this
    exact absurd hk.1 (Nat.not_lt_zero _)
  · rw [rws_len]
    have hc := Lst.cell2 (cap := cap) t.good hg hr
    refine ⟨b,r.2,hmem,fun h2 => ia45 _ _ _ _ _ _ _ h2 hk.1,hc,?_⟩
    have hl2 := flat_len t.good.r
    rw [rws_len] at hl2
    have hk0 := hk.1
    have hle : 0 + lb rows k * 2 + 1 + 1 ≤ ((rws rows).flatten ++ sp).length := by rw [List.length_append]; omega
    rw [H.row_eq hg hle]
    rw [H.cell_eq hg] at hc
    rw [List.drop_eq_getElem_cons (by omega),List.take_succ_cons,List.take_zero,(List.getElem?_eq_some_iff.1 hc).2]
end Go.Proofs.YtialpopmeamojaaGreat.K.TbB
namespace Go.Proofs.YtialpopmeamojaaGreat.K
open Go Go.Kx
set_option linter.unusedVariables false
set_option linter.unusedSimpArgs false
set_option maxRecDepth 20000
theorem rc_slice (b n c : Nat) (h : H) : rc (.ok (.slice (some ⟨b,0,none⟩) n c) h) (some (.slice (some ⟨b,0,none⟩) n c)) = true := by simp [rc,veq]
theorem rc_nil (n c : Nat) (h : H) : rc (.ok (.slice none n c) h) (some (.slice none n c)) = true := by simp [rc,veq]
theorem rc_lst {e E : Nat} {h h' : H} {sl : Value} {br : Option Nat} {rows : List (List Value)} (l : Lst e E h sl br rows) : rc (.ok sl h') (some sl) = true := by
  rcases l with ⟨_,rfl,_⟩ | ⟨b,sp,cap,_,rfl,_⟩
  · exact rc_nil _ _ _
  · exact rc_slice _ _ _ _
theorem bdA (k : ByteArray) (a : Option Addr) (h : H) : xbuild Tryz.prog 51 [(0,.string k),(1,.pointer a)] h = .ok (.agg ⟨[.string k,.pointer a]⟩) h := by kernel_rfl
theorem bsA (k : ByteArray) (a : Option Addr) (h : H) : xbuildSlice Tryz.prog 42 1 [(0,.agg ⟨[.string k,.pointer a]⟩)] h = .ok (.slice (some ⟨h.next,0,none⟩) 1 1) (h.alloc (.cells [.string k,.pointer a] 51 0 false)) := by kernel_rfl
theorem bdB (k : ByteArray) (b n c : Nat) (h : H) : xbuild Tryz.prog 54 [(0,.string k),(1,.agg ⟨[.slice (some ⟨b,0,none⟩) n c]⟩)] h = .ok (.agg ⟨[.string k,.slice (some ⟨b,0,none⟩) n c]⟩) h := by kernel_rfl
theorem bsB (k : ByteArray) (b n c : Nat) (h : H) : xbuildSlice Tryz.prog 45 1 [(0,.agg ⟨[.string k,.slice (some ⟨b,0,none⟩) n c]⟩)] h = .ok (.slice (some ⟨h.next,0,none⟩) 1 1) (h.alloc (.cells [.string k,.slice (some ⟨b,0,none⟩) n c] 54 0 false)) := by kernel_rfl
def Own (h : H) (br br' : Option Nat) : Prop := br' = br ∨ ∃ b,br' = some b ∧ h.next ≤ b
theorem ePutA {h : H} {bt : Nat} {br : Option Nat} {rows : List Rw} (t : TbA.Tbl h bt br rows) (k : ByteArray) (a : Option Addr) (few : rows.length < 1000000) :
    ∃ h' br' x,Upd (fun b => b = bt ∨ some b = br) h h' ∧ CLM (.f 6) [.pointer (some ⟨bt,0,none⟩),.string k,.pointer a] h = .ok x h' ∧ TbA.Tbl h' bt br' (putR rows k (.pointer a)) ∧ Own h br br' := by
  obtain ⟨h2,g2,e2⟩ := TbA.place t k
  have t2 := t.grow g2
  obtain ⟨sl,q1,l⟩ := t2.sl
  by_cases hk : hasK rows k
  · obtain ⟨b,h3,i1,w3,u3,t3⟩ := t2.putAt q1 l hk (v := .pointer a) rfl
    refine ⟨h3,br,.bool true,(g2.upd _).trans (u3.mono fun x _ z => .inr z),?_,by unfold putR; rw [if_pos hk]; exact t3,.inl rfl⟩
    rw [cM6,F6.eq,e2,go_ok,xextract_0,go_ok,xextract_1,go_ok,ifV_dec,if_pos hk,xnil_ptr,go_ok,fa44_0,go_ok,ld42,H.cell_eq q1,List.getElem?_cons_zero,ofO_some,go_ok,i1,go_ok,fa51_1,go_ok,st25 _ _ _ rfl,cells_ptr,w3,ofU_some,go_ok]
  · obtain ⟨h3,hh3⟩ : ∃ h3,h3 = h2.alloc (.cells [.string k,.pointer a] 51 0 false) := ⟨_,rfl⟩
    have g3 : Grow h2 h3 := by rw [hh3]; exact (Grow.refl h2).alloc _
    have b3 : h3.get h2.next = some (.cells [.string k,.pointer a] 51 0 false) := by rw [hh3]; exact H.alloc_self _ _
    obtain ⟨h4,h5,e4,e5,u5,t5⟩ := (t2.grow g3).putIn (g3.old _ _ q1) (l.grow g3) hk (v := .pointer a) rfl few b3
    have G3 := g2.trans g3
    refine ⟨h5,some h3.next,.bool false,(G3.upd _).trans u5,?_,by unfold putR; rw [if_neg hk]; exact t5,.inr ⟨_,rfl,G3.next⟩⟩
    rw [cM6,F6.eq,e2,go_ok,xextract_0,go_ok,xextract_1,go_ok,ifV_dec,if_neg hk,F6.j5_eq,xnil_ptr,go_ok,fa44_0,go_ok,ld42,H.cell_eq q1,List.getElem?_cons_zero,ofO_some,go_ok,bdA,go_ok,bsA,go_ok,← hh3,e4,go_ok,xnil_ptr,go_ok,fa44_0,go_ok,e5,go_ok]
theorem ePutB {h : H} {bt : Nat} {br : Option Nat} {rows : List Rw} (t : TbB.Tbl h bt br rows) (k : ByteArray) (b n c : Nat) (few : rows.length < 1000000) :
    ∃ h' br' x,Upd (fun b => b = bt ∨ some b = br) h h' ∧ CLM (.f 7) [.pointer (some ⟨bt,0,none⟩),.string k,.agg ⟨[.slice (some ⟨b,0,none⟩) n c]⟩] h = .ok x h' ∧ TbB.Tbl h' bt br' (putR rows k (.slice (some ⟨b,0,none⟩) n c)) ∧ Own h br br' := by
  obtain ⟨h1,hh1⟩ : ∃ h1,h1 = h.alloc (.cells [.slice (some ⟨b,0,none⟩) n c] 30 0 false) := ⟨_,rfl⟩
  have g1 : Grow h h1 := by rw [hh1]; exact (Grow.refl h).alloc _
  have b1 : h1.get h.next = some (.cells [.slice (some ⟨b,0,none⟩) n c] 30 0 false) := by rw [hh1]; exact H.alloc_self _ _
  obtain ⟨h2,g2',e2⟩ := TbB.place (t.grow g1) k
  have g2 := g1.trans g2'
  have b2 := g2'.old _ _ b1
  have t2 := t.grow g2
  obtain ⟨sl,q1,l⟩ := t2.sl
  have r2 : h2.row ⟨h.next,0,none⟩ 1 = some [.slice (some ⟨b,0,none⟩) n c] := H.row_all b2 rfl
  by_cases hk : hasK rows k
  · obtain ⟨bb,h3,i1,w3,u3,t3⟩ := t2.putAt q1 l hk (v := .slice (some ⟨b,0,none⟩) n c) rfl
    refine ⟨h3,br,.bool true,(g2.upd _).trans (u3.mono fun x _ z => .inr z),?_,by unfold putR; rw [if_pos hk]; exact t3,.inl rfl⟩
    rw [cM7,F7.eq,xbox_eq,go_ok,cells_agg,← hh1,e2,go_ok,xextract_0,go_ok,xextract_1,go_ok,ifV_dec,if_pos hk,xnil_ptr,Res.ok1_ok,fa47_0,Res.ok1_ok,ld45,H.cell_eq q1,List.getElem?_cons_zero,ofO_some,Res.ok1_ok,ld30,r2,ofA_some,Res.ok1_ok,i1,Res.ok1_ok,fa54_1,Res.ok1_ok,st30 _ _ _ rfl,cells_agg,w3,ofU_some,go_ok]
  · obtain ⟨h3,hh3⟩ : ∃ h3,h3 = h2.alloc (.cells [.string k,.slice (some ⟨b,0,none⟩) n c] 54 0 false) := ⟨_,rfl⟩
    have g3 : Grow h2 h3 := by rw [hh3]; exact (Grow.refl h2).alloc _
    have b3 : h3.get h2.next = some (.cells [.string k,.slice (some ⟨b,0,none⟩) n c] 54 0 false) := by rw [hh3]; exact H.alloc_self _ _
    obtain ⟨h4,h5,e4,e5,u5,t5⟩ := (t2.grow g3).putIn (g3.old _ _ q1) (l.grow g3) hk (v := .slice (some ⟨b,0,none⟩) n c) rfl few b3
    have G3 := g2.trans g3
    refine ⟨h5,some h3.next,.bool false,(G3.upd _).trans u5,?_,by unfold putR; rw [if_neg hk]; exact t5,.inr ⟨_,rfl,G3.next⟩⟩
    rw [cM7,F7.eq,xbox_eq,go_ok,cells_agg,← hh1,e2,go_ok,xextract_0,go_ok,xextract_1,go_ok,ifV_dec,if_neg hk,F7.j5_eq,xnil_ptr,Res.ok1_ok,fa47_0,Res.ok1_ok,ld45,H.cell_eq q1,List.getElem?_cons_zero,ofO_some,Res.ok1_ok,ld30,r2,ofA_some,Res.ok1_ok,bdB,Res.ok1_ok,bsB,go_ok,← hh3,ld45,H.cell_eq (g3.old _ _ q1),List.getElem?_cons_zero,ofO_some,rc_lst l,Bool.and_true,cond_true,e4,go_ok,xnil_ptr,Res.ok1_ok,fa47_0,Res.ok1_ok,e5,go_ok]
theorem eGetA {h : H} {bt : Nat} {br : Option Nat} {rows : List Rw} (t : TbA.Tbl h bt br rows) (k : ByteArray) :
    ∃ h' v,Grow h h' ∧ CLM (.f 8) [.pointer (some ⟨bt,0,none⟩),.string k] h = .ok (.tuple ⟨[v,.bool (decide (hasK rows k))]⟩) h' ∧ (hasK rows k → (k,v) ∈ rows) := by
  obtain ⟨h2,g2,e2⟩ := TbA.place t k
  have t2 := t.grow g2
  obtain ⟨sl,q1,l⟩ := t2.sl
  by_cases hk : hasK rows k
  · obtain ⟨b,v,hm,i1,c1,_⟩ := t2.getAt l hk
    refine ⟨h2,v,g2,?_,fun _ => hm⟩
    rw [cM8,F8.eq,e2,go_ok,xextract_0,go_ok,xextract_1,go_ok,xun_not,go_ok,ifV_not,if_pos hk,F8.j5_eq,xnil_ptr,go_ok,fa44_0,go_ok,ld42,H.cell_eq q1,List.getElem?_cons_zero,ofO_some,go_ok,i1,go_ok,fa51_1,go_ok,ld25,c1,ofO_some,go_ok,decide_eq_true hk]
  · refine ⟨h2,.pointer none,g2,?_,fun z => absurd z hk⟩
    rw [cM8,F8.eq,e2,go_ok,xextract_0,go_ok,xextract_1,go_ok,xun_not,go_ok,ifV_not,if_neg hk,decide_eq_false hk]
theorem resB : Tryz.f9.results.toList = [.cell 4 30,.tmp 5] := by kernel_rfl
theorem kfnB {t u v : Value} {h h2 : H} (hx : xload Tryz.prog 30 t h = .ok u h2) : kfn Tryz.prog Tryz.f9.results.toList .normal [(4,t),(5,v)] h = .ok (.tuple ⟨[u,v]⟩) h := by
  rw [resB]
  show (match (match xload Tryz.prog 30 t h with | .ok u _ => some [u,v] | _ => none) with | some l => Res.ok (oneV l) h | none => .bad) = _
  rw [hx]
  rfl
theorem eGetB {h : H} {bt : Nat} {br : Option Nat} {rows : List Rw} (t : TbB.Tbl h bt br rows) {k : ByteArray} (hk : hasK rows k) :
    ∃ h' v,Grow h h' ∧ CLM (.f 9) [.pointer (some ⟨bt,0,none⟩),.string k] h = .ok (.tuple ⟨[.agg ⟨[v]⟩,.bool true]⟩) h' ∧ (k,v) ∈ rows := by
  obtain ⟨h1,hh1⟩ : ∃ h1,h1 = h.alloc (.cells zc30 30 0 false) := ⟨_,rfl⟩
  have g1 : Grow h h1 := by rw [hh1]; exact (Grow.refl h).alloc _
  have b1 : h1.get h.next = some (.cells zc30 30 0 false) := by rw [hh1]; exact H.alloc_self _ _
  obtain ⟨h2,g2',e2⟩ := TbB.place (t.grow g1) k
  have g2 := g1.trans g2'
  have b2 := g2'.old _ _ b1
  have t2 := t.grow g2
  obtain ⟨sl,q1,l⟩ := t2.sl
  obtain ⟨b,v,hm,i1,_,r1⟩ := t2.getAt l hk
  have hv := t.good _ hm
  have hone : ones [v] = true := by show (v.oneCell' && true) = true; rw [hv]; rfl
  have w3 := H.write_all (l := [v]) b2 (by rw [zc30_len]; rfl) hone
  obtain ⟨h3,hh3⟩ : ∃ h3,h3 = h2.put h.next (.cells [v] 30 0 false) := ⟨_,rfl⟩
  rw [← hh3] at w3
  have g3 : Grow h h3 := by rw [hh3]; exact g2.put (Nat.le_refl _) (H.get_lt b2) _
  have b3 : h3.get h.next = some (.cells [v] 30 0 false) := by rw [hh3]; exact H.put_self b2
  refine ⟨h3,v,g3,?_,hm⟩
  rw [cM9,F9.eq,al30,go_ok,← hh1,e2,go_ok,xextract_0,go_ok,xextract_1,go_ok,xun_not,go_ok,ifV_not,if_pos hk,F9.j5_eq,xnil_ptr,go_ok,fa47_0,go_ok,ld45,H.cell_eq q1,List.getElem?_cons_zero,ofO_some,go_ok,i1,go_ok,fa54_1,go_ok,ld30,r1,ofA_some,go_ok,st30 _ _ _ rfl,cells_agg,w3,ofU_some,go_ok]
  exact kfnB (h2 := h3) (by rw [ld30,show h3.row ⟨h.next,0,none⟩ 1 = some [v] from H.row_all b3 rfl,ofA_some])
end Go.Proofs.YtialpopmeamojaaGreat.K
