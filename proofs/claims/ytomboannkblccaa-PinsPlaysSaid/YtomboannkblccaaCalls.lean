/- The calls of the table as equations; how operations go at the program's types. Printed by a program of mine. -/
import Derived.KernelRfl
import Derived.Test.YtomboannkblccaaPnA
import Derived.Test.YtomboannkblccaaEqs
import Derived.Test.YtomboannkblccaaTy
namespace Go.Proofs.Ytomboannkblccaa.K
open Go Go.Kx
set_option maxRecDepth 20000
set_option linter.unusedVariables false
noncomputable def tabM : Tab := fun f => match f with
  | 19 => none
  | 28 => none
  | 70 => none
  | n => tab n
noncomputable def CLM : Cl := clS Try.prog tabM primM
theorem cM3 (args : List Value) (h : H) : CLM (.f 3) args h = runS Try.prog CLM an3 Try.f3 args h := clS_eq (by kernel_rfl) args h
theorem cM4 (args : List Value) (h : H) : CLM (.f 4) args h = runS Try.prog CLM an4 Try.f4 args h := clS_eq (by kernel_rfl) args h
theorem cM5 (args : List Value) (h : H) : CLM (.f 5) args h = runS Try.prog CLM an5 Try.f5 args h := clS_eq (by kernel_rfl) args h
theorem cM6 (args : List Value) (h : H) : CLM (.f 6) args h = runS Try.prog CLM an6 Try.f6 args h := clS_eq (by kernel_rfl) args h
theorem cM7 (args : List Value) (h : H) : CLM (.f 7) args h = runS Try.prog CLM an7 Try.f7 args h := clS_eq (by kernel_rfl) args h
theorem cM8 (args : List Value) (h : H) : CLM (.f 8) args h = runS Try.prog CLM an8 Try.f8 args h := clS_eq (by kernel_rfl) args h
theorem cM9 (args : List Value) (h : H) : CLM (.f 9) args h = runS Try.prog CLM an9 Try.f9 args h := clS_eq (by kernel_rfl) args h
theorem cM10 (args : List Value) (h : H) : CLM (.f 10) args h = runS Try.prog CLM an10 Try.f10 args h := clS_eq (by kernel_rfl) args h
theorem cM11 (args : List Value) (h : H) : CLM (.f 11) args h = runS Try.prog CLM an11 Try.f11 args h := clS_eq (by kernel_rfl) args h
theorem cM12 (args : List Value) (h : H) : CLM (.f 12) args h = runS Try.prog CLM an12 Try.f12 args h := clS_eq (by kernel_rfl) args h
theorem cM13 (args : List Value) (h : H) : CLM (.f 13) args h = runS Try.prog CLM an13 Try.f13 args h := clS_eq (by kernel_rfl) args h
theorem cM14 (args : List Value) (h : H) : CLM (.f 14) args h = runS Try.prog CLM an14 Try.f14 args h := clS_eq (by kernel_rfl) args h
theorem cM15 (args : List Value) (h : H) : CLM (.f 15) args h = runS Try.prog CLM an15 Try.f15 args h := clS_eq (by kernel_rfl) args h
theorem cM16 (args : List Value) (h : H) : CLM (.f 16) args h = runS Try.prog CLM an16 Try.f16 args h := clS_eq (by kernel_rfl) args h
theorem cM17 (args : List Value) (h : H) : CLM (.f 17) args h = runS Try.prog CLM an17 Try.f17 args h := clS_eq (by kernel_rfl) args h
theorem cM18 (args : List Value) (h : H) : CLM (.f 18) args h = runS Try.prog CLM an18 Try.f18 args h := clS_eq (by kernel_rfl) args h
theorem cM20 (args : List Value) (h : H) : CLM (.f 20) args h = runS Try.prog CLM an20 Try.f20 args h := clS_eq (by kernel_rfl) args h
theorem cM21 (args : List Value) (h : H) : CLM (.f 21) args h = runS Try.prog CLM an21 Try.f21 args h := clS_eq (by kernel_rfl) args h
theorem cM22 (args : List Value) (h : H) : CLM (.f 22) args h = runS Try.prog CLM an22 Try.f22 args h := clS_eq (by kernel_rfl) args h
theorem cM23 (args : List Value) (h : H) : CLM (.f 23) args h = runS Try.prog CLM an23 Try.f23 args h := clS_eq (by kernel_rfl) args h
theorem cM24 (args : List Value) (h : H) : CLM (.f 24) args h = runS Try.prog CLM an24 Try.f24 args h := clS_eq (by kernel_rfl) args h
theorem cM25 (args : List Value) (h : H) : CLM (.f 25) args h = runS Try.prog CLM an25 Try.f25 args h := clS_eq (by kernel_rfl) args h
theorem cM26 (args : List Value) (h : H) : CLM (.f 26) args h = runS Try.prog CLM an26 Try.f26 args h := clS_eq (by kernel_rfl) args h
theorem cM27 (args : List Value) (h : H) : CLM (.f 27) args h = runS Try.prog CLM an27 Try.f27 args h := clS_eq (by kernel_rfl) args h
theorem cM29 (args : List Value) (h : H) : CLM (.f 29) args h = runS Try.prog CLM an29 Try.f29 args h := clS_eq (by kernel_rfl) args h
theorem cM30 (args : List Value) (h : H) : CLM (.f 30) args h = runS Try.prog CLM an30 Try.f30 args h := clS_eq (by kernel_rfl) args h
theorem cM31 (args : List Value) (h : H) : CLM (.f 31) args h = runS Try.prog CLM an31 Try.f31 args h := clS_eq (by kernel_rfl) args h
theorem cM32 (args : List Value) (h : H) : CLM (.f 32) args h = runS Try.prog CLM an32 Try.f32 args h := clS_eq (by kernel_rfl) args h
theorem cM33 (args : List Value) (h : H) : CLM (.f 33) args h = runS Try.prog CLM an33 Try.f33 args h := clS_eq (by kernel_rfl) args h
theorem cM34 (args : List Value) (h : H) : CLM (.f 34) args h = runS Try.prog CLM an34 Try.f34 args h := clS_eq (by kernel_rfl) args h
theorem cM35 (args : List Value) (h : H) : CLM (.f 35) args h = runS Try.prog CLM an35 Try.f35 args h := clS_eq (by kernel_rfl) args h
theorem cM36 (args : List Value) (h : H) : CLM (.f 36) args h = runS Try.prog CLM an36 Try.f36 args h := clS_eq (by kernel_rfl) args h
theorem cM37 (args : List Value) (h : H) : CLM (.f 37) args h = runS Try.prog CLM an37 Try.f37 args h := clS_eq (by kernel_rfl) args h
theorem cM40 (args : List Value) (h : H) : CLM (.f 40) args h = runS Try.prog CLM an40 Try.f40 args h := clS_eq (by kernel_rfl) args h
theorem cM41 (args : List Value) (h : H) : CLM (.f 41) args h = runS Try.prog CLM an41 Try.f41 args h := clS_eq (by kernel_rfl) args h
theorem cM42 (args : List Value) (h : H) : CLM (.f 42) args h = runS Try.prog CLM an42 Try.f42 args h := clS_eq (by kernel_rfl) args h
theorem cM43 (args : List Value) (h : H) : CLM (.f 43) args h = runS Try.prog CLM an43 Try.f43 args h := clS_eq (by kernel_rfl) args h
theorem cM44 (args : List Value) (h : H) : CLM (.f 44) args h = runS Try.prog CLM an44 Try.f44 args h := clS_eq (by kernel_rfl) args h
theorem cM45 (args : List Value) (h : H) : CLM (.f 45) args h = runS Try.prog CLM an45 Try.f45 args h := clS_eq (by kernel_rfl) args h
theorem cM46 (args : List Value) (h : H) : CLM (.f 46) args h = runS Try.prog CLM an46 Try.f46 args h := clS_eq (by kernel_rfl) args h
theorem cM47 (args : List Value) (h : H) : CLM (.f 47) args h = runS Try.prog CLM an47 Try.f47 args h := clS_eq (by kernel_rfl) args h
theorem cM48 (args : List Value) (h : H) : CLM (.f 48) args h = runS Try.prog CLM an48 Try.f48 args h := clS_eq (by kernel_rfl) args h
theorem cM49 (args : List Value) (h : H) : CLM (.f 49) args h = runS Try.prog CLM an49 Try.f49 args h := clS_eq (by kernel_rfl) args h
theorem cM50 (args : List Value) (h : H) : CLM (.f 50) args h = runS Try.prog CLM an50 Try.f50 args h := clS_eq (by kernel_rfl) args h
theorem cM51 (args : List Value) (h : H) : CLM (.f 51) args h = runS Try.prog CLM an51 Try.f51 args h := clS_eq (by kernel_rfl) args h
theorem cM52 (args : List Value) (h : H) : CLM (.f 52) args h = runS Try.prog CLM an52 Try.f52 args h := clS_eq (by kernel_rfl) args h
theorem cM53 (args : List Value) (h : H) : CLM (.f 53) args h = runS Try.prog CLM an53 Try.f53 args h := clS_eq (by kernel_rfl) args h
theorem cM54 (args : List Value) (h : H) : CLM (.f 54) args h = runS Try.prog CLM an54 Try.f54 args h := clS_eq (by kernel_rfl) args h
theorem cM55 (args : List Value) (h : H) : CLM (.f 55) args h = runS Try.prog CLM an55 Try.f55 args h := clS_eq (by kernel_rfl) args h
theorem cM56 (args : List Value) (h : H) : CLM (.f 56) args h = runS Try.prog CLM an56 Try.f56 args h := clS_eq (by kernel_rfl) args h
theorem cM57 (args : List Value) (h : H) : CLM (.f 57) args h = runS Try.prog CLM an57 Try.f57 args h := clS_eq (by kernel_rfl) args h
theorem cM58 (args : List Value) (h : H) : CLM (.f 58) args h = runS Try.prog CLM an58 Try.f58 args h := clS_eq (by kernel_rfl) args h
theorem cM59 (args : List Value) (h : H) : CLM (.f 59) args h = runS Try.prog CLM an59 Try.f59 args h := clS_eq (by kernel_rfl) args h
theorem cM62 (args : List Value) (h : H) : CLM (.f 62) args h = runS Try.prog CLM an62 Try.f62 args h := clS_eq (by kernel_rfl) args h
theorem cM63 (args : List Value) (h : H) : CLM (.f 63) args h = runS Try.prog CLM an63 Try.f63 args h := clS_eq (by kernel_rfl) args h
theorem cM64 (args : List Value) (h : H) : CLM (.f 64) args h = runS Try.prog CLM an64 Try.f64 args h := clS_eq (by kernel_rfl) args h
theorem cM65 (args : List Value) (h : H) : CLM (.f 65) args h = runS Try.prog CLM an65 Try.f65 args h := clS_eq (by kernel_rfl) args h
theorem cM66 (args : List Value) (h : H) : CLM (.f 66) args h = runS Try.prog CLM an66 Try.f66 args h := clS_eq (by kernel_rfl) args h
theorem cM67 (args : List Value) (h : H) : CLM (.f 67) args h = runS Try.prog CLM an67 Try.f67 args h := clS_eq (by kernel_rfl) args h
theorem cM68 (args : List Value) (h : H) : CLM (.f 68) args h = runS Try.prog CLM an68 Try.f68 args h := clS_eq (by kernel_rfl) args h
theorem cM69 (args : List Value) (h : H) : CLM (.f 69) args h = runS Try.prog CLM an69 Try.f69 args h := clS_eq (by kernel_rfl) args h
theorem cM71 (args : List Value) (h : H) : CLM (.f 71) args h = runS Try.prog CLM an71 Try.f71 args h := clS_eq (by kernel_rfl) args h
theorem cM72 (args : List Value) (h : H) : CLM (.f 72) args h = runS Try.prog CLM an72 Try.f72 args h := clS_eq (by kernel_rfl) args h
theorem cM73 (args : List Value) (h : H) : CLM (.f 73) args h = runS Try.prog CLM an73 Try.f73 args h := clS_eq (by kernel_rfl) args h
theorem cM74 (args : List Value) (h : H) : CLM (.f 74) args h = runS Try.prog CLM an74 Try.f74 args h := clS_eq (by kernel_rfl) args h
theorem cM75 (args : List Value) (h : H) : CLM (.f 75) args h = runS Try.prog CLM an75 Try.f75 args h := clS_eq (by kernel_rfl) args h
theorem cM76 (args : List Value) (h : H) : CLM (.f 76) args h = runS Try.prog CLM an76 Try.f76 args h := clS_eq (by kernel_rfl) args h
theorem cM77 (args : List Value) (h : H) : CLM (.f 77) args h = runS Try.prog CLM an77 Try.f77 args h := clS_eq (by kernel_rfl) args h
theorem cM19 (args : List Value) (h : H) : CLM (.f 19) args h = primM 19 args h := clS_prim (by kernel_rfl) args h
theorem cM28 (args : List Value) (h : H) : CLM (.f 28) args h = primM 28 args h := clS_prim (by kernel_rfl) args h
theorem cM70 (args : List Value) (h : H) : CLM (.f 70) args h = primM 70 args h := clS_prim (by kernel_rfl) args h
end Go.Proofs.Ytomboannkblccaa.K
