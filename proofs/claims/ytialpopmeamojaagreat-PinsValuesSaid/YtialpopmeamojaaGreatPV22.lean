/- My texts for this claim, in one file: part 22. -/
import Derived.Test.YtialpopmeamojaaGreatPV21
namespace Go.Kx
open Go
set_option linter.unusedVariables false
set_option linter.unusedSimpArgs false
def insOk (e : TypeId) (h : H) (base : Option Addr) (cap vb : Nat) : Bool :=
  (match base with
   | none => Nat.beq cap 0
   | some a =>
     (match a.spot with | none => true | some 1 => Nat.beq cap 0 | _ => false) && !Nat.beq a.block vb &&
     (match h.get a.block with | some (.cells c el 0 true) => Nat.beq el e && ones c | _ => false)) &&
  (match h.get vb with | some (.cells c _ 0 false) => ones c && !Nat.beq c.length 0 | _ => false)
def insP (P : Program) (sl : TypeId) (args : List Value) (h : H) : Res Value :=
  match args with
  | [.slice base n cap,.int .i64 (.ofNat i),.slice (some ⟨vb,vo,none⟩) m mc] =>
    match elemOf? P sl with
    | some e =>
      match firstC h (P.cellsOf e) n (.slice base n cap),h.row ⟨vb,vo,none⟩ (m * P.cellsOf e) with
      | some old,some new =>
        bif Nat.ble i n && Nat.blt 0 m && Nat.ble n cap && Nat.ble m mc && insOk e h base cap vb && Nat.ble ((n + m) * bytesOf P e) 35184372088832 && Nat.ble (n + m) 35184372088832 && Nat.ble (bytesOf P e) 1048576 && zeroFits P e then
          .ok (.slice (some ⟨h.next,0,none⟩) (n + m) (n + m)) ((h.leave base).alloc (.cells (old.take (i * P.cellsOf e) ++ (new ++ old.drop (i * P.cellsOf e))) e 0 true))
        else .bad
      | _,_ => .bad
    | none => .bad
  | _ => .bad
end Go.Kx
