/- My texts for this claim, in one file: part 24. -/
import Derived.Lib.Overlaps
import Derived.Test.YtbfgadekkemlcaaGreatDoorV23
set_option linter.unusedVariables false
set_option linter.unusedSimpArgs false
namespace Go.Kx
open Go
section
variable {P:Program} {t e:TypeId} {b o n cap:Nat} {h:H}
end
def insB (P:Program) (sl it:TypeId) (ov:FuncId) (K:Value→Value→Value→Value→Value→H→Res Value) (cl:Cl) (x0 x1 x2:Value) (h:H):Res Value:=
 (xslice P sl x0 (some x1) none none h).go .pan fun t1 h2=>(xbuiltin P .len [sl] [x2] h2).go .pan fun x7 h4=>(xbin P .eql it x7 (.int .i64 0) h4).go .pan fun t5 h=>ifV t5 (.ok x0 h)
 ((xbuiltin P .len [sl] [x0] h).go .pan fun x8 h8=>(xbin P .eql it x1 x8 h8).go .pan fun t9 h=>ifV t9 ((xbuiltin P .append [sl,sl] [x0,x2] h).go .pan fun t11 h12=>.ok t11 h12)
 ((xbin P .add it x8 x7 h).go .pan fun t13 h14=>(xbuiltin P .cap [sl] [x0] h14).go .pan fun t15 h16=>(xbin P .gtr it t13 t15 h16).go .pan fun t17 h18=>ifV t17
  ((xslice P sl x0 none (some x1) none h18).go .pan fun t19 h20=>(xbin P .add it x8 x7 h20).go .pan fun t21 h22=>(xbin P .sub it t21 x1 h22).go .pan fun t23 h24=>(xbuiltin P .append [sl,it] [t19,t23] h24).go .pan fun t25 h26=>
   (xslice P sl t25 (some x1) none none h26).go .pan fun t27 h28=>(xbuiltin P .copy [sl,sl] [t27,x2] h28).go .pan fun t29 h30=>bif plain2 x1 x7 then
    (xbin P .add it x1 x7 h30).ok1 fun t31 h32=>(xslice P sl t25 (some t31) none none h32).ok1 fun t33 h34=>(xslice P sl x0 (some x1) none none h34).ok1 fun t35 h36=>(xbuiltin P .copy [sl,sl] [t33,t35] h36).go .pan fun t37 h38=>.ok t25 h38
   else .bad)
  ((xbin P .add it x8 x7 h18).go .pan fun t39 h40=>(xslice P sl x0 none (some t39) none h40).go .pan fun t41 h42=>(xbin P .add it x1 x7 h42).go .pan fun t43 h44=>(xslice P sl t41 (some t43) none none h44).go .pan fun t45 h46=>
   (cl (.f ov) [x2,t45] h46).go .pan fun t47 h48=>(xun P .not t47 h48).go .pan fun t49 h50=>ifV t49
    (bif plain2 x1 x7 then (xbin P .add it x1 x7 h50).ok1 fun t51 h52=>(xslice P sl t41 (some t51) none none h52).ok1 fun t53 h54=>(xslice P sl t41 (some x1) none none h54).ok1 fun t55 h56=>(xbuiltin P .copy [sl,sl] [t53,t55] h56).go .pan fun t57 h58=>
     (xslice P sl t41 (some x1) none none h58).go .pan fun t59 h60=>(xbuiltin P .copy [sl,sl] [t59,x2] h60).go .pan fun t61 h62=>.ok t41 h62
    else .bad)
    (K t41 x1 x2 x7 x8 h50))))
structure InsT (P:Program) (sl it e:TypeId):Prop where
 u:P.underlying sl=some (.slice e)
 el:elemOf? P sl=some e
 sz:szOk P e=true
 iss:isIntT P sl=some false
 isi:isIntT P it=some true
 pos:0<P.cellsOf e
theorem ones_take {l:List Value} (h:ones l=true):∀ n,ones (l.take n)=true:=by
 intro n
 rw[ones_iff] at *
 exact fun v hv=>h v (List.mem_of_mem_take hv)
section
variable {P:Program} {sl it e:TypeId} (T:InsT P sl it e) {ov:FuncId} {K:Value→Value→Value→Value→Value→H→Res Value} {cl:Cl}
variable {b o n cap i m vb vo mc:Nat} {c new:List Value} {el:TypeId} {h:H}
include T
end
end Go.Kx
