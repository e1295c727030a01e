/- My texts for this claim, in one file: part 30. -/
import Derived.Laws.Externs
import Derived.Lib.Bytealg
import Derived.Test.YtbfgadekkemlcaaGreatDoorV29
set_option linter.unusedVariables false
set_option linter.unusedSimpArgs false
set_option linter.defProp false
set_option maxRecDepth 20000
namespace Go.Proofs.YtbfgadekkemlcaaGreatDoor.K
open Go Go.Kx
namespace F3
noncomputable section
variable (P:Program) (cl:Cl) (nu mu:Nu) (x0 x1:Value) (h:H)
end
end F3
namespace F4
noncomputable section
variable (P:Program) (cl:Cl) (nu mu:Nu) (x0 x1 x2 x3 x4 x6 x9 x10 x11 x12 x13 x14 x42 x74:Value) (h:H)
end
end F4
namespace F5
noncomputable section
variable (P:Program) (cl:Cl) (nu mu:Nu) (x0 x1 x2 x3 x4 x9 x10 x11 x18 x19 x32 x33 x57 x58 x59 x62 x63 x64 x65 x68 x69 x70 x73 x74 x75 x76 x91 x92 x93 x94 x95 x96 x110 x116 x117 x118 x119 x132 x138 x139 x140 x141 x155 x161 x162 x163 x164:Value) (h:H)
noncomputable def s:=sub (bodyOf Tryz.f5)
noncomputable def k0:Ko:=kfn P Tryz.f5.results.toList
def j3:=mu 6 (evT P cl an5 nu (s [1,1]) (k0 P)) [(1,x1),(2,x2),(3,x3),(4,x4)] h
def k2:Ko:=kC P cl nu an5 (s [1,1,1,1]) (k0 P)
def k3:Ko:=kblk 0 (k2 P cl nu)
def l5:=mu 11 (lC P cl nu an5 [2,3,9,10,11] (s [1,1,1,0,1,0,0]) (k3 P cl nu)) [(2,x2),(3,x3),(9,x9),(10,x10),(11,x11)] h
def k4:Ko:=kL P cl nu an5 11 [2,3,9,10,11] (s [1,1,1,0,1,0,0]) (k3 P cl nu)
def j7:=mu 14 (evT P cl an5 nu (s [1,1,1,0,1,0,0,1]) (k4 P cl nu)) [(2,x2),(3,x3),(9,x9),(10,x10),(11,x11),(32,x32),(33,x33)] h
def k6:Ko:=kC P cl nu an5 (s [1,1,1,0,1,0,0,1,1]) (k4 P cl nu)
def k7:Ko:=kblk 1 (k6 P cl nu)
def j28:=mu 56 (evT P cl an5 nu (s [1,1,1,1]) (k0 P)) [] h
def j13:=mu 26 (evT P cl an5 nu (s [1,1,1,0,1,0,0,1,0,0,1,1,1,1,1]) (k7 P cl nu)) [(2,x2),(3,x3),(9,x9),(10,x10),(11,x11),(32,x32),(33,x33),(57,x57),(58,x58),(59,x59),(62,x62),(63,x63),(64,x64),(65,x65),(68,x68),(69,x69),(70,x70),(73,x73),(74,x74),(75,x75),(76,x76)] h
def j14:=mu 28 (evT P cl an5 nu (s [1,1,1,0,1,0,0,1,0,0,1,1,1,1,1,1]) (k7 P cl nu)) [(2,x2),(3,x3),(9,x9),(10,x10),(11,x11),(32,x32),(33,x33),(57,x57),(58,x58),(59,x59),(62,x62),(63,x63),(64,x64),(65,x65),(68,x68),(69,x69),(70,x70),(73,x73),(74,x74),(75,x75),(76,x76)] h
def j18:=mu 36 (evT P cl an5 nu (s [1,1,1,0,1,0,0,1,0,0,1,1,1,1,1,1,1,1,1]) (k7 P cl nu)) [(2,x2),(3,x3),(9,x9),(10,x10),(11,x11),(18,x18),(19,x19),(32,x32),(33,x33),(57,x57),(58,x58),(59,x59),(62,x62),(63,x63),(64,x64),(65,x65),(68,x68),(69,x69),(70,x70),(73,x73),(74,x74),(75,x75),(76,x76),(91,x91),(92,x92),(93,x93),(94,x94),(95,x95),(96,x96)] h
def k11:Ko:=kblk 2 (k7 P cl nu)
def j21:=mu 42 (evT P cl an5 nu (s [1,1,1,0,1,0,0,1,0,0,1,1,1,1,1,1,1,1,1,0,1,1,1]) (k11 P cl nu)) [(2,x2),(3,x3),(9,x9),(10,x10),(11,x11),(18,x18),(19,x19),(32,x32),(33,x33),(57,x57),(58,x58),(59,x59),(62,x62),(63,x63),(64,x64),(65,x65),(68,x68),(69,x69),(70,x70),(73,x73),(74,x74),(75,x75),(76,x76),(91,x91),(92,x92),(93,x93),(94,x94),(95,x95),(96,x96),(110,x110),(116,x116),(117,x117),(118,x118),(119,x119)] h
def j23:=mu 46 (evT P cl an5 nu (s [1,1,1,0,1,0,0,1,0,0,1,1,1,1,1,1,1,1,1,0,1,1,1,1,1]) (k11 P cl nu)) [(2,x2),(3,x3),(9,x9),(10,x10),(11,x11),(18,x18),(19,x19),(32,x32),(33,x33),(57,x57),(58,x58),(59,x59),(62,x62),(63,x63),(64,x64),(65,x65),(68,x68),(69,x69),(70,x70),(73,x73),(74,x74),(75,x75),(76,x76),(91,x91),(92,x92),(93,x93),(94,x94),(95,x95),(96,x96),(116,x116),(117,x117),(118,x118),(119,x119),(132,x132),(138,x138),(139,x139),(140,x140),(141,x141)] h
def j25:=mu 50 (evT P cl an5 nu (s [1,1,1,0,1,0,0,1,0,0,1,1,1,1,1,1,1,1,1,0,1,1,1,1,1,1,1]) (k11 P cl nu)) [(2,x2),(3,x3),(9,x9),(10,x10),(11,x11),(18,x18),(19,x19),(32,x32),(33,x33),(57,x57),(58,x58),(59,x59),(62,x62),(63,x63),(64,x64),(65,x65),(68,x68),(69,x69),(70,x70),(73,x73),(74,x74),(75,x75),(76,x76),(91,x91),(92,x92),(93,x93),(94,x94),(95,x95),(96,x96),(116,x116),(117,x117),(118,x118),(119,x119),(138,x138),(139,x139),(140,x140),(141,x141),(155,x155),(161,x161),(162,x162),(163,x163),(164,x164)] h
theorem j3_eq:j3 P cl nu nu0 x1 x2 x3 x4 h=(xload P 25 x4 h).go .pan fun t4 h=>(cl (.f 19) [t4] h).go .pan fun t5 h=>(cl (.f 20) [x1] h).go .pan fun t6 h=>(cl (.f 24) [t6] h).go .pan fun t7 h=>(xalloc P 25 h).go .pan fun t8 h=>(xstore P 25 t8 t5 h).go .pan fun t9 h=>(l5 P cl nu nu x2 x3 t8 t7 (.int .i64 0) h):=by kernel_rfl
theorem l5n:evT P cl an5 nu (s [1,1,1,0,1,0,0]) (kL P cl nu an5 11 [2,3,9,10,11] (s [1,1,1,0,1,0,0]) (k3 P cl nu)) [(2,x2),(3,x3),(9,x9),(10,x10),(11,x11)] h=(xbuiltin P .len [38] [x2] h).go .pan fun t10 h=>(xbin P .leq 3 x11 t10 h).go .pan fun t11 h=>ifV t11 ((xbin P .leq 3 x11 (.int .i64 16) h).go .pan fun t12 h=>ifV t12 (j7 P cl nu nu x2 x3 x9 x10 x11 x11 t12 h) (j28 P cl nu nu h)) (j28 P cl nu nu h):=by kernel_rfl
def l5_eq:=@id (l5 P cl nu0 nu0 x2 x3 x9 x10 x11 h=_) (lpN (l5n P cl nu0 x2 x3 x9 x10 x11 h))
theorem j7_eq:j7 P cl nu nu0 x2 x3 x9 x10 x11 x32 x33 h=(xload P 25 x9 h).go .pan fun t13 h=>(cl (.f 25) [t13] h).go .pan fun t14 h=>(xalloc P 25 h).go .pan fun t15 h=>(xstore P 25 t15 t14 h).go .pan fun t16 h=>(xbuiltin P .append [26,26] [(.slice none 0 0),x10] h).go .pan fun t17 h=>(xload P 25 x9 h).go .pan fun t18 h=>(cl (.f 21) [t18,x10] h).go .pan fun t19 h=>(xextract t19 0 h).go .pan fun t20 h=>(xextract t19 1 h).go .pan fun t21 h=>(xalloc P 32 h).go .pan fun t22 h=>(xstore P 32 t22 t20 h).go .pan fun t23 h=>(xload P 25 t15 h).go .pan fun t24 h=>(cl (.f 26) [t24,t17] h).go .pan fun t25 h=>(xextract t25 0 h).go .pan fun t26 h=>(xextract t25 1 h).go .pan fun t27 h=>(xalloc P 32 h).go .pan fun t28 h=>(xstore P 32 t28 t26 h).go .pan fun t29 h=>(xload P 32 t22 h).go .pan fun t30 h=>(xload P 32 t28 h).go .pan fun t31 h=>(xbin P .neq 32 t30 t31 h).go .pan fun t32 h=>ifV t32 (.ok (.bool false) h) ((xbin P .neq 3 t21 t27 h).go .pan fun t33 h=>ifV t33 (.ok (.bool false) h) ((xload P 25 x9 h).go .pan fun t34 h=>(xload P 25 t15 h).go .pan fun t35 h=>(cl (.f 22) [t34,t35] h).go .pan fun t36 h=>(xun P .not t36 h).go .pan fun t37 h=>ifV t37 (.ok (.bool false) h) ((xload P 25 x9 h).go .pan fun t38 h=>(cl (.f 27) [t38] h).go .pan fun t39 h=>(xun P .not t39 h).go .pan fun t40 h=>ifV t40 (.ok (.bool false) h) ((cl (.f 28) [x10,t17] h).go .pan fun t41 h=>(xun P .not t41 h).go .pan fun t42 h=>ifV t42 (.ok (.bool false) h) (j13 P cl nu nu x2 x3 x9 x10 x11 x32 x33 t21 t27 t33 t34 t35 t36 t37 t38 t39 t40 x10 t17 t41 t42 h))))):=by kernel_rfl
theorem j28_eq:j28 P cl nu nu0 h = .ok (.bool true) h:=by kernel_rfl
theorem j13_eq:j13 P cl nu nu0 x2 x3 x9 x10 x11 x32 x33 x57 x58 x59 x62 x63 x64 x65 x68 x69 x70 x73 x74 x75 x76 h=(xbuiltin P .len [38] [x2] h).go .pan fun t43 h=>(xbin P .eql 3 x11 t43 h).go .pan fun t44 h=>ifV t44 (j28 P cl nu nu h) (j14 P cl nu nu x2 x3 x9 x10 x11 x32 x33 x57 x58 x59 x62 x63 x64 x65 x68 x69 x70 x73 x74 x75 x76 h):=by kernel_rfl
theorem j14_eq:j14 P cl nu nu0 x2 x3 x9 x10 x11 x32 x33 x57 x58 x59 x62 x63 x64 x65 x68 x69 x70 x73 x74 x75 x76 h=(xindexAddr P 38 x2 x11 h).go .pan fun t45 h=>(xload P 43 t45 h).go .pan fun t46 h=>(xalloc P 43 h).go .pan fun t47 h=>(xstore P 43 t47 t46 h).go .pan fun t48 h=>(xbuiltin P .len [22] [x3] h).go .pan fun t49 h=>(xbin P .lss 3 x11 t49 h).go .pan fun t50 h=>ifV t50 ((xindexAddr P 22 x3 x11 h).go .pan fun t51 h=>(xload P 9 t51 h).go .pan fun t52 h=>(xbuiltin P .len [9] [t52] h).go .pan fun t53 h=>(xbin P .lss 3 t53 (.int .i64 300) h).go .pan fun t54 h=>ifV t54 ((xindexAddr P 22 x3 x11 h).go .pan fun t55 h=>(xload P 9 t55 h).go .pan fun t56 h=>(j18 P cl nu nu x2 x3 x9 x10 x11 t47 t56 x32 x33 x57 x58 x59 x62 x63 x64 x65 x68 x69 x70 x73 x74 x75 x76 x3 x11 t51 t52 t53 t54 h)) (j18 P cl nu nu x2 x3 x9 x10 x11 t47 (.string ⟨#[]⟩) x32 x33 x57 x58 x59 x62 x63 x64 x65 x68 x69 x70 x73 x74 x75 x76 x3 x11 t51 t52 t53 t54 h)) (j18 P cl nu nu x2 x3 x9 x10 x11 t47 (.string ⟨#[]⟩) x32 x33 x57 x58 x59 x62 x63 x64 x65 x68 x69 x70 x73 x74 x75 x76 (.tuple #[]) (.tuple #[]) (.tuple #[]) (.tuple #[]) (.tuple #[]) (.tuple #[]) h):=by kernel_rfl
theorem j18_eq:j18 P cl nu nu0 x2 x3 x9 x10 x11 x18 x19 x32 x33 x57 x58 x59 x62 x63 x64 x65 x68 x69 x70 x73 x74 x75 x76 x91 x92 x93 x94 x95 x96 h=(xindexAddr P 43 x18 (.int .i64 0) h).go .pan fun t57 h=>(xload P 3 t57 h).go .pan fun t58 h=>(xbin P .and 3 t58 (.int .i64 7) h).go .pan fun t59 h=>(xbin P .eql 3 t59 (.int .i64 1) h).go .pan fun t60 h=>ifV t60 ((xindexAddr P 43 x18 (.int .i64 2) h).go .pan fun t61 h=>(xload P 3 t61 h).go .pan fun t62 h=>(xfieldAddr P 25 x9 1 h).go .pan fun t63 h=>(xstore P 3 t63 t62 h).go .pan fun t64 h=>(xbin P .add 3 x11 (.int .i64 1) h).go .pan fun t65 h=>(l5 P cl nu nu x2 x3 x9 x10 t65 h)) ((xindexAddr P 43 x18 (.int .i64 0) h).go .pan fun t66 h=>(xload P 3 t66 h).go .pan fun t67 h=>(xbin P .and 3 t67 (.int .i64 7) h).go .pan fun t68 h=>(xbin P .eql 3 t68 (.int .i64 3) h).go .pan fun t69 h=>ifV t69 ((xfieldAddr P 25 x9 2 h).go .pan fun t70 h=>(xload P 22 t70 h).go .pan fun t71 h=>(xbuiltin P .len [22] [t71] h).go .pan fun t72 h=>(xbin P .gtr 3 t72 (.int .i64 0) h).go .pan fun t73 h=>(j21 P cl nu nu x2 x3 x9 x10 x11 x18 x19 x32 x33 x57 x58 x59 x62 x63 x64 x65 x68 x69 x70 x73 x74 x75 x76 x91 x92 x93 x94 x95 x96 t73 t70 t71 t72 t73 h)) (j21 P cl nu nu x2 x3 x9 x10 x11 x18 x19 x32 x33 x57 x58 x59 x62 x63 x64 x65 x68 x69 x70 x73 x74 x75 x76 x91 x92 x93 x94 x95 x96 (.bool false) (.tuple #[]) (.tuple #[]) (.tuple #[]) (.tuple #[]) h)):=by kernel_rfl
theorem j21_eq:j21 P cl nu nu0 x2 x3 x9 x10 x11 x18 x19 x32 x33 x57 x58 x59 x62 x63 x64 x65 x68 x69 x70 x73 x74 x75 x76 x91 x92 x93 x94 x95 x96 x110 x116 x117 x118 x119 h=ifV x110 ((xfieldAddr P 25 x9 2 h).ok1 fun t74 h=>(xload P 22 t74 h).ok1 fun t75 h=>(xindexAddr P 43 x18 (.int .i64 1) h).ok1 fun t76 h=>(xload P 3 t76 h).ok1 fun t77 h=>bif plain2 t77 (.int .i64 1023) then ((xbin P .and 3 t77 (.int .i64 1023) h).ok1 fun t78 h=>(xfieldAddr P 25 x9 2 h).ok1 fun t79 h=>(xload P 22 t79 h).ok1 fun t80 h=>bif (lenV t80).isSome then ((xbuiltin P .len [22] [t80] h).ok1 fun t81 h=>bif plain2 t78 t81 then ((xbin P .rem 3 t78 t81 h).ok1 fun t82 h=>(xindexAddr P 22 t75 t82 h).ok1 fun t83 h=>(xstore P 9 t83 x19 h).go .pan fun t84 h=>(xbin P .add 3 x11 (.int .i64 1) h).go .pan fun t85 h=>(l5 P cl nu nu x2 x3 x9 x10 t85 h)) else .bad) else .bad) else .bad) ((xindexAddr P 43 x18 (.int .i64 0) h).go .pan fun t86 h=>(xload P 3 t86 h).go .pan fun t87 h=>(xbin P .and 3 t87 (.int .i64 7) h).go .pan fun t88 h=>(xbin P .eql 3 t88 (.int .i64 5) h).go .pan fun t89 h=>ifV t89 ((xfieldAddr P 25 x9 3 h).go .pan fun t90 h=>(xload P 23 t90 h).go .pan fun t91 h=>(xbuiltin P .len [23] [t91] h).go .pan fun t92 h=>(xbin P .gtr 3 t92 (.int .i64 0) h).go .pan fun t93 h=>(j23 P cl nu nu x2 x3 x9 x10 x11 x18 x19 x32 x33 x57 x58 x59 x62 x63 x64 x65 x68 x69 x70 x73 x74 x75 x76 x91 x92 x93 x94 x95 x96 x116 x117 x118 x119 t93 t90 t91 t92 t93 h)) (j23 P cl nu nu x2 x3 x9 x10 x11 x18 x19 x32 x33 x57 x58 x59 x62 x63 x64 x65 x68 x69 x70 x73 x74 x75 x76 x91 x92 x93 x94 x95 x96 x116 x117 x118 x119 (.bool false) (.tuple #[]) (.tuple #[]) (.tuple #[]) (.tuple #[]) h)):=by kernel_rfl
theorem j23_eq:j23 P cl nu nu0 x2 x3 x9 x10 x11 x18 x19 x32 x33 x57 x58 x59 x62 x63 x64 x65 x68 x69 x70 x73 x74 x75 x76 x91 x92 x93 x94 x95 x96 x116 x117 x118 x119 x132 x138 x139 x140 x141 h=ifV x132 ((xfieldAddr P 25 x9 3 h).ok1 fun t94 h=>(xload P 23 t94 h).ok1 fun t95 h=>(xindexAddr P 43 x18 (.int .i64 1) h).ok1 fun t96 h=>(xload P 3 t96 h).ok1 fun t97 h=>bif plain2 t97 (.int .i64 1023) then ((xbin P .and 3 t97 (.int .i64 1023) h).ok1 fun t98 h=>(xfieldAddr P 25 x9 3 h).ok1 fun t99 h=>(xload P 23 t99 h).ok1 fun t100 h=>bif (lenV t100).isSome then ((xbuiltin P .len [23] [t100] h).ok1 fun t101 h=>bif plain2 t98 t101 then ((xbin P .rem 3 t98 t101 h).ok1 fun t102 h=>(xindexAddr P 23 t95 t102 h).ok1 fun t103 h=>(xfieldAddr P 48 t103 0 h).ok1 fun t104 h=>(xstore P 9 t104 x19 h).go .pan fun t105 h=>(xbin P .add 3 x11 (.int .i64 1) h).go .pan fun t106 h=>(l5 P cl nu nu x2 x3 x9 x10 t106 h)) else .bad) else .bad) else .bad) ((xindexAddr P 43 x18 (.int .i64 0) h).go .pan fun t107 h=>(xload P 3 t107 h).go .pan fun t108 h=>(xbin P .and 3 t108 (.int .i64 7) h).go .pan fun t109 h=>(xbin P .eql 3 t109 (.int .i64 7) h).go .pan fun t110 h=>ifV t110 ((xfieldAddr P 25 x9 3 h).go .pan fun t111 h=>(xload P 23 t111 h).go .pan fun t112 h=>(xbuiltin P .len [23] [t112] h).go .pan fun t113 h=>(xbin P .gtr 3 t113 (.int .i64 0) h).go .pan fun t114 h=>(j25 P cl nu nu x2 x3 x9 x10 x11 x18 x19 x32 x33 x57 x58 x59 x62 x63 x64 x65 x68 x69 x70 x73 x74 x75 x76 x91 x92 x93 x94 x95 x96 x116 x117 x118 x119 x138 x139 x140 x141 t114 t111 t112 t113 t114 h)) (j25 P cl nu nu x2 x3 x9 x10 x11 x18 x19 x32 x33 x57 x58 x59 x62 x63 x64 x65 x68 x69 x70 x73 x74 x75 x76 x91 x92 x93 x94 x95 x96 x116 x117 x118 x119 x138 x139 x140 x141 (.bool false) (.tuple #[]) (.tuple #[]) (.tuple #[]) (.tuple #[]) h)):=by kernel_rfl
theorem j25_eq:j25 P cl nu nu0 x2 x3 x9 x10 x11 x18 x19 x32 x33 x57 x58 x59 x62 x63 x64 x65 x68 x69 x70 x73 x74 x75 x76 x91 x92 x93 x94 x95 x96 x116 x117 x118 x119 x138 x139 x140 x141 x155 x161 x162 x163 x164 h=ifV x155 ((xfieldAddr P 25 x9 3 h).ok1 fun t115 h=>(xload P 23 t115 h).ok1 fun t116 h=>(xindexAddr P 43 x18 (.int .i64 1) h).ok1 fun t117 h=>(xload P 3 t117 h).ok1 fun t118 h=>bif plain2 t118 (.int .i64 1023) then ((xbin P .and 3 t118 (.int .i64 1023) h).ok1 fun t119 h=>(xfieldAddr P 25 x9 3 h).ok1 fun t120 h=>(xload P 23 t120 h).ok1 fun t121 h=>bif (lenV t121).isSome then ((xbuiltin P .len [23] [t121] h).ok1 fun t122 h=>bif plain2 t119 t122 then ((xbin P .rem 3 t119 t122 h).ok1 fun t123 h=>(xindexAddr P 23 t116 t123 h).ok1 fun t124 h=>(xfieldAddr P 48 t124 1 h).ok1 fun t125 h=>(xfieldAddr P 46 t125 1 h).ok1 fun t126 h=>(xstore P 9 t126 x19 h).go .pan fun t127 h=>(xbin P .add 3 x11 (.int .i64 1) h).go .pan fun t128 h=>(l5 P cl nu nu x2 x3 x9 x10 t128 h)) else .bad) else .bad) else .bad) ((xbuiltin P .len [26] [x10] h).go .pan fun t129 h=>(xbin P .gtr 3 t129 (.int .i64 0) h).go .pan fun t130 h=>ifV t130 ((xindexAddr P 43 x18 (.int .i64 1) h).ok1 fun t131 h=>(xload P 3 t131 h).ok1 fun t132 h=>bif plain2 t132 (.int .i64 1023) then ((xbin P .and 3 t132 (.int .i64 1023) h).ok1 fun t133 h=>bif (lenV x10).isSome then ((xbuiltin P .len [26] [x10] h).ok1 fun t134 h=>bif plain2 t133 t134 then ((xbin P .rem 3 t133 t134 h).ok1 fun t135 h=>(xindexAddr P 43 x18 (.int .i64 2) h).ok1 fun t136 h=>(xload P 3 t136 h).ok1 fun t137 h=>bif plain2 t137 (.int .i64 31) then ((xbin P .and 3 t137 (.int .i64 31) h).ok1 fun t138 h=>(xindexAddr P 26 x10 t135 h).ok1 fun t139 h=>(xindexAddr P 32 t139 t138 h).ok1 fun t140 h=>(xload P 5 t140 h).ok1 fun t141 h=>bif plain2 t141 (.int .u8 1) then ((xbin P .add 5 t141 (.int .u8 1) h).ok1 fun t142 h=>(xindexAddr P 26 x10 t135 h).ok1 fun t143 h=>(xindexAddr P 32 t143 t138 h).ok1 fun t144 h=>(xstore P 5 t144 t142 h).go .pan fun t145 h=>(xbin P .add 3 x11 (.int .i64 1) h).go .pan fun t146 h=>(l5 P cl nu nu x2 x3 x9 x10 t146 h)) else .bad) else .bad) else .bad) else .bad) else .bad) ((xbin P .add 3 x11 (.int .i64 1) h).go .pan fun t147 h=>(l5 P cl nu nu x2 x3 x9 x10 t147 h))):=by kernel_rfl
theorem eq:runX P cl nu an5 Tryz.f5 [x0,x1,x2,x3] h=(xbox 25 x0 h).go .pan fun t1 h=>(cl (.f 17) [] h).go .pan fun t2 h=>(xun P .not t2 h).go .pan fun t3 h=>ifV t3 (.ok (.bool false) h) (j3 P cl nu nu x1 x2 x3 t1 h):=by kernel_rfl
end
end F5
namespace F17
noncomputable section
variable (P:Program) (cl:Cl) (nu mu:Nu) (h:H)
theorem eq:runX P cl nu an17 Tryz.f17 [] h=(cl (.f 57) [] h).go .pan fun t1 h=>(xbuild P 32 [(0,(.int .u8 7))] h).go .pan fun t2 h=>(xbuildSlice P 26 1 [(0,t2)] h).go .pan fun t3 h=>(cl (.f 18) [t1,t3] h).go .pan fun t4 h=>ifV t4 ((cl (.f 57) [] h).go .pan fun t5 h=>(cl (.f 18) [t5,(.slice none 0 0)] h).go .pan fun t6 h=>.ok t6 h) (.ok (.bool false) h):=by kernel_rfl
end
end F17
namespace F18
noncomputable section
variable (P:Program) (cl:Cl) (nu mu:Nu) (x0 x1:Value) (h:H)
theorem eq:runX P cl nu an18 Tryz.f18 [x0,x1] h=(xbox 25 x0 h).go .pan fun t1 h=>(xload P 25 t1 h).go .pan fun t2 h=>(cl (.f 25) [t2] h).go .pan fun t3 h=>(cl (.f 24) [x1] h).go .pan fun t4 h=>(xalloc P 25 h).go .pan fun t5 h=>(xstore P 25 t5 t3 h).go .pan fun t6 h=>(xload P 25 t5 h).go .pan fun t7 h=>(cl (.f 21) [t7,t4] h).go .pan fun t8 h=>(xextract t8 0 h).go .pan fun t9 h=>(xextract t8 1 h).go .pan fun t10 h=>(xalloc P 32 h).go .pan fun t11 h=>(xstore P 32 t11 t9 h).go .pan fun t12 h=>(xload P 25 t1 h).go .pan fun t13 h=>(cl (.f 26) [t13,x1] h).go .pan fun t14 h=>(xextract t14 0 h).go .pan fun t15 h=>(xextract t14 1 h).go .pan fun t16 h=>(xalloc P 32 h).go .pan fun t17 h=>(xstore P 32 t17 t15 h).go .pan fun t18 h=>(xload P 32 t11 h).go .pan fun t19 h=>(xload P 32 t17 h).go .pan fun t20 h=>(xbin P .eql 32 t19 t20 h).go .pan fun t21 h=>ifV t21 ((xbin P .eql 3 t10 t16 h).go .pan fun t22 h=>ifV t22 ((xload P 25 t5 h).go .pan fun t23 h=>(xload P 25 t1 h).go .pan fun t24 h=>(cl (.f 22) [t23,t24] h).go .pan fun t25 h=>ifV t25 ((xload P 25 t5 h).go .pan fun t26 h=>(cl (.f 27) [t26] h).go .pan fun t27 h=>ifV t27 ((cl (.f 28) [t4,x1] h).go .pan fun t28 h=>.ok t28 h) (.ok (.bool false) h)) (.ok (.bool false) h)) (.ok (.bool false) h)) (.ok (.bool false) h):=by kernel_rfl
end
end F18
namespace F19
noncomputable section
variable (P:Program) (cl:Cl) (nu mu:Nu) (x0 x1 x2 x3 x4 x5 x6 x7 x22 x23:Value) (h:H)
noncomputable def s:=sub (bodyOf Tryz.f19)
noncomputable def k0:Ko:=kfn P Tryz.f19.results.toList
def j4:=mu 8 (evT P cl an19 nu (s [1,1,1]) (k0 P)) [(1,x1),(2,x2),(3,x3)] h
def k2:Ko:=kC P cl nu an19 (s [1,1,1,1,1]) (k0 P)
def k3:Ko:=kblk 0 (k2 P cl nu)
def l6:=mu 13 (lC P cl nu an19 [1,2,3,4,5] (s [1,1,1,1,0,1,0,0]) (k3 P cl nu)) [(1,x1),(2,x2),(3,x3),(4,x4),(5,x5)] h
def k4:Ko:=kL P cl nu an19 13 [1,2,3,4,5] (s [1,1,1,1,0,1,0,0]) (k3 P cl nu)
def j8:=mu 16 (evT P cl an19 nu (s [1,1,1,1,0,1,0,0,1]) (k4 P cl nu)) [(1,x1),(2,x2),(3,x3),(4,x4),(5,x5),(22,x22),(23,x23)] h
def k6:Ko:=kC P cl nu an19 (s [1,1,1,1,0,1,0,0,1,1]) (k4 P cl nu)
def k7:Ko:=kblk 1 (k6 P cl nu)
def j15:=mu 30 (evT P cl an19 nu (s [1,1,1,1,1]) (k0 P)) [(1,x1),(2,x2),(4,x4)] h
def j13:=mu 26 (evT P cl an19 nu (s [1,1,1,1,0,1,0,0,1,0,0,1,1,1]) (k7 P cl nu)) [(1,x1),(2,x2),(3,x3),(4,x4),(5,x5),(6,x6),(7,x7),(22,x22),(23,x23)] h
theorem j4_eq:j4 P cl nu nu0 x1 x2 x3 h=l6 P cl nu nu x1 x2 x3 (.slice none 0 0) (.int .i64 0) h:=by kernel_rfl
theorem l6n:evT P cl an19 nu (s [1,1,1,1,0,1,0,0]) (kL P cl nu an19 13 [1,2,3,4,5] (s [1,1,1,1,0,1,0,0]) (k3 P cl nu)) [(1,x1),(2,x2),(3,x3),(4,x4),(5,x5)] h=(xfieldAddr P 25 x1 3 h).go .pan fun t12 h=>(xload P 23 t12 h).go .pan fun t13 h=>(xbuiltin P .len [23] [t13] h).go .pan fun t14 h=>(xbin P .lss 3 x5 t14 h).go .pan fun t15 h=>ifV t15 ((xbin P .lss 3 x5 (.int .i64 10) h).go .pan fun t16 h=>ifV t16 (j8 P cl nu nu x1 x2 x3 x4 x5 x5 t16 h) (j15 P cl nu nu x1 x2 x4 h)) (j15 P cl nu nu x1 x2 x4 h):=by kernel_rfl
def l6_eq:=@id (l6 P cl nu0 nu0 x1 x2 x3 x4 x5 h=_) (lpN (l6n P cl nu0 x1 x2 x3 x4 x5 h))
theorem j8_eq:j8 P cl nu nu0 x1 x2 x3 x4 x5 x22 x23 h=(xfieldAddr P 25 x1 3 h).go .pan fun t17 h=>(xload P 23 t17 h).go .pan fun t18 h=>(xindexAddr P 23 t18 x5 h).go .pan fun t19 h=>(xload P 48 t19 h).go .pan fun t20 h=>(xalloc P 48 h).go .pan fun t21 h=>(xstore P 48 t21 t20 h).go .pan fun t22 h=>(xfieldAddr P 48 t21 1 h).go .pan fun t23 h=>(xload P 46 t23 h).go .pan fun t24 h=>(cl (.f 58) [t24,(.int .i64 2001)] h).go .pan fun t25 h=>(xbin P .gtr 3 t25 x3 h).go .pan fun t26 h=>ifV t26 ((xbuild P 46 [] h).go .pan fun t27 h=>(xfieldAddr P 48 t21 1 h).go .pan fun t28 h=>(xstore P 46 t28 t27 h).go .pan fun t29 h=>(j13 P cl nu nu x1 x2 x3 x4 x5 t21 (.int .i64 1) x22 x23 h)) (j13 P cl nu nu x1 x2 x3 x4 x5 t21 t25 x22 x23 h):=by kernel_rfl
theorem j15_eq:j15 P cl nu nu0 x1 x2 x4 h=(xfieldAddr P 25 x1 3 h).go .pan fun t30 h=>(xstore P 23 t30 x4 h).go .pan fun t31 h=>(xload P 25 x1 h).go .pan fun t32 h=>(cl (.f 25) [t32] h).go .pan fun t33 h=>(xstore P 25 x2 t33 h).go .pan fun t34 h=>kfn P Tryz.f19.results.toList .normal [(2,x2)] h:=by kernel_rfl
theorem j13_eq:j13 P cl nu nu0 x1 x2 x3 x4 x5 x6 x7 x22 x23 h=(xbin P .sub 3 x3 x7 h).go .pan fun t35 h=>(xload P 48 x6 h).go .pan fun t36 h=>(xbuildSlice P 23 1 [(0,t36)] h).go .pan fun t37 h=>(xbuiltin P .append [23,23] [x4,t37] h).go .pan fun t38 h=>(xbin P .add 3 x5 (.int .i64 1) h).go .pan fun t39 h=>(l6 P cl nu nu x1 x2 t35 t38 t39 h):=by kernel_rfl
theorem eq:runX P cl nu an19 Tryz.f19 [x0] h=(xbox 25 x0 h).go .pan fun t1 h=>(xalloc P 25 h).go .pan fun t2 h=>(xfieldAddr P 25 t1 2 h).go .pan fun t3 h=>(xload P 22 t3 h).go .pan fun t4 h=>(xbuiltin P .len [22] [t4] h).go .pan fun t5 h=>(xbin P .gtr 3 t5 (.int .i64 70) h).go .pan fun t6 h=>ifV t6 ((xfieldAddr P 25 t1 2 h).go .pan fun t7 h=>(xload P 22 t7 h).go .pan fun t8 h=>(xslice P 22 t8 none (some (.int .i64 70)) none h).go .pan fun t9 h=>(xfieldAddr P 25 t1 2 h).go .pan fun t10 h=>(xstore P 22 t10 t9 h).go .pan fun t11 h=>(j4 P cl nu nu t1 t2 (.int .i64 2000) h)) (j4 P cl nu nu t1 t2 (.int .i64 2000) h):=by kernel_rfl
end
end F19
namespace F20
noncomputable section
variable (P:Program) (cl:Cl) (nu mu:Nu) (x0:Value) (h:H)
theorem eq:runX P cl nu an20 Tryz.f20 [x0] h=(xbuiltin P .len [26] [x0] h).go .pan fun t1 h=>(xbin P .gtr 3 t1 (.int .i64 70) h).go .pan fun t2 h=>ifV t2 ((xslice P 26 x0 none (some (.int .i64 70)) none h).go .pan fun t3 h=>.ok t3 h) (.ok x0 h):=by kernel_rfl
end
end F20
namespace F21
noncomputable section
variable (P:Program) (cl:Cl) (nu mu:Nu) (x0 x1 x4 x6 x8 x36 x37 x38 x39:Value) (h:H)
noncomputable def s:=sub (bodyOf Tryz.f21)
noncomputable def k0:Ko:=kfn P Tryz.f21.results.toList
def j6:=mu 12 (evT P cl an21 nu (s [1,1,1]) (k0 P)) [(1,x1),(4,x4),(6,x6)] h
def k3:Ko:=kC P cl nu an21 (s [1,1,1,1,1,1]) (k0 P)
def k4:Ko:=kblk 1 (k3 P cl nu)
def l9:=mu 19 (lC P cl nu an21 [4,8,36,37,38] (s [1,1,1,1,1,0,1,0,0]) (k4 P cl nu)) [(4,x4),(8,x8),(36,x36),(37,x37),(38,x38)] h
def k5:Ko:=kL P cl nu an21 19 [4,8,36,37,38] (s [1,1,1,1,1,0,1,0,0]) (k4 P cl nu)
def j10:=mu 20 (evT P cl an21 nu (s [1,1,1,1,1,0,1,0,0,1]) (k5 P cl nu)) [(4,x4),(8,x8),(36,x36),(37,x37),(38,x38),(39,x39)] h
def j10_1:=mu 20 (evT P cl an21 nu (s [1,1,1,1,1,0,1,0,0,1,1]) (k5 P cl nu)) [(4,x4),(8,x8),(36,x36),(37,x37),(38,x38),(39,x39)] h
def j13:=mu 26 (evT P cl an21 nu (s [1,1,1,1,1,1]) (k0 P)) [(4,x4),(8,x8)] h
theorem j6_eq:j6 P cl nu nu0 x1 x4 x6 h=(cl (.f 59) [] h).go .pan fun t18 h=>(xconvert P 9 71 x6 h).go .pan fun t19 h=>(cl (.f 61) [t19] h).go .pan fun t20 h=>(cl (.f 60) [t18,t20] h).go .pan fun t21 h=>(xbuiltin P .len [26] [x1] h).go .pan fun t22 h=>(l9 P cl nu nu x4 t18 x1 t22 (.int .i64 0) h):=by kernel_rfl
theorem l9n:evT P cl an21 nu (s [1,1,1,1,1,0,1,0,0]) (kL P cl nu an21 19 [4,8,36,37,38] (s [1,1,1,1,1,0,1,0,0]) (k4 P cl nu)) [(4,x4),(8,x8),(36,x36),(37,x37),(38,x38)] h=(xbin P .lss 3 x38 x37 h).go .pan fun t23 h=>(j10 P cl nu nu x4 x8 x36 x37 x38 t23 h):=by kernel_rfl
def l9_eq:=@id (l9 P cl nu0 nu0 x4 x8 x36 x37 x38 h=_) (lpN (l9n P cl nu0 x4 x8 x36 x37 x38 h))
theorem j10_eq:j10 P cl nu nu0 x4 x8 x36 x37 x38 x39 h=ifV x39 (j10_1 P cl nu nu x4 x8 x36 x37 x38 x39 h) (j13 P cl nu nu x4 x8 h):=by kernel_rfl
theorem j10_1_eq:j10_1 P cl nu nu0 x4 x8 x36 x37 x38 x39 h=(xindexAddr P 26 x36 x38 h).go .pan fun t24 h=>(xload P 32 t24 h).go .pan fun t25 h=>(xalloc P 32 h).go .pan fun t26 h=>(xstore P 32 t26 t25 h).go .pan fun t27 h=>(xslice P 32 t26 none none none h).go .pan fun t28 h=>(cl (.f 61) [t28] h).go .pan fun t29 h=>(cl (.f 60) [x8,t29] h).go .pan fun t30 h=>(xbin P .add 3 x38 (.int .i64 1) h).go .pan fun t31 h=>(l9 P cl nu nu x4 x8 x36 x37 t31 h):=by kernel_rfl
theorem j13_eq:j13 P cl nu nu0 x4 x8 h=(cl (.f 62) [x8] h).go .pan fun t32 h=>(xstore P 32 x4 t32 h).go .pan fun t33 h=>kfn P Tryz.f21.results.toList .normal [(4,x4),(5,(.int .i64 0))] h:=by kernel_rfl
theorem eq:runX P cl nu an21 Tryz.f21 [x0,x1] h=(xbox 25 x0 h).go .pan fun t1 h=>(xalloc P 32 h).go .pan fun t2 h=>(xload P 25 t1 h).go .pan fun t3 h=>(xbuildSlice P 53 1 [(0,t3)] h).go .pan fun t4 h=>(cl (.f 41) [t4] h).go .pan fun t5 h=>(xextract t5 0 h).go .pan fun t6 h=>(xextract t5 1 h).go .pan fun t7 h=>(xbin P .neq 33 t7 (.int .i64 0) h).go .pan fun t8 h=>ifV t8 ((xbuild P 32 [] h).go .pan fun t9 h=>(xstore P 32 t2 t9 h).go .pan fun t10 h=>kfn P Tryz.f21.results.toList .normal [(4,t2),(5,t7)] h) ((xbuiltin P .len [26] [x1] h).go .pan fun t11 h=>(xfieldAddr P 25 t1 2 h).go .pan fun t12 h=>(xload P 22 t12 h).go .pan fun t13 h=>(xbuiltin P .len [22] [t13] h).go .pan fun t14 h=>(xbin P .neq 3 t11 t14 h).go .pan fun t15 h=>ifV t15 ((xbuild P 32 [] h).go .pan fun t16 h=>(xstore P 32 t2 t16 h).go .pan fun t17 h=>kfn P Tryz.f21.results.toList .normal [(4,t2),(5,(.int .i64 150))] h) (j6 P cl nu nu x1 t2 t6 h)):=by kernel_rfl
end
end F21
namespace F22
noncomputable section
variable (P:Program) (cl:Cl) (nu mu:Nu) (x0 x1 x2 x3 x5:Value) (h:H)
noncomputable def s:=sub (bodyOf Tryz.f22)
noncomputable def k0:Ko:=kfn P Tryz.f22.results.toList
def j3:=mu 6 (evT P cl an22 nu (s [1,1]) (k0 P)) [(2,x2),(3,x3)] h
def k2:Ko:=kC P cl nu an22 (s [1,1,1]) (k0 P)
def k3:Ko:=kblk 0 (k2 P cl nu)
def l4:=mu 9 (lC P cl nu an22 [2,3,5] (s [1,1,0,1,0,0]) (k3 P cl nu)) [(2,x2),(3,x3),(5,x5)] h
def k4:Ko:=kL P cl nu an22 9 [2,3,5] (s [1,1,0,1,0,0]) (k3 P cl nu)
def j6:=mu 12 (evT P cl an22 nu (s [1,1,0,1,0,0,1]) (k4 P cl nu)) [(2,x2),(3,x3),(5,x5)] h
def j8:=mu 16 (evT P cl an22 nu (s [1,1,1]) (k0 P)) [] h
theorem j3_eq:j3 P cl nu nu0 x2 x3 h=l4 P cl nu nu x2 x3 (.int .i64 0) h:=by kernel_rfl
theorem l4n:evT P cl an22 nu (s [1,1,0,1,0,0]) (kL P cl nu an22 9 [2,3,5] (s [1,1,0,1,0,0]) (k3 P cl nu)) [(2,x2),(3,x3),(5,x5)] h=(xfieldAddr P 25 x2 3 h).go .pan fun t26 h=>(xload P 23 t26 h).go .pan fun t27 h=>(xbuiltin P .len [23] [t27] h).go .pan fun t28 h=>(xbin P .lss 3 x5 t28 h).go .pan fun t29 h=>ifV t29 (j6 P cl nu nu x2 x3 x5 h) (j8 P cl nu nu h):=by kernel_rfl
def l4_eq:=@id (l4 P cl nu0 nu0 x2 x3 x5 h=_) (lpN (l4n P cl nu0 x2 x3 x5 h))
theorem j6_eq:j6 P cl nu nu0 x2 x3 x5 h=(xfieldAddr P 25 x2 3 h).ok1 fun t30 h=>(xload P 23 t30 h).ok1 fun t31 h=>(xindexAddr P 23 t31 x5 h).ok1 fun t32 h=>(xfieldAddr P 48 t32 0 h).ok1 fun t33 h=>(xload P 9 t33 h).ok1 fun t34 h=>(xfieldAddr P 25 x3 3 h).ok1 fun t35 h=>(xload P 23 t35 h).ok1 fun t36 h=>(xindexAddr P 23 t36 x5 h).ok1 fun t37 h=>(xfieldAddr P 48 t37 0 h).ok1 fun t38 h=>(xload P 9 t38 h).ok1 fun t39 h=>bif plain2 t34 t39 then ((xbin P .neq 9 t34 t39 h).ok1 fun t40 h=>ifV t40 (.ok (.bool false) h) ((xfieldAddr P 25 x2 3 h).ok1 fun t41 h=>(xload P 23 t41 h).ok1 fun t42 h=>(xindexAddr P 23 t42 x5 h).ok1 fun t43 h=>(xfieldAddr P 48 t43 1 h).ok1 fun t44 h=>(xload P 46 t44 h).ok1 fun t45 h=>(xfieldAddr P 25 x3 3 h).ok1 fun t46 h=>(xload P 23 t46 h).ok1 fun t47 h=>(xindexAddr P 23 t47 x5 h).ok1 fun t48 h=>(xfieldAddr P 48 t48 1 h).ok1 fun t49 h=>(xload P 46 t49 h).ok1 fun t50 h=>(cl (.f 64) [t45,t50] h).go .pan fun t51 h=>(xun P .not t51 h).ok1 fun t52 h=>ifV t52 (.ok (.bool false) h) ((xbin P .add 3 x5 (.int .i64 1) h).go .pan fun t53 h=>(l4 P cl nu nu x2 x3 t53 h)))) else .bad:=by kernel_rfl
theorem j8_eq:j8 P cl nu nu0 h = .ok (.bool true) h:=by kernel_rfl
theorem eq:runX P cl nu an22 Tryz.f22 [x0,x1] h=(xbox 25 x0 h).go .pan fun t1 h=>(xbox 25 x1 h).go .pan fun t2 h=>(xfieldAddr P 25 t1 0 h).go .pan fun t3 h=>(xload P 9 t3 h).go .pan fun t4 h=>(xfieldAddr P 25 t2 0 h).go .pan fun t5 h=>(xload P 9 t5 h).go .pan fun t6 h=>(xbin P .neq 9 t4 t6 h).go .pan fun t7 h=>ifV t7 (.ok (.bool false) h) ((xfieldAddr P 25 t1 1 h).go .pan fun t8 h=>(xload P 3 t8 h).go .pan fun t9 h=>(xfieldAddr P 25 t2 1 h).go .pan fun t10 h=>(xload P 3 t10 h).go .pan fun t11 h=>(xbin P .neq 3 t9 t11 h).go .pan fun t12 h=>ifV t12 (.ok (.bool false) h) ((xfieldAddr P 25 t1 2 h).go .pan fun t13 h=>(xload P 22 t13 h).go .pan fun t14 h=>(xfieldAddr P 25 t2 2 h).go .pan fun t15 h=>(xload P 22 t15 h).go .pan fun t16 h=>(cl (.f 63) [t14,t16] h).go .pan fun t17 h=>(xun P .not t17 h).go .pan fun t18 h=>ifV t18 (.ok (.bool false) h) ((xfieldAddr P 25 t1 3 h).go .pan fun t19 h=>(xload P 23 t19 h).go .pan fun t20 h=>(xbuiltin P .len [23] [t20] h).go .pan fun t21 h=>(xfieldAddr P 25 t2 3 h).go .pan fun t22 h=>(xload P 23 t22 h).go .pan fun t23 h=>(xbuiltin P .len [23] [t23] h).go .pan fun t24 h=>(xbin P .neq 3 t21 t24 h).go .pan fun t25 h=>ifV t25 (.ok (.bool false) h) (j3 P cl nu nu t1 t2 h)))):=by kernel_rfl
end
end F22
namespace F23
noncomputable section
variable (P:Program) (cl:Cl) (nu mu:Nu) (x0 x1 x2 x3:Value) (h:H)
end
end F23
namespace F24
noncomputable section
variable (P:Program) (cl:Cl) (nu mu:Nu) (x0:Value) (h:H)
theorem eq:runX P cl nu an24 Tryz.f24 [x0] h=(xbuiltin P .append [26,26] [(.slice none 0 0),x0] h).go .pan fun t1 h=>(xbuild P 32 [(0,(.int .u8 201)),(1,(.int .u8 1))] h).go .pan fun t2 h=>(xbuild P 32 [(0,(.int .u8 202)),(1,(.int .u8 2))] h).go .pan fun t3 h=>(xbuildSlice P 26 2 [(0,t2),(1,t3)] h).go .pan fun t4 h=>(xbuiltin P .append [26,26] [t1,t4] h).go .pan fun t5 h=>(xbuiltin P .len [26] [x0] h).go .pan fun t6 h=>(xslice P 26 t5 none (some t6) none h).go .pan fun t7 h=>.ok t7 h:=by kernel_rfl
end
end F24
namespace F25
noncomputable section
variable (P:Program) (cl:Cl) (nu mu:Nu) (x0 x1 x2 x4 x5:Value) (h:H)
noncomputable def s:=sub (bodyOf Tryz.f25)
noncomputable def k0:Ko:=kfn P Tryz.f25.results.toList
def k1:Ko:=kC P cl nu an25 (s [1,1,1,1,1,1]) (k0 P)
def k2:Ko:=kblk 0 (k1 P cl nu)
def l6:=mu 13 (lC P cl nu an25 [1,2,4,5] (s [1,1,1,1,1,0,1,0,0]) (k2 P cl nu)) [(1,x1),(2,x2),(4,x4),(5,x5)] h
def k3:Ko:=kL P cl nu an25 13 [1,2,4,5] (s [1,1,1,1,1,0,1,0,0]) (k2 P cl nu)
def j8:=mu 16 (evT P cl an25 nu (s [1,1,1,1,1,0,1,0,0,1]) (k3 P cl nu)) [(1,x1),(2,x2),(4,x4),(5,x5)] h
def j9:=mu 18 (evT P cl an25 nu (s [1,1,1,1,1,1]) (k0 P)) [(1,x1),(2,x2),(4,x4)] h
theorem l6n:evT P cl an25 nu (s [1,1,1,1,1,0,1,0,0]) (kL P cl nu an25 13 [1,2,4,5] (s [1,1,1,1,1,0,1,0,0]) (k2 P cl nu)) [(1,x1),(2,x2),(4,x4),(5,x5)] h=(xfieldAddr P 25 x1 3 h).go .pan fun t13 h=>(xload P 23 t13 h).go .pan fun t14 h=>(xbuiltin P .len [23] [t14] h).go .pan fun t15 h=>(xbin P .lss 3 x5 t15 h).go .pan fun t16 h=>ifV t16 (j8 P cl nu nu x1 x2 x4 x5 h) (j9 P cl nu nu x1 x2 x4 h):=by kernel_rfl
def l6_eq:=@id (l6 P cl nu0 nu0 x1 x2 x4 x5 h=_) (lpN (l6n P cl nu0 x1 x2 x4 x5 h))
theorem j8_eq:j8 P cl nu nu0 x1 x2 x4 x5 h=(xfieldAddr P 25 x1 3 h).ok1 fun t17 h=>(xload P 23 t17 h).ok1 fun t18 h=>(xindexAddr P 23 t18 x5 h).ok1 fun t19 h=>(xfieldAddr P 48 t19 0 h).ok1 fun t20 h=>(xload P 9 t20 h).ok1 fun t21 h=>(xfieldAddr P 25 x1 3 h).ok1 fun t22 h=>(xload P 23 t22 h).ok1 fun t23 h=>(xindexAddr P 23 t23 x5 h).ok1 fun t24 h=>(xfieldAddr P 48 t24 1 h).ok1 fun t25 h=>(xload P 46 t25 h).ok1 fun t26 h=>(cl (.f 67) [t26] h).go .pan fun t27 h=>bif (rc (xload P 23 t17 h) (some t18)&&(rc (xload P 9 t20 h) (some t21)&&true)) then ((xbuild P 48 [(0,t21),(1,t27)] h).ok1 fun t28 h=>(xbuildSlice P 23 1 [(0,t28)] h).go .pan fun t29 h=>(xbuiltin P .append [23,23] [x4,t29] h).go .pan fun t30 h=>(xbin P .add 3 x5 (.int .i64 1) h).go .pan fun t31 h=>(l6 P cl nu nu x1 x2 t30 t31 h)) else .bad:=by kernel_rfl
theorem j9_eq:j9 P cl nu nu0 x1 x2 x4 h=(xbuild P 48 [(0,(.string ⟨#[47,47,51]⟩))] h).go .pan fun t32 h=>(xbuild P 48 [(0,(.string ⟨#[47,47,52]⟩))] h).go .pan fun t33 h=>(xbuildSlice P 23 2 [(0,t32),(1,t33)] h).go .pan fun t34 h=>(xbuiltin P .append [23,23] [x4,t34] h).go .pan fun t35 h=>(xbuiltin P .len [23] [t35] h).go .pan fun t36 h=>(xbin P .sub 3 t36 (.int .i64 2) h).go .pan fun t37 h=>(xslice P 23 t35 none (some t37) none h).go .pan fun t38 h=>(xfieldAddr P 25 x1 3 h).go .pan fun t39 h=>(xstore P 23 t39 t38 h).go .pan fun t40 h=>(xload P 25 x1 h).go .pan fun t41 h=>(xstore P 25 x2 t41 h).go .pan fun t42 h=>kfn P Tryz.f25.results.toList .normal [(2,x2)] h:=by kernel_rfl
theorem eq:runX P cl nu an25 Tryz.f25 [x0] h=(xbox 25 x0 h).go .pan fun t1 h=>(xalloc P 25 h).go .pan fun t2 h=>(xfieldAddr P 25 t1 2 h).go .pan fun t3 h=>(xload P 22 t3 h).go .pan fun t4 h=>(xbuiltin P .append [22,22] [(.slice none 0 0),t4] h).go .pan fun t5 h=>(xbuildSlice P 22 2 [(0,(.string ⟨#[47,47,49]⟩)),(1,(.string ⟨#[47,47,50]⟩))] h).go .pan fun t6 h=>(xbuiltin P .append [22,22] [t5,t6] h).go .pan fun t7 h=>(xbuiltin P .len [22] [t7] h).go .pan fun t8 h=>(xbin P .sub 3 t8 (.int .i64 2) h).go .pan fun t9 h=>(xslice P 22 t7 none (some t9) none h).go .pan fun t10 h=>(xfieldAddr P 25 t1 2 h).go .pan fun t11 h=>(xstore P 22 t11 t10 h).go .pan fun t12 h=>(l6 P cl nu nu t1 t2 (.slice none 0 0) (.int .i64 0) h):=by kernel_rfl
end
end F25
namespace F26
noncomputable section
variable (P:Program) (cl:Cl) (nu mu:Nu) (x0 x1 x2 x4 x6:Value) (h:H)
noncomputable def s:=sub (bodyOf Tryz.f26)
noncomputable def k0:Ko:=kfn P Tryz.f26.results.toList
def j4:=mu 8 (evT P cl an26 nu (s [1,1,1]) (k0 P)) [(1,x1),(2,x2),(4,x4),(6,x6)] h
def j6:=mu 12 (evT P cl an26 nu (s [1,1,1,1]) (k0 P)) [(1,x1),(4,x4),(6,x6)] h
theorem j4_eq:j4 P cl nu nu0 x1 x2 x4 x6 h=(xbuiltin P .len [26] [x1] h).go .pan fun t11 h=>(xfieldAddr P 25 x2 2 h).go .pan fun t12 h=>(xload P 22 t12 h).go .pan fun t13 h=>(xbuiltin P .len [22] [t13] h).go .pan fun t14 h=>(xbin P .neq 3 t11 t14 h).go .pan fun t15 h=>ifV t15 ((xbuild P 32 [] h).go .pan fun t16 h=>(xstore P 32 x4 t16 h).go .pan fun t17 h=>kfn P Tryz.f26.results.toList .normal [(4,x4),(5,(.int .i64 150))] h) (j6 P cl nu nu x1 x4 x6 h):=by kernel_rfl
theorem j6_eq:j6 P cl nu nu0 x1 x4 x6 h=(cl (.f 65) [x6,x1] h).go .pan fun t18 h=>(cl (.f 66) [t18] h).go .pan fun t19 h=>(xstore P 32 x4 t19 h).go .pan fun t20 h=>kfn P Tryz.f26.results.toList .normal [(4,x4),(5,(.int .i64 0))] h:=by kernel_rfl
theorem eq:runX P cl nu an26 Tryz.f26 [x0,x1] h=(xbox 25 x0 h).go .pan fun t1 h=>(xalloc P 32 h).go .pan fun t2 h=>(xload P 25 t1 h).go .pan fun t3 h=>(xbuildSlice P 53 1 [(0,t3)] h).go .pan fun t4 h=>(cl (.f 51) [t4] h).go .pan fun t5 h=>(xextract t5 0 h).go .pan fun t6 h=>(xextract t5 1 h).go .pan fun t7 h=>(xun P .not t7 h).go .pan fun t8 h=>ifV t8 ((xbuild P 32 [] h).go .pan fun t9 h=>(xstore P 32 t2 t9 h).go .pan fun t10 h=>kfn P Tryz.f26.results.toList .normal [(4,t2),(5,(.int .i64 127))] h) (j4 P cl nu nu x1 t1 t2 t6 h):=by kernel_rfl
end
end F26
namespace F27
noncomputable section
variable (P:Program) (cl:Cl) (nu mu:Nu) (x0 x1 x5:Value) (h:H)
noncomputable def s:=sub (bodyOf Tryz.f27)
noncomputable def k0:Ko:=kfn P Tryz.f27.results.toList
def j5:=mu 10 (evT P cl an27 nu (s [1,1,1,1]) (k0 P)) [(1,x1)] h
def k2:Ko:=kC P cl nu an27 (s [1,1,1,1,1]) (k0 P)
def k3:Ko:=kblk 0 (k2 P cl nu)
def l6:=mu 13 (lC P cl nu an27 [1,5] (s [1,1,1,1,0,1,0,0]) (k3 P cl nu)) [(1,x1),(5,x5)] h
def k4:Ko:=kL P cl nu an27 13 [1,5] (s [1,1,1,1,0,1,0,0]) (k3 P cl nu)
def j8:=mu 16 (evT P cl an27 nu (s [1,1,1,1,0,1,0,0,1]) (k4 P cl nu)) [(1,x1),(5,x5)] h
def j10:=mu 20 (evT P cl an27 nu (s [1,1,1,1,1]) (k0 P)) [] h
theorem j5_eq:j5 P cl nu nu0 x1 h=l6 P cl nu nu x1 (.int .i64 0) h:=by kernel_rfl
theorem l6n:evT P cl an27 nu (s [1,1,1,1,0,1,0,0]) (kL P cl nu an27 13 [1,5] (s [1,1,1,1,0,1,0,0]) (k3 P cl nu)) [(1,x1),(5,x5)] h=(xfieldAddr P 25 x1 3 h).go .pan fun t43 h=>(xload P 23 t43 h).go .pan fun t44 h=>(xbuiltin P .len [23] [t44] h).go .pan fun t45 h=>(xbin P .lss 3 x5 t45 h).go .pan fun t46 h=>ifV t46 (j8 P cl nu nu x1 x5 h) (j10 P cl nu nu h):=by kernel_rfl
def l6_eq:=@id (l6 P cl nu0 nu0 x1 x5 h=_) (lpN (l6n P cl nu0 x1 x5 h))
theorem j8_eq:j8 P cl nu nu0 x1 x5 h=(xfieldAddr P 25 x1 3 h).go .pan fun t47 h=>(xload P 23 t47 h).go .pan fun t48 h=>(xindexAddr P 23 t48 x5 h).go .pan fun t49 h=>(xfieldAddr P 48 t49 1 h).go .pan fun t50 h=>(xload P 46 t50 h).go .pan fun t51 h=>(cl (.f 68) [t51] h).go .pan fun t52 h=>(xun P .not t52 h).go .pan fun t53 h=>ifV t53 (.ok (.bool false) h) ((xbin P .add 3 x5 (.int .i64 1) h).go .pan fun t54 h=>(l6 P cl nu nu x1 t54 h)):=by kernel_rfl
theorem j10_eq:j10 P cl nu nu0 h = .ok (.bool true) h:=by kernel_rfl
theorem eq:runX P cl nu an27 Tryz.f27 [x0] h=(xbox 25 x0 h).go .pan fun t1 h=>(xfieldAddr P 25 t1 2 h).ok1 fun t2 h=>(xload P 22 t2 h).ok1 fun t3 h=>(xfieldAddr P 25 t1 2 h).ok1 fun t4 h=>(xload P 22 t4 h).ok1 fun t5 h=>bif (lenV t5).isSome then ((xbuiltin P .len [22] [t5] h).ok1 fun t6 h=>bif plain2 t6 (.int .i64 2) then ((xbin P .add 3 t6 (.int .i64 2) h).ok1 fun t7 h=>(xslice P 22 t3 none (some t7) none h).ok1 fun t8 h=>(xfieldAddr P 25 t1 2 h).ok1 fun t9 h=>(xload P 22 t9 h).ok1 fun t10 h=>bif (lenV t10).isSome then ((xbuiltin P .len [22] [t10] h).ok1 fun t11 h=>(xslice P 22 t8 (some t11) none none h).ok1 fun t12 h=>(xfieldAddr P 25 t1 3 h).ok1 fun t13 h=>(xload P 23 t13 h).ok1 fun t14 h=>(xfieldAddr P 25 t1 3 h).ok1 fun t15 h=>(xload P 23 t15 h).ok1 fun t16 h=>bif (lenV t16).isSome then ((xbuiltin P .len [23] [t16] h).ok1 fun t17 h=>bif plain2 t17 (.int .i64 2) then ((xbin P .add 3 t17 (.int .i64 2) h).ok1 fun t18 h=>(xslice P 23 t14 none (some t18) none h).ok1 fun t19 h=>(xfieldAddr P 25 t1 3 h).ok1 fun t20 h=>(xload P 23 t20 h).ok1 fun t21 h=>bif (lenV t21).isSome then ((xbuiltin P .len [23] [t21] h).ok1 fun t22 h=>(xslice P 23 t19 (some t22) none none h).ok1 fun t23 h=>(xindexAddr P 22 t12 (.int .i64 0) h).go .pan fun t24 h=>(xload P 9 t24 h).go .pan fun t25 h=>(xbin P .neq 9 t25 (.string ⟨#[47,47,49]⟩) h).go .pan fun t26 h=>ifV t26 (.ok (.bool false) h) ((xindexAddr P 22 t12 (.int .i64 1) h).go .pan fun t27 h=>(xload P 9 t27 h).go .pan fun t28 h=>(xbin P .neq 9 t28 (.string ⟨#[47,47,50]⟩) h).go .pan fun t29 h=>ifV t29 (.ok (.bool false) h) ((xindexAddr P 23 t23 (.int .i64 0) h).go .pan fun t30 h=>(xfieldAddr P 48 t30 0 h).go .pan fun t31 h=>(xload P 9 t31 h).go .pan fun t32 h=>(xbin P .neq 9 t32 (.string ⟨#[47,47,51]⟩) h).go .pan fun t33 h=>ifV t33 (.ok (.bool false) h) ((xindexAddr P 23 t23 (.int .i64 1) h).go .pan fun t34 h=>(xfieldAddr P 48 t34 0 h).go .pan fun t35 h=>(xload P 9 t35 h).go .pan fun t36 h=>(xbin P .neq 9 t36 (.string ⟨#[47,47,52]⟩) h).go .pan fun t37 h=>ifV t37 (.ok (.bool false) h) ((xindexAddr P 23 t23 (.int .i64 0) h).go .pan fun t38 h=>(xfieldAddr P 48 t38 1 h).go .pan fun t39 h=>(xfieldAddr P 46 t39 0 h).go .pan fun t40 h=>(xload P 3 t40 h).go .pan fun t41 h=>(xbin P .neq 3 t41 (.int .i64 0) h).go .pan fun t42 h=>ifV t42 (.ok (.bool false) h) (j5 P cl nu nu t1 h)))))) else .bad) else .bad) else .bad) else .bad) else .bad) else .bad:=by kernel_rfl
end
end F27
namespace F28
noncomputable section
variable (P:Program) (cl:Cl) (nu mu:Nu) (x0 x1 x6:Value) (h:H)
noncomputable def s:=sub (bodyOf Tryz.f28)
noncomputable def k0:Ko:=kfn P Tryz.f28.results.toList
def j4:=mu 8 (evT P cl an28 nu (s [1,1,1]) (k0 P)) [(0,x0),(1,x1)] h
def k2:Ko:=kC P cl nu an28 (s [1,1,1,1]) (k0 P)
def k3:Ko:=kblk 0 (k2 P cl nu)
def l5:=mu 11 (lC P cl nu an28 [0,1,6] (s [1,1,1,0,1,0,0]) (k3 P cl nu)) [(0,x0),(1,x1),(6,x6)] h
def k4:Ko:=kL P cl nu an28 11 [0,1,6] (s [1,1,1,0,1,0,0]) (k3 P cl nu)
def j7:=mu 14 (evT P cl an28 nu (s [1,1,1,0,1,0,0,1]) (k4 P cl nu)) [(0,x0),(1,x1),(6,x6)] h
def j9:=mu 18 (evT P cl an28 nu (s [1,1,1,1]) (k0 P)) [] h
theorem j4_eq:j4 P cl nu nu0 x0 x1 h=l5 P cl nu nu x0 x1 (.int .i64 0) h:=by kernel_rfl
theorem l5n:evT P cl an28 nu (s [1,1,1,0,1,0,0]) (kL P cl nu an28 11 [0,1,6] (s [1,1,1,0,1,0,0]) (k3 P cl nu)) [(0,x0),(1,x1),(6,x6)] h=(xbuiltin P .len [26] [x0] h).go .pan fun t17 h=>(xbin P .lss 3 x6 t17 h).go .pan fun t18 h=>ifV t18 (j7 P cl nu nu x0 x1 x6 h) (j9 P cl nu nu h):=by kernel_rfl
def l5_eq:=@id (l5 P cl nu0 nu0 x0 x1 x6 h=_) (lpN (l5n P cl nu0 x0 x1 x6 h))
theorem j7_eq:j7 P cl nu nu0 x0 x1 x6 h=(xindexAddr P 26 x0 x6 h).ok1 fun t19 h=>(xload P 32 t19 h).ok1 fun t20 h=>(xindexAddr P 26 x1 x6 h).ok1 fun t21 h=>(xload P 32 t21 h).ok1 fun t22 h=>bif plain2 t20 t22 then ((xbin P .neq 32 t20 t22 h).ok1 fun t23 h=>ifV t23 (.ok (.bool false) h) ((xbin P .add 3 x6 (.int .i64 1) h).go .pan fun t24 h=>(l5 P cl nu nu x0 x1 t24 h))) else .bad:=by kernel_rfl
theorem j9_eq:j9 P cl nu nu0 h = .ok (.bool true) h:=by kernel_rfl
theorem eq:runX P cl nu an28 Tryz.f28 [x0,x1] h=(xbuiltin P .len [26] [x0] h).go .pan fun t1 h=>(xbin P .add 3 t1 (.int .i64 2) h).go .pan fun t2 h=>(xslice P 26 x0 none (some t2) none h).go .pan fun t3 h=>(xbuiltin P .len [26] [x0] h).go .pan fun t4 h=>(xslice P 26 t3 (some t4) none none h).go .pan fun t5 h=>(xbuiltin P .len [26] [x0] h).go .pan fun t6 h=>(xbuiltin P .len [26] [x1] h).go .pan fun t7 h=>(xbin P .neq 3 t6 t7 h).go .pan fun t8 h=>ifV t8 (.ok (.bool false) h) ((xindexAddr P 26 t5 (.int .i64 0) h).go .pan fun t9 h=>(xload P 32 t9 h).go .pan fun t10 h=>(xbuild P 32 [(0,(.int .u8 201)),(1,(.int .u8 1))] h).go .pan fun t11 h=>(xbin P .neq 32 t10 t11 h).go .pan fun t12 h=>ifV t12 (.ok (.bool false) h) ((xindexAddr P 26 t5 (.int .i64 1) h).go .pan fun t13 h=>(xload P 32 t13 h).go .pan fun t14 h=>(xbuild P 32 [(0,(.int .u8 202)),(1,(.int .u8 2))] h).go .pan fun t15 h=>(xbin P .neq 32 t14 t15 h).go .pan fun t16 h=>ifV t16 (.ok (.bool false) h) (j4 P cl nu nu x0 x1 h))):=by kernel_rfl
end
end F28
namespace F57
noncomputable section
variable (P:Program) (cl:Cl) (nu mu:Nu) (h:H)
theorem eq:runX P cl nu an57 Tryz.f57 [] h=(xalloc P 25 h).go .pan fun t1 h=>(xbuildSlice P 22 1 [(0,(.string ⟨#[120]⟩))] h).go .pan fun t2 h=>(xbuild P 46 [(0,(.int .i64 2)),(1,(.string ⟨#[120]⟩))] h).go .pan fun t3 h=>(xbuild P 48 [(0,(.string ⟨#[111]⟩)),(1,t3)] h).go .pan fun t4 h=>(xbuildSlice P 23 1 [(0,t4)] h).go .pan fun t5 h=>(xbuild P 25 [(0,(.string ⟨#[97]⟩)),(1,(.int .i64 9)),(2,t2),(3,t5)] h).go .pan fun t6 h=>(xstore P 25 t1 t6 h).go .pan fun t7 h=>kfn P Tryz.f57.results.toList .normal [(0,t1)] h:=by kernel_rfl
end
end F57
namespace F58
noncomputable section
variable (P:Program) (cl:Cl) (nu mu:Nu) (x0 x1 x2 x5 x6 x13 x14 x15:Value) (h:H)
noncomputable def s:=sub (bodyOf Tryz.f58)
noncomputable def k0:Ko:=kfn P Tryz.f58.results.toList
def k1:Ko:=kC P cl nu an58 (s [1,1,1]) (k0 P)
def k2:Ko:=kblk 0 (k1 P cl nu)
def l3:=mu 7 (lC P cl nu an58 [1,2,5,6] (s [1,1,0,1,0,0]) (k2 P cl nu)) [(1,x1),(2,x2),(5,x5),(6,x6)] h
def k3:Ko:=kL P cl nu an58 7 [1,2,5,6] (s [1,1,0,1,0,0]) (k2 P cl nu)
def j5:=mu 10 (evT P cl an58 nu (s [1,1,0,1,0,0,1]) (k3 P cl nu)) [(1,x1),(2,x2),(5,x5),(6,x6),(13,x13),(14,x14),(15,x15)] h
def j6:=mu 12 (evT P cl an58 nu (s [1,1,1]) (k0 P)) [(5,x5)] h
theorem l3n:evT P cl an58 nu (s [1,1,0,1,0,0]) (kL P cl nu an58 7 [1,2,5,6] (s [1,1,0,1,0,0]) (k2 P cl nu)) [(1,x1),(2,x2),(5,x5),(6,x6)] h=(xfieldAddr P 46 x2 4 h).go .pan fun t2 h=>(xload P 44 t2 h).go .pan fun t3 h=>(xbuiltin P .len [44] [t3] h).go .pan fun t4 h=>(xbin P .lss 3 x6 t4 h).go .pan fun t5 h=>ifV t5 ((xbin P .lss 3 x5 x1 h).go .pan fun t6 h=>ifV t6 (j5 P cl nu nu x1 x2 x5 x6 x5 x1 t6 h) (j6 P cl nu nu x5 h)) (j6 P cl nu nu x5 h):=by kernel_rfl
def l3_eq:=@id (l3 P cl nu0 nu0 x1 x2 x5 x6 h=_) (lpN (l3n P cl nu0 x1 x2 x5 x6 h))
theorem j5_eq:j5 P cl nu nu0 x1 x2 x5 x6 x13 x14 x15 h=(xfieldAddr P 46 x2 4 h).go .pan fun t7 h=>(xload P 44 t7 h).go .pan fun t8 h=>(xindexAddr P 44 t8 x6 h).go .pan fun t9 h=>(xload P 46 t9 h).go .pan fun t10 h=>(xbin P .sub 3 x1 x5 h).go .pan fun t11 h=>(cl (.f 58) [t10,t11] h).go .pan fun t12 h=>(xbin P .add 3 x5 t12 h).go .pan fun t13 h=>(xbin P .add 3 x6 (.int .i64 1) h).go .pan fun t14 h=>(l3 P cl nu nu x1 x2 t13 t14 h):=by kernel_rfl
theorem j6_eq:j6 P cl nu nu0 x5 h = .ok x5 h:=by kernel_rfl
theorem eq:runX P cl nu an58 Tryz.f58 [x0,x1] h=(xbox 46 x0 h).go .pan fun t1 h=>(l3 P cl nu nu x1 t1 (.int .i64 1) (.int .i64 0) h):=by kernel_rfl
end
end F58
namespace F64
noncomputable section
variable (P:Program) (cl:Cl) (nu mu:Nu) (x0 x1 x2 x3 x5:Value) (h:H)
noncomputable def s:=sub (bodyOf Tryz.f64)
noncomputable def k0:Ko:=kfn P Tryz.f64.results.toList
def j3:=mu 6 (evT P cl an64 nu (s [1,1]) (k0 P)) [(2,x2),(3,x3)] h
def k2:Ko:=kC P cl nu an64 (s [1,1,1]) (k0 P)
def k3:Ko:=kblk 0 (k2 P cl nu)
def l4:=mu 9 (lC P cl nu an64 [2,3,5] (s [1,1,0,1,0,0]) (k3 P cl nu)) [(2,x2),(3,x3),(5,x5)] h
def k4:Ko:=kL P cl nu an64 9 [2,3,5] (s [1,1,0,1,0,0]) (k3 P cl nu)
def j6:=mu 12 (evT P cl an64 nu (s [1,1,0,1,0,0,1]) (k4 P cl nu)) [(2,x2),(3,x3),(5,x5)] h
def j8:=mu 16 (evT P cl an64 nu (s [1,1,1]) (k0 P)) [] h
theorem j3_eq:j3 P cl nu nu0 x2 x3 h=l4 P cl nu nu x2 x3 (.int .i64 0) h:=by kernel_rfl
theorem l4n:evT P cl an64 nu (s [1,1,0,1,0,0]) (kL P cl nu an64 9 [2,3,5] (s [1,1,0,1,0,0]) (k3 P cl nu)) [(2,x2),(3,x3),(5,x5)] h=(xfieldAddr P 46 x2 4 h).go .pan fun t30 h=>(xload P 44 t30 h).go .pan fun t31 h=>(xbuiltin P .len [44] [t31] h).go .pan fun t32 h=>(xbin P .lss 3 x5 t32 h).go .pan fun t33 h=>ifV t33 (j6 P cl nu nu x2 x3 x5 h) (j8 P cl nu nu h):=by kernel_rfl
def l4_eq:=@id (l4 P cl nu0 nu0 x2 x3 x5 h=_) (lpN (l4n P cl nu0 x2 x3 x5 h))
theorem j6_eq:j6 P cl nu nu0 x2 x3 x5 h=(xfieldAddr P 46 x2 4 h).ok1 fun t34 h=>(xload P 44 t34 h).ok1 fun t35 h=>(xindexAddr P 44 t35 x5 h).ok1 fun t36 h=>(xload P 46 t36 h).ok1 fun t37 h=>(xfieldAddr P 46 x3 4 h).ok1 fun t38 h=>(xload P 44 t38 h).ok1 fun t39 h=>(xindexAddr P 44 t39 x5 h).ok1 fun t40 h=>(xload P 46 t40 h).ok1 fun t41 h=>(cl (.f 64) [t37,t41] h).go .pan fun t42 h=>(xun P .not t42 h).ok1 fun t43 h=>ifV t43 (.ok (.bool false) h) ((xbin P .add 3 x5 (.int .i64 1) h).go .pan fun t44 h=>(l4 P cl nu nu x2 x3 t44 h)):=by kernel_rfl
theorem j8_eq:j8 P cl nu nu0 h = .ok (.bool true) h:=by kernel_rfl
theorem eq:runX P cl nu an64 Tryz.f64 [x0,x1] h=(xbox 46 x0 h).go .pan fun t1 h=>(xbox 46 x1 h).go .pan fun t2 h=>(xfieldAddr P 46 t1 0 h).go .pan fun t3 h=>(xload P 3 t3 h).go .pan fun t4 h=>(xfieldAddr P 46 t2 0 h).go .pan fun t5 h=>(xload P 3 t5 h).go .pan fun t6 h=>(xbin P .neq 3 t4 t6 h).go .pan fun t7 h=>ifV t7 (.ok (.bool false) h) ((xfieldAddr P 46 t1 1 h).go .pan fun t8 h=>(xload P 9 t8 h).go .pan fun t9 h=>(xfieldAddr P 46 t2 1 h).go .pan fun t10 h=>(xload P 9 t10 h).go .pan fun t11 h=>(xbin P .neq 9 t9 t11 h).go .pan fun t12 h=>ifV t12 (.ok (.bool false) h) ((xfieldAddr P 46 t1 2 h).go .pan fun t13 h=>(xload P 3 t13 h).go .pan fun t14 h=>(xfieldAddr P 46 t2 2 h).go .pan fun t15 h=>(xload P 3 t15 h).go .pan fun t16 h=>(xbin P .neq 3 t14 t16 h).go .pan fun t17 h=>ifV t17 (.ok (.bool false) h) ((xfieldAddr P 46 t1 3 h).go .pan fun t18 h=>(xload P 3 t18 h).go .pan fun t19 h=>(xfieldAddr P 46 t2 3 h).go .pan fun t20 h=>(xload P 3 t20 h).go .pan fun t21 h=>(xbin P .neq 3 t19 t21 h).go .pan fun t22 h=>ifV t22 (.ok (.bool false) h) ((xfieldAddr P 46 t1 4 h).go .pan fun t23 h=>(xload P 44 t23 h).go .pan fun t24 h=>(xbuiltin P .len [44] [t24] h).go .pan fun t25 h=>(xfieldAddr P 46 t2 4 h).go .pan fun t26 h=>(xload P 44 t26 h).go .pan fun t27 h=>(xbuiltin P .len [44] [t27] h).go .pan fun t28 h=>(xbin P .neq 3 t25 t28 h).go .pan fun t29 h=>ifV t29 (.ok (.bool false) h) (j3 P cl nu nu t1 t2 h))))):=by kernel_rfl
end
end F64
namespace F67
noncomputable section
variable (P:Program) (cl:Cl) (nu mu:Nu) (x0 x1 x2 x3 x4:Value) (h:H)
noncomputable def s:=sub (bodyOf Tryz.f67)
noncomputable def k0:Ko:=kfn P Tryz.f67.results.toList
def k1:Ko:=kC P cl nu an67 (s [1,1,1]) (k0 P)
def k2:Ko:=kblk 0 (k1 P cl nu)
def l3:=mu 7 (lC P cl nu an67 [1,2,3,4] (s [1,1,0,1,0,0]) (k2 P cl nu)) [(1,x1),(2,x2),(3,x3),(4,x4)] h
def k3:Ko:=kL P cl nu an67 7 [1,2,3,4] (s [1,1,0,1,0,0]) (k2 P cl nu)
def j5:=mu 10 (evT P cl an67 nu (s [1,1,0,1,0,0,1]) (k3 P cl nu)) [(1,x1),(2,x2),(3,x3),(4,x4)] h
def j6:=mu 12 (evT P cl an67 nu (s [1,1,1]) (k0 P)) [(1,x1),(2,x2),(3,x3)] h
theorem l3n:evT P cl an67 nu (s [1,1,0,1,0,0]) (kL P cl nu an67 7 [1,2,3,4] (s [1,1,0,1,0,0]) (k2 P cl nu)) [(1,x1),(2,x2),(3,x3),(4,x4)] h=(xfieldAddr P 46 x1 4 h).go .pan fun t3 h=>(xload P 44 t3 h).go .pan fun t4 h=>(xbuiltin P .len [44] [t4] h).go .pan fun t5 h=>(xbin P .lss 3 x4 t5 h).go .pan fun t6 h=>ifV t6 (j5 P cl nu nu x1 x2 x3 x4 h) (j6 P cl nu nu x1 x2 x3 h):=by kernel_rfl
def l3_eq:=@id (l3 P cl nu0 nu0 x1 x2 x3 x4 h=_) (lpN (l3n P cl nu0 x1 x2 x3 x4 h))
theorem j5_eq:j5 P cl nu nu0 x1 x2 x3 x4 h=(xfieldAddr P 46 x1 4 h).go .pan fun t7 h=>(xload P 44 t7 h).go .pan fun t8 h=>(xindexAddr P 44 t8 x4 h).go .pan fun t9 h=>(xload P 46 t9 h).go .pan fun t10 h=>(cl (.f 67) [t10] h).go .pan fun t11 h=>(xbuildSlice P 44 1 [(0,t11)] h).go .pan fun t12 h=>(xbuiltin P .append [44,44] [x3,t12] h).go .pan fun t13 h=>(xbin P .add 3 x4 (.int .i64 1) h).go .pan fun t14 h=>(l3 P cl nu nu x1 x2 t13 t14 h):=by kernel_rfl
theorem j6_eq:j6 P cl nu nu0 x1 x2 x3 h=(xbuild P 46 [(0,(.int .i64 (-71)))] h).go .pan fun t15 h=>(xbuild P 46 [(0,(.int .i64 (-72)))] h).go .pan fun t16 h=>(xbuildSlice P 44 2 [(0,t15),(1,t16)] h).go .pan fun t17 h=>(xbuiltin P .append [44,44] [x3,t17] h).go .pan fun t18 h=>(xfieldAddr P 46 x1 4 h).go .pan fun t19 h=>(xload P 44 t19 h).go .pan fun t20 h=>(xbuiltin P .len [44] [t20] h).go .pan fun t21 h=>(xslice P 44 t18 none (some t21) none h).go .pan fun t22 h=>(xfieldAddr P 46 x1 4 h).go .pan fun t23 h=>(xstore P 44 t23 t22 h).go .pan fun t24 h=>(xload P 46 x1 h).go .pan fun t25 h=>(xstore P 46 x2 t25 h).go .pan fun t26 h=>kfn P Tryz.f67.results.toList .normal [(2,x2)] h:=by kernel_rfl
theorem eq:runX P cl nu an67 Tryz.f67 [x0] h=(xbox 46 x0 h).go .pan fun t1 h=>(xalloc P 46 h).go .pan fun t2 h=>(l3 P cl nu nu t1 t2 (.slice none 0 0) (.int .i64 0) h):=by kernel_rfl
end
end F67
namespace F68
noncomputable section
variable (P:Program) (cl:Cl) (nu mu:Nu) (x0 x1 x3 x5:Value) (h:H)
noncomputable def s:=sub (bodyOf Tryz.f68)
noncomputable def k0:Ko:=kfn P Tryz.f68.results.toList
def j5:=mu 10 (evT P cl an68 nu (s [1,1,1,1]) (k0 P)) [(1,x1),(3,x3)] h
def k2:Ko:=kC P cl nu an68 (s [1,1,1,1,1]) (k0 P)
def k3:Ko:=kblk 0 (k2 P cl nu)
def l6:=mu 13 (lC P cl nu an68 [1,3,5] (s [1,1,1,1,0,1,0,0]) (k3 P cl nu)) [(1,x1),(3,x3),(5,x5)] h
def k4:Ko:=kL P cl nu an68 13 [1,3,5] (s [1,1,1,1,0,1,0,0]) (k3 P cl nu)
def j8:=mu 16 (evT P cl an68 nu (s [1,1,1,1,0,1,0,0,1]) (k4 P cl nu)) [(1,x1),(3,x3),(5,x5)] h
def j10:=mu 20 (evT P cl an68 nu (s [1,1,1,1,1]) (k0 P)) [] h
theorem j5_eq:j5 P cl nu nu0 x1 x3 h=l6 P cl nu nu x1 x3 (.int .i64 0) h:=by kernel_rfl
theorem l6n:evT P cl an68 nu (s [1,1,1,1,0,1,0,0]) (kL P cl nu an68 13 [1,3,5] (s [1,1,1,1,0,1,0,0]) (k3 P cl nu)) [(1,x1),(3,x3),(5,x5)] h=(xbin P .lss 3 x5 x3 h).go .pan fun t27 h=>ifV t27 (j8 P cl nu nu x1 x3 x5 h) (j10 P cl nu nu h):=by kernel_rfl
def l6_eq:=@id (l6 P cl nu0 nu0 x1 x3 x5 h=_) (lpN (l6n P cl nu0 x1 x3 x5 h))
theorem j8_eq:j8 P cl nu nu0 x1 x3 x5 h=(xfieldAddr P 46 x1 4 h).go .pan fun t28 h=>(xload P 44 t28 h).go .pan fun t29 h=>(xindexAddr P 44 t29 x5 h).go .pan fun t30 h=>(xload P 46 t30 h).go .pan fun t31 h=>(cl (.f 68) [t31] h).go .pan fun t32 h=>(xun P .not t32 h).go .pan fun t33 h=>ifV t33 (.ok (.bool false) h) ((xbin P .add 3 x5 (.int .i64 1) h).go .pan fun t34 h=>(l6 P cl nu nu x1 x3 t34 h)):=by kernel_rfl
theorem j10_eq:j10 P cl nu nu0 h = .ok (.bool true) h:=by kernel_rfl
theorem eq:runX P cl nu an68 Tryz.f68 [x0] h=(xbox 46 x0 h).go .pan fun t1 h=>(xfieldAddr P 46 t1 4 h).go .pan fun t2 h=>(xload P 44 t2 h).go .pan fun t3 h=>(xbuiltin P .len [44] [t3] h).go .pan fun t4 h=>(xfieldAddr P 46 t1 4 h).go .pan fun t5 h=>(xload P 44 t5 h).go .pan fun t6 h=>(xbin P .add 3 t4 (.int .i64 2) h).go .pan fun t7 h=>(xslice P 44 t6 none (some t7) none h).go .pan fun t8 h=>(xindexAddr P 44 t8 t4 h).go .pan fun t9 h=>(xfieldAddr P 46 t9 0 h).go .pan fun t10 h=>(xload P 3 t10 h).go .pan fun t11 h=>(xbin P .neq 3 t11 (.int .i64 (-71)) h).go .pan fun t12 h=>ifV t12 (.ok (.bool false) h) ((xbin P .add 3 t4 (.int .i64 1) h).go .pan fun t13 h=>(xindexAddr P 44 t8 t13 h).go .pan fun t14 h=>(xfieldAddr P 46 t14 0 h).go .pan fun t15 h=>(xload P 3 t15 h).go .pan fun t16 h=>(xbin P .neq 3 t16 (.int .i64 (-72)) h).go .pan fun t17 h=>ifV t17 (.ok (.bool false) h) ((xindexAddr P 44 t8 t4 h).go .pan fun t18 h=>(xfieldAddr P 46 t18 1 h).go .pan fun t19 h=>(xload P 9 t19 h).go .pan fun t20 h=>(xbin P .neq 9 t20 (.string ⟨#[]⟩) h).go .pan fun t21 h=>ifV t21 (.ok (.bool false) h) ((xindexAddr P 44 t8 t4 h).go .pan fun t22 h=>(xfieldAddr P 46 t22 4 h).go .pan fun t23 h=>(xload P 44 t23 h).go .pan fun t24 h=>(xbuiltin P .len [44] [t24] h).go .pan fun t25 h=>(xbin P .gtr 3 t25 (.int .i64 0) h).go .pan fun t26 h=>ifV t26 (.ok (.bool false) h) (j5 P cl nu nu t1 t4 h)))):=by kernel_rfl
end
end F68
end Go.Proofs.YtbfgadekkemlcaaGreatDoor.K
namespace Go.Proofs.YtbfgadekkemlcaaGreatDoor.K
open Go Go.Kx
def decF:Nat→Nat→List UInt8
 |0,_=>[]
 |f+1,n=>if n<10 then [UInt8.ofNat (48+n)] else decF f (n / 10)++[UInt8.ofNat (48+n % 10)]
def decL (n:Nat):List UInt8:=decF 20 n
noncomputable def primM:Pr:=fun f args h=>match f with
 |140=>(match args with|[.pointer (some a)]=>.ok (.pointer (some a)) h|_=>.bad)
 |171=>(match args with|[.int .i64 (.ofNat n)]=>bif Nat.ble n 17592186044416 then .ok (.slice (some ⟨h.next,0,none⟩) n 0) (h.alloc (.cells [] 5 0 true)) else .bad|_=>.bad)
 |199=>(match args with|[.string s,.int .u8 c]=>.ok (.int .i64 (Go.Lib.indexByte s.data.toList c.toNat.toUInt8)) h|_=>.bad)
 |203=>(match args with|[.string s,.int .u8 c]=>.ok (.int .i64 (Go.Lib.countByte s.data.toList c.toNat.toUInt8)) h|_=>.bad)
 |121=>(match args with|[.int .i64 (.ofNat n)]=>bif Nat.ble n 9223372036854775807 then .ok (.string ⟨⟨decL n⟩⟩) h else .bad|_=>.bad)
 |_=>.bad
end Go.Proofs.YtbfgadekkemlcaaGreatDoor.K
namespace Go.Proofs.YtbfgadekkemlcaaGreatDoor.K
open Go Go.Kx
theorem fa114_0 (b o:Nat) (h:H):xfieldAddr Tryz.prog 114 (.pointer (some ⟨b,o,none⟩)) 0 h = .ok (.pointer (some ⟨b,o,none⟩)) h:=Eq.trans (by kernel_rfl) rfl
theorem fa114_1 (b o:Nat) (h:H):xfieldAddr Tryz.prog 114 (.pointer (some ⟨b,o,none⟩)) 1 h = .ok (.pointer (some ⟨b,o+1,none⟩)) h:=Eq.trans (by kernel_rfl) rfl
theorem fa151_0 (b o:Nat) (h:H):xfieldAddr Tryz.prog 151 (.pointer (some ⟨b,o,none⟩)) 0 h = .ok (.pointer (some ⟨b,o,none⟩)) h:=Eq.trans (by kernel_rfl) rfl
theorem fa151_1 (b o:Nat) (h:H):xfieldAddr Tryz.prog 151 (.pointer (some ⟨b,o,none⟩)) 1 h = .ok (.pointer (some ⟨b,o+8,none⟩)) h:=Eq.trans (by kernel_rfl) rfl
theorem fa151_2 (b o:Nat) (h:H):xfieldAddr Tryz.prog 151 (.pointer (some ⟨b,o,none⟩)) 2 h = .ok (.pointer (some ⟨b,o+72,none⟩)) h:=Eq.trans (by kernel_rfl) rfl
theorem fa25_0 (b o:Nat) (h:H):xfieldAddr Tryz.prog 25 (.pointer (some ⟨b,o,none⟩)) 0 h = .ok (.pointer (some ⟨b,o,none⟩)) h:=Eq.trans (by kernel_rfl) rfl
theorem fa25_1 (b o:Nat) (h:H):xfieldAddr Tryz.prog 25 (.pointer (some ⟨b,o,none⟩)) 1 h = .ok (.pointer (some ⟨b,o+1,none⟩)) h:=Eq.trans (by kernel_rfl) rfl
theorem fa25_2 (b o:Nat) (h:H):xfieldAddr Tryz.prog 25 (.pointer (some ⟨b,o,none⟩)) 2 h = .ok (.pointer (some ⟨b,o+2,none⟩)) h:=Eq.trans (by kernel_rfl) rfl
theorem fa25_3 (b o:Nat) (h:H):xfieldAddr Tryz.prog 25 (.pointer (some ⟨b,o,none⟩)) 3 h = .ok (.pointer (some ⟨b,o+3,none⟩)) h:=Eq.trans (by kernel_rfl) rfl
theorem fa46_0 (b o:Nat) (h:H):xfieldAddr Tryz.prog 46 (.pointer (some ⟨b,o,none⟩)) 0 h = .ok (.pointer (some ⟨b,o,none⟩)) h:=Eq.trans (by kernel_rfl) rfl
theorem fa46_1 (b o:Nat) (h:H):xfieldAddr Tryz.prog 46 (.pointer (some ⟨b,o,none⟩)) 1 h = .ok (.pointer (some ⟨b,o+1,none⟩)) h:=Eq.trans (by kernel_rfl) rfl
theorem fa46_2 (b o:Nat) (h:H):xfieldAddr Tryz.prog 46 (.pointer (some ⟨b,o,none⟩)) 2 h = .ok (.pointer (some ⟨b,o+2,none⟩)) h:=Eq.trans (by kernel_rfl) rfl
theorem fa46_3 (b o:Nat) (h:H):xfieldAddr Tryz.prog 46 (.pointer (some ⟨b,o,none⟩)) 3 h = .ok (.pointer (some ⟨b,o+3,none⟩)) h:=Eq.trans (by kernel_rfl) rfl
theorem fa46_4 (b o:Nat) (h:H):xfieldAddr Tryz.prog 46 (.pointer (some ⟨b,o,none⟩)) 4 h = .ok (.pointer (some ⟨b,o+4,none⟩)) h:=Eq.trans (by kernel_rfl) rfl
theorem fa48_0 (b o:Nat) (h:H):xfieldAddr Tryz.prog 48 (.pointer (some ⟨b,o,none⟩)) 0 h = .ok (.pointer (some ⟨b,o,none⟩)) h:=Eq.trans (by kernel_rfl) rfl
theorem fa48_1 (b o:Nat) (h:H):xfieldAddr Tryz.prog 48 (.pointer (some ⟨b,o,none⟩)) 1 h = .ok (.pointer (some ⟨b,o+1,none⟩)) h:=Eq.trans (by kernel_rfl) rfl
theorem ld112 (a:Addr) (h:H):xload Tryz.prog 112 (.pointer (some a)) h=ofO (h.cell a) h:=Eq.trans (by kernel_rfl) rfl
theorem ld145 (a:Addr) (h:H):xload Tryz.prog 145 (.pointer (some a)) h=ofO (h.cell a) h:=Eq.trans (by kernel_rfl) rfl
theorem ld146 (a:Addr) (h:H):xload Tryz.prog 146 (.pointer (some a)) h=ofA (h.row a 8) h:=by
 show (match h.row a (Tryz.prog.cellsOf 146) with|some l=>(Res.ok (Value.agg ⟨l⟩) h:Res Value)|none=>.bad)=_
 rw[show Tryz.prog.cellsOf 146=8 by kernel_rfl]; rfl
theorem ld147 (a:Addr) (h:H):xload Tryz.prog 147 (.pointer (some a)) h=ofA (h.row a 8) h:=by
 show (match h.row a (Tryz.prog.cellsOf 147) with|some l=>(Res.ok (Value.agg ⟨l⟩) h:Res Value)|none=>.bad)=_
 rw[show Tryz.prog.cellsOf 147=8 by kernel_rfl]; rfl
theorem ld151 (a:Addr) (h:H):xload Tryz.prog 151 (.pointer (some a)) h=ofA (h.row a 73) h:=by
 show (match h.row a (Tryz.prog.cellsOf 151) with|some l=>(Res.ok (Value.agg ⟨l⟩) h:Res Value)|none=>.bad)=_
 rw[show Tryz.prog.cellsOf 151=73 by kernel_rfl]; rfl
theorem ld154 (a:Addr) (h:H):xload Tryz.prog 154 (.pointer (some a)) h=ofO (h.cell a) h:=Eq.trans (by kernel_rfl) rfl
theorem ld156 (a:Addr) (h:H):xload Tryz.prog 156 (.pointer (some a)) h=ofA (h.row a 64) h:=by
 show (match h.row a (Tryz.prog.cellsOf 156) with|some l=>(Res.ok (Value.agg ⟨l⟩) h:Res Value)|none=>.bad)=_
 rw[show Tryz.prog.cellsOf 156=64 by kernel_rfl]; rfl
theorem ld22 (a:Addr) (h:H):xload Tryz.prog 22 (.pointer (some a)) h=ofO (h.cell a) h:=Eq.trans (by kernel_rfl) rfl
theorem ld23 (a:Addr) (h:H):xload Tryz.prog 23 (.pointer (some a)) h=ofO (h.cell a) h:=Eq.trans (by kernel_rfl) rfl
theorem ld25 (a:Addr) (h:H):xload Tryz.prog 25 (.pointer (some a)) h=ofA (h.row a 4) h:=by
 show (match h.row a (Tryz.prog.cellsOf 25) with|some l=>(Res.ok (Value.agg ⟨l⟩) h:Res Value)|none=>.bad)=_
 rw[show Tryz.prog.cellsOf 25=4 by kernel_rfl]; rfl
theorem ld3 (a:Addr) (h:H):xload Tryz.prog 3 (.pointer (some a)) h=ofO (h.cell a) h:=Eq.trans (by kernel_rfl) rfl
theorem ld32 (a:Addr) (h:H):xload Tryz.prog 32 (.pointer (some a)) h=ofA (h.row a 32) h:=by
 show (match h.row a (Tryz.prog.cellsOf 32) with|some l=>(Res.ok (Value.agg ⟨l⟩) h:Res Value)|none=>.bad)=_
 rw[show Tryz.prog.cellsOf 32=32 by kernel_rfl]; rfl
theorem ld43 (a:Addr) (h:H):xload Tryz.prog 43 (.pointer (some a)) h=ofA (h.row a 3) h:=by
 show (match h.row a (Tryz.prog.cellsOf 43) with|some l=>(Res.ok (Value.agg ⟨l⟩) h:Res Value)|none=>.bad)=_
 rw[show Tryz.prog.cellsOf 43=3 by kernel_rfl]; rfl
theorem ld44 (a:Addr) (h:H):xload Tryz.prog 44 (.pointer (some a)) h=ofO (h.cell a) h:=Eq.trans (by kernel_rfl) rfl
theorem ld46 (a:Addr) (h:H):xload Tryz.prog 46 (.pointer (some a)) h=ofA (h.row a 5) h:=by
 show (match h.row a (Tryz.prog.cellsOf 46) with|some l=>(Res.ok (Value.agg ⟨l⟩) h:Res Value)|none=>.bad)=_
 rw[show Tryz.prog.cellsOf 46=5 by kernel_rfl]; rfl
theorem ld48 (a:Addr) (h:H):xload Tryz.prog 48 (.pointer (some a)) h=ofA (h.row a 6) h:=by
 show (match h.row a (Tryz.prog.cellsOf 48) with|some l=>(Res.ok (Value.agg ⟨l⟩) h:Res Value)|none=>.bad)=_
 rw[show Tryz.prog.cellsOf 48=6 by kernel_rfl]; rfl
theorem ld5 (a:Addr) (h:H):xload Tryz.prog 5 (.pointer (some a)) h=ofO (h.cell a) h:=Eq.trans (by kernel_rfl) rfl
theorem ld71 (a:Addr) (h:H):xload Tryz.prog 71 (.pointer (some a)) h=ofO (h.cell a) h:=Eq.trans (by kernel_rfl) rfl
theorem ld9 (a:Addr) (h:H):xload Tryz.prog 9 (.pointer (some a)) h=ofO (h.cell a) h:=Eq.trans (by kernel_rfl) rfl
theorem st112 (a:Addr) (v:Value) (h:H) (hv:v.cells.size=1):xstore Tryz.prog 112 (.pointer (some a)) v h=ofU (h.write a v.cells.toList):=by
 unfold xstore
 simp only[show szOk Tryz.prog 112=true by kernel_rfl,show Tryz.prog.cellsOf 112=1 by kernel_rfl,hv]; rfl
theorem st145 (a:Addr) (v:Value) (h:H) (hv:v.cells.size=1):xstore Tryz.prog 145 (.pointer (some a)) v h=ofU (h.write a v.cells.toList):=by
 unfold xstore
 simp only[show szOk Tryz.prog 145=true by kernel_rfl,show Tryz.prog.cellsOf 145=1 by kernel_rfl,hv]; rfl
theorem st146 (a:Addr) (v:Value) (h:H) (hv:v.cells.size=8):xstore Tryz.prog 146 (.pointer (some a)) v h=ofU (h.write a v.cells.toList):=by
 unfold xstore
 simp only[show szOk Tryz.prog 146=true by kernel_rfl,show Tryz.prog.cellsOf 146=8 by kernel_rfl,hv]; rfl
theorem st147 (a:Addr) (v:Value) (h:H) (hv:v.cells.size=8):xstore Tryz.prog 147 (.pointer (some a)) v h=ofU (h.write a v.cells.toList):=by
 unfold xstore
 simp only[show szOk Tryz.prog 147=true by kernel_rfl,show Tryz.prog.cellsOf 147=8 by kernel_rfl,hv]; rfl
theorem st151 (a:Addr) (v:Value) (h:H) (hv:v.cells.size=73):xstore Tryz.prog 151 (.pointer (some a)) v h=ofU (h.write a v.cells.toList):=by
 unfold xstore
 simp only[show szOk Tryz.prog 151=true by kernel_rfl,show Tryz.prog.cellsOf 151=73 by kernel_rfl,hv]; rfl
theorem st156 (a:Addr) (v:Value) (h:H) (hv:v.cells.size=64):xstore Tryz.prog 156 (.pointer (some a)) v h=ofU (h.write a v.cells.toList):=by
 unfold xstore
 simp only[show szOk Tryz.prog 156=true by kernel_rfl,show Tryz.prog.cellsOf 156=64 by kernel_rfl,hv]; rfl
theorem st210 (a:Addr) (v:Value) (h:H) (hv:v.cells.size=16):xstore Tryz.prog 210 (.pointer (some a)) v h=ofU (h.write a v.cells.toList):=by
 unfold xstore
 simp only[show szOk Tryz.prog 210=true by kernel_rfl,show Tryz.prog.cellsOf 210=16 by kernel_rfl,hv]; rfl
theorem st22 (a:Addr) (v:Value) (h:H) (hv:v.cells.size=1):xstore Tryz.prog 22 (.pointer (some a)) v h=ofU (h.write a v.cells.toList):=by
 unfold xstore
 simp only[show szOk Tryz.prog 22=true by kernel_rfl,show Tryz.prog.cellsOf 22=1 by kernel_rfl,hv]; rfl
theorem st23 (a:Addr) (v:Value) (h:H) (hv:v.cells.size=1):xstore Tryz.prog 23 (.pointer (some a)) v h=ofU (h.write a v.cells.toList):=by
 unfold xstore
 simp only[show szOk Tryz.prog 23=true by kernel_rfl,show Tryz.prog.cellsOf 23=1 by kernel_rfl,hv]; rfl
theorem st25 (a:Addr) (v:Value) (h:H) (hv:v.cells.size=4):xstore Tryz.prog 25 (.pointer (some a)) v h=ofU (h.write a v.cells.toList):=by
 unfold xstore
 simp only[show szOk Tryz.prog 25=true by kernel_rfl,show Tryz.prog.cellsOf 25=4 by kernel_rfl,hv]; rfl
theorem st3 (a:Addr) (v:Value) (h:H) (hv:v.cells.size=1):xstore Tryz.prog 3 (.pointer (some a)) v h=ofU (h.write a v.cells.toList):=by
 unfold xstore
 simp only[show szOk Tryz.prog 3=true by kernel_rfl,show Tryz.prog.cellsOf 3=1 by kernel_rfl,hv]; rfl
theorem st32 (a:Addr) (v:Value) (h:H) (hv:v.cells.size=32):xstore Tryz.prog 32 (.pointer (some a)) v h=ofU (h.write a v.cells.toList):=by
 unfold xstore
 simp only[show szOk Tryz.prog 32=true by kernel_rfl,show Tryz.prog.cellsOf 32=32 by kernel_rfl,hv]; rfl
theorem st43 (a:Addr) (v:Value) (h:H) (hv:v.cells.size=3):xstore Tryz.prog 43 (.pointer (some a)) v h=ofU (h.write a v.cells.toList):=by
 unfold xstore
 simp only[show szOk Tryz.prog 43=true by kernel_rfl,show Tryz.prog.cellsOf 43=3 by kernel_rfl,hv]; rfl
theorem st44 (a:Addr) (v:Value) (h:H) (hv:v.cells.size=1):xstore Tryz.prog 44 (.pointer (some a)) v h=ofU (h.write a v.cells.toList):=by
 unfold xstore
 simp only[show szOk Tryz.prog 44=true by kernel_rfl,show Tryz.prog.cellsOf 44=1 by kernel_rfl,hv]; rfl
theorem st46 (a:Addr) (v:Value) (h:H) (hv:v.cells.size=5):xstore Tryz.prog 46 (.pointer (some a)) v h=ofU (h.write a v.cells.toList):=by
 unfold xstore
 simp only[show szOk Tryz.prog 46=true by kernel_rfl,show Tryz.prog.cellsOf 46=5 by kernel_rfl,hv]; rfl
theorem st48 (a:Addr) (v:Value) (h:H) (hv:v.cells.size=6):xstore Tryz.prog 48 (.pointer (some a)) v h=ofU (h.write a v.cells.toList):=by
 unfold xstore
 simp only[show szOk Tryz.prog 48=true by kernel_rfl,show Tryz.prog.cellsOf 48=6 by kernel_rfl,hv]; rfl
theorem st5 (a:Addr) (v:Value) (h:H) (hv:v.cells.size=1):xstore Tryz.prog 5 (.pointer (some a)) v h=ofU (h.write a v.cells.toList):=by
 unfold xstore
 simp only[show szOk Tryz.prog 5=true by kernel_rfl,show Tryz.prog.cellsOf 5=1 by kernel_rfl,hv]; rfl
theorem st71 (a:Addr) (v:Value) (h:H) (hv:v.cells.size=1):xstore Tryz.prog 71 (.pointer (some a)) v h=ofU (h.write a v.cells.toList):=by
 unfold xstore
 simp only[show szOk Tryz.prog 71=true by kernel_rfl,show Tryz.prog.cellsOf 71=1 by kernel_rfl,hv]; rfl
theorem st9 (a:Addr) (v:Value) (h:H) (hv:v.cells.size=1):xstore Tryz.prog 9 (.pointer (some a)) v h=ofU (h.write a v.cells.toList):=by
 unfold xstore
 simp only[show szOk Tryz.prog 9=true by kernel_rfl,show Tryz.prog.cellsOf 9=1 by kernel_rfl,hv]; rfl
theorem ia146 (b o n:Nat) (k:IntKind) (h:H) (hn:n<8):xindexAddr Tryz.prog 146 (.pointer (some ⟨b,o,none⟩)) (.int k (n:Int)) h = .ok (.pointer (some ⟨b,o+n*1,none⟩)) h:=by
 show (bif Nat.blt n 8&&szOk Tryz.prog 145&&true then Res.ok (Value.pointer (some ⟨b,o+n*Tryz.prog.cellsOf 145,none⟩)) h else .bad)=_
 rw[show szOk Tryz.prog 145=true by kernel_rfl,show Tryz.prog.cellsOf 145=1 by kernel_rfl,bltT hn]; rfl
theorem ia147 (b o n:Nat) (k:IntKind) (h:H) (hn:n<8):xindexAddr Tryz.prog 147 (.pointer (some ⟨b,o,none⟩)) (.int k (n:Int)) h = .ok (.pointer (some ⟨b,o+n*1,none⟩)) h:=by
 show (bif Nat.blt n 8&&szOk Tryz.prog 145&&true then Res.ok (Value.pointer (some ⟨b,o+n*Tryz.prog.cellsOf 145,none⟩)) h else .bad)=_
 rw[show szOk Tryz.prog 145=true by kernel_rfl,show Tryz.prog.cellsOf 145=1 by kernel_rfl,bltT hn]; rfl
theorem ia156 (b o n:Nat) (k:IntKind) (h:H) (hn:n<64):xindexAddr Tryz.prog 156 (.pointer (some ⟨b,o,none⟩)) (.int k (n:Int)) h = .ok (.pointer (some ⟨b,o+n*1,none⟩)) h:=by
 show (bif Nat.blt n 64&&szOk Tryz.prog 145&&true then Res.ok (Value.pointer (some ⟨b,o+n*Tryz.prog.cellsOf 145,none⟩)) h else .bad)=_
 rw[show szOk Tryz.prog 145=true by kernel_rfl,show Tryz.prog.cellsOf 145=1 by kernel_rfl,bltT hn]; rfl
theorem ia210 (b o n:Nat) (k:IntKind) (h:H) (hn:n<16):xindexAddr Tryz.prog 210 (.pointer (some ⟨b,o,none⟩)) (.int k (n:Int)) h = .ok (.pointer (some ⟨b,o+n*1,none⟩)) h:=by
 show (bif Nat.blt n 16&&szOk Tryz.prog 9&&true then Res.ok (Value.pointer (some ⟨b,o+n*Tryz.prog.cellsOf 9,none⟩)) h else .bad)=_
 rw[show szOk Tryz.prog 9=true by kernel_rfl,show Tryz.prog.cellsOf 9=1 by kernel_rfl,bltT hn]; rfl
theorem ia22 (b o len cap n:Nat) (sp:Option Nat) (k:IntKind) (h:H) (hn:n<len):xindexAddr Tryz.prog 22 (.slice (some ⟨b,o,sp⟩) len cap) (.int k (n:Int)) h = .ok (.pointer (some ⟨b,o+n*1,none⟩)) h:=by
 show (bif Nat.blt n len&&szOk Tryz.prog 9 then Res.ok (Value.pointer (some ⟨b,o+n*Tryz.prog.cellsOf 9,none⟩)) h else .bad)=_
 rw[show szOk Tryz.prog 9=true by kernel_rfl,show Tryz.prog.cellsOf 9=1 by kernel_rfl,bltT hn]; rfl
theorem ia221 (b o n:Nat) (k:IntKind) (h:H) (hn:n<20):xindexAddr Tryz.prog 221 (.pointer (some ⟨b,o,none⟩)) (.int k (n:Int)) h = .ok (.pointer (some ⟨b,o+n*1,none⟩)) h:=by
 show (bif Nat.blt n 20&&szOk Tryz.prog 154&&true then Res.ok (Value.pointer (some ⟨b,o+n*Tryz.prog.cellsOf 154,none⟩)) h else .bad)=_
 rw[show szOk Tryz.prog 154=true by kernel_rfl,show Tryz.prog.cellsOf 154=1 by kernel_rfl,bltT hn]; rfl
theorem ia23 (b o len cap n:Nat) (sp:Option Nat) (k:IntKind) (h:H) (hn:n<len):xindexAddr Tryz.prog 23 (.slice (some ⟨b,o,sp⟩) len cap) (.int k (n:Int)) h = .ok (.pointer (some ⟨b,o+n*6,none⟩)) h:=by
 show (bif Nat.blt n len&&szOk Tryz.prog 48 then Res.ok (Value.pointer (some ⟨b,o+n*Tryz.prog.cellsOf 48,none⟩)) h else .bad)=_
 rw[show szOk Tryz.prog 48=true by kernel_rfl,show Tryz.prog.cellsOf 48=6 by kernel_rfl,bltT hn]; rfl
theorem ia26 (b o len cap n:Nat) (sp:Option Nat) (k:IntKind) (h:H) (hn:n<len):xindexAddr Tryz.prog 26 (.slice (some ⟨b,o,sp⟩) len cap) (.int k (n:Int)) h = .ok (.pointer (some ⟨b,o+n*32,none⟩)) h:=by
 show (bif Nat.blt n len&&szOk Tryz.prog 32 then Res.ok (Value.pointer (some ⟨b,o+n*Tryz.prog.cellsOf 32,none⟩)) h else .bad)=_
 rw[show szOk Tryz.prog 32=true by kernel_rfl,show Tryz.prog.cellsOf 32=32 by kernel_rfl,bltT hn]; rfl
theorem ia32 (b o n:Nat) (k:IntKind) (h:H) (hn:n<32):xindexAddr Tryz.prog 32 (.pointer (some ⟨b,o,none⟩)) (.int k (n:Int)) h = .ok (.pointer (some ⟨b,o+n*1,none⟩)) h:=by
 show (bif Nat.blt n 32&&szOk Tryz.prog 5&&true then Res.ok (Value.pointer (some ⟨b,o+n*Tryz.prog.cellsOf 5,none⟩)) h else .bad)=_
 rw[show szOk Tryz.prog 5=true by kernel_rfl,show Tryz.prog.cellsOf 5=1 by kernel_rfl,bltT hn]; rfl
theorem ia38 (b o len cap n:Nat) (sp:Option Nat) (k:IntKind) (h:H) (hn:n<len):xindexAddr Tryz.prog 38 (.slice (some ⟨b,o,sp⟩) len cap) (.int k (n:Int)) h = .ok (.pointer (some ⟨b,o+n*3,none⟩)) h:=by
 show (bif Nat.blt n len&&szOk Tryz.prog 43 then Res.ok (Value.pointer (some ⟨b,o+n*Tryz.prog.cellsOf 43,none⟩)) h else .bad)=_
 rw[show szOk Tryz.prog 43=true by kernel_rfl,show Tryz.prog.cellsOf 43=3 by kernel_rfl,bltT hn]; rfl
theorem ia43 (b o n:Nat) (k:IntKind) (h:H) (hn:n<3):xindexAddr Tryz.prog 43 (.pointer (some ⟨b,o,none⟩)) (.int k (n:Int)) h = .ok (.pointer (some ⟨b,o+n*1,none⟩)) h:=by
 show (bif Nat.blt n 3&&szOk Tryz.prog 3&&true then Res.ok (Value.pointer (some ⟨b,o+n*Tryz.prog.cellsOf 3,none⟩)) h else .bad)=_
 rw[show szOk Tryz.prog 3=true by kernel_rfl,show Tryz.prog.cellsOf 3=1 by kernel_rfl,bltT hn]; rfl
theorem ia44 (b o len cap n:Nat) (sp:Option Nat) (k:IntKind) (h:H) (hn:n<len):xindexAddr Tryz.prog 44 (.slice (some ⟨b,o,sp⟩) len cap) (.int k (n:Int)) h = .ok (.pointer (some ⟨b,o+n*5,none⟩)) h:=by
 show (bif Nat.blt n len&&szOk Tryz.prog 46 then Res.ok (Value.pointer (some ⟨b,o+n*Tryz.prog.cellsOf 46,none⟩)) h else .bad)=_
 rw[show szOk Tryz.prog 46=true by kernel_rfl,show Tryz.prog.cellsOf 46=5 by kernel_rfl,bltT hn]; rfl
theorem ia53 (b o len cap n:Nat) (sp:Option Nat) (k:IntKind) (h:H) (hn:n<len):xindexAddr Tryz.prog 53 (.slice (some ⟨b,o,sp⟩) len cap) (.int k (n:Int)) h = .ok (.pointer (some ⟨b,o+n*4,none⟩)) h:=by
 show (bif Nat.blt n len&&szOk Tryz.prog 25 then Res.ok (Value.pointer (some ⟨b,o+n*Tryz.prog.cellsOf 25,none⟩)) h else .bad)=_
 rw[show szOk Tryz.prog 25=true by kernel_rfl,show Tryz.prog.cellsOf 25=4 by kernel_rfl,bltT hn]; rfl
theorem ia71 (b o len cap n:Nat) (sp:Option Nat) (k:IntKind) (h:H) (hn:n<len):xindexAddr Tryz.prog 71 (.slice (some ⟨b,o,sp⟩) len cap) (.int k (n:Int)) h = .ok (.pointer (some ⟨b,o+n*1,none⟩)) h:=by
 show (bif Nat.blt n len&&szOk Tryz.prog 5 then Res.ok (Value.pointer (some ⟨b,o+n*Tryz.prog.cellsOf 5,none⟩)) h else .bad)=_
 rw[show szOk Tryz.prog 5=true by kernel_rfl,show Tryz.prog.cellsOf 5=1 by kernel_rfl,bltT hn]; rfl
noncomputable def zc114:List Value:=match zeroOf Tryz.prog 114 with|some z=>z.cells.toList|none=>[]
theorem al114 (h:H):xalloc Tryz.prog 114 h = .ok (.pointer (some ⟨h.next,0,none⟩)) (h.alloc (.cells zc114 114 0 false)):=Eq.trans (by kernel_rfl) rfl
noncomputable def zc146:List Value:=match zeroOf Tryz.prog 146 with|some z=>z.cells.toList|none=>[]
theorem al146 (h:H):xalloc Tryz.prog 146 h = .ok (.pointer (some ⟨h.next,0,none⟩)) (h.alloc (.cells zc146 146 0 false)):=Eq.trans (by kernel_rfl) rfl
theorem zc146_len:zc146.length=8:=by kernel_rfl
noncomputable def zc147:List Value:=match zeroOf Tryz.prog 147 with|some z=>z.cells.toList|none=>[]
theorem al147 (h:H):xalloc Tryz.prog 147 h = .ok (.pointer (some ⟨h.next,0,none⟩)) (h.alloc (.cells zc147 147 0 false)):=Eq.trans (by kernel_rfl) rfl
theorem zc147_len:zc147.length=8:=by kernel_rfl
noncomputable def zc151:List Value:=match zeroOf Tryz.prog 151 with|some z=>z.cells.toList|none=>[]
theorem al151 (h:H):xalloc Tryz.prog 151 h = .ok (.pointer (some ⟨h.next,0,none⟩)) (h.alloc (.cells zc151 151 0 false)):=Eq.trans (by kernel_rfl) rfl
theorem zc151_len:zc151.length=73:=by kernel_rfl
noncomputable def zc156:List Value:=match zeroOf Tryz.prog 156 with|some z=>z.cells.toList|none=>[]
theorem al156 (h:H):xalloc Tryz.prog 156 h = .ok (.pointer (some ⟨h.next,0,none⟩)) (h.alloc (.cells zc156 156 0 false)):=Eq.trans (by kernel_rfl) rfl
theorem zc156_len:zc156.length=64:=by kernel_rfl
noncomputable def zc210:List Value:=match zeroOf Tryz.prog 210 with|some z=>z.cells.toList|none=>[]
theorem al210 (h:H):xalloc Tryz.prog 210 h = .ok (.pointer (some ⟨h.next,0,none⟩)) (h.alloc (.cells zc210 210 0 false)):=Eq.trans (by kernel_rfl) rfl
noncomputable def zc212:List Value:=match zeroOf Tryz.prog 212 with|some z=>z.cells.toList|none=>[]
theorem al212 (h:H):xalloc Tryz.prog 212 h = .ok (.pointer (some ⟨h.next,0,none⟩)) (h.alloc (.cells zc212 212 0 false)):=Eq.trans (by kernel_rfl) rfl
theorem zc212_len:zc212.length=24:=by kernel_rfl
noncomputable def zc25:List Value:=match zeroOf Tryz.prog 25 with|some z=>z.cells.toList|none=>[]
theorem al25 (h:H):xalloc Tryz.prog 25 h = .ok (.pointer (some ⟨h.next,0,none⟩)) (h.alloc (.cells zc25 25 0 false)):=Eq.trans (by kernel_rfl) rfl
theorem zc25_len:zc25.length=4:=by kernel_rfl
noncomputable def zc32:List Value:=match zeroOf Tryz.prog 32 with|some z=>z.cells.toList|none=>[]
theorem al32 (h:H):xalloc Tryz.prog 32 h = .ok (.pointer (some ⟨h.next,0,none⟩)) (h.alloc (.cells zc32 32 0 false)):=Eq.trans (by kernel_rfl) rfl
theorem zc32_len:zc32.length=32:=by kernel_rfl
noncomputable def zc43:List Value:=match zeroOf Tryz.prog 43 with|some z=>z.cells.toList|none=>[]
theorem al43 (h:H):xalloc Tryz.prog 43 h = .ok (.pointer (some ⟨h.next,0,none⟩)) (h.alloc (.cells zc43 43 0 false)):=Eq.trans (by kernel_rfl) rfl
theorem zc43_len:zc43.length=3:=by kernel_rfl
noncomputable def zc46:List Value:=match zeroOf Tryz.prog 46 with|some z=>z.cells.toList|none=>[]
theorem al46 (h:H):xalloc Tryz.prog 46 h = .ok (.pointer (some ⟨h.next,0,none⟩)) (h.alloc (.cells zc46 46 0 false)):=Eq.trans (by kernel_rfl) rfl
theorem zc46_len:zc46.length=5:=by kernel_rfl
noncomputable def zc48:List Value:=match zeroOf Tryz.prog 48 with|some z=>z.cells.toList|none=>[]
theorem al48 (h:H):xalloc Tryz.prog 48 h = .ok (.pointer (some ⟨h.next,0,none⟩)) (h.alloc (.cells zc48 48 0 false)):=Eq.trans (by kernel_rfl) rfl
theorem zc48_len:zc48.length=6:=by kernel_rfl
theorem ln22 (b:Option Addr) (n c:Nat) (h:H):xbuiltin Tryz.prog .len [22] [.slice b n c] h = .ok (.int .i64 (n:Int)) h:=Eq.trans (by kernel_rfl) rfl
theorem ln23 (b:Option Addr) (n c:Nat) (h:H):xbuiltin Tryz.prog .len [23] [.slice b n c] h = .ok (.int .i64 (n:Int)) h:=Eq.trans (by kernel_rfl) rfl
theorem ln26 (b:Option Addr) (n c:Nat) (h:H):xbuiltin Tryz.prog .len [26] [.slice b n c] h = .ok (.int .i64 (n:Int)) h:=Eq.trans (by kernel_rfl) rfl
theorem ln38 (b:Option Addr) (n c:Nat) (h:H):xbuiltin Tryz.prog .len [38] [.slice b n c] h = .ok (.int .i64 (n:Int)) h:=Eq.trans (by kernel_rfl) rfl
theorem ln44 (b:Option Addr) (n c:Nat) (h:H):xbuiltin Tryz.prog .len [44] [.slice b n c] h = .ok (.int .i64 (n:Int)) h:=Eq.trans (by kernel_rfl) rfl
theorem ln53 (b:Option Addr) (n c:Nat) (h:H):xbuiltin Tryz.prog .len [53] [.slice b n c] h = .ok (.int .i64 (n:Int)) h:=Eq.trans (by kernel_rfl) rfl
theorem ln71 (b:Option Addr) (n c:Nat) (h:H):xbuiltin Tryz.prog .len [71] [.slice b n c] h = .ok (.int .i64 (n:Int)) h:=Eq.trans (by kernel_rfl) rfl
theorem cv145_5 (j:IntKind) (n:Int) (h:H):xconvert Tryz.prog 145 5 (.int j n) h = .ok (.int .u8 (IntKind.u8.wrap n)) h:=Eq.trans (by kernel_rfl) rfl
theorem cv154_145 (j:IntKind) (n:Int) (h:H):xconvert Tryz.prog 154 145 (.int j n) h = .ok (.int .u32 (IntKind.u32.wrap n)) h:=Eq.trans (by kernel_rfl) rfl
theorem cv154_5 (j:IntKind) (n:Int) (h:H):xconvert Tryz.prog 154 5 (.int j n) h = .ok (.int .u8 (IntKind.u8.wrap n)) h:=Eq.trans (by kernel_rfl) rfl
theorem cv2_154 (j:IntKind) (n:Int) (h:H):xconvert Tryz.prog 2 154 (.int j n) h = .ok (.int .u64 (IntKind.u64.wrap n)) h:=Eq.trans (by kernel_rfl) rfl
theorem cv3_154 (j:IntKind) (n:Int) (h:H):xconvert Tryz.prog 3 154 (.int j n) h = .ok (.int .u64 (IntKind.u64.wrap n)) h:=Eq.trans (by kernel_rfl) rfl
theorem cv3_5 (j:IntKind) (n:Int) (h:H):xconvert Tryz.prog 3 5 (.int j n) h = .ok (.int .u8 (IntKind.u8.wrap n)) h:=Eq.trans (by kernel_rfl) rfl
theorem cv3_73 (j:IntKind) (n:Int) (h:H):xconvert Tryz.prog 3 73 (.int j n) h = .ok (.int .u64 (IntKind.u64.wrap n)) h:=Eq.trans (by kernel_rfl) rfl
theorem cv5_145 (j:IntKind) (n:Int) (h:H):xconvert Tryz.prog 5 145 (.int j n) h = .ok (.int .u32 (IntKind.u32.wrap n)) h:=Eq.trans (by kernel_rfl) rfl
theorem cv5_3 (j:IntKind) (n:Int) (h:H):xconvert Tryz.prog 5 3 (.int j n) h = .ok (.int .i64 (IntKind.i64.wrap n)) h:=Eq.trans (by kernel_rfl) rfl
theorem un22:Tryz.prog.underlying 22=some (.slice 9):=by kernel_rfl
theorem eo22:elemOf? Tryz.prog 22=some 9:=by kernel_rfl
theorem un23:Tryz.prog.underlying 23=some (.slice 48):=by kernel_rfl
theorem un26:Tryz.prog.underlying 26=some (.slice 32):=by kernel_rfl
theorem un44:Tryz.prog.underlying 44=some (.slice 46):=by kernel_rfl
theorem un71:Tryz.prog.underlying 71=some (.slice 5):=by kernel_rfl
theorem eo71:elemOf? Tryz.prog 71=some 5:=by kernel_rfl
theorem sz5:szOk Tryz.prog 5=true:=by kernel_rfl
theorem co5:Tryz.prog.cellsOf 5=1:=by kernel_rfl
theorem sz9:szOk Tryz.prog 9=true:=by kernel_rfl
theorem co9:Tryz.prog.cellsOf 9=1:=by kernel_rfl
theorem sz32:szOk Tryz.prog 32=true:=by kernel_rfl
theorem co32:Tryz.prog.cellsOf 32=32:=by kernel_rfl
theorem sz46:szOk Tryz.prog 46=true:=by kernel_rfl
theorem co46:Tryz.prog.cellsOf 46=5:=by kernel_rfl
theorem sz48:szOk Tryz.prog 48=true:=by kernel_rfl
theorem co48:Tryz.prog.cellsOf 48=6:=by kernel_rfl
end Go.Proofs.YtbfgadekkemlcaaGreatDoor.K
namespace Go.Proofs.YtbfgadekkemlcaaGreatDoor.K
open Go Go.Kx
noncomputable def tabM:Tab:=fun f=>match f with
 |140=>none
 |171=>none
 |199=>none
 |203=>none
 |121=>none
 |n=>tab n
noncomputable def CLM:Cl:=clS Tryz.prog tabM primM
variable (args:List Value) (h:H)
theorem cM5:CLM (.f 5) args h=runX Tryz.prog CLM nu0 an5 Tryz.f5 args h:=clS_eq (by kernel_rfl) args h
theorem cM17:CLM (.f 17) args h=runX Tryz.prog CLM nu0 an17 Tryz.f17 args h:=clS_eq (by kernel_rfl) args h
theorem cM18:CLM (.f 18) args h=runX Tryz.prog CLM nu0 an18 Tryz.f18 args h:=clS_eq (by kernel_rfl) args h
theorem cM19:CLM (.f 19) args h=runX Tryz.prog CLM nu0 an19 Tryz.f19 args h:=clS_eq (by kernel_rfl) args h
theorem cM20:CLM (.f 20) args h=runX Tryz.prog CLM nu0 an20 Tryz.f20 args h:=clS_eq (by kernel_rfl) args h
theorem cM21:CLM (.f 21) args h=runX Tryz.prog CLM nu0 an21 Tryz.f21 args h:=clS_eq (by kernel_rfl) args h
theorem cM22:CLM (.f 22) args h=runX Tryz.prog CLM nu0 an22 Tryz.f22 args h:=clS_eq (by kernel_rfl) args h
theorem cM24:CLM (.f 24) args h=runX Tryz.prog CLM nu0 an24 Tryz.f24 args h:=clS_eq (by kernel_rfl) args h
theorem cM25:CLM (.f 25) args h=runX Tryz.prog CLM nu0 an25 Tryz.f25 args h:=clS_eq (by kernel_rfl) args h
theorem cM26:CLM (.f 26) args h=runX Tryz.prog CLM nu0 an26 Tryz.f26 args h:=clS_eq (by kernel_rfl) args h
theorem cM27:CLM (.f 27) args h=runX Tryz.prog CLM nu0 an27 Tryz.f27 args h:=clS_eq (by kernel_rfl) args h
theorem cM28:CLM (.f 28) args h=runX Tryz.prog CLM nu0 an28 Tryz.f28 args h:=clS_eq (by kernel_rfl) args h
theorem cM41:CLM (.f 41) args h=runX Tryz.prog CLM nu0 an41 Tryz.f41 args h:=clS_eq (by kernel_rfl) args h
theorem cM47:CLM (.f 47) args h=runX Tryz.prog CLM nu0 an47 Tryz.f47 args h:=clS_eq (by kernel_rfl) args h
theorem cM48:CLM (.f 48) args h=runX Tryz.prog CLM nu0 an48 Tryz.f48 args h:=clS_eq (by kernel_rfl) args h
theorem cM51:CLM (.f 51) args h=runX Tryz.prog CLM nu0 an51 Tryz.f51 args h:=clS_eq (by kernel_rfl) args h
theorem cM57:CLM (.f 57) args h=runX Tryz.prog CLM nu0 an57 Tryz.f57 args h:=clS_eq (by kernel_rfl) args h
theorem cM58:CLM (.f 58) args h=runX Tryz.prog CLM nu0 an58 Tryz.f58 args h:=clS_eq (by kernel_rfl) args h
theorem cM59:CLM (.f 59) args h=runX Tryz.prog CLM nu0 an59 Tryz.f59 args h:=clS_eq (by kernel_rfl) args h
theorem cM60:CLM (.f 60) args h=runX Tryz.prog CLM nu0 an60 Tryz.f60 args h:=clS_eq (by kernel_rfl) args h
theorem cM61:CLM (.f 61) args h=runX Tryz.prog CLM nu0 an61 Tryz.f61 args h:=clS_eq (by kernel_rfl) args h
theorem cM62:CLM (.f 62) args h=runX Tryz.prog CLM nu0 an62 Tryz.f62 args h:=clS_eq (by kernel_rfl) args h
theorem cM63:CLM (.f 63) args h=runX Tryz.prog CLM nu0 an63 Tryz.f63 args h:=clS_eq (by kernel_rfl) args h
theorem cM64:CLM (.f 64) args h=runX Tryz.prog CLM nu0 an64 Tryz.f64 args h:=clS_eq (by kernel_rfl) args h
theorem cM65:CLM (.f 65) args h=runX Tryz.prog CLM nu0 an65 Tryz.f65 args h:=clS_eq (by kernel_rfl) args h
theorem cM66:CLM (.f 66) args h=runX Tryz.prog CLM nu0 an66 Tryz.f66 args h:=clS_eq (by kernel_rfl) args h
theorem cM67:CLM (.f 67) args h=runX Tryz.prog CLM nu0 an67 Tryz.f67 args h:=clS_eq (by kernel_rfl) args h
theorem cM68:CLM (.f 68) args h=runX Tryz.prog CLM nu0 an68 Tryz.f68 args h:=clS_eq (by kernel_rfl) args h
theorem cM72:CLM (.f 72) args h=runX Tryz.prog CLM nu0 an72 Tryz.f72 args h:=clS_eq (by kernel_rfl) args h
theorem cM73:CLM (.f 73) args h=runX Tryz.prog CLM nu0 an73 Tryz.f73 args h:=clS_eq (by kernel_rfl) args h
theorem cM74:CLM (.f 74) args h=runX Tryz.prog CLM nu0 an74 Tryz.f74 args h:=clS_eq (by kernel_rfl) args h
theorem cM75:CLM (.f 75) args h=runX Tryz.prog CLM nu0 an75 Tryz.f75 args h:=clS_eq (by kernel_rfl) args h
theorem cM76:CLM (.f 76) args h=runX Tryz.prog CLM nu0 an76 Tryz.f76 args h:=clS_eq (by kernel_rfl) args h
theorem cM77:CLM (.f 77) args h=runX Tryz.prog CLM nu0 an77 Tryz.f77 args h:=clS_eq (by kernel_rfl) args h
theorem cM78:CLM (.f 78) args h=runX Tryz.prog CLM nu0 an78 Tryz.f78 args h:=clS_eq (by kernel_rfl) args h
theorem cM79:CLM (.f 79) args h=runX Tryz.prog CLM nu0 an79 Tryz.f79 args h:=clS_eq (by kernel_rfl) args h
theorem cM84:CLM (.f 84) args h=runX Tryz.prog CLM nu0 an84 Tryz.f84 args h:=clS_eq (by kernel_rfl) args h
theorem cM85:CLM (.f 85) args h=runX Tryz.prog CLM nu0 an85 Tryz.f85 args h:=clS_eq (by kernel_rfl) args h
theorem cM86:CLM (.f 86) args h=runX Tryz.prog CLM nu0 an86 Tryz.f86 args h:=clS_eq (by kernel_rfl) args h
theorem cM94:CLM (.f 94) args h=runX Tryz.prog CLM nu0 an94 Tryz.f94 args h:=clS_eq (by kernel_rfl) args h
theorem cM95:CLM (.f 95) args h=runX Tryz.prog CLM nu0 an95 Tryz.f95 args h:=clS_eq (by kernel_rfl) args h
theorem cM96:CLM (.f 96) args h=runX Tryz.prog CLM nu0 an96 Tryz.f96 args h:=clS_eq (by kernel_rfl) args h
theorem cM97:CLM (.f 97) args h=runX Tryz.prog CLM nu0 an97 Tryz.f97 args h:=clS_eq (by kernel_rfl) args h
theorem cM98:CLM (.f 98) args h=runX Tryz.prog CLM nu0 an98 Tryz.f98 args h:=clS_eq (by kernel_rfl) args h
theorem cM99:CLM (.f 99) args h=runX Tryz.prog CLM nu0 an99 Tryz.f99 args h:=clS_eq (by kernel_rfl) args h
theorem cM100:CLM (.f 100) args h=runX Tryz.prog CLM nu0 an100 Tryz.f100 args h:=clS_eq (by kernel_rfl) args h
theorem cM101:CLM (.f 101) args h=runX Tryz.prog CLM nu0 an101 Tryz.f101 args h:=clS_eq (by kernel_rfl) args h
theorem cM102:CLM (.f 102) args h=runX Tryz.prog CLM nu0 an102 Tryz.f102 args h:=clS_eq (by kernel_rfl) args h
theorem cM103:CLM (.f 103) args h=runX Tryz.prog CLM nu0 an103 Tryz.f103 args h:=clS_eq (by kernel_rfl) args h
theorem cM104:CLM (.f 104) args h=runX Tryz.prog CLM nu0 an104 Tryz.f104 args h:=clS_eq (by kernel_rfl) args h
theorem cM105:CLM (.f 105) args h=runX Tryz.prog CLM nu0 an105 Tryz.f105 args h:=clS_eq (by kernel_rfl) args h
theorem cM106:CLM (.f 106) args h=runX Tryz.prog CLM nu0 an106 Tryz.f106 args h:=clS_eq (by kernel_rfl) args h
theorem cM107:CLM (.f 107) args h=runX Tryz.prog CLM nu0 an107 Tryz.f107 args h:=clS_eq (by kernel_rfl) args h
theorem cM108:CLM (.f 108) args h=runX Tryz.prog CLM nu0 an108 Tryz.f108 args h:=clS_eq (by kernel_rfl) args h
theorem cM109:CLM (.f 109) args h=runX Tryz.prog CLM nu0 an109 Tryz.f109 args h:=clS_eq (by kernel_rfl) args h
theorem cM110:CLM (.f 110) args h=runX Tryz.prog CLM nu0 an110 Tryz.f110 args h:=clS_eq (by kernel_rfl) args h
theorem cM111:CLM (.f 111) args h=runX Tryz.prog CLM nu0 an111 Tryz.f111 args h:=clS_eq (by kernel_rfl) args h
theorem cM119:CLM (.f 119) args h=runX Tryz.prog CLM nu0 an119 Tryz.f119 args h:=clS_eq (by kernel_rfl) args h
theorem cM120:CLM (.f 120) args h=runX Tryz.prog CLM nu0 an120 Tryz.f120 args h:=clS_eq (by kernel_rfl) args h
theorem cM122:CLM (.f 122) args h=runX Tryz.prog CLM nu0 an122 Tryz.f122 args h:=clS_eq (by kernel_rfl) args h
theorem cM123:CLM (.f 123) args h=runX Tryz.prog CLM nu0 an123 Tryz.f123 args h:=clS_eq (by kernel_rfl) args h
theorem cM133:CLM (.f 133) args h=runX Tryz.prog CLM nu0 an133 Tryz.f133 args h:=clS_eq (by kernel_rfl) args h
theorem cM134:CLM (.f 134) args h=runX Tryz.prog CLM nu0 an134 Tryz.f134 args h:=clS_eq (by kernel_rfl) args h
theorem cM135:CLM (.f 135) args h=runX Tryz.prog CLM nu0 an135 Tryz.f135 args h:=clS_eq (by kernel_rfl) args h
theorem cM136:CLM (.f 136) args h=runX Tryz.prog CLM nu0 an136 Tryz.f136 args h:=clS_eq (by kernel_rfl) args h
theorem cM137:CLM (.f 137) args h=runX Tryz.prog CLM nu0 an137 Tryz.f137 args h:=clS_eq (by kernel_rfl) args h
theorem cM138:CLM (.f 138) args h=runX Tryz.prog CLM nu0 an138 Tryz.f138 args h:=clS_eq (by kernel_rfl) args h
theorem cM139:CLM (.f 139) args h=runX Tryz.prog CLM nu0 an139 Tryz.f139 args h:=clS_eq (by kernel_rfl) args h
theorem cM141:CLM (.f 141) args h=runX Tryz.prog CLM nu0 an141 Tryz.f141 args h:=clS_eq (by kernel_rfl) args h
theorem cM142:CLM (.f 142) args h=runX Tryz.prog CLM nu0 an142 Tryz.f142 args h:=clS_eq (by kernel_rfl) args h
theorem cM159:CLM (.f 159) args h=runX Tryz.prog CLM nu0 an159 Tryz.f159 args h:=clS_eq (by kernel_rfl) args h
theorem cM160:CLM (.f 160) args h=runX Tryz.prog CLM nu0 an160 Tryz.f160 args h:=clS_eq (by kernel_rfl) args h
theorem cM161:CLM (.f 161) args h=runX Tryz.prog CLM nu0 an161 Tryz.f161 args h:=clS_eq (by kernel_rfl) args h
theorem cM162:CLM (.f 162) args h=runX Tryz.prog CLM nu0 an162 Tryz.f162 args h:=clS_eq (by kernel_rfl) args h
theorem cM167:CLM (.f 167) args h=runX Tryz.prog CLM nu0 an167 Tryz.f167 args h:=clS_eq (by kernel_rfl) args h
theorem cM168:CLM (.f 168) args h=runX Tryz.prog CLM nu0 an168 Tryz.f168 args h:=clS_eq (by kernel_rfl) args h
theorem cM169:CLM (.f 169) args h=runX Tryz.prog CLM nu0 an169 Tryz.f169 args h:=clS_eq (by kernel_rfl) args h
theorem cM170:CLM (.f 170) args h=runX Tryz.prog CLM nu0 an170 Tryz.f170 args h:=clS_eq (by kernel_rfl) args h
theorem cM172:CLM (.f 172) args h=runX Tryz.prog CLM nu0 an172 Tryz.f172 args h:=clS_eq (by kernel_rfl) args h
theorem cM178:CLM (.f 178) args h=runX Tryz.prog CLM nu0 an178 Tryz.f178 args h:=clS_eq (by kernel_rfl) args h
theorem cM179:CLM (.f 179) args h=runX Tryz.prog CLM nu0 an179 Tryz.f179 args h:=clS_eq (by kernel_rfl) args h
theorem cM180:CLM (.f 180) args h=runX Tryz.prog CLM nu0 an180 Tryz.f180 args h:=clS_eq (by kernel_rfl) args h
theorem cM181:CLM (.f 181) args h=runX Tryz.prog CLM nu0 an181 Tryz.f181 args h:=clS_eq (by kernel_rfl) args h
theorem cM182:CLM (.f 182) args h=runX Tryz.prog CLM nu0 an182 Tryz.f182 args h:=clS_eq (by kernel_rfl) args h
theorem cM183:CLM (.f 183) args h=runX Tryz.prog CLM nu0 an183 Tryz.f183 args h:=clS_eq (by kernel_rfl) args h
theorem cM185:CLM (.f 185) args h=runX Tryz.prog CLM nu0 an185 Tryz.f185 args h:=clS_eq (by kernel_rfl) args h
theorem cM192:CLM (.f 192) args h=runX Tryz.prog CLM nu0 an192 Tryz.f192 args h:=clS_eq (by kernel_rfl) args h
theorem cM193:CLM (.f 193) args h=runX Tryz.prog CLM nu0 an193 Tryz.f193 args h:=clS_eq (by kernel_rfl) args h
theorem cM194:CLM (.f 194) args h=runX Tryz.prog CLM nu0 an194 Tryz.f194 args h:=clS_eq (by kernel_rfl) args h
theorem cM195:CLM (.f 195) args h=runX Tryz.prog CLM nu0 an195 Tryz.f195 args h:=clS_eq (by kernel_rfl) args h
theorem cM196:CLM (.f 196) args h=runX Tryz.prog CLM nu0 an196 Tryz.f196 args h:=clS_eq (by kernel_rfl) args h
theorem cM140 (args:List Value) (h:H):CLM (.f 140) args h=primM 140 args h:=clS_prim (by kernel_rfl) args h
theorem cM171 (args:List Value) (h:H):CLM (.f 171) args h=primM 171 args h:=clS_prim (by kernel_rfl) args h
theorem cM199 (args:List Value) (h:H):CLM (.f 199) args h=primM 199 args h:=clS_prim (by kernel_rfl) args h
theorem cM203 (args:List Value) (h:H):CLM (.f 203) args h=primM 203 args h:=clS_prim (by kernel_rfl) args h
theorem cM121 (args:List Value) (h:H):CLM (.f 121) args h=primM 121 args h:=clS_prim (by kernel_rfl) args h
end Go.Proofs.YtbfgadekkemlcaaGreatDoor.K
namespace Go.Proofs.YtbfgadekkemlcaaGreatDoor.K
open Go Go.Kx
abbrev W:=BitVec 32
def w32 (x:W):Value:=.int .u32 (x.toNat:Int)
theorem w32_size (x:W):(w32 x).cells.size=1:=rfl
theorem w32_cells (x:W):(w32 x).cells.toList=[w32 x]:=rfl
theorem wrap32 (n:Nat):IntKind.u32.wrap (n:Int)=((BitVec.ofNat 32 n).toNat:Int):=by
 simp[IntKind.wrap,IntKind.bits,IntKind.signed]
theorem ofInt32 (x:W):BitVec.ofInt 32 (x.toNat:Int)=x:=by
 apply BitVec.eq_of_toNat_eq
 simp
section
variable (P:Program) (t:TypeId) (x y:W) (h:H)
theorem a32:xbin P .add t (w32 x) (w32 y) h = .ok (w32 (x+y)) h:=by
 unfold w32
 rw[xadd,show ((x.toNat:Int)+(y.toNat:Int))=((x.toNat+y.toNat:Nat):Int) by omega,wrap32,show BitVec.ofNat 32 (x.toNat+y.toNat)=x+y by simp[BitVec.ofNat_add]]
theorem e32:xbin P .xor t (w32 x) (w32 y) h = .ok (w32 (x ^^^ y)) h:=by
 have e:prun P (Op.intBits .xor .u32 (x.toNat:Int) (y.toNat:Int))=some (.ok (w32 (x ^^^ y))):=by
  show some (Except.ok (Value.int .u32 (IntKind.u32.wrap ((BitVec.ofInt 32 (x.toNat:Int) ^^^ BitVec.ofInt 32 (y.toNat:Int)).toNat:Int))))=_
  rw[ofInt32,ofInt32,wrap32,BitVec.ofNat_toNat]; simp[w32]
 show xflat (P:=P) (prun P (Op.intBits .xor .u32 (x.toNat:Int) (y.toNat:Int))) h=_
 rw[e]; rfl
theorem n32:xbin P .and t (w32 x) (w32 y) h = .ok (w32 (x &&& y)) h:=by
 have e:prun P (Op.intBits .and .u32 (x.toNat:Int) (y.toNat:Int))=some (.ok (w32 (x &&& y))):=by
  show some (Except.ok (Value.int .u32 (IntKind.u32.wrap ((BitVec.ofInt 32 (x.toNat:Int) &&& BitVec.ofInt 32 (y.toNat:Int)).toNat:Int))))=_
  rw[ofInt32,ofInt32,wrap32,BitVec.ofNat_toNat]; simp[w32]
 show xflat (P:=P) (prun P (Op.intBits .and .u32 (x.toNat:Int) (y.toNat:Int))) h=_
 rw[e]; rfl
theorem o32:xbin P .or t (w32 x) (w32 y) h = .ok (w32 (x ||| y)) h:=by
 have e:prun P (Op.intBits .or .u32 (x.toNat:Int) (y.toNat:Int))=some (.ok (w32 (x ||| y))):=by
  show some (Except.ok (Value.int .u32 (IntKind.u32.wrap ((BitVec.ofInt 32 (x.toNat:Int) ||| BitVec.ofInt 32 (y.toNat:Int)).toNat:Int))))=_
  rw[ofInt32,ofInt32,wrap32,BitVec.ofNat_toNat]; simp[w32]
 show xflat (P:=P) (prun P (Op.intBits .or .u32 (x.toNat:Int) (y.toNat:Int))) h=_
 rw[e]; rfl
theorem not32:xun P .xor (w32 x) h = .ok (w32 (~~~x)) h:=by
 have e:prun P (Op.intBits .xor .u32 IntKind.u32.max (x.toNat:Int))=some (.ok (w32 (~~~x))):=by
  show some (Except.ok (Value.int .u32 (IntKind.u32.wrap ((BitVec.ofInt 32 IntKind.u32.max ^^^ BitVec.ofInt 32 (x.toNat:Int)).toNat:Int))))=_
  rw[ofInt32,wrap32,BitVec.ofNat_toNat,show BitVec.ofInt 32 IntKind.u32.max=BitVec.allOnes 32 by decide,BitVec.allOnes_xor]; simp[w32]
 show xflat (P:=P) (prun P (Op.intBits .xor .u32 IntKind.u32.max (x.toNat:Int))) h=_
 rw[e]; rfl
theorem r32 {z:Int} {k:IntKind} (n:Nat) (hz:z=n) (hn:n≤32):xbin P .shr t (w32 x) (.int k z) h = .ok (w32 (x >>> n)) h:=by
 subst hz
 have e:prun P (Op.shift .shr .u32 (x.toNat:Int) k (n:Int))=some (.ok (w32 (x >>> n))):=by
  unfold Op.shift
  rw[if_neg (by omega)]
  show some (Except.ok (Value.int .u32 ((x.toNat:Int).fdiv (2 ^ (min n 32)))))=_
  rw[Nat.min_eq_left hn]
  unfold w32
  congr 3
  rw[BitVec.toNat_ushiftRight,Nat.shiftRight_eq_div_pow]
  rw[show ((2:Int) ^ n)=((2 ^ n:Nat):Int) by simp,Int.fdiv_eq_ediv_of_nonneg _ (Int.natCast_nonneg _)]
  rfl
 show xflat (P:=P) (prun P (Op.shift .shr .u32 (x.toNat:Int) k (n:Int))) h=_
 rw[e]; rfl
theorem l32 {z:Int} {k:IntKind} (n:Nat) (hz:z=n) (hn:n≤32):xbin P .shl t (w32 x) (.int k z) h = .ok (w32 (x <<< n)) h:=by
 subst hz
 have e:prun P (Op.shift .shl .u32 (x.toNat:Int) k (n:Int))=some (.ok (w32 (x <<< n))):=by
  unfold Op.shift
  rw[if_neg (by omega)]
  show some (Except.ok (Value.int .u32 (IntKind.u32.wrap ((x.toNat:Int)*2 ^ (min n 32)))))=_
  rw[Nat.min_eq_left hn]
  unfold w32
  congr 3
  rw[show ((x.toNat:Int)*2 ^ n)=((x.toNat*2 ^ n:Nat):Int) by push_cast; rfl,wrap32]
  simp[BitVec.toNat_shiftLeft,Nat.shiftLeft_eq]
 show xflat (P:=P) (prun P (Op.shift .shl .u32 (x.toNat:Int) k (n:Int))) h=_
 rw[e]; rfl
end
theorem p32 (x y:W):plain2 (w32 x) (w32 y)=true:=rfl
theorem p32i (x:W) (k:IntKind) (z:Int):plain2 (w32 x) (.int k z)=true:=rfl
theorem veq32 (x:W) (h:H):rc (.ok (w32 x) h) (some (w32 x))=true:=by
 show (decide (IntKind.u32=IntKind.u32)&&decide ((x.toNat:Int)=(x.toNat:Int)))=true
 simp
def b32 (b:UInt8):W:=BitVec.ofNat 32 b.toNat
def by32 (x:W):UInt8:=UInt8.ofNat x.toNat
theorem b32_eq (b:UInt8):Value.int .u32 (IntKind.u32.wrap (b.toNat:Int))=w32 (b32 b):=by unfold w32 b32; rw[wrap32]
theorem by32_eq (x:W):Value.int .u8 (IntKind.u8.wrap (x.toNat:Int)) = .int .u8 ((by32 x).toNat:Int):=by
 simp[IntKind.wrap,IntKind.bits,IntKind.signed,by32]
end Go.Proofs.YtbfgadekkemlcaaGreatDoor.K
namespace Go.Proofs.YtbfgadekkemlcaaGreatDoor.K
open Go Go.Kx
structure S8 where
 (a b c d e f g h:W)
def S8.v (s:S8):List Value:=[w32 s.a,w32 s.b,w32 s.c,w32 s.d,w32 s.e,w32 s.f,w32 s.g,w32 s.h]
def rr (x:W) (n:Nat):W:=(x <<< (32 - n)) ||| (x >>> n)
def bs0 (x:W):W:=rr x 2 ^^^ rr x 13 ^^^ rr x 22
def bs1 (x:W):W:=rr x 6 ^^^ rr x 11 ^^^ rr x 25
def ss0 (x:W):W:=rr x 7 ^^^ rr x 18 ^^^ (x >>> 3)
def ss1 (x:W):W:=rr x 17 ^^^ rr x 19 ^^^ (x >>> 10)
def chh (e f g:W):W:=(e &&& f) ^^^ (~~~e &&& g)
def maj (a b c:W):W:=(a &&& b) ^^^ (a &&& c) ^^^ (b &&& c)
def KT:List W:=[
 0x428a2f98,0x71374491,0xb5c0fbcf,0xe9b5dba5,0x3956c25b,0x59f111f1,0x923f82a4,0xab1c5ed5,
 0xd807aa98,0x12835b01,0x243185be,0x550c7dc3,0x72be5d74,0x80deb1fe,0x9bdc06a7,0xc19bf174,
 0xe49b69c1,0xefbe4786,0x0fc19dc6,0x240ca1cc,0x2de92c6f,0x4a7484aa,0x5cb0a9dc,0x76f988da,
 0x983e5152,0xa831c66d,0xb00327c8,0xbf597fc7,0xc6e00bf3,0xd5a79147,0x06ca6351,0x14292967,
 0x27b70a85,0x2e1b2138,0x4d2c6dfc,0x53380d13,0x650a7354,0x766a0abb,0x81c2c92e,0x92722c85,
 0xa2bfe8a1,0xa81a664b,0xc24b8b70,0xc76c51a3,0xd192e819,0xd6990624,0xf40e3585,0x106aa070,
 0x19a4c116,0x1e376c08,0x2748774c,0x34b0bcb5,0x391c0cb3,0x4ed8aa4a,0x5b9cca4f,0x682e6ff3,
 0x748f82ee,0x78a5636f,0x84c87814,0x8cc70208,0x90befffa,0xa4506ceb,0xbef9a3f7,0xc67178f2]
theorem KT_len:KT.length=64:=rfl
def rnd (s:S8) (k w:W):S8:=
 let x:=s.h+w+k+bs1 s.e+chh s.e s.f s.g
 let y:=bs0 s.a+maj s.a s.b s.c
 ⟨x+y,s.a,s.b,s.c,s.d+x,s.e,s.f,s.g⟩
def wd (b:List UInt8) (i:Nat):W:=b32 (b.getD i 0) <<< 24 ||| b32 (b.getD (i+1) 0) <<< 16 ||| b32 (b.getD (i+2) 0) <<< 8 ||| b32 (b.getD (i+3) 0)
def nxt (b:List UInt8) (w:List W) (t:Nat):W:=
 if t<16 then wd b (4*t) else ss1 (w.getD (t - 2) 0)+(w.getD (t - 7) 0+w.getD (t - 16) 0)+ss0 (w.getD (t - 15) 0)
def sch (b:List UInt8):Nat→List W
 |0=>[]
 |t+1=>sch b t++[nxt b (sch b t) t]
theorem sch_len (b:List UInt8):∀ t,(sch b t).length=t
 |0=>rfl
 |t+1=>by rw[sch,List.length_append,sch_len b t]; rfl
def rds (b:List UInt8) (s:S8):Nat→S8
 |0=>s
 |t+1=>rnd (rds b s t) (KT.getD t 0) ((sch b 64).getD t 0)
def S8.add (s r:S8):S8:=⟨s.a+r.a,s.b+r.b,s.c+r.c,s.d+r.d,s.e+r.e,s.f+r.f,s.g+r.g,s.h+r.h⟩
def ov (s:S8) (b:List UInt8):S8:=s.add (rds b s 64)
def blkN:Nat→S8→List UInt8→S8
 |0,s,_=>s
 |n+1,s,m=>ov (blkN n s m) ((m.drop (64*n)).take 64)
theorem blkN_app:∀ (n:Nat) (s:S8) (m r:List UInt8),64*n≤m.length→blkN n s (m++r)=blkN n s m
 |0,_,_,_,_=>rfl
 |n+1,s,m,r,h=>by
  rw[blkN,blkN,blkN_app n s m r (by omega)]
  congr 1
  rw[List.drop_append_of_le_length (by omega),List.take_append_of_le_length (by rw[List.length_drop]; omega)]
def init8:S8:=⟨0x6a09e667,0xbb67ae85,0x3c6ef372,0xa54ff53a,0x510e527f,0x9b05688c,0x1f83d9ab,0x5be0cd19⟩
def zeros (n:Nat):Nat:=(119 - n % 64) % 64
def lenB (n:Nat):List UInt8:=[UInt8.ofNat (8*n / 2 ^ 56),UInt8.ofNat (8*n / 2 ^ 48),UInt8.ofNat (8*n / 2 ^ 40),UInt8.ofNat (8*n / 2 ^ 32),UInt8.ofNat (8*n / 2 ^ 24),UInt8.ofNat (8*n / 2 ^ 16),UInt8.ofNat (8*n / 2 ^ 8),UInt8.ofNat (8*n / 2 ^ 0)]
def tailB (n:Nat):List UInt8:=(0x80::List.replicate (zeros n) 0)++lenB n
def pad (m:List UInt8):List UInt8:=m++tailB m.length
def wB (x:W):List UInt8:=[by32 (x >>> 24),by32 (x >>> 16),by32 (x >>> 8),by32 x]
def S8.l (s:S8):List W:=[s.a,s.b,s.c,s.d,s.e,s.f,s.g,s.h]
def out (s:S8):List UInt8:=s.l.flatMap wB
def shaS (m:List UInt8):S8:=blkN ((pad m).length / 64) init8 (pad m)
def sha (m:List UInt8):List UInt8:=out (shaS m)
theorem out_len (s:S8):(out s).length=32:=rfl
theorem tailB_len (n:Nat):(tailB n).length=zeros n+9:=by simp[tailB,lenB]
theorem pad_len (m:List UInt8):(pad m).length % 64=0:=by
 unfold pad
 rw[List.length_append,tailB_len]
 unfold zeros
 omega
structure HS (m:List UInt8) (s:S8) (rest:List UInt8):Prop where
 st:s=blkN (m.length / 64) init8 m
 len:rest.length=64
 ta:rest.take (m.length % 64)=m.drop (m.length / 64*64)
structure AL (m:List UInt8) (s:S8):Prop where
 al:m.length % 64=0
 st:s=blkN (m.length / 64) init8 m
theorem HS.nil:HS [] init8 (List.replicate 64 0):=⟨rfl,by simp,by simp⟩
theorem HS.al {m:List UInt8} {s:S8} {rest:List UInt8} (q:HS m s rest) (h0:m.length % 64=0):AL m s:=⟨h0,q.st⟩
theorem AL.step {m:List UInt8} {s:S8} (q:AL m s) {b:List UInt8} (hb:64≤b.length):AL (m++b.take 64) (ov s (b.take 64)):=by
 have h1:=q.al
 have hl:(b.take 64).length=64:=by rw[List.length_take]; omega
 refine⟨by rw[List.length_append,hl]; omega,?_⟩
 rw[List.length_append,hl,show (m.length+64) / 64=m.length / 64+1 by omega,blkN,blkN_app _ _ _ _ (by omega),← q.st]
 congr 1
 rw[List.drop_append_of_le_length (by omega),List.drop_of_length_le (by omega),List.nil_append,List.take_take,Nat.min_self]
theorem AL.rest {m:List UInt8} {s:S8} (q:AL m s) {b rest:List UInt8} (hb:b.length<64) (hr:rest.length=64) (ht:rest.take b.length=b):HS (m++b) s rest:=by
 have h1:=q.al
 refine⟨?_,hr,?_⟩
 ·rw[List.length_append,show (m.length+b.length) / 64=m.length / 64 by omega,blkN_app _ _ _ _ (by omega)]; exact q.st
 ·rw[List.length_append,show (m.length+b.length) % 64=b.length by omega,show (m.length+b.length) / 64*64=m.length by omega,ht,List.drop_left]
theorem HS.more {m:List UInt8} {s:S8} {rest:List UInt8} (q:HS m s rest) {b:List UInt8} (hb:m.length % 64+b.length<64) :
  HS (m++b) s (rest.take (m.length % 64)++(b++rest.drop (m.length % 64+b.length))):=by
 have hl:=q.len
 have h1:(rest.take (m.length % 64)).length=m.length % 64:=by rw[List.length_take]; omega
 refine⟨?_,?_,?_⟩
 ·rw[List.length_append,show (m.length+b.length) / 64=m.length / 64 by omega,blkN_app _ _ _ _ (by omega)]; exact q.st
 ·simp only[List.length_append,List.length_drop,h1]; omega
 ·rw[List.length_append,show (m.length+b.length) % 64=m.length % 64+b.length by omega,show (m.length+b.length) / 64*64=m.length / 64*64 by omega,← List.append_assoc,
   List.take_left' (by rw[List.length_append,h1]),q.ta,List.drop_append_of_le_length (by omega)]
theorem HS.fill {m:List UInt8} {s:S8} {rest:List UInt8} (q:HS m s rest) {b:List UInt8} (h0:0<m.length % 64) (hb:64≤m.length % 64+b.length) :
  (rest.take (m.length % 64)++b.take (64 - m.length % 64)).length=64∧AL (m++b.take (64 - m.length % 64)) (ov s (rest.take (m.length % 64)++b.take (64 - m.length % 64))):=by
 have hl:=q.len
 have h1:(rest.take (m.length % 64)).length=m.length % 64:=by rw[List.length_take]; omega
 have h2:(b.take (64 - m.length % 64)).length=64 - m.length % 64:=by rw[List.length_take]; omega
 refine⟨by rw[List.length_append,h1,h2]; omega,by rw[List.length_append,h2]; omega,?_⟩
 rw[List.length_append,h2,show (m.length+(64 - m.length % 64)) / 64=m.length / 64+1 by omega,blkN,blkN_app _ _ _ _ (by omega),← q.st]
 congr 1
 rw[q.ta,List.drop_append_of_le_length (by omega),show 64*(m.length / 64)=m.length / 64*64 by omega]
 exact (List.take_of_length_le (by rw[List.length_append,h2,List.length_drop]; omega)).symm
theorem HS.all {m:List UInt8} {s:S8} {rest:List UInt8} (q:HS (pad m) s rest):out s=sha m:=by
 unfold sha shaS
 rw[q.st]
theorem rr_ref (x:W) (n:Nat):(x >>> n) ||| (x <<< (32 - n))=rr x n:=by unfold rr; exact BitVec.or_comm _ _
theorem nxt_ref (a b c d:W):a+b+c+d=a+(b+d)+c:=by ac_rfl
theorem rnd_ref (s:S8) (k w:W):(⟨s.h+bs1 s.e+chh s.e s.f s.g+k+w+(bs0 s.a+maj s.a s.b s.c),s.a,s.b,s.c,s.d+(s.h+bs1 s.e+chh s.e s.f s.g+k+w),s.e,s.f,s.g⟩ : S8)=rnd s k w:=by
 unfold rnd
 have e:s.h+bs1 s.e+chh s.e s.f s.g+k+w=s.h+w+k+bs1 s.e+chh s.e s.f s.g:=by ac_rfl
 simp only[e]
end Go.Proofs.YtbfgadekkemlcaaGreatDoor.K
namespace Go.Proofs.YtbfgadekkemlcaaGreatDoor.K
open Go Go.Kx
def Row (h:H) (b o:Nat) (r:List Value):Prop:=∃ c el f op,h.get b=some (.cells c el f op)∧o+r.length≤c.length∧(c.drop o).take r.length=r
theorem Row.grow {h h':H} (g:Grow h h') {b o:Nat} {r:List Value} (q:Row h b o r):Row h' b o r:=by
 obtain⟨c,el,f,op,hg,h1,h2⟩:=q
 exact⟨c,el,f,op,g.old _ _ hg,h1,h2⟩
theorem Row.upd {S:Nat→Prop} {h h':H} (u:Upd S h h') {b o:Nat} {r:List Value} (q:Row h b o r) (hS:¬ S b):Row h' b o r:=by
 obtain⟨c,el,f,op,hg,h1,h2⟩:=q
 exact⟨c,el,f,op,u.old _ _ hS hg,h1,h2⟩
theorem Row.row {h:H} {b o:Nat} {r:List Value} (q:Row h b o r) {n:Nat} (hn:r.length=n):h.row ⟨b,o,none⟩ n=some r:=by
 obtain⟨c,el,f,op,hg,h1,h2⟩:=q
 subst hn
 rw[H.row_eq hg h1,h2]
theorem Row.cell {h:H} {b o:Nat} {r:List Value} (q:Row h b o r) {j:Nat} {v:Value} (hv:r[j]? = some v):h.cell ⟨b,o+j,none⟩=some v:=by
 obtain⟨c,el,f,op,hg,h1,h2⟩:=q
 have hj:=(List.getElem?_eq_some_iff.1 hv).1
 rw[H.cell_eq hg]
 rw[← h2,List.getElem?_take_of_lt hj,List.getElem?_drop] at hv
 exact hv
theorem Row.sub {h:H} {b o:Nat} {r:List Value} (q:Row h b o r) {k m:Nat} (hk:k+m≤r.length):Row h b (o+k) ((r.drop k).take m):=by
 obtain⟨c,el,f,op,hg,h1,h2⟩:=q
 have hl:((r.drop k).take m).length=m:=by rw[List.length_take,List.length_drop]; omega
 obtain⟨n,hn⟩ : ∃ n,n=r.length:=⟨_,rfl⟩
 rw[← hn] at h1 h2 hk
 refine⟨c,el,f,op,hg,by rw[hl]; omega,?_⟩
 rw[hl,← h2,List.drop_take,List.take_take,Nat.min_eq_left (by omega),List.drop_drop]
theorem Row.lt {h:H} {b o:Nat} {r:List Value} (q:Row h b o r):b<h.next:=by
 obtain⟨c,el,f,op,hg,h1,h2⟩:=q
 exact H.get_lt hg
theorem Row.of {h:H} {b:Nat} {c:List Value} {el:TypeId} {f:Nat} {op:Bool} (hg:h.get b=some (.cells c el f op)):Row h b 0 c:=⟨c,el,f,op,hg,by omega,by rw[List.drop_zero,List.take_length]⟩
theorem Row.pre {h:H} {b o:Nat} {r s:List Value} (q:Row h b o (r++s)):Row h b o r:=by
 have:=q.sub (k:=0) (m:=r.length) (by rw[List.length_append]; omega)
 rwa [Nat.add_zero,List.drop_zero,List.take_left] at this
def Nul (v:Value):Prop:=v = .slice none 0 0∨(∃ b o k,v = .slice (some ⟨b,o,some (k+1)⟩) 0 0)
theorem Nul.nil:Nul (.slice none 0 0):=.inl rfl
theorem Nul.val {v:Value} (q:Nul v):∃ a,v = .slice a 0 0:=by
 rcases q with rfl|⟨b,o,k,rfl⟩
 ·exact⟨_,rfl⟩
 ·exact⟨_,rfl⟩
def SpOk (h:H) (b:Nat) (sp:Option Nat) (E:Nat):Prop:=(sp=some 0)∨(sp=none∧∃ c el f op,h.get b=some (.cells c el f op)∧(op=true→Tryz.prog.cellsOf el=E))
theorem bv_len (l:List UInt8):(byteVals l).length=l.length:=by simp[byteVals]
theorem bv_at {l:List UInt8} {i:Nat} (hi:i<l.length):(byteVals l)[i]? = some (.int .u8 ((l.getD i 0).toNat:Int)):=by
 simp[byteVals,hi,List.getD]
theorem bv_app (a b:List UInt8):byteVals (a++b)=byteVals a++byteVals b:=by simp[byteVals]
theorem bv_take (a:List UInt8) (n:Nat):byteVals (a.take n)=(byteVals a).take n:=by simp[byteVals,List.map_take]
theorem bv_drop (a:List UInt8) (n:Nat):byteVals (a.drop n)=(byteVals a).drop n:=by simp[byteVals,List.map_drop]
theorem bv_ones:∀ (l:List UInt8),ones (byteVals l)=true
 |[]=>rfl
 |b::l=>by
  show (true&&ones (byteVals l))=true
  rw[bv_ones l]; rfl
theorem ofBytes_vals:∀ (l:List UInt8),ofBytes? (byteVals l)=some l
 |[]=>rfl
 |b::l=>by
  show (bif Nat.blt b.toNat 256 then (ofBytes? (byteVals l)).map (UInt8.ofNat b.toNat :: ·) else none)=_
  rw[ofBytes_vals l,bltT b.toNat_lt]
  simp
def BV (h:H) (v:Value) (l:List UInt8):Prop:=
 (Nul v∧l=[])∨∃ b o sp cap,v = .slice (some ⟨b,o,sp⟩) l.length cap∧l.length≤cap∧Row h b o (byteVals l)∧SpOk h b sp 1
theorem BV.grow {h h':H} (g:Grow h h') {v:Value} {l:List UInt8} (q:BV h v l):BV h' v l:=by
 refine q.imp id ?_
 rintro ⟨b,o,sp,cap,e,hc,r,s⟩
 exact⟨b,o,sp,cap,e,hc,r.grow g,s.imp id fun ⟨e,c,el,f,op,hg,x⟩=>⟨e,c,el,f,op,g.old _ _ hg,x⟩⟩
theorem BV.upd {S:Nat→Prop} {h h':H} (u:Upd S h h') {v:Value} {l:List UInt8} (q:BV h v l) (hS:∀ b o sp n c,v = .slice (some ⟨b,o,sp⟩) n c→¬ S b):BV h' v l:=by
 refine q.imp id ?_
 rintro ⟨b,o,sp,cap,e,hc,r,s⟩
 exact⟨b,o,sp,cap,e,hc,r.upd u (hS _ _ _ _ _ e),s.imp id fun ⟨e',c,el,f,op,hg,x⟩=>⟨e',c,el,f,op,u.old _ _ (hS _ _ _ _ _ e) hg,x⟩⟩
theorem BV.val {h:H} {v:Value} {l:List UInt8} (q:BV h v l):∃ a cap,v = .slice a l.length cap:=by
 rcases q with ⟨e,rfl⟩|⟨b,o,sp,cap,e,_⟩
 ·obtain⟨a,e⟩:=e.val
  exact⟨_,_,e⟩
 ·exact⟨_,_,e⟩
theorem BV.len {h:H} {v:Value} {l:List UInt8} (q:BV h v l) (h':H):xbuiltin Tryz.prog .len [71] [v] h' = .ok (.int .i64 (l.length:Nat)) h':=by
 obtain⟨a,cap,rfl⟩:=q.val
 exact ln71 _ _ _ _
theorem BV.lenV {h:H} {v:Value} {l:List UInt8} (q:BV h v l):Kx.lenV v=some l.length:=by
 obtain⟨a,cap,rfl⟩:=q.val
 rfl
theorem BV.at_ {h:H} {v:Value} {l:List UInt8} (q:BV h v l) {i:Nat} (hi:i<l.length) :
  ∃ a,(∀ (k:IntKind) (h':H),xindexAddr Tryz.prog 71 v (.int k (i:Nat)) h' = .ok (.pointer (some a)) h')∧h.cell a=some (.int .u8 ((l.getD i 0).toNat:Int)):=by
 rcases q with ⟨_,rfl⟩|⟨b,o,sp,cap,rfl,hc,r,_⟩
 ·simp at hi
 ·refine⟨⟨b,o+i*1,none⟩,fun k h'=>ia71 _ _ _ _ _ _ k h' hi,?_⟩
  rw[Nat.mul_one]
  exact r.cell (bv_at hi)
theorem BV.ld {h:H} {v:Value} {l:List UInt8} (q:BV h v l) {i:Nat} (hi:i<l.length) (k:IntKind) (K:Value→H→Res Value) :
  ((xindexAddr Tryz.prog 71 v (.int k (i:Nat)) h).go .pan fun t h'=>((xload Tryz.prog 5 t h').go .pan K))=K (.int .u8 ((l.getD i 0).toNat:Int)) h:=by
 obtain⟨a,e1,e2⟩:=q.at_ hi
 rw[e1,go_ok,ld5,e2,ofO_some,go_ok]
theorem BV.ld1 {h:H} {v:Value} {l:List UInt8} (q:BV h v l) {i:Nat} (hi:i<l.length) (k:IntKind) (K:Value→H→Res Value) :
  ((xindexAddr Tryz.prog 71 v (.int k (i:Nat)) h).ok1 fun t h'=>((xload Tryz.prog 5 t h').ok1 K))=K (.int .u8 ((l.getD i 0).toNat:Int)) h:=by
 obtain⟨a,e1,e2⟩:=q.at_ hi
 rw[e1,Res.ok1_ok,ld5,e2,ofO_some,Res.ok1_ok]
theorem BV.first {h:H} {v:Value} {l:List UInt8} (q:BV h v l) {n:Nat} (h0:n≠0) (hn:n≤l.length):firstC h 1 n v=some (byteVals (l.take n)):=by
 rcases q with ⟨_,rfl⟩|⟨b,o,sp,cap,rfl,hc,r,_⟩
 ·simp at hn; omega
 ·show h.row ⟨b,o,none⟩ (n*1)=_
  have:=r.sub (k:=0) (m:=n) (by rw[bv_len]; omega)
  rw[Nat.add_zero,List.drop_zero] at this
  rw[this.row (by rw[List.length_take,bv_len]; omega),bv_take]
theorem BV.cut {h:H} {v:Value} {l:List UInt8} (q:BV h v l) {lo hi:Option Value} {i j:Nat} (h1:asNat? lo 0=some i) (h2:asNat? hi l.length=some j) (hij:i≤j) (hj:j≤l.length) :
  ∃ v',xslice Tryz.prog 71 v lo hi none h = .ok v' h∧BV h v' ((l.take j).drop i)∧∀ b o sp n c,v' = .slice (some ⟨b,o,sp⟩) n c→∃ o' sp' n' c',v = .slice (some ⟨b,o',sp'⟩) n' c':=by
 have hu:=un71
 have hz:=sz5
 have non:∀ (d:Nat),asNat? none d=some d:=fun d=>rfl
 rcases q with ⟨e,rfl⟩|⟨b,o,sp,cap,rfl,hc,r,s⟩
 ·have hj0:j=0:=by simpa using hj
  subst hj0
  have hi0:i=0:=by omega
  subst hi0
  rcases e with rfl|⟨b,o,k,rfl⟩
  ·refine⟨.slice none 0 0,?_,.inl ⟨.inl rfl,rfl⟩,fun _ _ _ _ _ z=>by cases z⟩
   unfold xslice
   simp only[hu,hz,h1,show asNat? hi 0=some 0 from h2,non,cond_true,Option.isNone_none,Bool.true_or]
  ·refine⟨.slice (some ⟨b,o,some (k+1)⟩) 0 0,?_,.inl ⟨.inr ⟨b,o,k,rfl⟩,rfl⟩,fun b' _ _ _ _ z=>by cases z; exact⟨_,_,_,_,rfl⟩⟩
   unfold xslice
   simp only[hu,hz,h1,show asNat? hi 0=some 0 from h2,non,cond_true,Nat.ble_eq_true_of_le (Nat.le_refl 0),Bool.and_self]
   cases k<;>rfl
 ·have hlen:((l.take j).drop i).length=j - i:=by rw[List.length_drop,List.length_take]; omega
  have hrow:Row h b (o+i) (byteVals ((l.take j).drop i)):=by
   have:=r.sub (k:=i) (m:=j - i) (by rw[bv_len]; omega)
   rw[bv_drop,bv_take,List.drop_take]
   exact this
  have hle:∀ {x y:Nat},x≤y→Nat.ble x y=true:=Nat.ble_eq_true_of_le
  rcases s with rfl|⟨rfl,c,el,f,op,hg,hop⟩
  ·by_cases hm:cap=i
   ·subst hm
    refine⟨.slice (some ⟨b,o,some 0⟩) (j - cap) (cap - cap),?_,.inr ⟨b,o,some 0,cap - cap,by rw[hlen],by rw[hlen]; omega,?_,.inl rfl⟩,fun _ _ _ _ _ z=>by cases z; exact⟨_,_,_,_,rfl⟩⟩
    ·unfold xslice
     simp only[hu,hz,h1,h2,non,hle hij,hle (show j≤cap by omega),hle (Nat.le_refl cap),Bool.and_self,cond_true,cutAt,beqT rfl,cond_false]
    ·have:(l.take j).drop cap=[]:=List.drop_of_length_le (by rw[List.length_take]; omega)
     rw[this]
     obtain⟨c,el,f,op,hg,g1,g2⟩:=r
     exact⟨c,el,f,op,hg,by simp[byteVals]; omega,by simp[byteVals]⟩
   ·refine⟨.slice (some ⟨b,o+i*Tryz.prog.cellsOf 5,some 0⟩) (j - i) (cap - i),?_,.inr ⟨b,o+i,some 0,cap - i,by rw[hlen,co5,Nat.mul_one],by rw[hlen]; omega,hrow,.inl rfl⟩,fun _ _ _ _ _ z=>by cases z; exact⟨_,_,_,_,rfl⟩⟩
    unfold xslice
    simp only[hu,hz,h1,h2,non,hle hij,hle (show j≤cap by omega),hle (Nat.le_refl cap),Bool.and_self,cond_true,cutAt,beqF hm,cond_false]
  ·by_cases hm:cap=i
   ·subst hm
    have hnil:(l.take j).drop cap=[]:=List.drop_of_length_le (by rw[List.length_take]; omega)
    cases op with
    |true=>
     refine⟨.slice (some ⟨b,o,some 1⟩) (j - cap) (cap - cap),?_,.inl ⟨.inr ⟨b,o,0,by rw[Nat.sub_self,show j - cap=0 by omega]⟩,hnil⟩,fun _ _ _ _ _ z=>by cases z; exact⟨_,_,_,_,rfl⟩⟩
     unfold xslice
     simp only[hu,hz,h1,h2,non,hle hij,hle (show j≤cap by omega),hle (Nat.le_refl cap),Bool.and_self,cond_true,H.opnSz,hg,hop rfl,co5,cutAt,beqT rfl]
    |false=>
     refine⟨.slice (some ⟨b,o,none⟩) (j - cap) (cap - cap),?_,.inr ⟨b,o,none,cap - cap,by rw[hlen],by rw[hlen]; omega,?_,.inr ⟨rfl,c,el,f,false,hg,hop⟩⟩,fun _ _ _ _ _ z=>by cases z; exact⟨_,_,_,_,rfl⟩⟩
     ·unfold xslice
      simp only[hu,hz,h1,h2,non,hle hij,hle (show j≤cap by omega),hle (Nat.le_refl cap),Bool.and_self,cond_true,H.opnSz,hg,cutAt,beqT rfl,cond_false]
     ·rw[hnil]
      obtain⟨c,el,f,op,hg,g1,g2⟩:=r
      exact⟨c,el,f,op,hg,by simp[byteVals]; omega,by simp[byteVals]⟩
   ·refine⟨.slice (some ⟨b,o+i*1,none⟩) (j - i) (cap - i),?_,.inr ⟨b,o+i,none,cap - i,by rw[hlen,Nat.mul_one],by rw[hlen]; omega,hrow,.inr ⟨rfl,c,el,f,op,hg,hop⟩⟩,fun _ _ _ _ _ z=>by cases z; exact⟨_,_,_,_,rfl⟩⟩
    cases op with
    |true=>
     unfold xslice
     simp only[hu,hz,h1,h2,non,hle hij,hle (show j≤cap by omega),hle (Nat.le_refl cap),Bool.and_self,cond_true,H.opnSz,hg,hop rfl,co5,cutAt,beqT rfl,beqF hm,cond_false]
    |false=>
     unfold xslice
     simp only[hu,hz,h1,h2,non,hle hij,hle (show j≤cap by omega),hle (Nat.le_refl cap),Bool.and_self,cond_true,H.opnSz,hg,cutAt,co5,beqF hm,cond_false]
end Go.Proofs.YtbfgadekkemlcaaGreatDoor.K
namespace Go.Proofs.YtbfgadekkemlcaaGreatDoor.K
open Go Go.Kx
theorem and31 {n:Nat} (h1:0<n) (h2:n≤32) (t:TypeId) (h:H):xbin Tryz.prog .and t (.int .u64 (IntKind.u64.wrap (IntKind.i64.wrap (0 - (n:Int))))) (.int .u64 31) h = .ok (.int .u64 ((32 - n:Nat):Int) ) h∨n=32:=by
 by_cases h32:n=32
 ·exact .inr h32
 left
 have e0:IntKind.u64.wrap (IntKind.i64.wrap (0 - (n:Int)))=((18446744073709551616 - n:Nat):Int):=by
  simp[IntKind.wrap,IntKind.bits,IntKind.signed]; omega
 have e:prun Tryz.prog (Op.intBits .and .u64 ((18446744073709551616 - n:Nat):Int) 31)=some (.ok (.int .u64 ((32 - n:Nat):Int))):=by
  show some (Except.ok (Value.int .u64 (IntKind.u64.wrap ((BitVec.ofInt 64 ((18446744073709551616 - n:Nat):Int) &&& BitVec.ofInt 64 31).toNat:Int))))=_
  have:(BitVec.ofInt 64 ((18446744073709551616 - n:Nat):Int) &&& BitVec.ofInt 64 31).toNat=32 - n:=by
   rw[BitVec.toNat_and,show (BitVec.ofInt 64 31).toNat=2 ^ 5 - 1 by decide,Nat.and_two_pow_sub_one_eq_mod]
   simp
   omega
  rw[this]
  congr 3
  exact wrapu64 (by omega)
 rw[e0]
 show xflat (P:=Tryz.prog) (prun Tryz.prog (Op.intBits .and .u64 ((18446744073709551616 - n:Nat):Int) 31)) h=_
 rw[e]; rfl
theorem eTurned {z:Int} (n:Nat) (hz:z=n) (h1:0<n) (h2:n<32) (x:W) (h:H):CLM (.f 134) [w32 x,.int .i64 z] h = .ok (w32 (rr x n)) h:=by
 subst hz
 have e1:xun Tryz.prog .neg (.int .i64 (n:Int)) h = .ok (.int .i64 (IntKind.i64.wrap (0 - (n:Int)))) h:=rfl
 rw[cM134,F134.eq,e1,go_ok,cM167,F167.eq,cv3_73,go_ok,(and31 h1 (by omega) _ _).resolve_right (by omega),go_ok,l32 _ _ _ _ (32 - n) rfl (by omega),go_ok,xsub,go_ok,r32 _ _ _ _ n _ (by omega),go_ok,o32,go_ok,go_ok]
 ·rfl
 ·rw[wrapu64 (by omega)]; omega
theorem wmul4 {t:Nat} (h:t<16):IntKind.i64.wrap (4*(t:Int))=((4*t:Nat):Int):=by rw[wrap64 (by omega)]; omega
theorem xmul (P:Program) (t:TypeId) (k:IntKind) (a b:Int) (h:H):xbin P .mul t (.int k a) (.int k b) h = .ok (.int k (k.wrap (a*b))) h:=by simp[xbin,flat,binOp,Op.intArith,prun,xflat,pure,Sem.pure]
def wC (l:List W):List Value:=l.map w32++List.replicate (64 - l.length) (w32 0)
theorem wC_len {l:List W} (h:l.length≤64):(wC l).length=64:=by simp[wC]; omega
theorem wC_at {l:List W} {i:Nat} (h:i<l.length):(wC l)[i]? = some (w32 (l.getD i 0)):=by
 unfold wC
 rw[List.getElem?_append_left (by simpa using h),List.getElem?_map,List.getElem?_eq_getElem h]
 simp[List.getD,h]
theorem wC_set {l:List W} (h:l.length<64) (x:W):(wC l).take l.length++([w32 x]++(wC l).drop (l.length+1))=wC (l++[x]):=by
 unfold wC
 have h1:(l.map w32).length=l.length:=by simp
 rw[List.take_left' h1,List.map_append,List.length_append,← List.drop_drop,List.drop_left' h1,List.append_assoc]
 congr 1
 simp only[List.map_cons,List.map_nil,List.length_cons,List.length_nil]
 congr 1
 rw[List.drop_replicate,show 64 - l.length - 1=64 - (l.length+1) by omega]
theorem wC_ones (l:List W):ones (wC l)=true:=by
 refine ones_iff.2 fun v hv=>?_
 unfold wC at hv
 rcases List.mem_append.1 hv with q|q
 ·obtain⟨x,_,rfl⟩:=List.mem_map.1 q; rfl
 ·rw[(List.mem_replicate.1 q).2]; rfl
theorem wC_over {l:List W} (x y:W):(wC (l++[x])).take l.length++([w32 y]++(wC (l++[x])).drop (l.length+1))=wC (l++[y]):=by
 unfold wC
 have h1:∀ z:W,((l++[z]).map w32)=l.map w32++[w32 z]:=fun z=>by simp
 rw[h1,h1,List.append_assoc,List.append_assoc,List.take_left' (by simp)]
 congr 1
 rw[← List.drop_drop,List.drop_left' (by simp)]
 simp
structure SpH (h0 h:H) (p:Nat) (l:List W):Prop where
 g:Grow h0 h
 ge:h0.next≤p
 w:h.get p=some (.cells (wC l) 156 0 false)
theorem wtz:zc156=wC []:=by kernel_rfl
theorem spread1 {h0 h:H} {p q:Nat} {v:Value} {b:List UInt8} (s:BV h0 v b) (hb:b.length=64) {t:Nat} (ht:t<16) (i:SpH h0 h p (sch b t)) (x9:Value) :
  ∃ h',SpH h0 h' p (sch b (t+1))∧(h.next=h'.next∧∀ c,c≠p→h'.get c=h.get c)∧F133.j4_1 Tryz.prog CLM nu0 nu0 v (.pointer (some ⟨q,0,none⟩)) (.pointer (some ⟨p,0,none⟩)) (.int .i64 (t:Nat)) x9 h =
   F133.l3 Tryz.prog CLM nu0 nu0 v (.pointer (some ⟨q,0,none⟩)) (.pointer (some ⟨p,0,none⟩)) (.int .i64 ((t+1:Nat):Int)) h':=by
 have sv:=s.grow i.g
 have w1:IntKind.i64.wrap (((4*t:Nat):Int)+1)=((4*t+1:Nat):Int):=by rw[wrap64 (by omega)]; omega
 have w2:IntKind.i64.wrap (((4*t:Nat):Int)+2)=((4*t+2:Nat):Int):=by rw[wrap64 (by omega)]; omega
 have w3:IntKind.i64.wrap (((4*t:Nat):Int)+3)=((4*t+3:Nat):Int):=by rw[wrap64 (by omega)]; omega
 have hl:=sch_len b t
 have hw:h.write ⟨p,0+t*1,none⟩ [w32 (wd b (4*t))]=some (h.put p (.cells (wC (sch b t++[wd b (4*t)])) 156 0 false)):=by
  rw[H.write_eq i.w (by rw[wC_len (by omega)]; simp; omega) rfl,Nat.zero_add,Nat.mul_one]
  rw[← wC_set (by omega),hl]; rfl
 have hs:sch b (t+1)=sch b t++[wd b (4*t)]:=by rw[sch,nxt,if_pos ht]
 refine⟨_,⟨i.g.put i.ge (H.get_lt i.w) _,i.ge,by rw[H.put_self i.w,hs]⟩,⟨rfl,fun c hc=>by rw[H.get_put _ _ _ _ (H.get_lt i.w),if_neg hc]⟩,?_⟩
 rw[F133.j4_1_eq,plain2_int,cond_true,xmul,Res.ok1_ok,wmul4 ht,sv.ld1 (by omega),isIntV_int,cond_true,cv5_145,Res.ok1_ok,b32_eq,p32i,cond_true,l32 (z:=24) _ _ _ _ 24 rfl (by omega),Res.ok1_ok]
 rw[cond_true,xmul,Res.ok1_ok,wmul4 ht,plain2_int,cond_true,xadd,Res.ok1_ok,w1,sv.ld1 (by omega),isIntV_int,cond_true,cv5_145,Res.ok1_ok,b32_eq,p32i,cond_true,l32 (z:=16) _ _ _ _ 16 rfl (by omega),Res.ok1_ok,p32,cond_true,o32,Res.ok1_ok]
 rw[cond_true,xmul,Res.ok1_ok,wmul4 ht,plain2_int,cond_true,xadd,Res.ok1_ok,w2,sv.ld1 (by omega),isIntV_int,cond_true,cv5_145,Res.ok1_ok,b32_eq,p32i,cond_true,l32 (z:=8) _ _ _ _ 8 rfl (by omega),Res.ok1_ok,p32,cond_true,o32,Res.ok1_ok]
 rw[cond_true,xmul,Res.ok1_ok,wmul4 ht,plain2_int,cond_true,xadd,Res.ok1_ok,w3,sv.ld1 (by omega),isIntV_int,cond_true,cv5_145,Res.ok1_ok,b32_eq,p32,cond_true,o32,Res.ok1_ok]
 rw[ia156 _ _ _ _ _ (by omega),Res.ok1_ok,st145 _ _ _ (w32_size _),w32_cells]
 show (ofU (h.write ⟨p,0+t*1,none⟩ [w32 (wd b (4*t))])).go .pan _=_
 rw[hw,ofU_some,go_ok,xadd,go_ok,show IntKind.i64.wrap ((t:Int)+1)=((t+1:Nat):Int) by rw[wrap64 (by omega)]; omega]
end Go.Proofs.YtbfgadekkemlcaaGreatDoor.K
namespace Go.Proofs.YtbfgadekkemlcaaGreatDoor.K
open Go Go.Kx
theorem ld1A64 {h:H} {p o i:Nat} {v:Value} (hi:i<64) (hv:h.cell ⟨p,o+i*1,none⟩=some v) (k:IntKind) (K:Value→Value→H→Res Value) :
  ((xindexAddr Tryz.prog 156 (.pointer (some ⟨p,o,none⟩)) (.int k (i:Nat)) h).ok1 fun t h'=>((xload Tryz.prog 145 t h').ok1 (K t)))=K (.pointer (some ⟨p,o+i*1,none⟩)) v h:=by
 rw[ia156 _ _ _ _ _ hi,Res.ok1_ok,ld145,hv,ofO_some,Res.ok1_ok]
theorem stgA64 {h:H} {p o i:Nat} {x:W} {h':H} (hi:i<64) (hw:h.write ⟨p,o+i*1,none⟩ [w32 x]=some h') (k:IntKind) (K:Value→H→Res Value) :
  ((xindexAddr Tryz.prog 156 (.pointer (some ⟨p,o,none⟩)) (.int k (i:Nat)) h).go .pan fun t h'=>((xstore Tryz.prog 145 t (w32 x) h').go .pan K))=K undef h':=by
 rw[ia156 _ _ _ _ _ hi,go_ok,st145 _ _ _ (w32_size _),w32_cells,hw,ofU_some,go_ok]
theorem st1A64 {h:H} {p o i:Nat} {x:W} {h':H} (hi:i<64) (hw:h.write ⟨p,o+i*1,none⟩ [w32 x]=some h') (k:IntKind) (K:Value→H→Res Value) :
  ((xindexAddr Tryz.prog 156 (.pointer (some ⟨p,o,none⟩)) (.int k (i:Nat)) h).ok1 fun t h'=>((xstore Tryz.prog 145 t (w32 x) h').go .pan K))=K undef h':=by
 rw[ia156 _ _ _ _ _ hi,Res.ok1_ok,st145 _ _ _ (w32_size _),w32_cells,hw,ofU_some,go_ok]
theorem ld1words {h:H} {p o i:Nat} {v:Value} (hi:i<8) (hv:h.cell ⟨p,o+i*1,none⟩=some v) (k:IntKind) (K:Value→Value→H→Res Value) :
  ((xindexAddr Tryz.prog 147 (.pointer (some ⟨p,o,none⟩)) (.int k (i:Nat)) h).ok1 fun t h'=>((xload Tryz.prog 145 t h').ok1 (K t)))=K (.pointer (some ⟨p,o+i*1,none⟩)) v h:=by
 rw[ia147 _ _ _ _ _ hi,Res.ok1_ok,ld145,hv,ofO_some,Res.ok1_ok]
theorem ldgwords {h:H} {p o i:Nat} {v:Value} (hi:i<8) (hv:h.cell ⟨p,o+i*1,none⟩=some v) (k:IntKind) (K:Value→H→Res Value) :
  ((xindexAddr Tryz.prog 147 (.pointer (some ⟨p,o,none⟩)) (.int k (i:Nat)) h).go .pan fun t h'=>((xload Tryz.prog 145 t h').go .pan K))=K v h:=by
 rw[ia147 _ _ _ _ _ hi,go_ok,ld145,hv,ofO_some,go_ok]
theorem st1words {h:H} {p o i:Nat} {x:W} {h':H} (hi:i<8) (hw:h.write ⟨p,o+i*1,none⟩ [w32 x]=some h') (k:IntKind) (K:Value→H→Res Value) :
  ((xindexAddr Tryz.prog 147 (.pointer (some ⟨p,o,none⟩)) (.int k (i:Nat)) h).ok1 fun t h'=>((xstore Tryz.prog 145 t (w32 x) h').go .pan K))=K undef h':=by
 rw[ia147 _ _ _ _ _ hi,Res.ok1_ok,st145 _ _ _ (w32_size _),w32_cells,hw,ofU_some,go_ok]
theorem rcW {h:H} {a:Addr} {x:W} (hv:h.cell a=some (w32 x)):rc (xload Tryz.prog 145 (.pointer (some a)) h) (some (w32 x))=true:=by
 rw[ld145,hv,ofO_some,veq32]
theorem wC_cell {h:H} {p:Nat} {l:List W} (hg:h.get p=some (.cells (wC l) 156 0 false)) {i:Nat} (hi:i<l.length):h.cell ⟨p,0+i*1,none⟩=some (w32 (l.getD i 0)):=by
 rw[H.cell_eq hg,Nat.zero_add,Nat.mul_one,wC_at hi]
theorem wC_w1 {h:H} {p:Nat} {l:List W} (hg:h.get p=some (.cells (wC l) 156 0 false)) (hl:l.length<64) (x:W):h.write ⟨p,0+l.length*1,none⟩ [w32 x]=some (h.put p (.cells (wC (l++[x])) 156 0 false)):=by
 rw[H.write_eq hg (by rw[wC_len (by omega)]; simp; omega) rfl,Nat.zero_add,Nat.mul_one]
 show some (h.put p (.cells ((wC l).take l.length++([w32 x]++(wC l).drop (l.length+1))) 156 0 false))=_
 rw[wC_set hl]
theorem wC_w2 {h:H} {p:Nat} {l:List W} {x:W} (hg:h.get p=some (.cells (wC (l++[x])) 156 0 false)) (hl:l.length<64) (y:W):h.write ⟨p,0+l.length*1,none⟩ [w32 y]=some (h.put p (.cells (wC (l++[y])) 156 0 false)):=by
 rw[H.write_eq hg (by rw[wC_len (by simp; omega)]; simp; omega) rfl,Nat.zero_add,Nat.mul_one]
 show some (h.put p (.cells ((wC (l++[x])).take l.length++([w32 y]++(wC (l++[x])).drop (l.length+1))) 156 0 false))=_
 rw[wC_over]
theorem getD_app {l:List W} {x:W} {i:Nat} (h:i<l.length):(l++[x]).getD i 0=l.getD i 0:=by
 simp[List.getD,List.getElem?_append_left h]
theorem getD_last {l:List W} {x:W}:(l++[x]).getD l.length 0=x:=by simp[List.getD]
theorem spread2 {h0 h:H} {p q:Nat} {b:List UInt8} {t:Nat} (t16:16≤t) (ht:t<64) (i:SpH h0 h p (sch b t)) :
  ∃ h',SpH h0 h' p (sch b (t+1))∧(h.next=h'.next∧∀ c,c≠p→h'.get c=h.get c)∧F133.j10 Tryz.prog CLM nu0 nu0 (.pointer (some ⟨q,0,none⟩)) (.pointer (some ⟨p,0,none⟩)) (.int .i64 (t:Nat)) h =
   F133.l8 Tryz.prog CLM nu0 nu0 (.pointer (some ⟨q,0,none⟩)) (.pointer (some ⟨p,0,none⟩)) (.int .i64 ((t+1:Nat):Int)) h':=by
 have hl:=sch_len b t
 obtain⟨l,el⟩ : ∃ l,l=sch b t:=⟨_,rfl⟩
 have ig:=i.w
 rw[← el] at hl ig
 have m15:IntKind.i64.wrap ((t:Int) - 15)=((t - 15:Nat):Int):=by rw[wrap64 (by omega)]; omega
 have m2:IntKind.i64.wrap ((t:Int) - 2)=((t - 2:Nat):Int):=by rw[wrap64 (by omega)]; omega
 have m7:IntKind.i64.wrap ((t:Int) - 7)=((t - 7:Nat):Int):=by rw[wrap64 (by omega)]; omega
 have m16:IntKind.i64.wrap ((t:Int) - 16)=((t - 16:Nat):Int):=by rw[wrap64 (by omega)]; omega
 obtain⟨x,hx⟩ : ∃ x,x=l.getD (t - 15) 0:=⟨_,rfl⟩
 obtain⟨y,hy⟩ : ∃ y,y=l.getD (t - 2) 0:=⟨_,rfl⟩
 obtain⟨u,hu⟩ : ∃ u,u=l.getD (t - 7) 0:=⟨_,rfl⟩
 obtain⟨z,hz⟩ : ∃ z,z=l.getD (t - 16) 0:=⟨_,rfl⟩
 have c15:h.cell ⟨p,0+(t - 15)*1,none⟩=some (w32 x):=by rw[hx]; exact wC_cell ig (by omega)
 have c2:h.cell ⟨p,0+(t - 2)*1,none⟩=some (w32 y):=by rw[hy]; exact wC_cell ig (by omega)
 obtain⟨h1,hh1⟩ : ∃ h1,h1=h.put p (.cells (wC (l++[ss1 y])) 156 0 false):=⟨_,rfl⟩
 have g1:h1.get p=some (.cells (wC (l++[ss1 y])) 156 0 false):=by rw[hh1]; exact H.put_self ig
 have w1:h.write ⟨p,0+t*1,none⟩ [w32 (ss1 y)]=some h1:=by have:=wC_w1 ig (by omega) (ss1 y); rw[hl] at this; rw[hh1]; exact this
 have d0:h1.cell ⟨p,0+t*1,none⟩=some (w32 (ss1 y)):=by have:=wC_cell g1 (i:=t) (by simp; omega); rw[← hl,getD_last] at this; rw[← hl]; exact this
 have d7:h1.cell ⟨p,0+(t - 7)*1,none⟩=some (w32 u):=by rw[hu,← getD_app (x:=ss1 y) (by omega)]; exact wC_cell g1 (by simp; omega)
 have d16:h1.cell ⟨p,0+(t - 16)*1,none⟩=some (w32 z):=by rw[hz,← getD_app (x:=ss1 y) (by omega)]; exact wC_cell g1 (by simp; omega)
 obtain⟨v2,hv2⟩ : ∃ v2,v2=ss1 y+(u+z):=⟨_,rfl⟩
 obtain⟨h2,hh2⟩ : ∃ h2,h2=h1.put p (.cells (wC (l++[v2])) 156 0 false):=⟨_,rfl⟩
 have g2:h2.get p=some (.cells (wC (l++[v2])) 156 0 false):=by rw[hh2]; exact H.put_self g1
 have w2:h1.write ⟨p,0+t*1,none⟩ [w32 v2]=some h2:=by have:=wC_w2 g1 (by omega) v2; rw[hl] at this; rw[hh2]; exact this
 have f0:h2.cell ⟨p,0+t*1,none⟩=some (w32 v2):=by have:=wC_cell g2 (i:=t) (by simp; omega); rw[← hl,getD_last] at this; rw[← hl]; exact this
 obtain⟨v3,hv3⟩ : ∃ v3,v3=v2+ss0 x:=⟨_,rfl⟩
 obtain⟨h3,hh3⟩ : ∃ h3,h3=h2.put p (.cells (wC (l++[v3])) 156 0 false):=⟨_,rfl⟩
 have g3:h3.get p=some (.cells (wC (l++[v3])) 156 0 false):=by rw[hh3]; exact H.put_self g2
 have w3:h2.write ⟨p,0+t*1,none⟩ [w32 v3]=some h3:=by have:=wC_w2 g2 (by omega) v3; rw[hl] at this; rw[hh3]; exact this
 have hs:sch b (t+1)=l++[v3]:=by rw[sch,nxt,if_neg (by omega),← el,← hx,← hy,← hu,← hz,hv3,hv2]
 have gr:Grow h0 h3:=by
  rw[hh3,hh2,hh1]
  exact ((i.g.put i.ge (H.get_lt ig) _).put i.ge (by rw[H.next_put]; exact H.get_lt ig) _).put i.ge (by rw[H.next_put,H.next_put]; exact H.get_lt ig) _
 have ot:∀ c,c≠p→h3.get c=h.get c:=fun c hc=>by
  rw[hh3,H.get_put _ _ _ _ (H.get_lt g2),if_neg hc,hh2,H.get_put _ _ _ _ (H.get_lt g1),if_neg hc,hh1,H.get_put _ _ _ _ (H.get_lt ig),if_neg hc]
 refine⟨h3,⟨gr,i.ge,by rw[hs]; exact g3⟩,⟨by rw[hh3,hh2,hh1]; rfl,ot⟩,?_⟩
 rw[F133.j10_eq,plain2_int,cond_true,xsub,Res.ok1_ok,m15,ld1A64 (by omega) c15,plain2_int,cond_true,xsub,Res.ok1_ok,m2,ld1A64 (by omega) c2,rcW c2,Bool.and_true,cond_true]
 rw[eTurned (z:=17) 17 rfl (by omega) (by omega),go_ok,eTurned (z:=19) 19 rfl (by omega) (by omega),go_ok,e32,go_ok,r32 (z:=10) _ _ _ _ 10 rfl (by omega),go_ok,e32,go_ok]
 show ((xindexAddr Tryz.prog 156 (.pointer (some ⟨p,0,none⟩)) (.int .i64 (t:Nat)) h).go .pan fun t h'=>((xstore Tryz.prog 145 t (w32 (ss1 y)) h').go .pan _))=_
 rw[stgA64 ht w1,ld1A64 ht d0,plain2_int,cond_true,xsub,Res.ok1_ok,m7,ld1A64 (by omega) d7,plain2_int,cond_true,xsub,Res.ok1_ok,m16,ld1A64 (by omega) d16,p32,cond_true,a32,Res.ok1_ok,p32,cond_true,a32,Res.ok1_ok]
 rw[← hv2,st1A64 ht w2,ld1A64 ht f0,p32i,cond_true,r32 (z:=3) _ _ _ _ 3 rfl (by omega),Res.ok1_ok,eTurned (z:=7) 7 rfl (by omega) (by omega),go_ok,rcW f0,Bool.and_true,cond_true,eTurned (z:=18) 18 rfl (by omega) (by omega),go_ok,rcW f0,Bool.and_true,cond_true,p32,cond_true,e32,Res.ok1_ok,p32,cond_true,e32,Res.ok1_ok,p32,cond_true,a32,Res.ok1_ok]
 show ((xindexAddr Tryz.prog 156 (.pointer (some ⟨p,0,none⟩)) (.int .i64 (t:Nat)) h2).ok1 fun t h'=>((xstore Tryz.prog 145 t (w32 (v2+ss0 x)) h').go .pan _))=_
 rw[← hv3,st1A64 ht w3,xadd,go_ok,show IntKind.i64.wrap ((t:Int)+1)=((t+1:Nat):Int) by rw[wrap64 (by omega)]; omega]
end Go.Proofs.YtbfgadekkemlcaaGreatDoor.K
namespace Go.Proofs.YtbfgadekkemlcaaGreatDoor.K
open Go Go.Kx
theorem kfn_cell {P:Program} {rs:List ResultVar} {a ty:Nat} {x v:Value} {h:H} (hr:rs=[.cell a ty]) (hx:xload P ty x h = .ok v h):kfn P rs .normal [(a,x)] h = .ok v h:=by
 subst hr
 show (match resV P [(a,x)] h [.cell a ty] with|some l=>Res.ok (oneV l) h|none=>.bad)=_
 have e:resV P [(a,x)] h [.cell a ty]=some [v]:=by
  unfold resV
  have e1:Fr.at [(a,x)] a=some x:=by simp[Fr.at]
  have e2:resV P [(a,x)] h []=some []:=rfl
  rw[e1,e2]
  simp only[hx]
 rw[e]; rfl
theorem spreadA {h1:H} {p q:Nat} {v:Value} {b:List UInt8} (s:BV h1 v b) (hb:b.length=64):∀ (d t:Nat) (h:H),16 - t≤d→t≤16→SpH h1 h p (sch b t) →
  ∃ h',SpH h1 h' p (sch b 16)∧F133.l3 Tryz.prog CLM nu0 nu0 v (.pointer (some ⟨q,0,none⟩)) (.pointer (some ⟨p,0,none⟩)) (.int .i64 (t:Nat)) h =
   F133.j7 Tryz.prog CLM nu0 nu0 (.pointer (some ⟨q,0,none⟩)) (.pointer (some ⟨p,0,none⟩)) h':=by
 intro d
 induction d with
 |zero=>
  intro t h hd ht i
  have:t=16:=by omega
  subst this
  refine⟨h,i,?_⟩
  rw[F133.l3_eq,xlss,go_ok,F133.j4_eq,ifV_dec,if_neg (by omega)]
 |succ d ih=>
  intro t h hd ht i
  by_cases h16:t=16
  ·exact ih t h (by omega) ht i
  ·obtain⟨h',i',_,e'⟩:=spread1 (q:=q) s hb (by omega) i (.bool (decide ((t:Int)<16)))
   obtain⟨h'',i'',e''⟩:=ih (t+1) h' (by omega) (by omega) i'
   refine⟨h'',i'',?_⟩
   rw[F133.l3_eq,xlss,go_ok,F133.j4_eq,ifV_dec,if_pos (by omega),e',e'']
theorem spreadB {h1:H} {p q:Nat} {b:List UInt8}:∀ (d t:Nat) (h:H),64 - t≤d→16≤t→t≤64→SpH h1 h p (sch b t) →
  ∃ h',SpH h1 h' p (sch b 64)∧F133.l8 Tryz.prog CLM nu0 nu0 (.pointer (some ⟨q,0,none⟩)) (.pointer (some ⟨p,0,none⟩)) (.int .i64 (t:Nat)) h =
   F133.j14 Tryz.prog CLM nu0 nu0 (.pointer (some ⟨q,0,none⟩)) (.pointer (some ⟨p,0,none⟩)) h':=by
 intro d
 induction d with
 |zero=>
  intro t h hd h16 ht i
  have:t=64:=by omega
  subst this
  refine⟨h,i,?_⟩
  rw[F133.l8_eq,xlss,go_ok,ifV_dec,if_neg (by omega)]
 |succ d ih=>
  intro t h hd h16 ht i
  by_cases h64:t=64
  ·exact ih t h (by omega) h16 ht i
  ·obtain⟨h',i',_,e'⟩:=spread2 (q:=q) h16 (by omega) i
   obtain⟨h'',i'',e''⟩:=ih (t+1) h' (by omega) (by omega) (by omega) i'
   refine⟨h'',i'',?_⟩
   rw[F133.l8_eq,xlss,go_ok,ifV_dec,if_pos (by omega),e',e'']
def schV (b:List UInt8):List Value:=(sch b 64).map w32
theorem schV_len (b:List UInt8):(schV b).length=64:=by simp[schV,sch_len]
theorem schV_wC (b:List UInt8):wC (sch b 64)=schV b:=by simp[wC,schV,sch_len]
theorem eSpread {h:H} {v:Value} {b:List UInt8} (s:BV h v b) (hb:b.length=64):∃ h',Grow h h'∧CLM (.f 133) [v] h = .ok (.agg ⟨schV b⟩) h':=by
 obtain⟨h1,hh1⟩ : ∃ h1,h1=h.alloc (.cells zc156 156 0 false):=⟨_,rfl⟩
 obtain⟨h2,hh2⟩ : ∃ h2,h2=h1.alloc (.cells zc156 156 0 false):=⟨_,rfl⟩
 have g1:Grow h h1:=by rw[hh1]; exact (Grow.refl h).alloc _
 have q1:h1.get h.next=some (.cells zc156 156 0 false):=by rw[hh1]; exact H.alloc_self _ _
 have i0:SpH h1 h2 h1.next (sch b 0):=⟨by rw[hh2]; exact (Grow.refl h1).alloc _,Nat.le_refl _,by rw[hh2,H.alloc_self,wtz]; rfl⟩
 obtain⟨h3,i3,e3⟩:=spreadA (q:=h.next) (s.grow g1) hb 16 0 h2 (by omega) (by omega) i0
 obtain⟨h4,i4,e4⟩:=spreadB (q:=h.next) 64 16 h3 (by omega) (by omega) (by omega) i3
 have q4:=i4.g.old _ _ q1
 have r4:h4.row ⟨h1.next,0,none⟩ 64=some (schV b):=by rw[H.row_all i4.w (wC_len (by rw[sch_len]; omega)),schV_wC]
 have w4:h4.write ⟨h.next,0,none⟩ (schV b)=some (h4.put h.next (.cells (schV b) 156 0 false)):=H.write_all q4 (by rw[schV_len,zc156_len]) (by rw[← schV_wC]; exact wC_ones _)
 have r5:(h4.put h.next (.cells (schV b) 156 0 false)).row ⟨h.next,0,none⟩ 64=some (schV b):=H.row_all (H.put_self q4) (schV_len b)
 refine⟨h4.put h.next (.cells (schV b) 156 0 false),(g1.trans i4.g).put (Nat.le_refl _) (H.get_lt q4) _,?_⟩
 rw[cM133,F133.eq,al156,go_ok,← hh1,al156,go_ok,← hh2]
 show F133.l3 Tryz.prog CLM nu0 nu0 v _ _ (.int .i64 ((0:Nat):Int)) h2=_
 rw[e3,F133.j7_eq]
 show F133.l8 Tryz.prog CLM nu0 nu0 _ _ (.int .i64 ((16:Nat):Int)) h3=_
 rw[e4,F133.j14_eq,ld156,r4,ofA_some,go_ok,st156 _ _ _ (by rw[asz,schV_len]),cells_agg,w4,ofU_some,go_ok]
 exact kfn_cell (ty:=156) (by kernel_rfl) (by rw[ld156,r5,ofA_some])
theorem ld1Z {h:H} {p o:Nat} {v:Value} {z:Int} (i:Nat) (hz:z=i) (hi:i<8) (hv:h.cell ⟨p,o+i*1,none⟩=some v) (k:IntKind) (K:Value→Value→H→Res Value) :
  ((xindexAddr Tryz.prog 147 (.pointer (some ⟨p,o,none⟩)) (.int k z) h).ok1 fun t h'=>((xload Tryz.prog 145 t h').ok1 (K t)))=K (.pointer (some ⟨p,o+i*1,none⟩)) v h:=by
 subst hz; exact ld1words hi hv k K
theorem ldgZ {h:H} {p o:Nat} {v:Value} {z:Int} (i:Nat) (hz:z=i) (hi:i<8) (hv:h.cell ⟨p,o+i*1,none⟩=some v) (k:IntKind) (K:Value→H→Res Value) :
  ((xindexAddr Tryz.prog 147 (.pointer (some ⟨p,o,none⟩)) (.int k z) h).go .pan fun t h'=>((xload Tryz.prog 145 t h').go .pan K))=K v h:=by
 subst hz; exact ldgwords hi hv k K
theorem bdW (a b c d e f g i:W) (h:H):xbuild Tryz.prog 147 [(0,w32 a),(1,w32 b),(2,w32 c),(3,w32 d),(4,w32 e),(5,w32 f),(6,w32 g),(7,w32 i)] h = .ok (.agg ⟨S8.v ⟨a,b,c,d,e,f,g,i⟩⟩) h:=by kernel_rfl
theorem S8v_ones (s:S8):ones s.v=true:=rfl
theorem S8v_len (s:S8):s.v.length=8:=rfl
def GT (h:H):Prop:=Row h 0 0 (KT.map w32)
theorem GT.grow {h h':H} (g:Grow h h') (q:GT h):GT h':=Row.grow g q
theorem GT.cell {h:H} (q:GT h) {t:Nat} (ht:t<64):h.cell ⟨0,0+t*1,none⟩=some (w32 (KT.getD t 0)):=by
 have:=Row.cell q (j:=t) (v:=w32 (KT.getD t 0)) (by rw[List.getElem?_map,List.getD,List.getElem?_eq_getElem (by rw[KT_len]; exact ht)]; rfl)
 rw[Nat.mul_one]; exact this
structure OvH (h0 h:H) (p1 p2 p3 p4:Nat) (s r:S8) (b:List UInt8):Prop where
 g:Grow h0 h
 gt:GT h
 b1:h.get p1=some (.cells s.v 147 0 false)
 b2:h.get p2=some (.cells zc147 147 0 false)
 b3:h.get p3=some (.cells (schV b) 156 0 false)
 b4:h.get p4=some (.cells r.v 147 0 false)
 ge:h0.next≤p1∧h0.next≤p2∧h0.next≤p3∧h0.next≤p4
 ne:p1≠p4∧p2≠p4∧p1≠p2
theorem over1 {h0 h:H} {p1 p2 p3 p4:Nat} {s r:S8} {b:List UInt8} (i:OvH h0 h p1 p2 p3 p4 s r b) {t:Nat} (ht:t<64) (h00:0<h0.next) (x15:Value) :
  ∃ h',OvH h0 h' p1 p2 p3 p4 s (rnd r (KT.getD t 0) ((sch b 64).getD t 0)) b∧F95.j5_1 Tryz.prog CLM nu0 nu0 (.pointer (some ⟨p1,0,none⟩)) (.pointer (some ⟨p2,0,none⟩)) (.pointer (some ⟨p3,0,none⟩)) (.pointer (some ⟨p4,0,none⟩)) (.int .i64 (t:Nat)) x15 h =
   F95.l4 Tryz.prog CLM nu0 nu0 (.pointer (some ⟨p1,0,none⟩)) (.pointer (some ⟨p2,0,none⟩)) (.pointer (some ⟨p3,0,none⟩)) (.pointer (some ⟨p4,0,none⟩)) (.int .i64 ((t+1:Nat):Int)) h':=by
 obtain⟨k,hk⟩ : ∃ k,k=KT.getD t 0:=⟨_,rfl⟩
 obtain⟨w,hw⟩ : ∃ w,w=(sch b 64).getD t 0:=⟨_,rfl⟩
 rw[← hk,← hw]
 have ck:h.cell ⟨0,0+t*1,none⟩=some (w32 k):=by rw[hk]; exact i.gt.cell ht
 have cw:h.cell ⟨p3,0+t*1,none⟩=some (w32 w):=by
  rw[H.cell_eq i.b3,Nat.zero_add,Nat.mul_one,hw,schV,List.getElem?_map,List.getElem?_eq_getElem (by rw[sch_len]; exact ht)]
  simp[List.getD,sch_len,ht]
 have c0:h.cell ⟨p4,0+0*1,none⟩=some (w32 r.a):=by rw[H.cell_eq i.b4]; rfl
 have c1:h.cell ⟨p4,0+1*1,none⟩=some (w32 r.b):=by rw[H.cell_eq i.b4]; rfl
 have c2:h.cell ⟨p4,0+2*1,none⟩=some (w32 r.c):=by rw[H.cell_eq i.b4]; rfl
 have c3:h.cell ⟨p4,0+3*1,none⟩=some (w32 r.d):=by rw[H.cell_eq i.b4]; rfl
 have c4:h.cell ⟨p4,0+4*1,none⟩=some (w32 r.e):=by rw[H.cell_eq i.b4]; rfl
 have c5:h.cell ⟨p4,0+5*1,none⟩=some (w32 r.f):=by rw[H.cell_eq i.b4]; rfl
 have c6:h.cell ⟨p4,0+6*1,none⟩=some (w32 r.g):=by rw[H.cell_eq i.b4]; rfl
 have c7:h.cell ⟨p4,0+7*1,none⟩=some (w32 r.h):=by rw[H.cell_eq i.b4]; rfl
 have hwr:h.write ⟨p4,0,none⟩ (rnd r k w).v=some (h.put p4 (.cells (rnd r k w).v 147 0 false)):=H.write_all i.b4 rfl rfl
 have hne3:p3≠p4:=fun z=>by have:=i.b3; rw[z,i.b4] at this; have:=(Blk.cells.inj (Option.some.inj this)).2.1; revert this; decide
 refine⟨_,⟨i.g.put i.ge.2.2.2 (H.get_lt i.b4) _,?_,H.put_ne i.b4 i.ne.1 i.b1,H.put_ne i.b4 i.ne.2.1 i.b2,H.put_ne i.b4 hne3 i.b3,H.put_self i.b4,i.ge,i.ne⟩,?_⟩
 ·obtain⟨c,el,f,op,hg,g1,g2⟩:=i.gt
  exact⟨c,el,f,op,H.put_ne i.b4 (by have:=i.ge.2.2.2; omega) hg,g1,g2⟩
 rw[F95.j5_1_eq,ld1Z (z:=7) 7 rfl (by omega) c7,ld1A64 ht cw,p32,cond_true,a32,Res.ok1_ok,ld1A64 ht ck,p32,cond_true,a32,Res.ok1_ok]
 rw[ld1Z (z:=4) 4 rfl (by omega) c4,ld1Z (z:=4) 4 rfl (by omega) c4,ld1Z (z:=4) 4 rfl (by omega) c4,eTurned (z:=6) 6 rfl (by omega) (by omega),go_ok,rcW c4,Bool.and_true,Bool.and_true,cond_true,eTurned (z:=11) 11 rfl (by omega) (by omega),go_ok,rcW c4,Bool.and_true,cond_true,p32,cond_true,e32,Res.ok1_ok,eTurned (z:=25) 25 rfl (by omega) (by omega),go_ok,p32,cond_true,e32,Res.ok1_ok,p32,cond_true,a32,Res.ok1_ok]
 rw[ldgZ (z:=4) 4 rfl (by omega) c4,ldgZ (z:=5) 5 rfl (by omega) c5,n32,go_ok,ldgZ (z:=4) 4 rfl (by omega) c4,not32,go_ok,ldgZ (z:=6) 6 rfl (by omega) c6,n32,go_ok,e32,go_ok,a32,go_ok]
 rw[ld1Z (z:=0) 0 rfl (by omega) c0,ld1Z (z:=0) 0 rfl (by omega) c0,ld1Z (z:=0) 0 rfl (by omega) c0,eTurned (z:=2) 2 rfl (by omega) (by omega),go_ok,rcW c0,Bool.and_true,Bool.and_true,cond_true,eTurned (z:=13) 13 rfl (by omega) (by omega),go_ok,rcW c0,Bool.and_true,cond_true,p32,cond_true,e32,Res.ok1_ok,eTurned (z:=22) 22 rfl (by omega) (by omega),go_ok,p32,cond_true,e32,Res.ok1_ok]
 rw[ldgZ (z:=0) 0 rfl (by omega) c0,ldgZ (z:=1) 1 rfl (by omega) c1,n32,go_ok,ldgZ (z:=0) 0 rfl (by omega) c0,ldgZ (z:=2) 2 rfl (by omega) c2,n32,go_ok,e32,go_ok,ldgZ (z:=1) 1 rfl (by omega) c1,ldgZ (z:=2) 2 rfl (by omega) c2,n32,go_ok,e32,go_ok,a32,go_ok,a32,go_ok]
 rw[ldgZ (z:=0) 0 rfl (by omega) c0,ldgZ (z:=1) 1 rfl (by omega) c1,ldgZ (z:=2) 2 rfl (by omega) c2,ldgZ (z:=3) 3 rfl (by omega) c3,a32,go_ok,ldgZ (z:=4) 4 rfl (by omega) c4,ldgZ (z:=5) 5 rfl (by omega) c5,ldgZ (z:=6) 6 rfl (by omega) c6,bdW,go_ok,st147 _ _ _ (by rw[asz]; rfl),cells_agg]
 show (ofU (h.write ⟨p4,0,none⟩ (rnd r k w).v)).go .pan _=_
 rw[hwr,ofU_some,go_ok,xadd,go_ok,show IntKind.i64.wrap ((t:Int)+1)=((t+1:Nat):Int) by rw[wrap64 (by omega)]; omega]
end Go.Proofs.YtbfgadekkemlcaaGreatDoor.K
namespace Go.Proofs.YtbfgadekkemlcaaGreatDoor.K
open Go Go.Kx
theorem write_set {h:H} {b i:Nat} {c:List Value} {el:TypeId} {op:Bool} (hg:h.get b=some (.cells c el 0 op)) (hi:i<c.length) {v:Value} (hv:v.oneCell'=true):h.write ⟨b,0+i*1,none⟩ [v]=some (h.put b (.cells (c.set i v) el 0 op)):=by
 have h1:ones [v]=true:=by show (v.oneCell'&&true)=true; rw[hv]; rfl
 rw[H.write_eq hg (by simp; omega) h1,Nat.zero_add,Nat.mul_one,List.set_eq_take_append_cons_drop,if_pos hi]
 rfl
theorem over2 {h0:H} {p1 p2 p3 p4:Nat} {s:S8} {b:List UInt8} (h00:0<h0.next):∀ (d t:Nat) (h:H),64 - t≤d→t≤64→OvH h0 h p1 p2 p3 p4 s (rds b s t) b →
  ∃ h',OvH h0 h' p1 p2 p3 p4 s (rds b s 64) b∧F95.l4 Tryz.prog CLM nu0 nu0 (.pointer (some ⟨p1,0,none⟩)) (.pointer (some ⟨p2,0,none⟩)) (.pointer (some ⟨p3,0,none⟩)) (.pointer (some ⟨p4,0,none⟩)) (.int .i64 (t:Nat)) h =
   F95.j13 Tryz.prog CLM nu0 nu0 (.pointer (some ⟨p1,0,none⟩)) (.pointer (some ⟨p2,0,none⟩)) (.pointer (some ⟨p4,0,none⟩)) h':=by
 intro d
 induction d with
 |zero=>
  intro t h hd ht i
  have:t=64:=by omega
  subst this
  refine⟨h,i,?_⟩
  rw[F95.l4_eq,xlss,go_ok,F95.j5_eq,ifV_dec,if_neg (by omega)]
 |succ d ih=>
  intro t h hd ht i
  by_cases h64:t=64
  ·exact ih t h (by omega) ht i
  ·have ht':t<64:=by omega
   obtain⟨h',i',e'⟩:=over1 (t:=t) i ht' h00 (.bool (decide ((t:Int)<64)))
   have er:rds b s (t+1)=rnd (rds b s t) (KT.getD t 0) ((sch b 64).getD t 0):=by rw[rds]
   rw[← er] at i'
   obtain⟨h'',i'',e''⟩:=ih (t+1) h' (by omega) (by omega) i'
   refine⟨h'',i'',?_⟩
   rw[F95.l4_eq,xlss,go_ok,F95.j5_eq,ifV_dec,if_pos (by omega),e',e'']
theorem over3 {h:H} {p1 p2 p4:Nat} {c c4:List Value} (b1:h.get p1=some (.cells c 147 0 false)) (b4:h.get p4=some (.cells c4 147 0 false)) (hne:p4≠p1) {i:Nat} {z z':Int} (hz:z=i) (hz':z'=((i+1:Nat):Int)) (hi:i<8) {x y:W} (hx:c[i]? = some (w32 x)) (hy:c4[i]? = some (w32 y)) :
  F95.l14 Tryz.prog CLM nu0 nu0 (.pointer (some ⟨p1,0,none⟩)) (.pointer (some ⟨p2,0,none⟩)) (.pointer (some ⟨p4,0,none⟩)) (.int .i64 z) h =
   F95.l14 Tryz.prog CLM nu0 nu0 (.pointer (some ⟨p1,0,none⟩)) (.pointer (some ⟨p2,0,none⟩)) (.pointer (some ⟨p4,0,none⟩)) (.int .i64 z') (h.put p1 (.cells (c.set i (w32 (x+y))) 147 0 false)):=by
 subst hz hz'
 have c1:h.cell ⟨p1,0+i*1,none⟩=some (w32 x):=by rw[H.cell_eq b1,Nat.zero_add,Nat.mul_one,hx]
 have c2:h.cell ⟨p4,0+i*1,none⟩=some (w32 y):=by rw[H.cell_eq b4,Nat.zero_add,Nat.mul_one,hy]
 have w:h.write ⟨p1,0+i*1,none⟩ [w32 (x+y)]=_:=write_set b1 (List.getElem?_eq_some_iff.1 hx).1 rfl
 rw[F95.l14_eq,xlss,go_ok,F95.j15_eq,ifV_dec,if_pos (by omega),F95.j15_1_eq,ld1words hi c1,ld1words hi c2,p32,cond_true,a32,Res.ok1_ok,st1words hi w,xadd,go_ok,show IntKind.i64.wrap ((i:Int)+1)=((i+1:Nat):Int) by rw[wrap64 (by omega)]; omega]
theorem eOver {h:H} (gt:GT h) (s:S8) {v:Value} {b:List UInt8} (bv:BV h v b) (hb:b.length=64):∃ h',Grow h h'∧CLM (.f 95) [.agg ⟨s.v⟩,v] h = .ok (.agg ⟨(ov s b).v⟩) h':=by
 have h00:0<h.next:=Row.lt gt
 obtain⟨h1,hh1⟩ : ∃ h1,h1=h.alloc (.cells s.v 147 0 false):=⟨_,rfl⟩
 obtain⟨h2,hh2⟩ : ∃ h2,h2=h1.alloc (.cells zc147 147 0 false):=⟨_,rfl⟩
 have g1:Grow h h1:=by rw[hh1]; exact (Grow.refl h).alloc _
 have g2:Grow h1 h2:=by rw[hh2]; exact (Grow.refl h1).alloc _
 have b1:h1.get h.next=some (.cells s.v 147 0 false):=by rw[hh1]; exact H.alloc_self _ _
 have b2:h2.get h1.next=some (.cells zc147 147 0 false):=by rw[hh2]; exact H.alloc_self _ _
 have n1:h1.next=h.next+1:=by rw[hh1]; rfl
 obtain⟨h3,g3,e3⟩:=eSpread (bv.grow (g1.trans g2)) hb
 have n3:h1.next<h3.next:=Nat.lt_of_lt_of_le (H.get_lt b2) g3.next
 obtain⟨h4,hh4⟩ : ∃ h4,h4=h3.alloc (.cells zc156 156 0 false):=⟨_,rfl⟩
 have g4:Grow h3 h4:=by rw[hh4]; exact (Grow.refl h3).alloc _
 have a4:h4.get h3.next=some (.cells zc156 156 0 false):=by rw[hh4]; exact H.alloc_self _ _
 have n4:h4.next=h3.next+1:=by rw[hh4]; rfl
 have w4:h4.write ⟨h3.next,0,none⟩ (schV b)=some (h4.put h3.next (.cells (schV b) 156 0 false)):=H.write_all a4 (by rw[schV_len,zc156_len]) (by rw[← schV_wC]; exact wC_ones _)
 obtain⟨h5,hh5⟩ : ∃ h5,h5=h4.put h3.next (.cells (schV b) 156 0 false):=⟨_,rfl⟩
 rw[← hh5] at w4
 have g5:Grow h3 h5:=by rw[hh5]; exact g4.put (Nat.le_refl _) (H.get_lt a4) _
 have n5:h5.next=h3.next+1:=by rw[hh5,H.next_put,n4]
 have b3:h5.get h3.next=some (.cells (schV b) 156 0 false):=by rw[hh5]; exact H.put_self a4
 have g25:Grow h2 h5:=g3.trans g5
 have r1:h5.row ⟨h.next,0,none⟩ 8=some s.v:=H.row_all ((g2.trans g25).old _ _ b1) (S8v_len s)
 obtain⟨h6,hh6⟩ : ∃ h6,h6=h5.alloc (.cells zc147 147 0 false):=⟨_,rfl⟩
 have a6:h6.get h5.next=some (.cells zc147 147 0 false):=by rw[hh6]; exact H.alloc_self _ _
 obtain⟨h7,hh7⟩ : ∃ h7,h7=h6.put h5.next (.cells s.v 147 0 false):=⟨_,rfl⟩
 have w7:h6.write ⟨h5.next,0,none⟩ s.v=some h7:=by rw[hh7]; exact H.write_all a6 (by rw[S8v_len,zc147_len]) (S8v_ones s)
 have g7:Grow h5 h7:=by rw[hh7,hh6]; exact ((Grow.refl h5).alloc _).put (Nat.le_refl _) (by simp) _
 have b4:h7.get h5.next=some (.cells s.v 147 0 false):=by rw[hh7]; exact H.put_self a6
 have G:Grow h h7:=g1.trans (g2.trans (g25.trans g7))
 have i0:OvH h h7 h.next h1.next h3.next h5.next s (rds b s 0) b:=
  ⟨G,gt.grow G,(g2.trans (g25.trans g7)).old _ _ b1,(g25.trans g7).old _ _ b2,g7.old _ _ b3,b4,⟨Nat.le_refl _,by omega,by omega,by omega⟩,⟨by omega,by omega,by omega⟩⟩
 obtain⟨h8,i8,e8⟩:=over2 h00 64 0 h7 (by omega) (by omega) i0
 obtain⟨r,hr⟩ : ∃ r,r=rds b s 64:=⟨_,rfl⟩
 rw[← hr] at i8
 have hne:h5.next≠h.next:=by omega
 obtain⟨k1,hk1⟩ : ∃ k,k=h8.put h.next (.cells (s.v.set 0 (w32 (s.a+r.a))) 147 0 false):=⟨_,rfl⟩
 have t1:k1.get h.next=some (.cells (s.v.set 0 (w32 (s.a+r.a))) 147 0 false):=by rw[hk1]; exact H.put_self i8.b1
 have q1:k1.get h5.next=some (.cells r.v 147 0 false):=by rw[hk1]; exact H.put_ne i8.b1 hne i8.b4
 obtain⟨k2,hk2⟩ : ∃ k,k=k1.put h.next (.cells ((s.v.set 0 (w32 (s.a+r.a))).set 1 (w32 (s.b+r.b))) 147 0 false):=⟨_,rfl⟩
 have t2:k2.get h.next=some (.cells ((s.v.set 0 (w32 (s.a+r.a))).set 1 (w32 (s.b+r.b))) 147 0 false):=by rw[hk2]; exact H.put_self t1
 have q2:k2.get h5.next=some (.cells r.v 147 0 false):=by rw[hk2]; exact H.put_ne t1 hne q1
 obtain⟨k3,hk3⟩ : ∃ k,k=k2.put h.next (.cells (((s.v.set 0 (w32 (s.a+r.a))).set 1 (w32 (s.b+r.b))).set 2 (w32 (s.c+r.c))) 147 0 false):=⟨_,rfl⟩
 have t3:k3.get h.next=some (.cells (((s.v.set 0 (w32 (s.a+r.a))).set 1 (w32 (s.b+r.b))).set 2 (w32 (s.c+r.c))) 147 0 false):=by rw[hk3]; exact H.put_self t2
 have q3:k3.get h5.next=some (.cells r.v 147 0 false):=by rw[hk3]; exact H.put_ne t2 hne q2
 obtain⟨k4,hk4⟩ : ∃ k,k=k3.put h.next (.cells ((((s.v.set 0 (w32 (s.a+r.a))).set 1 (w32 (s.b+r.b))).set 2 (w32 (s.c+r.c))).set 3 (w32 (s.d+r.d))) 147 0 false):=⟨_,rfl⟩
 have t4:k4.get h.next=some (.cells ((((s.v.set 0 (w32 (s.a+r.a))).set 1 (w32 (s.b+r.b))).set 2 (w32 (s.c+r.c))).set 3 (w32 (s.d+r.d))) 147 0 false):=by rw[hk4]; exact H.put_self t3
 have q4:k4.get h5.next=some (.cells r.v 147 0 false):=by rw[hk4]; exact H.put_ne t3 hne q3
 obtain⟨k5,hk5⟩ : ∃ k,k=k4.put h.next (.cells (((((s.v.set 0 (w32 (s.a+r.a))).set 1 (w32 (s.b+r.b))).set 2 (w32 (s.c+r.c))).set 3 (w32 (s.d+r.d))).set 4 (w32 (s.e+r.e))) 147 0 false):=⟨_,rfl⟩
 have t5:k5.get h.next=some (.cells (((((s.v.set 0 (w32 (s.a+r.a))).set 1 (w32 (s.b+r.b))).set 2 (w32 (s.c+r.c))).set 3 (w32 (s.d+r.d))).set 4 (w32 (s.e+r.e))) 147 0 false):=by rw[hk5]; exact H.put_self t4
 have q5:k5.get h5.next=some (.cells r.v 147 0 false):=by rw[hk5]; exact H.put_ne t4 hne q4
 obtain⟨k6,hk6⟩ : ∃ k,k=k5.put h.next (.cells ((((((s.v.set 0 (w32 (s.a+r.a))).set 1 (w32 (s.b+r.b))).set 2 (w32 (s.c+r.c))).set 3 (w32 (s.d+r.d))).set 4 (w32 (s.e+r.e))).set 5 (w32 (s.f+r.f))) 147 0 false):=⟨_,rfl⟩
 have t6:k6.get h.next=some (.cells ((((((s.v.set 0 (w32 (s.a+r.a))).set 1 (w32 (s.b+r.b))).set 2 (w32 (s.c+r.c))).set 3 (w32 (s.d+r.d))).set 4 (w32 (s.e+r.e))).set 5 (w32 (s.f+r.f))) 147 0 false):=by rw[hk6]; exact H.put_self t5
 have q6:k6.get h5.next=some (.cells r.v 147 0 false):=by rw[hk6]; exact H.put_ne t5 hne q5
 obtain⟨k7,hk7⟩ : ∃ k,k=k6.put h.next (.cells (((((((s.v.set 0 (w32 (s.a+r.a))).set 1 (w32 (s.b+r.b))).set 2 (w32 (s.c+r.c))).set 3 (w32 (s.d+r.d))).set 4 (w32 (s.e+r.e))).set 5 (w32 (s.f+r.f))).set 6 (w32 (s.g+r.g))) 147 0 false):=⟨_,rfl⟩
 have t7:k7.get h.next=some (.cells (((((((s.v.set 0 (w32 (s.a+r.a))).set 1 (w32 (s.b+r.b))).set 2 (w32 (s.c+r.c))).set 3 (w32 (s.d+r.d))).set 4 (w32 (s.e+r.e))).set 5 (w32 (s.f+r.f))).set 6 (w32 (s.g+r.g))) 147 0 false):=by rw[hk7]; exact H.put_self t6
 have q7:k7.get h5.next=some (.cells r.v 147 0 false):=by rw[hk7]; exact H.put_ne t6 hne q6
 obtain⟨k8,hk8⟩ : ∃ k,k=k7.put h.next (.cells (ov s b).v 147 0 false):=⟨_,rfl⟩
 have t8:k8.get h.next=some (.cells (ov s b).v 147 0 false):=by rw[hk8]; exact H.put_self t7
 have hfin:(((((((s.v.set 0 (w32 (s.a+r.a))).set 1 (w32 (s.b+r.b))).set 2 (w32 (s.c+r.c))).set 3 (w32 (s.d+r.d))).set 4 (w32 (s.e+r.e))).set 5 (w32 (s.f+r.f))).set 6 (w32 (s.g+r.g))).set 7 (w32 (s.h+r.h))=(ov s b).v:=by unfold ov; rw[← hr]; rfl
 have gk:Grow h k8:=by
  have st:∀ {k k':H} {c c':List Value},Grow h k→k.get h.next=some (.cells c 147 0 false)→k'=k.put h.next (.cells c' 147 0 false)→Grow h k':=fun g b e=>by rw[e]; exact g.put (Nat.le_refl _) (H.get_lt b) _
  exact st (st (st (st (st (st (st (st i8.g i8.b1 hk1) t1 hk2) t2 hk3) t3 hk4) t4 hk5) t5 hk6) t6 hk7) t7 hk8
 have b2':k8.get h1.next=some (.cells zc147 147 0 false):=by
  have hn:h1.next≠h.next:=by omega
  rw[hk8]; refine H.put_ne t7 hn ?_
  rw[hk7]; refine H.put_ne t6 hn ?_
  rw[hk6]; refine H.put_ne t5 hn ?_
  rw[hk5]; refine H.put_ne t4 hn ?_
  rw[hk4]; refine H.put_ne t3 hn ?_
  rw[hk3]; refine H.put_ne t2 hn ?_
  rw[hk2]; refine H.put_ne t1 hn ?_
  rw[hk1]; exact H.put_ne i8.b1 hn i8.b2
 have r8:k8.row ⟨h.next,0,none⟩ 8=some (ov s b).v:=H.row_all t8 (S8v_len _)
 have w8:k8.write ⟨h1.next,0,none⟩ (ov s b).v=some (k8.put h1.next (.cells (ov s b).v 147 0 false)):=H.write_all b2' (by rw[S8v_len,zc147_len]) (S8v_ones _)
 have r9:(k8.put h1.next (.cells (ov s b).v 147 0 false)).row ⟨h1.next,0,none⟩ 8=some (ov s b).v:=H.row_all (H.put_self b2') (S8v_len _)
 refine⟨k8.put h1.next (.cells (ov s b).v 147 0 false),gk.put (by omega) (H.get_lt b2') _,?_⟩
 rw[cM95,F95.eq,xbox_eq,go_ok,cells_agg,← hh1,al147,go_ok,← hh2,e3,go_ok,al156,go_ok,← hh4,st156 _ _ _ (by rw[asz,schV_len]),cells_agg,w4,ofU_some,go_ok,ld147,r1,ofA_some,go_ok,al147,go_ok,← hh6,st147 _ _ _ (by rw[asz,S8v_len]),cells_agg,w7,ofU_some,go_ok]
 show F95.l4 Tryz.prog CLM nu0 nu0 _ _ _ _ (.int .i64 ((0:Nat):Int)) h7=_
 rw[e8,F95.j13_eq,over3 (z:=0) (z':=1) i8.b1 i8.b4 hne (i:=0) rfl rfl (by omega) (x:=s.a) (y:=r.a) rfl rfl,← hk1,over3 (z:=1) (z':=2) t1 q1 hne (i:=1) rfl rfl (by omega) (x:=s.b) (y:=r.b) rfl rfl,← hk2,
  over3 (z:=2) (z':=3) t2 q2 hne (i:=2) rfl rfl (by omega) (x:=s.c) (y:=r.c) rfl rfl,← hk3,over3 (z:=3) (z':=4) t3 q3 hne (i:=3) rfl rfl (by omega) (x:=s.d) (y:=r.d) rfl rfl,← hk4,
  over3 (z:=4) (z':=5) t4 q4 hne (i:=4) rfl rfl (by omega) (x:=s.e) (y:=r.e) rfl rfl,← hk5,over3 (z:=5) (z':=6) t5 q5 hne (i:=5) rfl rfl (by omega) (x:=s.f) (y:=r.f) rfl rfl,← hk6,
  over3 (z:=6) (z':=7) t6 q6 hne (i:=6) rfl rfl (by omega) (x:=s.g) (y:=r.g) rfl rfl,← hk7,over3 (z:=7) (z':=8) t7 q7 hne (i:=7) rfl rfl (by omega) (x:=s.h) (y:=r.h) rfl rfl,hfin,← hk8]
 rw[F95.l14_eq,xlss,go_ok,F95.j15_eq,ifV_dec,if_neg (by omega),F95.j18_eq,ld147,r8,ofA_some,go_ok,st147 _ _ _ (by rw[asz,S8v_len]),cells_agg,w8,ofU_some,go_ok]
 exact kfn_cell (ty:=147) (by kernel_rfl) (by rw[ld147,r9,ofA_some])
end Go.Proofs.YtbfgadekkemlcaaGreatDoor.K
namespace Go.Proofs.YtbfgadekkemlcaaGreatDoor.K
open Go Go.Kx
theorem xrem (P:Program) (t:TypeId) (k:IntKind) {a b:Int} (h:H) (hb:b≠0):xbin P .rem t (.int k a) (.int k b) h = .ok (.int k (a.tmod b)) h:=by simp[xbin,flat,binOp,Op.intDiv,hb,prun,xflat,pure,Sem.pure]
theorem xquo (P:Program) (t:TypeId) (k:IntKind) {a b:Int} (h:H) (hb:b≠0):xbin P .quo t (.int k a) (.int k b) h = .ok (.int k (k.wrap (a.tdiv b))) h:=by simp[xbin,flat,binOp,Op.intDiv,hb,prun,xflat,pure,Sem.pure]
theorem xremN (P:Program) (t:TypeId) (k:IntKind) {z:Int} (a b:Nat) (hz:z=b) (h:H) (hb:0<b):xbin P .rem t (.int k (a:Int)) (.int k z) h = .ok (.int k ((a % b:Nat):Int)) h:=by
 subst hz
 rw[xrem _ _ _ _ (by omega),Int.tmod_eq_emod_of_nonneg (by omega)]
 rfl
theorem xquoN (P:Program) (t:TypeId) {z:Int} (a b:Nat) (hz:z=b) (h:H) (hb:0<b) (ha:a≤9223372036854775807):xbin P .quo t (.int .i64 (a:Int)) (.int .i64 z) h = .ok (.int .i64 ((a / b:Nat):Int)) h:=by
 subst hz
 have hle:a / b≤a:=Nat.div_le_self a b
 rw[xquo _ _ _ _ (by omega),Int.tdiv_eq_ediv_of_nonneg (by omega),show ((a:Int) / (b:Int))=((a / b:Nat):Int) from rfl,wrap64 ⟨Int.le_trans (by decide) (Int.natCast_nonneg _),by omega⟩]
theorem xcp_0 {P:Program} {t e:TypeId} {b o n cap:Nat} {sp:Option Nat} {h:H} {v:Value} {k:Nat} (he:elemOf? P t=some e) (hz:szOk P e=true) (hl:lenV v=some k) (h0:Nat.min k n=0) :
  xbuiltin P .copy [t,t] [.slice (some ⟨b,o,sp⟩) n cap,v] h = .ok (goInt (Nat.min k n)) h:=by
 show xcopy P t _ _ h=_
 unfold xcopy
 simp only[he,hl,hz,cond_true,firstD,beqT h0]
theorem xcp_1 {P:Program} {t e:TypeId} {b o n cap:Nat} {sp:Option Nat} {h h':H} {v:Value} {l:List Value} {k:Nat} (he:elemOf? P t=some e) (hz:szOk P e=true) (hl:lenV v=some k) (hf:firstC h (P.cellsOf e) (Nat.min k n) v=some l) (h0:Nat.min k n≠0) (hw:h.write ⟨b,o,none⟩ l=some h') :
  xbuiltin P .copy [t,t] [.slice (some ⟨b,o,sp⟩) n cap,v] h = .ok (goInt (Nat.min k n)) h':=by
 show xcopy P t _ _ h=_
 unfold xcopy
 simp only[he,hl,hz,cond_true,firstD,beqF h0,cond_false,hf,hw]
theorem bdI (h:H):xbuild Tryz.prog 147 [(0,(.int .u32 1779033703)),(1,(.int .u32 3144134277)),(2,(.int .u32 1013904242)),(3,(.int .u32 2773480762)),(4,(.int .u32 1359893119)),(5,(.int .u32 2600822924)),(6,(.int .u32 528734635)),(7,(.int .u32 1541459225))] h = .ok (.agg ⟨init8.v⟩) h:=by kernel_rfl
theorem eFirst (h:H):∃ h',Grow h h'∧CLM (.f 94) [] h = .ok (.agg ⟨init8.v⟩) h':=by
 obtain⟨h1,hh1⟩ : ∃ h1,h1=h.alloc (.cells zc147 147 0 false):=⟨_,rfl⟩
 have b1:h1.get h.next=some (.cells zc147 147 0 false):=by rw[hh1]; exact H.alloc_self _ _
 have w1:h1.write ⟨h.next,0,none⟩ init8.v=some (h1.put h.next (.cells init8.v 147 0 false)):=H.write_all b1 (by rw[S8v_len,zc147_len]) (S8v_ones _)
 refine⟨h1.put h.next (.cells init8.v 147 0 false),by rw[hh1]; exact ((Grow.refl h).alloc _).put (Nat.le_refl _) (by simp) _,?_⟩
 rw[cM94,F94.eq,al147,go_ok,← hh1,bdI,go_ok,st147 _ _ _ (by rw[asz,S8v_len]),cells_agg,w1,ofU_some,go_ok]
 exact kfn_cell (ty:=147) (by kernel_rfl) (by rw[ld147,H.row_all (H.put_self b1) (S8v_len _),ofA_some])
def hC (s:S8) (rest:List UInt8) (n:Nat):List Value:=s.v++(byteVals rest++[.int .i64 (n:Int)])
theorem hC_len {s:S8} {rest:List UInt8} {n:Nat} (hr:rest.length=64):(hC s rest n).length=73:=by simp[hC,S8v_len,bv_len,hr]
theorem hC_ones (s:S8) (rest:List UInt8) (n:Nat):ones (hC s rest n)=true:=ones_append (S8v_ones s) (ones_append (bv_ones _) rfl)
def HB (h:H) (p:Nat) (m:List UInt8):Prop:=∃ s rest,h.get p=some (.cells (hC s rest m.length) 151 0 false)∧HS m s rest
theorem HB.upd {S:Nat→Prop} {h h':H} (u:Upd S h h') {p:Nat} {m:List UInt8} (q:HB h p m) (hS:¬ S p):HB h' p m:=by
 obtain⟨s,rest,hg,x⟩:=q
 exact⟨s,rest,u.old _ _ hS hg,x⟩
theorem HB.grow {h h':H} (g:Grow h h') {p:Nat} {m:List UInt8} (q:HB h p m):HB h' p m:=q.upd (g.upd fun _=>False) id
section
variable {h:H} {p n:Nat} {s:S8} {rest:List UInt8}
theorem hw0 (hg:h.get p=some (.cells (hC s rest n) 151 0 false)) (hr:rest.length=64) (s':S8):h.write ⟨p,0,none⟩ s'.v=some (h.put p (.cells (hC s' rest n) 151 0 false)):=by
 rw[H.write_eq hg (by rw[hC_len hr,S8v_len]; omega) (S8v_ones _),S8v_len]
 rfl
theorem hw8 (hg:h.get p=some (.cells (hC s rest n) 151 0 false)) (hr:rest.length=64) {o:Nat} {d:List UInt8} (ho:o+d.length≤64) :
  h.write ⟨p,8+o,none⟩ (byteVals d)=some (h.put p (.cells (hC s (rest.take o++(d++rest.drop (o+d.length))) n) 151 0 false)):=by
 rw[H.write_eq hg (by rw[hC_len hr,bv_len]; omega) (bv_ones _)]
 have key:(hC s rest n).take (8+o)++(byteVals d++(hC s rest n).drop (8+o+(byteVals d).length))=hC s (rest.take o++(d++rest.drop (o+d.length))) n:=?_
 ·rw[key]
 unfold hC
 rw[bv_len]
 have e1:(s.v++(byteVals rest++[Value.int .i64 (n:Int)])).take (8+o)=s.v++(byteVals rest).take o:=by
  rw[← S8v_len s,List.take_append,List.take_of_length_le (by omega),Nat.add_sub_cancel_left,List.take_append_of_le_length (by rw[bv_len]; omega)]
 have e2:(s.v++(byteVals rest++[Value.int .i64 (n:Int)])).drop (8+o+d.length)=(byteVals rest).drop (o+d.length)++[Value.int .i64 (n:Int)]:=by
  rw[Nat.add_assoc,← S8v_len s,← List.drop_drop,List.drop_left,List.drop_append_of_le_length (by rw[bv_len]; omega)]
 rw[e1,e2,bv_app,bv_app,bv_take,bv_drop]
 simp only[List.append_assoc]
theorem hw72 (hg:h.get p=some (.cells (hC s rest n) 151 0 false)) (hr:rest.length=64) (n':Nat):h.write ⟨p,72,none⟩ [.int .i64 (n':Int)]=some (h.put p (.cells (hC s rest n') 151 0 false)):=by
 rw[H.write_eq hg (by rw[hC_len hr]; simp) rfl]
 have key:(hC s rest n).take 72++([.int .i64 (n':Int)]++(hC s rest n).drop (72+[Value.int .i64 (n':Int)].length))=hC s rest n':=?_
 ·rw[key]
 unfold hC
 have hl:(s.v++byteVals rest).length=72:=by rw[List.length_append,S8v_len,bv_len,hr]
 rw[← List.append_assoc,← List.append_assoc,List.take_left' hl,List.drop_of_length_le (by rw[List.length_append,hl]; simp),List.append_nil,List.append_assoc]
theorem hr0 (hg:h.get p=some (.cells (hC s rest n) 151 0 false)) (hr:rest.length=64):h.row ⟨p,0,none⟩ 8=some s.v:=by
 rw[H.row_eq hg (by rw[hC_len hr]; omega),List.drop_zero]; rfl
theorem hr8 (hg:h.get p=some (.cells (hC s rest n) 151 0 false)) (hr:rest.length=64):Row h p 8 (byteVals rest):=by
 refine⟨_,_,_,_,hg,by rw[hC_len hr,bv_len]; omega,?_⟩
 unfold hC
 rw[← S8v_len s,List.drop_left,List.take_left]
theorem hc72 (hg:h.get p=some (.cells (hC s rest n) 151 0 false)) (hr:rest.length=64):h.cell ⟨p,72,none⟩=some (.int .i64 (n:Int)):=by
 rw[H.cell_eq hg]
 unfold hC
 have hl:(s.v++byteVals rest).length=72:=by rw[List.length_append,S8v_len,bv_len,hr]
 rw[← List.append_assoc,← hl,List.getElem?_append_right (Nat.le_refl _),Nat.sub_self]; rfl
end
theorem cutR {p lo:Nat} {x:Option Value} (hx:asNat? x 0=some lo) (hlo:lo<64) (h:H):xslice Tryz.prog 149 (.pointer (some ⟨p,8,none⟩)) x none none h = .ok (.slice (some ⟨p,8+lo,some 0⟩) (64 - lo) (64 - lo)) h:=by
 have hu:Tryz.prog.underlying 149=some (.array 64 5):=by kernel_rfl
 unfold xslice
 simp only[hu,hx,show asNat? none 64=some 64 from rfl,Nat.ble_eq_true_of_le (show lo≤64 by omega),Nat.ble_eq_true_of_le (Nat.le_refl 64),sz5,Bool.and_self,Option.isNone_none,Bool.true_or,cond_true,cutAt,beqF (show ¬ 64=lo by omega),cond_false,co5,Nat.mul_one]
theorem bvR {h:H} {p n:Nat} {s:S8} {rest:List UInt8} (hg:h.get p=some (.cells (hC s rest n) 151 0 false)) (hr:rest.length=64):BV h (.slice (some ⟨p,8+0,some 0⟩) (64 - 0) (64 - 0)) rest:=
 .inr ⟨p,8,some 0,64,by rw[hr],by omega,hr8 hg hr,.inl rfl⟩
def Apart (v:Value) (p:Nat):Prop:=∀ b o sp n c,v = .slice (some ⟨b,o,sp⟩) n c→b≠p
abbrev At (p:Nat):Nat→Prop:=fun x=>x=p
theorem wrLast {h:H} {p n:Nat} {s:S8} {rest m b:List UInt8} {v:Value} (hg:h.get p=some (.cells (hC s rest n) 151 0 false)) (hr:rest.length=64) (al:AL m s) (bv:BV h v b) (ap:Apart v p) (hb:b.length<64) :
  ∃ h' s' rest',Upd (At p) h h'∧h'.get p=some (.cells (hC s' rest' n) 151 0 false)∧HS (m++b) s' rest'∧F60.j10 Tryz.prog CLM nu0 nu0 (.pointer (some ⟨p,0,none⟩)) v h = .ok (.tuple ⟨[]⟩) h':=by
 have hs:xslice Tryz.prog 149 (.pointer (some ⟨p,0+8,none⟩)) none none none h=_:=cutR (lo:=0) rfl (by omega) h
 by_cases h0:b.length=0
 ·have hb0:b=[]:=List.length_eq_zero_iff.1 h0
  subst hb0
  refine⟨h,s,rest,Upd.refl _ _,hg,al.rest (by simp) hr (by simp),?_⟩
  rw[F60.j10_eq,xnil_ptr,go_ok,fa151_1,go_ok,hs,go_ok,xcp_0 eo71 sz5 bv.lenV (Nat.zero_min _),go_ok]
 ·have hmin:Nat.min b.length (64 - 0)=b.length:=Nat.min_eq_left (by omega)
  have hw:=hw8 hg hr (o:=0) (d:=b) (by omega)
  refine⟨_,s,rest.take 0++(b++rest.drop (0+b.length)),(Upd.refl (At p) h).put (.inl rfl) (H.get_lt hg) _,H.put_self hg,al.rest hb (by simp; omega) (by simp),?_⟩
  rw[F60.j10_eq,xnil_ptr,go_ok,fa151_1,go_ok,hs,go_ok,xcp_1 eo71 sz5 bv.lenV (by rw[hmin,co5,bv.first h0 (Nat.le_refl _),List.take_length]) (by rw[hmin]; exact h0) hw,go_ok]
theorem wrLoop {p n:Nat} (hp:p≠0):∀ (d:Nat) {h:H} {s:S8} {rest m b:List UInt8} {v:Value},b.length≤d→GT h→h.get p=some (.cells (hC s rest n) 151 0 false)→rest.length=64→AL m s→BV h v b→Apart v p →
  ∃ h' s' rest',Upd (At p) h h'∧h'.get p=some (.cells (hC s' rest' n) 151 0 false)∧HS (m++b) s' rest'∧F60.l7 Tryz.prog CLM nu0 nu0 (.pointer (some ⟨p,0,none⟩)) v h = .ok (.tuple ⟨[]⟩) h':=by
 intro d
 induction d with
 |zero=>
  intro h s rest m b v hd gt hg hr al bv ap
  obtain⟨h',s',rest',u,g',hs,e⟩:=wrLast hg hr al bv ap (by omega)
  refine⟨h',s',rest',u,g',hs,?_⟩
  rw[F60.l7_eq,bv.len,go_ok,xgeq,go_ok,ifV_dec,if_neg (by omega),e]
 |succ d ih=>
  intro h s rest m b v hd gt hg hr al bv ap
  by_cases hb:b.length<64
  ·obtain⟨h',s',rest',u,g',hs,e⟩:=wrLast hg hr al bv ap hb
   refine⟨h',s',rest',u,g',hs,?_⟩
   rw[F60.l7_eq,bv.len,go_ok,xgeq,go_ok,ifV_dec,if_neg (by omega),e]
  ·obtain⟨v1,e1,bv1,_⟩:=bv.cut (lo:=none) (hi:=some (.int .i64 64)) (i:=0) (j:=64) rfl rfl (by omega) (by omega)
   rw[List.drop_zero] at bv1
   obtain⟨h1,g1,e2⟩:=eOver gt s bv1 (by rw[List.length_take]; omega)
   have hg1:=g1.old _ _ hg
   have w1:=hw0 hg1 hr (ov s (b.take 64))
   obtain⟨h2,hh2⟩ : ∃ h2,h2=h1.put p (.cells (hC (ov s (b.take 64)) rest n) 151 0 false):=⟨_,rfl⟩
   rw[← hh2] at w1
   have u2:Upd (At p) h h2:=by rw[hh2]; exact (g1.upd (At p)).put (.inl rfl) (H.get_lt hg1) _
   have hg2:h2.get p=some (.cells (hC (ov s (b.take 64)) rest n) 151 0 false):=by rw[hh2]; exact H.put_self hg1
   have bv2:BV h2 v b:=bv.upd u2 fun b' o sp k c e=>ap b' o sp k c e
   obtain⟨v2,e3,bv3,ap3⟩:=bv2.cut (lo:=some (.int .i64 64)) (hi:=none) (i:=64) (j:=b.length) rfl rfl (by omega) (Nat.le_refl _)
   rw[List.take_length] at bv3
   have gt2:GT h2:=Row.upd u2 gt (fun z=>hp z.symm)
   obtain⟨h',s',rest',u,g',hs,e⟩:=ih (m:=m++b.take 64) (by rw[List.length_drop]; omega) gt2 hg2 hr (al.step (by omega)) bv3 (fun b' o sp k c z=>by obtain⟨o',sp',k',c',z'⟩:=ap3 _ _ _ _ _ z; exact ap _ _ _ _ _ z')
   refine⟨h',s',rest',u2.trans u,g',by rw[List.append_assoc,List.take_append_drop] at hs; exact hs,?_⟩
   rw[F60.l7_eq,bv.len,go_ok,xgeq,go_ok,ifV_dec,if_pos (by omega),F60.j9_eq,xnil_ptr,Res.ok1_ok,fa151_0,Res.ok1_ok,ld147,hr0 hg hr,ofA_some,Res.ok1_ok,e1,Res.ok1_ok,e2,go_ok,xnil_ptr,Res.ok1_ok,fa151_0,Res.ok1_ok,st147 _ _ _ (by rw[asz,S8v_len]),cells_agg,w1,ofU_some,go_ok,e3,go_ok,e]
end Go.Proofs.YtbfgadekkemlcaaGreatDoor.K
namespace Go.Proofs.YtbfgadekkemlcaaGreatDoor.K
open Go Go.Kx
def BA (h:H) (v:Value) (br:Option Nat) (l:List UInt8):Prop:=
 (br=none∧v = .slice none 0 0∧l=[]) ∨
 (br=none∧∃ b,v = .slice (some ⟨b,0,none⟩) l.length l.length∧h.get b=some (.cells (byteVals l) 5 0 false)) ∨
 (∃ b,br=some b∧v = .slice (some ⟨b,0,some 1⟩) 0 0∧l=[]∧h.get b=some (.cells [] 5 0 true)) ∨
 ∃ b sp cap,br=some b∧v = .slice (some ⟨b,0,none⟩) l.length cap∧h.get b=some (.cells (byteVals l++sp) 5 0 true)∧l.length+sp.length=cap∧ones sp=true
theorem BA.nil {h:H}:BA h (.slice none 0 0) none []:=.inl ⟨rfl,rfl,rfl⟩
theorem BA.bv {h:H} {v:Value} {br:Option Nat} {l:List UInt8} (q:BA h v br l):BV h v l:=by
 rcases q with ⟨_,rfl,rfl⟩|⟨_,b,rfl,hg⟩|⟨b,_,rfl,rfl,_⟩|⟨b,sp,cap,_,rfl,hg,hc,_⟩
 ·exact .inl ⟨.inl rfl,rfl⟩
 ·exact .inr ⟨b,0,none,_,rfl,Nat.le_refl _,Row.of hg,.inr ⟨rfl,_,_,_,_,hg,fun z=>by cases z⟩⟩
 ·exact .inl ⟨.inr ⟨b,0,0,rfl⟩,rfl⟩
 ·exact .inr ⟨b,0,none,_,rfl,by omega,Row.pre (Row.of hg),.inr ⟨rfl,_,_,_,_,hg,fun _=>co5⟩⟩
theorem BA.upd {S:Nat→Prop} {h h':H} (u:Upd S h h') {v:Value} {br:Option Nat} {l:List UInt8} (q:BA h v br l) (hS:∀ b o sp n c,v = .slice (some ⟨b,o,sp⟩) n c→¬ S b):BA h' v br l:=by
 rcases q with q|⟨e,b,e1,hg⟩|⟨b,e,e1,e2,hg⟩|⟨b,sp,cap,e,e1,hg,x⟩
 ·exact .inl q
 ·exact .inr (.inl ⟨e,b,e1,u.old _ _ (hS _ _ _ _ _ e1) hg⟩)
 ·exact .inr (.inr (.inl ⟨b,e,e1,e2,u.old _ _ (hS _ _ _ _ _ e1) hg⟩))
 ·exact .inr (.inr (.inr ⟨b,sp,cap,e,e1,u.old _ _ (hS _ _ _ _ _ e1) hg,x⟩))
theorem BA.grow {h h':H} (g:Grow h h') {v:Value} {br:Option Nat} {l:List UInt8} (q:BA h v br l):BA h' v br l:=q.upd (g.upd fun _=>False) fun _ _ _ _ _ _=>id
theorem BA.lt {h:H} {v:Value} {br:Option Nat} {l:List UInt8} (q:BA h v br l) {b:Nat} (hb:br=some b):b<h.next:=by
 rcases q with ⟨e,_⟩|⟨e,_⟩|⟨b',e,_,_,hg⟩|⟨b',_,_,e,_,hg,_⟩
 ·rw[e] at hb; cases hb
 ·rw[e] at hb; cases hb
 ·rw[e] at hb; cases hb; exact H.get_lt hg
 ·rw[e] at hb; cases hb; exact H.get_lt hg
theorem BA.el {h:H} {v:Value} {br:Option Nat} {l:List UInt8} (q:BA h v br l) {b o:Nat} {sp:Option Nat} {n c:Nat} (hv:v = .slice (some ⟨b,o,sp⟩) n c):∃ c f op,h.get b=some (.cells c 5 f op):=by
 rcases q with ⟨_,e,_⟩|⟨_,b',e,hg⟩|⟨b',_,e,_,hg⟩|⟨b',_,_,_,e,hg,_⟩<;>rw[e] at hv<;>cases hv
 ·exact⟨_,_,_,hg⟩
 ·exact⟨_,_,_,hg⟩
 ·exact⟨_,_,_,hg⟩
theorem BA.one {h:H} {v:Value} {br:Option Nat} {l:List UInt8} (q:BA h v br l):v.cells.size=1∧v.cells.toList=[v]∧v.oneCell'=true:=by
 rcases q with ⟨_,rfl,_⟩|⟨_,_,rfl,_⟩|⟨_,_,rfl,_⟩|⟨_,_,_,_,rfl,_⟩<;>exact⟨rfl,rfl,rfl⟩
theorem BA.val {h:H} {v:Value} {br:Option Nat} {l:List UInt8} (q:BA h v br l):∃ a cap,v = .slice a l.length cap∧l.length≤cap:=by
 rcases q with ⟨_,e,rfl⟩|⟨_,b,e,hg⟩|⟨b,_,e,rfl,_⟩|⟨b,sp,cap',_,e,hg,hc,_⟩
 ·exact⟨_,_,e,Nat.le_refl _⟩
 ·exact⟨_,_,e,Nat.le_refl _⟩
 ·exact⟨_,_,e,Nat.le_refl _⟩
 ·exact⟨_,_,e,by omega⟩
theorem BA.first0 {h:H} {v:Value} {br:Option Nat} {l:List UInt8} (q:BA h v br l):firstC h 1 0 v=some []:=by
 rcases q with ⟨_,rfl,_⟩|⟨_,b,rfl,hg⟩|⟨b,_,rfl,_,hg⟩|⟨b,sp,cap,_,rfl,hg,hc,_⟩
 ·rfl
 all_goals
  show h.row ⟨b,0,none⟩ (0*1)=_
  rw[Nat.zero_mul,H.row_eq hg (by omega)]
  simp
theorem xapp_k0 {P:Program} {t e xt:TypeId} {base:Option Addr} {n cap:Nat} {h:H} {x:Value} {new:List Value} (he:elemOf? P t=some e) (hz:szOk P e=true) (hx:isIntT P xt=some false) (hl:lenV x=some 0) (hf:firstC h (P.cellsOf e) 0 x=some new) (hk:n≤cap) :
  xbuiltin P .append [t,xt] [.slice base n cap,x] h = .ok (.slice base n cap) h:=by
 show xappend P t xt _ x h=_
 unfold xappend appendC
 simp only[he,hz,hx,hl,firstD_of hl hf,cond_true,Nat.add_zero,Nat.ble_eq_true_of_le hk,beqT rfl]
 cases base<;>rfl
theorem iBy:isIntT Tryz.prog 71=some false:=by kernel_rfl
theorem iStr:isIntT Tryz.prog 9=some false:=by kernel_rfl
theorem zfB:zeroFits Tryz.prog 5=true:=by kernel_rfl
theorem byB:bytesOf Tryz.prog 5=1:=by kernel_rfl
theorem BA.app {h:H} {v:Value} {br:Option Nat} {l m:List UInt8} (q:BA h v br l) (few:l.length+m.length≤35184372088832) {xt:TypeId} {x:Value} (hx:isIntT Tryz.prog xt=some false) (h1:lenV x=some m.length) (h2:firstC h 1 m.length x=some (byteVals m)) :
  ∃ v' br' h',xbuiltin Tryz.prog .append [71,xt] [v,x] h = .ok v' h'∧Upd (fun x=>some x=br) h h'∧BA h' v' br' (l++m)∧NewBr h br br'∧(br'=none→m=[]):=by
 have hf:firstC h (Tryz.prog.cellsOf 5) m.length x=some (byteVals m):=by rw[co5]; exact h2
 have b1:(l.length+m.length)*bytesOf Tryz.prog 5≤35184372088832:=by rw[byB]; omega
 by_cases hm:m.length=0
 ·have hm0:m=[]:=List.length_eq_zero_iff.1 hm
  subst hm0
  rw[List.append_nil]
  refine⟨v,br,h,?_,Upd.refl _ _,q,.inl rfl,fun _=>rfl⟩
  obtain⟨a,cap,rfl,hcap⟩:=q.val
  exact xapp_k0 eo71 sz5 hx h1 hf hcap
 ·rcases q with ⟨rfl,rfl,rfl⟩|⟨rfl,b,rfl,hg⟩|⟨b,rfl,rfl,rfl,hg⟩|⟨b,sp,cap,rfl,rfl,hg,hc,ho⟩
  ·have e1:=xapp_new (k:=m.length) (base:=none) (n:=0) (cap:=0) (old:=[]) eo71 sz5 hx h1 hf rfl (by omega) (by simpa using b1) (by simp at few; omega) (by rw[byB]; omega) zfB (bv_ones m) rfl
   refine⟨_,some h.next,_,e1,(Upd.refl _ h).alloc _,.inr (.inr (.inr ⟨h.next,[],m.length,rfl,by simp,?_,by simp,rfl⟩)),.inr ⟨_,rfl,Nat.le_refl _⟩,fun z=>by cases z⟩
   show (h.alloc _).get h.next=_
   rw[H.alloc_self]; simp
  ·have hold:firstC h (Tryz.prog.cellsOf 5) l.length (.slice (some ⟨b,0,none⟩) l.length l.length)=some (byteVals l):=by
    show h.row ⟨b,0,none⟩ (l.length*Tryz.prog.cellsOf 5)=_
    rw[co5,H.row_all hg (by rw[bv_len]; omega)]
   have ha:appOk 5 h (some ⟨b,0,none⟩)=true:=by unfold appOk; simp only[hg]
   have e1:=xapp_new eo71 sz5 hx h1 hf hold (by omega) b1 (by omega) (by rw[byB]; omega) zfB (bv_ones m) ha
   have hlv:h.leave (some ⟨b,0,none⟩)=h:=by unfold H.leave; simp only[hg]
   rw[hlv] at e1
   refine⟨_,some h.next,_,e1,(Upd.refl _ h).alloc _,.inr (.inr (.inr ⟨h.next,[],l.length+m.length,rfl,by rw[List.length_append],?_,by simp,rfl⟩)),.inr ⟨_,rfl,Nat.le_refl _⟩,fun z=>by cases z⟩
   rw[H.alloc_self,bv_app,List.append_nil]
  ·have hold:firstC h (Tryz.prog.cellsOf 5) 0 (.slice (some ⟨b,0,some 1⟩) 0 0)=some []:=by
    show h.row ⟨b,0,none⟩ (0*Tryz.prog.cellsOf 5)=_
    rw[Nat.zero_mul,H.row_eq hg (by simp)]; rfl
   have ha:appOk 5 h (some ⟨b,0,some 1⟩)=true:=by unfold appOk; simp only[hg]; rfl
   have e1:=xapp_new (n:=0) (cap:=0) eo71 sz5 hx h1 hf hold (by omega) (by simpa using b1) (by simp at few; omega) (by rw[byB]; omega) zfB (bv_ones m) ha
   have hlv:h.leave (some ⟨b,0,some 1⟩)=h.put b .dead:=by unfold H.leave; simp only[hg]
   rw[hlv] at e1
   refine⟨_,some h.next,_,e1,((Upd.refl (fun x=>some x=some b) h).put (.inl rfl) (H.get_lt hg) _).alloc _,.inr (.inr (.inr ⟨h.next,[],m.length,rfl,by simp,?_,by simp,rfl⟩)),.inr ⟨_,rfl,Nat.le_refl _⟩,fun z=>by cases z⟩
   rw[show h.next=(h.put b .dead).next from rfl,H.alloc_self]; simp
  ·have hll:=bv_len l
   have hold:firstC h (Tryz.prog.cellsOf 5) l.length (.slice (some ⟨b,0,none⟩) l.length cap)=some (byteVals l):=by
    show h.row ⟨b,0,none⟩ (l.length*Tryz.prog.cellsOf 5)=_
    rw[co5,H.row_eq hg (by rw[List.length_append]; omega),List.drop_zero,Nat.mul_one,List.take_left' hll]
   by_cases hfit:l.length+m.length≤cap
   ·have hw:h.write ⟨b,0+l.length*Tryz.prog.cellsOf 5,none⟩ (byteVals m)=some _:=H.write_eq hg (by rw[co5,List.length_append,bv_len,bv_len]; omega) (bv_ones m)
    have e1:=xapp_in eo71 sz5 hx h1 hf hfit hm hw
    refine⟨_,some b,_,e1,(Upd.refl (fun x=>some x=some b) h).put (.inl rfl) (H.get_lt hg) _,.inr (.inr (.inr ⟨b,sp.drop m.length,cap,rfl,by rw[List.length_append],?_,?_,ones_drop ho _⟩)),.inl rfl,fun z=>by cases z⟩
    ·rw[H.put_self hg,co5,Nat.zero_add,Nat.mul_one,List.take_left' hll,bv_len,← List.drop_drop,List.drop_left' hll,bv_app,List.append_assoc]
    ·rw[List.length_append,List.length_drop]; omega
   ·have ha:appOk 5 h (some ⟨b,0,none⟩)=true:=by unfold appOk; simp only[hg]; rfl
    have e1:=xapp_new eo71 sz5 hx h1 hf hold hfit b1 (by omega) (by rw[byB]; omega) zfB (bv_ones m) ha
    have hlv:h.leave (some ⟨b,0,none⟩)=h.put b .dead:=by unfold H.leave; simp only[hg]
    rw[hlv] at e1
    refine⟨_,some h.next,_,e1,((Upd.refl (fun x=>some x=some b) h).put (.inl rfl) (H.get_lt hg) _).alloc _,.inr (.inr (.inr ⟨h.next,[],l.length+m.length,rfl,by rw[List.length_append],?_,by simp,rfl⟩)),.inr ⟨_,rfl,Nat.le_refl _⟩,fun z=>by cases z⟩
    rw[show h.next=(h.put b .dead).next from rfl,H.alloc_self,bv_app,List.append_nil]
theorem firstS (s:ByteArray) (h:H):lenV (.string s)=some s.data.toList.length∧firstC h 1 s.data.toList.length (.string s)=some (byteVals s.data.toList):=by
 refine⟨rfl,?_⟩
 show (bif Nat.beq 1 1 then some (byteVals (s.data.toList.take s.data.toList.length)) else none)=_
 rw[List.take_length]; rfl
theorem BA.str {h:H} {v:Value} {br:Option Nat} {l:List UInt8} (q:BA h v br l) (s:ByteArray) (few:l.length+s.data.toList.length≤35184372088832) :
  ∃ v' br' h',xbuiltin Tryz.prog .append [71,9] [v,.string s] h = .ok v' h'∧Upd (fun x=>some x=br) h h'∧BA h' v' br' (l++s.data.toList)∧NewBr h br br'∧(br'=none→s.data.toList=[]):=
 q.app few iStr (firstS s h).1 (firstS s h).2
theorem BA.sl {h:H} {v w:Value} {br:Option Nat} {l m:List UInt8} (q:BA h v br l) (r:BV h w m) (r0:firstC h 1 0 w=some []) (few:l.length+m.length≤35184372088832) :
  ∃ v' br' h',xbuiltin Tryz.prog .append [71,71] [v,w] h = .ok v' h'∧Upd (fun x=>some x=br) h h'∧BA h' v' br' (l++m)∧NewBr h br br'∧(br'=none→m=[]):=by
 refine q.app few iBy r.lenV ?_
 by_cases hm:m.length=0
 ·rw[hm,r0,List.length_eq_zero_iff.1 hm]; rfl
 ·rw[r.first hm (Nat.le_refl _),List.take_length]
theorem BA.push {h:H} {v:Value} {br:Option Nat} {l:List UInt8} (q:BA h v br l) (few:l.length<35184372088832) (c:UInt8) :
  ∃ v' br' h',Upd (fun x=>some x=br) h h'∧BA h' v' br' (l++[c])∧NewBr h br br'∧br'≠none∧∀ K:Value→H→Res Value,((xbuildSlice Tryz.prog 71 1 [(0,.int .u8 (c.toNat:Int))] h).go .pan fun t h2=>((xbuiltin Tryz.prog .append [71,71] [v,t] h2).go .pan K))=K v' h':=by
 obtain⟨h1,hh1⟩ : ∃ h1,h1=h.alloc (.cells (byteVals [c]) 5 0 false):=⟨_,rfl⟩
 have g:Grow h h1:=by rw[hh1]; exact (Grow.refl h).alloc _
 have r:BA h1 (.slice (some ⟨h.next,0,none⟩) 1 1) none [c]:=.inr (.inl ⟨rfl,h.next,rfl,by rw[hh1]; exact H.alloc_self _ _⟩)
 obtain⟨v',br',h',e,u,q',n,nn⟩:=(q.grow g).sl r.bv r.first0 (by simp; omega)
 have eb:xbuildSlice Tryz.prog 71 1 [(0,.int .u8 (c.toNat:Int))] h = .ok (.slice (some ⟨h.next,0,none⟩) 1 1) (h.alloc (.cells [.int .u8 (c.toNat:Int)] 5 0 false)):=by kernel_rfl
 refine⟨v',br',h',(g.upd _).trans u,q',n.imp id fun ⟨b,w1,w2⟩=>⟨b,w1,Nat.le_trans g.next w2⟩,fun z=>(by have:=nn z; cases this),fun K=>?_⟩
 rw[eb,go_ok,show h.alloc (.cells [.int .u8 (c.toNat:Int)] 5 0 false)=h1 from hh1.symm,e,go_ok]
end Go.Proofs.YtbfgadekkemlcaaGreatDoor.K
namespace Go.Proofs.YtbfgadekkemlcaaGreatDoor.K
open Go Go.Kx
theorem _root_.Go.Kx.Grow.own {S:Nat→Prop} {a b c:H} (g:Grow a b) (u:Upd S b c) (hS:∀ x,S x→a.next≤x):Grow a c:=
 ⟨Nat.le_trans g.next u.next,fun x y e=>u.old x y (fun z=>by have:=hS x z; have:=H.get_lt e; omega) (g.old x y e)⟩
theorem bdH (s:S8) (h:H):xbuild Tryz.prog 151 [(0,.agg ⟨s.v⟩)] h = .ok (.agg ⟨hC s (List.replicate 64 0) 0⟩) h:=by kernel_rfl
theorem eNew (h:H):∃ h' p,Grow h h'∧h.next≤p∧HB h' p []∧CLM (.f 59) [] h = .ok (.pointer (some ⟨p,0,none⟩)) h':=by
 obtain⟨h1,g1,e1⟩:=eFirst h
 refine⟨h1.alloc (.cells (hC init8 (List.replicate 64 0) 0) 151 0 false),h1.next,g1.alloc _,g1.next,⟨init8,List.replicate 64 0,H.alloc_self _ _,HS.nil⟩,?_⟩
 rw[cM59,F59.eq,e1,go_ok,bdH,go_ok,xbox_eq,go_ok,cells_agg]
theorem eWrite {h:H} {p:Nat} {m b:List UInt8} {v:Value} (gt:GT h) (hb:HB h p m) (hp:p≠0) (bv:BV h v b) (ap:Apart v p) (few:m.length+b.length≤1152921504606846976) :
  ∃ h',Upd (At p) h h'∧HB h' p (m++b)∧CLM (.f 60) [.pointer (some ⟨p,0,none⟩),v] h = .ok (.tuple ⟨[]⟩) h':=by
 obtain⟨s,rest,hg,hs⟩:=hb
 have hr:=hs.len
 have n1:IntKind.i64.wrap ((m.length:Int)+(b.length:Int))=((m.length+b.length:Nat):Int):=by rw[wrap64 (by omega)]; omega
 have w1:=hw72 hg hr (m.length+b.length)
 obtain⟨h1,hh1⟩ : ∃ h1,h1=h.put p (.cells (hC s rest (m.length+b.length)) 151 0 false):=⟨_,rfl⟩
 rw[← hh1] at w1
 have u1:Upd (At p) h h1:=by rw[hh1]; exact (Upd.refl (At p) h).put (.inl rfl) (H.get_lt hg) _
 have hg1:h1.get p=some (.cells (hC s rest (m.length+b.length)) 151 0 false):=by rw[hh1]; exact H.put_self hg
 have gt1:GT h1:=Row.upd u1 gt (fun z=>hp z.symm)
 have bv1:BV h1 v b:=bv.upd u1 fun b' o sp k c e=>ap b' o sp k c e
 have hll:(m++b).length=m.length+b.length:=List.length_append
 have done:∀ {h':H} {s':S8} {rest':List UInt8},h'.get p=some (.cells (hC s' rest' (m.length+b.length)) 151 0 false)→HS (m++b) s' rest'→HB h' p (m++b):=fun g q=>⟨_,_,by rw[hll]; exact g,q⟩
 by_cases h0:m.length % 64=0
 ·obtain⟨h',s',rest',u,g',hs',e⟩:=wrLoop hp b.length (Nat.le_refl _) gt1 hg1 hr (hs.al h0) bv1 ap
  refine⟨h',u1.trans u,done g' hs',?_⟩
  rw[cM60,F60.eq,xnil_ptr,go_ok,fa151_2,go_ok,ld3,Nat.zero_add,hc72 hg hr,ofO_some,go_ok,xremN (z:=64) _ _ _ _ 64 rfl _ (by omega),go_ok,xnil_ptr,go_ok,fa151_2,go_ok,ld3,Nat.zero_add,hc72 hg hr,ofO_some,go_ok,bv.len,go_ok,xadd,go_ok,n1,xnil_ptr,go_ok,fa151_2,go_ok,st3 _ _ _ rfl,cells_int,Nat.zero_add,w1,ofU_some,go_ok,xgtr,go_ok,ifV_dec,if_neg (by omega),F60.j7_eq,e]
 ·have hlt:=Nat.mod_lt m.length (show 64 > 0 by omega)
  obtain⟨a,ha⟩ : ∃ a,a=m.length % 64:=⟨_,rfl⟩
  have cut:=cutR (p:=p) (x:=some (.int .i64 (a:Nat))) (lo:=a) rfl (by omega) h1
  have cp:∃ h2,xbuiltin Tryz.prog .copy [71,71] [.slice (some ⟨p,8+a,some 0⟩) (64 - a) (64 - a),v] h1 = .ok (.int .i64 ((min b.length (64 - a):Nat):Int)) h2∧Upd (At p) h1 h2 ∧
    h2.get p=some (.cells (hC s (rest.take a++(b.take (min b.length (64 - a))++rest.drop (a+(b.take (min b.length (64 - a))).length))) (m.length+b.length)) 151 0 false):=by
   by_cases hb0:b.length=0
   ·have hmin:Nat.min b.length (64 - a)=0:=by rw[hb0]; exact Nat.zero_min _
    refine⟨h1,by rw[xcp_0 eo71 sz5 bv1.lenV hmin]; rfl,Upd.refl _ _,?_⟩
    have:b=[]:=List.length_eq_zero_iff.1 hb0
    subst this
    simpa using hg1
   ·have hmin:Nat.min b.length (64 - a)≠0:=by show min b.length (64 - a)≠0; omega
    have hk:(b.take (min b.length (64 - a))).length=min b.length (64 - a):=by rw[List.length_take]; omega
    have hw:=hw8 hg1 hr (o:=a) (d:=b.take (min b.length (64 - a))) (by rw[hk]; omega)
    refine⟨_,by rw[xcp_1 eo71 sz5 bv1.lenV (l:=byteVals (b.take (min b.length (64 - a)))) (by rw[co5]; exact bv1.first hmin (Nat.min_le_left _ _)) hmin hw]; rfl,(Upd.refl (At p) h1).put (.inl rfl) (H.get_lt hg1) _,H.put_self hg1⟩
  obtain⟨h2,e2,u2,hg2⟩:=cp
  obtain⟨k,hk⟩ : ∃ k,k=min b.length (64 - a):=⟨_,rfl⟩
  rw[← hk] at e2 hg2
  have hkb:k≤b.length:=by omega
  have hkl:(b.take k).length=k:=by rw[List.length_take]; omega
  rw[hkl] at hg2
  have bv2:BV h2 v b:=bv1.upd u2 fun b' o sp k c e=>ap b' o sp k c e
  have gt2:GT h2:=Row.upd u2 gt1 (fun z=>hp z.symm)
  obtain⟨v3,e3,bv3,ap3⟩:=bv2.cut (lo:=some (.int .i64 (k:Nat))) (hi:=none) (i:=k) (j:=b.length) rfl rfl hkb (Nat.le_refl _)
  rw[List.take_length] at bv3
  have ak:IntKind.i64.wrap ((a:Int)+(k:Int))=((a+k:Nat):Int):=by rw[wrap64 (by omega)]; omega
  have hr2:(rest.take a++(b.take k++rest.drop (a+k))).length=64:=by
   simp only[List.length_append,List.length_take,List.length_drop]; omega
  have start:∀ r,(xbin Tryz.prog .lss 3 (.int .i64 ((a+k:Nat):Int)) (.int .i64 64) h2).go .pan (fun t20 h=>ifV t20 (.ok (.tuple ⟨[]⟩) h) (F60.j6 Tryz.prog CLM nu0 nu0 (.pointer (some ⟨p,0,none⟩)) v3 h))=r →
    CLM (.f 60) [.pointer (some ⟨p,0,none⟩),v] h=r:=by
   intro r hr'
   rw[cM60,F60.eq,xnil_ptr,go_ok,fa151_2,go_ok,ld3,Nat.zero_add,hc72 hg hr,ofO_some,go_ok,xremN (z:=64) _ _ _ _ 64 rfl _ (by omega),go_ok,xnil_ptr,go_ok,fa151_2,go_ok,ld3,Nat.zero_add,hc72 hg hr,ofO_some,go_ok,bv.len,go_ok,xadd,go_ok,n1,xnil_ptr,go_ok,fa151_2,go_ok,st3 _ _ _ rfl,cells_int,Nat.zero_add,w1,ofU_some,go_ok,xgtr,go_ok,ifV_dec,if_pos (by omega),← ha]
   rw[xnil_ptr,go_ok,fa151_1,go_ok,Nat.zero_add,cut,go_ok,e2,go_ok,e3,go_ok,xadd,go_ok,ak]
   exact hr'
  by_cases hfill:a+k<64
  ·have hkb':k=b.length:=by omega
   rw[hkb',List.take_length] at hg2
   refine⟨h2,u1.trans u2,done hg2 ?_,start _ ?_⟩
   ·have:=hs.more (b:=b) (by omega)
    rw[← ha] at this; exact this
   ·rw[xlss,go_ok,ifV_dec,if_pos (by omega)]
  ·have hk64:k=64 - a:=by omega
   have hfl:=hs.fill (b:=b) (by omega) (by omega)
   rw[← ha,← hk64] at hfl
   obtain⟨fl1,fl2⟩:=hfl
   have hrest:rest.take a++(b.take k++rest.drop (a+k))=rest.take a++b.take k:=by
    rw[List.drop_of_length_le (by omega),List.append_nil]
   rw[hrest] at hg2 hr2
   have hbr:=bvR hg2 hr2
   obtain⟨h3,g3,e4⟩:=eOver gt2 s hbr hr2
   have hg3:=g3.old _ _ hg2
   have w3:=hw0 hg3 hr2 (ov s (rest.take a++b.take k))
   obtain⟨h4,hh4⟩ : ∃ h4,h4=h3.put p (.cells (hC (ov s (rest.take a++b.take k)) (rest.take a++b.take k) (m.length+b.length)) 151 0 false):=⟨_,rfl⟩
   rw[← hh4] at w3
   have u4:Upd (At p) h2 h4:=by rw[hh4]; exact (g3.upd (At p)).put (.inl rfl) (H.get_lt hg3) _
   have hg4:h4.get p=some (.cells (hC (ov s (rest.take a++b.take k)) (rest.take a++b.take k) (m.length+b.length)) 151 0 false):=by rw[hh4]; exact H.put_self hg3
   have ap4:Apart v3 p:=fun b' o sp k c z=>by obtain⟨o',sp',k',c',z'⟩:=ap3 _ _ _ _ _ z; exact ap _ _ _ _ _ z'
   have bv4:BV h4 v3 (b.drop k):=bv3.upd u4 fun b' o sp k c e=>ap4 b' o sp k c e
   have gt4:GT h4:=Row.upd u4 gt2 (fun z=>hp z.symm)
   obtain⟨h',s',rest',u,g',hs',e⟩:=wrLoop hp (b.drop k).length (Nat.le_refl _) gt4 hg4 hr2 fl2 bv4 ap4
   rw[List.append_assoc,List.take_append_drop] at hs'
   refine⟨h',u1.trans (u2.trans (u4.trans u)),done g' hs',start _ ?_⟩
   have cut2:xslice Tryz.prog 149 (.pointer (some ⟨p,0+8,none⟩)) none none none h2=_:=cutR (lo:=0) rfl (by omega) h2
   rw[xlss,go_ok,ifV_dec,if_neg (by omega),F60.j6_eq,xnil_ptr,Res.ok1_ok,fa151_0,Res.ok1_ok,ld147,hr0 hg2 hr2,ofA_some,Res.ok1_ok,xnil_ptr,Res.ok1_ok,fa151_1,Res.ok1_ok,cut2,Res.ok1_ok,e4,go_ok,xnil_ptr,Res.ok1_ok,fa151_0,Res.ok1_ok,st147 _ _ _ (by rw[asz,S8v_len]),cells_agg,w3,ofU_some,go_ok,F60.j7_eq,e]
end Go.Proofs.YtbfgadekkemlcaaGreatDoor.K
namespace Go.Proofs.YtbfgadekkemlcaaGreatDoor.K
open Go Go.Kx
theorem keyZeros {p n:Nat} {s:S8} {rest:List UInt8} (hr:rest.length=64) (few:n≤1152921504606846976) (x2 x3:Value):∀ (d i:Nat) {h:H} {v:Value} {br:Option Nat},zeros n - i≤d→i≤zeros n →
  h.get p=some (.cells (hC s rest n) 151 0 false)→br≠some p→BA h v br (0x80::List.replicate i 0) →
  ∃ h' v' br',Upd (fun x=>some x=br∨h.next≤x) h h'∧BA h' v' br' (0x80::List.replicate (zeros n) 0)∧(br'=br∨∃ b,br'=some b∧h.next≤b) ∧
   F62.l3 Tryz.prog CLM nu0 nu0 (.pointer (some ⟨p,0,none⟩)) x2 x3 v h=F62.j5 Tryz.prog CLM nu0 nu0 (.pointer (some ⟨p,0,none⟩)) x2 x3 v' h':=by
 intro d
 have hz:zeros n≤63:=by unfold zeros; omega
 have cond:∀ i,i≤zeros n→((n+(1+i)) % 64=56↔i=zeros n):=fun i hi=>by unfold zeros at *; omega
 have go:∀ (i:Nat) {h:H} {v:Value} {br:Option Nat},i≤zeros n→h.get p=some (.cells (hC s rest n) 151 0 false)→BA h v br (0x80::List.replicate i 0) →
   F62.l3 Tryz.prog CLM nu0 nu0 (.pointer (some ⟨p,0,none⟩)) x2 x3 v h=ifV (.bool (!decide ((((n+(1+i)) % 64:Nat):Int)=56)))
    ((xbuildSlice Tryz.prog 71 1 [(0,.int .u8 0)] h).go .pan fun t14 h=>(xbuiltin Tryz.prog .append [71,71] [v,t14] h).go .pan fun t15 h=>F62.l3 Tryz.prog CLM nu0 nu0 (.pointer (some ⟨p,0,none⟩)) x2 x3 t15 h) (F62.j5 Tryz.prog CLM nu0 nu0 (.pointer (some ⟨p,0,none⟩)) x2 x3 v h):=by
  intro i h v br hi hg ba
  have hl:(0x80::List.replicate i (0:UInt8)).length=1+i:=by simp; omega
  rw[F62.l3_eq,xnil_ptr,go_ok,fa151_2,go_ok,ld3,Nat.zero_add,hc72 hg hr,ofO_some,go_ok,ba.bv.len,go_ok,hl,xadd,go_ok,show IntKind.i64.wrap ((n:Int)+((1+i:Nat):Int))=((n+(1+i):Nat):Int) by rw[wrap64 (by omega)]; omega,xremN (z:=64) _ _ _ _ 64 rfl _ (by omega),go_ok,xneq,go_ok]
 induction d with
 |zero=>
  intro i h v br hd hi hg hbp ba
  have hie:i=zeros n:=by omega
  subst hie
  refine⟨h,v,br,Upd.refl _ _,ba,.inl rfl,?_⟩
  rw[go _ hi hg ba,ifV_not,if_pos (by have:=(cond _ hi).2 rfl; omega)]
 |succ d ih=>
  intro i h v br hd hi hg hbp ba
  by_cases hie:i=zeros n
  ·exact ih i (by omega) hi hg hbp ba
  ·obtain⟨v1,br1,h1,u1,ba1,n1,_,e1⟩:=ba.push (by simp; omega) 0
   rw[show (0x80::List.replicate i (0:UInt8))++[0]=0x80::List.replicate (i+1) 0 by rw[List.replicate_succ']; rfl] at ba1
   have hg1:h1.get p=some (.cells (hC s rest n) 151 0 false):=u1.old _ _ (fun z=>hbp z.symm) hg
   have hb1:br1≠some p:=by
    rcases n1 with q|⟨b,q,q'⟩
    ·rw[q]; exact hbp
    ·rw[q]; intro z; cases z; have:=H.get_lt hg; omega
   obtain⟨h',v',br',u',ba',n',e'⟩:=ih (i+1) (by omega) (by omega) hg1 hb1 ba1
   have un:h.next≤h1.next:=u1.next
   refine⟨h',v',br',(u1.mono fun x _ q=>.inl q).trans (⟨u'.next,fun x y hx hy=>u'.old x y (fun z=>hx ?_) hy⟩),ba',?_,?_⟩
   ·rcases z with z|z
    ·rcases n1 with q|⟨b,q,q'⟩
     ·exact .inl (by rw[z,q])
     ·rw[q] at z; cases z; exact .inr q'
    ·exact .inr (by omega)
   ·rcases n' with q|⟨b,q,q'⟩
    ·rcases n1 with w|⟨b,w,w'⟩
     ·exact .inl (q.trans w)
     ·exact .inr ⟨b,q.trans w,w'⟩
    ·exact .inr ⟨b,q,by omega⟩
   ·rw[go _ hi hg ba,ifV_not,if_neg (by have:=(cond _ hi); omega)]
    have:=e1 (fun t15 h=>F62.l3 Tryz.prog CLM nu0 nu0 (.pointer (some ⟨p,0,none⟩)) x2 x3 t15 h)
    exact this.trans e'
theorem lenByte {n i:Nat} (few:n≤1152921504606846976) (hi:i≤56):IntKind.u8.wrap ((((8*n:Nat):Int)).fdiv (2 ^ i))=((UInt8.ofNat (8*n / 2 ^ i)).toNat:Int):=by
 rw[show ((2:Int) ^ i)=((2 ^ i:Nat):Int) by simp,Int.fdiv_eq_ediv_of_nonneg _ (Int.natCast_nonneg _)]
 rw[show (((8*n:Nat):Int) / ((2 ^ i:Nat):Int))=((8*n / 2 ^ i:Nat):Int) from rfl]
 simp[IntKind.wrap,IntKind.bits,IntKind.signed]
theorem shr64 (P:Program) (t:TypeId) (a:Nat) {k:IntKind} {z:Int} (i:Nat) (hz:z=i) (hi:i≤64) (h:H):xbin P .shr t (.int .u64 (a:Int)) (.int k z) h = .ok (.int .u64 ((a:Int).fdiv (2 ^ i))) h:=by
 subst hz
 have e:prun P (Op.shift .shr .u64 (a:Int) k (i:Int))=some (.ok (.int .u64 ((a:Int).fdiv (2 ^ i)))):=by
  unfold Op.shift
  rw[if_neg (by omega)]
  show some (Except.ok (Value.int .u64 ((a:Int).fdiv (2 ^ (min i 64)))))=_
  rw[Nat.min_eq_left hi]
 show xflat (P:=P) (prun P (Op.shift .shr .u64 (a:Int) k (i:Int))) h=_
 rw[e]; rfl
theorem keyLen {p n i:Nat} {z z':Int} {s:S8} {rest:List UInt8} (hr:rest.length=64) (few:n≤1152921504606846976) (x2 x3:Value) (hz:z=i) (hz':z'=z - 8) (hi:i≤56) {h:H} {v:Value} {br:Option Nat} {l:List UInt8} (hl:l.length<1000)
  (hg:h.get p=some (.cells (hC s rest n) 151 0 false)) (hbp:br≠some p) (ba:BA h v br l) :
  ∃ h' v' br',Upd (fun x=>some x=br∨h.next≤x) h h'∧BA h' v' br' (l++[UInt8.ofNat (8*n / 2 ^ i)])∧(br'=br∨∃ b,br'=some b∧h.next≤b) ∧
   F62.l6 Tryz.prog CLM nu0 nu0 (.pointer (some ⟨p,0,none⟩)) x2 x3 v (.int .i64 z) h=F62.l6 Tryz.prog CLM nu0 nu0 (.pointer (some ⟨p,0,none⟩)) x2 x3 v' (.int .i64 z') h':=by
 obtain⟨v1,br1,h1,u1,ba1,n1,_,e1⟩:=ba.push (by omega) (UInt8.ofNat (8*n / 2 ^ i))
 refine⟨h1,v1,br1,u1.mono fun x _ q=>.inl q,ba1,n1,?_⟩
 subst hz
 have w1:IntKind.u64.wrap (n:Int)=(n:Int):=wrapu64 (by omega)
 have w2:IntKind.u64.wrap (8*(n:Int))=((8*n:Nat):Int):=by rw[wrapu64 (by omega)]; omega
 have w3:IntKind.i64.wrap ((i:Int) - 8)=z':=by rw[wrap64 (by omega)]; exact hz'.symm
 rw[F62.l6_eq,xgeq,go_ok,ifV_dec,if_pos (by omega),F62.j8_eq,xnil_ptr,go_ok,fa151_2,go_ok,ld3,Nat.zero_add,hc72 hg hr,ofO_some,go_ok,cv3_154,go_ok,w1,xmul,go_ok,w2,shr64 _ _ _ i rfl (by omega),go_ok,cv154_5,go_ok,lenByte few hi]
 have:=e1 (fun t25 h=>(xbin Tryz.prog .sub 3 (.int .i64 (i:Nat)) (.int .i64 8) h).go .pan fun t26 h=>F62.l6 Tryz.prog CLM nu0 nu0 (.pointer (some ⟨p,0,none⟩)) x2 x3 t25 t26 h)
 refine this.trans ?_
 rw[xsub,go_ok,w3]
def kC (l:List UInt8):List Value:=byteVals l++List.replicate (32 - l.length) (.int .u8 0)
theorem kC_len {l:List UInt8} (h:l.length≤32):(kC l).length=32:=by simp[kC,bv_len]; omega
theorem kC_full {l:List UInt8} (h:l.length=32):kC l=byteVals l:=by simp[kC,h]
theorem zcKey0:zc32=kC []:=by kernel_rfl
theorem kC_w {h:H} {p:Nat} {l:List UInt8} (hg:h.get p=some (.cells (kC l) 32 0 false)) (hl:l.length<32) (c:UInt8):h.write ⟨p,0+l.length*1,none⟩ [.int .u8 (c.toNat:Int)]=some (h.put p (.cells (kC (l++[c])) 32 0 false)):=by
 rw[write_set hg (by rw[kC_len (by omega)]; exact hl) rfl]
 have e:(kC l).set l.length (.int .u8 (c.toNat:Int))=kC (l++[c]):=by
  unfold kC
  rw[List.set_append_right _ _ (by rw[bv_len]; omega),bv_len,Nat.sub_self,bv_app,List.append_assoc]
  congr 1
  obtain⟨k,hk⟩ : ∃ k,32 - l.length=k+1:=⟨31 - l.length,by omega⟩
  rw[hk,List.replicate_succ,List.set_cons_zero,List.length_append,show 32 - (l.length+[c].length)=k by simp; omega]
  rfl
 rw[e]
theorem stK {h:H} {p i:Nat} {l:List UInt8} (hg:h.get p=some (.cells (kC l) 32 0 false)) (hi:l.length=i) (h32:i<32) (c:UInt8) (k:IntKind) (K:Value→H→Res Value) :
  ((xindexAddr Tryz.prog 32 (.pointer (some ⟨p,0,none⟩)) (.int k (i:Nat)) h).go .pan fun t h'=>((xstore Tryz.prog 5 t (.int .u8 (c.toNat:Int)) h').go .pan K))=K undef (h.put p (.cells (kC (l++[c])) 32 0 false)):=by
 subst hi
 rw[ia32 _ _ _ _ _ h32,go_ok,st5 _ _ _ rfl,cells_int,kC_w hg h32,ofU_some,go_ok]
theorem xiW0 (s:S8) (k:IntKind) (h:H):xindex Tryz.prog 147 (.agg ⟨s.v⟩) (.int k ((0:Nat):Int)) h = .ok (w32 s.a) h:=by kernel_rfl
theorem xiW1 (s:S8) (k:IntKind) (h:H):xindex Tryz.prog 147 (.agg ⟨s.v⟩) (.int k ((1:Nat):Int)) h = .ok (w32 s.b) h:=by kernel_rfl
theorem xiW2 (s:S8) (k:IntKind) (h:H):xindex Tryz.prog 147 (.agg ⟨s.v⟩) (.int k ((2:Nat):Int)) h = .ok (w32 s.c) h:=by kernel_rfl
theorem xiW3 (s:S8) (k:IntKind) (h:H):xindex Tryz.prog 147 (.agg ⟨s.v⟩) (.int k ((3:Nat):Int)) h = .ok (w32 s.d) h:=by kernel_rfl
theorem xiW4 (s:S8) (k:IntKind) (h:H):xindex Tryz.prog 147 (.agg ⟨s.v⟩) (.int k ((4:Nat):Int)) h = .ok (w32 s.e) h:=by kernel_rfl
theorem xiW5 (s:S8) (k:IntKind) (h:H):xindex Tryz.prog 147 (.agg ⟨s.v⟩) (.int k ((5:Nat):Int)) h = .ok (w32 s.f) h:=by kernel_rfl
theorem xiW6 (s:S8) (k:IntKind) (h:H):xindex Tryz.prog 147 (.agg ⟨s.v⟩) (.int k ((6:Nat):Int)) h = .ok (w32 s.g) h:=by kernel_rfl
theorem xiW7 (s:S8) (k:IntKind) (h:H):xindex Tryz.prog 147 (.agg ⟨s.v⟩) (.int k ((7:Nat):Int)) h = .ok (w32 s.h) h:=by kernel_rfl
theorem xiW (s:S8) {i:Nat} (hi:i<8) (k:IntKind) (h:H):xindex Tryz.prog 147 (.agg ⟨s.v⟩) (.int k (i:Nat)) h = .ok (w32 (s.l.getD i 0)) h:=by
 have:i=0∨i=1∨i=2∨i=3∨i=4∨i=5∨i=6∨i=7:=by omega
 rcases this with rfl|rfl|rfl|rfl|rfl|rfl|rfl|rfl
 ·exact xiW0 s k h
 ·exact xiW1 s k h
 ·exact xiW2 s k h
 ·exact xiW3 s k h
 ·exact xiW4 s k h
 ·exact xiW5 s k h
 ·exact xiW6 s k h
 ·exact xiW7 s k h
theorem keyWord {q k i:Nat} {s:S8} {l:List UInt8} {h:H} (hi:i<8) (hl:l.length=4*i) (hg:h.get k=some (.cells (kC l) 32 0 false)) (x46:Value) :
  ∃ h',(h'.next=h.next∧∀ c,c≠k→h'.get c=h.get c)∧h'.get k=some (.cells (kC (l++wB (s.l.getD i 0))) 32 0 false) ∧
   F62.j13_1 Tryz.prog CLM nu0 nu0 (.pointer (some ⟨q,0,none⟩)) (.pointer (some ⟨k,0,none⟩)) (.agg ⟨s.v⟩) (.int .i64 (i:Nat)) x46 h=F62.l12 Tryz.prog CLM nu0 nu0 (.pointer (some ⟨q,0,none⟩)) (.pointer (some ⟨k,0,none⟩)) (.agg ⟨s.v⟩) (.int .i64 ((i+1:Nat):Int)) h':=by
 obtain⟨x,hx⟩ : ∃ x,x=s.l.getD i 0:=⟨_,rfl⟩
 have w0:IntKind.i64.wrap (4*(i:Int))=((4*i:Nat):Int):=by rw[wrap64 (by omega)]; omega
 have w1:IntKind.i64.wrap (((4*i:Nat):Int)+1)=((4*i+1:Nat):Int):=by rw[wrap64 (by omega)]; omega
 have w2:IntKind.i64.wrap (((4*i:Nat):Int)+2)=((4*i+2:Nat):Int):=by rw[wrap64 (by omega)]; omega
 have w3:IntKind.i64.wrap (((4*i:Nat):Int)+3)=((4*i+3:Nat):Int):=by rw[wrap64 (by omega)]; omega
 obtain⟨h1,hh1⟩ : ∃ h1,h1=h.put k (.cells (kC (l++[by32 (x >>> 24)])) 32 0 false):=⟨_,rfl⟩
 have g1:h1.get k=some (.cells (kC (l++[by32 (x >>> 24)])) 32 0 false):=by rw[hh1]; exact H.put_self hg
 obtain⟨h2,hh2⟩ : ∃ h2,h2=h1.put k (.cells (kC (l++[by32 (x >>> 24)]++[by32 (x >>> 16)])) 32 0 false):=⟨_,rfl⟩
 have g2:h2.get k=some (.cells (kC (l++[by32 (x >>> 24)]++[by32 (x >>> 16)])) 32 0 false):=by rw[hh2]; exact H.put_self g1
 obtain⟨h3,hh3⟩ : ∃ h3,h3=h2.put k (.cells (kC (l++[by32 (x >>> 24)]++[by32 (x >>> 16)]++[by32 (x >>> 8)])) 32 0 false):=⟨_,rfl⟩
 have g3:h3.get k=some (.cells (kC (l++[by32 (x >>> 24)]++[by32 (x >>> 16)]++[by32 (x >>> 8)])) 32 0 false):=by rw[hh3]; exact H.put_self g2
 obtain⟨h4,hh4⟩ : ∃ h4,h4=h3.put k (.cells (kC (l++[by32 (x >>> 24)]++[by32 (x >>> 16)]++[by32 (x >>> 8)]++[by32 x])) 32 0 false):=⟨_,rfl⟩
 have g4:h4.get k=some (.cells (kC (l++[by32 (x >>> 24)]++[by32 (x >>> 16)]++[by32 (x >>> 8)]++[by32 x])) 32 0 false):=by rw[hh4]; exact H.put_self g3
 have hfin:l++[by32 (x >>> 24)]++[by32 (x >>> 16)]++[by32 (x >>> 8)]++[by32 x]=l++wB (s.l.getD i 0):=by rw[← hx]; simp[wB]
 refine⟨h4,⟨by rw[hh4,hh3,hh2,hh1]; rfl,fun c hc=>?_⟩,by rw[g4,hfin],?_⟩
 ·rw[hh4,H.get_put _ _ _ _ (H.get_lt g3),if_neg hc,hh3,H.get_put _ _ _ _ (H.get_lt g2),if_neg hc,hh2,H.get_put _ _ _ _ (H.get_lt g1),if_neg hc,hh1,H.get_put _ _ _ _ (H.get_lt hg),if_neg hc]
 ·rw[F62.j13_1_eq,xiW s hi,go_ok,← hx,xmul,go_ok,w0,xmul,go_ok,w0,xadd,go_ok,w1,xmul,go_ok,w0,xadd,go_ok,w2,xmul,go_ok,w0,xadd,go_ok,w3]
  rw[r32 (z:=24) _ _ _ _ 24 rfl (by omega),go_ok]
  unfold w32
  rw[cv145_5,go_ok,by32_eq]
  show (xbin Tryz.prog .shr 145 (w32 x) (.int .u64 16) h).go .pan _=_
  rw[r32 (z:=16) _ _ _ _ 16 rfl (by omega),go_ok]
  unfold w32
  rw[cv145_5,go_ok,by32_eq]
  show (xbin Tryz.prog .shr 145 (w32 x) (.int .u64 8) h).go .pan _=_
  rw[r32 (z:=8) _ _ _ _ 8 rfl (by omega),go_ok]
  unfold w32
  rw[cv145_5,go_ok,by32_eq,cv145_5,go_ok,by32_eq]
  rw[stK hg hl (by omega),← hh1,stK g1 (by simp[hl]) (by omega),← hh2,stK g2 (by simp[hl]) (by omega),← hh3,stK g3 (by simp[hl]) (by omega),← hh4,xadd,go_ok,show IntKind.i64.wrap ((i:Int)+1)=((i+1:Nat):Int) by rw[wrap64 (by omega)]; omega]
end Go.Proofs.YtbfgadekkemlcaaGreatDoor.K
namespace Go.Proofs.YtbfgadekkemlcaaGreatDoor.K
open Go Go.Kx
structure Bl (h0 h:H) (v:Value) (br:Option Nat) (l:List UInt8):Prop where
 g:Grow h0 h
 ba:BA h v br l
 own:∀ b,br=some b→h0.next≤b
theorem Bl.step {h0 h h':H} {v v':Value} {br br':Option Nat} {l l':List UInt8} (q:Bl h0 h v br l) (u:Upd (fun x=>some x=br∨h.next≤x) h h') (ba:BA h' v' br' l') (n:br'=br∨∃ b,br'=some b∧h.next≤b):Bl h0 h' v' br' l':=
 ⟨q.g.own u fun x z=>z.elim (fun w=>q.own x w.symm) (fun w=>Nat.le_trans q.g.next w),ba,fun b hb=>by
  rcases n with w|⟨c,w,w'⟩
  ·exact q.own b (w ▸ hb)
  ·rw[w] at hb; cases hb; exact Nat.le_trans q.g.next w'⟩
theorem Bl.apart {h0 h:H} {v:Value} {br:Option Nat} {l:List UInt8} (q:Bl h0 h v br l) {p:Nat} {c:List Value} {el:TypeId} {f:Nat} {op:Bool} (hg:h.get p=some (.cells c el f op)) (he:el≠5):Apart v p:=fun b o sp n k z w=>by
 subst w
 obtain⟨c',f',op',hg'⟩:=q.ba.el z
 rw[hg] at hg'
 cases hg'
 exact he rfl
theorem Bl.ne {h0 h:H} {v:Value} {br:Option Nat} {l:List UInt8} (q:Bl h0 h v br l) {p:Nat} (hp:p<h0.next):br≠some p:=fun z=>by have:=q.own p z; omega
theorem Bl.more {h0 h h':H} {v:Value} {br:Option Nat} {l:List UInt8} (q:Bl h0 h v br l) (g:Grow h h'):Bl h0 h' v br l:=⟨q.g.trans g,q.ba.grow g,q.own⟩
theorem Bl.push {h0 h:H} {v:Value} {br:Option Nat} {l:List UInt8} (q:Bl h0 h v br l) (few:l.length<35184372088832) (c:UInt8) :
  ∃ v' br' h',Bl h0 h' v' br' (l++[c])∧∀ K:Value→H→Res Value,((xbuildSlice Tryz.prog 71 1 [(0,.int .u8 (c.toNat:Int))] h).go .pan fun t h2=>((xbuiltin Tryz.prog .append [71,71] [v,t] h2).go .pan K))=K v' h':=by
 obtain⟨v',br',h',u,ba,n,_,e⟩:=q.ba.push few c
 exact⟨v',br',h',q.step (u.mono fun x _ z=>.inl z) ba n,e⟩
theorem Bl.str {h0 h:H} {v:Value} {br:Option Nat} {l:List UInt8} (q:Bl h0 h v br l) (s:ByteArray) (few:l.length+s.data.toList.length≤35184372088832) :
  ∃ v' br' h',xbuiltin Tryz.prog .append [71,9] [v,.string s] h = .ok v' h'∧Bl h0 h' v' br' (l++s.data.toList):=by
 obtain⟨v',br',h',e,u,ba,n,_⟩:=q.ba.str s few
 exact⟨v',br',h',e,q.step (u.mono fun x _ z=>.inl z) ba n⟩
theorem Bl.sl {h0 h:H} {v w:Value} {br:Option Nat} {l m:List UInt8} (q:Bl h0 h v br l) (r:BV h w m) (r0:firstC h 1 0 w=some []) (few:l.length+m.length≤35184372088832) :
  ∃ v' br' h',xbuiltin Tryz.prog .append [71,71] [v,w] h = .ok v' h'∧Bl h0 h' v' br' (l++m):=by
 obtain⟨v',br',h',e,u,ba,n,_⟩:=q.ba.sl r r0 few
 exact⟨v',br',h',e,q.step (u.mono fun x _ z=>.inl z) ba n⟩
theorem Bl.start (h:H):Bl h h (.slice none 0 0) none []:=⟨Grow.refl h,BA.nil,fun b z=>by cases z⟩
theorem Bl.lit (h:H) (c:UInt8):∃ h',Bl h h' (.slice (some ⟨h.next,0,none⟩) 1 1) none [c]∧xbuildSlice Tryz.prog 71 1 [(0,.int .u8 (c.toNat:Int))] h = .ok (.slice (some ⟨h.next,0,none⟩) 1 1) h':=by
 refine⟨h.alloc (.cells (byteVals [c]) 5 0 false),⟨(Grow.refl h).alloc _,.inr (.inl ⟨rfl,h.next,rfl,H.alloc_self _ _⟩),fun b z=>by cases z⟩,?_⟩
 have eb:xbuildSlice Tryz.prog 71 1 [(0,.int .u8 (c.toNat:Int))] h = .ok (.slice (some ⟨h.next,0,none⟩) 1 1) (h.alloc (.cells [.int .u8 (c.toNat:Int)] 5 0 false)):=by kernel_rfl
 exact eb
theorem keyLen' {h0:H} {p n:Nat} (i:Nat) {z z':Int} {s:S8} {rest:List UInt8} (hr:rest.length=64) (few:n≤1152921504606846976) (x2 x3:Value) (hz:z=i) (hz':z'=z - 8) (hi:i≤56) {h:H} {v:Value} {br:Option Nat} {l:List UInt8} (hl:l.length<1000)
  (hg:h0.get p=some (.cells (hC s rest n) 151 0 false)) (q:Bl h0 h v br l) :
  ∃ h' v' br',Bl h0 h' v' br' (l++[UInt8.ofNat (8*n / 2 ^ i)]) ∧
   F62.l6 Tryz.prog CLM nu0 nu0 (.pointer (some ⟨p,0,none⟩)) x2 x3 v (.int .i64 z) h=F62.l6 Tryz.prog CLM nu0 nu0 (.pointer (some ⟨p,0,none⟩)) x2 x3 v' (.int .i64 z') h':=by
 obtain⟨h',v',br',u,ba,n',e⟩:=keyLen hr few x2 x3 hz hz' hi hl (q.g.old _ _ hg) (q.ne (H.get_lt hg)) q.ba
 exact⟨h',v',br',q.step u ba n',e⟩
theorem out_take (s:S8) {i:Nat} (hi:i<8):(s.l.take (i+1)).flatMap wB=(s.l.take i).flatMap wB++wB (s.l.getD i 0):=by
 have hl:s.l.length=8:=rfl
 rw[List.take_add_one,List.flatMap_append,List.getD,List.getElem?_eq_getElem (by omega)]
 simp
theorem out_take_len (s:S8) (i:Nat) (hi:i≤8):((s.l.take i).flatMap wB).length=4*i:=by
 have:i=0∨i=1∨i=2∨i=3∨i=4∨i=5∨i=6∨i=7∨i=8:=by omega
 rcases this with rfl|rfl|rfl|rfl|rfl|rfl|rfl|rfl|rfl<;>rfl
theorem keyOut {q k:Nat} {s:S8}:∀ (d i:Nat) {h:H},8 - i≤d→i≤8→h.get k=some (.cells (kC ((s.l.take i).flatMap wB)) 32 0 false) →
  ∃ h',(h'.next=h.next∧∀ c,c≠k→h'.get c=h.get c)∧h'.get k=some (.cells (byteVals (out s)) 32 0 false) ∧
   F62.l12 Tryz.prog CLM nu0 nu0 (.pointer (some ⟨q,0,none⟩)) (.pointer (some ⟨k,0,none⟩)) (.agg ⟨s.v⟩) (.int .i64 (i:Nat)) h=F62.j16 Tryz.prog CLM nu0 nu0 (.pointer (some ⟨q,0,none⟩)) (.pointer (some ⟨k,0,none⟩)) h':=by
 intro d
 induction d with
 |zero=>
  intro i h hd hi hg
  have:i=8:=by omega
  subst this
  refine⟨h,⟨rfl,fun _ _=>rfl⟩,by rw[hg,show (s.l.take 8).flatMap wB=out s from rfl,kC_full (out_len s)],?_⟩
  rw[F62.l12_eq,xlss,go_ok,F62.j13_eq,ifV_dec,if_neg (by omega)]
 |succ d ih=>
  intro i h hd hi hg
  by_cases h8:i=8
  ·exact ih i (by omega) hi hg
  ·obtain⟨h1,⟨n1,o1⟩,g1,e1⟩:=keyWord (q:=q) (s:=s) (by omega) (out_take_len s i hi) hg (.bool (decide ((i:Int)<8)))
   rw[← out_take s (by omega)] at g1
   obtain⟨h2,⟨n2,o2⟩,g2,e2⟩:=ih (i+1) (by omega) (by omega) g1
   refine⟨h2,⟨n2.trans n1,fun c hc=>(o2 c hc).trans (o1 c hc)⟩,g2,?_⟩
   rw[F62.l12_eq,xlss,go_ok,F62.j13_eq,ifV_dec,if_pos (by omega),e1,e2]
theorem eKey {h:H} {p:Nat} {m:List UInt8} (gt:GT h) (hb:HB h p m) (few:m.length+1000≤1152921504606846976):∃ h',Grow h h'∧CLM (.f 62) [.pointer (some ⟨p,0,none⟩)] h = .ok (.agg ⟨byteVals (sha m)⟩) h':=by
 obtain⟨s,rest,hg,hs⟩:=hb
 have hr:=hs.len
 have h00:0<h.next:=Row.lt gt
 obtain⟨h1,hh1⟩ : ∃ h1,h1=h.alloc (.cells zc32 32 0 false):=⟨_,rfl⟩
 have g1:Grow h h1:=by rw[hh1]; exact (Grow.refl h).alloc _
 have q1:h1.get h.next=some (.cells zc32 32 0 false):=by rw[hh1]; exact H.alloc_self _ _
 have n1:h1.next=h.next+1:=by rw[hh1]; rfl
 have r1:h1.row ⟨p,0,none⟩ 73=some (hC s rest m.length):=H.row_all (g1.old _ _ hg) (hC_len hr)
 obtain⟨h2,hh2⟩ : ∃ h2,h2=h1.alloc (.cells zc151 151 0 false):=⟨_,rfl⟩
 have b2:h2.get h1.next=some (.cells zc151 151 0 false):=by rw[hh2]; exact H.alloc_self _ _
 obtain⟨h3,hh3⟩ : ∃ h3,h3=h2.put h1.next (.cells (hC s rest m.length) 151 0 false):=⟨_,rfl⟩
 have w3:h2.write ⟨h1.next,0,none⟩ (hC s rest m.length)=some h3:=by rw[hh3]; exact H.write_all b2 (by rw[hC_len hr,zc151_len]) (hC_ones _ _ _)
 have g3:Grow h1 h3:=by rw[hh3,hh2]; exact ((Grow.refl h1).alloc _).put (Nat.le_refl _) (by simp) _
 have b3:h3.get h1.next=some (.cells (hC s rest m.length) 151 0 false):=by rw[hh3]; exact H.put_self b2
 have G3:Grow h h3:=g1.trans g3
 obtain⟨h4,q4,e4⟩:=Bl.lit h3 0x80
 have hp3:=G3.old _ _ hg
 obtain⟨h5,v5,br5,u5,ba5,m5,e5⟩:=keyZeros hr (n:=m.length) (by omega) (.pointer (some ⟨h.next,0,none⟩)) (.pointer (some ⟨h1.next,0,none⟩)) (zeros m.length) 0 (by omega) (by omega) (q4.g.old _ _ hp3) (fun z=>by cases z) q4.ba
 have q5:=q4.step u5 ba5 m5
 have hz:zeros m.length≤63:=by unfold zeros; omega
 have few':m.length≤1152921504606846976:=by omega
 obtain⟨h6,v6,br6,q6,e6⟩:=keyLen' 56 (z:=56) (z':=48) hr few' (.pointer (some ⟨h.next,0,none⟩)) (.pointer (some ⟨h1.next,0,none⟩)) rfl rfl (by omega) (by simp; omega) hp3 q5
 obtain⟨h7,v7,br7,q7,e7⟩:=keyLen' 48 (z:=48) (z':=40) hr few' (.pointer (some ⟨h.next,0,none⟩)) (.pointer (some ⟨h1.next,0,none⟩)) rfl rfl (by omega) (by simp; omega) hp3 q6
 obtain⟨h8,v8,br8,q8,e8⟩:=keyLen' 40 (z:=40) (z':=32) hr few' (.pointer (some ⟨h.next,0,none⟩)) (.pointer (some ⟨h1.next,0,none⟩)) rfl rfl (by omega) (by simp; omega) hp3 q7
 obtain⟨h9,v9,br9,q9,e9⟩:=keyLen' 32 (z:=32) (z':=24) hr few' (.pointer (some ⟨h.next,0,none⟩)) (.pointer (some ⟨h1.next,0,none⟩)) rfl rfl (by omega) (by simp; omega) hp3 q8
 obtain⟨h10,v10,br10,q10,e10⟩:=keyLen' 24 (z:=24) (z':=16) hr few' (.pointer (some ⟨h.next,0,none⟩)) (.pointer (some ⟨h1.next,0,none⟩)) rfl rfl (by omega) (by simp; omega) hp3 q9
 obtain⟨h11,v11,br11,q11,e11⟩:=keyLen' 16 (z:=16) (z':=8) hr few' (.pointer (some ⟨h.next,0,none⟩)) (.pointer (some ⟨h1.next,0,none⟩)) rfl rfl (by omega) (by simp; omega) hp3 q10
 obtain⟨h12,v12,br12,q12,e12⟩:=keyLen' 8 (z:=8) (z':=0) hr few' (.pointer (some ⟨h.next,0,none⟩)) (.pointer (some ⟨h1.next,0,none⟩)) rfl rfl (by omega) (by simp; omega) hp3 q11
 obtain⟨h13,v13,br13,q13,e13⟩:=keyLen' 0 (z:=0) (z':=-8) hr few' (.pointer (some ⟨h.next,0,none⟩)) (.pointer (some ⟨h1.next,0,none⟩)) rfl rfl (by omega) (by simp; omega) hp3 q12
 have ht:(0x80::List.replicate (zeros m.length) (0:UInt8))++[UInt8.ofNat (8*m.length / 2 ^ 56)]++[UInt8.ofNat (8*m.length / 2 ^ 48)]++[UInt8.ofNat (8*m.length / 2 ^ 40)]++[UInt8.ofNat (8*m.length / 2 ^ 32)]++[UInt8.ofNat (8*m.length / 2 ^ 24)]++[UInt8.ofNat (8*m.length / 2 ^ 16)]++[UInt8.ofNat (8*m.length / 2 ^ 8)]++[UInt8.ofNat (8*m.length / 2 ^ 0)]=tailB m.length:=by
  unfold tailB lenB
  simp only[List.append_assoc]
  rfl
 rw[ht] at q13
 have b13:=q13.g.old _ _ b3
 have hb13:HB h13 h1.next m:=⟨s,rest,b13,hs⟩
 have gt13:GT h13:=gt.grow (G3.trans q13.g)
 obtain⟨h14,u14,hb14,e14⟩:=eWrite gt13 hb13 (by omega) q13.ba.bv (q13.apart b13 (by decide)) (by rw[tailB_len]; omega)
 have G14:Grow h h14:=(G3.trans q13.g).own u14 fun x z=>by rw[z]; omega
 obtain⟨s',rest',hg14,hs14⟩:=hb14
 have hout:out s'=sha m:=HS.all (m:=m) hs14
 obtain⟨h15,hh15⟩ : ∃ h15,h15=h14.alloc (.cells zc32 32 0 false):=⟨_,rfl⟩
 have g15:Grow h14 h15:=by rw[hh15]; exact (Grow.refl h14).alloc _
 have b15:h15.get h14.next=some (.cells (kC ((s'.l.take 0).flatMap wB)) 32 0 false):=by rw[hh15,H.alloc_self,zcKey0]; rfl
 obtain⟨h16,⟨n16,o16⟩,g16,e16⟩:=keyOut (q:=h.next) (k:=h14.next) (s:=s') 8 0 (by omega) (by omega) b15
 rw[hout] at g16
 have hl32:(byteVals (sha m)).length=32:=by rw[bv_len,← hout,out_len]
 have n14:h.next<h14.next:=Nat.lt_of_lt_of_le (by omega) (Nat.le_trans g3.next (Nat.le_trans q13.g.next u14.next))
 have q16:h16.get h.next=some (.cells zc32 32 0 false):=by
  rw[o16 _ (by omega)]
  refine g15.old _ _ (u14.old _ _ (fun z=>?_) (q13.g.old _ _ (g3.old _ _ q1)))
  have z:h.next=h1.next:=z
  omega
 have G16:Grow h h16:=⟨by rw[n16]; exact Nat.le_trans G14.next g15.next,fun b x e=>by rw[o16 b (by have:=H.get_lt e; omega)]; exact g15.old _ _ (G14.old _ _ e)⟩
 have r16:h16.row ⟨h14.next,0,none⟩ 32=some (byteVals (sha m)):=H.row_all g16 hl32
 have w16:h16.write ⟨h.next,0,none⟩ (byteVals (sha m))=some (h16.put h.next (.cells (byteVals (sha m)) 32 0 false)):=H.write_all q16 (by rw[hl32,zc32_len]) (bv_ones _)
 have r17:(h16.put h.next (.cells (byteVals (sha m)) 32 0 false)).row ⟨h.next,0,none⟩ 32=some (byteVals (sha m)):=H.row_all (H.put_self q16) hl32
 refine⟨h16.put h.next (.cells (byteVals (sha m)) 32 0 false),G16.put (Nat.le_refl _) (H.get_lt q16) _,?_⟩
 rw[cM62,F62.eq,al32,go_ok,← hh1,xnil_ptr,go_ok,ld151,r1,ofA_some,go_ok,al151,go_ok,← hh2,st151 _ _ _ (by rw[asz,hC_len hr]),cells_agg,w3,ofU_some,go_ok]
 show (xbuildSlice Tryz.prog 71 1 [(0,.int .u8 (((0x80:UInt8)).toNat:Int))] h3).go .pan _=_
 rw[e4,go_ok,e5,F62.j5_eq,e6,e7,e8,e9,e10,e11,e12,e13,F62.l6_eq,xgeq,go_ok,ifV_dec,if_neg (by omega),F62.j9_eq,e14,go_ok,al32,go_ok,← hh15,fa151_0,go_ok,ld147,hr0 (g15.old _ _ hg14) hs14.len,ofA_some,go_ok]
 show F62.l12 Tryz.prog CLM nu0 nu0 _ _ _ (.int .i64 ((0:Nat):Int)) h15=_
 rw[e16,F62.j16_eq,ld32,r16,ofA_some,go_ok,st32 _ _ _ (by rw[asz,hl32]),cells_agg,w16,ofU_some,go_ok]
 exact kfn_cell (ty:=32) (by kernel_rfl) (by rw[ld32,r17,ofA_some])
end Go.Proofs.YtbfgadekkemlcaaGreatDoor.K
namespace Go.Proofs.YtbfgadekkemlcaaGreatDoor.K
open Go Go.Kx
def Sl (E:Nat) (h:H) (v:Value) (rows:List (List Value)):Prop:=
 GoodR E rows∧((Nul v∧rows=[])∨∃ b o sp cap,v = .slice (some ⟨b,o,sp⟩) rows.length cap∧Row h b o rows.flatten)
theorem Sl.grow {E:Nat} {h h':H} (g:Grow h h') {v:Value} {rows:List (List Value)} (q:Sl E h v rows):Sl E h' v rows:=by
 refine⟨q.1,q.2.imp id ?_⟩
 rintro ⟨b,o,sp,cap,e,r⟩
 exact⟨b,o,sp,cap,e,r.grow g⟩
theorem Sl.val {E:Nat} {h:H} {v:Value} {rows:List (List Value)} (q:Sl E h v rows):∃ a cap,v = .slice a rows.length cap:=by
 rcases q.2 with ⟨e,rfl⟩|⟨b,o,sp,cap,e,_⟩
 ·obtain⟨a,e⟩:=e.val
  exact⟨_,_,e⟩
 ·exact⟨_,_,e⟩
theorem Sl.at_ {E:Nat} {h:H} {v:Value} {rows:List (List Value)} (q:Sl E h v rows) {i:Nat} {r:List Value} (hr:rows[i]? = some r) :
  ∃ b o sp cap,v = .slice (some ⟨b,o,sp⟩) rows.length cap∧Row h b (o+i*E) r∧r.length=E∧ones r=true:=by
 obtain⟨hi,he⟩:=List.getElem?_eq_some_iff.1 hr
 rcases q.2 with ⟨_,e⟩|⟨b,o,sp,cap,e,row⟩
 ·subst e; cases hr
 ·have gr:=q.1 r (List.mem_of_getElem? hr)
  have hl:=flat_len q.1
  have h1:=Nat.mul_le_mul_right E (show i+1≤rows.length by omega)
  rw[Nat.add_mul,Nat.one_mul] at h1
  have:=row.sub (k:=i*E) (m:=E) (by omega)
  rw[show (rows.flatten.drop (i*E)).take E=r by have:=flat_at q.1 hr []; rwa [List.append_nil] at this] at this
  exact⟨b,o,sp,cap,e,this,gr⟩
def vencF:Nat→Nat→List UInt8
 |0,n=>[UInt8.ofNat n]
 |f+1,n=>if n<128 then [UInt8.ofNat n] else UInt8.ofNat (n % 128+128)::vencF f (n / 128)
def venc (n:Nat):List UInt8:=vencF 10 n
theorem vencF_len:∀ (f n:Nat),(vencF f n).length≤f+1
 |0,_=>Nat.le_refl _
 |f+1,n=>by
  unfold vencF
  split
  ·simp
  ·have:=vencF_len f (n / 128); simp; omega
def wb (b:List UInt8):List UInt8:=venc b.length++b
theorem wb_len (b:List UInt8):(wb b).length≤b.length+11:=by
 have:=vencF_len 10 b.length
 simp[wb,venc]; omega
theorem or128 (n:Nat):IntKind.u8.wrap (((BitVec.ofInt 8 (IntKind.u8.wrap (n:Int))) ||| (BitVec.ofInt 8 128)).toNat:Int)=((UInt8.ofNat (n % 128+128)).toNat:Int):=by
 have h1:(BitVec.ofInt 8 (IntKind.u8.wrap (n:Int))).toNat=n % 256:=by
  simp[IntKind.wrap,IntKind.bits,IntKind.signed]
  omega
 have h2:(BitVec.ofInt 8 128).toNat=128:=by decide
 have key:∀ x,x<256→x ||| 128=x % 128+128:=by decide
 rw[BitVec.toNat_or,h1,h2,key _ (Nat.mod_lt _ (by omega)),show n % 256 % 128=n % 128 by omega]
 simp[IntKind.wrap,IntKind.bits,IntKind.signed]
theorem xor128 (P:Program) (t:TypeId) (n:Nat) (h:H):xbin P .or t (.int .u8 (IntKind.u8.wrap (n:Int))) (.int .u8 128) h = .ok (.int .u8 ((UInt8.ofNat (n % 128+128)).toNat:Int)) h:=by
 have e:prun P (Op.intBits .or .u8 (IntKind.u8.wrap (n:Int)) 128)=some (.ok (.int .u8 ((UInt8.ofNat (n % 128+128)).toNat:Int))):=by
  show some (Except.ok (Value.int .u8 (IntKind.u8.wrap (((BitVec.ofInt 8 (IntKind.u8.wrap (n:Int))) ||| (BitVec.ofInt 8 128)).toNat:Int))))=_
  rw[or128]
 show xflat (P:=P) (prun P (Op.intBits .or .u8 (IntKind.u8.wrap (n:Int)) 128)) h=_
 rw[e]; rfl
theorem u8of (n:Nat):IntKind.u8.wrap (n:Int)=((UInt8.ofNat n).toNat:Int):=by simp[IntKind.wrap,IntKind.bits,IntKind.signed]
theorem uintL {h0:H}:∀ (f n:Nat) {h:H} {v:Value} {br:Option Nat} {l:List UInt8},n<128 ^ (f+1)→n≤9223372036854775807→l.length+f+1≤1000→Bl h0 h v br l →
  ∃ h' v' br',Bl h0 h' v' br' (l++vencF f n)∧F96.l2 Tryz.prog CLM nu0 nu0 (.int .u64 (n:Nat)) v h = .ok v' h':=by
 intro f
 have last:∀ (n:Nat) {h:H} {v:Value} {br:Option Nat} {l:List UInt8},l.length+1≤1000→n<128→Bl h0 h v br l →
  ∃ h' v' br',Bl h0 h' v' br' (l++[UInt8.ofNat n])∧F96.l2 Tryz.prog CLM nu0 nu0 (.int .u64 (n:Nat)) v h = .ok v' h':=by
  intro n h v br l hl hn q
  obtain⟨v',br',h',q',e⟩:=q.push (by omega) (UInt8.ofNat n)
  refine⟨h',v',br',q',?_⟩
  rw[F96.l2_eq,xgeq,go_ok,ifV_dec,if_neg (by omega),F96.j5_eq,cv154_5,go_ok,u8of]
  exact e (fun t9 h=>.ok t9 h)
 induction f with
 |zero=>
  intro n h v br l hn hn2 hl q
  exact last n (by omega) (by simpa using hn) q
 |succ f ih=>
  intro n h v br l hn hn2 hl q
  unfold vencF
  split
  ·rename_i h128
   exact last n (by omega) h128 q
  ·rename_i h128
   obtain⟨v1,br1,h1,q1,e1⟩:=q.push (by omega) (UInt8.ofNat (n % 128+128))
   obtain⟨h',v',br',q',e'⟩:=ih (n / 128) (by rw[Nat.div_lt_iff_lt_mul (by omega)]; rw[Nat.pow_succ] at hn; exact hn) (by omega) (by simp; omega) q1
   refine⟨h',v',br',by rw[List.append_assoc] at q'; exact q',?_⟩
   rw[F96.l2_eq,xgeq,go_ok,ifV_dec,if_pos (by omega),F96.j3_eq,cv154_5,go_ok,xor128,go_ok]
   refine (e1 (fun t5 h=>(xbin Tryz.prog .shr 154 (.int .u64 (n:Nat)) (.int .u64 7) h).go .pan fun t6 h=>F96.l2 Tryz.prog CLM nu0 nu0 t6 t5 h)).trans ?_
   rw[shr64 (z:=7) _ _ n 7 rfl (by omega),go_ok,show ((n:Int).fdiv (2 ^ 7))=((n / 128:Nat):Int) by rw[Int.fdiv_eq_ediv_of_nonneg _ (by omega)]; rfl,e']
theorem eUint (h:H) (n:Nat) (hn:n≤9223372036854775807):∃ h' v' br',Bl h h' v' br' (venc n)∧CLM (.f 96) [.int .u64 (n:Nat)] h = .ok v' h':=by
 obtain⟨h',v',br',q,e⟩:=uintL 10 n (Nat.lt_of_le_of_lt hn (by decide)) hn (by simp) (Bl.start h)
 exact⟨h',v',br',q,by rw[cM96,F96.eq]; exact e⟩
structure Src (h:H) (w:Value) (b:List UInt8):Prop where
 bv:BV h w b
 f0:firstC h 1 0 w=some []
theorem first_old {S:Nat→Prop} {h h':H} (u:Upd S h h') {w:Value} (f0:firstC h 1 0 w=some []) (hS:∀ b o sp n c,w = .slice (some ⟨b,o,sp⟩) n c→¬ S b):firstC h' 1 0 w=some []:=by
 cases w with
 |slice a n c=>
  cases a with
  |none=>exact f0
  |some a=>
   obtain⟨b,o,sp⟩:=a
   have hb:=hS b o sp n c rfl
   show h'.row ⟨b,o,none⟩ (0*1)=_
   have f1:h.row ⟨b,o,none⟩ (0*1)=some []:=f0
   unfold H.row at f1 ⊢
   simp only at f1 ⊢
   cases hg:h.get b with
   |none=>rw[hg] at f1; cases f1
   |some x=>rw[hg] at f1; rw[u.old _ _ hb hg]; exact f1
 |string s=>exact f0
 |_=>cases f0
theorem Src.upd {S:Nat→Prop} {h h':H} (u:Upd S h h') {w:Value} {b:List UInt8} (q:Src h w b) (hS:∀ b o sp n c,w = .slice (some ⟨b,o,sp⟩) n c→¬ S b):Src h' w b:=⟨q.bv.upd u hS,first_old u q.f0 hS⟩
theorem Src.grow {h h':H} (g:Grow h h') {w:Value} {b:List UInt8} (q:Src h w b):Src h' w b:=q.upd (g.upd fun _=>False) fun _ _ _ _ _ _=>id
theorem BA.src {h:H} {v:Value} {br:Option Nat} {l:List UInt8} (q:BA h v br l):Src h v l:=⟨q.bv,q.first0⟩
theorem eBytes {h:H} {v:Value} {b:List UInt8} (r:Src h v b) (few:b.length≤17592186044416) :
  ∃ h' v' br',Bl h h' v' br' (wb b)∧CLM (.f 61) [v] h = .ok v' h':=by
 obtain⟨h1,v1,br1,q1,e1⟩:=eUint h b.length (by omega)
 have hv:=vencF_len 10 b.length
 have r1:=r.grow q1.g
 obtain⟨v2,br2,h2,e2,q2⟩:=q1.sl r1.bv r1.f0 (by unfold venc; omega)
 refine⟨h2,v2,br2,q2,?_⟩
 rw[cM61,F61.eq,r.bv.len,go_ok,cv3_154,go_ok,wrapu64 (by omega),e1,go_ok,e2,go_ok]
structure Bu (S:Nat→Prop) (h0 h:H) (v:Value) (br:Option Nat) (l:List UInt8):Prop where
 u:Upd S h0 h
 ba:BA h v br l
 own:∀ b,br=some b→S b
 new:∀ x,h0.next≤x→S x
theorem Bu.step {S:Nat→Prop} {h0 h h':H} {v v':Value} {br br':Option Nat} {l l':List UInt8} (q:Bu S h0 h v br l) (u:Upd (fun x=>some x=br) h h') (ba:BA h' v' br' l') (n:NewBr h br br'):Bu S h0 h' v' br' l':=
 ⟨q.u.trans (u.mono fun x _ z=>q.own x z.symm),ba,fun b hb=>by
  rcases n with w|⟨c,w,w'⟩
  ·exact q.own b (w ▸ hb)
  ·rw[w] at hb; cases hb; exact q.new _ (Nat.le_trans q.u.next w'),q.new⟩
theorem Bu.push {S:Nat→Prop} {h0 h:H} {v:Value} {br:Option Nat} {l:List UInt8} (q:Bu S h0 h v br l) (few:l.length<35184372088832) (c:UInt8) :
  ∃ v' br' h',Bu S h0 h' v' br' (l++[c])∧∀ K:Value→H→Res Value,((xbuildSlice Tryz.prog 71 1 [(0,.int .u8 (c.toNat:Int))] h).go .pan fun t h2=>((xbuiltin Tryz.prog .append [71,71] [v,t] h2).go .pan K))=K v' h':=by
 obtain⟨v',br',h',u,ba,n,_,e⟩:=q.ba.push few c
 exact⟨v',br',h',q.step u ba n,e⟩
theorem Bu.str {S:Nat→Prop} {h0 h:H} {v:Value} {br:Option Nat} {l:List UInt8} (q:Bu S h0 h v br l) (s:ByteArray) (few:l.length+s.data.toList.length≤35184372088832) :
  ∃ v' br' h',xbuiltin Tryz.prog .append [71,9] [v,.string s] h = .ok v' h'∧Bu S h0 h' v' br' (l++s.data.toList):=by
 obtain⟨v',br',h',e,u,ba,n,_⟩:=q.ba.str s few
 exact⟨v',br',h',e,q.step u ba n⟩
theorem Bu.sl {S:Nat→Prop} {h0 h:H} {v w:Value} {br:Option Nat} {l m:List UInt8} (q:Bu S h0 h v br l) (r:BV h w m) (r0:firstC h 1 0 w=some []) (few:l.length+m.length≤35184372088832) :
  ∃ v' br' h',xbuiltin Tryz.prog .append [71,71] [v,w] h = .ok v' h'∧Bu S h0 h' v' br' (l++m):=by
 obtain⟨v',br',h',e,u,ba,n,_⟩:=q.ba.sl r r0 few
 exact⟨v',br',h',e,q.step u ba n⟩
def Own (h:H) (br:Option Nat):Nat→Prop:=fun x=>some x=br∨h.next≤x
theorem Bu.of {h:H} {v:Value} {br:Option Nat} {l:List UInt8} (ba:BA h v br l):Bu (Own h br) h h v br l:=⟨Upd.refl _ _,ba,fun b hb=>.inl hb.symm,fun x hx=>.inr hx⟩
theorem Bl.bu {h0 h h':H} {v v':Value} {br br':Option Nat} {l l':List UInt8} (q:Bl h0 h v br l) (r:Bu (Own h br) h h' v' br' l'):Bl h0 h' v' br' l':=
 ⟨q.g.own r.u fun x z=>z.elim (fun w=>q.own x w.symm) (fun w=>Nat.le_trans q.g.next w),r.ba,fun b hb=>(r.own b hb).elim (fun z=>q.own b z.symm) (fun z=>Nat.le_trans q.g.next z)⟩
theorem rlaidL {S:Nat→Prop} {h0:H} {w:Value} {b:List UInt8} (r:Src h0 w b) (hS:∀ b o sp n c,w = .slice (some ⟨b,o,sp⟩) n c→¬ S b):∀ (f n:Nat) {h:H} {v:Value} {br:Option Nat} {l:List UInt8},n<128 ^ (f+1)→n≤9223372036854775807→l.length+f+1+b.length≤35184372088832→Bu S h0 h v br l →
  ∃ h' v' br',Bu S h0 h' v' br' (l++vencF f n++b)∧F97.l2 Tryz.prog CLM nu0 nu0 v w (.int .i64 (n:Nat)) h = .ok v' h':=by
 intro f
 have last:∀ (n:Nat) {h:H} {v:Value} {br:Option Nat} {l:List UInt8},l.length+1+b.length≤35184372088832→n<128→Bu S h0 h v br l →
  ∃ h' v' br',Bu S h0 h' v' br' (l++[UInt8.ofNat n]++b)∧F97.l2 Tryz.prog CLM nu0 nu0 v w (.int .i64 (n:Nat)) h = .ok v' h':=by
  intro n h v br l hl hn q
  obtain⟨v1,br1,h1,q1,e1⟩:=q.push (by omega) (UInt8.ofNat n)
  have r1:=r.upd q1.u hS
  obtain⟨v2,br2,h2,e2,q2⟩:=q1.sl r1.bv r1.f0 (by simp; omega)
  refine⟨h2,v2,br2,q2,?_⟩
  rw[F97.l2_eq,xgeq,go_ok,ifV_dec,if_neg (by omega),F97.j5_eq,cv3_5,go_ok,u8of]
  refine (e1 (fun t11 h=>(xbuiltin Tryz.prog .append [71,71] [t11,w] h).go .pan fun t12 h=>.ok t12 h)).trans ?_
  rw[e2,go_ok]
 induction f with
 |zero=>
  intro n h v br l hn hn2 hl q
  exact last n (by omega) (by simpa using hn) q
 |succ f ih=>
  intro n h v br l hn hn2 hl q
  unfold vencF
  split
  ·rename_i h128
   exact last n (by omega) h128 q
  ·rename_i h128
   obtain⟨v1,br1,h1,q1,e1⟩:=q.push (by omega) (UInt8.ofNat (n % 128+128))
   obtain⟨h',v',br',q',e'⟩:=ih (n / 128) (by rw[Nat.div_lt_iff_lt_mul (by omega)]; rw[Nat.pow_succ] at hn; exact hn) (by omega) (by simp; omega) q1
   refine⟨h',v',br',by simpa using q',?_⟩
   rw[F97.l2_eq,xgeq,go_ok,ifV_dec,if_pos (by omega),F97.j3_eq,xremN (z:=128) _ _ _ _ 128 rfl _ (by omega),go_ok,xadd,go_ok,show IntKind.i64.wrap (((n % 128:Nat):Int)+128)=((n % 128+128:Nat):Int) by rw[wrap64 (by omega)]; omega,cv3_5,go_ok,u8of]
   refine (e1 (fun t7 h=>(xbin Tryz.prog .quo 3 (.int .i64 (n:Nat)) (.int .i64 128) h).go .pan fun t8 h=>F97.l2 Tryz.prog CLM nu0 nu0 t7 w t8 h)).trans ?_
   rw[xquoN (z:=128) _ _ n 128 rfl _ (by omega) hn2,go_ok,e']
theorem eRlaid {h:H} {v w:Value} {br:Option Nat} {l b:List UInt8} (q:BA h v br l) (r:Src h w b) (ap:∀ x,br=some x→Apart w x) (few:l.length+b.length+11≤17592186044416) :
  ∃ h' v' br',Bu (Own h br) h h' v' br' (l++wb b)∧CLM (.f 97) [v,w] h = .ok v' h':=by
 have hS:∀ b o sp n c,w = .slice (some ⟨b,o,sp⟩) n c→¬ Own h br b:=by
  intro b' o sp n c e z
  rcases z with z|z
  ·exact ap b' z.symm _ _ _ _ _ e rfl
  ·have f0:=r.f0
   rw[e] at f0
   have f1:h.row ⟨b',o,none⟩ (0*1)=some []:=f0
   unfold H.row at f1
   rw[H.get_ge z] at f1
   cases f1
 obtain⟨h',v',br',q',e'⟩:=rlaidL r hS 10 b.length (Nat.lt_of_le_of_lt (show b.length≤17592186044416 by omega) (by decide)) (by omega) (by omega) (Bu.of q)
 refine⟨h',v',br',by rw[List.append_assoc] at q'; exact q',?_⟩
 rw[cM97,F97.eq,r.bv.len,go_ok,e']
end Go.Proofs.YtbfgadekkemlcaaGreatDoor.K
namespace Go.Proofs.YtbfgadekkemlcaaGreatDoor.K
open Go Go.Kx
def KeysR (h:H) (v:Value) (ks:List (List UInt8)):Prop:=Sl 32 h v (ks.map byteVals)∧∀ k∈ks,k.length=32
theorem KeysR.grow {h h':H} (g:Grow h h') {v:Value} {ks:List (List UInt8)} (q:KeysR h v ks):KeysR h' v ks:=⟨q.1.grow g,q.2⟩
theorem KeysR.len {h:H} {v:Value} {ks:List (List UInt8)} (q:KeysR h v ks) (h':H):xbuiltin Tryz.prog .len [26] [v] h' = .ok (.int .i64 (ks.length:Nat)) h':=by
 obtain⟨a,cap,e⟩:=q.1.val
 rw[List.length_map] at e
 rw[e]
 exact ln26 _ _ _ _
theorem KeysR.at_ {h:H} {v:Value} {ks:List (List UInt8)} (q:KeysR h v ks) {i:Nat} {k:List UInt8} (hk:ks[i]? = some k) :
  ∃ b o,(∀ h',xindexAddr Tryz.prog 26 v (.int .i64 (i:Nat)) h' = .ok (.pointer (some ⟨b,o,none⟩)) h')∧Row h b o (byteVals k)∧k.length=32:=by
 have hr:(ks.map byteVals)[i]? = some (byteVals k):=by rw[List.getElem?_map,hk]; rfl
 have hi:=(List.getElem?_eq_some_iff.1 hk).1
 obtain⟨b,o,sp,cap,e,row,_⟩:=q.1.at_ hr
 rw[List.length_map] at e
 refine⟨b,o+i*32,fun h'=>?_,row,q.2 k (List.mem_of_getElem? hk)⟩
 rw[e]
 exact ia26 _ _ _ _ _ _ _ h' hi
theorem cvSB (s:ByteArray) (h:H):∃ v h',xconvert Tryz.prog 9 71 (.string s) h = .ok v h'∧Grow h h'∧Src h' v s.data.toList∧∀ b o sp n c,v = .slice (some ⟨b,o,sp⟩) n c→h.next≤b:=by
 have e:xconvert Tryz.prog 9 71 (.string s) h = .ok (.slice (some ⟨h.next,0,none⟩) s.size s.size) (h.alloc (.cells (byteVals s.data.toList) 5 1 true)):=by kernel_rfl
 have hg:(h.alloc (.cells (byteVals s.data.toList) 5 1 true)).get h.next=some (.cells (byteVals s.data.toList) 5 1 true):=H.alloc_self _ _
 refine⟨_,_,e,(Grow.refl h).alloc _,⟨.inr ⟨h.next,0,none,s.size,rfl,Nat.le_refl _,Row.of hg,.inr ⟨rfl,_,_,_,_,hg,fun _=>co5⟩⟩,?_⟩,fun b o sp n c z=>by cases z; exact Nat.le_refl _⟩
 show H.row _ ⟨h.next,0,none⟩ (0*1)=_
 rw[Nat.zero_mul,H.row_eq hg (by omega)]
 simp
theorem Bl.push' {h0 h:H} {v:Value} {br:Option Nat} {l:List UInt8} (q:Bl h0 h v br l) (few:l.length<35184372088832) (c:UInt8) :
  ∃ v' br' h',Bl h0 h' v' br' (l++[c])∧br'≠none∧∀ K:Value→H→Res Value,((xbuildSlice Tryz.prog 71 1 [(0,.int .u8 (c.toNat:Int))] h).go .pan fun t h2=>((xbuiltin Tryz.prog .append [71,71] [v,t] h2).go .pan K))=K v' h':=by
 obtain⟨v',br',h',u,ba,n,nn,e⟩:=q.ba.push few c
 exact⟨v',br',h',q.step (u.mono fun x _ z=>.inl z) ba n,nn,e⟩
theorem Bl.apart' {h0 h:H} {v:Value} {br:Option Nat} {l:List UInt8} (q:Bl h0 h v br l) (nn:br≠none) {x:Nat} (hx:x<h0.next):Apart v x:=fun b o sp n c z w=>by
 rcases q.ba with ⟨e,_⟩|⟨e,_⟩|⟨b',e,e1,_⟩|⟨b',_,_,e,e1,_⟩
 ·exact nn e
 ·exact nn e
 ·rw[e1] at z; cases z; have:=q.own _ e; omega
 ·rw[e1] at z; cases z; have:=q.own _ e; omega
theorem rKeyB {h:H} {x1 x5:Value} {ks:List (List UInt8)} (kr:KeysR h x1 ks) {i:Nat} {k:List UInt8} (hk:ks[i]? = some k):∀ (d j:Nat) {h1:H} {w:Value} {bw:Option Nat},32 - j≤d→j≤32→Bl h h1 w bw (k.take j)→(0<j→bw≠none) →
  ∃ h2 w2 bw2,Bl h h2 w2 bw2 k∧bw2≠none∧F65.l7 Tryz.prog CLM nu0 nu0 x1 x5 (.int .i64 (i:Nat)) w (.int .i64 (j:Nat)) h1=F65.j10 Tryz.prog CLM nu0 nu0 x1 x5 (.int .i64 (i:Nat)) w2 h2:=by
 obtain⟨b,o,ia,row,hl⟩:=kr.at_ hk
 intro d
 induction d with
 |zero=>
  intro j h1 w bw hd hj q nn
  have:j=32:=by omega
  subst this
  rw[List.take_of_length_le (by omega)] at q
  refine⟨h1,w,bw,q,nn (by omega),?_⟩
  rw[F65.l7_eq,xlss,go_ok,ifV_dec,if_neg (by omega)]
 |succ d ih=>
  intro j h1 w bw hd hj q nn
  by_cases h32:j=32
  ·exact ih j (by omega) hj q nn
  ·obtain⟨w1,bw1,h2,q1,nn1,e1⟩:=q.push' (by rw[List.length_take]; omega) (k.getD j 0)
   have ht:k.take j++[k.getD j 0]=k.take (j+1):=by
    rw[List.take_add_one,List.getD,List.getElem?_eq_getElem (by omega)]; rfl
   rw[ht] at q1
   obtain⟨h3,w3,bw3,q3,nn3,e3⟩:=ih (j+1) (by omega) (by omega) q1 (fun _=>nn1)
   have hc:h1.cell ⟨b,o+j*1,none⟩=some (.int .u8 ((k.getD j 0).toNat:Int)):=by rw[Nat.mul_one]; exact (row.grow q.g).cell (bv_at (by omega))
   refine⟨h3,w3,bw3,q3,nn3,?_⟩
   rw[F65.l7_eq,xlss,go_ok,ifV_dec,if_pos (by omega),F65.j9_eq,ia,go_ok,ia32 _ _ _ _ _ (by omega),go_ok,ld5,hc,ofO_some,go_ok]
   refine (e1 (fun t10 h=>(xbin Tryz.prog .add 3 (.int .i64 (j:Nat)) (.int .i64 1) h).go .pan fun t11 h=>F65.l7 Tryz.prog CLM nu0 nu0 x1 x5 (.int .i64 (i:Nat)) t10 t11 h)).trans ?_
   rw[xadd,go_ok,show IntKind.i64.wrap ((j:Int)+1)=((j+1:Nat):Int) by rw[wrap64 (by omega)]; omega,e3]
def hashed (t:List UInt8) (ks:List (List UInt8)):List UInt8:=wb t++ks.flatMap wb
theorem hashed_len {t:List UInt8} {ks:List (List UInt8)} (hk:∀ k∈ks,k.length=32):(hashed t ks).length≤t.length+11+ks.length*43:=by
 have h1:=wb_len t
 have h2:(ks.flatMap wb).length≤ks.length*43:=by
  induction ks with
  |nil=>simp
  |cons k ks ih=>
   have h3:=wb_len k
   have h4:=hk k (by simp)
   have h5:=ih fun x hx=>hk x (by simp[hx])
   simp only[List.flatMap_cons,List.length_append,List.length_cons]
   omega
 unfold hashed
 rw[List.length_append]; omega
theorem rKeysB {h0:H} {x1:Value} {ks:List (List UInt8)} {t:List UInt8} (kr:KeysR h0 x1 ks) (few:t.length+ks.length*43≤8796093022208):∀ (d i:Nat) {h:H} {v:Value} {br:Option Nat},ks.length - i≤d→i≤ks.length→Bl h0 h v br (hashed t (ks.take i)) →
  ∃ h' v' br',Bl h0 h' v' br' (hashed t ks)∧F65.l3 Tryz.prog CLM nu0 nu0 x1 v (.int .i64 (i:Nat)) h = .ok v' h':=by
 intro d
 induction d with
 |zero=>
  intro i h v br hd hi q
  have:i=ks.length:=by omega
  subst this
  rw[List.take_length] at q
  refine⟨h,v,br,q,?_⟩
  rw[F65.l3_eq,kr.len,go_ok,xlss,go_ok,ifV_dec,if_neg (by omega),F65.j11_eq]
 |succ d ih=>
  intro i h v br hd hi q
  by_cases hie:i=ks.length
  ·exact ih i (by omega) hi q
  ·obtain⟨k,hk⟩ : ∃ k,ks[i]? = some k:=⟨_,List.getElem?_eq_getElem (by omega)⟩
   have kl:=kr.2 k (List.mem_of_getElem? hk)
   obtain⟨h1,w,bw,q1,nn1,e1⟩:=rKeyB (x5:=v) (kr.grow q.g) hk 32 0 (by omega) (by omega) (Bl.start h) (fun z=>by omega)
   have hlen:=hashed_len (t:=t) (ks:=ks.take i) fun x hx=>kr.2 x (List.mem_of_mem_take hx)
   rw[List.length_take] at hlen
   obtain⟨h2,v2,br2,q2,e2⟩:=eRlaid (q.ba.grow q1.g) q1.ba.src (fun x hx=>q1.apart' nn1 (q.ba.lt hx)) (by omega)
   have q3:=(q.more q1.g).bu q2
   have ht:hashed t (ks.take i)++wb k=hashed t (ks.take (i+1)):=by
    unfold hashed
    rw[List.take_add_one,hk,List.flatMap_append]
    simp
   rw[ht] at q3
   obtain⟨h4,v4,br4,q4,e4⟩:=ih (i+1) (by omega) (by omega) q3
   refine⟨h4,v4,br4,q4,?_⟩
   rw[F65.l3_eq,kr.len,go_ok,xlss,go_ok,ifV_dec,if_pos (by omega),F65.j5_eq]
   show F65.l7 Tryz.prog CLM nu0 nu0 x1 v (.int .i64 (i:Nat)) _ (.int .i64 ((0:Nat):Int)) h=_
   rw[e1,F65.j10_eq,e2,go_ok,F65.j4_eq,xadd,go_ok,show IntKind.i64.wrap ((i:Int)+1)=((i+1:Nat):Int) by rw[wrap64 (by omega)]; omega,e4]
theorem eRBytes {h:H} {x1:Value} {ks:List (List UInt8)} (s:ByteArray) (kr:KeysR h x1 ks) (few:s.data.toList.length+ks.length*43≤8796093022208) :
  ∃ h' v' br',Bl h h' v' br' (hashed s.data.toList ks)∧CLM (.f 65) [.string s,x1] h = .ok v' h':=by
 obtain⟨w,h1,e1,g1,src,_⟩:=cvSB s h
 obtain⟨h2,v2,br2,q2,e2⟩:=eRlaid BA.nil src (fun x z=>by cases z) (by simp only[List.length_nil]; omega)
 have q3:=((Bl.start h).more g1).bu q2
 have ht : []++wb s.data.toList=hashed s.data.toList (ks.take 0):=by simp[hashed]
 rw[ht] at q3
 obtain⟨h4,v4,br4,q4,e4⟩:=rKeysB kr few ks.length 0 (by omega) (by omega) q3
 refine⟨h4,v4,br4,q4,?_⟩
 rw[cM65,F65.eq,e1,go_ok,e2,go_ok]
 exact e4
end Go.Proofs.YtbfgadekkemlcaaGreatDoor.K
namespace Go.Proofs.YtbfgadekkemlcaaGreatDoor.K
open Go Go.Kx
theorem eRotr {z:Int} (n:Nat) (hz:z=n) (h1:0<n) (h2:n<32) (x:W) (h:H):CLM (.f 136) [w32 x,.int .u64 z] h = .ok (w32 (rr x n)) h:=by
 subst hz
 rw[cM136,F136.eq,r32 _ _ _ _ n rfl (by omega),go_ok,xsub,go_ok,wrapu64 (by omega),show ((32:Int) - (n:Int))=((32 - n:Nat):Int) by omega,l32 _ _ _ _ (32 - n) rfl (by omega),go_ok,o32,go_ok,rr_ref]
theorem eRword {h:H} {v:Value} {b:List UInt8} (s:BV h v b) {i:Nat} (hi:i+4≤b.length) (few:b.length≤9223372036854775807):CLM (.f 135) [v,.int .i64 (i:Nat)] h = .ok (w32 (wd b i)) h:=by
 have w1:IntKind.i64.wrap ((i:Int)+1)=((i+1:Nat):Int):=by rw[wrap64 (by omega)]; omega
 have w2:IntKind.i64.wrap ((i:Int)+2)=((i+2:Nat):Int):=by rw[wrap64 (by omega)]; omega
 have w3:IntKind.i64.wrap ((i:Int)+3)=((i+3:Nat):Int):=by rw[wrap64 (by omega)]; omega
 rw[cM135,F135.eq,s.ld1 (by omega),isIntV_int,cond_true,cv5_145,Res.ok1_ok,b32_eq,p32i,cond_true,l32 (z:=24) _ _ _ _ 24 rfl (by omega),Res.ok1_ok]
 rw[plain2_int,cond_true,xadd,Res.ok1_ok,w1,s.ld1 (by omega),isIntV_int,cond_true,cv5_145,Res.ok1_ok,b32_eq,p32i,cond_true,l32 (z:=16) _ _ _ _ 16 rfl (by omega),Res.ok1_ok,p32,cond_true,o32,Res.ok1_ok]
 rw[plain2_int,cond_true,xadd,Res.ok1_ok,w2,s.ld1 (by omega),isIntV_int,cond_true,cv5_145,Res.ok1_ok,b32_eq,p32i,cond_true,l32 (z:=8) _ _ _ _ 8 rfl (by omega),Res.ok1_ok,p32,cond_true,o32,Res.ok1_ok]
 rw[plain2_int,cond_true,xadd,Res.ok1_ok,w3,s.ld1 (by omega),isIntV_int,cond_true,cv5_145,Res.ok1_ok,b32_eq,p32,cond_true,o32,Res.ok1_ok]
 rfl
theorem wd_cut {b:List UInt8} {a i:Nat} (hi:i+4≤64):wd ((b.drop a).take 64) i=wd b (a+i):=by
 have e:∀ j,j<64→((b.drop a).take 64).getD j 0=b.getD (a+j) 0:=fun j hj=>by
  simp only[List.getD,List.getElem?_take_of_lt hj,List.getElem?_drop]
 unfold wd
 rw[e _ (by omega),e _ (by omega),e _ (by omega),e _ (by omega),Nat.add_assoc,Nat.add_assoc,Nat.add_assoc]
structure RsH (h0 h:H) (p:Nat) (l:List W):Prop where
 u:Upd (At p) h0 h
 w:h.get p=some (.cells (wC l) 156 0 false)
theorem RsH.bv {h0 h:H} {p:Nat} {l:List W} (i:RsH h0 h p l) {v:Value} {b:List UInt8} (s:BV h0 v b) (ap:Apart v p):BV h v b:=s.upd i.u fun b o sp n c z=>ap b o sp n c z
section
variable {h0 h:H} {p:Nat} {v:Value} {bb:List UInt8} {a:Nat} {x4 x7 x8:Value}
theorem rs1 (s:BV h0 v bb) (ap:Apart v p) (hb:a+64≤bb.length) (few:bb.length≤4611686018427387904) {t:Nat} (ht:t<16) (i:RsH h0 h p (sch ((bb.drop a).take 64) t)) :
  ∃ h',RsH h0 h' p (sch ((bb.drop a).take 64) (t+1))∧F100.j5 Tryz.prog CLM nu0 nu0 v (.int .i64 (a:Nat)) x4 x7 x8 (.pointer (some ⟨p,0,none⟩)) (.int .i64 (t:Nat)) h=F100.l3 Tryz.prog CLM nu0 nu0 v (.int .i64 (a:Nat)) x4 x7 x8 (.pointer (some ⟨p,0,none⟩)) (.int .i64 ((t+1:Nat):Int)) h':=by
 obtain⟨b,hbb⟩ : ∃ b,b=(bb.drop a).take 64:=⟨_,rfl⟩
 rw[← hbb] at i ⊢
 have hl:=sch_len b t
 have hs:sch b (t+1)=sch b t++[wd b (4*t)]:=by rw[sch,nxt,if_pos ht]
 have hw:=wC_w1 i.w (by omega) (wd b (4*t))
 rw[hl] at hw
 refine⟨_,⟨i.u.put (.inl rfl) (H.get_lt i.w) _,by rw[H.put_self i.w,hs]⟩,?_⟩
 rw[F100.j5_eq,xmul,go_ok,wmul4 ht,xadd,go_ok,show IntKind.i64.wrap ((a:Int)+((4*t:Nat):Int))=((a+4*t:Nat):Int) by rw[wrap64 (by omega)]; omega,eRword (i.bv s ap) (by omega) (by omega),go_ok,← wd_cut (a:=a) (i:=4*t) (by omega),← hbb,stgA64 (by omega) hw,xadd,go_ok,show IntKind.i64.wrap ((t:Int)+1)=((t+1:Nat):Int) by rw[wrap64 (by omega)]; omega]
theorem rs2 {b:List UInt8} {t:Nat} (t16:16≤t) (ht:t<64) (i:RsH h0 h p (sch b t)) :
  ∃ h',RsH h0 h' p (sch b (t+1))∧F100.j9 Tryz.prog CLM nu0 nu0 x4 x7 x8 (.pointer (some ⟨p,0,none⟩)) (.int .i64 (t:Nat)) h=F100.l7 Tryz.prog CLM nu0 nu0 x4 x7 x8 (.pointer (some ⟨p,0,none⟩)) (.int .i64 ((t+1:Nat):Int)) h':=by
 have hl:=sch_len b t
 obtain⟨l,el⟩ : ∃ l,l=sch b t:=⟨_,rfl⟩
 have ig:=i.w
 rw[← el] at hl ig
 have m15:IntKind.i64.wrap ((t:Int) - 15)=((t - 15:Nat):Int):=by rw[wrap64 (by omega)]; omega
 have m2:IntKind.i64.wrap ((t:Int) - 2)=((t - 2:Nat):Int):=by rw[wrap64 (by omega)]; omega
 have m7:IntKind.i64.wrap ((t:Int) - 7)=((t - 7:Nat):Int):=by rw[wrap64 (by omega)]; omega
 have m16:IntKind.i64.wrap ((t:Int) - 16)=((t - 16:Nat):Int):=by rw[wrap64 (by omega)]; omega
 obtain⟨x,hx⟩ : ∃ x,x=l.getD (t - 15) 0:=⟨_,rfl⟩
 obtain⟨y,hy⟩ : ∃ y,y=l.getD (t - 2) 0:=⟨_,rfl⟩
 obtain⟨u,hu⟩ : ∃ u,u=l.getD (t - 7) 0:=⟨_,rfl⟩
 obtain⟨z,hz⟩ : ∃ z,z=l.getD (t - 16) 0:=⟨_,rfl⟩
 have c15:h.cell ⟨p,0+(t - 15)*1,none⟩=some (w32 x):=by rw[hx]; exact wC_cell ig (by omega)
 have c2:h.cell ⟨p,0+(t - 2)*1,none⟩=some (w32 y):=by rw[hy]; exact wC_cell ig (by omega)
 have c7:h.cell ⟨p,0+(t - 7)*1,none⟩=some (w32 u):=by rw[hu]; exact wC_cell ig (by omega)
 have c16:h.cell ⟨p,0+(t - 16)*1,none⟩=some (w32 z):=by rw[hz]; exact wC_cell ig (by omega)
 have hs:sch b (t+1)=l++[ss1 y+u+ss0 x+z]:=by rw[sch,nxt,if_neg (by omega),← el,← hx,← hy,← hu,← hz,nxt_ref]
 have hw:=wC_w1 ig (by omega) (ss1 y+u+ss0 x+z)
 rw[hl] at hw
 refine⟨_,⟨i.u.put (.inl rfl) (H.get_lt ig) _,by rw[H.put_self ig,hs]⟩,?_⟩
 rw[F100.j9_eq,plain2_int,cond_true,xsub,Res.ok1_ok,m15,ld1A64 (by omega) c15,plain2_int,cond_true,xsub,Res.ok1_ok,m2,ld1A64 (by omega) c2,rcW c2,Bool.and_true,cond_true]
 rw[eRotr (z:=7) 7 rfl (by omega) (by omega),go_ok,eRotr (z:=18) 18 rfl (by omega) (by omega),go_ok,e32,go_ok,r32 (z:=3) _ _ _ _ 3 rfl (by omega),go_ok,e32,go_ok]
 rw[eRotr (z:=17) 17 rfl (by omega) (by omega),go_ok,eRotr (z:=19) 19 rfl (by omega) (by omega),go_ok,e32,go_ok,r32 (z:=10) _ _ _ _ 10 rfl (by omega),go_ok,e32,go_ok]
 rw[plain2_int,cond_true,xsub,Res.ok1_ok,m7,ld1A64 (by omega) c7,p32,cond_true,a32,Res.ok1_ok,p32,cond_true,a32,Res.ok1_ok,plain2_int,cond_true,xsub,Res.ok1_ok,m16,ld1A64 (by omega) c16,p32,cond_true,a32,Res.ok1_ok]
 show ((xindexAddr Tryz.prog 156 (.pointer (some ⟨p,0,none⟩)) (.int .i64 (t:Nat)) h).ok1 fun t h'=>((xstore Tryz.prog 145 t (w32 (ss1 y+u+ss0 x+z)) h').go .pan _))=_
 rw[st1A64 ht hw,xadd,go_ok,show IntKind.i64.wrap ((t:Int)+1)=((t+1:Nat):Int) by rw[wrap64 (by omega)]; omega]
theorem rsA (s:BV h0 v bb) (ap:Apart v p) (hb:a+64≤bb.length) (few:bb.length≤4611686018427387904):∀ (d t:Nat) {h:H},16 - t≤d→t≤16→RsH h0 h p (sch ((bb.drop a).take 64) t) →
  ∃ h',RsH h0 h' p (sch ((bb.drop a).take 64) 16)∧F100.l3 Tryz.prog CLM nu0 nu0 v (.int .i64 (a:Nat)) x4 x7 x8 (.pointer (some ⟨p,0,none⟩)) (.int .i64 (t:Nat)) h=F100.j6 Tryz.prog CLM nu0 nu0 x4 x7 x8 (.pointer (some ⟨p,0,none⟩)) h':=by
 intro d
 induction d with
 |zero=>
  intro t h hd ht i
  have:t=16:=by omega
  subst this
  refine⟨h,i,?_⟩
  rw[F100.l3_eq,xlss,go_ok,ifV_dec,if_neg (by omega)]
 |succ d ih=>
  intro t h hd ht i
  by_cases h16:t=16
  ·exact ih t (by omega) ht i
  ·obtain⟨h',i',e'⟩:=rs1 (x4:=x4) (x7:=x7) (x8:=x8) s ap hb few (by omega) i
   obtain⟨h'',i'',e''⟩:=ih (t+1) (by omega) (by omega) i'
   refine⟨h'',i'',?_⟩
   rw[F100.l3_eq,xlss,go_ok,ifV_dec,if_pos (by omega),e',e'']
theorem rsB {b:List UInt8}:∀ (d t:Nat) {h:H},64 - t≤d→16≤t→t≤64→RsH h0 h p (sch b t) →
  ∃ h',RsH h0 h' p (sch b 64)∧F100.l7 Tryz.prog CLM nu0 nu0 x4 x7 x8 (.pointer (some ⟨p,0,none⟩)) (.int .i64 (t:Nat)) h=F100.j13 Tryz.prog CLM nu0 nu0 x4 x7 x8 (.pointer (some ⟨p,0,none⟩)) h':=by
 intro d
 induction d with
 |zero=>
  intro t h hd h16 ht i
  have:t=64:=by omega
  subst this
  refine⟨h,i,?_⟩
  rw[F100.l7_eq,xlss,go_ok,ifV_dec,if_neg (by omega)]
 |succ d ih=>
  intro t h hd h16 ht i
  by_cases h64:t=64
  ·exact ih t (by omega) h16 ht i
  ·obtain⟨h',i',e'⟩:=rs2 (x4:=x4) (x7:=x7) (x8:=x8) h16 (by omega) i
   obtain⟨h'',i'',e''⟩:=ih (t+1) (by omega) (by omega) (by omega) i'
   refine⟨h'',i'',?_⟩
   rw[F100.l7_eq,xlss,go_ok,ifV_dec,if_pos (by omega),e',e'']
end
theorem ld1A8 {h:H} {p o i:Nat} {v:Value} (hi:i<8) (hv:h.cell ⟨p,o+i*1,none⟩=some v) (k:IntKind) (K:Value→Value→H→Res Value) :
  ((xindexAddr Tryz.prog 146 (.pointer (some ⟨p,o,none⟩)) (.int k (i:Nat)) h).ok1 fun t h'=>((xload Tryz.prog 145 t h').ok1 (K t)))=K (.pointer (some ⟨p,o+i*1,none⟩)) v h:=by
 rw[ia146 _ _ _ _ _ hi,Res.ok1_ok,ld145,hv,ofO_some,Res.ok1_ok]
theorem ldgA8 {h:H} {p o i:Nat} {v:Value} (hi:i<8) (hv:h.cell ⟨p,o+i*1,none⟩=some v) (k:IntKind) (K:Value→H→Res Value) :
  ((xindexAddr Tryz.prog 146 (.pointer (some ⟨p,o,none⟩)) (.int k (i:Nat)) h).go .pan fun t h'=>((xload Tryz.prog 145 t h').go .pan K))=K v h:=by
 rw[ia146 _ _ _ _ _ hi,go_ok,ld145,hv,ofO_some,go_ok]
theorem st1A8 {h:H} {p o i:Nat} {x:W} {h':H} (hi:i<8) (hw:h.write ⟨p,o+i*1,none⟩ [w32 x]=some h') (k:IntKind) (K:Value→H→Res Value) :
  ((xindexAddr Tryz.prog 146 (.pointer (some ⟨p,o,none⟩)) (.int k (i:Nat)) h).ok1 fun t h'=>((xstore Tryz.prog 145 t (w32 x) h').go .pan K))=K undef h':=by
 rw[ia146 _ _ _ _ _ hi,Res.ok1_ok,st145 _ _ _ (w32_size _),w32_cells,hw,ofU_some,go_ok]
theorem ld1R {h:H} {p o:Nat} {v:Value} {z:Int} (i:Nat) (hz:z=i) (hi:i<8) (hv:h.cell ⟨p,o+i*1,none⟩=some v) (k:IntKind) (K:Value→Value→H→Res Value) :
  ((xindexAddr Tryz.prog 146 (.pointer (some ⟨p,o,none⟩)) (.int k z) h).ok1 fun t h'=>((xload Tryz.prog 145 t h').ok1 (K t)))=K (.pointer (some ⟨p,o+i*1,none⟩)) v h:=by
 subst hz; exact ld1A8 hi hv k K
theorem ldgR {h:H} {p o:Nat} {v:Value} {z:Int} (i:Nat) (hz:z=i) (hi:i<8) (hv:h.cell ⟨p,o+i*1,none⟩=some v) (k:IntKind) (K:Value→H→Res Value) :
  ((xindexAddr Tryz.prog 146 (.pointer (some ⟨p,o,none⟩)) (.int k z) h).go .pan fun t h'=>((xload Tryz.prog 145 t h').go .pan K))=K v h:=by
 subst hz; exact ldgA8 hi hv k K
theorem bdR (a b c d e f g i:W) (h:H):xbuild Tryz.prog 146 [(0,w32 a),(1,w32 b),(2,w32 c),(3,w32 d),(4,w32 e),(5,w32 f),(6,w32 g),(7,w32 i)] h = .ok (.agg ⟨S8.v ⟨a,b,c,d,e,f,g,i⟩⟩) h:=by kernel_rfl
def kt:List Value:=KT.map w32
theorem kt_len:kt.length=64:=rfl
structure RvH (h0 h:H) (p4 p7 p8 p9 p16:Nat) (s r:S8) (b:List UInt8):Prop where
 g:Grow h0 h
 b4:h.get p4=some (.cells s.v 146 0 false)
 b7:h.get p7=some (.cells kt 156 0 false)
 b8:h.get p8=some (.cells zc146 146 0 false)
 b9:h.get p9=some (.cells (schV b) 156 0 false)
 b16:h.get p16=some (.cells r.v 146 0 false)
 ge:h0.next≤p16
 ne:p4≠p16∧p8≠p16
theorem cell_map {l:List W} {h:H} {p:Nat} {el:TypeId} {f:Nat} {op:Bool} (hg:h.get p=some (.cells (l.map w32) el f op)) {t:Nat} (ht:t<l.length):h.cell ⟨p,0+t*1,none⟩=some (w32 (l.getD t 0)):=by
 rw[H.cell_eq hg,Nat.zero_add,Nat.mul_one,List.getElem?_map,List.getD,List.getElem?_eq_getElem ht]; rfl
theorem rv1 {h0 h:H} {p4 p7 p8 p9 p16:Nat} {s r:S8} {b:List UInt8} (i:RvH h0 h p4 p7 p8 p9 p16 s r b) {t:Nat} (ht:t<64) :
  ∃ h',RvH h0 h' p4 p7 p8 p9 p16 s (rnd r (KT.getD t 0) ((sch b 64).getD t 0)) b∧F100.j17 Tryz.prog CLM nu0 nu0 (.pointer (some ⟨p4,0,none⟩)) (.pointer (some ⟨p7,0,none⟩)) (.pointer (some ⟨p8,0,none⟩)) (.pointer (some ⟨p9,0,none⟩)) (.pointer (some ⟨p16,0,none⟩)) (.int .i64 (t:Nat)) h =
   F100.l15 Tryz.prog CLM nu0 nu0 (.pointer (some ⟨p4,0,none⟩)) (.pointer (some ⟨p7,0,none⟩)) (.pointer (some ⟨p8,0,none⟩)) (.pointer (some ⟨p9,0,none⟩)) (.pointer (some ⟨p16,0,none⟩)) (.int .i64 ((t+1:Nat):Int)) h':=by
 obtain⟨k,hk⟩ : ∃ k,k=KT.getD t 0:=⟨_,rfl⟩
 obtain⟨w,hw⟩ : ∃ w,w=(sch b 64).getD t 0:=⟨_,rfl⟩
 rw[← hk,← hw]
 have ck:h.cell ⟨p7,0+t*1,none⟩=some (w32 k):=by rw[hk]; exact cell_map i.b7 ht
 have cw:h.cell ⟨p9,0+t*1,none⟩=some (w32 w):=by rw[hw]; exact cell_map i.b9 (by rw[sch_len]; exact ht)
 have c0:h.cell ⟨p16,0+0*1,none⟩=some (w32 r.a):=by rw[H.cell_eq i.b16]; rfl
 have c1:h.cell ⟨p16,0+1*1,none⟩=some (w32 r.b):=by rw[H.cell_eq i.b16]; rfl
 have c2:h.cell ⟨p16,0+2*1,none⟩=some (w32 r.c):=by rw[H.cell_eq i.b16]; rfl
 have c3:h.cell ⟨p16,0+3*1,none⟩=some (w32 r.d):=by rw[H.cell_eq i.b16]; rfl
 have c4:h.cell ⟨p16,0+4*1,none⟩=some (w32 r.e):=by rw[H.cell_eq i.b16]; rfl
 have c5:h.cell ⟨p16,0+5*1,none⟩=some (w32 r.f):=by rw[H.cell_eq i.b16]; rfl
 have c6:h.cell ⟨p16,0+6*1,none⟩=some (w32 r.g):=by rw[H.cell_eq i.b16]; rfl
 have c7:h.cell ⟨p16,0+7*1,none⟩=some (w32 r.h):=by rw[H.cell_eq i.b16]; rfl
 have hwr:h.write ⟨p16,0,none⟩ (rnd r k w).v=some (h.put p16 (.cells (rnd r k w).v 146 0 false)):=H.write_all i.b16 rfl rfl
 have hne:∀ {q:Nat} {c:List Value},h.get q=some (.cells c 156 0 false)→q≠p16:=fun hq z=>by rw[z,i.b16] at hq; have:=(Blk.cells.inj (Option.some.inj hq)).2.1; revert this; decide
 refine⟨_,⟨i.g.put i.ge (H.get_lt i.b16) _,H.put_ne i.b16 i.ne.1 i.b4,H.put_ne i.b16 (hne i.b7) i.b7,H.put_ne i.b16 i.ne.2 i.b8,H.put_ne i.b16 (hne i.b9) i.b9,H.put_self i.b16,i.ge,i.ne⟩,?_⟩
 rw[F100.j17_eq,ld1R (z:=0) 0 rfl (by omega) c0,ld1R (z:=4) 4 rfl (by omega) c4,rcW c4,Bool.and_true,cond_true]
 rw[eRotr (z:=6) 6 rfl (by omega) (by omega),go_ok,eRotr (z:=11) 11 rfl (by omega) (by omega),go_ok,e32,go_ok,eRotr (z:=25) 25 rfl (by omega) (by omega),go_ok,e32,go_ok,eRotr (z:=2) 2 rfl (by omega) (by omega),go_ok,eRotr (z:=13) 13 rfl (by omega) (by omega),go_ok,e32,go_ok,eRotr (z:=22) 22 rfl (by omega) (by omega),go_ok,e32,go_ok]
 rw[ld1R (z:=7) 7 rfl (by omega) c7,p32,cond_true,a32,Res.ok1_ok,ld1R (z:=5) 5 rfl (by omega) c5,p32,cond_true,n32,Res.ok1_ok,not32,Res.ok1_ok,ld1R (z:=6) 6 rfl (by omega) c6,p32,cond_true,n32,Res.ok1_ok,p32,cond_true,e32,Res.ok1_ok,p32,cond_true,a32,Res.ok1_ok,ld1A64 ht ck,p32,cond_true,a32,Res.ok1_ok,ld1A64 ht cw,p32,cond_true,a32,Res.ok1_ok]
 rw[ldgR (z:=1) 1 rfl (by omega) c1,n32,go_ok,ldgR (z:=2) 2 rfl (by omega) c2,n32,go_ok,e32,go_ok,ldgR (z:=1) 1 rfl (by omega) c1,ldgR (z:=2) 2 rfl (by omega) c2,n32,go_ok,e32,go_ok,a32,go_ok,a32,go_ok]
 rw[ldgR (z:=0) 0 rfl (by omega) c0,ldgR (z:=1) 1 rfl (by omega) c1,ldgR (z:=2) 2 rfl (by omega) c2,ldgR (z:=3) 3 rfl (by omega) c3,a32,go_ok,ldgR (z:=4) 4 rfl (by omega) c4,ldgR (z:=5) 5 rfl (by omega) c5,ldgR (z:=6) 6 rfl (by omega) c6,bdR,go_ok,st146 _ _ _ (by rw[asz]; rfl),cells_agg]
 show (ofU (h.write ⟨p16,0,none⟩ (S8.v ⟨r.h+bs1 r.e+chh r.e r.f r.g+k+w+(bs0 r.a+maj r.a r.b r.c),r.a,r.b,r.c,r.d+(r.h+bs1 r.e+chh r.e r.f r.g+k+w),r.e,r.f,r.g⟩))).go .pan _=_
 rw[rnd_ref,hwr,ofU_some,go_ok,xadd,go_ok,show IntKind.i64.wrap ((t:Int)+1)=((t+1:Nat):Int) by rw[wrap64 (by omega)]; omega]
theorem rv2 {h0:H} {p4 p7 p8 p9 p16:Nat} {s:S8} {b:List UInt8}:∀ (d t:Nat) {h:H},64 - t≤d→t≤64→RvH h0 h p4 p7 p8 p9 p16 s (rds b s t) b →
  ∃ h',RvH h0 h' p4 p7 p8 p9 p16 s (rds b s 64) b∧F100.l15 Tryz.prog CLM nu0 nu0 (.pointer (some ⟨p4,0,none⟩)) (.pointer (some ⟨p7,0,none⟩)) (.pointer (some ⟨p8,0,none⟩)) (.pointer (some ⟨p9,0,none⟩)) (.pointer (some ⟨p16,0,none⟩)) (.int .i64 (t:Nat)) h =
   F100.j23 Tryz.prog CLM nu0 nu0 (.pointer (some ⟨p4,0,none⟩)) (.pointer (some ⟨p8,0,none⟩)) (.pointer (some ⟨p16,0,none⟩)) h':=by
 intro d
 induction d with
 |zero=>
  intro t h hd ht i
  have:t=64:=by omega
  subst this
  refine⟨h,i,?_⟩
  rw[F100.l15_eq,xlss,go_ok,ifV_dec,if_neg (by omega)]
 |succ d ih=>
  intro t h hd ht i
  by_cases h64:t=64
  ·exact ih t (by omega) ht i
  ·have ht':t<64:=by omega
   obtain⟨h',i',e'⟩:=rv1 (t:=t) i ht'
   have er:rds b s (t+1)=rnd (rds b s t) (KT.getD t 0) ((sch b 64).getD t 0):=by rw[rds]
   rw[← er] at i'
   obtain⟨h'',i'',e''⟩:=ih (t+1) (by omega) (by omega) i'
   refine⟨h'',i'',?_⟩
   rw[F100.l15_eq,xlss,go_ok,ifV_dec,if_pos (by omega),e',e'']
end Go.Proofs.YtbfgadekkemlcaaGreatDoor.K
namespace Go.Proofs.YtbfgadekkemlcaaGreatDoor.K
open Go Go.Kx
def mixS (s r:S8) (i:Nat):List Value:=(List.range 8).map fun j=>w32 (if j<i then s.l.getD j 0+r.l.getD j 0 else s.l.getD j 0)
theorem mixS_0 (s r:S8):mixS s r 0=s.v:=rfl
theorem mixS_8 (s r:S8):mixS s r 8=(s.add r).v:=rfl
theorem mixS_step (s r:S8) {i:Nat} (hi:i<8):(mixS s r i).set i (w32 (s.l.getD i 0+r.l.getD i 0))=mixS s r (i+1):=by
 have:i=0∨i=1∨i=2∨i=3∨i=4∨i=5∨i=6∨i=7:=by omega
 rcases this with rfl|rfl|rfl|rfl|rfl|rfl|rfl|rfl<;>rfl
theorem mixS_at (s r:S8) {i:Nat} (hi:i<8):(mixS s r i)[i]? = some (w32 (s.l.getD i 0)):=by
 have:i=0∨i=1∨i=2∨i=3∨i=4∨i=5∨i=6∨i=7:=by omega
 rcases this with rfl|rfl|rfl|rfl|rfl|rfl|rfl|rfl<;>rfl
theorem S8v_at (s:S8) {i:Nat} (hi:i<8):s.v[i]? = some (w32 (s.l.getD i 0)):=by
 have:i=0∨i=1∨i=2∨i=3∨i=4∨i=5∨i=6∨i=7:=by omega
 rcases this with rfl|rfl|rfl|rfl|rfl|rfl|rfl|rfl<;>rfl
theorem rvSum {p4 p8 p16:Nat} {s r:S8} (hne:p16≠p4):∀ (d i:Nat) {h:H},8 - i≤d→i≤8→h.get p4=some (.cells (mixS s r i) 146 0 false)→h.get p16=some (.cells r.v 146 0 false) →
  ∃ h',Upd (At p4) h h'∧h'.get p4=some (.cells (s.add r).v 146 0 false)∧F100.l24 Tryz.prog CLM nu0 nu0 (.pointer (some ⟨p4,0,none⟩)) (.pointer (some ⟨p8,0,none⟩)) (.pointer (some ⟨p16,0,none⟩)) (.int .i64 (i:Nat)) h =
   F100.j27 Tryz.prog CLM nu0 nu0 (.pointer (some ⟨p4,0,none⟩)) (.pointer (some ⟨p8,0,none⟩)) h':=by
 intro d
 induction d with
 |zero=>
  intro i h hd hi b4 b16
  have:i=8:=by omega
  subst this
  refine⟨h,Upd.refl _ _,by rw[b4,mixS_8],?_⟩
  rw[F100.l24_eq,xlss,go_ok,ifV_dec,if_neg (by omega)]
 |succ d ih=>
  intro i h hd hi b4 b16
  by_cases h8:i=8
  ·exact ih i (by omega) hi b4 b16
  ·have hi8:i<8:=by omega
   have c1:h.cell ⟨p4,0+i*1,none⟩=some (w32 (s.l.getD i 0)):=by rw[H.cell_eq b4,Nat.zero_add,Nat.mul_one,mixS_at s r hi8]
   have c2:h.cell ⟨p16,0+i*1,none⟩=some (w32 (r.l.getD i 0)):=by rw[H.cell_eq b16,Nat.zero_add,Nat.mul_one,S8v_at r hi8]
   have w:h.write ⟨p4,0+i*1,none⟩ [w32 (s.l.getD i 0+r.l.getD i 0)]=_:=write_set b4 (show i<8 from hi8) rfl
   rw[mixS_step s r hi8] at w
   obtain⟨h',u,g,e⟩:=ih (i+1) (by omega) (by omega) (H.put_self (x:=.cells (mixS s r (i+1)) 146 0 false) b4) (H.put_ne b4 hne b16)
   refine⟨h',((Upd.refl (At p4) h).put (.inl rfl) (H.get_lt b4) _).trans u,g,?_⟩
   rw[F100.l24_eq,xlss,go_ok,ifV_dec,if_pos (by omega),F100.j26_eq,ld1A8 hi8 c1,ld1A8 hi8 c2,p32,cond_true,a32,Res.ok1_ok,st1A8 hi8 w,xadd,go_ok,show IntKind.i64.wrap ((i:Int)+1)=((i+1:Nat):Int) by rw[wrap64 (by omega)]; omega,e]
theorem eRblock {h:H} (s:S8) {v:Value} {bb:List UInt8} {a:Nat} (bv:BV h v bb) (hb:a+64≤bb.length) (few:bb.length≤4611686018427387904) :
  ∃ h',Grow h h'∧CLM (.f 100) [.agg ⟨s.v⟩,v,.int .i64 (a:Nat),.agg ⟨kt⟩] h = .ok (.agg ⟨(ov s ((bb.drop a).take 64)).v⟩) h':=by
 obtain⟨b,hbb⟩ : ∃ b,b=(bb.drop a).take 64:=⟨_,rfl⟩
 have hap:∀ x,h.next≤x→Apart v x:=fun x hx b' o sp n c z w=>by
  rcases bv with ⟨_,e⟩|⟨b2,o2,sp2,c2,e,_,row,_⟩
  ·rw[e] at hb; simp at hb
  ·rw[e] at z; cases z; have:=row.lt; omega
 obtain⟨h1,hh1⟩ : ∃ h1,h1=h.alloc (.cells s.v 146 0 false):=⟨_,rfl⟩
 obtain⟨h2,hh2⟩ : ∃ h2,h2=h1.alloc (.cells kt 156 0 false):=⟨_,rfl⟩
 obtain⟨h3,hh3⟩ : ∃ h3,h3=h2.alloc (.cells zc146 146 0 false):=⟨_,rfl⟩
 obtain⟨h4,hh4⟩ : ∃ h4,h4=h3.alloc (.cells zc156 156 0 false):=⟨_,rfl⟩
 have g1:Grow h h1:=by rw[hh1]; exact (Grow.refl h).alloc _
 have g2:Grow h1 h2:=by rw[hh2]; exact (Grow.refl h1).alloc _
 have g3:Grow h2 h3:=by rw[hh3]; exact (Grow.refl h2).alloc _
 have g4:Grow h3 h4:=by rw[hh4]; exact (Grow.refl h3).alloc _
 have n1:h1.next=h.next+1:=by rw[hh1]; rfl
 have n2:h2.next=h.next+2:=by rw[hh2,H.next_alloc,n1]
 have n3:h3.next=h.next+3:=by rw[hh3,H.next_alloc,n2]
 have n4:h4.next=h.next+4:=by rw[hh4,H.next_alloc,n3]
 have b4:h1.get h.next=some (.cells s.v 146 0 false):=by rw[hh1]; exact H.alloc_self _ _
 have b7:h2.get h1.next=some (.cells kt 156 0 false):=by rw[hh2]; exact H.alloc_self _ _
 have b8:h3.get h2.next=some (.cells zc146 146 0 false):=by rw[hh3]; exact H.alloc_self _ _
 have b9:h4.get h3.next=some (.cells (wC (sch b 0)) 156 0 false):=by rw[hh4,H.alloc_self,wtz]; rfl
 have G4:Grow h h4:=((g1.trans g2).trans g3).trans g4
 have i0:RsH h4 h4 h3.next (sch ((bb.drop a).take 64) 0):=⟨Upd.refl _ _,by rw[← hbb]; exact b9⟩
 obtain⟨h5,i5,e5⟩:=rsA (x4:=.pointer (some ⟨h.next,0,none⟩)) (x7:=.pointer (some ⟨h1.next,0,none⟩)) (x8:=.pointer (some ⟨h2.next,0,none⟩)) (bv.grow G4) (hap _ (by omega)) hb few 16 0 (by omega) (by omega) i0
 obtain⟨h6,i6,e6⟩:=rsB (x4:=.pointer (some ⟨h.next,0,none⟩)) (x7:=.pointer (some ⟨h1.next,0,none⟩)) (x8:=.pointer (some ⟨h2.next,0,none⟩)) 64 16 (by omega) (by omega) (by omega) i5
 rw[← hbb] at i6
 have G6:Grow h h6:=G4.own i6.u fun x z=>by rw[z]; omega
 have d4:h6.get h.next=some (.cells s.v 146 0 false):=i6.u.old _ _ (by show ¬ h.next=h3.next; omega) (g4.old _ _ (g3.old _ _ (g2.old _ _ b4)))
 have d7:h6.get h1.next=some (.cells kt 156 0 false):=i6.u.old _ _ (by show ¬ h1.next=h3.next; omega) (g4.old _ _ (g3.old _ _ b7))
 have d8:h6.get h2.next=some (.cells zc146 146 0 false):=i6.u.old _ _ (by show ¬ h2.next=h3.next; omega) (g4.old _ _ b8)
 have n6:h.next+4≤h6.next:=by rw[← n4]; exact i6.u.next
 have r4:h6.row ⟨h.next,0,none⟩ 8=some s.v:=H.row_all d4 (S8v_len s)
 obtain⟨h7,hh7⟩ : ∃ h7,h7=h6.alloc (.cells zc146 146 0 false):=⟨_,rfl⟩
 have a7:h7.get h6.next=some (.cells zc146 146 0 false):=by rw[hh7]; exact H.alloc_self _ _
 obtain⟨h8,hh8⟩ : ∃ h8,h8=h7.put h6.next (.cells s.v 146 0 false):=⟨_,rfl⟩
 have w8:h7.write ⟨h6.next,0,none⟩ s.v=some h8:=by rw[hh8]; exact H.write_all a7 (by rw[S8v_len,zc146_len]) (S8v_ones s)
 have g8:Grow h6 h8:=by rw[hh8,hh7]; exact ((Grow.refl h6).alloc _).put (Nat.le_refl _) (by simp) _
 have j0:RvH h h8 h.next h1.next h2.next h3.next h6.next s (rds b s 0) b:=by
  refine⟨G6.trans g8,g8.old _ _ d4,g8.old _ _ d7,g8.old _ _ d8,g8.old _ _ ?_,by rw[hh8]; exact H.put_self a7,by omega,by omega,by omega⟩
  have:=i6.w
  rwa [schV_wC] at this
 obtain⟨h9,j9,e9⟩:=rv2 64 0 (by omega) (by omega) j0
 obtain⟨r,hr⟩ : ∃ r,r=rds b s 64:=⟨_,rfl⟩
 rw[← hr] at j9
 obtain⟨h10,u10,q10,e10⟩:=rvSum (p8:=h2.next) (s:=s) (r:=r) (show h6.next≠h.next by omega) 8 0 (by omega) (by omega) (by rw[mixS_0]; exact j9.b4) j9.b16
 have hov:s.add r=ov s b:=by unfold ov; rw[hr]
 rw[hov] at q10
 have d10:h10.get h2.next=some (.cells zc146 146 0 false):=u10.old _ _ (by show ¬ h2.next=h.next; omega) j9.b8
 have G10:Grow h h10:=j9.g.own u10 fun x z=>by rw[z]; exact Nat.le_refl _
 have r10:h10.row ⟨h.next,0,none⟩ 8=some (ov s b).v:=H.row_all q10 (S8v_len _)
 have w10:h10.write ⟨h2.next,0,none⟩ (ov s b).v=some (h10.put h2.next (.cells (ov s b).v 146 0 false)):=H.write_all d10 (by rw[S8v_len,zc146_len]) (S8v_ones _)
 have r11:(h10.put h2.next (.cells (ov s b).v 146 0 false)).row ⟨h2.next,0,none⟩ 8=some (ov s b).v:=H.row_all (H.put_self d10) (S8v_len _)
 refine⟨h10.put h2.next (.cells (ov s b).v 146 0 false),G10.put (by omega) (H.get_lt d10) _,?_⟩
 rw[cM100,F100.eq,xbox_eq,go_ok,cells_agg,← hh1,xbox_eq,go_ok,cells_agg,← hh2,al146,go_ok,← hh3,al156,go_ok,← hh4]
 show F100.l3 Tryz.prog CLM nu0 nu0 v (.int .i64 (a:Nat)) _ _ _ _ (.int .i64 ((0:Nat):Int)) h4=_
 rw[e5,F100.j6_eq]
 show F100.l7 Tryz.prog CLM nu0 nu0 _ _ _ _ (.int .i64 ((16:Nat):Int)) h5=_
 rw[e6,F100.j13_eq,ld146,r4,ofA_some,go_ok,al146,go_ok,← hh7,st146 _ _ _ (by rw[asz,S8v_len]),cells_agg,w8,ofU_some,go_ok]
 show F100.l15 Tryz.prog CLM nu0 nu0 _ _ _ _ _ (.int .i64 ((0:Nat):Int)) h8=_
 rw[e9,F100.j23_eq]
 show F100.l24 Tryz.prog CLM nu0 nu0 _ _ _ (.int .i64 ((0:Nat):Int)) h9=_
 rw[e10,F100.j27_eq,ld146,r10,ofA_some,go_ok,st146 _ _ _ (by rw[asz,S8v_len]),cells_agg,w10,ofU_some,go_ok,← hbb]
 exact kfn_cell (ty:=146) (by kernel_rfl) (by rw[ld146,r11,ofA_some])
end Go.Proofs.YtbfgadekkemlcaaGreatDoor.K
