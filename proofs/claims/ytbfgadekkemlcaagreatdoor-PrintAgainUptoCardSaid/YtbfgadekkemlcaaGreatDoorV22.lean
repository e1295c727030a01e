/- My texts for this claim, in one file: part 22. -/
import Derived.IntWalk
import Derived.Test.YtbfgadekkemlcaaGreatDoorV21
set_option linter.unusedVariables false
set_option linter.unusedSimpArgs false
namespace Go.Kx
open Go
theorem go_ok (v:Value) (h:H) (p k:Value→H→Res Value):(Res.ok v h).go p k=k v h:=Eq.trans rfl rfl
theorem ifV_t (x y:Res Value):ifV (.bool true) x y=x:=Eq.trans rfl rfl
theorem ifV_f (x y:Res Value):ifV (.bool false) x y=y:=Eq.trans rfl rfl
theorem Res.ok1_ok (v:Value) (h:H) (k:Value→H→Res Value):(Res.ok v h).ok1 k=k v h:=Eq.trans rfl rfl
theorem ifV_bool (b:Bool) (x y:Res Value):ifV (.bool b) x y=bif b then x else y:=by cases b<;>rfl
theorem ifV_dec {p:Prop} [Decidable p] (x y:Res Value):ifV (.bool (decide p)) x y=if p then x else y:=by by_cases h:p<;>simp[h]
theorem ifV_not {p:Prop} [Decidable p] (x y:Res Value):ifV (.bool (!decide p)) x y=if p then y else x:=by by_cases h:p<;>simp[h]
theorem asz (l:List Value):(Value.agg ⟨l⟩).cells.size=l.length:=Eq.trans rfl rfl
theorem xextract_0 (a:Value) (l:List Value) (h:H):xextract (.tuple ⟨a::l⟩) 0 h = .ok a h:=Eq.trans rfl rfl
theorem xextract_1 (a b:Value) (l:List Value) (h:H):xextract (.tuple ⟨a::b::l⟩) 1 h = .ok b h:=Eq.trans rfl rfl
theorem xextract_2 (a b c:Value) (l:List Value) (h:H):xextract (.tuple ⟨a::b::c::l⟩) 2 h = .ok c h:=Eq.trans rfl rfl
theorem xnil_ptr (a:Addr) (h:H):xnilCheck (.pointer (some a)) h = .ok (.pointer (some a)) h:=Eq.trans rfl rfl
theorem xun_not (P:Program) (b:Bool) (h:H):xun P .not (.bool b) h = .ok (.bool !b) h:=Eq.trans rfl rfl
theorem xbox_eq (t:TypeId) (v:Value) (h:H):xbox t v h = .ok (.pointer (some ⟨h.next,0,none⟩)) (h.alloc (.cells v.cells.toList t 0 false)):=Eq.trans rfl rfl
theorem plain2_int (k j:IntKind) (a b:Int):plain2 (.int k a) (.int j b)=true:=Eq.trans rfl rfl
theorem isIntV_int (k:IntKind) (a:Int):isIntV (.int k a)=true:=Eq.trans rfl rfl
theorem lenV_slice (b:Option Addr) (n c:Nat):lenV (.slice b n c)=some n:=Eq.trans rfl rfl
theorem cells_int (k:IntKind) (a:Int):(Value.int k a).cells.toList=[.int k a]:=Eq.trans rfl rfl
theorem cells_agg (l:List Value):(Value.agg ⟨l⟩).cells.toList=l:=Eq.trans rfl rfl
theorem cells_ptr (a:Option Addr):(Value.pointer a).cells.toList=[.pointer a]:=Eq.trans rfl rfl
theorem cells_str (b:ByteArray):(Value.string b).cells.toList=[.string b]:=Eq.trans rfl rfl
section
variable (P:Program) (t:TypeId) (k:IntKind) (a b:Int) (h:H)
theorem xlss:xbin P .lss t (.int k a) (.int k b) h = .ok (.bool (decide (a<b))) h:=by simp[xbin,flat,binOp,Op.intCmp,prun,xflat,pure,Sem.pure]
theorem xleq:xbin P .leq t (.int k a) (.int k b) h = .ok (.bool (decide (a≤b))) h:=by simp[xbin,flat,binOp,Op.intCmp,prun,xflat,pure,Sem.pure]
theorem xgtr:xbin P .gtr t (.int k a) (.int k b) h = .ok (.bool (decide (b<a))) h:=by simp[xbin,flat,binOp,Op.intCmp,prun,xflat,pure,Sem.pure]
theorem xgeq:xbin P .geq t (.int k a) (.int k b) h = .ok (.bool (decide (b≤a))) h:=by simp[xbin,flat,binOp,Op.intCmp,prun,xflat,pure,Sem.pure]
theorem xeql:xbin P .eql t (.int k a) (.int k b) h = .ok (.bool (decide (a=b))) h:=by simp[xbin,flat,binOp,Op.intCmp,prun,xflat,pure,Sem.pure]; rfl
theorem xneq:xbin P .neq t (.int k a) (.int k b) h = .ok (.bool (!decide (a=b))) h:=by simp[xbin,flat,binOp,Op.intCmp,prun,xflat,pure,Sem.pure]; rfl
theorem xadd:xbin P .add t (.int k a) (.int k b) h = .ok (.int k (k.wrap (a+b))) h:=by simp[xbin,flat,binOp,Op.intArith,prun,xflat,pure,Sem.pure]
theorem xsub:xbin P .sub t (.int k a) (.int k b) h = .ok (.int k (k.wrap (a - b))) h:=by simp[xbin,flat,binOp,Op.intArith,prun,xflat,pure,Sem.pure]
end
theorem wrapu64 {n:Int} (h:0≤n∧n≤18446744073709551615):IntKind.u64.wrap n=n:=by
 simp[IntKind.wrap,IntKind.bits,IntKind.signed]; omega
theorem wrap64 {n:Int} (h : -9223372036854775808≤n∧n≤9223372036854775807):IntKind.i64.wrap n=n:=IntWalk.i64_in n h
def ofA (o:Option (List Value)) (h:H):Res Value:=match o with|some l=>.ok (.agg ⟨l⟩) h|none=>.bad
theorem ofA_some (l:List Value) (h:H):ofA (some l) h = .ok (.agg ⟨l⟩) h:=Eq.trans rfl rfl
theorem ofO_some (v:Value) (h:H):ofO (some v) h = .ok v h:=Eq.trans rfl rfl
theorem ofU_some (h:H):ofU (some h) = .ok undef h:=Eq.trans rfl rfl
theorem H.cell_eq {h:H} {b o:Nat} {c:List Value} {el:TypeId} {f:Nat} {op:Bool} (hg:h.get b=some (.cells c el f op)):h.cell ⟨b,o,none⟩=c[o]?:=by unfold H.cell; rw[hg]
theorem H.row_eq {h:H} {b o n:Nat} {c:List Value} {el:TypeId} {f:Nat} {op:Bool} (hg:h.get b=some (.cells c el f op)) (hl:o+n≤c.length):h.row ⟨b,o,none⟩ n=some ((c.drop o).take n):=by
 unfold H.row; rw[hg]; simp only[Nat.ble_eq_true_of_le hl,cond_true]
theorem H.row_all {h:H} {b n:Nat} {c:List Value} {el:TypeId} {f:Nat} {op:Bool} (hg:h.get b=some (.cells c el f op)) (hl:c.length=n):h.row ⟨b,0,none⟩ n=some c:=by
 rw[H.row_eq hg (by omega),List.drop_zero,List.take_of_length_le (Nat.le_of_eq hl)]
theorem H.write_eq {h:H} {b o:Nat} {c l:List Value} {el:TypeId} {op:Bool} (hg:h.get b=some (.cells c el 0 op)) (hl:o+l.length≤c.length) (h1:ones l=true) :
  h.write ⟨b,o,none⟩ l=some (h.put b (.cells (c.take o++(l++c.drop (o+l.length))) el 0 op)):=by
 unfold H.write; rw[hg]; simp only[Nat.ble_eq_true_of_le hl,h1,Bool.and_true,cond_true]; rfl
theorem H.write_all {h:H} {b:Nat} {c l:List Value} {el:TypeId} {op:Bool} (hg:h.get b=some (.cells c el 0 op)) (hl:l.length=c.length) (h1:ones l=true) :
  h.write ⟨b,0,none⟩ l=some (h.put b (.cells l el 0 op)):=by
 rw[H.write_eq hg (by omega) h1]
 simp[hl]
theorem H.alloc_self (h:H) (x:Blk):(h.alloc x).get h.next=some x:=by rw[H.get_alloc,if_pos rfl]
theorem H.alloc_old {h:H} {x y:Blk} {b:Nat} (hg:h.get b=some y):(h.alloc x).get b=some y:=by
 rw[H.get_alloc,if_neg (by have:=H.get_lt hg; omega)]; exact hg
theorem H.put_self {h:H} {x y:Blk} {b:Nat} (hg:h.get b=some y):(h.put b x).get b=some x:=by rw[H.get_put _ _ _ _ (H.get_lt hg),if_pos rfl]
theorem H.put_ne {h:H} {x y z:Blk} {b c:Nat} (hg:h.get b=some y) (hn:c≠b) (hc:h.get c=some z):(h.put b x).get c=some z:=by rw[H.get_put _ _ _ _ (H.get_lt hg),if_neg hn]; exact hc
theorem firstD_of {h:H} {size n:Nat} {v:Value} {new:List Value} (hl:lenV v=some n) (hf:firstC h size n v=some new):firstD h size n v=some new:=by
 unfold firstD
 cases hb:Nat.beq n 0 with
 |false=>rw[cond_false]; exact hf
 |true=>
  have:=Nat.eq_of_beq_eq_true hb
  subst this
  rw[hl]
  simp only[cond_true]
  have:new=[]:=by
   unfold firstC at hf
   split at hf
   ·rw[Nat.zero_mul] at hf; exact List.length_eq_zero_iff.1 (H.row_len0 hf)
   ·cases hf; rfl
   ·cases hq:Nat.beq size 1 with
    |false=>rw[hq] at hf; cases hf
    |true=>rw[hq] at hf; cases hf; rfl
   ·cases hf
  rw[this]
theorem firstD_0 {h:H} {size:Nat} {v:Value} (hl:lenV v=some 0):firstD h size 0 v=some []:=by
 unfold firstD
 rw[hl]; rfl
section
variable {P:Program} {t e:TypeId} {b o n cap:Nat} {h:H}
theorem xapp_in {xt:TypeId} {x:Value} {k:Nat} {new:List Value} {h':H} (he:elemOf? P t=some e) (hz:szOk P e=true) (hx:isIntT P xt=some false) (hl:lenV x=some k) (hf:firstC h (P.cellsOf e) k x=some new) (hk:n+k≤cap) (h0:k≠0)
  (hw:h.write ⟨b,o+n*P.cellsOf e,none⟩ new=some h'):xbuiltin P .append [t,xt] [.slice (some ⟨b,o,none⟩) n cap,x] h = .ok (.slice (some ⟨b,o,none⟩) (n+k) cap) h':=by
 show xappend P t xt _ x h=_
 unfold xappend appendC
 simp only[he,hz,hx,hl,firstD_of hl hf,cond_true,Nat.ble_eq_true_of_le hk,beqF h0,cond_false,hw]
theorem xapp_0 {xt:TypeId} {x:Value} {new:List Value} (he:elemOf? P t=some e) (hz:szOk P e=true) (hx:isIntT P xt=some false) (hl:lenV x=some 0) (hf:firstC h (P.cellsOf e) 0 x=some new) (hk:n≤cap) :
  xbuiltin P .append [t,xt] [.slice (some ⟨b,o,none⟩) n cap,x] h = .ok (.slice (some ⟨b,o,none⟩) n cap) h:=by
 show xappend P t xt _ x h=_
 unfold xappend appendC
 simp only[he,hz,hx,hl,firstD_of hl hf,cond_true,Nat.add_zero,Nat.ble_eq_true_of_le hk,beqT rfl]
end
theorem xapp_new {P:Program} {t e xt:TypeId} {base:Option Addr} {n cap k:Nat} {x:Value} {old new:List Value} {h:H} (he:elemOf? P t=some e) (hz:szOk P e=true) (hx:isIntT P xt=some false) (hl:lenV x=some k) (hf:firstC h (P.cellsOf e) k x=some new)
  (ho:firstC h (P.cellsOf e) n (.slice base n cap)=some old) (hk:¬ n+k≤cap) (b1:(n+k)*bytesOf P e≤35184372088832) (b2:n+k≤35184372088832) (b3:bytesOf P e≤1048576) (zf:zeroFits P e=true) (h1:ones new=true) (ha:appOk e h base=true) :
  xbuiltin P .append [t,xt] [.slice base n cap,x] h = .ok (.slice (some ⟨h.next,0,none⟩) (n+k) (n+k)) ((h.leave base).alloc (.cells (old++new) e 0 true)):=by
 show xappend P t xt _ x h=_
 unfold xappend appendC
 have hb:Nat.ble (n+k) cap=false:=by
  cases q:Nat.ble (n+k) cap with
  |false=>rfl
  |true=>exact absurd (Nat.le_of_ble_eq_true q) hk
 simp only[he,hz,hx,hl,firstD_of hl hf,ho,cond_true,hb,cond_false,Nat.ble_eq_true_of_le b1,Nat.ble_eq_true_of_le b2,Nat.ble_eq_true_of_le b3,zf,h1,ha,Bool.and_true]
structure Grow (h h':H):Prop where
 next:h.next≤h'.next
 old:∀ b x,h.get b=some x→h'.get b=some x
theorem Grow.refl (h:H):Grow h h:=⟨Nat.le_refl _,fun _ _ q=>q⟩
theorem Grow.trans {a b c:H} (p:Grow a b) (q:Grow b c):Grow a c:=⟨Nat.le_trans p.next q.next,fun x y e=>q.old x y (p.old x y e)⟩
theorem Grow.alloc {h h':H} (p:Grow h h') (x:Blk):Grow h (h'.alloc x):=⟨Nat.le_trans p.next (Nat.le_succ _),fun b y e=>H.alloc_old (p.old b y e)⟩
theorem Grow.put {h h':H} (p:Grow h h') {b:Nat} (hb:h.next≤b) (hl:b<h'.next) (x:Blk):Grow h (h'.put b x):=
 ⟨p.next,fun c y e=>by rw[H.get_put _ _ _ _ hl,if_neg (by have:=H.get_lt e; omega)]; exact p.old c y e⟩
structure Upd (S:Nat→Prop) (h h':H):Prop where
 next:h.next≤h'.next
 old:∀ b x,¬ S b→h.get b=some x→h'.get b=some x
theorem Upd.refl (S:Nat→Prop) (h:H):Upd S h h:=⟨Nat.le_refl _,fun _ _ _ q=>q⟩
theorem Grow.upd {h h':H} (g:Grow h h') (S:Nat→Prop):Upd S h h':=⟨g.next,fun b x _ q=>g.old b x q⟩
theorem Upd.trans {S:Nat→Prop} {a b c:H} (p:Upd S a b) (q:Upd S b c):Upd S a c:=⟨Nat.le_trans p.next q.next,fun x y n e=>q.old x y n (p.old x y n e)⟩
theorem Upd.mono {S T:Nat→Prop} {a b:H} (p:Upd S a b) (h:∀ x,x<a.next→S x→T x):Upd T a b:=⟨p.next,fun x y n e=>p.old x y (fun q=>n (h x (H.get_lt e) q)) e⟩
theorem Upd.put {S:Nat→Prop} {h h':H} (p:Upd S h h') {b:Nat} (hb:S b∨h.next≤b) (hl:b<h'.next) (x:Blk):Upd S h (h'.put b x):=
 ⟨p.next,fun c y n e=>by rw[H.get_put _ _ _ _ hl,if_neg (fun q=>by subst q; rcases hb with q|q; exact n q; have:=H.get_lt e; omega)]; exact p.old c y n e⟩
theorem Upd.alloc {S:Nat→Prop} {h h':H} (p:Upd S h h') (x:Blk):Upd S h (h'.alloc x):=⟨Nat.le_trans p.next (Nat.le_succ _),fun b y n e=>H.alloc_old (p.old b y n e)⟩
theorem Grow.row {h h':H} (g:Grow h h') {b o n:Nat} {l:List Value} (hr:h.row ⟨b,o,none⟩ n=some l):h'.row ⟨b,o,none⟩ n=some l:=by
 unfold H.row at *
 simp only at *
 cases hb:h.get b with
 |none=>rw[hb] at hr; cases hr
 |some x=>rw[g.old b x hb]; rw[hb] at hr; exact hr
theorem Grow.cell {h h':H} (g:Grow h h') {b o:Nat} {v:Value} (hr:h.cell ⟨b,o,none⟩=some v):h'.cell ⟨b,o,none⟩=some v:=by
 unfold H.cell at *
 simp only at *
 cases hb:h.get b with
 |none=>rw[hb] at hr; cases hr
 |some x=>rw[g.old b x hb]; rw[hb] at hr; exact hr
end Go.Kx
