/- My texts for this claim, in one file: part 26. -/
import Derived.Test.YtbfgadekkemlcaaGreatDoorV25
set_option linter.unusedVariables false
set_option linter.unusedSimpArgs false
namespace Go.Kx
open Go
structure LsT (P:Program) (t e E:Nat):Prop where
 u:P.underlying t=some (.slice e)
 el:elemOf? P t=some e
 sz:szOk P e=true
 iss:isIntT P t=some false
 ce:P.cellsOf e=E
 pos:0<E
 zf:zeroFits P e=true
 by_:bytesOf P e≤4096
def GoodR (E:Nat) (rows:List (List Value)):Prop:=∀ r∈rows,r.length=E∧ones r=true
theorem GoodR.nil {E:Nat}:GoodR E []:=fun r h=>by cases h
theorem GoodR.append {E:Nat} {a b:List (List Value)} (h:GoodR E a) (k:GoodR E b):GoodR E (a++b):=fun r q=>(List.mem_append.1 q).elim (h r) (k r)
theorem GoodR.one {E:Nat} {r:List Value} (h:r.length=E) (k:ones r=true):GoodR E [r]:=fun q hq=>by simp only[List.mem_singleton] at hq; subst hq; exact⟨h,k⟩
theorem GoodR.take {E:Nat} {a:List (List Value)} (h:GoodR E a) (n:Nat):GoodR E (a.take n):=fun r q=>h r (List.mem_of_mem_take q)
theorem GoodR.drop {E:Nat} {a:List (List Value)} (h:GoodR E a) (n:Nat):GoodR E (a.drop n):=fun r q=>h r (List.mem_of_mem_drop q)
theorem GoodR.set {E:Nat} {a:List (List Value)} (h:GoodR E a) {r:List Value} (h1:r.length=E) (h2:ones r=true) (i:Nat):GoodR E (a.set i r):=fun q hq=>by
 rcases List.mem_or_eq_of_mem_set hq with w|w
 ·exact h q w
 ·subst w; exact⟨h1,h2⟩
theorem flat_len {E:Nat}:∀ {rows:List (List Value)},GoodR E rows→rows.flatten.length=rows.length*E
 |[],_=>by simp
 |r::l,g=>by
  have h1:=(g r (by simp)).1
  have h2:=flat_len (rows:=l) (fun q hq=>g q (by simp[hq]))
  rw[List.flatten_cons,List.length_append,h1,h2,List.length_cons,Nat.add_mul,Nat.one_mul,Nat.add_comm]
theorem flat_ones {E:Nat}:∀ {rows:List (List Value)},GoodR E rows→ones rows.flatten=true
 |[],_=>rfl
 |r::l,g=>by
  rw[List.flatten_cons]
  exact ones_append (g r (by simp)).2 (flat_ones (rows:=l) (fun q hq=>g q (by simp[hq])))
theorem flat_drop {E:Nat} {rows:List (List Value)} (g:GoodR E rows) {m:Nat} (hm:m≤rows.length) (sp:List Value):(rows.flatten++sp).drop (m*E)=(rows.drop m).flatten++sp:=by
 have h1:rows.flatten=(rows.take m).flatten++(rows.drop m).flatten:=by rw[← List.flatten_append,List.take_append_drop]
 have h2:=flat_len (g.take m)
 rw[List.length_take,Nat.min_eq_left hm] at h2
 rw[h1,List.append_assoc,← h2,List.drop_left]
theorem flat_take {E:Nat} {rows:List (List Value)} (g:GoodR E rows) {m:Nat} (hm:m≤rows.length) (sp:List Value):(rows.flatten++sp).take (m*E)=(rows.take m).flatten:=by
 have h1:rows.flatten=(rows.take m).flatten++(rows.drop m).flatten:=by rw[← List.flatten_append,List.take_append_drop]
 have h2:=flat_len (g.take m)
 rw[List.length_take,Nat.min_eq_left hm] at h2
 rw[h1,List.append_assoc,← h2,List.take_left]
theorem flat_at {E:Nat} {rows:List (List Value)} (g:GoodR E rows) {m:Nat} {r:List Value} (hr:rows[m]? = some r) (sp:List Value):((rows.flatten++sp).drop (m*E)).take E=r:=by
 obtain⟨hm,he⟩:=List.getElem?_eq_some_iff.1 hr
 rw[flat_drop g (by omega),List.drop_eq_getElem_cons hm,he,List.flatten_cons,List.append_assoc]
 exact List.take_left' (g r (List.mem_of_getElem? hr)).1
def Lst (e E:Nat) (h:H) (sl:Value) (br:Option Nat) (rows:List (List Value)):Prop:=
 (br=none∧sl = .slice none 0 0∧rows=[]) ∨
 ∃ b sp cap,br=some b∧sl = .slice (some ⟨b,0,none⟩) rows.length cap∧h.get b=some (.cells (rows.flatten++sp) e 0 true)∧(rows.flatten++sp).length=cap*E∧ones sp=true
theorem Lst.upd {S:Nat→Prop} {h h':H} (u:Upd S h h') {e E:Nat} {sl:Value} {br:Option Nat} {rows:List (List Value)} (l:Lst e E h sl br rows) (hS:∀ b,br=some b→¬ S b):Lst e E h' sl br rows:=by
 refine l.imp id ?_
 rintro ⟨b,sp,cap,q,a,c,d⟩
 exact⟨b,sp,cap,q,a,u.old _ _ (hS b q) c,d⟩
theorem Lst.grow {h h':H} (g:Grow h h') {e E:Nat} {sl:Value} {br:Option Nat} {rows:List (List Value)} (l:Lst e E h sl br rows):Lst e E h' sl br rows:=l.upd (g.upd fun _=>False) fun _ _=>id
theorem Lst.nil {e E:Nat} {h:H}:Lst e E h (.slice none 0 0) none []:=.inl ⟨rfl,rfl,rfl⟩
theorem Lst.lt {e E:Nat} {h:H} {sl:Value} {br:Option Nat} {rows:List (List Value)} (l:Lst e E h sl br rows) {b:Nat} (hb:br=some b):b<h.next:=by
 rcases l with ⟨q,_⟩|⟨b',_,_,q,_,q2,_⟩
 ·rw[q] at hb; cases hb
 ·rw[q] at hb; cases hb; exact H.get_lt q2
theorem Lst.len {e E:Nat} {h:H} {sl:Value} {br:Option Nat} {rows:List (List Value)} (l:Lst e E h sl br rows):∃ x c,sl = .slice x rows.length c:=by
 rcases l with ⟨_,q,w⟩|⟨b,sp,cap,_,q,_⟩
 ·subst w; exact⟨_,_,q⟩
 ·exact⟨_,_,q⟩
theorem Lst.at_ {e E:Nat} {h:H} {sl:Value} {br:Option Nat} {rows:List (List Value)} (l:Lst e E h sl br rows) (g:GoodR E rows) {i:Nat} {r:List Value} (hr:rows[i]? = some r) :
  ∃ b cap c,br=some b∧sl = .slice (some ⟨b,0,none⟩) rows.length cap∧h.get b=some (.cells c e 0 true)∧i*E+E≤c.length∧h.row ⟨b,i*E,none⟩ E=some r∧∀ j,j<E→h.cell ⟨b,i*E+j,none⟩=r[j]?:=by
 obtain⟨hi,he⟩:=List.getElem?_eq_some_iff.1 hr
 rcases l with ⟨_,_,w⟩|⟨b,sp,cap,q1,q2,q3,q4,q5⟩
 ·subst w; simp at hi
 ·have hl:=flat_len g
  have hm:=Nat.mul_le_mul_right E (show i+1≤rows.length by omega)
  rw[Nat.add_mul,Nat.one_mul] at hm
  have hle:i*E+E≤(rows.flatten++sp).length:=by rw[List.length_append]; omega
  refine⟨b,cap,_,q1,q2,q3,hle,by rw[H.row_eq q3 hle,flat_at g hr],fun j hj=>?_⟩
  rw[H.cell_eq q3,← flat_at g hr sp,List.getElem?_take,if_pos hj,List.getElem?_drop]
def NewBr (h:H) (br br':Option Nat):Prop:=br'=br∨∃ b,br'=some b∧h.next≤b
section
variable {P:Program} {t e E:Nat} (T:LsT P t e E) {h:H} {sl:Value} {br:Option Nat} {rows:List (List Value)}
include T
theorem lst_appN (l:Lst e E h sl br rows) (g:GoodR E rows) {x:Value} {k:Nat} {rows2:List (List Value)} (few:rows.length+k≤8000000) (hx:lenV x=some k) (hf:firstC h (P.cellsOf e) k x=some rows2.flatten) (h2:rows2.length=k) (g2:GoodR E rows2) :
  ∃ sl' br' h',xbuiltin P .append [t,t] [sl,x] h = .ok sl' h'∧Upd (fun x=>some x=br) h h'∧Lst e E h' sl' br' (rows++rows2)∧NewBr h br br':=by
 have hby:=T.by_
 have b1:(rows.length+k)*bytesOf P e≤35184372088832:=by
  have:=Nat.mul_le_mul few hby
  omega
 have hl:=flat_len g
 have hl2:=flat_len g2
 have hfl:rows.flatten++rows2.flatten=(rows++rows2).flatten:=by rw[List.flatten_append]
 have hg':=g.append g2
 have o2:=flat_ones g2
 by_cases hk:k=0
 ·subst hk
  have hr2:rows2=[]:=List.length_eq_zero_iff.1 h2
  subst hr2
  rw[List.append_nil]
  rcases l with ⟨rfl,rfl,rfl⟩|⟨b,sp,cap,rfl,rfl,q3,q4,q5⟩
  ·refine⟨.slice none 0 0,none,h,?_,Upd.refl _ _,Lst.nil,.inl rfl⟩
   show xappend P t t _ x h=_
   unfold xappend appendC
   simp only[T.el,T.sz,T.iss,hx,firstD_of hx hf,cond_true,Nat.add_zero,Nat.ble_eq_true_of_le (Nat.le_refl 0),beqT rfl]
  ·have hcap:rows.length≤cap:=by
    rw[List.length_append,hl] at q4
    have:=T.pos
    exact Nat.le_of_mul_le_mul_right (by omega) this
   exact⟨_,some b,h,xapp_0 T.el T.sz T.iss hx hf hcap,Upd.refl _ _,.inr ⟨b,sp,cap,rfl,rfl,q3,q4,q5⟩,.inl rfl⟩
 rcases l with ⟨rfl,rfl,rfl⟩|⟨b,sp,cap,rfl,rfl,q3,q4,q5⟩
 ·have e1:=xapp_new (k:=k) (base:=none) (n:=0) (cap:=0) (old:=[]) T.el T.sz T.iss hx hf rfl (by omega) (by simpa using b1) (by omega) (by omega) T.zf o2 rfl
  refine⟨_,_,_,e1,(Upd.refl _ h).alloc _,.inr ⟨h.next,[],k,rfl,by simp[h2],?_,?_,rfl⟩,.inr ⟨_,rfl,Nat.le_refl _⟩⟩
  ·show (h.alloc _).get h.next=_
   rw[H.alloc_self]; simp
  ·rw[List.append_nil,List.nil_append,hl2,h2]
 ·have hold:firstC h (P.cellsOf e) rows.length (.slice (some ⟨b,0,none⟩) rows.length cap)=some rows.flatten:=by
   show h.row ⟨b,0,none⟩ (rows.length*P.cellsOf e)=_
   rw[T.ce,H.row_eq q3 (by rw[List.length_append]; omega),List.drop_zero,List.take_left' hl]
  by_cases hfit:rows.length+k≤cap
  ·have hm:=Nat.mul_le_mul_right E hfit
   rw[Nat.add_mul] at hm
   have hl2':rows2.flatten.length=k*E:=by rw[hl2,h2]
   have hw:h.write ⟨b,0+rows.length*P.cellsOf e,none⟩ rows2.flatten=some _:=H.write_eq q3 (by rw[T.ce,Nat.zero_add,hl2',q4]; exact hm) o2
   have e1:=xapp_in T.el T.sz T.iss hx hf hfit hk hw
   refine⟨_,some b,_,e1,(Upd.refl (fun x=>some x=some b) h).put (.inl rfl) (H.get_lt q3) _,.inr ⟨b,sp.drop (k*E),cap,rfl,by rw[List.length_append,h2],?_,?_,ones_drop q5 _⟩,.inl rfl⟩
   ·rw[H.put_self q3,T.ce,Nat.zero_add,List.take_left' hl,← hfl,← List.drop_drop,List.drop_left' hl,hl2',List.append_assoc]
   ·rw[← hfl,List.length_append,List.length_append,List.length_drop,hl2',hl]
    rw[List.length_append,hl] at q4
    omega
  ·have ha:appOk e h (some ⟨b,0,none⟩)=true:=by unfold appOk; simp[q3,Nat.beq_refl]
   have e1:=xapp_new T.el T.sz T.iss hx hf hold hfit b1 (by omega) (by omega) T.zf o2 ha
   have hlv:h.leave (some ⟨b,0,none⟩)=h.put b .dead:=by unfold H.leave; simp only[q3]
   rw[hlv] at e1
   refine⟨_,some h.next,_,e1,((Upd.refl (fun x=>some x=some b) h).put (.inl rfl) (H.get_lt q3) _).alloc _,.inr ⟨h.next,[],rows.length+k,rfl,by rw[List.length_append,h2],?_,?_,rfl⟩,.inr ⟨_,rfl,Nat.le_refl _⟩⟩
   ·rw[show h.next=(h.put b .dead).next from rfl,H.alloc_self,hfl,List.append_nil]
   ·rw[List.append_nil,flat_len hg',List.length_append,h2]
theorem lst_pushN (l:Lst e E h sl br rows) (g:GoodR E rows) (few:rows.length<8000000) {vb:Nat} {r:List Value} {el:TypeId} (hv:h.get vb=some (.cells r el 0 false)) (hr:r.length=E) (hr1:ones r=true) :
  ∃ sl' br' h',xbuiltin P .append [t,t] [sl,.slice (some ⟨vb,0,none⟩) 1 1] h = .ok sl' h'∧Upd (fun x=>some x=br) h h'∧Lst e E h' sl' br' (rows++[r])∧NewBr h br br':=
 lst_appN T l g (rows2:=[r]) (by omega) (lenV_slice _ _ _) (by
  show h.row ⟨vb,0,none⟩ (1*P.cellsOf e)=some [r].flatten
  rw[H.row_all hv (by rw[T.ce,Nat.one_mul]; exact hr)]
  simp) rfl (GoodR.one hr hr1)
omit T in
end
end Go.Kx
