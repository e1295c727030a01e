/- My texts for this claim, in one file: part 3. -/
import Derived.Test.YtbfgadekkemlcaaGreatDoorV2
set_option linter.unusedVariables false
set_option linter.unusedSimpArgs false
namespace Go.Kx
open Go
structure Ent where
 c:Nat
 sh:Nat
 slack:Nat
 tot:Nat
 esz:Nat
 opn:Bool
abbrev Io:=Nat→Option Ent
mutual
inductive R (ι:Io):Value→Value→Prop
 |bool (b:Bool):R ι (.bool b) (.bool b)
 |int (k:IntKind) (n:Int):R ι (.int k n) (.int k n)
 |float (k:FloatKind) (n:Nat):R ι (.float k n) (.float k n)
 |complex (k:FloatKind) (n m:Nat):R ι (.complex k n m) (.complex k n m)
 |string (s:ByteArray):R ι (.string s) (.string s)
 |ptr0:R ι (.pointer none) (.pointer none)
 |ptr {b o:Nat} {e:Ent} (h:ι b=some e):R ι (.pointer (some ⟨b,o,none⟩)) (.pointer (some ⟨e.c,o+e.sh,none⟩))
 |slc0 (n c:Nat):R ι (.slice none n c) (.slice none n c)
 |slcO {b o n c:Nat} {e:Ent} (h:ι b=some e) (hc:e.opn=true→o+e.sh+(c+e.slack)*e.esz=e.tot):R ι (.slice (some ⟨b,o,none⟩) n c) (.slice (some ⟨e.c,o+e.sh,none⟩) n (c+e.slack))
 |slcX {b o n c:Nat} {e:Ent} (h:ι b=some e):R ι (.slice (some ⟨b,o,some 0⟩) n c) (.slice (some ⟨e.c,o+e.sh,none⟩) n c)
 |slcE {b o o' c':Nat} {e:Ent} (h:ι b=some e) (h':(o'+c'*e.esz=e.tot∧e.tot≤o'+e.slack*e.esz)∨c'=0):R ι (.slice (some ⟨b,o,some 1⟩) 0 0) (.slice (some ⟨e.c,o',none⟩) 0 c')
 |slcN {b o:Nat}:R ι (.slice (some ⟨b,o,some 2⟩) 0 0) (.slice (some ⟨b,o,none⟩) 0 0)
 |slcM {b o k:Nat}:R ι (.slice (some ⟨b,o,some (k+3)⟩) 0 0) (.slice (some ⟨b,o,some k⟩) 0 0)
 |map0:R ι (.map none) (.map none)
 |map {b:Nat} {e:Ent} (h:ι b=some e):R ι (.map (some b)) (.map (some e.c))
 |yield {b:Nat} {e:Ent} (h:ι b=some e):R ι (.func (.yield b) ⟨[]⟩ ⟨[]⟩) (.func (.yield e.c) ⟨[]⟩ ⟨[]⟩)
 |func {g:FuncId} {f f' c c':List Value} (h:RL ι f f') (h':RL ι c c'):R ι (.func (.func g) ⟨f⟩ ⟨c⟩) (.func (.func g) ⟨f'⟩ ⟨c'⟩)
 |nilFunc:R ι .nilFunc .nilFunc
 |iface {t:TypeId} {v v':Value} (h:R ι v v'):R ι (.iface t v) (.iface t v')
 |nilIface:R ι .nilIface .nilIface
 |agg {l l':List Value} (h:RL ι l l'):R ι (.agg ⟨l⟩) (.agg ⟨l'⟩)
 |tuple {l l':List Value} (h:RL ι l l'):R ι (.tuple ⟨l⟩) (.tuple ⟨l'⟩)
 |hole {v':Value} (h:v'.oneCell'=true):R ι (.func (.method "") ⟨[]⟩ ⟨[v']⟩) v'
inductive RL (ι:Io):List Value→List Value→Prop
 |nil:RL ι [] []
 |cons {v v':Value} {l l':List Value} (h:R ι v v') (hl:RL ι l l'):RL ι (v::l) (v'::l')
end
def Ext (ι ι':Io):Prop:=∀ b e,ι b=some e→ι' b=some e
theorem Ext.refl (ι:Io):Ext ι ι:=fun _ _ h=>h
theorem Ext.trans {a b c:Io} (h:Ext a b) (k:Ext b c):Ext a c:=fun _ _ e=>k _ _ (h _ _ e)
mutual
theorem R.mono {ι ι':Io} (x:Ext ι ι'):∀ {v v':Value},R ι v v'→R ι' v v'
 |_,_,.bool b=>.bool b
 |_,_,.int k n=>.int k n
 |_,_,.float k n=>.float k n
 |_,_,.complex k n m=>.complex k n m
 |_,_,.string s=>.string s
 |_,_,.ptr0=>.ptr0
 |_,_,.ptr h=>.ptr (x _ _ h)
 |_,_,.slc0 n c=>.slc0 n c
 |_,_,.slcO h hc=>.slcO (x _ _ h) hc
 |_,_,.slcX h=>.slcX (x _ _ h)
 |_,_,.slcE h h'=>.slcE (x _ _ h) h'
 |_,_,.slcN=>.slcN
 |_,_,.slcM=>.slcM
 |_,_,.map0=>.map0
 |_,_,.map h=>.map (x _ _ h)
 |_,_,.yield h=>.yield (x _ _ h)
 |_,_,.func h h'=>.func (RL.mono x h) (RL.mono x h')
 |_,_,.nilFunc=>.nilFunc
 |_,_,.iface h=>.iface (R.mono x h)
 |_,_,.nilIface=>.nilIface
 |_,_,.agg h=>.agg (RL.mono x h)
 |_,_,.tuple h=>.tuple (RL.mono x h)
 |_,_,.hole h=>.hole h
theorem RL.mono {ι ι':Io} (x:Ext ι ι'):∀ {l l':List Value},RL ι l l'→RL ι' l l'
 |_,_,.nil=>.nil
 |_,_,.cons h hl=>.cons (R.mono x h) (RL.mono x hl)
end
mutual
theorem R.flatEq {ι:Io}:∀ {v v':Value},R ι v v'→flat v=true→v'=v
 |_,_,.bool b,_=>rfl
 |_,_,.int k n,_=>rfl
 |_,_,.float k n,_=>rfl
 |_,_,.complex k n m,_=>rfl
 |_,_,.string s,_=>rfl
 |_,_,.ptr0,_=>rfl
 |_,_,.ptr h,f=>by simp[flat] at f
 |_,_,.slc0 n c,_=>rfl
 |_,_,.slcO h hc,f=>by simp[flat] at f
 |_,_,.slcX h,f=>by simp[flat] at f
 |_,_,.slcE h h',f=>by simp[flat] at f
 |_,_,.slcN,f=>by simp[flat] at f
 |_,_,.slcM,f=>by simp[flat] at f
 |_,_,.map0,_=>rfl
 |_,_,.map h,f=>by simp[flat] at f
 |_,_,.yield h,f=>by simp[flat] at f
 |_,_,.func h h',f=>by simp[flat] at f
 |_,_,.nilFunc,_=>rfl
 |_,_,.iface h,f=>by rw[R.flatEq h (by simpa [flat] using f)]
 |_,_,.nilIface,_=>rfl
 |_,_,.agg h,f=>by rw[RL.flatEq h (by simpa [flat] using f)]
 |_,_,.tuple h,f=>by rw[RL.flatEq h (by simpa [flat] using f)]
 |_,_,.hole h,f=>by simp[flat] at f
theorem RL.flatEq {ι:Io}:∀ {l l':List Value},RL ι l l'→flatL l=true→l'=l
 |_,_,.nil,_=>rfl
 |_,_,.cons h hl,f=>by
  simp only[flatL,Bool.and_eq_true] at f
  rw[R.flatEq h f.1,RL.flatEq hl f.2]
end
mutual
theorem R.ofFlat (ι:Io):∀ (v:Value),flat v=true→R ι v v
 |.bool b,_=>.bool b
 |.int k n,_=>.int k n
 |.float k n,_=>.float k n
 |.complex k n m,_=>.complex k n m
 |.string s,_=>.string s
 |.pointer none,_=>.ptr0
 |.pointer (some _),f=>by simp[flat] at f
 |.slice none n c,_=>.slc0 n c
 |.slice (some _) _ _,f=>by simp[flat] at f
 |.map none,_=>.map0
 |.map (some _),f=>by simp[flat] at f
 |.chan _,f=>by simp[flat] at f
 |.func _ _ _,f=>by simp[flat] at f
 |.nilFunc,_=>.nilFunc
 |.iface t v,f=>.iface (R.ofFlat ι v (by simpa [flat] using f))
 |.nilIface,_=>.nilIface
 |.agg ⟨l⟩,f=>.agg (RL.ofFlat ι l (by simpa [flat] using f))
 |.tuple ⟨l⟩,f=>.tuple (RL.ofFlat ι l (by simpa [flat] using f))
theorem RL.ofFlat (ι:Io):∀ (l:List Value),flatL l=true→RL ι l l
 |[],_=>.nil
 |v::l,f=>by
  simp only[flatL,Bool.and_eq_true] at f
  exact .cons (R.ofFlat ι v f.1) (RL.ofFlat ι l f.2)
end
mutual
theorem R.same {ι:Io}:∀ {v v' u u':Value},R ι v v'→R ι u u'→veq v u=true→v'=u'
 |_,_,_,_,.bool b,q,e=>by cases q<;>simp_all [veq]
 |_,_,_,_,.int k n,q,e=>by cases q<;>simp_all [veq]
 |_,_,_,_,.float k n,q,e=>by cases q<;>simp_all [veq]
 |_,_,_,_,.complex k n m,q,e=>by cases q<;>simp_all [veq]
 |_,_,_,_,.string s,q,e=>by
  cases q<;>simp[veq] at e
  rename_i s'
  have h:s.data=s'.data:=by
   cases hs:s.data; cases hs':s'.data; simp_all
  cases s; cases s'; simp_all
 |_,_,_,_,.ptr0,q,e=>by cases q<;>simp_all [veq]
 |_,_,_,_,.ptr h,q,e=>by cases q<;>simp_all [veq]
 |_,_,_,_,.slc0 n c,q,e=>by
  cases q<;>simp[veq] at e
  obtain⟨rfl,rfl⟩:=e; rfl
 |_,_,_,_,.slcO h hc,q,e=>by
  cases q<;>simp[veq] at e
  obtain⟨⟨⟨rfl,rfl⟩,rfl⟩,rfl⟩:=e
  simp_all
 |_,_,_,_,.slcX h,q,e=>by
  cases q<;>simp[veq] at e
  obtain⟨⟨⟨rfl,rfl⟩,rfl⟩,rfl⟩:=e
  simp_all
 |_,_,_,_,.slcE h h',q,e=>by cases q<;>simp[veq] at e
 |_,_,_,_,.slcN,q,e=>by
  cases q<;>simp[veq] at e
  obtain⟨rfl,rfl⟩:=e; rfl
 |_,_,_,_,.slcM,q,e=>by
  cases q<;>simp[veq] at e
  obtain⟨rfl,rfl,rfl⟩:=e; rfl
 |_,_,_,_,.map0,q,e=>by cases q<;>simp_all [veq]
 |_,_,_,_,.map h,q,e=>by cases q<;>simp_all [veq]
 |_,_,_,_,.yield h,q,e=>by cases q<;>simp[veq] at e
 |_,_,_,_,.func h h',q,e=>by
  cases q with
  |func k k'=>
   simp[veq] at e
   obtain⟨⟨rfl,e1⟩,e2⟩:=e
   rw[RL.same h k e1,RL.same h' k' e2]
  |_=>simp[veq] at e
 |_,_,_,_,.nilFunc,q,e=>by cases q<;>simp_all [veq]
 |_,_,_,_,.iface h,q,e=>by
  cases q<;>simp[veq] at e
  rename_i q'
  rw[e.1,R.same h q' e.2]
 |_,_,_,_,.nilIface,q,e=>by cases q<;>simp_all [veq]
 |_,_,_,_,.agg h,q,e=>by
  cases q<;>simp[veq] at e
  rename_i q'
  rw[RL.same h q' e]
 |_,_,_,_,.tuple h,q,e=>by
  cases q<;>simp[veq] at e
  rename_i q'
  rw[RL.same h q' e]
 |_,_,_,_,.hole h,q,e=>by cases q<;>simp[veq] at e
theorem RL.same {ι:Io}:∀ {l l' m m':List Value},RL ι l l'→RL ι m m'→veqL l m=true→l'=m'
 |_,_,_,_,.nil,q,e=>by cases q<;>simp_all [veqL]
 |_,_,_,_,.cons h hl,q,e=>by
  cases q with
  |nil=>simp[veqL] at e
  |cons k kl=>
   simp only[veqL,Bool.and_eq_true] at e
   rw[R.same h k e.1,RL.same hl kl e.2]
end
theorem RL.length {ι:Io}:∀ {l l':List Value},RL ι l l'→l.length=l'.length
 |_,_,.nil=>rfl
 |_,_,.cons _ hl=>by simp[RL.length hl]
theorem RL.append {ι:Io}:∀ {l l' m m':List Value},RL ι l l'→RL ι m m'→RL ι (l++m) (l'++m')
 |_,_,_,_,.nil,q=>q
 |_,_,_,_,.cons h hl,q=>.cons h (RL.append hl q)
theorem RL.drop {ι:Io}:∀ {l l':List Value} (n:Nat),RL ι l l'→RL ι (l.drop n) (l'.drop n)
 |_,_,0,h=>by simpa using h
 |_,_,n+1,.nil=>by simpa using RL.nil
 |_,_,n+1,.cons _ hl=>by simpa using RL.drop n hl
theorem RL.take {ι:Io}:∀ {l l':List Value} (n:Nat),RL ι l l'→RL ι (l.take n) (l'.take n)
 |_,_,0,h=>by simpa using RL.nil
 |_,_,n+1,.nil=>by simpa using RL.nil
 |_,_,n+1,.cons h hl=>by simpa using RL.cons h (RL.take n hl)
theorem RL.get {ι:Io}:∀ {l l':List Value},RL ι l l'→∀ {i:Nat} {v:Value},l[i]? = some v→∃ v',l'[i]? = some v'∧R ι v v'
 |_,_,.nil,i,v,e=>by simp at e
 |_,_,.cons h hl,0,v,e=>by simp at e; subst e; exact⟨_,rfl,h⟩
 |_,_,.cons h hl,i+1,v,e=>by simpa using RL.get hl (by simpa using e)
theorem RL.one {ι:Io} {v v':Value} (h:R ι v v'):RL ι [v] [v']:=.cons h .nil
theorem RL.repeatL {ι:Io} {z z':List Value} (h:RL ι z z'):∀ n,RL ι (repeatL z n) (Kx.repeatL z' n)
 |0=>.nil
 |n+1=>h.append (RL.repeatL h n)
theorem R.cells {ι:Io} {v v':Value} (h:R ι v v'):RL ι v.cells.toList v'.cells.toList:=by
 cases h with
 |agg h=>exact h
 |bool b=>exact .one (.bool b)
 |int k n=>exact .one (.int k n)
 |float k n=>exact .one (.float k n)
 |complex k n m=>exact .one (.complex k n m)
 |string s=>exact .one (.string s)
 |ptr0=>exact .one .ptr0
 |ptr h=>exact .one (.ptr h)
 |slc0 n c=>exact .one (.slc0 n c)
 |slcO h hc=>exact .one (.slcO h hc)
 |slcX h=>exact .one (.slcX h)
 |slcE h h'=>exact .one (.slcE h h')
 |slcN=>exact .one .slcN
 |slcM=>exact .one .slcM
 |map0=>exact .one .map0
 |map h=>exact .one (.map h)
 |yield h=>exact .one (.yield h)
 |func h h'=>exact .one (.func h h')
 |nilFunc=>exact .one .nilFunc
 |iface h=>exact .one (.iface h)
 |nilIface=>exact .one .nilIface
 |tuple h=>exact .one (.tuple h)
 |@hole v' h=>cases v'<;>first|exact .one (.hole h)|cases h
theorem R.oneCell {ι:Io} {v v':Value} (h:R ι v v'):v'.oneCell'=v.oneCell':=by cases h<;>first|rfl|(rename_i q; rw[q]; rfl)
theorem RL.ones {ι:Io}:∀ {l l':List Value},RL ι l l'→Kx.ones l'=Kx.ones l
 |_,_,.nil=>rfl
 |_,_,.cons h hl=>by simp[Kx.ones,R.oneCell h,RL.ones hl]
theorem ones_append {l m:List Value} (h:Kx.ones l=true) (k:Kx.ones m=true):Kx.ones (l++m)=true:=by
 induction l with
 |nil=>exact k
 |cons v l ih=>simp only[List.cons_append,Kx.ones,Bool.and_eq_true] at *; exact⟨h.1,ih h.2⟩
theorem ones_drop {l:List Value} (h:Kx.ones l=true):∀ n,Kx.ones (l.drop n)=true:=by
 induction l with
 |nil=>intro n; simp[Kx.ones]
 |cons v l ih=>
  intro n
  simp only[Kx.ones,Bool.and_eq_true] at h
  cases n with
  |zero=>simp only[List.drop_zero,Kx.ones,Bool.and_eq_true]; exact h
  |succ n=>exact ih h.2 n
theorem ones_repeat {z:List Value} (h:Kx.ones z=true):∀ n,Kx.ones (Kx.repeatL z n)=true
 |0=>rfl
 |n+1=>ones_append h (ones_repeat h n)
theorem ones_iff {l:List Value}:Kx.ones l=true↔∀ v∈l,v.oneCell'=true:=by
 induction l with
 |nil=>simp[Kx.ones]
 |cons v l ih=>simp[Kx.ones,ih]
theorem drop_written {arr l:List Value} {a m:Nat} (h1:a+l.length≤arr.length) (h2:a+l.length≤m):(arr.take a++(l++arr.drop (a+l.length))).drop m=arr.drop m:=by
 apply List.ext_getElem?
 intro j
 simp only[List.getElem?_drop,List.getElem?_append,List.length_take]
 rw[if_neg (by omega),if_neg (by omega)]
 congr 1
 omega
inductive RM (ι:Io):List MapEntry→List MapEntry→Prop
 |nil:RM ι [] []
 |cons {k:Value} {v v':Value} {n:Nat} {l l':List MapEntry} (h:R ι v v') (hl:RM ι l l'):RM ι (⟨k,v,n⟩::l) (⟨k,v',n⟩::l')
theorem RM.mono {ι ι':Io} (x:Ext ι ι'):∀ {l l':List MapEntry},RM ι l l'→RM ι' l l'
 |_,_,.nil=>.nil
 |_,_,.cons h hl=>.cons (h.mono x) (RM.mono x hl)
def frzOk (f lo hi tot:Nat):Prop:=(f=0→hi≤lo)∧(f=1→hi≤lo∨tot≤lo)
def FR (ι:Io) (fr:Fr) (tmps:Array Value):Prop:=∀ t v,Fr.at fr t=some v→∃ v',tmps[t]? = some v'∧R ι v v'
theorem FR.mono {ι ι':Io} {fr:Fr} {tmps:Array Value} (x:Ext ι ι') (h:FR ι fr tmps):FR ι' fr tmps:=
 fun t v e=>let ⟨v',h1,h2⟩:=h t v e; ⟨v',h1,h2.mono x⟩
def GL (G:Nat) (ι:Io):Prop:=∀ g,g<G→∃ e,ι g=some e∧e.c=g∧e.sh=0
theorem GL.mono {G:Nat} {ι ι':Io} (x:Ext ι ι') (h:GL G ι):GL G ι':=fun g hg=>let ⟨e,h1,h2⟩:=h g hg; ⟨e,x _ _ h1,h2⟩
def LpOk (G n:Nat) (x:LpB):Prop:=codeB x.an G n x.asg=true∧codeB x.an G n x.bo=true∧plainB x.asg=true∧plainB x.bo=true∧x.ps.all (fun p=>Nat.blt p n)=true
def BRel (P:Program) (ι:Io) (e:Ent) (w:World):Blk→Prop
 |.dead=>True
 |.cells c el f o=>∃ arr lo hi,w.heap[e.c]? = some (.cells ⟨arr⟩ el (lo,hi))∧arr.length=e.tot∧e.tot=e.sh+c.length+e.slack*e.esz ∧
   RL ι c ((arr.drop e.sh).take c.length)∧(o=false→e.slack=0∧(selfy P el=true→e.sh=0))∧(o=true→e.esz=P.cellsOf el)∧frzOk f lo hi e.tot∧e.opn=o∧(o=true→ones (arr.drop (e.sh+c.length))=true)
 |.map es clock=>∃ es',w.heap[e.c]? = some (.map ⟨es'⟩ clock)∧RM ι es es'
 |.siter s pos=>w.heap[e.c]? = some (.stringIter s pos)
 |.loop x=>∃ rec G n,w.heap[e.c]? = some (.loop rec)∧rec.state=x.st∧rec.pending=x.pe∧rec.params=⟨x.ps⟩∧rec.assign=x.asg∧rec.body=x.bo∧FR ι x.fr rec.tmps∧LpOk G n x∧n≤rec.tmps.size∧GL G ι
def Blk.live:Blk→Bool
 |.dead=>false
 |_=>true
structure Sim (P:Program) (ι:Io) (h:H) (w:World):Prop where
 dom:∀ b e,ι b=some e→b<h.next∧e.c<w.heap.size
 blk:∀ b x,h.get b=some x→x.live=true→∃ e,ι b=some e∧BRel P ι e w x
 inj:∀ b₁ b₂ x₁ x₂ e₁ e₂,h.get b₁=some x₁→h.get b₂=some x₂→x₁.live=true→x₂.live=true→ι b₁=some e₁→ι b₂=some e₂→e₁.c=e₂.c→b₁=b₂
def shp:Obj→Option (Nat × TypeId × (Nat × Nat))
 |.cells c el lh=>some (c.size,el,lh)
 |_=>none
structure Step (ι:Io) (w:World) (ι':Io) (w':World):Prop where
 ext:Ext ι ι'
 new:∀ b e,ι' b=some e→ι b=none→w.heap.size≤e.c∨∃ b₀ e₀,ι b₀=some e₀∧e₀.c=e.c∧(e.opn=true→e₀.opn=true)
 os:w'.os=w.os
 tape:w'.tape=w.tape
 output:w'.output=w.output
 size:w.heap.size≤w'.heap.size
 keep:∀ c,c<w.heap.size→(∀ b e,ι b=some e→e.c≠c)→w'.heap[c]? = w.heap[c]?
 shp:∀ c,c<w.heap.size→(∃ b e,ι b=some e∧e.c=c∧e.opn=true)∨(w'.heap[c]?).bind Kx.shp=(w.heap[c]?).bind Kx.shp
theorem Step.refl (ι:Io) (w:World):Step ι w ι w:=
 ⟨Ext.refl _,fun _ _ h h'=>(by rw[h] at h'; cases h'),rfl,rfl,rfl,Nat.le_refl _,fun _ _ _=>rfl,fun _ _=>.inr rfl⟩
theorem Step.trans {ι₀ ι₁ ι₂:Io} {w₀ w₁ w₂:World} (p:Step ι₀ w₀ ι₁ w₁) (q:Step ι₁ w₁ ι₂ w₂):Step ι₀ w₀ ι₂ w₂:=by
 refine⟨p.ext.trans q.ext,fun b e h h0=>?_,q.os.trans p.os,q.tape.trans p.tape,q.output.trans p.output,Nat.le_trans p.size q.size,fun c hc hn=>?_,fun c hc=>?_⟩
 ·cases h1:ι₁ b with
  |some e'=>
   have:=q.ext _ _ h1; rw[h] at this; cases this
   exact p.new b e h1 h0
  |none=>
   rcases q.new b e h h1 with hs|⟨b0,e0,hb0,hc0,ho0⟩
   ·exact .inl (Nat.le_trans p.size hs)
   ·cases h2:ι₀ b0 with
    |some e'=>have:=p.ext _ _ h2; rw[hb0] at this; cases this; exact .inr ⟨b0,e0,h2,hc0,ho0⟩
    |none=>
     rcases p.new b0 e0 hb0 h2 with hs|⟨b3,e3,h3,hc3,ho3⟩
     ·exact .inl (hc0 ▸ hs)
     ·exact .inr ⟨b3,e3,h3,hc3.trans hc0,fun z=>ho3 (ho0 z)⟩
 ·rw[q.keep c (Nat.lt_of_lt_of_le hc p.size) ?_,p.keep c hc hn]
  intro b e hb he
  cases h0:ι₀ b with
  |some e'=>have:=p.ext _ _ h0; rw[hb] at this; cases this; exact hn b e h0 he
  |none=>
   rcases p.new b e hb h0 with hs|⟨b1,e1,h1,hc1,_⟩
   ·omega
   ·exact hn b1 e1 h1 (hc1.trans he)
 ·rcases q.shp c (Nat.lt_of_lt_of_le hc p.size) with ⟨b,e,hb,he,ho⟩|hq
  ·left
   cases h0:ι₀ b with
   |some e'=>have:=p.ext _ _ h0; rw[hb] at this; cases this; exact⟨b,e,h0,he,ho⟩
   |none=>
    rcases p.new b e hb h0 with hs|⟨b1,e1,h1,hc1,ho1⟩
    ·omega
    ·exact⟨b1,e1,h1,hc1.trans he,ho1 ho⟩
  ·exact (p.shp c hc).imp id fun z=>hq.trans z
theorem Step.drawn (ι:Io) (w:World) (n:Nat):Step ι w ι { w with drawn:=n }:=
 ⟨Ext.refl _,fun _ _ h h'=>(by rw[h] at h'; cases h'),rfl,rfl,rfl,Nat.le_refl _,fun _ _ _=>rfl,fun _ _=>.inr rfl⟩
theorem BRel.drawn {P:Program} {ι:Io} {e:Ent} {w:World} {x:Blk} (n:Nat) (h:BRel P ι e w x):BRel P ι e { w with drawn:=n } x:=by
 cases x<;>exact h
theorem Sim.drawn {P:Program} {ι:Io} {h:H} {w:World} (n:Nat) (s:Sim P ι h w):Sim P ι h { w with drawn:=n }:=
 ⟨s.dom,fun b x hx hl=>let ⟨e,he,hb⟩:=s.blk b x hx hl; ⟨e,he,hb.drawn n⟩,s.inj⟩
theorem BRel.mono {P:Program} {ι ι':Io} {e:Ent} {w w':World} {x:Blk} (hx:Ext ι ι') (hw:w'.heap[e.c]? = w.heap[e.c]?) (h:BRel P ι e w x):BRel P ι' e w' x:=by
 cases x with
 |dead=>trivial
 |cells c el f o=>
  obtain⟨arr,lo,hi,h1,h2,h3,h4,h5⟩:=h
  exact⟨arr,lo,hi,hw.trans h1,h2,h3,h4.mono hx,h5⟩
 |map es clock=>
  obtain⟨es',h1,h2⟩:=h
  exact⟨es',hw.trans h1,h2.mono hx⟩
 |siter s pos=>exact hw.trans h
 |loop y=>
  obtain⟨rec,G,n,h1,h2,h3,h4,h5,h6,h7,h8,h9,h10⟩:=h
  exact⟨rec,G,n,hw.trans h1,h2,h3,h4,h5,h6,h7.mono hx,h8,h9,h10.mono hx⟩
def Io.add (ι:Io) (b:Nat) (e:Ent):Io:=fun x=>if x=b then some e else ι x
theorem Io.add_self (ι:Io) (b:Nat) (e:Ent):ι.add b e b=some e:=if_pos rfl
theorem Sim.free {P:Program} {ι:Io} {h:H} {w:World} (s:Sim P ι h w) {b:Nat} (hb:h.next≤b):ι b=none:=by
 cases e:ι b with
 |none=>rfl
 |some x=>have:=(s.dom b x e).1; omega
theorem Sim.ext {P:Program} {ι:Io} {h:H} {w:World} (s:Sim P ι h w) (e:Ent):Ext ι (ι.add h.next e):=by
 intro b e' hb
 unfold Io.add
 rw[if_neg]
 ·exact hb
 ·intro hbe; subst hbe; rw[s.free (Nat.le_refl _)] at hb; cases hb
theorem Sim.alloc {P:Program} {ι:Io} {h:H} {w:World} (s:Sim P ι h w) (x:Blk) (o:Obj) (e:Ent) (hc:e.c=w.heap.size)
  (hb:∀ ι' w',Ext ι ι'→ι' h.next=some e→w'.heap[w.heap.size]? = some o→BRel P ι' e w' x) :
  Sim P (ι.add h.next e) (h.alloc x) { w with heap:=w.heap.push o }∧Step ι w (ι.add h.next e) { w with heap:=w.heap.push o }:=by
 have hx:=s.ext e
 have hold:∀ c,c<w.heap.size→(w.heap.push o)[c]? = w.heap[c]?:=fun c hc'=>by rw[Array.getElem?_push,if_neg (by omega)]
 refine⟨⟨?_,?_,?_⟩,⟨hx,?_,rfl,rfl,rfl,by simp,fun c hc' _=>hold c hc',fun c hc'=>.inr (by rw[hold c hc'])⟩⟩
 ·intro b e' hb'
  unfold Io.add at hb'
  split at hb'
  ·rename_i hbe; cases hb'; subst hbe; exact⟨by simp,by simp[hc]⟩
  ·have:=s.dom b e' hb'; exact⟨by simp; omega,by simp; omega⟩
 ·intro b y hy hl
  rw[H.get_alloc] at hy
  split at hy
  ·rename_i hbe; cases hy; subst hbe
   exact⟨e,Io.add_self _ _ _,hb _ _ hx (Io.add_self _ _ _) (by simp)⟩
  ·obtain⟨e',he',hr⟩:=s.blk b y hy hl
   exact⟨e',hx _ _ he',hr.mono hx (hold _ (s.dom b e' he').2)⟩
 ·intro b₁ b₂ x₁ x₂ e₁ e₂ h₁ h₂ l₁ l₂ i₁ i₂ he
  rw[H.get_alloc] at h₁ h₂
  unfold Io.add at i₁ i₂
  by_cases c1:b₁=h.next
  ·by_cases c2:b₂=h.next
   ·rw[c1,c2]
   ·rw[if_pos c1] at i₁; rw[if_neg c2] at i₂; cases i₁
    have:=(s.dom _ _ i₂).2; omega
  ·by_cases c2:b₂=h.next
   ·rw[if_neg c1] at i₁; rw[if_pos c2] at i₂; cases i₂
    have:=(s.dom _ _ i₁).2; omega
   ·rw[if_neg c1] at h₁ i₁; rw[if_neg c2] at h₂ i₂
    exact s.inj _ _ _ _ _ _ h₁ h₂ l₁ l₂ i₁ i₂ he
 ·intro b e' hb' h0
  unfold Io.add at hb'
  split at hb'
  ·cases hb'; exact .inl (by omega)
  ·rw[hb'] at h0; cases h0
theorem Sim.putG {P:Program} {ι:Io} {h:H} {w:World} (s:Sim P ι h w) {b:Nat} {x₀ x:Blk} {e:Ent} {o:Obj} (hg:h.get b=some x₀) (hl₀:x₀.live=true) (he:ι b=some e)
  {w':World} (hw:w'.heap=w.heap.setIfInBounds e.c o) (hos:w'.os=w.os) (htp:w'.tape=w.tape) (hout:w'.output=w.output)
  (hb:w'.heap[e.c]? = some o→BRel P ι e w' x) (hsh:e.opn=true∨Kx.shp o=(w.heap[e.c]?).bind Kx.shp):Sim P ι (h.put b x) w'∧Step ι w ι w':=by
 have hlt:=H.get_lt hg
 have hc:=(s.dom b e he).2
 have hsz:w'.heap.size=w.heap.size:=by rw[hw]; simp
 have hne:∀ c,c≠e.c→w'.heap[c]? = w.heap[c]?:=fun c hce=>by rw[hw,Array.getElem?_setIfInBounds_ne (fun h=>hce h.symm)]
 have hat:w'.heap[e.c]? = some o:=by rw[hw,Array.getElem?_setIfInBounds_self_of_lt hc]
 refine⟨⟨fun b' e' h'=>by rw[H.next_put,hsz]; exact s.dom b' e' h',?_,?_⟩,⟨Ext.refl _,fun _ _ h1 h2=>(by rw[h1] at h2; cases h2),hos,htp,hout,by omega,fun c _ hn=>hne c (fun hce=>hn b e he hce.symm),fun c _=>by
  by_cases hce:c=e.c
  ·subst hce
   rcases hsh with ho|hsh
   ·exact .inl ⟨b,e,he,rfl,ho⟩
   ·right; rw[hat,← hsh]; rfl
  ·right; rw[hne c hce]⟩⟩
 ·intro b' y hy hl
  rw[H.get_put _ _ _ _ hlt] at hy
  split at hy
  ·rename_i hbe; cases hy; subst hbe; exact⟨e,he,hb hat⟩
  ·rename_i hbe
   obtain⟨e',he',hr⟩:=s.blk b' y hy hl
   refine⟨e',he',hr.mono (Ext.refl _) (hne _ fun hce=>hbe ?_)⟩
   exact s.inj _ _ _ _ _ _ hy hg hl hl₀ he' he hce
 ·intro b₁ b₂ x₁ x₂ e₁ e₂ h₁ h₂ l₁ l₂ i₁ i₂ hee
  rw[H.get_put _ _ _ _ hlt] at h₁ h₂
  have f₁:∃ y,h.get b₁=some y∧y.live=true:=by
   split at h₁
   ·rename_i q; subst q; exact⟨_,hg,hl₀⟩
   ·exact⟨_,h₁,l₁⟩
  have f₂:∃ y,h.get b₂=some y∧y.live=true:=by
   split at h₂
   ·rename_i q; subst q; exact⟨_,hg,hl₀⟩
   ·exact⟨_,h₂,l₂⟩
  obtain⟨y₁,g₁,k₁⟩:=f₁
  obtain⟨y₂,g₂,k₂⟩:=f₂
  exact s.inj _ _ _ _ _ _ g₁ g₂ k₁ k₂ i₁ i₂ hee
theorem Sim.put {P:Program} {ι:Io} {h:H} {w:World} (s:Sim P ι h w) {b:Nat} {x₀ x:Blk} {e:Ent} {o:Obj} (hg:h.get b=some x₀) (hl₀:x₀.live=true) (he:ι b=some e)
  {w':World} (hw:w'.heap=w.heap.setIfInBounds e.c o) (hos:w'.os=w.os) (htp:w'.tape=w.tape) (hout:w'.output=w.output)
  (hb:w'.heap[e.c]? = some o→BRel P ι e w' x) (hsh:Kx.shp o=(w.heap[e.c]?).bind Kx.shp):Sim P ι (h.put b x) w'∧Step ι w ι w':=
 s.putG hg hl₀ he hw hos htp hout hb (.inr hsh)
theorem Sim.kill {P:Program} {ι:Io} {h:H} {w:World} (s:Sim P ι h w) {b:Nat} (hb:b<h.next):Sim P ι (h.put b .dead) w:=by
 refine⟨fun b' e' h'=>by rw[H.next_put]; exact s.dom b' e' h',?_,?_⟩
 ·intro b' y hy hl
  rw[H.get_put _ _ _ _ hb] at hy
  split at hy
  ·cases hy; simp[Blk.live] at hl
  ·exact s.blk b' y hy hl
 ·intro b₁ b₂ x₁ x₂ e₁ e₂ h₁ h₂ l₁ l₂ i₁ i₂ hee
  rw[H.get_put _ _ _ _ hb] at h₁ h₂
  split at h₁
  ·cases h₁; simp[Blk.live] at l₁
  ·split at h₂
   ·cases h₂; simp[Blk.live] at l₂
   ·exact s.inj _ _ _ _ _ _ h₁ h₂ l₁ l₂ i₁ i₂ hee
theorem Sim.adopt {P:Program} {ι:Io} {h:H} {w:World} (s:Sim P ι h w) (x:Blk) (o:Obj) (e:Ent) {b₀:Nat} {e₀:Ent} (h₀:ι b₀=some e₀) (hc:e₀.c=e.c) (hop:e.opn=true→e₀.opn=true)
  (hfree:∀ b y e',h.get b=some y→y.live=true→ι b=some e'→e'.c≠e.c)
  {w':World} (hw:w'.heap=w.heap.setIfInBounds e.c o) (hos:w'.os=w.os) (htp:w'.tape=w.tape) (hout:w'.output=w.output)
  (hb:∀ ι',Ext ι ι'→w'.heap[e.c]? = some o→BRel P ι' e w' x) (hsh:Kx.shp o=(w.heap[e.c]?).bind Kx.shp):Sim P (ι.add h.next e) (h.alloc x) w'∧Step ι w (ι.add h.next e) w':=by
 have hx:=s.ext e
 have hlt:e.c<w.heap.size:=hc ▸ (s.dom b₀ e₀ h₀).2
 have hsz:w'.heap.size=w.heap.size:=by rw[hw]; simp
 have hne:∀ c,c≠e.c→w'.heap[c]? = w.heap[c]?:=fun c hce=>by rw[hw,Array.getElem?_setIfInBounds_ne (fun h=>hce h.symm)]
 have hat:w'.heap[e.c]? = some o:=by rw[hw,Array.getElem?_setIfInBounds_self_of_lt hlt]
 refine⟨⟨?_,?_,?_⟩,⟨hx,?_,hos,htp,hout,by omega,fun c _ hn=>hne c (fun hce=>hn b₀ e₀ h₀ (hc.trans hce.symm)),fun c _=>by
  by_cases hce:c=e.c
  ·subst hce; right; rw[hat,← hsh]; rfl
  ·right; rw[hne c hce]⟩⟩
 ·intro b e' hb'
  unfold Io.add at hb'
  split at hb'
  ·rename_i hbe; cases hb'; subst hbe; exact⟨by simp,by omega⟩
  ·have:=s.dom b e' hb'; exact⟨by simp; omega,by omega⟩
 ·intro b y hy hl
  rw[H.get_alloc] at hy
  split at hy
  ·rename_i hbe; cases hy; subst hbe
   exact⟨e,Io.add_self _ _ _,hb _ hx hat⟩
  ·obtain⟨e',he',hr⟩:=s.blk b y hy hl
   exact⟨e',hx _ _ he',hr.mono hx (hne _ (hfree b y e' hy hl he'))⟩
 ·intro b₁ b₂ x₁ x₂ e₁ e₂ h₁ h₂ l₁ l₂ i₁ i₂ he
  rw[H.get_alloc] at h₁ h₂
  unfold Io.add at i₁ i₂
  by_cases c1:b₁=h.next
  ·by_cases c2:b₂=h.next
   ·rw[c1,c2]
   ·rw[if_pos c1] at i₁; rw[if_neg c2] at i₂ h₂; cases i₁
    exact absurd he.symm (hfree b₂ x₂ e₂ h₂ l₂ i₂)
  ·by_cases c2:b₂=h.next
   ·rw[if_neg c1] at i₁ h₁; rw[if_pos c2] at i₂; cases i₂
    exact absurd he (hfree b₁ x₁ e₁ h₁ l₁ i₁)
   ·rw[if_neg c1] at h₁ i₁; rw[if_neg c2] at h₂ i₂
    exact s.inj _ _ _ _ _ _ h₁ h₂ l₁ l₂ i₁ i₂ he
 ·intro b e' hb' h0
  unfold Io.add at hb'
  split at hb'
  ·cases hb'; exact .inr ⟨b₀,e₀,h₀,hc,hop⟩
  ·rw[hb'] at h0; cases h0
theorem FR.put {ι:Io} {fr:Fr} {tmps:Array Value} {d:Nat} {v v':Value} (h:FR ι fr tmps) (hd:d<tmps.size) (hv:R ι v v'):FR ι ((d,v)::fr) (tmps.setIfInBounds d v'):=by
 intro t u e
 simp only[Fr.at] at e
 by_cases c:d=t
 ·subst c
  simp only[beqT rfl,cond_true,Option.some.injEq] at e
  subst e
  exact⟨v',by simp[hd],hv⟩
 ·simp only[beqF c,cond_false] at e
  obtain⟨u',h1,h2⟩:=h t u e
  exact⟨u',by rw[Array.getElem?_setIfInBounds_ne c]; exact h1,h2⟩
theorem Fr.at_erase (kp:List Nat) (fr:Fr) (t:Nat) (v:Value) (h:Fr.at (erase kp fr) t=some v):Fr.at fr t=some v:=by
 induction kp with
 |nil=>simp[erase,Fr.at] at h
 |cons i l ih=>
  unfold erase at h
  split at h
  ·rename_i u hu
   simp only[Fr.at] at h
   by_cases c:i=t
   ·subst c; simp only[beqT rfl,cond_true] at h; rw[hu]; exact h
   ·simp only[beqF c,cond_false] at h; exact ih h
  ·exact ih h
theorem FR.erase {ι:Io} {fr:Fr} {tmps:Array Value} (kp:List Nat) (h:FR ι fr tmps):FR ι (erase kp fr) tmps:=
 fun t v e=>h t v (Fr.at_erase kp fr t v e)
theorem FR.ev {ι:Io} {fr:Fr} {a:Act} (h:FR ι fr a.tmps) {x:Operand} {v:Value} (e:Fr.ev fr x=some v) (hg:∀ g,x = .global g→∃ e,ι g=some e∧e.c=g∧e.sh=0):R ι v (a.eval x):=by
 cases x with
 |tmp t=>
  obtain⟨v',h1,h2⟩:=h t v e
  simpa [Act.eval,h1] using h2
 |const u=>
  simp only[Fr.ev] at e
  cases hf:flat u<;>rw[hf] at e<;>simp at e
  subst e
  exact R.ofFlat ι u hf
 |global g=>
  simp only[Fr.ev,Option.some.injEq] at e
  subst e
  obtain⟨e,h1,h2,h3⟩:=hg g rfl
  have:=R.ptr (ι:=ι) (o:=0) h1
  rw[h2,h3] at this
  exact this
 |func f=>
  simp only[Fr.ev,Option.some.injEq] at e
  subst e
  exact .func .nil .nil
end Go.Kx
