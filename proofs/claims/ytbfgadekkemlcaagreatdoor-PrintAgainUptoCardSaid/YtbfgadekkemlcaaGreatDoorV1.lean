/- My texts for this claim, in one file: part 1. -/
import Derived.WalkKit
import Derived.OrdersHeld
import Derived.LoopN
import Derived.DeepKeys
set_option linter.unusedVariables false
set_option linter.unusedSimpArgs false
namespace Go.Kx
open Go
abbrev Plan:=List (Nat × List Nat × List Nat)
structure Ann where
 keep:List (Nat × List Nat)
 plan:List (Nat × Plan)
 cut:List (Nat × List Nat)
 its:List FuncId:=[]
structure LpB where
 st:LoopState
 pe:Option Code
 ps:List Tmp
 asg:Code
 bo:Code
 an:Ann
 fr:List (Nat × Value)
inductive Blk where
 |cells (c:List Value) (elem:TypeId) (frz:Nat) (opn:Bool)
 |map (es:List MapEntry) (clock:Nat)
 |siter (s:ByteArray) (pos:Nat)
 |dead
 |loop (x:LpB)
 deriving Inhabited
theorem beqF {i j:Nat} (h:¬ i=j):Nat.beq i j=false:=by
 cases e:Nat.beq i j with
 |false=>rfl
 |true=>exact absurd (Nat.eq_of_beq_eq_true e) h
theorem beqT {i j:Nat} (h:i=j):Nat.beq i j=true:=by subst h; exact Nat.beq_refl i
theorem bltT {i j:Nat} (h:i<j):Nat.blt i j=true:=by simpa [Nat.blt_eq] using h
theorem bltF {i j:Nat} (h:¬ i<j):Nat.blt i j=false:=by
 cases e:Nat.blt i j with
 |false=>rfl
 |true=>exact absurd (by simpa [Nat.blt_eq] using e) h
inductive Tr where
 |e
 |n (l:Tr) (v:Option Blk) (r:Tr)
 deriving Inhabited
def Tr.get:Tr→Nat→Option Blk
 |.e,_=>none
 |.n l v r,i=>bif Nat.beq i 0 then v else bif Nat.beq (i % 2) 1 then l.get (i / 2) else r.get (i / 2 - 1)
def Tr.l:Tr→Tr
 |.e=>.e
 |.n l _ _=>l
def Tr.r:Tr→Tr
 |.e=>.e
 |.n _ _ r=>r
def Tr.v:Tr→Option Blk
 |.e=>none
 |.n _ v _=>v
def Tr.set:Nat→Tr→Nat→Blk→Tr
 |0,t,_,_=>t
 |k+1,t,i,x=>
  bif Nat.beq i 0 then .n t.l (some x) t.r
  else bif Nat.beq (i % 2) 1 then .n (Tr.set k t.l (i / 2) x) t.v t.r
  else .n t.l t.v (Tr.set k t.r (i / 2 - 1) x)
theorem Tr.get_node (t:Tr) (i:Nat):t.get i=bif Nat.beq i 0 then t.v else bif Nat.beq (i % 2) 1 then t.l.get (i / 2) else t.r.get (i / 2 - 1):=by
 cases t with
 |e=>simp[Tr.get,Tr.v,Tr.l,Tr.r]
 |n l v r=>rfl
theorem Tr.get_set (k:Nat):∀ (t:Tr) (i:Nat) (x:Blk) (j:Nat),i<k→(Tr.set k t i x).get j=if j=i then some x else t.get j:=by
 induction k with
 |zero=>intro t i x j h; omega
 |succ k ih=>
  intro t i x j h
  rw[Tr.get_node t j]
  unfold Tr.set
  by_cases hi0:i=0
  ·subst hi0
   by_cases hj:j=0
   ·subst hj; simp[Tr.get]
   ·have:Nat.beq j 0=false:=beqF hj
    simp[Tr.get,this,hj]
  ·have hb:Nat.beq i 0=false:=beqF hi0
   simp only[hb,cond_false]
   by_cases hp:i % 2=1
   ·have hpb:Nat.beq (i % 2) 1=true:=beqT hp
    simp only[hpb,cond_true,Tr.get]
    by_cases hj0:j=0
    ·subst hj0; simp; omega
    ·have hjb:Nat.beq j 0=false:=beqF hj0
     simp only[hjb,cond_false]
     by_cases hjp:j % 2=1
     ·have hjpb:Nat.beq (j % 2) 1=true:=beqT hjp
      simp only[hjpb,cond_true]
      rw[ih _ _ _ _ (by omega)]
      by_cases he:j=i
      ·subst he; simp
      ·rw[if_neg (by omega),if_neg he]
     ·have hjpb:Nat.beq (j % 2) 1=false:=beqF hjp
      simp only[hjpb,cond_false]
      rw[if_neg (by intro e; subst e; exact hjp hp)]
   ·have hpb:Nat.beq (i % 2) 1=false:=beqF hp
    simp only[hpb,cond_false,Tr.get]
    by_cases hj0:j=0
    ·subst hj0; simp; omega
    ·have hjb:Nat.beq j 0=false:=beqF hj0
     simp only[hjb,cond_false]
     by_cases hjp:j % 2=1
     ·have hjpb:Nat.beq (j % 2) 1=true:=beqT hjp
      simp only[hjpb,cond_true]
      rw[if_neg (by intro e; subst e; exact hp hjp)]
     ·have hjpb:Nat.beq (j % 2) 1=false:=beqF hjp
      simp only[hjpb,cond_false]
      rw[ih _ _ _ _ (by omega)]
      by_cases he:j=i
      ·subst he; simp
      ·rw[if_neg (by omega),if_neg he]
structure H where
 t:Tr
 next:Nat
 deriving Inhabited
def H.get (h:H) (b:Nat):Option Blk:=bif Nat.blt b h.next then h.t.get b else none
def H.put (h:H) (b:Nat) (x:Blk):H:=⟨h.t.set (b+1) b x,h.next⟩
def H.alloc (h:H) (x:Blk):H:=⟨h.t.set (h.next+1) h.next x,h.next+1⟩
def H0:H:=⟨.e,0⟩
@[simp] theorem H.next_put (h:H) (b:Nat) (x:Blk):(h.put b x).next=h.next:=rfl
@[simp] theorem H.next_alloc (h:H) (x:Blk):(h.alloc x).next=h.next+1:=rfl
theorem H.get_lt {h:H} {b:Nat} {x:Blk} (e:h.get b=some x):b<h.next:=by
 unfold H.get at e
 cases hb:Nat.blt b h.next with
 |true=>simpa [Nat.blt_eq] using hb
 |false=>rw[hb] at e; cases e
theorem H.get_ge {h:H} {b:Nat} (hb:h.next≤b):h.get b=none:=by
 cases e:h.get b with
 |none=>rfl
 |some x=>have:=H.get_lt e; omega
theorem H.get_put (h:H) (b:Nat) (x:Blk) (c:Nat) (hb:b<h.next):(h.put b x).get c=if c=b then some x else h.get c:=by
 unfold H.get H.put
 by_cases hc:c<h.next
 ·have:Nat.blt c h.next=true:=bltT hc
  simp only[this,cond_true]
  rw[Tr.get_set _ _ _ _ _ (by omega)]
 ·have:Nat.blt c h.next=false:=bltF hc
  simp only[this,cond_false]
  rw[if_neg (by omega)]
theorem H.get_alloc (h:H) (x:Blk) (c:Nat):(h.alloc x).get c=if c=h.next then some x else h.get c:=by
 unfold H.get H.alloc
 by_cases hc:c<h.next
 ·have h1:Nat.blt c h.next=true:=bltT hc
  have h2:Nat.blt c (h.next+1)=true:=by simp[Nat.blt_eq]; omega
  simp only[h1,h2,cond_true]
  rw[Tr.get_set _ _ _ _ _ (by omega)]
 ·by_cases he:c=h.next
  ·subst he
   have h2:Nat.blt h.next (h.next+1)=true:=by simp[Nat.blt_eq]
   simp only[h2,cond_true]
   rw[Tr.get_set _ _ _ _ _ (by omega)]
   simp
  ·have h1:Nat.blt c h.next=false:=bltF hc
   have h2:Nat.blt c (h.next+1)=false:=by
    cases e:Nat.blt c (h.next+1) with
    |false=>rfl
    |true=>simp[Nat.blt_eq] at e; omega
   simp only[h1,h2,cond_false]
   rw[if_neg he]
inductive Res (α:Type) where
 |ok (a:α) (h:H)
 |pan (v:Value) (h:H)
 |bad
 deriving Inhabited
def Res.bind {α β:Type} (r:Res α) (f:α→H→Res β):Res β:=
 match r with
 |.ok a h=>f a h
 |.pan v h=>.pan v h
 |.bad=>.bad
@[simp] theorem Res.bind_ok {α β:Type} (a:α) (h:H) (f:α→H→Res β):(Res.ok a h).bind f=f a h:=rfl
@[simp] theorem Res.bind_pan {α β:Type} (v:Value) (h:H) (f:α→H→Res β):(Res.pan v h:Res α).bind f = .pan v h:=rfl
@[simp] theorem Res.bind_bad {α β:Type} (f:α→H→Res β):(Res.bad:Res α).bind f = .bad:=rfl
mutual
def flat:Value→Bool
 |.bool _|.int _ _|.float _ _|.complex _ _ _|.string _|.nilFunc|.nilIface=>true
 |.pointer none|.slice none _ _|.map none=>true
 |.iface _ v=>flat v
 |.agg ⟨l⟩|.tuple ⟨l⟩=>flatL l
 |_=>false
def flatL:List Value→Bool
 |[]=>true
 |v::l=>flat v&&flatL l
end
def prun {α:Type} (P:Program):Sem α→Option (Except Value α)
 |.pure a=>some (.ok a)
 |.program k=>prun P (k P)
 |.mark _ k=>prun P k
 |.halt (.panic v)=>some (.error v)
 |_=>none
def H.row (h:H) (a:Addr) (n:Nat):Option (List Value):=
 match h.get a.block,a.spot with
 |some (.cells c _ _ _),none=>bif Nat.ble (a.off+n) c.length then some ((c.drop a.off).take n) else none
 |_,_=>none
def H.cell (h:H) (a:Addr):Option Value:=
 match h.get a.block,a.spot with
 |some (.cells c _ _ _),none=>c[a.off]?
 |_,_=>none
def ones:List Value→Bool
 |[]=>true
 |v::l=>v.oneCell'&&ones l
def H.write (h:H) (a:Addr) (l:List Value):Option H:=
 match h.get a.block,a.spot with
 |some (.cells c el f o),none=>
  bif Nat.ble (a.off+l.length) c.length&&Nat.ble f 1&&ones l then some (h.put a.block (.cells (c.take a.off++(l++c.drop (a.off+l.length))) el f o)) else none
 |_,_=>none
def ofO {α:Type} (o:Option α) (h:H):Res α:=match o with|some a=>.ok a h|none=>.bad
def ofU (o:Option H):Res Value:=match o with|some h=>.ok undef h|none=>.bad
def selfy (P:Program) (t:TypeId):Bool:=
 match P.underlying t with
 |some (.struct fs)=>fs.toList.any fun f=>match P.underlying f.type with|some (.pointer e)=>Nat.beq e t|_=>false
 |_=>false
def aggT (P:Program) (t:TypeId):Option Bool:=match P.underlying t with|some (.struct _)|some (.array _ _)=>some true|some _=>some false|none=>none
def szOk (P:Program) (t:TypeId):Bool:=(P.info? t).isSome
def xload (P:Program) (t:TypeId) (x:Value) (h:H):Res Value:=
 match x with
 |.pointer (some a)=>
  match aggT P t with
  |some true=>(match h.row a (P.cellsOf t) with|some l=>.ok (.agg ⟨l⟩) h|none=>.bad)
  |some false=>ofO (h.cell a) h
  |none=>.bad
 |_=>.bad
def xstore (P:Program) (t:TypeId) (x v:Value) (h:H):Res Value:=
 match x with
 |.pointer (some a)=>bif szOk P t&&Nat.beq v.cells.size (P.cellsOf t) then ofU (h.write a v.cells.toList) else .bad
 |_=>.bad
def xbox (elem:TypeId) (v:Value) (h:H):Res Value:=.ok (.pointer (some ⟨h.next,0,none⟩)) (h.alloc (.cells v.cells.toList elem 0 false))
def zeroOf (P:Program) (t:TypeId):Option Value:=match (P.info? t).bind (·.zero) with|some z=>bif flat z then some z else none|none=>none
def xalloc (P:Program) (elem:TypeId) (h:H):Res Value:=
 match zeroOf P elem with
 |some z=>xbox elem z h
 |none=>.bad
def fillL (place:Nat→Option (Nat × Nat)) (cells:List Value):List (Nat × Value)→Option (List Value)
 |[]=>some cells
 |(i,v)::rest=>
  match place i with
  |none=>none
  |some (off,size)=>
   bif Nat.beq v.cells.size size&&Nat.ble (off+size) cells.length then fillL place (cells.take off++(v.cells.toList++cells.drop (off+size))) rest else none
def fieldsOf (P:Program) (t:TypeId):Option (Array Field):=match P.underlying t with|some (.struct fs)=>some fs|_=>none
def elemOf? (P:Program) (t:TypeId):Option TypeId:=match P.underlying t with|some (.slice e)=>some e|_=>none
def xbuild (P:Program) (t:TypeId) (parts:List (Nat × Value)) (h:H):Res Value:=
 match zeroOf P t,P.underlying t with
 |some z,some (.struct fs)=>
  bif fs.toList.all (fun f=>szOk P f.type) then
   match fillL (fun i=>(fs.toList[i]?).map fun f=>(f.offset,P.cellsOf f.type)) z.cells.toList parts with
   |some l=>.ok (.agg ⟨l⟩) h
   |none=>.bad
  else .bad
 |some z,some (.array _ e)=>
  bif szOk P e then
   match fillL (fun i=>some (i*P.cellsOf e,P.cellsOf e)) z.cells.toList parts with
   |some l=>.ok (.agg ⟨l⟩) h
   |none=>.bad
  else .bad
 |_,_=>.bad
def repeatL (z:List Value):Nat→List Value
 |0=>[]
 |n+1=>z++repeatL z n
def xbuildSlice (P:Program) (t:TypeId) (len:Nat) (parts:List (Nat × Value)) (h:H):Res Value:=
 match elemOf? P t with
 |some e=>
  match zeroOf P e with
  |some z=>
   bif Nat.beq z.cells.size (P.cellsOf e)&&Nat.ble (len*P.cellsOf e) 16777216 then
    match fillL (fun i=>some (i*P.cellsOf e,P.cellsOf e)) (repeatL z.cells.toList len) parts with
    |some l=>.ok (.slice (some ⟨h.next,0,none⟩) len len) (h.alloc (.cells l e 0 false))
    |none=>.bad
   else .bad
  |none=>.bad
 |none=>.bad
def bytesOf (P:Program) (t:TypeId):Nat:=((P.info? t).map (·.bytes)).getD 0
def xmakeSlice (P:Program) (t:TypeId) (l c:Value) (h:H):Res Value:=
 match elemOf? P t,l,c with
 |some e,.int .i64 (.ofNat n),.int .i64 (.ofNat m)=>
  match zeroOf P e with
  |some z=>
   bif Nat.ble n m&&Nat.ble (bytesOf P e*m) 140737488355328&&Nat.ble m 9223372036854775807&&Nat.beq z.cells.size (P.cellsOf e) then
    .ok (.slice (some ⟨h.next,0,none⟩) n m) (h.alloc (.cells (repeatL z.cells.toList m) e 0 false))
   else .bad
  |none=>.bad
 |_,_,_=>.bad
def xfieldAddr (P:Program) (t:TypeId) (x:Value) (i:Nat) (h:H):Res Value:=
 match fieldsOf P t,x with
 |some fs,.pointer (some a)=>
  match fs.toList[i]? with
  |some f=>bif szOk P f.type && !Nat.beq (P.cellsOf f.type) 0&&a.spot.isNone then .ok (.pointer (some ⟨a.block,a.off+f.offset,none⟩)) h else .bad
  |none=>.bad
 |_,_=>.bad
def partL (P:Program) (t:TypeId) (cs:List Value) (off:Nat):Option Value:=
 match aggT P t with
 |some true=>bif Nat.ble (off+P.cellsOf t) cs.length then some (.agg ⟨(cs.drop off).take (P.cellsOf t)⟩) else none
 |some false=>cs[off]?
 |none=>none
def xfield (P:Program) (t:TypeId) (x:Value) (i:Nat) (h:H):Res Value:=
 match fieldsOf P t,x with
 |some fs,.agg ⟨cs⟩=>
  match fs.toList[i]? with
  |some f=>ofO (partL P f.type cs f.offset) h
  |none=>.bad
 |_,_=>.bad
def xindexAddr (P:Program) (t:TypeId) (x i:Value) (h:H):Res Value:=
 match P.underlying t,x,i with
 |some (.slice e),.slice (some a) len _,.int _ (.ofNat n)=>
  bif Nat.blt n len&&szOk P e then .ok (.pointer (some ⟨a.block,a.off+n*P.cellsOf e,none⟩)) h else .bad
 |some (.array len e),.pointer (some a),.int _ (.ofNat n)=>
  bif Nat.blt n len&&szOk P e&&a.spot.isNone then .ok (.pointer (some ⟨a.block,a.off+n*P.cellsOf e,none⟩)) h else .bad
 |_,_,_=>.bad
def xindex (P:Program) (t:TypeId) (x i:Value) (h:H):Res Value:=
 match P.underlying t,x,i with
 |some (.array len e),.agg ⟨cs⟩,.int _ (.ofNat n)=>bif Nat.blt n len&&szOk P e then ofO (partL P e cs (n*P.cellsOf e)) h else .bad
 |some .string,.string s,.int _ (.ofNat n)=>
  match s.data.toList[n]? with
  |some b=>.ok (.int .u8 b.toNat) h
  |none=>.bad
 |_,_,_=>.bad
def asNat? : Option Value→Nat→Option Nat
 |none,d=>some d
 |some (.int _ (.ofNat n)),_=>some n
 |_,_=>none
def cutAt (opn:Bool) (a:Addr) (l m size:Nat):Addr:=
 bif Nat.beq m l then (bif opn then { a with spot:=some 1 } else a) else { a with off:=a.off+l*size }
def H.opnSz (P:Program) (h:H) (b:Nat):Option (Option Nat):=
 match h.get b with
 |some (.cells _ el _ true)=>some (some (P.cellsOf el))
 |some (.cells _ _ _ false)=>some none
 |_=>none
def xslice (P:Program) (t:TypeId) (x:Value) (lo hi mx:Option Value) (h:H):Res Value:=
 match P.underlying t,x with
 |some .string,.string s=>
  match asNat? lo 0,asNat? hi s.size,mx with
  |some l,some u,none=>bif Nat.ble l u&&Nat.ble u s.size then .ok (.string (s.extract l u)) h else .bad
  |_,_,_=>.bad
 |some (.slice e),.slice (some a) len cap=>
  match asNat? lo 0,asNat? hi len,asNat? mx cap with
  |some l,some u,some m=>
   bif Nat.ble l u&&Nat.ble u m&&Nat.ble m cap&&szOk P e then
    match mx,a.spot with
    |none,none=>
     match h.opnSz P a.block with
     |some none=>.ok (.slice (some (cutAt false a l m (P.cellsOf e))) (u - l) (m - l)) h
     |some (some sz)=>bif Nat.beq sz (P.cellsOf e) then .ok (.slice (some (cutAt true a l m (P.cellsOf e))) (u - l) (m - l)) h else .bad
     |none=>.bad
    |none,some 0=>.ok (.slice (some (cutAt false a l m (P.cellsOf e))) (u - l) (m - l)) h
    |none,some 1=>.ok (.slice (some a) 0 0) h
    |none,some (_+2)=>.ok (.slice (some a) 0 0) h
    |some _,none=>bif hi.isSome then .ok (.slice (some ⟨a.block,(cutAt false a l m (P.cellsOf e)).off,some 0⟩) (u - l) (m - l)) h else .bad
    |some _,some 0=>bif hi.isSome then .ok (.slice (some ⟨a.block,(cutAt false a l m (P.cellsOf e)).off,some 0⟩) (u - l) (m - l)) h else .bad
    |_,_=>.bad
   else .bad
  |_,_,_=>.bad
 |some (.slice e),.slice none 0 0=>
  bif szOk P e then
  match asNat? lo 0,asNat? hi 0,asNat? mx 0 with
  |some 0,some 0,some 0=>bif mx.isNone||hi.isSome then .ok (.slice none 0 0) h else .bad
  |_,_,_=>.bad
  else .bad
 |some (.array n e),.pointer (some a)=>
  match asNat? lo 0,asNat? hi n,asNat? mx n with
  |some l,some u,some m=>
   bif Nat.ble l u&&Nat.ble u m&&Nat.ble m n&&szOk P e&&a.spot.isNone&&(mx.isNone||hi.isSome) then .ok (.slice (some { cutAt false a l m (P.cellsOf e) with spot:=some 0 }) (u - l) (m - l)) h else .bad
  |_,_,_=>.bad
 |_,_=>.bad
def xflat {P:Program} (s:Option (Except Value Value)) (h:H):Res Value:=
 let _:=P
 match s with
 |some (.ok v)=>bif flat v then .ok v h else .bad
 |some (.error v)=>bif flat v then .pan v h else .bad
 |none=>.bad
def eqNil (P:Program) (t:TypeId) (x y:Value):Option Bool:=
 match P.underlying t,x,y with
 |some (.slice _),.slice none _ _,.slice b _ _=>some b.isNone
 |some (.slice _),.slice (some _) _ _,.slice none _ _=>some false
 |some (.map _ _),.map none,.map b=>some b.isNone
 |some (.map _ _),.map (some _),.map none=>some false
 |some (.func _ _ _),.nilFunc,.nilFunc=>some true
 |some (.func _ _ _),.nilFunc,.func (.func _) _ _=>some false
 |some (.func _ _ _),.func (.func _) _ _,.nilFunc=>some false
 |some (.pointer _),.pointer none,.pointer b=>some b.isNone
 |some (.pointer _),.pointer (some _),.pointer none=>some false
 |some (.interface _),.nilIface,.iface _ _=>some false
 |some (.interface _),.iface _ _,.nilIface=>some false
 |_,_,_=>none
def unmarked (h:H) (b:Nat):Bool:=match h.get b with|some (.cells _ _ f _)=>Nat.beq f 0|_=>false
def samePtr (h:H) (a b:Addr):Option Bool:=
 bif unmarked h a.block&&unmarked h b.block&&a.spot.isNone&&b.spot.isNone then
  some (bif Nat.beq a.block b.block then Nat.beq a.off b.off else false)
 else none
def ptrElem (P:Program) (t:TypeId):Nat:=match P.underlying t with|some (.pointer e)=>P.cellsOf e|_=>0
def known:Value→Bool
 |.chan _=>false
 |.func (.method _) _ _=>false
 |_=>true
def eqLits:List Lit→List Lit→Option Bool
 |[],[]=>some true
 |.int k a::l,.int j b::m=>bif decide (k=j)&&decide (a=b) then eqLits l m else some false
 |.bool a::l,.bool b::m=>bif a == b then eqLits l m else some false
 |.string a::l,.string b::m=>bif a == b then eqLits l m else some false
 |_,_=>none
theorem eqLits_iff:∀ {l m:List Lit} {r:Bool},eqLits l m=some r→(r=true↔l=m)
 |[],[],r,h=>by simp only[eqLits,Option.some.injEq] at h; simp[← h]
 |.int k a::l,.int j b::m,r,h=>by
  unfold eqLits at h
  cases hb:(decide (k=j)&&decide (a=b)) with
  |true=>
   rw[hb] at h
   simp only[Bool.and_eq_true,decide_eq_true_eq] at hb
   obtain⟨rfl,rfl⟩:=hb
   simpa using eqLits_iff (l:=l) (m:=m) h
  |false=>
   rw[hb] at h
   cases h
   simp only[Bool.and_eq_false_iff,decide_eq_false_iff_not] at hb
   simp only[Bool.false_eq_true,false_iff,List.cons.injEq,Lit.int.injEq]
   rintro ⟨⟨rfl,rfl⟩,_⟩
   simp at hb
 |.bool a::l,.bool b::m,r,h=>by
  unfold eqLits at h
  cases hb:(a == b) with
  |true=>
   rw[hb] at h
   have:=eq_of_beq hb
   subst this
   simpa using eqLits_iff (l:=l) (m:=m) h
  |false=>
   rw[hb] at h
   cases h
   have:=ne_of_beq_false hb
   simp[this]
 |.string a::l,.string b::m,r,h=>by
  unfold eqLits at h
  cases hb:(a == b) with
  |true=>
   rw[hb] at h
   have:=eq_of_beq hb
   subst this
   simpa using eqLits_iff (l:=l) (m:=m) h
  |false=>
   rw[hb] at h
   cases h
   have:=ne_of_beq_false hb
   simp[this]
def aggEq (P:Program) (t:TypeId) (x y:Value):Option Bool:=
 bif P.keyTypeAt 12 t&&x.formed P t&&y.formed P t then (match P.keyLits 12 t x.cells.toList,P.keyLits 12 t y.cells.toList with|some l,some m=>eqLits l m|_,_=>none) else none
def xbin (P:Program) (op:BinOp) (t:TypeId) (x y:Value) (h:H):Res Value:=
 bif flat x&&flat y then
  match op,x,y with
  |.eql,.nilIface,.nilIface|.neq,.nilIface,.nilIface=>.bad
  |.eql,.agg _,.agg _=>bif P.eqGuardType P.depth t then .bad else (match aggEq P t x y with|some r=>.ok (.bool r) h|none=>xflat (P:=P) (prun P (binOp op t x y)) h)
  |.neq,.agg _,.agg _=>bif P.eqGuardType P.depth t then .bad else (match aggEq P t x y with|some r=>.ok (.bool !r) h|none=>xflat (P:=P) (prun P (binOp op t x y)) h)
  |_,_,_=>xflat (P:=P) (prun P (binOp op t x y)) h
 else bif known x&&known y then
  match op,eqNil P t x y,x,y with
  |.eql,some b,_,_=>.ok (.bool b) h
  |.neq,some b,_,_=>.ok (.bool !b) h
  |.eql,none,.pointer (some a),.pointer (some b)=>bif Nat.beq (ptrElem P t) 0 then .bad else (match samePtr h a b with|some r=>.ok (.bool r) h|none=>.bad)
  |.neq,none,.pointer (some a),.pointer (some b)=>bif Nat.beq (ptrElem P t) 0 then .bad else (match samePtr h a b with|some r=>.ok (.bool !r) h|none=>.bad)
  |_,_,_,_=>.bad
 else .bad
def xun (P:Program) (op:UnOp) (x:Value) (h:H):Res Value:=bif flat x then xflat (P:=P) (prun P (Op.unary op x)) h else .bad
def byteVals (l:List UInt8):List Value:=l.map fun b=>.int .u8 b.toNat
def ofBytes? : List Value→Option (List UInt8)
 |[]=>some []
 |.int .u8 (.ofNat n)::l=>bif Nat.blt n 256 then (ofBytes? l).map (UInt8.ofNat n :: ·) else none
 |_::_=>none
def szPos (P:Program) (t:TypeId):Bool:=match P.info? t with|some j=>!Nat.beq j.size 0|none=>false
def xconvert (P:Program) (src dst:TypeId) (x:Value) (h:H):Res Value:=
 match P.underlying src,P.underlying dst,x with
 |some _,some (.int k),.int _ n=>.ok (.int k (k.wrap n)) h
 |some _,some .string,.string s=>.ok (.string s) h
 |some _,some (.slice e),.string s=>
  match P.underlying e with
  |some (.int .u8)=>bif Nat.beq (P.cellsOf e) 1 then .ok (.slice (some ⟨h.next,0,none⟩) s.size s.size) (h.alloc (.cells (byteVals s.data.toList) e 1 true)) else .bad
  |_=>.bad
 |some (.slice e),some .string,.slice b n _=>
  match P.underlying e,b with
  |some (.int .u8),none=>.ok (.string .empty) h
  |some (.int .u8),some a=>
   match (h.row { a with spot:=none } n).bind ofBytes? with
   |some l=>.ok (.string ⟨⟨l⟩⟩) h
   |none=>.bad
  |_,_=>.bad
 |some (.pointer t),some .unsafePointer,.pointer (some ⟨b,o,none⟩)=>
  match h.get b with
  |some (.cells c _ _ false)=>bif Nat.blt o c.length&&szPos P t then .ok (.pointer (some ⟨b,o,none⟩)) h else .bad
  |_=>.bad
 |some .unsafePointer,some (.pointer u),.pointer (some ⟨b,o,none⟩)=>
  match h.get b with
  |some (.cells c el _ false)=>bif selfy P el&&szOk P u&&liesAt P P.depth el (c.length / P.cellsOf el) o u 1 then .ok (.pointer (some ⟨b,o,none⟩)) h else .bad
  |_=>.bad
 |_,_,_=>.bad
def xmakeInterface (P:Program) (t:TypeId) (x:Value) (h:H):Res Value:=
 match P.underlying t with
 |some (.interface _)=>.bad
 |some _=>.ok (.iface t x) h
 |none=>.bad
def xtypeAssert (P:Program) (x:Value) (asserted:TypeId) (commaOk:Bool) (h:H):Res Value:=
 let holds (v:Value):Res Value:=.ok (bif commaOk then .tuple #[v,.bool true] else v) h
 let fails:Res Value:=bif commaOk then (match zeroOf P asserted with|some z=>bif flat z then .ok (.tuple #[z,.bool false]) h else .bad|none=>.bad) else .bad
 match P.underlying asserted,x with
 |some (.interface _),.nilIface=>fails
 |some (.interface want),.iface t _=>
  match P.info? t with
  |some i=>(match Instr.missingMethod want i.methods with|none=>holds x|some _=>fails)
  |none=>.bad
 |some _,.nilIface=>fails
 |some _,.iface t v=>bif Nat.beq t asserted then holds v else fails
 |none,_=>.bad
 |_,_=>.bad
def xextract (x:Value) (i:Nat) (h:H):Res Value:=
 match x with
 |.tuple ⟨vs⟩=>ofO vs[i]? h
 |_=>.bad
def xnilCheck (x:Value) (h:H):Res Value:=
 match x with
 |.pointer (some _)=>.ok x h
 |.iface _ _=>.ok x h
 |.func (.func _) _ _=>.ok x h
 |_=>.bad
def findK (k:Value):List MapEntry→Nat→Option (Option (Nat × Value))
 |[],_=>some none
 |e::es,i=>
  match k,e.key with
  |.int a x,.int b y=>bif decide (a=b) then (bif x == y then some (some (i,e.val)) else findK k es (i+1)) else none
  |.string x,.string y=>bif x == y then some (some (i,e.val)) else findK k es (i+1)
  |_,_=>none
def keyOk (P:Program) (t:TypeId) (k:Value):Bool:=
 match P.underlying t,k with
 |some (.int _),.int _ _=>true
 |some .string,.string _=>true
 |_,_=>false
def xlookup (P:Program) (t:TypeId) (x k:Value) (commaOk:Bool) (h:H):Res Value:=
 match P.underlying t with
 |some (.map kt el)=>
  bif keyOk P kt k then
   match (match x with|.map none=>some []|.map (some r)=>(match h.get r with|some (.map es _)=>some es|_=>none)|_=>none) with
   |some es=>
    match findK k es 0 with
    |some (some (_,v))=>.ok (bif commaOk then .tuple #[v,.bool true] else v) h
    |some none=>(match zeroOf P el with|some z=>bif flat z then .ok (bif commaOk then .tuple #[z,.bool false] else z) h else .bad|none=>.bad)
    |none=>.bad
   |none=>.bad
  else .bad
 |_=>.bad
def modE (i:Nat) (f:MapEntry→MapEntry) (es:List MapEntry):List MapEntry:=es.modify i f
def xmapUpdate (P:Program) (t:TypeId) (x k v:Value) (h:H):Res Value:=
 match P.underlying t,x with
 |some (.map kt _),.map (some r)=>
  bif keyOk P kt k then
   match h.get r with
   |some (.map es clock)=>
    match findK k es 0 with
    |some (some (i,_))=>.ok undef (h.put r (.map (modE i (fun e=>{ e with val:=v }) es) clock))
    |some none=>.ok undef (h.put r (.map (es++[⟨k,v,clock⟩]) (clock+1)))
    |none=>.bad
   |_=>.bad
  else .bad
 |_,_=>.bad
def xmapEntry (P:Program) (t:TypeId) (x k:Value) (h:H):Res Value:=
 match P.underlying t,x with
 |some (.map kt el),.map (some r)=>
  bif keyOk P kt k then
   match h.get r with
   |some (.map es clock)=>
    match findK k es 0 with
    |some (some (i,v))=>.ok (.tuple #[v,goInt (((es[i]?).map (·.born)).getD 0)]) h
    |some none=>(match zeroOf P el with|some z=>bif flat z then .ok (.tuple #[z,goInt clock]) (h.put r (.map (es++[⟨k,z,clock⟩]) (clock+1))) else .bad|none=>.bad)
    |none=>.bad
   |_=>.bad
  else .bad
 |_,_=>.bad
def xentryStore (x stamp v:Value) (h:H):Res Value:=
 match x,stamp with
 |.map (some r),.int _ s=>
  match h.get r with
  |some (.map es clock)=>
   match es.findIdx? (fun e=>(e.born:Int) == s) with
   |some i=>.ok undef (h.put r (.map (modE i (fun e=>{ e with val:=v }) es) clock))
   |none=>.bad
  |_=>.bad
 |_,_=>.bad
def xmakeMap (h:H):Res Value:=.ok (.map (some h.next)) (h.alloc (.map [] 0))
def xlen (P:Program) (t:TypeId) (x:Value) (h:H):Res Value:=
 match P.underlying t,x with
 |some .string,.string s=>.ok (goInt s.size) h
 |some (.array n _),_=>.ok (goInt n) h
 |some (.slice _),.slice _ n _=>.ok (goInt n) h
 |some (.map _ _),.map none=>.ok (goInt 0) h
 |some (.map _ _),.map (some r)=>(match h.get r with|some (.map es _)=>.ok (goInt es.length) h|_=>.bad)
 |_,_=>.bad
def xcap (P:Program) (t:TypeId) (x:Value) (h:H):Res Value:=
 match P.underlying t,x with
 |some (.slice _),.slice none _ n=>.ok (goInt n) h
 |some (.slice _),.slice (some a) _ n=>
  match a.spot with
  |some 0=>.ok (goInt n) h
  |none=>(match h.opnSz P a.block with|some none=>.ok (goInt n) h|_=>.bad)
  |_=>.bad
 |some (.array n _),_=>.ok (goInt n) h
 |_,_=>.bad
def firstC (h:H) (size n:Nat):Value→Option (List Value)
 |.slice (some a) _ _=>h.row { a with spot:=none } (n*size)
 |.slice none _ _=>bif Nat.beq n 0 then some [] else none
 |.string s=>bif Nat.beq size 1 then some (byteVals ((s.data.toList).take n)) else none
 |_=>none
def lenV:Value→Option Nat
 |.slice _ n _=>some n
 |.string s=>some s.size
 |_=>none
def H.leave (h:H) (base:Option Addr):H:=
 match base with
 |some a=>
  match h.get a.block,a.spot with
  |some (.cells _ _ _ true),none=>h.put a.block .dead
  |some (.cells _ _ _ true),some 1=>h.put a.block .dead
  |_,_=>h
 |none=>h
def appOk (elem:TypeId) (h:H) (base:Option Addr):Bool:=
 match base with
 |none=>true
 |some a=>
  match h.get a.block,a.spot with
  |some (.cells _ el f true),_=>Nat.beq el elem&&Nat.beq f 0
  |some (.cells _ _ _ false),none=>true
  |some (.cells _ _ _ false),some 0=>true
  |_,_=>false
def zeroFits (P:Program) (e:TypeId):Bool:=match zeroOf P e with|some z=>Nat.beq z.cells.size (P.cellsOf e)&&ones z.cells.toList|none=>false
def appendC (P:Program) (elem:TypeId) (base:Option Addr) (n cap k:Nat) (new:List Value) (h:H):Res Value:=
 bif Nat.ble (n+k) cap then
  match base with
  |none=>bif Nat.beq k 0 then .ok (.slice none (n+k) cap) h else .bad
  |some a=>
   bif Nat.beq k 0 then .ok (.slice (some a) (n+k) cap) h else
   match h.write { a with off:=a.off+n*P.cellsOf elem,spot:=none } new with
   |some h'=>.ok (.slice (some a) (n+k) cap) h'
   |none=>.bad
 else
  bif Nat.ble ((n+k)*bytesOf P elem) 35184372088832&&Nat.ble (n+k) 35184372088832&&Nat.ble (bytesOf P elem) 1048576&&zeroFits P elem&&ones new&&appOk elem h base then
   match firstC h (P.cellsOf elem) n (.slice base n cap) with
   |some old=>.ok (.slice (some ⟨h.next,0,none⟩) (n+k) (n+k)) ((h.leave base).alloc (.cells (old++new) elem 0 true))
   |none=>.bad
  else .bad
def isIntT (P:Program) (t:TypeId):Option Bool:=match P.underlying t with|some (.int _)=>some true|some _=>some false|none=>none
def firstD (h:H) (size n:Nat) (v:Value):Option (List Value):=bif Nat.beq n 0 then (match lenV v with|some _=>some []|none=>none) else firstC h size n v
def xappend (P:Program) (t xt:TypeId) (s x:Value) (h:H):Res Value:=
 match elemOf? P t,s with
 |some e,.slice base n cap=>
  bif szOk P e then
   match isIntT P xt with
   |some true=>
    match x,zeroOf P e with
    |.int .i64 (.ofNat k),some z=>
     bif Nat.ble k 9223372036854775807&&Nat.beq z.cells.size (P.cellsOf e)&&Nat.ble (k*bytesOf P e) 140737488355328 then appendC P e base n cap k (repeatL z.cells.toList k) h else .bad
    |_,_=>.bad
   |some false=>
    match lenV x with
    |some k=>
     match firstD h (P.cellsOf e) k x with
     |some new=>appendC P e base n cap k new h
     |none=>.bad
    |none=>.bad
   |none=>.bad
  else .bad
 |_,_=>.bad
def xcopy (P:Program) (t:TypeId) (d s:Value) (h:H):Res Value:=
 match elemOf? P t,d,lenV s with
 |some e,.slice base n _,some k=>
  match (bif szOk P e then firstD h (P.cellsOf e) (Nat.min k n) s else none) with
  |some l=>
   match base with
   |none=>.ok (goInt (Nat.min k n)) h
   |some a=>bif Nat.beq (Nat.min k n) 0 then .ok (goInt (Nat.min k n)) h else
    match h.write { a with spot:=none } l with
    |some h'=>.ok (goInt (Nat.min k n)) h'
    |none=>.bad
  |none=>.bad
 |_,_,_=>.bad
def xclear (P:Program) (t:TypeId) (x:Value) (h:H):Res Value:=
 match P.underlying t,x with
 |some _,.map none=>.ok undef h
 |some _,.slice none _ _=>.ok undef h
 |some _,.slice _ 0 _=>.ok undef h
 |some (.slice e),.slice (some a) n _=>
  (match zeroOf P e with
   |some z=>(match h.write { a with spot:=none } (repeatL z.cells.toList n) with|some h'=>.ok undef h'|none=>.bad)
   |none=>.bad)
 |_,_=>.bad
def xdelete (P:Program) (t:TypeId) (x k:Value) (h:H):Res Value:=
 match P.underlying t,x with
 |some (.map kt _),.map (some r)=>
  bif keyOk P kt k then
   match h.get r with
   |some (.map es clock)=>
    match findK k es 0 with
    |some (some (i,_))=>.ok undef (h.put r (.map (es.eraseIdx i) clock))
    |some none=>.ok undef h
    |none=>.bad
   |_=>.bad
  else .bad
 |_,_=>.bad
def xsdata (x:Value) (h:H):Res Value:=
 match x with
 |.slice none _ _=>.ok (.pointer none) h
 |.slice (some ⟨b,o,none⟩) _ (_+1)=>.ok (.pointer (some ⟨b,o,none⟩)) h
 |_=>.bad
def xustr (P:Program) (t:TypeId) (p n:Value) (h:H):Res Value:=
 match P.underlying t,p,n with
 |some (.pointer _),.pointer none,.int .i64 (.ofNat 0)=>.ok (.string .empty) h
 |some (.pointer e),.pointer (some ⟨b,o,none⟩),.int .i64 (.ofNat n)=>
  match h.get b with
  |some (.cells _ el _ true)=>
   bif Nat.beq el e&&Nat.beq (P.cellsOf e) 1&&Nat.ble n 9223372036854775807 then
    match (h.row ⟨b,o,none⟩ n).bind ofBytes? with
    |some l=>bif Nat.beq n 0 then .ok (.string .empty) h else .ok (.string ⟨⟨l⟩⟩) (h.put b .dead)
    |none=>.bad
   else .bad
  |_=>.bad
 |_,_,_=>.bad
end Go.Kx
