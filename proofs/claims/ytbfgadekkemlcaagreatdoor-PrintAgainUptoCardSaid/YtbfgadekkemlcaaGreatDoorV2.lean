/- My texts for this claim, in one file: part 2. -/
import Derived.Test.YtbfgadekkemlcaaGreatDoorV1
set_option linter.unusedVariables false
set_option linter.unusedSimpArgs false
namespace Go.Kx
open Go
abbrev Fr:=List (Nat × Value)
inductive Fn where
 |f (g:FuncId)
 |y (b:Nat)
abbrev Cl:=Fn→List Value→H→Res Value
abbrev Pr:=FuncId→List Value→H→Res Value
def Fr.at:Fr→Nat→Option Value
 |[],_=>none
 |(j,v)::l,i=>bif Nat.beq j i then some v else Fr.at l i
def Fr.ev (fr:Fr):Operand→Option Value
 |.tmp t=>Fr.at fr t
 |.const v=>bif flat v then some v else none
 |.global g=>some (.pointer (some ⟨g,0,none⟩))
 |.func f=>some (.func (.func f) #[] #[])
def Fr.put (fr:Fr) (dst:Option Tmp) (v:Value):Fr:=match dst with|some d=>(d,v)::fr|none=>fr
def erase:List Nat→Fr→Fr
 |[],_=>[]
 |i::l,fr=>match Fr.at fr i with|some v=>(i,v)::erase l fr|none=>erase l fr
def evAll (fr:Fr):List Operand→Option (List Value)
 |[]=>some []
 |x::l=>match Fr.ev fr x,evAll fr l with|some v,some vs=>some (v::vs)|_,_=>none
def evParts (fr:Fr):List (Nat × Operand)→Option (List (Nat × Value))
 |[]=>some []
 |(i,x)::l=>match Fr.ev fr x,evParts fr l with|some v,some vs=>some ((i,v)::vs)|_,_=>none
def w1 (o:Option Value) (f:Value→Res Value):Res Value:=match o with|some v=>f v|none=>.bad
def wO (fr:Fr) (x:Option Operand) (f:Option Value→Res Value):Res Value:=
 match x with
 |none=>f none
 |some y=>w1 (Fr.ev fr y) fun v=>f (some v)
def pickV (c a b:Value) (h:H):Res Value:=match c with|.bool t=>.ok (bif t then a else b) h|_=>.bad
def xbuiltin (P:Program) (b:Builtin) (ts:List TypeId) (xs:List Value) (h:H):Res Value:=
 match b,ts,xs with
 |.len,t::_,x::_=>xlen P t x h
 |.cap,t::_,x::_=>xcap P t x h
 |.append,[t,u],[s,x]=>xappend P t u s x h
 |.copy,t::_,[d,s]=>xcopy P t d s h
 |.clear,t::_,x::_=>xclear P t x h
 |.delete,t::_,[m,k]=>xdelete P t m k h
 |.unsafeSliceData,_,[x]=>xsdata x h
 |.unsafeString,t::_,[p,n]=>xustr P t p n h
 |.max,_,_=>bif flatL xs then xflat (P:=P) (prun P (Builtin.max_ #[] 0 ⟨xs⟩)) h else .bad
 |.min,_,_=>bif flatL xs then xflat (P:=P) (prun P (Builtin.min_ #[] 0 ⟨xs⟩)) h else .bad
 |_,_,_=>.bad
def xcallV (cl:Cl) (f:Value) (args:List Value) (h:H):Res Value:=
 match f with
 |.func (.func g) ⟨first⟩ ⟨cap⟩=>cl (.f g) (first++args++cap) h
 |.func (.yield b) ⟨[]⟩ ⟨[]⟩=>cl (.y b) args h
 |_=>.bad
def xinvoke (P:Program) (cl:Cl) (r:Value) (m:String) (args:List Value) (h:H):Res Value:=
 match r with
 |.iface t v=>
  match (P.info? t).bind (fun i=>i.methods.find? (·.name == m)) with
  |some mt=>
   match mt.path.toList,mt.func with
   |[],some (f,true)=>(match P.underlying t with|some (.pointer _)=>cl (.f f) (v::args) h|_=>.bad)
   |[],some (f,false)=>(match P.underlying t with|some (.pointer _)=>.bad|some _=>cl (.f f) (v::args) h|none=>.bad)
   |_,_=>.bad
  |none=>.bad
 |_=>.bad
def xop (P:Program) (cl:Cl) (fr:Fr) (o:Oper) (h:H):Res Value:=
 match o.op with
 |.move x|.assign x=>ofO (Fr.ev fr x) h
 |.pick c a b=>w1 (Fr.ev fr c) fun u=>w1 (Fr.ev fr a) fun v=>w1 (Fr.ev fr b) fun w=>pickV u v w h
 |.alloc e=>xalloc P e h
 |.box e x=>w1 (Fr.ev fr x) fun v=>xbox e v h
 |.build t ps=>(match evParts fr ps.toList with|some l=>xbuild P t l h|none=>.bad)
 |.buildSlice t n ps=>(match evParts fr ps.toList with|some l=>xbuildSlice P t n l h|none=>.bad)
 |.load t a=>w1 (Fr.ev fr a) fun v=>xload P t v h
 |.store t a x=>w1 (Fr.ev fr a) fun v=>w1 (Fr.ev fr x) fun u=>xstore P t v u h
 |.nilCheck x=>w1 (Fr.ev fr x) fun v=>xnilCheck v h
 |.binOp op t x y _=>w1 (Fr.ev fr x) fun v=>w1 (Fr.ev fr y) fun u=>xbin P op t v u h
 |.unOp op _ x=>w1 (Fr.ev fr x) fun v=>xun P op v h
 |.convert s d x=>w1 (Fr.ev fr x) fun v=>xconvert P s d v h
 |.makeInterface t x=>w1 (Fr.ev fr x) fun v=>xmakeInterface P t v h
 |.makeFunc fn fs cs=>(match fn,evAll fr fs.toList,evAll fr cs.toList with|.func g,some l,some m=>.ok (.func (.func g) ⟨l⟩ ⟨m⟩) h|_,_,_=>.bad)
 |.makeMap _ none=>xmakeMap h
 |.makeSlice t l c=>w1 (Fr.ev fr l) fun v=>w1 (Fr.ev fr c) fun u=>xmakeSlice P t v u h
 |.slice t x lo hi mx=>w1 (Fr.ev fr x) fun v=>wO fr lo fun l=>wO fr hi fun u=>wO fr mx fun m=>xslice P t v l u m h
 |.fieldAddr t x i=>w1 (Fr.ev fr x) fun v=>xfieldAddr P t v i h
 |.field t x i=>w1 (Fr.ev fr x) fun v=>xfield P t v i h
 |.indexAddr t x i=>w1 (Fr.ev fr x) fun v=>w1 (Fr.ev fr i) fun u=>xindexAddr P t v u h
 |.index t x i=>w1 (Fr.ev fr x) fun v=>w1 (Fr.ev fr i) fun u=>xindex P t v u h
 |.lookup t x k ok=>w1 (Fr.ev fr x) fun v=>w1 (Fr.ev fr k) fun u=>xlookup P t v u ok h
 |.mapUpdate t m k x=>w1 (Fr.ev fr m) fun a=>w1 (Fr.ev fr k) fun b=>w1 (Fr.ev fr x) fun c=>xmapUpdate P t a b c h
 |.insert t m k x=>w1 (Fr.ev fr m) fun a=>w1 (Fr.ev fr k) fun b=>w1 (Fr.ev fr x) fun c=>xmapUpdate P t a b c h
 |.mapEntry t m k=>w1 (Fr.ev fr m) fun a=>w1 (Fr.ev fr k) fun b=>xmapEntry P t a b h
 |.entryStore _ m s x=>w1 (Fr.ev fr m) fun a=>w1 (Fr.ev fr s) fun b=>w1 (Fr.ev fr x) fun c=>xentryStore a b c h
 |.typeAssert x _ a ok=>w1 (Fr.ev fr x) fun v=>xtypeAssert P v a ok h
 |.extract x i=>w1 (Fr.ev fr x) fun v=>xextract v i h
 |.panic x=>(match Fr.ev fr x with|some (.iface t v)=>.pan (.iface t v) h|_=>.bad)
 |.call c=>
  match evAll fr c.args.toList with
  |some args=>
   match c.callee with
   |.builtin b=>xbuiltin P b c.argTypes.toList args h
   |.value f=>w1 (Fr.ev fr f) fun v=>xcallV cl v args h
   |.invoke r m=>w1 (Fr.ev fr r) fun v=>xinvoke P cl v m args h
  |none=>.bad
 |_=>.bad
inductive Ex where
 |normal|exit (id:Nat)|ret|pan (v:Value)
 deriving Inhabited
abbrev Ko:=Ex→Fr→H→Res Value
def wantV (want:Bool) (v:Value):Option Bool:=match v with|.bool b=>some (b == want)|.func _ _ _=>none|_=>some false
def wantedX (o:Oper) (ops:List Oper) (fr:Fr):Option Bool:=
 match o.guard with
 |none=>some true
 |some (j,want)=>
  match (ops[j]?).bind (·.dst) with
  |some d=>(match Fr.at fr d with|some v=>wantV want v|none=>none)
  |none=>none
def Res.go {α:Type} (r:Res α) (p:Value→H→Res Value) (k:α→H→Res Value):Res Value:=
 match r with
 |.ok v h=>k v h
 |.pan v h=>p v h
 |.bad=>.bad
@[simp] theorem Res.go_ok {α:Type} (a:α) (h:H) (p:Value→H→Res Value) (k:α→H→Res Value):(Res.ok a h).go p k=k a h:=rfl
@[simp] theorem Res.go_pan {α:Type} (v:Value) (h:H) (p:Value→H→Res Value) (k:α→H→Res Value):(Res.pan v h:Res α).go p k=p v h:=rfl
@[simp] theorem Res.go_bad {α:Type} (p:Value→H→Res Value) (k:α→H→Res Value):(Res.bad:Res α).go p k = .bad:=rfl
def grd (b:Option Bool) (yes no:Res Value):Res Value:=match b with|some true=>yes|some false=>no|none=>.bad
def ifV (v:Value) (a b:Res Value):Res Value:=match v with|.bool t=>(bif t then a else b)|_=>.bad
@[simp] theorem ifV_true (a b:Res Value):ifV (.bool true) a b=a:=rfl
@[simp] theorem ifV_false (a b:Res Value):ifV (.bool false) a b=b:=rfl
def guards (ops:List Oper) (i:Nat):Bool:=ops.any fun o=>match o.guard with|some (j,_)=>Nat.beq j i|none=>false
def ev1 (P:Program) (cl:Cl) (ops:List Oper) (i:Nat) (o:Oper) (K:Ko) (fr:Fr) (h:H) (k:Fr→H→Res Value):Res Value:=
 grd (wantedX o ops fr)
  ((xop P cl fr o h).go (fun v h'=>K (.pan v) fr h')
   (fun v h'=>bif guards ops i then ifV v (k (Fr.put fr o.dst (.bool true)) h') (k (Fr.put fr o.dst (.bool false)) h') else k (Fr.put fr o.dst v) h'))
  (k (Fr.put fr o.dst undef) h)
def evL (P:Program) (cl:Cl) (ops:List Oper) (K:Ko):Nat→List Oper→Fr→H→Res Value
 |_,[],fr,h=>K .normal fr h
 |i,o::l,fr,h=>ev1 P cl ops i o K fr h fun fr' h'=>evL P cl ops K (i+1) l fr' h'
mutual
def veq:Value→Value→Bool
 |.bool a,.bool b=>a == b
 |.int j a,.int k b=>decide (j=k)&&decide (a=b)
 |.string a,.string b=>a.data.toList == b.data.toList
 |.pointer none,.pointer none=>true
 |.pointer (some a),.pointer (some b)=>decide (a=b)
 |.slice none n c,.slice none m d=>Nat.beq n m&&Nat.beq c d
 |.slice (some a) n c,.slice (some b) m d=>decide (a=b)&&Nat.beq n m&&Nat.beq c d&&decide (a.spot≠some 1)
 |.map none,.map none=>true
 |.map (some a),.map (some b)=>Nat.beq a b
 |.nilFunc,.nilFunc=>true
 |.float k a,.float j b=>decide (k=j)&&decide (a=b)
 |.func (.func g) ⟨f⟩ ⟨c⟩,.func (.func g') ⟨f'⟩ ⟨c'⟩=>Nat.beq g g'&&veqL f f'&&veqL c c'
 |.nilIface,.nilIface=>true
 |.iface t v,.iface u w=>Nat.beq t u&&veq v w
 |.agg ⟨l⟩,.agg ⟨m⟩=>veqL l m
 |.tuple ⟨l⟩,.tuple ⟨m⟩=>veqL l m
 |_,_=>false
def veqL:List Value→List Value→Bool
 |[],[]=>true
 |v::l,w::m=>veq v w&&veqL l m
 |_,_=>false
end
def rc (r:Res Value) (u:Option Value):Bool:=match r,u with|.ok v _,some u=>veq v u|_,_=>false
def rcG (b:Option Bool) (x:Bool):Bool:=match b with|some true=>x|some false=>true|none=>false
def noCl:Cl:=fun _ _ _=>.bad
def recheck (P:Program) (ops:List Oper) (fr:Fr) (h:H):List Nat→Bool
 |[]=>true
 |j::l=>
  (match ops[j]? with
   |some o=>
    (match o.dst with
    |some d=>rcG (wantedX o ops fr) (rc (xop P noCl fr o h) (Fr.at fr d))
    |none=>false)
   |none=>false)&&recheck P ops fr h l
def plain2 (x y:Value):Bool:=
 match x,y with
 |.int _ _,.int _ _=>true
 |.string _,.string _=>true
 |.bool _,.bool _=>true
 |.pointer (some ⟨b,_,none⟩),.pointer (some ⟨c,_,none⟩)=>Nat.beq b c
 |.agg ⟨l⟩,.agg ⟨m⟩=>flatL l&&flatL m
 |_,_=>false
def isIntV:Value→Bool
 |.int _ _=>true
 |_=>false
def earlyS (o:Oper):Bool:=
 match o.op with
 |.move _=>true
 |.pick _ _ _=>true
 |.fieldAddr _ _ _=>true
 |.indexAddr _ _ _=>true
 |.load _ _=>true
 |.nilCheck _=>true
 |.unOp _ _ _=>true
 |.extract _ _=>true
 |.makeInterface _ _=>true
 |.binOp _ _ _ _ _=>true
 |.field _ _ _=>true
 |.index _ _ _=>true
 |.build _ _=>true
 |.convert _ _ _=>true
 |.slice _ _ _ _ _=>true
 |.call c=>(match c.callee with|.builtin .len=>true|_=>false)
 |_=>false
def earlyD (fr:Fr) (o:Oper):Bool:=
 match o.op with
 |.binOp _ _ x y _=>(match Fr.ev fr x,Fr.ev fr y with|some v,some u=>plain2 v u|_,_=>false)
 |.call c=>(match evAll fr c.args.toList with|some (v::_)=>(lenV v).isSome|_=>false)
 |.convert _ _ x=>(match Fr.ev fr x with|some v=>isIntV v|none=>false)
 |_=>true
def Res.ok1 (r:Res Value) (k:Value→H→Res Value):Res Value:=match r with|.ok v h=>k v h|_=>.bad
def ev1E (P:Program) (cl:Cl) (ops:List Oper) (i:Nat) (o:Oper) (fr:Fr) (h:H) (k:Fr→H→Res Value):Res Value:=
 grd (wantedX o ops fr)
  (bif earlyD fr o then
   (xop P cl fr o h).ok1 (fun v h'=>bif guards ops i then ifV v (k (Fr.put fr o.dst (.bool true)) h') (k (Fr.put fr o.dst (.bool false)) h') else k (Fr.put fr o.dst v) h')
  else .bad)
  (k (Fr.put fr o.dst undef) h)
def ptrAt (b:Nat):Value:=.pointer (some ⟨b,0,none⟩)
def sliceAt' (n m b:Nat):Value:=.slice (some ⟨b,0,none⟩) n m
abbrev Lay:=List Value × TypeId × (Nat→Value)
def layAlloc (P:Program) (e:TypeId):Option Lay:=match zeroOf P e with|some z=>some (z.cells.toList,e,ptrAt)|none=>none
def layBox (e:TypeId) (v:Value):Option Lay:=some (v.cells.toList,e,ptrAt)
def layBuild (P:Program) (t:TypeId) (n:Nat) (ps:List (Nat × Value)):Option Lay:=
 match elemOf? P t with
 |some e=>
  match zeroOf P e with
  |some z=>
   bif Nat.beq z.cells.size (P.cellsOf e)&&Nat.ble (n*P.cellsOf e) 16777216 then
    match fillL (fun i=>some (i*P.cellsOf e,P.cellsOf e)) (repeatL z.cells.toList n) ps with
    |some l=>some (l,e,sliceAt' n n)
    |none=>none
   else none
  |none=>none
 |none=>none
def layMake (P:Program) (t:TypeId) (l c:Value):Option Lay:=
 match elemOf? P t,l,c with
 |some e,.int .i64 (.ofNat n),.int .i64 (.ofNat m)=>
  match zeroOf P e with
  |some z=>
   bif Nat.ble n m&&Nat.ble (bytesOf P e*m) 140737488355328&&Nat.ble m 9223372036854775807&&Nat.beq z.cells.size (P.cellsOf e) then
    some (repeatL z.cells.toList m,e,sliceAt' n m)
   else none
  |none=>none
 |_,_,_=>none
def layX (P:Program) (fr:Fr) (o:Oper):Option Lay:=
 match o.op with
 |.alloc e=>layAlloc P e
 |.box e x=>(match Fr.ev fr x with|some v=>layBox e v|none=>none)
 |.buildSlice t n ps=>(match evParts fr ps.toList with|some l=>layBuild P t n l|none=>none)
 |.makeSlice t l c=>(match Fr.ev fr l,Fr.ev fr c with|some v,some u=>layMake P t v u|_,_=>none)
 |_=>none
def laysB (P:Program) (ops:List Oper) (fr:Fr):List Nat→Bool
 |[]=>true
 |l::r=>(match ops[l]? with|some o=>(match o.dst with|some d=>(match Fr.at fr d with|none=>(layX P fr o).isSome|some _=>false)|none=>false)|none=>false)&&laysB P ops fr r
def chkK (P:Program) (ops:List Oper) (fr:Fr) (h:H) (chk:List Nat) (r:Res Value):Res Value:=
 match chk with
 |[]=>r
 |_=>bif recheck P ops fr h chk then r else .bad
def evD (P:Program) (cl:Cl) (ops:List Oper) (K:Ko):Plan→Fr→H→Res Value
 |[],fr,h=>K .normal fr h
 |(i,chk,lt)::l,fr,h=>
  match ops[i]? with
  |some o=>
   bif earlyS o then ev1E P cl ops i o fr h fun fr' h'=>evD P cl ops K l fr' h'
   else bif laysB P ops fr lt then ev1 P cl ops i o K fr h fun fr' h'=>chkK P ops fr' h' chk (evD P cl ops K l fr' h') else .bad
  |none=>.bad
def look {α:Type} (l:List (Nat × α)) (i:Nat):Option α:=
 match l with
 |[]=>none
 |(j,a)::r=>bif Nat.beq j i then some a else look r i
def firstR:Code→Option Nat
 |.region id _ _=>some id
 |.seq a b=>(match firstR a with|some i=>some i|none=>firstR b)
 |.block _ b=>firstR b
 |.loop b=>firstR b
 |.scope b=>firstR b
 |.cond _ a b=>(match firstR a with|some i=>some i|none=>firstR b)
 |_=>none
def cutF (an:Ann) (b:Code) (fr:Fr):Fr:=
 match firstR b with
 |some i=>(match look an.cut i with|some kp=>erase kp fr|none=>fr)
 |none=>fr
def kblk (id:Nat) (K:Ko):Ko:=fun e fr h=>
 match e with
 |.exit j=>bif Nat.beq j id then K .normal fr h else K (.exit j) fr h
 |.normal=>K .normal fr h
 |.ret=>K .ret fr h
 |.pan v=>K (.pan v) fr h
def kthen (K:Ko) (next:Fr→H→Res Value):Ko:=fun e fr h=>
 match e with
 |.normal=>next fr h
 |.exit j=>K (.exit j) fr h
 |.ret=>K .ret fr h
 |.pan v=>K (.pan v) fr h
def lpK (kp:List Nat) (body:Ko→Fr→H→Res Value) (K:Ko):Nat→Fr→H→Res Value
 |0,_,_=>.bad
 |m+1,fr,h=>body (kthen K fun fr' h'=>lpK kp body K m (erase kp fr') h') fr h
def kloop (b:Nat) (K:Ex→H→Res Value) (h:H):Res Value:=
 match h.get b with
 |some (.loop x)=>
  match x.st,x.pe with
  |.busy,_=>.bad
  |_,none=>K .normal (h.put b .dead)
  |_,some .ret=>K .ret (h.put b .dead)
  |_,some (.exit i)=>K (.exit i) (h.put b .dead)
  |_,_=>.bad
 |_=>.bad
def keepOf (an:Ann) (bo:Code) (fr:Fr):Fr:=
 match firstR bo with
 |some i=>(match look an.keep i with|some kp=>erase kp fr|none=>[])
 |none=>[]
def rngV (cl:Cl) (an:Ann) (gv:Value) (ps:Array Tmp) (asg bo:Code) (K:Ex→H→Res Value) (kf:Fr) (h:H):Res Value:=
 match gv with
 |.func (.func gf) ⟨[]⟩ ⟨lb⟩=>
  bif an.its.contains gf then
   (cl (.f gf) (.func (.yield h.next) ⟨[]⟩ ⟨[]⟩::lb) (h.alloc (.loop ⟨.ready,none,ps.toList,asg,bo,an,kf⟩))).go (fun v h'=>K (.pan v) h') fun _ h'=>kloop h.next K h'
  else .bad
 |_=>.bad
def rngK (cl:Cl) (an:Ann) (g:Operand) (ps:Array Tmp) (asg bo:Code) (K:Ko) (fr:Fr) (h:H):Res Value:=
 w1 (Fr.ev fr g) fun gv=>rngV cl an gv ps asg bo (fun e h=>K e (cutF an bo fr) h) (keepOf an bo fr) h
def evK (P:Program) (cl:Cl) (an:Ann) (n:Nat):Code→Ko→Fr→H→Res Value
 |.skip,K,fr,h=>K .normal fr h
 |.label _,K,fr,h=>K .normal fr h
 |.region id ops draw,K,fr,h=>
  bif draw then (match look an.plan id with|some pl=>evD P cl ops.toList K pl fr h|none=>.bad)
  else evL P cl ops.toList K 0 ops.toList fr h
 |.seq a b,K,fr,h=>evK P cl an n a (kthen K fun fr' h'=>evK P cl an n b K (cutF an b fr') h') fr h
 |.cond c a b,K,fr,h=>
  w1 (Fr.ev fr c) fun v=>ifV v (evK P cl an n a K fr h) (evK P cl an n b K fr h)
 |.block id b,K,fr,h=>evK P cl an n b (kblk id K) fr h
 |.rangeFunc g ps asg bo,K,fr,h=>rngK cl an g ps asg bo K fr h
 |.loop b,K,fr,h=>
  match firstR b with
  |some i=>(match look an.keep i with|some kp=>lpK kp (fun K' fr' h'=>evK P cl an n b K' fr' h') K n (erase kp fr) h|none=>.bad)
  |none=>.bad
 |.scope b,K,fr,h=>evK P cl an n b K fr h
 |.exit id,K,fr,h=>K (.exit id) fr h
 |.ret,K,fr,h=>K .ret fr h
 |_,_,_,_=>.bad
def putAll:List Tmp→List Value→Fr→Option Fr
 |[],[],fr=>some fr
 |p::ps,v::vs,fr=>putAll ps vs ((p,v)::fr)
 |_,_,_=>none
def kassign (next:Fr→H→Res Value):Ko:=fun e fr h=>match e with|.normal=>next fr h|_=>.bad
def krV (b:Nat) (e:Ex) (h:H):Res Value:=
 match h.get b with
 |some (.loop x)=>
  match x.st,e with
  |.busy,.normal=>.ok (.bool true) (h.put b (.loop { x with st:=.ready,pe:=none }))
  |.busy,.exit i=>.ok (.bool false) (h.put b (.loop { x with st:=.done,pe:=some (.exit i) }))
  |.busy,.ret=>.ok (.bool false) (h.put b (.loop { x with st:=.done,pe:=some .ret }))
  |_,_=>.bad
 |_=>.bad
def kround (b:Nat):Ko:=fun e _ h=>krV b e h
def begV (b:Nat) (body:H→Res Value) (h:H):Res Value:=
 match h.get b with
 |some (.loop x)=>(match x.st with|.ready=>body (h.put b (.loop { x with st:=.busy }))|_=>.bad)
 |_=>.bad
def begK (b:Nat) (body:Fr→H→Res Value):Fr→H→Res Value:=fun fr h=>begV b (body fr) h
def yldK (P:Program) (cl:Cl) (n:Nat) (b:Nat) (args:List Value) (h:H):Res Value:=
 match h.get b with
 |some (.loop x)=>
  match putAll x.ps args x.fr with
  |some fr=>evK P cl x.an n x.asg (kassign (begK b fun fr' h'=>evK P cl x.an n x.bo (kround b) fr' h')) fr h
  |none=>.bad
 |_=>.bad
def resV (P:Program) (fr:Fr) (h:H):List ResultVar→Option (List Value)
 |[]=>some []
 |.tmp t::l=>(match Fr.at fr t,resV P fr h l with|some v,some vs=>some (v::vs)|_,_=>none)
 |.cell a t::l=>
  match Fr.at fr a,resV P fr h l with
  |some p,some vs=>(match xload P t p h with|.ok v _=>some (v::vs)|_=>none)
  |_,_=>none
def oneV:List Value→Value
 |[v]=>v
 |l=>.tuple ⟨l⟩
def argF:Nat→List Value→Fr
 |_,[]=>[]
 |i,v::l=>(i,v)::argF (i+1) l
def kfn (P:Program) (rs:List ResultVar):Ko:=fun e fr h=>
 match e with
 |.normal=>(match resV P fr h rs with|some l=>.ok (oneV l) h|none=>.bad)
 |.ret=>(match resV P fr h rs with|some l=>.ok (oneV l) h|none=>.bad)
 |.pan v=>.pan v h
 |.exit _=>.bad
def bodyOf (fn:Func):Code:=match fn.body with|some c=>c|none=>.refuse ""
def runF (P:Program) (cl:Cl) (an:Ann) (n:Nat) (fn:Func) (args:List Value) (h:H):Res Value:=
 evK P cl an n (bodyOf fn) (kfn P fn.results.toList) (argF 0 args) h
def sub:Code→List Nat→Code
 |c,[]=>c
 |.seq a _,0::l=>sub a l
 |.seq _ b,1::l=>sub b l
 |.cond _ a _,0::l=>sub a l
 |.cond _ _ b,1::l=>sub b l
 |.block _ b,0::l=>sub b l
 |.loop b,0::l=>sub b l
 |.scope b,0::l=>sub b l
 |.rangeFunc _ _ a _,0::l=>sub a l
 |.rangeFunc _ _ _ b,1::l=>sub b l
 |c,_=>c
def isLoad (o:Oper):Bool:=match o.op with|.load _ _=>true|_=>false
def opOk (G n:Nat) (o:Oper):Bool:=
 (match o.op with|.defer _=>false|_=>true)&&(match o.dst with|some d=>Nat.blt d n|none=>true)&&o.op.operands.toList.all fun x=>match x with|.global g=>Nat.blt g G|_=>true
def ancB (ops:Array Oper):Nat→Nat→Nat→Bool
 |0,_,_=>false
 |f+1,j,l=>match ops[j]? with|some o=>o.after.toList.any fun e=>Region.binds .any e&&(Nat.beq e.on l||ancB ops f e.on l)|none=>false
def sepB (ops:Array Oper) (o:Oper) (l:Nat):Bool:=
 match ops[l]? with
 |some ol=>(match o.dst with|some d=>!(ol.looksAt ops).contains d&&ol.dst != some d|none=>true)
 |none=>false
def ownB (ops:Array Oper) (o:Oper):Bool:=match o.dst with|some d=>!(o.looksAt ops).contains d|none=>false
def lateB (ops:Array Oper) (ls lt:List Nat) (l:Nat):Bool:=
 match ops[l]? with
 |some ol=>(match ol.guard with|none=>true|some _=>false) && !earlyS ol&&ls.all (sepB ops ol)&&lt.all (fun m=>Nat.beq m l||sepB ops ol m)
 |none=>false
def ltsB (listed:Array Bool) (lt:List Nat):Array Bool:=lt.foldl (fun s l=>s.setIfInBounds l true) listed
def planB (ops:Array Oper):Array Bool→List Nat→List Nat→Plan→Bool
 |listed,_,pe,[]=>pe.isEmpty&&(Region.ready .any ops listed).isEmpty
 |listed,ls,pe,(i,chk,lt)::rest=>
  match ops[i]? with
  |some o=>
   ls.all (sepB ops o)&&(Region.ready .any ops listed).contains i &&
   bif earlyS o then pe.all (sepB ops o)&&Region.free .any ops listed i&&(bif isLoad o then ownB ops o else true)&&planB ops (listed.setIfInBounds i true) (bif isLoad o then i::ls else ls) pe rest
   else !lt.contains i&&pe.all (fun l=>Nat.beq l i||lt.contains l)&&lt.all (sepB ops o)&&lt.all (lateB ops ls lt)&&(Region.ready .any ops (ltsB listed lt) == [i])&&ls.all (fun l=>chk.contains l||ancB ops ops.size i l)&&planB ops (listed.setIfInBounds i true) ls lt rest
  |none=>false
def plainB:Code→Bool
 |.seq a b=>plainB a&&plainB b
 |.cond _ a b=>plainB a&&plainB b
 |.block _ b=>plainB b
 |.loop b=>plainB b
 |.scope _=>false
 |.rangeFunc _ _ _ _=>false
 |_=>true
def codeB (an:Ann) (G n:Nat):Code→Bool
 |.region id ops draw=>
  ops.toList.all (opOk G n)&&bif draw then Region.noSelect ops&&(match look an.plan id with|some pl=>planB ops (Array.replicate ops.size false) [] [] pl&&Nat.ble pl.length ops.size|none=>false) else true
 |.seq a b=>codeB an G n a&&codeB an G n b
 |.cond c a b=>(match c with|.global _=>false|_=>true)&&codeB an G n a&&codeB an G n b
 |.block _ b=>codeB an G n b
 |.loop b=>codeB an G n b
 |.scope b=>codeB an G n b
 |.rangeFunc g ps a b=>(match g with|.global _=>false|_=>true)&&ps.toList.all (fun p=>Nat.blt p n)&&plainB a&&plainB b&&codeB an G n a&&codeB an G n b
 |.skip=>true
 |.label _=>true
 |.exit _=>true
 |.ret=>true
 |.refuse _=>true
 |_=>false
end Go.Kx
