/- The engine: a function's code as a formula over named values (a verified reading of the program's own code trees), and its soundness. No program in sight. -/
import Derived.WalkKit
import Derived.Still
import Derived.StillTail
import Derived.Deep.Quiet
import Derived.KernelRfl
set_option linter.unusedVariables false
set_option linter.unusedSimpArgs false
set_option linter.unusedSectionVars false
namespace Go
abbrev KT:=Value->World->Prop
abbrev gA:=@List.getElem?_eq_getElem
abbrev gB:=@List.getD_eq_getElem?_getD
abbrev gC:=@Int.toNat_natCast
abbrev gD:=@List.length_append
abbrev gF:=@List.getElem?_cons_succ
abbrev gH:=@List.getElem?_eq_some_iff
abbrev gI:=@List.append_assoc
abbrev gJ:=@List.set_cons_zero
abbrev gK:=@List.take_of_length_le
abbrev gM:=@List.getElem?_append_left
abbrev gN:=@List.length_take
abbrev gO:=@List.take_add_one
abbrev gP:=@List.length_replicate
abbrev gQ:=@List.length_singleton
abbrev gS:=@List.length_drop
abbrev gT:=@List.getElem?_append_right
abbrev gU:=@List.append_nil
abbrev gW:=@List.set_cons_succ
abbrev gZ:=@List.length_pos_iff
abbrev hF_:=@List.take_length
abbrev hG_:=@Nat.add_assoc
abbrev hH_:=@List.getElem?_drop
abbrev hI_:=@List.getElem?_take_of_lt
abbrev hJ_:=@List.mem_cons_self
abbrev hK_:=@List.mem_cons_of_mem
abbrev hN_:=@List.take_append_drop
abbrev hO_:=@List.nil_append
abbrev hQ_:=@List.sum_cons
abbrev hR_:=@List.map_cons
abbrev hS_:=@List.length_map
abbrev hT_:=@List.mem_append
abbrev hU_:=@Nat.lt_or_ge
abbrev hV_:=@List.getElem?_map
abbrev hW_:=@List.length_range
abbrev hX_:=@List.length_set
abbrev hY_:=@List.getElem?_set_ne
end Go
namespace Go.Vc

def find:List (Nat × Value)->Nat->Option Value
 |[],_=>none
 |(s,v)::r,t=>match Nat.beq s t with
  |true=>some v
  |false=>find r t

structure Env where
 l:List (Nat × Value)
 b:Nat->Value

def Env.get (ρ:Env) (t:Nat):Value:=match find ρ.l t with
 |some v=>v
 |none=>ρ.b t
def Env.ev (ρ:Env):Operand->Value
 |.tmp t=>ρ.get t
 |.const v=>v
 |.global g=>.pointer (some ⟨g,0,none⟩)
 |.func f=>.func (.func f) #[] #[]
def Env.set (ρ:Env) (t:Nat) (v:Value):Env:=⟨(t,v)::ρ.l,ρ.b⟩

theorem Env.get_set (ρ:Env) (t:Nat) (v:Value) (s:Nat):(ρ.set t v).get s=if t=s then v else ρ.get s:=by
 unfold Env.get Env.set;simp only[find]
 cases h:Nat.beq t s with
 |true=>have:=Nat.eq_of_beq_eq_true h;simp[this]
 |false=>have:=Nat.ne_of_beq_eq_false h;simp[this]

class DefN where
 ds:List Deferred
instance defN0:DefN:=⟨[]⟩
section
variable [dn:DefN]
structure Fits (n:Nat) (ρ:Env) (a:Act):Prop where
 defers:a.defers=dn.ds
 size:a.tmps.size=n
 slot:∀ t,a.tmps.getD t undef=ρ.get t

theorem Fits.eval {n:Nat}{ρ:Env}{a:Act}(h:Fits n ρ a):a.eval=ρ.ev:=by
 funext x
 cases x with
 |tmp t=>exact h.slot t
 |const v=>rfl
 |global g=>rfl
 |func f=>rfl

theorem Fits.put {n:Nat}{ρ:Env}{a:Act}(h:Fits n ρ a){d:Nat}(hd:d < n) (v:Value):Fits n (ρ.set d v) (a.put (some d) v):=by
 refine⟨h.defers,by simp[Act.put,h.size],λt=>?_⟩;rw[Env.get_set];simp only[Act.put];have hs:=h.size
 by_cases e:d=t
 ·subst e;simp[hs,hd]
 ·rw[if_neg e,<-h.slot t];simp[Array.getD_eq_getD_getElem?,Array.getElem?_setIfInBounds,e]

def Env.put (n:Nat) (ρ:Env) (dst:Option Nat) (v:Value) (K:Env->Prop):Prop:=
 match dst with
 |none=>K ρ
 |some d=>match Nat.blt d n with
  |true=>K (ρ.set d v)
  |false=>False

theorem put_spec {n:Nat}{ρ:Env}{a:Act}(h:Fits n ρ a){dst:Option Nat}{v:Value}{K:Env->Prop}(hk:ρ.put n dst v K) :
  ∃ ρ',Fits n ρ' (a.put dst v)/\K ρ':=by
 unfold Env.put at hk
 cases dst with
 |none=>exact⟨ρ,h,hk⟩
 |some d=>
  simp only at hk
  cases hb:Nat.blt d n with
  |true=>rw[hb] at hk;exact⟨_,h.put (Nat.le_of_ble_eq_true hb) v,hk⟩
  |false=>rw[hb] at hk;exact hk.elim

def RunV (P:Program) (m:Sem Value) (w:World) (K:Value->Prop):Prop:=∃ v,m.run P w=.ok v w/\K v
def RunE {α:Type}(P:Program) (m:Sem α) (w:World) (K:α->World->Prop):Prop:=∃ v w',m.run P w=.ok v w'/\K v w'
def Nc (v:Value) (A:Prop):Prop:=(∃ a,v=.pointer (some a))/\A
def Pk (c a b:Value) (K:Value->Prop):Prop:=match c with
 |.bool true=>K a
 |.bool false=>K b
 |_=>False
def Vif (c:Value) (A B:Prop):Prop:=
 match c with
 |.bool true=>A
 |.bool false=>B
 |_=>False
theorem Vif.or {c:Value}{A B:Prop}(h:Vif c A B):(c=.bool true/\A)\/(c=.bool false/\B):=by
 cases c <;> try exact h.elim
 rename_i b;cases b
 ·exact .inr ⟨rfl,h⟩
 ·exact .inl ⟨rfl,h⟩
def Be (P:Program) (op:BinOp) (t:TypeId) (X Y:Operand) (x y:Value) (w:World) (K:Value->Prop):Prop:=
 RunV P (do eqGuard op t X Y x y;binOp op t x y) w K
def lmap (ev:Operand->Value):List Operand->List Value
 |[]=>[]
 |x::r=>ev x::lmap ev r
def amap (ev:Operand->Value) (xs:Array Operand):Array Value:=(lmap ev xs.toList).toArray
theorem Zb2 (ev:Operand->Value) (xs:Array Operand):amap ev xs=xs.map ev:=by
 obtain⟨l⟩:=xs;unfold amap
 have:∀ l,lmap ev l=l.map ev:=by
  intro l
  induction l with
  |nil=>rfl
  |cons x r ih=>simp[lmap,ih]
 simp[this]
def pmap (ev:Operand->Value):List (Nat × Operand)->List (Nat × Value)
 |[]=>[]
 |x::r=>(x.1,ev x.2)::pmap ev r
def bmap (ev:Operand->Value) (xs:Array (Nat × Operand)):Array (Nat × Value):=(pmap ev xs.toList).toArray
theorem Ztq (ev:Operand->Value) (xs:Array (Nat × Operand)):bmap ev xs=xs.map λ(i,x)=>(i,ev x):=by
 obtain⟨l⟩:=xs;unfold bmap
 have:∀ l,pmap ev l=l.map λ(i,x)=>(i,ev x):=by
  intro l
  induction l with
  |nil=>rfl
  |cons x r ih=>simp[pmap,ih]
 simp[this]
theorem Ybh {op:BinOp}(h1:op≠.eql) (h2:op≠.neq) (t:TypeId) (X Y:Operand) (x y:Value):(do eqGuard op t X Y x y;binOp op t x y)=binOp op t x y:=by
 cases op <;> first|rfl|exact absurd rfl h1|exact absurd rfl h2
def Cv (P:Program) (s d:TypeId) (x:Value) (w:World) (K:Value->Prop):Prop:=RunV P (convert s d x) w K
def Cw (P:Program) (s d:TypeId) (x:Value) (w:World) (K:KT):Prop:=RunE P (convert s d x) w K
def Mf (P:Program) (fn:Fn) (f c:Array Value) (w:World) (K:Value->Prop):Prop:=RunV P (Instr.makeFunc fn f c) w K
def Sl (P:Program) (t:TypeId) (x:Value) (l h m:Option Value) (w:World) (K:Value->Prop):Prop:=RunV P (Instr.sliceAt t x l h m) w K
def Lk (P:Program) (t:TypeId) (x i:Value) (ok:Bool) (w:World) (K:Value->Prop):Prop:=RunV P (Instr.lookup t x i ok) w K
def Bd (P:Program) (t:TypeId) (ps:Array (Nat × Value)) (w:World) (K:Value->Prop):Prop:=RunV P (Instr.build t ps) w K
def Bs (P:Program) (t:TypeId) (n:Nat) (ps:Array (Nat × Value)) (w:World) (K:KT):Prop:=RunE P (Instr.buildSlice t n ps) w K
def Ms (P:Program) (t:TypeId) (l c:Value) (w:World) (K:KT):Prop:=RunE P (Instr.makeSlice t l c) w K
def Mm (P:Program) (t:TypeId) (r:Option Value) (w:World) (K:KT):Prop:=RunE P (Instr.makeMap t r) w K
def Mu (P:Program) (t:TypeId) (m k v:Value) (w:World) (K:World->Prop):Prop:=RunE P (Instr.mapUpdate t m k v) w λ_ w'=>K w'
def Me (P:Program) (t:TypeId) (m k:Value) (w:World) (K:KT):Prop:=RunE P (Instr.mapEntry t m k) w K
def Es (P:Program) (t:TypeId) (m s v:Value) (w:World) (K:World->Prop):Prop:=RunE P (Instr.entryStore t m s v) w λ_ w'=>K w'
def Rg (P:Program) (t:TypeId) (x:Value) (w:World) (K:KT):Prop:=RunE P (Instr.range t x) w K
def Nx (P:Program) (x:Value) (s:Bool) (t:TypeId) (w:World) (K:KT):Prop:=RunE P (Instr.next x s t) w K
def Ta (P:Program) (x:Value) (xt at_:TypeId) (ok:Bool) (w:World) (K:Value->Prop):Prop:=RunV P (Instr.typeAssert x xt at_ ok) w K
def Ap (P:Program) (ats:Array TypeId) (t:TypeId) (args:Array Value) (w:World) (K:KT):Prop:=RunE P (Builtin.append_ ats t args) w K
def Usd (P:Program) (ats:Array TypeId) (t:TypeId) (args:Array Value) (w:World) (K:KT):Prop:=RunE P (Builtin.unsafeSliceData_ ats t args) w K
def Ust (P:Program) (ats:Array TypeId) (t:TypeId) (args:Array Value) (w:World) (K:KT):Prop:=RunE P (Builtin.unsafeString_ ats t args) w K
def Cp (P:Program) (ats:Array TypeId) (t:TypeId) (args:Array Value) (w:World) (K:KT):Prop:=RunE P (Builtin.copy_ ats t args) w K
def Ln (P:Program) (ats:Array TypeId) (t:TypeId) (args:Array Value) (w:World) (K:Value->Prop):Prop:=RunV P (Builtin.len_ ats t args) w K
def Bc (P:Program) (ats:Array TypeId) (t:TypeId) (args:Array Value) (w:World) (K:Value->Prop):Prop:=RunV P (Builtin.cap_ ats t args) w K
def Bmin (P:Program) (ats:Array TypeId) (t:TypeId) (args:Array Value) (w:World) (K:Value->Prop):Prop:=RunV P (Builtin.min_ ats t args) w K
def Bmax (P:Program) (ats:Array TypeId) (t:TypeId) (args:Array Value) (w:World) (K:Value->Prop):Prop:=RunV P (Builtin.max_ ats t args) w K
def Bdel (P:Program) (ats:Array TypeId) (t:TypeId) (args:Array Value) (w:World) (K:KT):Prop:=RunE P (Builtin.delete_ ats t args) w K
def Bclr (P:Program) (ats:Array TypeId) (t:TypeId) (args:Array Value) (w:World) (K:KT):Prop:=RunE P (Builtin.clear_ ats t args) w K

def Cl (P:Program) (f:FuncId) (args:Array Value) (w:World) (K:KT):Prop:=
 (callFunc f args).run P w=.ok (.enter f args) w/\Calls P f args w λe w'=>∃ v,e=.returned v/\K v w'
def isExt (P:Program) (f:FuncId):Bool:=match P.funcs[f]? with
 |some fn=>fn.body.isNone
 |none=>false
def Cx (P:Program) (f:FuncId) (args:Array Value) (w:World) (K:KT):Prop:=∃ v w',(callFunc f args).run P w=.ok (.value v) w'/\K v w'
def Inv (P:Program) (m:Sem Next) (w:World) (K:KT):Prop:=
 ∃ f args,m.run P w=.ok (.enter f args) w/\Calls P f args w λe w'=>∃ v,e=.returned v/\K v w'

def sg:Value->Bool
 |.agg _|.tuple _=>false
 |_=>true
def Ld (x:Value) (w:World) (K:Value->Prop):Prop:=∃ a v,x=.pointer (some a)/\w.cell? a=some v/\K v
def LdA (n:Nat) (x:Value) (w:World) (K:Value->Prop):Prop:=∃ a cs,x=.pointer (some a)/\cs.size=n/\(∀ i v,cs[i]?=some v->w.cell? (a.add i)=some v)/\K (.agg cs)
def St (x v:Value) (w:World) (K:World->Prop):Prop:=∃ a u,x=.pointer (some a)/\w.cell? a=some u/\w.frozen? a=false/\sg v=true/\K (w.setCell a v)
def setCells (w:World) (a:Addr):List Value->Nat->World
 |[],_=>w
 |v::r,i=>setCells (w.setCell (a.add i) v) a r (i+1)
def StA (n:Nat) (x v:Value) (w:World) (K:World->Prop):Prop:=
 ∃ a cs,x=.pointer (some a)/\v=.agg cs/\cs.size=n/\(∀ i,i < n->(w.cell? (a.add i)).isSome=true/\w.frozen? (a.add i)=false)/\cs.toList.all sg=true/\K (setCells w a cs.toList 0)
def Fo (off:Nat) (x:Value) (K:Value->Prop):Prop:=∃ a,x=.pointer (some a)/\K (.pointer (some (a.add off)))
def Iaa (len size:Nat) (x i:Value) (K:Value->Prop):Prop:=∃ a k n,x=.pointer (some a)/\i=.int k n/\0<=n/\n < (len:Int)/\K (.pointer (some (a.add (n.toNat*size))))
def Ias (size:Nat) (x i:Value) (K:Value->Prop):Prop:=∃ (a:Addr) (l c:Nat) (k:IntKind) (n:Int),x=.slice (some a) l c/\i=.int k n/\0<=n/\n < (l:Int)/\K (.pointer (some (a.add (n.toNat*size))))
def Ixs (x i:Value) (K:Value->Prop):Prop:=∃ (s:ByteArray) (k:IntKind) (n:Int),x=.string s/\i=.int k n/\0<=n/\n < (s.size:Int)/\K (.int .u8 ((s.data.toList.getD n.toNat 0).toNat:Int))
def Ixa (len size:Nat) (agg:Bool) (x i:Value) (K:Value->Prop):Prop:=
 ∃ cs k n,x=.agg cs/\i=.int k n/\0<=n/\n < (len:Int)/\match agg with
  |true=>K (.agg (cs.extract (n.toNat*size) (n.toNat*size+size)))
  |false=>∃ v,cs[n.toNat*size]?=some v/\K v
def Fd (off:Nat) (x:Value) (K:Value->Prop):Prop:=∃ cs v,x=.agg cs/\cs[off]?=some v/\K v
def FdA (off n:Nat) (x:Value) (K:Value->Prop):Prop:=∃ cs,x=.agg cs/\K (.agg (cs.extract off (off+n)))
def bp:BinOp->Value->Value->Option Value
 |.add,.int k a,.int k' b=>if k=k' then some (.int k (k.wrap (a+b))) else none
 |.sub,.int k a,.int k' b=>if k=k' then some (.int k (k.wrap (a - b))) else none
 |.mul,.int k a,.int k' b=>if k=k' then some (.int k (k.wrap (a*b))) else none
 |.quo,.int k a,.int k' b=>if k=k'/\b≠0 then some (.int k (k.wrap (a.tdiv b))) else none
 |.rem,.int k a,.int k' b=>if k=k'/\b≠0 then some (.int k (a.tmod b)) else none
 |.and,.int k a,.int k' b=>if k=k' then some (.int k (k.wrap (BitVec.ofInt k.bits a &&& BitVec.ofInt k.bits b).toNat)) else none
 |.or,.int k a,.int k' b=>if k=k' then some (.int k (k.wrap (BitVec.ofInt k.bits a ||| BitVec.ofInt k.bits b).toNat)) else none
 |.xor,.int k a,.int k' b=>if k=k' then some (.int k (k.wrap (BitVec.ofInt k.bits a ^^^ BitVec.ofInt k.bits b).toNat)) else none
 |.andNot,.int k a,.int k' b=>if k=k' then some (.int k (k.wrap (BitVec.ofInt k.bits a &&& ~~~BitVec.ofInt k.bits b).toNat)) else none
 |.shl,.int k a,.int _ b=>if b < 0 then none else some (.int k (k.wrap (a*2^min b.toNat k.bits)))
 |.shr,.int k a,.int _ b=>if b < 0 then none else some (.int k (a.fdiv (2^min b.toNat k.bits)))
 |.eql,.int k a,.int k' b=>if k=k' then some (.bool (a==b)) else none
 |.neq,.int k a,.int k' b=>if k=k' then some (.bool (a != b)) else none
 |.lss,.int k a,.int k' b=>if k=k' then some (.bool (decide (a < b))) else none
 |.leq,.int k a,.int k' b=>if k=k' then some (.bool (decide (a<=b))) else none
 |.gtr,.int k a,.int k' b=>if k=k' then some (.bool (decide (a > b))) else none
 |.geq,.int k a,.int k' b=>if k=k' then some (.bool (decide (a >= b))) else none
 |.add,.string a,.string b=>if ((a.size+b.size:Nat):Int) > IntKind.i64.max then none else some (.string (a++b))
 |.eql,.string a,.string b=>some (.bool (a.toList==b.toList))
 |.neq,.string a,.string b=>some (.bool !(a.toList==b.toList))
 |.lss,.string a,.string b=>some (.bool (Op.bytesLess a.toList b.toList))
 |.leq,.string a,.string b=>some (.bool (Op.bytesLess a.toList b.toList||a.toList==b.toList))
 |.gtr,.string a,.string b=>some (.bool !(Op.bytesLess a.toList b.toList||a.toList==b.toList))
 |.geq,.string a,.string b=>some (.bool !(Op.bytesLess a.toList b.toList))
 |_,_,_=>none
def Bb (neg:Bool) (x y:Value) (K:Value->Prop):Prop:=∃ a b,x=.bool a/\y=.bool b/\K (.bool (if neg then !(a==b) else a==b))
def Bp (op:BinOp) (x y:Value) (K:Value->Prop):Prop:=∃ v,bp op x y=some v/\K v
def ptrEq:Value->Value->Option Bool
 |.pointer none,.pointer b=>some b.isNone
 |.pointer (some _),.pointer none=>some false
 |_,_=>none
def Bn (P:Program) (e:TypeId) (neg:Bool) (x y:Value) (K:Value->Prop):Prop:=(∃ b,ptrEq x y=some b/\K (.bool (if neg then !b else b)))\/∃ i a,P.info? e=some i/\x=.pointer (some a)/\y=.pointer (some a)/\K (.bool (!neg))
def up:UnOp->Value->Option Value
 |.neg,.int k n=>some (.int k (k.wrap (0 - n)))
 |.xor,.int k n=>some (.int k (k.wrap (BitVec.ofInt k.bits (if k.signed then -1 else k.max) ^^^ BitVec.ofInt k.bits n).toNat))
 |.not,.bool b=>some (.bool !b)
 |_,_=>none
def Up (op:UnOp) (x:Value) (K:Value->Prop):Prop:=∃ v,up op x=some v/\K v
def Ci (k:IntKind) (x:Value) (K:Value->Prop):Prop:=∃ k' n,x=.int k' n/\K (.int k (k.wrap n))
def Lns (x:Value) (K:Value->Prop):Prop:=∃ s:ByteArray,x=.string s/\K (.int .i64 (s.size:Int))
def Lnl (x:Value) (K:Value->Prop):Prop:=∃ (a:Option Addr) (l c:Nat),x=.slice a l c/\K (.int .i64 (l:Int))
def Ex (x:Value) (i:Nat) (K:Value->Prop):Prop:=∃ vs v,x=.tuple vs/\vs[i]?=some v/\K v
def bnd:Option Value->Nat->Nat->Prop
 |none,d,l=>l=d
 |some v,_,l=>∃ k,v=.int k (l:Int)
def Sst (x:Value) (lo hi:Option Value) (K:Value->Prop):Prop:=
 ∃ (s:ByteArray) (l h:Nat),x=.string s/\bnd lo 0 l/\bnd hi s.size h/\l<=h/\h<=s.size/\K (.string (s.extract l h))
def Ssl (size:Nat) (x:Value) (lo hi:Option Value) (K:Value->Prop):Prop:=
 ∃ (a:Option Addr) (n c l h:Nat),x=.slice a n c/\bnd lo 0 l/\bnd hi n h/\l<=h/\h<=c/\K (.slice (if c=l then a else a.map (·.add (l*size))) (h - l) (c - l))
def New (z:Value) (t:TypeId) (w:World) (K:KT):Prop:=K (.pointer (some ⟨w.heap.size,0,none⟩)) (w.alloc (.cells z.cells t))
def zeroP (P:Program) (t:TypeId):Value:=match P.info? t with
 |some i=>i.zero.getD undef
 |none=>undef
def hasZ (P:Program) (t:TypeId):Bool:=match P.info? t with
 |some i=>i.zero.isSome
 |none=>false
def fldOf:List Field->Nat->Option Field
 |[],_=>none
 |f::r,i=>match i with
  |0=>some f
  |i+1=>fldOf r i
def one:Array Value->Option Value
 |⟨[v]⟩=>some v
 |_=>none

def vcOp (P:Program) (st:Bool) (ev:Operand->Value) (o:Oper) (w:World) (K:KT):Prop:=
 match o.op with
 |.move x|.assign x=>K (ev x) w
 |.pick c a b=>(match ev c with
  |.bool true=>K (ev a) w
  |.bool false=>K (ev b) w
  |_=>False)
 |.nilCheck x=>Nc (ev x) (K (ev x) w)
 |.load t a=>(match P.underlying t with
  |some (.struct _)|some (.array _ _)=>(match P.info? t with
   |some i=>LdA i.size (ev a) w λv=>K v w
   |none=>False)
  |some _=>Ld (ev a) w λv=>K v w
  |none=>False)
 |.store t a x=>(match P.underlying t with
  |some (.struct _)|some (.array _ _)=>(match P.info? t with
   |some i=>StA i.size (ev a) (ev x) w λw'=>K undef w'
   |none=>False)
  |some _=>(match P.info? t with
   |some i=>(match Nat.beq i.size 1 with
    |true=>St (ev a) (ev x) w λw'=>K undef w'
    |false=>False)
   |none=>False)
  |none=>False)
 |.fieldAddr s x f=>(match P.underlying s with
  |some (.struct fs)=>(match fldOf fs.toList f with
   |some fd=>(match P.info? fd.type with
    |some i=>(match i.size with
     |0=>False
     |_+1=>Fo fd.offset (ev x) λv=>K v w)
    |none=>False)
   |none=>False)
  |_=>False)
 |.indexAddr t x i=>(match P.underlying t with
  |some (.array len e)=>(match P.info? e with
   |some inf=>Iaa len inf.size (ev x) (ev i) λv=>K v w
   |none=>False)
  |some (.slice e)=>(match P.info? e with
   |some inf=>Ias inf.size (ev x) (ev i) λv=>K v w
   |none=>False)
  |_=>False)
 |.index t x i=>(match P.underlying t with
  |some .string=>Ixs (ev x) (ev i) λv=>K v w
  |some (.array len e)=>(match P.info? e with
   |some inf=>(match P.underlying e with
    |some (.struct _)|some (.array _ _)=>Ixa len inf.size true (ev x) (ev i) λv=>K v w
    |some _=>Ixa len inf.size false (ev x) (ev i) λv=>K v w
    |none=>False)
   |none=>False)
  |_=>False)
 |.field t x f=>(match P.underlying t with
  |some (.struct fs)=>(match fldOf fs.toList f with
   |some fd=>(match P.underlying fd.type with
    |some (.struct _)|some (.array _ _)=>(match P.info? fd.type with
     |some i=>FdA fd.offset i.size (ev x) λv=>K v w
     |none=>False)
    |some _=>Fd fd.offset (ev x) λv=>K v w
    |none=>False)
   |none=>False)
  |_=>False)
 |.binOp op t x y _=>(match P.underlying t with
  |some (.int _)|some .string=>Bp op (ev x) (ev y) λv=>K v w
  |some .bool=>(match op with
   |.eql=>Bb false (ev x) (ev y) λv=>K v w
   |.neq=>Bb true (ev x) (ev y) λv=>K v w
   |_=>False)
  |some (.pointer e)=>(match op with
   |.eql=>Bn P e false (ev x) (ev y) λv=>K v w
   |.neq=>Bn P e true (ev x) (ev y) λv=>K v w
   |_=>False)
  |some _=>Be P op t x y (ev x) (ev y) w λv=>K v w
  |none=>False)
 |.unOp op _ x=>Up op (ev x) λv=>K v w
 |.convert s d x=>(match P.underlying s,P.underlying d with
  |some (.int _),some (.int k)=>Ci k (ev x) λv=>K v w
  |some _,some _=>(match st with
   |true=>Cv P s d (ev x) w λv=>K v w
   |false=>Cw P s d (ev x) w K)
  |_,_=>False)
 |.makeInterface t x=>(match P.underlying t with
  |some (.interface _)=>False
  |some _=>K (.iface t (ev x)) w
  |none=>False)
 |.makeFunc fn f c=>Mf P fn (amap ev f) (amap ev c) w λv=>K v w
 |.slice t x l h m=>(match P.underlying t,m with
  |some .string,none=>Sst (ev x) (l.map ev) (h.map ev) λv=>K v w
  |some (.slice e),none=>(match P.info? e with
   |some inf=>Ssl inf.size (ev x) (l.map ev) (h.map ev) λv=>K v w
   |none=>False)
  |_,_=>Sl P t (ev x) (l.map ev) (h.map ev) (m.map ev) w λv=>K v w)
 |.extract x i=>Ex (ev x) i λv=>K v w
 |.lookup t x i ok=>Lk P t (ev x) (ev i) ok w λv=>K v w
 |.typeAssert x xt t ok=>Ta P (ev x) xt t ok w λv=>K v w
 |.build t ps=>Bd P t (bmap ev ps) w λv=>K v w
 |.alloc t=>(match hasZ P t with
  |true=>New (zeroP P t) t w K
  |false=>False)
 |.box t x=>New (ev x) t w K
 |.buildSlice t n ps=>Bs P t n (bmap ev ps) w K
 |.makeSlice t l c=>Ms P t (ev l) (ev c) w K
 |.makeMap t r=>Mm P t (r.map ev) w K
 |.mapUpdate t m k x|.insert t m k x=>Mu P t (ev m) (ev k) (ev x) w λw'=>K undef w'
 |.mapEntry t m k=>Me P t (ev m) (ev k) w K
 |.entryStore t m s x=>Es P t (ev m) (ev s) (ev x) w λw'=>K undef w'
 |.range t x=>Rg P t (ev x) w K
 |.next x s=>Nx P (ev x) s o.type w K
 |.call c=>(match c.callee with
  |.builtin .len=>(match c.argTypes.toList,lmap ev c.args.toList with
   |t::_,x::_=>(match P.underlying t with
    |some .string=>Lns x λv=>K v w
    |some (.slice _)=>Lnl x λv=>K v w
    |_=>Ln P c.argTypes o.type (amap ev c.args) w λv=>K v w)
   |_,_=>False)
  |.builtin .cap=>Bc P c.argTypes o.type (amap ev c.args) w λv=>K v w
  |.builtin .min=>Bmin P c.argTypes o.type (amap ev c.args) w λv=>K v w
  |.builtin .max=>Bmax P c.argTypes o.type (amap ev c.args) w λv=>K v w
  |.builtin .append=>Ap P c.argTypes o.type (amap ev c.args) w K
  |.builtin .copy=>Cp P c.argTypes o.type (amap ev c.args) w K
  |.builtin .unsafeSliceData=>Usd P c.argTypes o.type (amap ev c.args) w K
  |.builtin .unsafeString=>Ust P c.argTypes o.type (amap ev c.args) w K
  |.builtin .delete=>Bdel P c.argTypes o.type (amap ev c.args) w K
  |.builtin .clear=>Bclr P c.argTypes o.type (amap ev c.args) w K
  |.builtin _=>False
  |.value (.func f)=>(match isExt P f with
   |true=>Cx P f (amap ev c.args) w K
   |false=>Cl P f (amap ev c.args) w K)
  |.value f=>Inv P (do let d <-Deferred.ofValue (ev f) (amap ev c.args);invoke d.target d.args) w K
  |.invoke r name=>Inv P (invoke (.fn (.method name) #[]) (#[ev r]++amap ev c.args)) w K)
 |_=>False

def stillOp:Op->Bool
 |.move _|.assign _|.pick ..|.nilCheck _|.load ..|.fieldAddr ..|.indexAddr ..|.index ..|.field ..|.binOp ..|.unOp ..|.convert ..|.makeInterface ..
 |.makeFunc ..|.slice ..|.extract ..|.lookup ..|.typeAssert ..|.build ..=>true
 |.call c=>(match c.callee with
  |.builtin .len|.builtin .cap|.builtin .min|.builtin .max=>true
  |_=>false)
 |_=>false
def allStill:List Oper->Bool
 |[]=>true
 |o::r=>match stillOp o.op with
  |true=>allStill r
  |false=>false


section
variable {P:Program}{w w':World}
theorem run_v {m:Sem Value}{v:Value}(h:m.run P w=.ok v w'):(do pure (Next.value (<-m)):Sem Next).run P w=.ok (.value v) w':=by
 simp[Sem.run_bind,h]
theorem run_u {m:Sem Unit}{v:Unit}(h:m.run P w=.ok v w'):(do m;pure Next.skip:Sem Next).run P w=.ok .skip w':=by
 simp[Sem.run_bind,h]
def EffOp (P:Program) (o:Oper) (a:Act) (w:World) (K:KT):Prop:=
 match (execOp a.eval o).run P w with
 |.ok (.value v) w'=>K v w'
 |.ok .skip w'=>K undef w'
 |.ok (.enter f args) w'=>Calls P f args w' λe w''=>∃ v,e=.returned v/\K v w''
 |_=>False
theorem EffOp.wp {o:Oper}{a:Act}{K:KT}{next:Act->World->Prop}{Q:Exit->Act->World->Prop}(h:EffOp P o a w K)
  (hk:∀ v w',K v w'->next (a.put o.dst v) w'):o.wp P a w next Q:=by
 unfold EffOp at h;unfold Oper.wp;split at h
 ·rename_i he;rw[he];exact hk _ _ h
 ·rename_i he;rw[he];exact hk _ _ h
 ·rename_i he;rw[he,Oper.upon_enter];refine h.mono ?_;rintro e w' ⟨v,rfl,h⟩;exact hk _ _ h
 ·exact h.elim
theorem EffOp.mono {o:Oper}{a:Act}{K K':KT}(h:EffOp P o a w K) (hk:∀ v w',K v w'->K' v w'):EffOp P o a w K':=by
 unfold EffOp at *;split at h
 ·exact hk _ _ h
 ·exact hk _ _ h
 ·refine h.mono ?_;rintro e w' ⟨v,rfl,h⟩;exact⟨v,rfl,hk _ _ h⟩
 ·exact h
theorem EffOp.exists {o:Oper}{a:Act}{K:KT}(h:EffOp P o a w K):∃ v w',K v w':=by
 unfold EffOp at h;split at h
 ·exact⟨_,_,h⟩
 ·exact⟨_,_,h⟩
 ·obtain⟨e,w',fr,⟨v,_,hk⟩,_⟩:=h [];exact⟨_,_,hk⟩
 ·exact h.elim
theorem EffOp.of_eval {o:Oper}{a a':Act}{K:KT}(h:EffOp P o a w K) (he:execOp a'.eval o=execOp a.eval o):EffOp P o a' w K:=by
 unfold EffOp at *;rw[he];exact h
theorem Zc6 {o:Oper}{a:Act}{K:KT}{m:Sem Value}(he:execOp a.eval o=(do pure (Next.value (<-m))))
  (h:RunE P m w K):EffOp P o a w K:=by
 obtain⟨v,w',hr,hk⟩:=h;unfold EffOp;rw[he,run_v hr];exact hk
theorem Ziz {o:Oper}{a:Act}{K:KT}{m:Sem Unit}(he:execOp a.eval o=(do m;pure Next.skip))
  (h:RunE P m w λ_ w'=>K undef w'):EffOp P o a w K:=by
 obtain⟨v,w',hr,hk⟩:=h;unfold EffOp;rw[he,run_u hr];exact hk
theorem RunV.e {m:Sem Value}{K:KT}(h:RunV P m w λv=>K v w):RunE P m w K:=let ⟨v,h1,h2⟩:=h;⟨v,w,h1,h2⟩
theorem RunE.mono {α:Type}{m:Sem α}{K K':α->World->Prop}(h:RunE P m w K) (hk:∀ v w',K v w'->K' v w'):RunE P m w K':=let ⟨v,w',h1,h2⟩:=h;⟨v,w',h1,hk _ _ h2⟩
theorem Zde {o:Oper}{a:Act}{K:KT}{f:FuncId}{args:Array Value}
  (he:(execOp a.eval o).run P w=.ok (.enter f args) w) (h:Calls P f args w λe w'=>∃ v,e=.returned v/\K v w'):EffOp P o a w K:=by
 unfold EffOp;rw[he];exact h

theorem Zaw {t:TypeId}{i:TypeInfo}(h:P.info? t=some i):(sizeOf t).run P w=.ok i.size w:=by
 simp[sizeOf,typeInfo,h]
theorem Zdx {t:TypeId}{d:TypeDesc}(h:P.underlying t=some d) (h1:∀ fs,d≠.struct fs) (h2:∀ n e,d≠.array n e):(isAgg t).run P w=.ok false w:=by
 unfold isAgg;rw[Sem.run_bind,run_underlying h]
 cases d <;> first|rfl|exact absurd rfl (h1 _)|exact absurd rfl (h2 _ _)
theorem Zb1 {t:TypeId}{d:TypeDesc}(h:P.underlying t=some d) (h1:(∃ fs,d=.struct fs)\/∃ n e,d=.array n e):(isAgg t).run P w=.ok true w:=by
 unfold isAgg;rw[Sem.run_bind,run_underlying h]
 rcases h1 with⟨fs,rfl⟩|⟨n,e,rfl⟩ <;> rfl
theorem Zkq {a:Addr}{v:Value}(h:w.cell? a=some v):(load a).run P w=.ok v w:=by
 simp[load,Sem.run,h]
theorem Zch {a:Addr}{cs:Array Value}:∀ (n i:Nat) (acc:Array Value),i+n=cs.size->acc=cs.extract 0 i->(∀ j v,cs[j]?=some v->w.cell? (a.add j)=some v)->
  (loadCellsFrom a i n acc).run P w=.ok cs w
 |0,i,acc,hi,ha,_=>by
  have:i=cs.size:=by omega
  subst this;subst ha;simp[loadCellsFrom,Sem.run]
 |n+1,i,acc,hi,ha,hc=>by
  have hlt:i < cs.size:=by omega
  have hv:=hc i cs[i] (by simp[hlt]);simp only[loadCellsFrom];rw[Sem.run_bind,Zkq hv];refine Zch n (i+1) _ (by omega) ?_ hc;subst ha;simp
theorem Zbq {a:Addr}{cs:Array Value}(hc:∀ j v,cs[j]?=some v->w.cell? (a.add j)=some v):(loadCells a cs.size).run P w=.ok cs w:=
 Zch cs.size 0 #[] (by omega) (by simp) hc
theorem Zip {a:Addr}{v u:Value}(h:w.cell? a=some u) (hf:w.frozen? a=false) (hs:sg v=true):(store a v).run P w=.ok () (w.setCell a v):=by
 unfold store
 cases v <;> first|(simp[sg] at hs;done)|simp[Sem.run,h,hf]
theorem Zly {w:World}{a:Addr}{v:Value}(b:Addr):(w.cell? b).isSome=true->((w.setCell a v).cell? b).isSome=true:=by
 intro h
 cases hb:w.cell? b with
 |none=>rw[hb] at h;cases h
 |some x=>
  obtain⟨y,hy⟩:=RowKit.cell?_setCell_some (w:=w) (p:=a) (x:=v) (q:=b) (v:=x) hb;rw[hy];rfl
theorem Zbk {a:Addr}:∀ (vs:List Value) (i:Nat) (w:World),(∀ j,j < vs.length->(w.cell? (a.add (i+j))).isSome=true/\w.frozen? (a.add (i+j))=false)->vs.all sg=true->
  (storeCells a vs i).run P w=.ok () (setCells w a vs i)
 |[],i,w,_,_=>rfl
 |v::r,i,w,h,hs=>by
  simp only[List.all_cons,Bool.and_eq_true] at hs;obtain⟨h1,h2⟩:=h 0 (by simp);rw[Nat.add_zero] at h1 h2
  cases hc:w.cell? (a.add i) with
  |none=>rw[hc] at h1;cases h1
  |some u=>
   simp only[storeCells,setCells];rw[Sem.run_bind,Zip hc h2 hs.1];refine Zbk r (i+1) _ (λj hj=>?_) hs.2;obtain⟨h3,h4⟩:=h (j+1) (by simp;omega);rw[show i+1+j=i+(j+1) by omega];exact⟨Zly _ h3,by rw[World.frozen?_setCell];exact h4⟩
theorem Zhw {t:TypeId}{v:Value}:(newVar t v).run P w=.ok ⟨w.heap.size,0,none⟩ (w.alloc (.cells v.cells t)):=rfl
theorem Zpi (l:List Field) (i:Nat):fldOf l i=l[i]?:=by
 induction l generalizing i with
 |nil=>simp[fldOf]
 |cons o r ih=>cases i <;> simp[fldOf,ih]
theorem Zyr {op:BinOp}{t:TypeId}{X Y:Operand}{x y v:Value}(h:bp op x y=some v) :
  (do eqGuard op t X Y x y;binOp op t x y).run P w=.ok v w:=by
 have g:(eqGuard op t X Y x y).run P w=.ok () w:=by
  unfold bp at h
  split at h <;> first|rfl|cases h
 rw[Sem.run_bind,g];show (binOp op t x y).run P w=.ok v w;unfold bp at h;split at h
 case h_1=>split at h <;> cases h;rename_i hc;subst hc;simp[binOp,Op.intArith]
 case h_2=>split at h <;> cases h;rename_i hc;subst hc;simp[binOp,Op.intArith]
 case h_3=>split at h <;> cases h;rename_i hc;subst hc;simp[binOp,Op.intArith]
 case h_4=>split at h <;> cases h;rename_i hc;obtain⟨rfl,hb⟩:=hc;simp[binOp,Op.intDiv,hb]
 case h_5=>split at h <;> cases h;rename_i hc;obtain⟨rfl,hb⟩:=hc;simp[binOp,Op.intDiv,hb]
 case h_6=>split at h <;> cases h;rename_i hc;subst hc;simp[binOp,Op.intBits]
 case h_7=>split at h <;> cases h;rename_i hc;subst hc;simp[binOp,Op.intBits]
 case h_8=>split at h <;> cases h;rename_i hc;subst hc;simp[binOp,Op.intBits]
 case h_9=>split at h <;> cases h;rename_i hc;subst hc;simp[binOp,Op.intBits]
 case h_10 k a yk b=>
  by_cases hb:b < 0
  ·simp[hb] at h
  ·simp only[hb,if_false,Option.some.injEq] at h;subst h;simp[binOp,Op.shift,hb]
 case h_11 k a yk b=>
  by_cases hb:b < 0
  ·simp[hb] at h
  ·simp only[hb,if_false,Option.some.injEq] at h;subst h;simp[binOp,Op.shift,hb]
 case h_12=>split at h <;> cases h;rename_i hc;subst hc;simp[binOp,Op.intCmp]
 case h_13=>split at h <;> cases h;rename_i hc;subst hc;simp[binOp,Op.intCmp]
 case h_14=>split at h <;> cases h;rename_i hc;subst hc;simp[binOp,Op.intCmp]
 case h_15=>split at h <;> cases h;rename_i hc;subst hc;simp[binOp,Op.intCmp]
 case h_16=>split at h <;> cases h;rename_i hc;subst hc;simp[binOp,Op.intCmp]
 case h_17=>split at h <;> cases h;rename_i hc;subst hc;simp[binOp,Op.intCmp]
 case h_18 a b=>
  split at h <;> cases h
  rename_i hc;simp only[binOp,Op.stringOp];rw[if_neg hc];rfl
 case h_19=>cases h;rfl
 case h_20=>cases h;rfl
 case h_21=>cases h;rfl
 case h_22=>cases h;rfl
 case h_23=>cases h;rfl
 case h_24=>cases h;rfl
 case h_25=>cases h
theorem Zzd {op:BinOp}{t:TypeId}{X Y:Operand}{a b:Bool}(hu:P.underlying t=some .bool) (ho:op=.eql\/op=.neq) :
  (do eqGuard op t X Y (.bool a) (.bool b);binOp op t (.bool a) (.bool b)).run P w=.ok (.bool (if op=.neq then !(a==b) else a==b)) w:=by
 have e:(Op.equal t (.bool a) (.bool b)).run P w=.ok (a==b) w:=by
  show (Op.equalIn (9999+1) t (.bool a) (.bool b)).run P w=_;unfold Op.equalIn;rw[Sem.run_bind,run_underlying hu];rfl
 rcases ho with rfl|rfl
 ·show (do pure (.bool (<-Op.equal t (.bool a) (.bool b))):Sem Value).run P w=_;rw[Sem.run_bind,e];rfl
 ·show (do pure (.bool (!(<-Op.equal t (.bool a) (.bool b)))):Sem Value).run P w=_;rw[Sem.run_bind,e];rfl
theorem Zyi {op:BinOp}{t:TypeId}{X Y:Operand}{x y:Value}{e:TypeId}{b:Bool}(hu:P.underlying t=some (.pointer e)) (h:ptrEq x y=some b) (ho:op=.eql\/op=.neq) :
  (do eqGuard op t X Y x y;binOp op t x y).run P w=.ok (.bool (if op=.neq then !b else b)) w:=by
 have he:(Op.equal t x y).run P w=.ok b w:=by
  show (Op.equalIn (9999+1) t x y).run P w=_;unfold Op.equalIn;rw[Sem.run_bind,run_underlying hu];unfold ptrEq at h
  split at h <;> cases h <;> rfl
 unfold ptrEq at h;rcases ho with rfl|rfl
 ·split at h <;> cases h
  ·show (do pure (.bool (<-Op.equal t _ _)):Sem Value).run P w=_;rw[Sem.run_bind,he];rfl
  ·show (do pure (.bool (<-Op.equal t _ _)):Sem Value).run P w=_;rw[Sem.run_bind,he];rfl
 ·split at h <;> cases h
  ·show (do pure (.bool (!(<-Op.equal t _ _))):Sem Value).run P w=_;rw[Sem.run_bind,he];rfl
  ·show (do pure (.bool (!(<-Op.equal t _ _))):Sem Value).run P w=_;rw[Sem.run_bind,he];rfl
theorem Zrm {op:BinOp}{t:TypeId}{X Y:Operand}{e:TypeId}{i:TypeInfo}{a:Addr}(hu:P.underlying t=some (.pointer e)) (hi:P.info? e=some i) (ho:op=.eql\/op=.neq) :
  (do eqGuard op t X Y (.pointer (some a)) (.pointer (some a));binOp op t (.pointer (some a)) (.pointer (some a))).run P w=.ok (.bool (if op=.neq then !true else true)) w:=by
 have he:(Op.equal t (.pointer (some a)) (.pointer (some a))).run P w=.ok true w:=by
  show (Op.equalIn (9999+1) t _ _).run P w=_;unfold Op.equalIn;rw[Sem.run_bind,run_underlying hu];simp only[Result.andThen_ok,Sem.run_bind,Zaw hi];split
  ·simp[sameAddr]
  ·simp
 rcases ho with rfl|rfl
 ·show (do pure (.bool (<-Op.equal t _ _)):Sem Value).run P w=_;rw[Sem.run_bind,he];rfl
 ·show (do pure (.bool (!(<-Op.equal t _ _))):Sem Value).run P w=_;rw[Sem.run_bind,he];rfl
theorem Zyd {m:Sem Value}{v:Value}{w':World}{s:Sem Next}(he:s=(do pure (Next.value (<-m)))) (h:m.run P w=.ok v w'):s.run P w=.ok (.value v) w':=by
 rw[he];exact run_v h
theorem Zuh {v:Value}{y l:Nat}{code:BoundsCode}(h:bnd (some v) 0 l) (hy:l<=y):(Instr.sliceBound v y code).run P w=.ok l w:=by
 obtain⟨k,rfl⟩:=h;simp[Instr.sliceBound,asIntOf,hy]
theorem Zdu {b:Bool}{n c l h:Nat}{lo hi:Option Value}(hl:bnd lo 0 l) (hh:bnd hi n h) (h1:l<=h) (h2:h<=c) :
  (Instr.sliceBounds b n c lo hi none).run P w=.ok (l,h,c) w:=by
 unfold Instr.sliceBounds
 cases hi with
 |none=>
  simp only[bnd] at hh;subst hh
  cases lo with
  |none=>simp only[bnd] at hl;subst hl;rfl
  |some v=>simp[Zuh hl h1]
 |some u=>
  have a1:=λcode=>Zuh (P:=P) (w:=w) (code:=code) (v:=u) (l:=h) (y:=c) hh h2
  cases lo with
  |none=>simp only[bnd] at hl;subst hl;simp[a1]
  |some v=>simp[a1,Zuh hl h1]
theorem Zjn {st:Bool}{ev:Operand->Value}{o:Oper}{K:KT}(h:vcOp P st ev o w K) (hs:stillOp o.op=true) :
  ∃ v w',(execOp ev o).run P w=.ok (.value v) w'/\K v w'/\(st=true->w'=w):=by
 obtain⟨dst,op,type,pos,after,guard⟩:=o
 have fromV:∀ {m:Sem Value},execOp ev ⟨dst,op,type,pos,after,guard⟩=(do pure (Next.value (<-m)))->RunV P m w (λv=>K v w)->
   ∃ v w',(execOp ev ⟨dst,op,type,pos,after,guard⟩).run P w=.ok (.value v) w'/\K v w'/\(st=true->w'=w):=by
  rintro m he ⟨v,h1,h2⟩;exact⟨v,w,Zyd he h1,h2,λ_=>rfl⟩
 simp only at hs
 cases op <;> simp only[vcOp] at h <;> first|(simp only[stillOp] at hs;cases hs;done)|skip
 case move x=>exact⟨_,w,rfl,h,λ_=>rfl⟩
 case assign x=>exact⟨_,w,rfl,h,λ_=>rfl⟩
 case pick c x y=>
  cases hc:ev c <;> simp only[hc] at h
  case bool b=>
   cases b <;> simp only at h <;> exact⟨_,w,by simp only[execOp,asBool,hc,Sem.run_bind];rfl,h,λ_=>rfl⟩
 case nilCheck x=>
  obtain⟨⟨p,hp⟩,h⟩:=h;refine⟨_,w,?_,h,λ_=>rfl⟩;simp only[execOp,hp];rfl
 case load t x=>
  refine fromV (m:=Instr.loadAt t (ev x)) rfl ?_;split at h
  ·rename_i fs hu;split at h
   ·rename_i i hi;obtain⟨a,cs,hx,hn,hc,hk⟩:=h;refine⟨_,?_,hk⟩;simp only[Instr.loadAt,hx,Instr.sureAddr,loadVar];simp[Zb1 hu (.inl ⟨fs,rfl⟩),Zaw hi,<-hn,Zbq hc]
   ·exact h.elim
  ·rename_i n e hu;split at h
   ·rename_i i hi;obtain⟨a,cs,hx,hn,hc,hk⟩:=h;refine⟨_,?_,hk⟩;simp only[Instr.loadAt,hx,Instr.sureAddr,loadVar];simp[Zb1 hu (.inr ⟨n,e,rfl⟩),Zaw hi,<-hn,Zbq hc]
   ·exact h.elim
  ·rename_i d h1 h2 hu;obtain⟨a,v,hx,hc,hk⟩:=h;refine⟨v,?_,hk⟩;simp only[Instr.loadAt,hx,Instr.sureAddr,loadVar];simp[Zdx hu h1 h2,hc]
  ·exact h.elim
 case fieldAddr s x f=>
  refine fromV (m:=Instr.fieldAt s (ev x) f) rfl ?_;split at h
  ·rename_i fs hu;split at h
   ·rename_i fd hf;rw[Zpi] at hf;split at h
    ·rename_i i hi;split at h
     ·exact h.elim
     ·rename_i k hk;obtain⟨a,hx,hk'⟩:=h;refine⟨_,?_,hk'⟩
      have hf':fs[f]?=some fd:=by rw[<-hf];simp
      simp[Instr.fieldAt,run_underlying hu,hf',hx,Instr.sureAddr,fieldPlace,Zaw hi,hk]
    ·exact h.elim
   ·exact h.elim
  ·exact h.elim
 case indexAddr t x i=>
  refine fromV (m:=Instr.indexAt t (ev x) (ev i)) rfl ?_;split at h
  ·rename_i len e hu;split at h
   ·rename_i inf hi;obtain⟨a,k,n,hx,hidx,h0,h1,hk⟩:=h;refine⟨_,?_,hk⟩;simp[Instr.indexAt,hx,hidx,asIntOf,run_underlying hu,Instr.sureAddr,Zaw hi,h0,h1]
   ·exact h.elim
  ·rename_i e hu;split at h
   ·rename_i inf hi;obtain⟨a,l,c,k,n,hx,hidx,h0,h1,hk⟩:=h;refine⟨_,?_,hk⟩;simp[Instr.indexAt,hx,hidx,asIntOf,run_underlying hu,Instr.sureAddr,Zaw hi,h0,h1]
   ·exact h.elim
  ·exact h.elim
 case index t x i=>
  refine fromV (m:=Instr.index t (ev x) (ev i)) rfl ?_;split at h
  ·rename_i hu;obtain⟨s,k,n,hx,hidx,h0,h1,hk⟩:=h;refine⟨_,?_,hk⟩
   have hlt:n.toNat < s.size:=by omega
   have e:s[n.toNat]?=some (s.data.toList.getD n.toNat 0):=by
    rw[getElem?_pos s n.toNat hlt]
    have:n.toNat < s.data.toList.length:=by simpa using hlt
    simp only[List.getD,List.getElem?_eq_getElem this,Option.getD_some];rfl
   simp[Instr.index,hx,hidx,asIntOf,run_underlying hu,h0,e]
  ·rename_i len e hu;split at h
   ·rename_i inf hi;split at h
    ·rename_i fs hue;obtain⟨cs,k,n,hx,hidx,h0,h1,hk⟩:=h;refine⟨_,?_,hk⟩;simp[Instr.index,hx,hidx,asIntOf,run_underlying hu,h0,h1,Zaw hi,part,Zb1 hue (.inl ⟨fs,rfl⟩)]
    ·rename_i n2 e2 hue;obtain⟨cs,k,n,hx,hidx,h0,h1,hk⟩:=h;refine⟨_,?_,hk⟩;simp[Instr.index,hx,hidx,asIntOf,run_underlying hu,h0,h1,Zaw hi,part,Zb1 hue (.inr ⟨n2,e2,rfl⟩)]
    ·rename_i d g1 g2 hue;obtain⟨cs,k,n,hx,hidx,h0,h1,v,hv,hk⟩:=h;refine⟨_,?_,hk⟩;simp[Instr.index,hx,hidx,asIntOf,run_underlying hu,h0,h1,Zaw hi,part,Zdx hue g1 g2,hv]
    ·exact h.elim
   ·exact h.elim
  ·exact h.elim
 case field t x f=>
  refine fromV (m:=Instr.field t (ev x) f) rfl ?_;split at h
  ·rename_i fs hu;split at h
   ·rename_i fd hf;rw[Zpi] at hf
    have hf':fs[f]?=some fd:=by rw[<-hf];simp
    split at h
    ·rename_i gs hue;split at h
     ·rename_i i hi;obtain⟨cs,hx,hk⟩:=h;refine⟨_,?_,hk⟩;simp[Instr.field,hx,asAgg,run_underlying hu,hf',part,Zb1 hue (.inl ⟨gs,rfl⟩),Zaw hi]
     ·exact h.elim
    ·rename_i n2 e2 hue;split at h
     ·rename_i i hi;obtain⟨cs,hx,hk⟩:=h;refine⟨_,?_,hk⟩;simp[Instr.field,hx,asAgg,run_underlying hu,hf',part,Zb1 hue (.inr ⟨n2,e2,rfl⟩),Zaw hi]
     ·exact h.elim
    ·rename_i d g1 g2 hue;obtain⟨cs,v,hx,hv,hk⟩:=h;refine⟨_,?_,hk⟩;simp[Instr.field,hx,asAgg,run_underlying hu,hf',part,Zdx hue g1 g2,hv]
    ·exact h.elim
   ·exact h.elim
  ·exact h.elim
 case binOp op t x y yt=>
  refine fromV (m:=do eqGuard op t x y (ev x) (ev y);binOp op t (ev x) (ev y)) rfl ?_;split at h
  ·obtain⟨v,hv,hk⟩:=h;exact⟨v,Zyr hv,hk⟩
  ·obtain⟨v,hv,hk⟩:=h;exact⟨v,Zyr hv,hk⟩
  ·rename_i hu;split at h
   ·obtain⟨a,b,hx,hy,hk⟩:=h;exact⟨_,by rw[hx,hy];exact Zzd hu (.inl rfl),hk⟩
   ·obtain⟨a,b,hx,hy,hk⟩:=h;exact⟨_,by rw[hx,hy];exact Zzd hu (.inr rfl),hk⟩
   ·exact h.elim
  ·rename_i e hu;split at h
   ·rcases h with⟨b,hb,hk⟩|⟨i,q,hi,hx,hy,hk⟩
    ·exact⟨_,Zyi hu hb (.inl rfl),hk⟩
    ·rw[hx,hy];exact⟨_,Zrm hu hi (.inl rfl),hk⟩
   ·rcases h with⟨b,hb,hk⟩|⟨i,q,hi,hx,hy,hk⟩
    ·exact⟨_,Zyi hu hb (.inr rfl),hk⟩
    ·rw[hx,hy];exact⟨_,Zrm hu hi (.inr rfl),hk⟩
   ·exact h.elim
  ·exact h
  ·exact h.elim
 case unOp op t x=>
  refine fromV (m:=Op.unary op (ev x)) rfl ?_;obtain⟨v,hv,hk⟩:=h;refine⟨v,?_,hk⟩;unfold up at hv
  split at hv <;> cases hv <;> rename_i hx <;> rw[hx] <;> rfl
 case convert s d x=>
  split at h
  ·rename_i k0 k h1 h2;obtain⟨k',n,hx,hk⟩:=h;refine fromV (m:=convert s d (ev x)) rfl ⟨_,?_,hk⟩;simp[convert,run_underlying h1,run_underlying h2,hx,Conv.intToInt]
  ·cases st <;> simp only at h
   ·obtain⟨v,w',h1,h2⟩:=h;exact⟨v,w',Zyd (m:=convert s d (ev x)) rfl h1,h2,λh=>by cases h⟩
   ·exact fromV (m:=convert s d (ev x)) rfl h
  ·exact h.elim
 case makeInterface t x=>
  refine fromV (m:=Instr.makeInterface t (ev x)) rfl ?_;split at h
  ·exact h.elim
  ·rename_i d hd hu;refine⟨_,?_,h⟩
   cases d <;> first|exact absurd rfl (hd _)|simp[Instr.makeInterface,run_underlying hu]
  ·exact h.elim
 case makeFunc fn f c=>exact fromV (m:=Instr.makeFunc fn (f.map ev) (c.map ev)) rfl (by rw[Zb2,Zb2] at h;exact h)
 case slice t x l hi m=>
  refine fromV (m:=Instr.sliceAt t (ev x) (l.map ev) (hi.map ev) (m.map ev)) rfl ?_;split at h
  ·rename_i hu;obtain⟨s,lo,hh,hx,hl,hhb,h1,h2,hk⟩:=h;refine⟨_,?_,hk⟩;have:=Zdu (P:=P) (w:=w) (b:=false) hl hhb h1 h2;simp[Instr.sliceAt,Instr.slice,run_underlying hu,hx,this]
  ·rename_i e hu;split at h
   ·rename_i inf hi;obtain⟨a,n,c,lo,hh,hx,hl,hhb,h1,h2,hk⟩:=h;refine⟨_,?_,hk⟩;have:=Zdu (P:=P) (w:=w) (b:=true) hl hhb h1 h2;simp[Instr.sliceAt,Instr.slice,run_underlying hu,hx,this,Zaw hi]
   ·exact h.elim
  ·exact h
 case extract x i=>
  refine fromV (m:=Instr.extract (ev x) i) rfl ?_;obtain⟨vs,v,hx,hv,hk⟩:=h;exact⟨v,by simp[Instr.extract,hx,hv],hk⟩
 case lookup t x i ok=>exact fromV (m:=Instr.lookup t (ev x) (ev i) ok) rfl h
 case typeAssert x xt t ok=>exact fromV (m:=Instr.typeAssert (ev x) xt t ok) rfl h
 case build t ps=>exact fromV (m:=Instr.build t (ps.map λ(i,x)=>(i,ev x))) rfl (by rw[Ztq] at h;exact h)
 case call c=>
  obtain⟨callee,args,ats⟩:=c
  cases callee with
  |value f=>simp only[stillOp] at hs;cases hs
  |invoke r name=>simp only[stillOp] at hs;cases hs
  |builtin b=>
   cases b <;> simp only at h <;> first|(simp only[stillOp] at hs;cases hs;done)|skip
   case len=>
    refine fromV (m:=Builtin.len_ ats type (args.map ev)) rfl ?_;split at h
    ·rename_i t ts x xs h1 h2
     have ha:ats[0]?=some t:=by
      have:ats.toList[0]?=some t:=by rw[h1];rfl
      simpa using this
     have hx:(args.map ev)[0]?=some x:=by
      rw[<-Zb2];unfold amap;rw[h2];rfl
     split at h
     ·rename_i hu;obtain⟨s,hs,hk⟩:=h;refine⟨_,?_,hk⟩;simp only[Builtin.len_,ha,hx,Sem.run_bind,run_underlying hu,Result.andThen,hs];rfl
     ·rename_i e hu;obtain⟨a,l,c,hs,hk⟩:=h;refine⟨_,?_,hk⟩;simp only[Builtin.len_,ha,hx,Sem.run_bind,run_underlying hu,Result.andThen,hs];rfl
     ·rw[Zb2] at h;exact h
    ·exact h.elim
   case cap=>exact fromV (m:=Builtin.cap_ ats type (args.map ev)) rfl (by rw[Zb2] at h;exact h)
   case min=>exact fromV (m:=Builtin.min_ ats type (args.map ev)) rfl (by rw[Zb2] at h;exact h)
   case max=>exact fromV (m:=Builtin.max_ ats type (args.map ev)) rfl (by rw[Zb2] at h;exact h)
set_option maxHeartbeats 4000000 in
theorem Zgh {st:Bool}{ev:Operand->Value}{o:Oper}{a:Act}{K:KT}
  (h:vcOp P st ev o w K) (he:a.eval=ev):EffOp P o a w K:=by
 subst he
 by_cases hs:stillOp o.op=true
 ·obtain⟨v,w',h1,h2,_⟩:=Zjn h hs;unfold EffOp;rw[h1];exact h2
 obtain⟨dst,op,type,pos,after,guard⟩:=o
 cases op <;> simp only[vcOp] at h <;> first|(exact absurd rfl hs)|skip
 case store t x v=>
  split at h
  ·rename_i fs hu;split at h
   ·rename_i i hi;obtain⟨p,cs,hx,hv,hn,hc,hg,hk⟩:=h;refine Ziz (m:=Instr.storeAt t (a.eval x) (a.eval v)) rfl ⟨(),_,?_,hk⟩;simp only[Instr.storeAt,hx,hv,Instr.sureAddr,storeVar];simp[Zaw hi,Value.cells,hn,Zbk cs.toList 0 w (by simpa [hn] using hc) hg]
   ·exact h.elim
  ·rename_i n e hu;split at h
   ·rename_i i hi;obtain⟨p,cs,hx,hv,hn,hc,hg,hk⟩:=h;refine Ziz (m:=Instr.storeAt t (a.eval x) (a.eval v)) rfl ⟨(),_,?_,hk⟩;simp only[Instr.storeAt,hx,hv,Instr.sureAddr,storeVar];simp[Zaw hi,Value.cells,hn,Zbk cs.toList 0 w (by simpa [hn] using hc) hg]
   ·exact h.elim
  ·rename_i d h1 h2 hu;split at h
   ·rename_i i hi;split at h
    ·rename_i hb;have h1:=Nat.eq_of_beq_eq_true hb;obtain⟨p,u,hx,hc,hf,hg,hk⟩:=h;refine Ziz (m:=Instr.storeAt t (a.eval x) (a.eval v)) rfl ⟨(),_,?_,hk⟩
     have hcells:(a.eval v).cells=#[a.eval v]:=by
      cases hv:a.eval v <;> first|rfl|(rw[hv] at hg;simp[sg] at hg)
     simp only[Instr.storeAt,hx,Instr.sureAddr,storeVar];have e0:p.add 0=p:=rfl;simp[Zaw hi,hcells,h1,storeCells,e0,Zip hc hf hg]
    ·exact h.elim
   ·exact h.elim
  ·exact h.elim
 case alloc t=>
  split at h
  ·rename_i hz;refine Zc6 (m:=Instr.alloc t true (.tuple #[])) rfl ⟨_,_,?_,h⟩;unfold hasZ at hz;split at hz
   ·rename_i i hi;obtain⟨z,hz⟩:=Option.isSome_iff_exists.1 hz
    have:zeroP P t=z:=by simp[zeroP,hi,hz]
    rw[this];simp[Instr.alloc,zeroValue,typeInfo,hi,hz,Zhw]
   ·cases hz
  ·exact h.elim
 case box t x=>
  refine Zc6 (m:=Instr.box t (a.eval x)) rfl ⟨_,_,?_,h⟩;simp[Instr.box,Zhw]
 case buildSlice t n ps=>
  exact Zc6 (m:=Instr.buildSlice t n (ps.map λ(i,x)=>(i,a.eval x))) rfl (by rw[Ztq] at h;exact h)
 case makeSlice t l c=>exact Zc6 (m:=Instr.makeSlice t (a.eval l) (a.eval c)) rfl h
 case makeMap t r=>exact Zc6 (m:=Instr.makeMap t (r.map a.eval)) rfl h
 case mapUpdate t m k x=>exact Ziz (m:=Instr.mapUpdate t (a.eval m) (a.eval k) (a.eval x)) rfl h
 case insert t m k x=>exact Ziz (m:=Instr.mapUpdate t (a.eval m) (a.eval k) (a.eval x)) rfl h
 case mapEntry t m k=>exact Zc6 (m:=Instr.mapEntry t (a.eval m) (a.eval k)) rfl h
 case entryStore t m s x=>exact Ziz (m:=Instr.entryStore t (a.eval m) (a.eval s) (a.eval x)) rfl h
 case range t x=>exact Zc6 (m:=Instr.range t (a.eval x)) rfl h
 case next x s=>exact Zc6 (m:=Instr.next (a.eval x) s type) rfl h
 case call c=>
  obtain⟨callee,args,ats⟩:=c
  cases callee with
  |value f=>
   cases f with
   |func f=>
    replace h:(match isExt P f with
     |true=>Cx P f (amap a.eval args) w K
     |false=>Cl P f (amap a.eval args) w K):=h
    cases hx:isExt P f with
    |true=>
     rw[hx] at h;obtain⟨v,w',h1,h2⟩:=h;rw[Zb2] at h1;unfold EffOp
     rw[show (execOp a.eval { dst:=dst,op:=.call ⟨.value (.func f),args,ats⟩,type:=type,pos:=pos,after:=after,guard:=guard }).run P w=.ok (.value v) w' by
      simpa [execOp,resolve,Deferred.ofValue,Act.eval,invoke] using h1]
     exact h2
    |false=>
     rw[hx] at h;exact Zde (by simpa [execOp,resolve,Deferred.ofValue,Act.eval,invoke,Zb2] using h.1) (by have:=h.2;rwa [Zb2] at this)
   |tmp t=>
    obtain⟨f,args',h1,h2⟩:=h;exact Zde (f:=f) (args:=args') (by rw[<-h1,Zb2];rfl) h2
   |const t=>
    obtain⟨f,args',h1,h2⟩:=h;exact Zde (f:=f) (args:=args') (by rw[<-h1,Zb2];rfl) h2
   |global t=>
    obtain⟨f,args',h1,h2⟩:=h;exact Zde (f:=f) (args:=args') (by rw[<-h1,Zb2];rfl) h2
  |invoke r name=>
   obtain⟨f,args',h1,h2⟩:=h;exact Zde (f:=f) (args:=args') (by rw[<-h1,Zb2];rfl) h2
  |builtin b=>
   cases b <;> simp only[Zb2] at h <;> first|exact absurd rfl hs|skip
   case append=>exact Zc6 (m:=Builtin.append_ ats type (args.map a.eval)) rfl h
   case copy=>exact Zc6 (m:=Builtin.copy_ ats type (args.map a.eval)) rfl h
   case unsafeSliceData=>exact Zc6 (m:=Builtin.unsafeSliceData_ ats type (args.map a.eval)) rfl h
   case unsafeString=>exact Zc6 (m:=Builtin.unsafeString_ ats type (args.map a.eval)) rfl h
   case delete=>exact Zc6 (m:=Builtin.delete_ ats type (args.map a.eval)) rfl h
   case clear=>exact Zc6 (m:=Builtin.clear_ ats type (args.map a.eval)) rfl h
theorem Zqd {st:Bool}{ev:Operand->Value}{o:Oper}{a:Act}{next:Act->World->Prop}{Q:Exit->Act->World->Prop}{K:KT}
  (h:vcOp P st ev o w K) (he:a.eval=ev) (hk:∀ v w',K v w'->next (a.put o.dst v) w'):o.wp P a w next Q:=(Zgh h he).wp hk
end

def nth:List Oper->Nat->Option Oper
 |[],_=>none
 |o::r,i=>match i with
  |0=>some o
  |i+1=>nth r i
theorem Zlj (l:List Oper) (i:Nat):nth l i=l[i]?:=by
 induction l generalizing i with
 |nil=>simp[nth]
 |cons o r ih=>cases i <;> simp[nth,ih]
def isCond:List Oper->Nat->Bool
 |[],_=>false
 |o::r,i=>match o.guard with
  |some (j,_)=>(match Nat.beq j i with
   |true=>true
   |false=>isCond r i)
  |none=>isCond r i
def parting (ops:List Oper) (i:Nat) (dst:Option Nat) (K:Env->World->Prop):Env->World->Prop:=
 match isCond ops i,dst with
 |true,some d=>λρ w=>Vif (ρ.get d) (K (ρ.set d (.bool true)) w) (K (ρ.set d (.bool false)) w)
 |_,_=>K
def vcG (P:Program) (st:Bool) (n:Nat) (ops:List Oper) (i:Nat) (o:Oper) (ρ:Env) (w:World) (K:Env->World->Prop):Prop:=
 match o.guard with
 |none=>vcOp P st ρ.ev o w λv w'=>ρ.put n o.dst v λρ'=>parting ops i o.dst K ρ' w'
 |some (j,want)=>match (nth ops j).bind (·.dst) with
  |none=>False
  |some d=>match ρ.get d,want with
   |.bool true,true|.bool false,false=>vcOp P st ρ.ev o w λv w'=>ρ.put n o.dst v λρ'=>parting ops i o.dst K ρ' w'
   |.bool true,false|.bool false,true|.tuple _,_=>ρ.put n o.dst undef λρ'=>K ρ' w
   |_,_=>False
def vcOps (P:Program) (st:Bool) (n:Nat) (ops:List Oper):List Oper->Nat->Env->World->(Env->World->Prop)->Prop
 |[],_,ρ,w,K=>K ρ w
 |o::r,i,ρ,w,K=>vcG P st n ops i o ρ w λρ' w'=>vcOps P st n ops r (i+1) ρ' w' K

section
variable {P:Program}{st:Bool}{n:Nat}
theorem Fits.set_same {ρ:Env}{a:Act}(h:Fits n ρ a){d:Nat}{v:Value}(hv:ρ.get d=v):Fits n (ρ.set d v) a:=by
 refine⟨h.defers,h.size,λt=>?_⟩;rw[Env.get_set];split
 ·rename_i e;subst e;rw[h.slot,hv]
 ·exact h.slot t
theorem Zae {ops:List Oper}{i:Nat}{dst:Option Nat}{K:Env->World->Prop}{ρ:Env}{w:World}{a:Act}{X:Prop}
  (h:parting ops i dst K ρ w) (hf:Fits n ρ a) (hk:∀ ρ',Fits n ρ' a->K ρ' w->X):X:=by
 unfold parting at h
 cases hc:isCond ops i <;> cases dst <;> simp only[hc] at h
 case true.some d=>
  rcases h.or with⟨hc,h⟩|⟨hc,h⟩
  ·exact hk _ (hf.set_same hc) h
  ·exact hk _ (hf.set_same hc) h
 all_goals exact hk _ hf h
theorem Zcq {ops:List Oper}{ρ:Env}{a:Act}(hf:Fits n ρ a){j d:Nat}(hd:(nth ops j).bind (·.dst)=some d) :
  yielded ops.toArray a.tmps j=match ρ.get d with|.bool b=>some b|_=>none:=by
 rw[Zlj] at hd;unfold yielded;rw[List.getElem?_toArray,hd,<-hf.slot d]
 by_cases hlt:d < a.tmps.size
 ·simp[hlt];generalize a.tmps[d]=v
  cases v <;> rfl
 ·simp[hlt,undef]
theorem Zu3 {ops:List Oper}{i:Nat}{o:Oper}{ρ:Env}{w:World}{K:Env->World->Prop}{a:Act}{next:Act->World->Prop}{Q:Exit->Act->World->Prop}
  (h:vcG P st n ops i o ρ w K) (hf:Fits n ρ a) (hk:∀ ρ' a' w',Fits n ρ' a'->K ρ' w'->next a' w') :
  if Region.wanted o (yielded ops.toArray a.tmps) then o.wp P a w next Q else next (a.put o.dst undef) w:=by
 have go:(vcOp P st ρ.ev o w λv w'=>ρ.put n o.dst v λρ'=>parting ops i o.dst K ρ' w')->o.wp P a w next Q:=λh=>
  Zqd h hf.eval λv w' hv=>by
   obtain⟨ρ',hf',hs⟩:=put_spec hf hv;exact Zae hs hf' λρ'' hf'' hK=>hk _ _ _ hf'' hK
 have skip:(ρ.put n o.dst undef λρ'=>K ρ' w)->next (a.put o.dst undef) w:=λh=>by
  obtain⟨ρ',hf',hs⟩:=put_spec hf h;exact hk _ _ _ hf' hs
 unfold vcG at h;split at h
 ·rename_i hg;rw[if_pos (by simp[Region.wanted,hg])];exact go h
 ·rename_i j want hg;split at h
  ·exact h.elim
  ·rename_i d hd;have hy:=Zcq hf hd
   have hw:Region.wanted o (yielded ops.toArray a.tmps)=((match ρ.get d with|.bool b=>some b|_=>none)==some want):=by
    simp only[Region.wanted,hg,hy]
   rw[hw];split at h
   all_goals first
    |exact h.elim
    |(rename_i e;rw[e];rw[if_pos (by decide)];exact go h)
    |(rename_i e;rw[e];rw[if_neg (by decide)];exact skip h)
    |(rename_i e;rw[e];rw[if_neg (by simp)];exact skip h)
theorem Zeh {ops:List Oper}{Q:Exit->Act->World->Prop}{K:Env->World->Prop}:∀ (l:List Oper) (i:Nat) (ρ:Env) (w:World) (a:Act),
  vcOps P st n ops l i ρ w K->Fits n ρ a->(∀ ρ' a' w',Fits n ρ' a'->K ρ' w'->Q .normal a' w')->wpList P ops.toArray Q l a w
 |[],_,ρ,w,a,h,hf,hk=>hk _ _ _ hf h
 |o::r,i,ρ,w,a,h,hf,hk=>by
  have:=Zu3 (Q:=Q) h hf (next:=λa' w'=>wpList P ops.toArray Q r a' w') λρ' a' w' hf' h'=>Zeh r (i+1) ρ' w' a' h' hf' hk;simp only[wpList];split
  ·rename_i hw;rw[if_pos hw] at this;exact .inl this
  ·rename_i hw;rw[if_neg hw] at this;exact this
end

section
variable {P:Program}{n:Nat}
theorem Zq9 {ev:Operand->Value}{o:Oper}{a:Act}{w:World}{next:Act->Prop}{K:KT}
  (h:vcOp P true ev o w K) (hs:stillOp o.op=true) (he:a.eval=ev) (hk:∀ v,K v w->next (a.put o.dst v)):o.still P a w next:=by
 subst he;obtain⟨v,w',h1,h2,h3⟩:=Zjn h hs;have:=h3 rfl;subst this;unfold Oper.still;rw[h1,Oper.stillUpon_value];exact hk _ h2
theorem Ztm {ops:List Oper}{i:Nat}{o:Oper}{ρ:Env}{w:World}{K:Env->World->Prop}{a:Act}{next:Act->Prop}
  (h:vcG P true n ops i o ρ w K) (hs:stillOp o.op=true) (hf:Fits n ρ a) (hk:∀ ρ' a',Fits n ρ' a'->K ρ' w->next a') :
  if Region.wanted o (yielded ops.toArray a.tmps) then o.still P a w next else next (a.put o.dst undef):=by
 have go:(vcOp P true ρ.ev o w λv w'=>ρ.put n o.dst v λρ'=>parting ops i o.dst K ρ' w')->o.still P a w next:=λh=>
  Zq9 h hs hf.eval λv hv=>by
   obtain⟨ρ',hf',hs⟩:=put_spec hf hv;exact Zae hs hf' λρ'' hf'' hK=>hk _ _ hf'' hK
 have skip:(ρ.put n o.dst undef λρ'=>K ρ' w)->next (a.put o.dst undef):=λh=>by
  obtain⟨ρ',hf',hs⟩:=put_spec hf h;exact hk _ _ hf' hs
 unfold vcG at h;split at h
 ·rename_i hg;rw[if_pos (by simp[Region.wanted,hg])];exact go h
 ·rename_i j want hg;split at h
  ·exact h.elim
  ·rename_i d hd;have hy:=Zcq hf hd
   have hw:Region.wanted o (yielded ops.toArray a.tmps)=((match ρ.get d with|.bool b=>some b|_=>none)==some want):=by
    simp only[Region.wanted,hg,hy]
   rw[hw];split at h
   all_goals first
    |exact h.elim
    |(rename_i e;rw[e];rw[if_pos (by decide)];exact go h)
    |(rename_i e;rw[e];rw[if_neg (by decide)];exact skip h)
    |(rename_i e;rw[e];rw[if_neg (by simp)];exact skip h)
theorem Zee {ops:List Oper}{K:Env->World->Prop}{w:World}{Q:Act->Prop}:∀ (l r:List Oper) (i:Nat) (ρ:Env) (a:Act),
  vcOps P true n ops (l++r) i ρ w K->allStill l=true->Fits n ρ a->(∀ ρ' a',Fits n ρ' a'->vcOps P true n ops r (i+l.length) ρ' w K->Q a')->wpStill P ops.toArray w Q l a
 |[],r,i,ρ,a,h,_,hf,hk=>hk _ _ hf h
 |o::l,r,i,ρ,a,h,hs,hf,hk=>by
  simp only[allStill] at hs
  cases ho:stillOp o.op with
  |false=>rw[ho] at hs;cases hs
  |true=>
   rw[ho] at hs
   have:=Ztm h ho hf (next:=wpStill P ops.toArray w Q l) λρ' a' hf' h'=>Zee l r (i+1) ρ' a' h' hs hf' λρ'' a'' hf'' h''=>hk _ _ hf'' (by
    rw[List.length_cons];rw[show i+1+l.length=i+(l.length+1) by omega] at h'';exact h'')
   simp only[wpStill];exact this
end

def Yl (P:Program) (m:Sem Next) (v:Value) (w:World):Prop:=m.run P w=.ok (.value v) w
def rkA (P:Program) (b:Nat->Bool) (pend:List (Nat × Sem Next × Value)) (w:World):Prop:=∀ x m v,(x,m,v)∈pend->b x=false->Yl P m v w
def pkA (P:Program) (b:Nat->Bool) (past:List (Nat × World)) (m:Sem Next) (v:Value):Prop:=∀ e w0,(e,w0)∈past->b e=false->Yl P m v w0
def Fr (P:Program) (ops:Array Oper) (bef:Nat->Nat->Bool) (Q:Act->World->Prop):List Nat->List (Nat × Sem Next × Value)->List (Nat × World)->Act->World->Prop
 |[],_,_,a,w=>Q a w
 |i::r,pend,past,a,w=>
  match ops[i]? with
  |none=>False
  |some o=>
   if Region.wanted o (yielded ops a.tmps)=true then
    if stillOp o.op=true then
     ∃ v,Yl P (execOp a.eval o) v w/\pkA P (bef i) past (execOp a.eval o) v/\Fr P ops bef Q r ((i,execOp a.eval o,v)::pend) past (a.put o.dst v) w
    else EffOp P o a w λv w'=>rkA P (bef i) pend w'/\Fr P ops bef Q r pend ((i,w)::past) (a.put o.dst v) w'
   else Fr P ops bef Q r pend past (a.put o.dst undef) w
def Gr (P:Program) (ops:Array Oper) (bef:Nat->Nat->Bool) (Q:Act->World->Prop) (i:Nat) (o:Oper) (R:List Nat) (pend:List (Nat × Sem Next × Value)) (past:List (Nat × World)) (a:Act) (w:World):Prop:=
 if Region.wanted o (yielded ops a.tmps)=true then
  if stillOp o.op=true then
   ∃ v,Yl P (execOp a.eval o) v w/\pkA P (bef i) past (execOp a.eval o) v/\Fr P ops bef Q R pend past (a.put o.dst v) w
  else EffOp P o a w λv w'=>rkA P (bef i) pend w'/\Fr P ops bef Q R pend past (a.put o.dst v) w'
 else Fr P ops bef Q R pend past (a.put o.dst undef) w

section
variable {P:Program}{ops:Array Oper}{bef:Nat->Nat->Bool}{Q:Act->World->Prop}
theorem Fr.weak:∀ (r:List Nat){pend pend':List (Nat × Sem Next × Value)}{past past':List (Nat × World)}{a:Act}{w:World},
  Fr P ops bef Q r pend past a w->(∀ x∈pend',x∈pend)->(∀ x∈past',x∈past)->Fr P ops bef Q r pend' past' a w
 |[],_,_,_,_,_,_,h,_,_=>h
 |i::r,pend,pend',past,past',a,w,h,hp,hq=>by
  unfold Fr at h ⊢;split at h
  ·exact h.elim
  ·rename_i o ho;split at h
   ·rename_i hw;rw[if_pos hw];split at h
    ·rename_i hs;rw[if_pos hs];obtain⟨v,h1,h2,h3⟩:=h;refine⟨v,h1,λe w0 he hb=>h2 e w0 (hq _ he) hb,Fr.weak r h3 (λx hx=>?_) hq⟩;rcases List.mem_cons.1 hx with rfl|hx
     ·exact List.mem_cons_self
     ·exact List.mem_cons_of_mem _ (hp _ hx)
    ·rename_i hs;rw[if_neg hs];refine h.mono λv w' ⟨h1,h2⟩=>⟨λx m v hx hb=>h1 x m v (hp _ hx) hb,Fr.weak r h2 hp (λx hx=>?_)⟩;rcases List.mem_cons.1 hx with rfl|hx
     ·exact List.mem_cons_self
     ·exact List.mem_cons_of_mem _ (hq _ hx)
   ·rename_i hw;rw[if_neg hw];exact Fr.weak r h hp hq
structure Pair (ops:Array Oper) (bef:Nat->Nat->Bool) (x i:Nat) (ox oi:Oper):Prop where
 xi:bef i x=false
 ix:bef x i=false
 ap:ox.apart ops oi=true
 eff:stillOp ox.op=true\/stillOp oi.op=true
 sx:∀ cs b,ox.op≠.select cs b
 si:∀ cs b,oi.op≠.select cs b
theorem Fr.pull {i:Nat}{oi:Oper}(hi:ops[i]?=some oi) (Y:List Nat):∀ (X:List Nat){pend:List (Nat × Sem Next × Value)}{past:List (Nat × World)}{a:Act}{w:World},
  (∀ x∈X,∃ ox,ops[x]?=some ox/\Pair ops bef x i ox oi)->Fr P ops bef Q (X++i::Y) pend past a w->Gr P ops bef Q i oi (X++Y) pend past a w
 |[],pend,past,a,w,_,h=>by
  simp only[List.nil_append] at h ⊢;unfold Fr at h;simp only[hi] at h;unfold Gr;split at h
  ·rename_i hw;rw[if_pos hw];split at h
   ·rename_i hs;rw[if_pos hs];obtain⟨v,h1,h2,h3⟩:=h;exact⟨v,h1,h2,Fr.weak Y h3 (λx hx=>List.mem_cons_of_mem _ hx) λx hx=>hx⟩
   ·rename_i hs;rw[if_neg hs];exact h.mono λv w' ⟨h1,h2⟩=>⟨h1,Fr.weak Y h2 (λx hx=>hx) λx hx=>List.mem_cons_of_mem _ hx⟩
  ·rename_i hw;rw[if_neg hw];exact h
 |x::X,pend,past,a,w,hX,h=>by
  obtain⟨ox,hox,hp⟩:=hX x List.mem_cons_self;have hX':=λy hy=>hX y (List.mem_cons_of_mem _ hy);obtain⟨a1,a2,a3⟩:=Oper.apart_spec hp.ap;have wi:∀ (a:Act) v,Region.wanted oi (yielded ops (a.put ox.dst v).tmps)=Region.wanted oi (yielded ops a.tmps):=λa v=>wanted_put oi a ox.dst v a1;have ei:∀ (a:Act) v,execOp (a.put ox.dst v).eval oi=execOp a.eval oi:=λa v=>execOp_put oi hp.si a ox.dst v a1;have wx:∀ (a:Act) v,Region.wanted ox (yielded ops (a.put oi.dst v).tmps)=Region.wanted ox (yielded ops a.tmps):=λa v=>wanted_put ox a oi.dst v a3;have ex:∀ (a:Act) v,execOp (a.put oi.dst v).eval ox=execOp a.eval ox:=λa v=>execOp_put ox hp.sx a oi.dst v a3;have cm:∀ (a:Act) v u,(a.put ox.dst v).put oi.dst u=(a.put oi.dst u).put ox.dst v:=λa v u=>Act.put_comm a v u a2;simp only[List.cons_append] at h ⊢;unfold Fr at h;simp only[hox] at h
  have back_no:∀ {pend past u w'},Region.wanted ox (yielded ops a.tmps)≠true->Fr P ops bef Q (X++Y) pend past ((a.put ox.dst undef).put oi.dst u) w'->
    Fr P ops bef Q (x::(X++Y)) pend past (a.put oi.dst u) w':=by
   intro pend past u w' hw hh;rw[cm] at hh;unfold Fr;simp only[hox];rw[wx,if_neg hw];exact hh
  split at h
  ·rename_i hwx;split at h
   ·rename_i hsx;obtain⟨v,h1,h2,h3⟩:=h;have ih:=Fr.pull hi Y X hX' h3
    have back:∀ {u w'},Yl P (execOp a.eval ox) v w'->Fr P ops bef Q (X++Y) ((x,execOp a.eval ox,v)::pend) past ((a.put ox.dst v).put oi.dst u) w'->
      Fr P ops bef Q (x::(X++Y)) pend past (a.put oi.dst u) w':=by
     intro u w' hy hh;rw[cm] at hh;unfold Fr;simp only[hox];rw[wx,if_pos hwx,if_pos hsx,ex];exact⟨v,hy,h2,hh⟩
    unfold Gr at ih ⊢;rw[wi,ei] at ih;split at ih
    ·rename_i hwi;rw[if_pos hwi];split at ih
     ·rename_i hsi;rw[if_pos hsi];obtain⟨u,g1,g2,g3⟩:=ih;exact⟨u,g1,g2,back h1 g3⟩
     ·rename_i hsi;rw[if_neg hsi];refine (ih.of_eval (ei a v).symm).mono λu w' ⟨g1,g2⟩=>⟨λy m z hy hb=>g1 y m z (List.mem_cons_of_mem _ hy) hb,back (g1 x _ v List.mem_cons_self hp.xi) g2⟩
    ·rename_i hwi;rw[if_neg hwi];exact back h1 ih
   ·rename_i hsx;have hsi:stillOp oi.op=true:=hp.eff.resolve_left hsx;have ih:=h.mono λv w' ⟨h1,h2⟩=>And.intro h1 (Fr.pull hi Y X hX' h2);unfold Gr
    have backE:∀ u,(EffOp P ox a w λv w'=>rkA P (bef x) pend w'/\Fr P ops bef Q (X++Y) pend ((x,w)::past) ((a.put ox.dst v).put oi.dst u) w')->
      Fr P ops bef Q (x::(X++Y)) pend past (a.put oi.dst u) w:=by
     intro u hh;unfold Fr;simp only[hox];rw[wx,if_pos hwx,if_neg hsx];refine (hh.of_eval (ex a u)).mono λv w' ⟨g1,g2⟩=>⟨g1,?_⟩;rw[<-cm];exact g2
    by_cases hwi:Region.wanted oi (yielded ops a.tmps)=true
    ·rw[if_pos hwi,if_pos hsi]
     have ih2:EffOp P ox a w λv w'=>rkA P (bef x) pend w'/\∃ u,Yl P (execOp a.eval oi) u w'/\pkA P (bef i) ((x,w)::past) (execOp a.eval oi) u/\
       Fr P ops bef Q (X++Y) pend ((x,w)::past) ((a.put ox.dst v).put oi.dst u) w':=
      ih.mono λv w' ⟨g1,g2⟩=>by
       unfold Gr at g2;rw[wi,ei,if_pos hwi,if_pos hsi] at g2;exact⟨g1,g2⟩
     obtain⟨v0,w0,_,u,_,hpk,_⟩:=ih2.exists;have hu:Yl P (execOp a.eval oi) u w:=hpk x w List.mem_cons_self hp.xi;refine⟨u,hu,λe w1 he hb=>hpk e w1 (List.mem_cons_of_mem _ he) hb,backE u (ih2.mono λv w' ⟨g1,u',_,k2,k3⟩=>?_)⟩;have hu':Yl P (execOp a.eval oi) u' w:=k2 x w List.mem_cons_self hp.xi
     have:u'=u:=by
      unfold Yl at hu hu';rw[hu] at hu';simp at hu';exact hu'.symm
     rw[this] at k3;exact⟨g1,k3⟩
    ·rw[if_neg hwi];refine backE undef (ih.mono λv w' ⟨g1,g2⟩=>?_);unfold Gr at g2;rw[wi,if_neg hwi] at g2;exact⟨g1,g2⟩
  ·rename_i hwx;have ih:=Fr.pull hi Y X hX' h;unfold Gr at ih ⊢;rw[wi,ei] at ih;split at ih
   ·rename_i hwi;rw[if_pos hwi];split at ih
    ·rename_i hsi;rw[if_pos hsi];obtain⟨u,g1,g2,g3⟩:=ih;exact⟨u,g1,g2,back_no hwx g3⟩
    ·rename_i hsi;rw[if_neg hsi];exact (ih.of_eval (ei a undef).symm).mono λu w' ⟨g1,g2⟩=>⟨g1,back_no hwx g2⟩
   ·rename_i hwi;rw[if_neg hwi];exact back_no hwx ih
theorem Gr.step {i:Nat}{oi:Oper}(hi:ops[i]?=some oi){R:List Nat}{pend:List (Nat × Sem Next × Value)}{past:List (Nat × World)}{a:Act}{w:World}{Q':Exit->Act->World->Prop}
  {K:Act->World->Prop} (h:Gr P ops bef Q i oi R pend past a w) (hk:∀ a' w',Fr P ops bef Q R pend past a' w'->K a' w'):wpOp P ops Q' i K a w:=by
 unfold wpOp;simp only[hi];unfold Gr at h;split at h
 ·rename_i hw;rw[if_pos hw];refine .inl ?_;split at h
  ·obtain⟨v,h1,_,h3⟩:=h;unfold Oper.wp;rw[show (execOp a.eval oi).run P w=.ok (.value v) w from h1];exact hk _ _ h3
  ·exact h.wp λv w' ⟨_,h2⟩=>hk _ _ h2
 ·rename_i hw;rw[if_neg hw];exact hk _ _ h
structure Staged (ops:Array Oper) (bef:Nat->Nat->Bool):Prop where
 fwd:∀ i o,ops[i]?=some o->∀ e∈o.after,Region.binds .any e=true->e.on < i
 pair:∀ x i ox oi,ops[x]?=some ox->ops[i]?=some oi->x < i->bef i x=false->Pair ops bef x i ox oi
 clos:∀ i o x,ops[i]?=some o->bef i x=true->∃ e∈o.after,Region.binds .any e=true/\(e.on=x\/bef e.on x=true)
theorem Zqb (hs:Staged ops bef){listed:Array Bool}(hsz:listed.size=ops.size)
  (hc:∀ j oj,ops[j]?=some oj->listed.getD j false=true->∀ e∈oj.after,Region.binds .any e=true->listed.getD e.on false=true) :
  ∀ (i:Nat) (x:Nat),listed.getD i false=true->bef i x=true->listed.getD x false=true:=by
 intro i
 induction i using Nat.strongRecOn with
 |_ i ih=>
  intro x hl hb
  have hlt:i < ops.size:=by
   rw[<-hsz];rcases Nat.lt_or_ge i listed.size with h|h
   ·exact h
   ·simp[Array.getElem?_eq_none h] at hl
  have ho:ops[i]?=some ops[i]:=Array.getElem?_eq_getElem hlt;obtain⟨e,he,hbd,hx⟩:=hs.clos i _ x ho hb;have h1:=hc i _ ho hl e he hbd;rcases hx with rfl|hx
  ·exact h1
  ·exact ih e.on (hs.fwd i _ ho e he hbd) x h1 hx
theorem Zrk (hs:Staged ops bef){Q':Exit->Act->World->Prop}(hQ:∀ a w,Q a w->Q' .normal a w):∀ (fuel:Nat) (listed:Array Bool) (R:List Nat) (a:Act) (w:World),
  R.length=fuel->listed.size=ops.size->R.Pairwise (· < ·)->(∀ j,j∈R↔j < ops.size/\listed.getD j true=false)->
  (∀ j oj,ops[j]?=some oj->listed.getD j false=true->∀ e∈oj.after,Region.binds .any e=true->listed.getD e.on false=true)->
  Fr P ops bef Q R [] [] a w->wpAny P .any ops Q' fuel listed a w:=by
 have both:∀ {listed:Array Bool} {i:Nat},listed.size=ops.size->i < ops.size->(listed.getD i true=false↔¬ listed.getD i false=true):=by
  intro listed i hsz hi;simp[hsz,hi]
 intro fuel
 induction fuel with
 |zero=>
  intro listed R a w hl hsz _ hR _ h;have:R=[]:=List.eq_nil_of_length_eq_zero hl;subst this;refine⟨?_,hQ _ _ h⟩
  cases hr:Region.ready .any ops listed with
  |nil=>rfl
  |cons y ys=>
   exfalso
   have hy:y∈Region.ready .any ops listed:=by rw[hr];exact List.mem_cons_self
   obtain⟨h1,o,ho,_⟩:=mem_ready.1 hy;have:=(hR y).2 ⟨(Array.getElem?_eq_some_iff.1 ho).1,h1⟩;cases this
 |succ fuel ih=>
  intro listed R a w hl hsz hpw hR hc h;refine⟨λh0=>?_,λi hi=>?_⟩
  ·exfalso
   cases R with
   |nil=>simp at hl
   |cons r0 R=>
    obtain⟨hr0,hl0⟩:=(hR r0).1 List.mem_cons_self
    have:r0∈Region.ready .any ops listed:=by
     refine mem_ready.2 ⟨hl0,ops[r0],Array.getElem?_eq_getElem hr0,λe he hb=>?_⟩;have hlt:=hs.fwd r0 _ (Array.getElem?_eq_getElem hr0) e he hb
     have hes:e.on < ops.size:=by omega
     cases hh:listed.getD e.on false with
     |true=>rfl
     |false=>
      exfalso;have hm:=(hR e.on).2 ⟨hes,(both hsz hes).2 (by rw[hh];simp)⟩;rcases List.mem_cons.1 hm with h1|h1
      ·omega
      ·have:=(List.pairwise_cons.1 hpw).1 _ h1;omega
    rw[h0] at this;cases this
  ·obtain⟨hu,oi,hoi,hall⟩:=mem_ready.1 hi;have his:i < ops.size:=(Array.getElem?_eq_some_iff.1 hoi).1;obtain⟨X,Y,rfl⟩:=List.append_of_mem ((hR i).2 ⟨his,hu⟩);have hlt:∀ x∈X,x < i:=λx hx=>(List.pairwise_append.1 hpw).2.2 x hx i List.mem_cons_self
   have hg:=Fr.pull hoi Y X (λx hx=>by
    obtain⟨hxs,hxu⟩:=(hR x).1 (List.mem_append_left _ hx);refine⟨ops[x],Array.getElem?_eq_getElem hxs,hs.pair x i _ _ (Array.getElem?_eq_getElem hxs) hoi (hlt x hx) ?_⟩
    cases hb:bef i x with
    |false=>rfl
    |true=>
     exfalso;obtain⟨e,he,hbd,hx'⟩:=hs.clos i _ x hoi hb;have h1:=hall e he hbd
     have h2:listed.getD x false=true:=by
      rcases hx' with rfl|hx'
      ·exact h1
      ·exact Zqb hs hsz hc e.on x h1 hx'
     exact (both hsz hxs).1 hxu h2) h
   refine hg.step hoi λa' w' hf=>?_;refine ih (listed.setIfInBounds i true) (X++Y) a' w' (by simp at hl ⊢;omega) (by simp[hsz]) ?_ ?_ ?_ hf
   ·exact List.Pairwise.sublist (List.Sublist.append_left (List.sublist_cons_self i Y) X) hpw
   ·intro j
    by_cases hji:j=i
    ·subst hji
     have h1:j∉X++Y:=by
      intro hm;rcases List.mem_append.1 hm with h|h
      ·exact Nat.lt_irrefl _ (hlt j h)
      ·exact Nat.lt_irrefl _ ((List.pairwise_cons.1 (List.pairwise_append.1 hpw).2.1).1 j h)
     constructor
     ·intro h;exact absurd h h1
     ·rintro⟨_,h⟩;simp[hsz,his] at h
    ·rw[getD_set_ne true (λh=>hji h.symm),<-hR j];simp[hji]
   ·intro j oj hj hl' e he hb
    by_cases hji:i=j
    ·subst hji;have:oj=oi:=Option.some.inj (hj.symm.trans hoi);subst this;exact getD_set_true (hall e he hb)
    ·rw[getD_set_ne false hji] at hl';exact getD_set_true (hc j oj hj hl' e he hb)
theorem Zfw {id:Nat}{a:Act}{w:World}{Q':Exit->Act->World->Prop}(hm:P.follows .mixedOrders=true) (hs:Staged ops bef) (hQ:∀ a w,Q a w->Q' .normal a w)
  (h:Fr P ops bef Q (List.range ops.size) [] [] a w.drew):(Code.region id ops true).wp P Q' a w:=by
 refine wp_region_any hm (Zrk hs hQ ops.size _ (List.range ops.size) a _ (by simp) (by simp) List.pairwise_lt_range ?_ ?_ h)
 ·intro j;simp only[List.mem_range]
  constructor
  ·intro hj;exact⟨hj,by simp[hj]⟩
  ·exact λh=>h.1
 ·intro j oj hj hl;have:=getD_replicate_false ops.size j;rw[this] at hl;cases hl
end

def blind (P:Program) (o:Oper):Bool:=
 match o.op with
 |.move _|.assign _|.pick ..|.nilCheck _|.fieldAddr ..|.indexAddr ..|.index ..|.field ..|.unOp ..|.extract ..|.makeInterface ..=>true
 |.binOp _ t _ _ _=>(match P.underlying t with
  |some (.int _)|some .string|some .bool|some (.pointer _)=>true
  |_=>false)
 |.convert s d _=>(match P.underlying s,P.underlying d with
  |some (.int _),some (.int _)=>true
  |_,_=>false)
 |_=>false
abbrev Node:=World->(Value->Prop)->Prop
def Rk (N:Node) (v:Value) (w:World) (X:Prop):Prop:=(N w λu=>u=v)/\X
def Rks (b:Nat->Bool):List (Nat × Node × Value)->World->Prop->Prop
 |[],_,X=>X
 |(x,m,v)::r,w,X=>match b x with
  |true=>Rks b r w X
  |false=>Rk m v w (Rks b r w X)
def Pks (b:Nat->Bool):List (Nat × World)->Node->Value->Prop->Prop
 |[],_,_,X=>X
 |(e,w)::r,m,v,X=>match b e with
  |true=>Pks b r m v X
  |false=>Rk m v w (Pks b r m v X)
def stEx (P:Program) (n:Nat) (ops:List Oper) (b:Nat->Nat->Bool) (i:Nat) (o:Oper) (pend:List (Nat × Node × Value)) (past:List (Nat × World)) (ρ:Env) (w:World)
  (cont:List (Nat × Node × Value)->List (Nat × World)->Env->World->Prop):Prop:=
 match stillOp o.op with
 |true=>(match blind P o with
  |true=>vcOp P true ρ.ev o w λv w'=>ρ.put n o.dst v λρ'=>parting ops i o.dst (cont pend past) ρ' w'
  |false=>vcOp P true ρ.ev o w λv w'=>Pks (b i) past (λu K=>vcOp P true ρ.ev o u λv _=>K v) v
    (ρ.put n o.dst v λρ'=>parting ops i o.dst (cont ((i,(λu K=>vcOp P true ρ.ev o u λv _=>K v),v)::pend) past) ρ' w'))
 |false=>vcOp P false ρ.ev o w λv w'=>Rks (b i) pend w' (ρ.put n o.dst v λρ'=>parting ops i o.dst (cont pend ((i,w)::past)) ρ' w')
def stG (P:Program) (n:Nat) (ops:List Oper) (b:Nat->Nat->Bool) (i:Nat) (o:Oper) (pend:List (Nat × Node × Value)) (past:List (Nat × World)) (ρ:Env) (w:World)
  (cont:List (Nat × Node × Value)->List (Nat × World)->Env->World->Prop):Prop:=
 match o.guard with
 |none=>stEx P n ops b i o pend past ρ w cont
 |some (j,want)=>match (nth ops j).bind (·.dst) with
  |none=>False
  |some d=>match ρ.get d,want with
   |.bool true,true|.bool false,false=>stEx P n ops b i o pend past ρ w cont
   |.bool true,false|.bool false,true|.tuple _,_=>ρ.put n o.dst undef λρ'=>cont pend past ρ' w
   |_,_=>False
def vcSt (P:Program) (n:Nat) (ops:List Oper) (b:Nat->Nat->Bool):List Oper->Nat->List (Nat × Node × Value)->List (Nat × World)->Env->World->(Env->World->Prop)->Prop
 |[],_,_,_,ρ,w,K=>K ρ w
 |o::r,i,pend,past,ρ,w,K=>stG P n ops b i o pend past ρ w λpend' past' ρ' w'=>vcSt P n ops b r (i+1) pend' past' ρ' w' K

def getN:List Nat->Nat->Nat
 |[],_=>0
 |x::r,i=>match i with
  |0=>x
  |i+1=>getN r i
def befM (ms:List Nat) (i x:Nat):Bool:=Nat.testBit (getN ms i) x
def edgesFwd (i:Nat):List Edge->Bool
 |[]=>true
 |e::r=>(!Region.binds .any e||Nat.blt e.on i)&&edgesFwd i r
def edgesTo (ms:List Nat) (x:Nat):List Edge->Bool
 |[]=>false
 |e::r=>(Region.binds .any e&&(Nat.beq e.on x||befM ms e.on x))||edgesTo ms x r
def isSel:Op->Bool
 |.select ..=>true
 |_=>false
def pairB (arr:Array Oper) (ms:List Nat) (i:Nat) (o:Oper):List Oper->Nat->Bool
 |[],_=>true
 |x::r,k=>(match Nat.blt k i with
  |true=>(befM ms i k&&edgesTo ms k o.after.toList)||(!befM ms i k&&x.apart arr o&&(stillOp x.op||stillOp o.op))
  |false=>true)&&pairB arr ms i o r (k+1)
def stagedB (arr:Array Oper) (all:List Oper) (ms:List Nat):List Oper->Nat->Bool
 |[],_=>true
 |o::r,i=>!isSel o.op&&edgesFwd i o.after.toList&&Nat.blt (getN ms i) (2^i)&&pairB arr ms i o all 0&&stagedB arr all ms r (i+1)

section
variable {P:Program}{n:Nat}
theorem Zbp {i:Nat}:∀ {l:List Edge},edgesFwd i l=true->∀ e∈l,Region.binds .any e=true->e.on < i
 |e::r,h,x,hx,hb=>by
  simp only[edgesFwd,Bool.and_eq_true,Bool.or_eq_true,Bool.not_eq_true'] at h;rcases List.mem_cons.1 hx with rfl|hx
  ·rcases h.1 with h1|h1
   ·rw[hb] at h1;cases h1
   ·exact Nat.le_of_ble_eq_true h1
  ·exact Zbp h.2 x hx hb
theorem Zc9 {ms:List Nat}{x:Nat}:∀ {l:List Edge},edgesTo ms x l=true->∃ e∈l,Region.binds .any e=true/\(e.on=x\/befM ms e.on x=true)
 |e::r,h=>by
  simp only[edgesTo,Bool.or_eq_true,Bool.and_eq_true] at h;rcases h with⟨h1,h2⟩|h
  ·exact⟨e,List.mem_cons_self,h1,h2.imp Nat.eq_of_beq_eq_true id⟩
  ·obtain⟨e',h1,h2⟩:=Zc9 h;exact⟨e',List.mem_cons_of_mem _ h1,h2⟩
theorem Zi4 {arr:Array Oper}{ms:List Nat}{i:Nat}{o:Oper}(l:List Oper):∀ (k:Nat),pairB arr ms i o l k=true->∀ j x,l[j]?=some x->k+j < i->
  (befM ms i (k+j)=true/\edgesTo ms (k+j) o.after.toList=true)\/(befM ms i (k+j)=false/\x.apart arr o=true/\(stillOp x.op=true\/stillOp o.op=true)):=by
 induction l with
 |nil=>intro k _ j x hx;simp at hx
 |cons y r ih=>
  intro k h j x hx hlt;simp only[pairB,Bool.and_eq_true] at h;obtain⟨h1,h2⟩:=h
  cases j with
  |zero=>
   simp at hx;subst hx
   have hb:Nat.blt k i=true:=by
    rw[Nat.blt];exact Nat.ble_eq_true_of_le (by omega)
   rw[hb] at h1;simp only[Bool.or_eq_true,Bool.and_eq_true,Bool.not_eq_true'] at h1;rcases h1 with⟨h1,h2⟩|⟨⟨h1,h2⟩,h3⟩
   ·exact .inl ⟨h1,h2⟩
   ·exact .inr ⟨h1,h2,h3⟩
  |succ j=>
   have:=ih (k+1) h2 j x (by simpa using hx) (by omega);rw[show k+1+j=k+(j+1) by omega] at this;exact this
theorem Zbn {arr:Array Oper}{all:List Oper}{ms:List Nat}(l:List Oper):∀ (k:Nat),stagedB arr all ms l k=true->∀ j o,l[j]?=some o->
  isSel o.op=false/\edgesFwd (k+j) o.after.toList=true/\getN ms (k+j) < 2^(k+j)/\pairB arr ms (k+j) o all 0=true:=by
 induction l with
 |nil=>intro k _ j x hx;simp at hx
 |cons y r ih=>
  intro k h j o ho;simp only[stagedB,Bool.and_eq_true,Bool.not_eq_true'] at h;obtain⟨⟨⟨⟨h1,h2⟩,h3⟩,h4⟩,h5⟩:=h
  cases j with
  |zero=>
   simp at ho;subst ho;exact⟨h1,h2,Nat.le_of_ble_eq_true h3,h4⟩
  |succ j=>
   have:=ih (k+1) h5 j o (by simpa using ho);rw[show k+1+j=k+(j+1) by omega] at this;exact this
theorem Zg5 {op:Op}(h:isSel op=false):∀ cs b,op≠.select cs b:=by
 rintro cs b rfl;cases h
theorem Zu0 {l:List Oper}{ms:List Nat}(h:stagedB l.toArray l ms l 0=true):Staged l.toArray (befM ms):=by
 have hz:∀ i x,x >= i->i < l.length->befM ms i x=false:=by
  intro i x hx hi;have:=(Zbn l 0 h i l[i] (by simp[hi])).2.2.1;rw[Nat.zero_add] at this;exact Nat.testBit_lt_two_pow (Nat.lt_of_lt_of_le this (Nat.pow_le_pow_right (by decide) hx))
 refine⟨?_,?_,?_⟩
 ·intro i o ho e he hb;rw[List.getElem?_toArray] at ho;have:=(Zbn l 0 h i o ho).2.1;rw[Nat.zero_add] at this;exact Zbp this e (by simpa using he) hb
 ·intro x i ox oi hx hi hlt hb;rw[List.getElem?_toArray] at hx hi;have h1:=Zbn l 0 h i oi hi;have h2:=Zbn l 0 h x ox hx;rw[Nat.zero_add] at h1 h2;have hxl:x < l.length:=(List.getElem?_eq_some_iff.1 hx).1;have h3:=Zi4 l 0 h1.2.2.2 x ox hx (by omega);rw[Nat.zero_add,hb] at h3;rcases h3 with⟨h3,_⟩|⟨_,h3,h4⟩
  ·cases h3
  ·exact⟨hb,hz x i (by omega) hxl,h3,h4,Zg5 h2.1,Zg5 h1.1⟩
 ·intro i o x ho hb;rw[List.getElem?_toArray] at ho;have hil:i < l.length:=(List.getElem?_eq_some_iff.1 ho).1
  have hxi:x < i:=by
   rcases Nat.lt_or_ge x i with h|h
   ·exact h
   ·rw[hz i x h hil] at hb;cases hb
  have h1:=Zbn l 0 h i o ho;rw[Nat.zero_add] at h1;have h3:=Zi4 l 0 h1.2.2.2 x l[x] (by simp) (by omega);rw[Nat.zero_add,hb] at h3;rcases h3 with⟨_,h3⟩|⟨h3,_⟩
  ·obtain⟨e,he,h4⟩:=Zc9 h3;exact⟨e,by simpa using he,h4⟩
  ·cases h3
def Rel (P:Program) (pend:List (Nat × Node × Value)) (pA:List (Nat × Sem Next × Value)):Prop:=
 ∀ x m v,(x,m,v)∈pA->(∀ w,Yl P m v w)\/∃ N:Node,(x,N,v)∈pend/\∀ w,(N w λu=>u=v)->Yl P m v w
theorem Zf6 {b:Nat->Bool}{w:World}{X:Prop}:∀ {pend:List (Nat × Node × Value)},Rks b pend w X->(∀ x m v,(x,m,v)∈pend->b x=false->m w λu=>u=v)/\X
 |[],h=>⟨(λ_ _ _ h=>by cases h),h⟩
 |(y,k,u)::r,h=>by
  unfold Rks at h
  cases hb:b y with
  |true=>
   rw[hb] at h;obtain⟨h1,h2⟩:=Zf6 h;refine⟨λx m v hx hb'=>?_,h2⟩;rcases List.mem_cons.1 hx with e|hx
   ·cases e;rw[hb] at hb';cases hb'
   ·exact h1 x m v hx hb'
  |false=>
   rw[hb] at h;obtain⟨h0,h⟩:=h;obtain⟨h1,h2⟩:=Zf6 h;refine⟨λx m v hx hb'=>?_,h2⟩;rcases List.mem_cons.1 hx with e|hx
   ·cases e;exact h0
   ·exact h1 x m v hx hb'
theorem Zge {b:Nat->Bool}{m:Node}{v:Value}{X:Prop}:∀ {past:List (Nat × World)},Pks b past m v X->(∀ e w,(e,w)∈past->b e=false->m w λu=>u=v)/\X
 |[],h=>⟨(λ_ _ h=>by cases h),h⟩
 |(y,k)::r,h=>by
  unfold Pks at h
  cases hb:b y with
  |true=>
   rw[hb] at h;obtain⟨h1,h2⟩:=Zge h;refine⟨λx w hx hb'=>?_,h2⟩;rcases List.mem_cons.1 hx with e|hx
   ·cases e;rw[hb] at hb';cases hb'
   ·exact h1 x w hx hb'
  |false=>
   rw[hb] at h;obtain⟨h0,h⟩:=h;obtain⟨h1,h2⟩:=Zge h;refine⟨λx w hx hb'=>?_,h2⟩;rcases List.mem_cons.1 hx with e|hx
   ·cases e;exact h0
   ·exact h1 x w hx hb'
theorem Zgs {ev:Operand->Value}{o:Oper}{w:World}{K:KT}(h:vcOp P true ev o w K) (hs:stillOp o.op=true) :
  ∃ v,K v w/\Yl P (execOp ev o) v w:=by
 obtain⟨v,w',h1,h2,h3⟩:=Zjn h hs;have:=h3 rfl;subst this;exact⟨v,h2,h1⟩
theorem Zbg {ev:Operand->Value}{o:Oper}{w:World}{v:Value}(h:vcOp P true ev o w λu _=>u=v) (hs:stillOp o.op=true):Yl P (execOp ev o) v w:=by
 obtain⟨u,h1,h2⟩:=Zgs h hs;rw[<-h1];exact h2
theorem Zfm {ev:Operand->Value}{o:Oper}{w w':World}{K:Value->Prop}(hb:blind P o=true) (h:vcOp P true ev o w λv _=>K v):vcOp P true ev o w' λv _=>K v:=by
 obtain⟨dst,op,type,pos,after,guard⟩:=o
 cases op <;> first|(simp only[blind] at hb;cases hb;done)|exact h|skip
 case binOp op t x y yt=>
  simp only[blind] at hb;simp only[vcOp] at h ⊢;split at hb
  all_goals first|(rename_i e;rw[e] at h ⊢;exact h)|cases hb
 case convert s d x=>
  simp only[blind] at hb;simp only[vcOp] at h ⊢;split at hb
  ·rename_i e1 e2;rw[e1,e2] at h ⊢;exact h
  ·cases hb
theorem Zjc {ev:Operand->Value}{o:Oper}{w:World}{K:KT}(hb:blind P o=true) (h:vcOp P true ev o w K) :
  ∃ v,K v w/\vcOp P true ev o w λu _=>u=v:=by
 obtain⟨dst,op,type,pos,after,guard⟩:=o
 cases op <;> first|(simp only[blind] at hb;cases hb;done)|skip
 all_goals simp only[vcOp] at h ⊢
 case move x=>exact⟨_,h,rfl⟩
 case assign x=>exact⟨_,h,rfl⟩
 case pick c x y=>
  cases hc:ev c <;> simp only[hc] at h ⊢
  case bool b=>cases b <;> simp only at h ⊢ <;> exact⟨_,h,rfl⟩
 case nilCheck x=>exact⟨_,h.2,h.1,rfl⟩
 case fieldAddr s x f=>
  split at h
  ·split at h
   ·split at h
    ·split at h
     ·exact h.elim
     ·obtain⟨a,hx,hk⟩:=h;exact⟨_,hk,a,hx,rfl⟩
    ·exact h.elim
   ·exact h.elim
  ·exact h.elim
 case indexAddr t x i=>
  split at h
  ·split at h
   ·obtain⟨a,k,n,hx,hi,h0,h1,hk⟩:=h;exact⟨_,hk,a,k,n,hx,hi,h0,h1,rfl⟩
   ·exact h.elim
  ·split at h
   ·obtain⟨a,l,c,k,n,hx,hi,h0,h1,hk⟩:=h;exact⟨_,hk,a,l,c,k,n,hx,hi,h0,h1,rfl⟩
   ·exact h.elim
  ·exact h.elim
 case index t x i=>
  split at h
  ·obtain⟨a,k,n,hx,hi,h0,h1,hk⟩:=h;exact⟨_,hk,a,k,n,hx,hi,h0,h1,rfl⟩
  ·split at h
   ·split at h
    ·obtain⟨a,k,n,hx,hi,h0,h1,hk⟩:=h;exact⟨_,hk,a,k,n,hx,hi,h0,h1,rfl⟩
    ·obtain⟨a,k,n,hx,hi,h0,h1,hk⟩:=h;exact⟨_,hk,a,k,n,hx,hi,h0,h1,rfl⟩
    ·obtain⟨a,k,n,hx,hi,h0,h1,v,hv,hk⟩:=h;exact⟨_,hk,a,k,n,hx,hi,h0,h1,v,hv,rfl⟩
    ·exact h.elim
   ·exact h.elim
  ·exact h.elim
 case field t x f=>
  split at h
  ·split at h
   ·split at h
    ·split at h
     ·obtain⟨cs,hx,hk⟩:=h;exact⟨_,hk,cs,hx,rfl⟩
     ·exact h.elim
    ·split at h
     ·obtain⟨cs,hx,hk⟩:=h;exact⟨_,hk,cs,hx,rfl⟩
     ·exact h.elim
    ·obtain⟨cs,v,hx,hv,hk⟩:=h;exact⟨_,hk,cs,v,hx,hv,rfl⟩
    ·exact h.elim
   ·exact h.elim
  ·exact h.elim
 case binOp op t x y yt=>
  simp only[blind] at hb;split at h
  ·obtain⟨v,hv,hk⟩:=h;exact⟨_,hk,v,hv,rfl⟩
  ·obtain⟨v,hv,hk⟩:=h;exact⟨_,hk,v,hv,rfl⟩
  ·split at h
   ·obtain⟨a,b,hx,hy,hk⟩:=h;exact⟨_,hk,a,b,hx,hy,rfl⟩
   ·obtain⟨a,b,hx,hy,hk⟩:=h;exact⟨_,hk,a,b,hx,hy,rfl⟩
   ·exact h.elim
  ·split at h
   ·rcases h with⟨b,hx,hk⟩|⟨i,q,hi,hx,hy,hk⟩
    ·exact⟨_,hk,.inl ⟨b,hx,rfl⟩⟩
    ·exact⟨_,hk,.inr ⟨i,q,hi,hx,hy,rfl⟩⟩
   ·rcases h with⟨b,hx,hk⟩|⟨i,q,hi,hx,hy,hk⟩
    ·exact⟨_,hk,.inl ⟨b,hx,rfl⟩⟩
    ·exact⟨_,hk,.inr ⟨i,q,hi,hx,hy,rfl⟩⟩
   ·exact h.elim
  ·rename_i d e1 e2 e3 e4 hu;rw[hu] at hb
   cases d <;> first|exact absurd rfl (e1 _)|exact absurd rfl e2|exact absurd rfl e3|exact absurd rfl (e4 _)|cases hb
  ·exact h.elim
 case unOp op t x=>obtain⟨v,hv,hk⟩:=h;exact⟨_,hk,v,hv,rfl⟩
 case convert s d x=>
  simp only[blind] at hb;split at hb
  ·rename_i e1 e2;rw[e1,e2] at h ⊢;obtain⟨k,n,hx,hk⟩:=h;exact⟨_,hk,k,n,hx,rfl⟩
  ·cases hb
 case makeInterface t x=>
  split at h
  ·exact h.elim
  ·exact⟨_,h,rfl⟩
  ·exact h.elim
 case extract x i=>obtain⟨vs,v,hx,hv,hk⟩:=h;exact⟨_,hk,vs,v,hx,hv,rfl⟩
theorem Zcs {ops:List Oper}{b:Nat->Nat->Bool}{K:Env->World->Prop}:∀ (r:List Oper) (i:Nat) (pend:List (Nat × Node × Value)) (past:List (Nat × World)) (pA:List (Nat × Sem Next × Value))
  (ρ:Env) (w:World) (a:Act),vcSt P n ops b r i pend past ρ w K->Fits n ρ a->(∀ j,r[j]?=ops[i+j]?)->Rel P pend pA->
  Fr P ops.toArray b (λa w=>∃ ρ',Fits n ρ' a/\K ρ' w) (List.range' i r.length) pA past a w
 |[],i,pend,past,pA,ρ,w,a,h,hf,hr,hrel=>⟨ρ,hf,h⟩
 |o::r,i,pend,past,pA,ρ,w,a,h,hf,hr,hrel=>by
  have hoi:ops.toArray[i]?=some o:=by
   have:=hr 0;simp at this;simp[<-this]
  have hr':∀ j,r[j]?=ops[i+1+j]?:=by
   intro j;have:=hr (j+1);rw[show i+1+j=i+(j+1) by omega,<-this];simp
  rw[List.length_cons,List.range'_succ];unfold Fr;simp only[hoi]
  have ex:stEx P n ops b i o pend past ρ w (λpend' past' ρ' w'=>vcSt P n ops b r (i+1) pend' past' ρ' w' K)->
    (if stillOp o.op=true then
     ∃ v,Yl P (execOp a.eval o) v w/\pkA P (b i) past (execOp a.eval o) v/\Fr P ops.toArray b (λa w=>∃ ρ',Fits n ρ' a/\K ρ' w) (List.range' (i+1) r.length) ((i,execOp a.eval o,v)::pA) past (a.put o.dst v) w
    else EffOp P o a w λv w'=>rkA P (b i) pA w'/\Fr P ops.toArray b (λa w=>∃ ρ',Fits n ρ' a/\K ρ' w) (List.range' (i+1) r.length) pA ((i,w)::past) (a.put o.dst v) w'):=by
   intro h;unfold stEx at h
   cases hs:stillOp o.op with
   |true=>
    rw[hs] at h;rw[if_pos rfl];rw[hf.eval]
    cases hb:blind P o with
    |true=>
     rw[hb] at h;obtain⟨v,g2,hv⟩:=Zjc hb h;have hy:∀ w',Yl P (execOp ρ.ev o) v w':=λw'=>Zbg (Zfm hb hv) hs;obtain⟨ρ',hf',hp⟩:=put_spec hf g2;refine⟨v,hy w,λe w0 he hb=>hy w0,?_⟩;refine Zae hp hf' λρ'' hf'' hK=>Zcs r (i+1) _ _ _ ρ'' w _ hK hf'' hr' ?_;intro x m' v' hx;rcases List.mem_cons.1 hx with e|hx
     ·cases e;exact .inl hy
     ·exact hrel x m' v' hx
    |false=>
     rw[hb] at h;obtain⟨v,h1,h2⟩:=Zgs h hs;obtain⟨g1,g2⟩:=Zge h1;obtain⟨ρ',hf',hp⟩:=put_spec hf g2;refine⟨v,h2,λe w0 he hb=>Zbg (g1 e w0 he hb) hs,?_⟩;refine Zae hp hf' λρ'' hf'' hK=>Zcs r (i+1) _ _ _ ρ'' w _ hK hf'' hr' ?_;intro x m' v' hx;rcases List.mem_cons.1 hx with e|hx
     ·cases e;exact .inr ⟨_,List.mem_cons_self,λw hw=>Zbg hw hs⟩
     ·rcases hrel x m' v' hx with h|⟨k,h5,h6⟩
      ·exact .inl h
      ·exact .inr ⟨k,List.mem_cons_of_mem _ h5,h6⟩
   |false=>
    rw[hs] at h;rw[if_neg (by simp)];refine (Zgh h hf.eval).mono λv w' hv=>?_;obtain⟨g1,g2⟩:=Zf6 hv;obtain⟨ρ',hf',hp⟩:=put_spec hf g2;refine⟨λx m v hx hb=>?_,Zae hp hf' λρ'' hf'' hK=>Zcs r (i+1) _ _ _ ρ'' w' _ hK hf'' hr' hrel⟩;rcases hrel x m v hx with h|⟨k,h5,h6⟩
    ·exact h w'
    ·exact h6 w' (g1 x k v h5 hb)
  have skip:(ρ.put n o.dst undef λρ'=>vcSt P n ops b r (i+1) pend past ρ' w K)->
    Fr P ops.toArray b (λa w=>∃ ρ',Fits n ρ' a/\K ρ' w) (List.range' (i+1) r.length) pA past (a.put o.dst undef) w:=λh=>by
   obtain⟨ρ',hf',hp⟩:=put_spec hf h;exact Zcs r (i+1) _ _ _ ρ' w _ hp hf' hr' hrel
  unfold vcSt stG at h;split at h
  ·rename_i hg;rw[if_pos (by simp[Region.wanted,hg])];exact ex h
  ·rename_i j want hg;split at h
   ·exact h.elim
   ·rename_i d hd;have hy:=Zcq hf hd
    have hw:Region.wanted o (yielded ops.toArray a.tmps)=((match ρ.get d with|.bool b=>some b|_=>none)==some want):=by
     simp only[Region.wanted,hg,hy]
    rw[hw];split at h
    all_goals first
     |exact h.elim
     |(rename_i e;rw[e];rw[if_pos (by decide)];exact ex h)
     |(rename_i e;rw[e];rw[if_neg (by decide)];exact skip h)
     |(rename_i e;rw[e];rw[if_neg (by simp)];exact skip h)
end

section
variable {P:Program}{ops:Array Oper}{bef:Nat->Nat->Bool}{Q:Act->World->Prop}
structure Laid (ops:Array Oper) (bef:Nat->Nat->Bool):Prop where
 fwd:∀ i o,ops[i]?=some o->∀ e∈o.after,Region.binds .any e=true->e.on < i
 clos:∀ i o x,ops[i]?=some o->bef i x=true->∃ e∈o.after,Region.binds .any e=true/\(e.on=x\/bef e.on x=true)
def PassX (ops:Array Oper) (bef:Nat->Nat->Bool) (ex:Nat->Nat->Prop) (R:List Nat):Prop:=
 R.Pairwise λx i=>bef i x=true\/ex x i\/∀ ox oi,ops[x]?=some ox->ops[i]?=some oi->Pair ops bef x i ox oi
structure Left (ops:Array Oper) (bef:Nat->Nat->Bool) (ex:Nat->Nat->Prop) (fuel:Nat) (listed:Array Bool) (R:List Nat):Prop where
 len:R.length=fuel
 nd:R.Nodup
 mem:∀ j,j∈R↔j < ops.size/\listed.getD j true=false
 pass:PassX ops bef ex R
theorem Zni (hs:Laid ops bef){listed:Array Bool}(hsz:listed.size=ops.size)
  (hc:∀ j oj,ops[j]?=some oj->listed.getD j false=true->∀ e∈oj.after,Region.binds .any e=true->listed.getD e.on false=true) :
  ∀ (i:Nat) (x:Nat),listed.getD i false=true->bef i x=true->listed.getD x false=true:=by
 intro i
 induction i using Nat.strongRecOn with
 |_ i ih=>
  intro x hl hb
  have hlt:i < ops.size:=by
   rw[<-hsz];rcases Nat.lt_or_ge i listed.size with h|h
   ·exact h
   ·simp[Array.getElem?_eq_none h] at hl
  have ho:ops[i]?=some ops[i]:=Array.getElem?_eq_getElem hlt;obtain⟨e,he,hbd,hx⟩:=hs.clos i _ x ho hb;have h1:=hc i _ ho hl e he hbd;rcases hx with rfl|hx
  ·exact h1
  ·exact ih e.on (hs.fwd i _ ho e he hbd) x h1 hx
theorem least_of {p:Nat->Prop}{n:Nat}(h:p n):∃ m,p m/\∀ k,k < m->¬ p k:=by
 induction n using Nat.strongRecOn with
 |_ n ih=>
  by_cases h2:∃ k,k < n/\p k
  ·obtain⟨k,hk,hp⟩:=h2;exact ih k hk hp
  ·exact⟨n,h,λk hk hp=>h2 ⟨k,hk,hp⟩⟩
theorem Zur {listed:Array Bool}{i:Nat}(hsz:listed.size=ops.size) (hi:i < ops.size):(listed.getD i true=false↔¬ listed.getD i false=true):=by
 simp[hsz,hi]
section
variable {ex:Nat->Nat->Prop}{fuel:Nat}{listed:Array Bool}{R:List Nat}
theorem Left.some_ready (hs:Laid ops bef) (hsz:listed.size=ops.size) (hL:Left ops bef ex (fuel+1) listed R):Region.ready .any ops listed≠[]:=by
 intro h0;have hl:=hL.len;obtain⟨r,hr⟩:=List.exists_mem_of_ne_nil R (by intro e;subst e;simp at hl);obtain⟨r0,hr0,hmin⟩:=least_of (p:=λj=>j∈R) hr;obtain⟨hr0s,hl0⟩:=(hL.mem r0).1 hr0
 have:r0∈Region.ready .any ops listed:=by
  refine mem_ready.2 ⟨hl0,ops[r0],Array.getElem?_eq_getElem hr0s,λe he hb=>?_⟩;have hlt:=hs.fwd r0 _ (Array.getElem?_eq_getElem hr0s) e he hb
  have hes:e.on < ops.size:=by omega
  cases hh:listed.getD e.on false with
  |true=>rfl
  |false=>exact absurd ((hL.mem e.on).2 ⟨hes,(Zur hsz hes).2 (by rw[hh];simp)⟩) (hmin e.on hlt)
 rw[h0] at this;cases this
theorem Left.free (hs:Laid ops bef) (hsz:listed.size=ops.size)
  (hc:∀ j oj,ops[j]?=some oj->listed.getD j false=true->∀ e∈oj.after,Region.binds .any e=true->listed.getD e.on false=true)
  {i:Nat} {oi:Oper} (hoi:ops[i]?=some oi) (hall:∀ e∈oi.after,Region.binds .any e=true->listed.getD e.on false=true)
  {x:Nat} (hxs:x < ops.size) (hxu:listed.getD x true=false):bef i x=false:=by
 cases hb:bef i x with
 |false=>rfl
 |true=>
  exfalso;obtain⟨e,he,hbd,hx'⟩:=hs.clos i _ x hoi hb;have h1:=hall e he hbd
  have h2:listed.getD x false=true:=by
   rcases hx' with rfl|hx'
   ·exact h1
   ·exact Zni hs hsz hc e.on x h1 hx'
  exact (Zur hsz hxs).1 hxu h2
theorem Left.set {i:Nat}(hsz:listed.size=ops.size) (his:i < ops.size) (hL:Left ops bef ex (fuel+1) listed R) (hu:listed.getD i true=false) :
  Left ops bef ex fuel (listed.setIfInBounds i true) (R.erase i):=by
 have hiR:=(hL.mem i).2 ⟨his,hu⟩;refine⟨by rw[List.length_erase_of_mem hiR,hL.len];rfl,hL.nd.erase i,λj=>?_,List.Pairwise.sublist List.erase_sublist hL.pass⟩;rw[hL.nd.mem_erase_iff]
 by_cases hji:j=i
 ·subst hji
  constructor
  ·intro h;exact absurd rfl h.1
  ·rintro⟨_,h⟩;simp[hsz,his] at h
 ·rw[getD_set_ne true (λh=>hji h.symm),<-hL.mem j];simp[hji]
theorem Zbx {i:Nat}{oi:Oper}(hoi:ops[i]?=some oi) (hall:∀ e∈oi.after,Region.binds .any e=true->listed.getD e.on false=true)
  (hc:∀ j oj,ops[j]?=some oj->listed.getD j false=true->∀ e∈oj.after,Region.binds .any e=true->listed.getD e.on false=true) :
  ∀ j oj,ops[j]?=some oj->(listed.setIfInBounds i true).getD j false=true->∀ e∈oj.after,Region.binds .any e=true->(listed.setIfInBounds i true).getD e.on false=true:=by
 intro j oj hj hl' e he hb
 by_cases hji:i=j
 ·subst hji;have:oj=oi:=Option.some.inj (hj.symm.trans hoi);subst this;exact getD_set_true (hall e he hb)
 ·rw[getD_set_ne false hji] at hl';exact getD_set_true (hc j oj hj hl' e he hb)
theorem Left.pull {i:Nat}{oi:Oper}{a:Act}{w:World}(hoi:ops[i]?=some oi) (hL:Left ops bef ex (fuel+1) listed R) (hu:listed.getD i true=false)
  (hfree:∀ x,x < ops.size->listed.getD x true=false->bef i x=false) (hex:∀ x,¬ ex x i) (h:Fr P ops bef Q R [] [] a w):Gr P ops bef Q i oi (R.erase i) [] [] a w:=by
 have his:i < ops.size:=(Array.getElem?_eq_some_iff.1 hoi).1;obtain⟨X,Y,rfl⟩:=List.append_of_mem ((hL.mem i).2 ⟨his,hu⟩);have hiX:i∉X:=λh=>(List.nodup_append.1 hL.nd).2.2 i h i List.mem_cons_self rfl;rw[List.erase_append_right _ hiX,List.erase_cons_head];refine Fr.pull hoi Y X (λx hx=>?_) h;obtain⟨hxs,hxu⟩:=(hL.mem x).1 (List.mem_append_left _ hx);refine⟨ops[x],Array.getElem?_eq_getElem hxs,?_⟩;rcases (List.pairwise_append.1 hL.pass).2.2 x hx i List.mem_cons_self with hp|hp|hp
 ·rw[hfree x hxs hxu] at hp;cases hp
 ·exact absurd hp (hex x)
 ·exact hp _ _ (Array.getElem?_eq_getElem hxs) hoi
end
theorem Zik (hs:Laid ops bef){Q':Exit->Act->World->Prop}(hQ:∀ a w,Q a w->Q' .normal a w):∀ (fuel:Nat) (listed:Array Bool) (R:List Nat) (a:Act) (w:World),
  listed.size=ops.size->Left ops bef (λ_ _=>False) fuel listed R->
  (∀ j oj,ops[j]?=some oj->listed.getD j false=true->∀ e∈oj.after,Region.binds .any e=true->listed.getD e.on false=true)->
  Fr P ops bef Q R [] [] a w->wpAny P .any ops Q' fuel listed a w:=by
 intro fuel
 induction fuel with
 |zero=>
  intro listed R a w hsz hL hc h;have:R=[]:=List.eq_nil_of_length_eq_zero hL.len;subst this;refine⟨?_,hQ _ _ h⟩
  cases hr:Region.ready .any ops listed with
  |nil=>rfl
  |cons y ys=>
   exfalso
   have hy:y∈Region.ready .any ops listed:=by rw[hr];exact List.mem_cons_self
   obtain⟨h1,o,ho,_⟩:=mem_ready.1 hy;have:=(hL.mem y).2 ⟨(Array.getElem?_eq_some_iff.1 ho).1,h1⟩;cases this
 |succ fuel ih=>
  intro listed R a w hsz hL hc h;refine⟨λh0=>absurd h0 (hL.some_ready hs hsz),λi hi=>?_⟩;obtain⟨hu,oi,hoi,hall⟩:=mem_ready.1 hi;have his:i < ops.size:=(Array.getElem?_eq_some_iff.1 hoi).1;refine (hL.pull hoi hu (λx hxs hxu=>Left.free hs hsz hc hoi hall hxs hxu) (λ_ h=>h) h).step hoi λa' w' hf=>?_;exact ih _ _ a' w' (by simp[hsz]) (hL.set hsz his hu) (Zbx hoi hall hc) hf
theorem Left.one {A B:Nat}{fuel:Nat}{listed:Array Bool}{R:List Nat}(hL:Left ops bef (λx i=>x=A/\i=B) fuel listed R) (h:listed.getD A true=true\/listed.getD B true=true):Left ops bef (λ_ _=>False) fuel listed R:=by
 refine⟨hL.len,hL.nd,hL.mem,List.Pairwise.imp_of_mem (λ{x i} hx hi hp=>?_) hL.pass⟩;rcases hp with hp|⟨rfl,rfl⟩|hp
 ·exact .inl hp
 ·exfalso;have h1:=((hL.mem _).1 hx).2;have h2:=((hL.mem _).1 hi).2;rcases h with h|h
  ·rw[h1] at h;cases h
  ·rw[h2] at h;cases h
 ·exact .inr (.inr hp)
theorem Zr6 (hs:Laid ops bef){A B:Nat}(hAB:A≠B) (hAs:A < ops.size) (hBs:B < ops.size)
  (hE:∀ i o,ops[i]?=some o->stillOp o.op=false->i≠A->i≠B->bef i A=true/\bef i B=true)
  (hEA:∀ o,ops[A]?=some o->stillOp o.op=false) (hEB:∀ o,ops[B]?=some o->stillOp o.op=false)
  {Q':Exit->Act->World->Prop} (hQ:∀ a w,Q a w->Q' .normal a w):∀ (fuel:Nat) (listed:Array Bool) (R1 R2:List Nat) (a:Act) (w:World),
  listed.size=ops.size->Left ops bef (λx i=>x=A/\i=B) fuel listed R1->Left ops bef (λx i=>x=B/\i=A) fuel listed R2->listed.getD A true=false->listed.getD B true=false->
  (∀ j oj,ops[j]?=some oj->listed.getD j false=true->∀ e∈oj.after,Region.binds .any e=true->listed.getD e.on false=true)->
  Fr P ops bef Q R1 [] [] a w->Fr P ops bef Q R2 [] [] a w->wpAny P .any ops Q' fuel listed a w:=by
 intro fuel
 induction fuel with
 |zero=>
  intro listed R1 R2 a w hsz hL1 hL2 hA hB hc h1 h2;exfalso;have:R1=[]:=List.eq_nil_of_length_eq_zero hL1.len;have h3:=(hL1.mem A).2 ⟨hAs,hA⟩;rw[this] at h3;cases h3
 |succ fuel ih=>
  intro listed R1 R2 a w hsz hL1 hL2 hA hB hc h1 h2;refine⟨λh0=>absurd h0 (hL1.some_ready hs hsz),λi hi=>?_⟩;obtain⟨hu,oi,hoi,hall⟩:=mem_ready.1 hi;have his:i < ops.size:=(Array.getElem?_eq_some_iff.1 hoi).1;have hfree:∀ x,x < ops.size->listed.getD x true=false->bef i x=false:=λx hxs hxu=>Left.free hs hsz hc hoi hall hxs hxu
  have hset:(listed.setIfInBounds i true).getD i true=true:=by simp[hsz,his]
  by_cases hiA:i=A
  ·subst hiA;refine (hL1.pull hoi hu hfree (λx h=>hAB h.2) h1).step hoi λa' w' hf=>?_;exact Zik hs hQ _ _ _ a' w' (by simp[hsz]) ((hL1.set hsz his hu).one (.inl hset)) (Zbx hoi hall hc) hf
  ·by_cases hiB:i=B
   ·subst hiB;refine (hL2.pull hoi hu hfree (λx h=>hiA h.2) h2).step hoi λa' w' hf=>?_;exact Zik hs hQ _ _ _ a' w' (by simp[hsz]) ((hL2.set hsz his hu).one (.inl hset)) (Zbx hoi hall hc) hf
   ·have hst:stillOp oi.op=true:=by
     cases hst:stillOp oi.op with
     |true=>rfl
     |false=>
      have:=(hE i oi hoi hst hiA hiB).1;rw[hfree A hAs hA] at this;cases this
    have g1:=hL1.pull hoi hu hfree (λx h=>hiB h.2) h1;have g2:=hL2.pull hoi hu hfree (λx h=>hiA h.2) h2
    have go:∀ a' w',Fr P ops bef Q (R1.erase i) [] [] a' w'->Fr P ops bef Q (R2.erase i) [] [] a' w'->wpAny P .any ops Q' fuel (listed.setIfInBounds i true) a' w':=λa' w' f1 f2=>
     ih _ _ _ a' w' (by simp[hsz]) (hL1.set hsz his hu) (hL2.set hsz his hu) (by rw[getD_set_ne true (λh=>hiA h)];exact hA) (by rw[getD_set_ne true (λh=>hiB h)];exact hB) (Zbx hoi hall hc) f1 f2
    unfold wpOp;simp only[hoi];unfold Gr at g1 g2
    by_cases hw:Region.wanted oi (yielded ops a.tmps)=true
    ·rw[if_pos hw,if_pos hst] at g1 g2;rw[if_pos hw];refine .inl ?_;obtain⟨v,k1,_,k3⟩:=g1;obtain⟨v',k1',_,k3'⟩:=g2
     have hv:v'=v:=by
      unfold Yl at k1 k1';rw[k1] at k1';simp at k1';exact k1'.symm
     subst hv;unfold Oper.wp;rw[show (execOp a.eval oi).run P w=.ok (.value v') w from k1];exact go _ _ k3 k3'
    ·rw[if_neg hw] at g1 g2;rw[if_neg hw];exact go _ _ g1 g2
theorem Zjo {id:Nat}{a:Act}{w:World}{Q':Exit->Act->World->Prop}(hm:P.follows .mixedOrders=true) (hs:Laid ops bef){A B:Nat}(hAB:A≠B) (hAs:A < ops.size) (hBs:B < ops.size)
  (hE:∀ i o,ops[i]?=some o->stillOp o.op=false->i≠A->i≠B->bef i A=true/\bef i B=true)
  (hEA:∀ o,ops[A]?=some o->stillOp o.op=false) (hEB:∀ o,ops[B]?=some o->stillOp o.op=false) {R1 R2:List Nat}
  (hl1:R1.length=ops.size) (hl2:R2.length=ops.size) (hn1:R1.Nodup) (hn2:R2.Nodup) (hm1:∀ j,j∈R1↔j < ops.size) (hm2:∀ j,j∈R2↔j < ops.size)
  (hp1:PassX ops bef (λx i=>x=A/\i=B) R1) (hp2:PassX ops bef (λx i=>x=B/\i=A) R2) (hQ:∀ a w,Q a w->Q' .normal a w)
  (h1:Fr P ops bef Q R1 [] [] a w.drew) (h2:Fr P ops bef Q R2 [] [] a w.drew):(Code.region id ops true).wp P Q' a w:=by
 have hz:∀ j,j < ops.size->(Array.replicate ops.size false).getD j true=false:=λj hj=>by simp[hj]
 refine wp_region_any hm (Zr6 hs hAB hAs hBs hE hEA hEB hQ ops.size _ R1 R2 a _ (by simp) ⟨hl1,hn1,λj=>?_,hp1⟩ ⟨hl2,hn2,λj=>?_,hp2⟩ (hz A hAs) (hz B hBs) ?_ h1 h2)
 ·rw[hm1];exact⟨λh=>⟨h,hz j h⟩,λh=>h.1⟩
 ·rw[hm2];exact⟨λh=>⟨h,hz j h⟩,λh=>h.1⟩
 ·intro j oj hj hl;have:=getD_replicate_false ops.size j;rw[this] at hl;cases hl
end

inductive Tr where
 |dn
 |op (i:Nat) (t:Tr)
 |fk (a b:Tr)
def Tr.ps:Tr->List (List Nat)
 |.dn=>[[]]
 |.op i t=>t.ps.map (i::·)
 |.fk a b=>a.ps++b.ps
theorem Tr.ps_some:∀ (t:Tr),∃ R,R∈t.ps
 |.dn=>⟨[],by simp[Tr.ps]⟩
 |.op i t=>by
  obtain⟨R,h⟩:=t.ps_some;exact⟨i::R,by simp[Tr.ps,h]⟩
 |.fk a b=>by
  obtain⟨R,h⟩:=a.ps_some;exact⟨R,by simp[Tr.ps,h]⟩
section
variable {P:Program}{ops:Array Oper}{bef:Nat->Nat->Bool}{Q:Act->World->Prop}
def pkT (P:Program) (b:Nat->Bool):List (Nat × World)->Sem Next->Value->Prop
 |[],_,_=>True
 |(e,w0)::r,m,v=>b e=true\/(Yl P m v w0/\pkT P b r m v)
theorem Ztc {b:Nat->Bool}{m:Sem Next}{v:Value}{old:List (Nat × World)}:∀ {l:List (Nat × World)},pkT P b (l++old) m v->pkT P b l m v
 |[],_=>trivial
 |(e,w0)::r,h=>h.imp id λh=>⟨h.1,Ztc (l:=r) h.2⟩
theorem Ztp {b:Nat->Bool}{m:Sem Next}{v:Value}(h:∀ w,Yl P m v w):∀ (l:List (Nat × World)),pkT P b l m v
 |[]=>trivial
 |(e,w0)::r=>.inr ⟨h w0,Ztp h r⟩
def FrT (P:Program) (ops:Array Oper) (bef:Nat->Nat->Bool) (Q:Act->World->Prop):Tr->List (Nat × Sem Next × Value)->List (Nat × World)->Act->World->Prop
 |.dn,_,_,a,w=>Q a w
 |.op i r,pend,past,a,w=>
  match ops[i]? with
  |none=>False
  |some o=>
   if Region.wanted o (yielded ops a.tmps)=true then
    if stillOp o.op=true then
     ∃ v,Yl P (execOp a.eval o) v w/\pkT P (bef i) past (execOp a.eval o) v/\FrT P ops bef Q r ((i,execOp a.eval o,v)::pend) past (a.put o.dst v) w
    else EffOp P o a w λv w'=>rkA P (bef i) pend w'/\FrT P ops bef Q r pend ((i,w)::past) (a.put o.dst v) w'
   else FrT P ops bef Q r pend past (a.put o.dst undef) w
 |.fk x y,pend,past,a,w=>FrT P ops bef Q x pend past a w/\FrT P ops bef Q y pend past a w
def GrT (P:Program) (ops:Array Oper) (bef:Nat->Nat->Bool) (Q:Act->World->Prop) (i:Nat) (o:Oper) (R:Tr) (pend:List (Nat × Sem Next × Value)) (past:List (Nat × World)) (a:Act) (w:World):Prop:=
 if Region.wanted o (yielded ops a.tmps)=true then
  if stillOp o.op=true then
   ∃ v,Yl P (execOp a.eval o) v w/\pkT P (bef i) past (execOp a.eval o) v/\FrT P ops bef Q R pend past (a.put o.dst v) w
  else EffOp P o a w λv w'=>rkA P (bef i) pend w'/\FrT P ops bef Q R pend ((i,w)::past) (a.put o.dst v) w'
 else FrT P ops bef Q R pend past (a.put o.dst undef) w
theorem FrT.weak:∀ (r:Tr){pend pend':List (Nat × Sem Next × Value)}{past old:List (Nat × World)}{a:Act}{w:World},
  FrT P ops bef Q r pend (past++old) a w->(∀ x∈pend',x∈pend)->FrT P ops bef Q r pend' past a w
 |.dn,_,_,_,_,_,_,h,_=>h
 |.fk x y,_,_,_,_,_,_,h,hp=>⟨FrT.weak x h.1 hp,FrT.weak y h.2 hp⟩
 |.op i r,pend,pend',past,old,a,w,h,hp=>by
  unfold FrT at h ⊢;split at h
  ·exact h.elim
  ·rename_i o ho;split at h
   ·rename_i hw;rw[if_pos hw];split at h
    ·rename_i hs;rw[if_pos hs];obtain⟨v,h1,h2,h3⟩:=h;refine⟨v,h1,Ztc h2,FrT.weak r h3 λx hx=>?_⟩;rcases List.mem_cons.1 hx with rfl|hx
     ·exact List.mem_cons_self
     ·exact List.mem_cons_of_mem _ (hp _ hx)
    ·rename_i hs;rw[if_neg hs];exact h.mono λv w' ⟨h1,h2⟩=>⟨λx m v hx hb=>h1 x m v (hp _ hx) hb,FrT.weak (past:=(i,w)::past) r h2 hp⟩
   ·rename_i hw;rw[if_neg hw];exact FrT.weak r h hp
theorem FrT.less (r:Tr){pend pend':List (Nat × Sem Next × Value)}{past:List (Nat × World)}{a:Act}{w:World}(h:FrT P ops bef Q r pend past a w) (hp:∀ x∈pend',x∈pend):FrT P ops bef Q r pend' past a w:=
 FrT.weak (old:=[]) r (by rw[List.append_nil];exact h) hp
inductive Pl (s:Prop) (C:Nat->Prop) (i:Nat):Tr->Tr->Prop where
 |here (t:Tr):Pl s C i (.op i t) t
 |there {x:Nat} {t t':Tr}:C x->Pl s C i t t'->Pl s C i (.op x t) (.op x t')
 |both {a b a' b':Tr}:s->Pl s C i a a'->Pl s C i b b'->Pl s C i (.fk a b) (.fk a' b')
 |l {a b a':Tr}:Pl s C i a a'->Pl s C i (.fk a b) a'
 |r {a b b':Tr}:Pl s C i b b'->Pl s C i (.fk a b) b'
theorem FrT.pull {i:Nat}{oi:Oper}(hi:ops[i]?=some oi){t t':Tr}(h0:Pl (stillOp oi.op=true) (λx=>∃ ox,ops[x]?=some ox/\Pair ops bef x i ox oi) i t t') :
  ∀ {pend:List (Nat × Sem Next × Value)} {past:List (Nat × World)} {a:Act} {w:World},FrT P ops bef Q t pend past a w->GrT P ops bef Q i oi t' pend past a w:=by
 induction h0 with
 |here Y=>
  intro pend past a w h;unfold FrT at h;simp only[hi] at h;unfold GrT;split at h
  ·rename_i hw;rw[if_pos hw];split at h
   ·rename_i hs;rw[if_pos hs];obtain⟨v,h1,h2,h3⟩:=h;exact⟨v,h1,h2,FrT.less Y h3 λx hx=>List.mem_cons_of_mem _ hx⟩
   ·rename_i hs;rw[if_neg hs];exact h
  ·rename_i hw;rw[if_neg hw];exact h
 |l _ ih=>exact λh=>ih h.1
 |r _ ih=>exact λh=>ih h.2
 |both hst _ _ iha ihb=>
  intro pend past a w h;have ga:=iha h.1;have gb:=ihb h.2;unfold GrT at ga gb ⊢
  by_cases hw:Region.wanted oi (yielded ops a.tmps)=true
  ·rw[if_pos hw,if_pos hst] at ga gb ⊢;obtain⟨v,k1,k2,k3⟩:=ga;obtain⟨v',k1',_,k3'⟩:=gb
   have hv:v'=v:=by
    unfold Yl at k1 k1';rw[k1] at k1';simp at k1';exact k1'.symm
   subst hv;exact⟨v',k1,k2,k3,k3'⟩
  ·rw[if_neg hw] at ga gb ⊢;exact⟨ga,gb⟩
 |@there x X X' hC _ ihX=>
  intro pend past a w h;obtain⟨ox,hox,hp⟩:=hC;obtain⟨a1,a2,a3⟩:=Oper.apart_spec hp.ap;have wi:∀ (a:Act) v,Region.wanted oi (yielded ops (a.put ox.dst v).tmps)=Region.wanted oi (yielded ops a.tmps):=λa v=>wanted_put oi a ox.dst v a1;have ei:∀ (a:Act) v,execOp (a.put ox.dst v).eval oi=execOp a.eval oi:=λa v=>execOp_put oi hp.si a ox.dst v a1;have wx:∀ (a:Act) v,Region.wanted ox (yielded ops (a.put oi.dst v).tmps)=Region.wanted ox (yielded ops a.tmps):=λa v=>wanted_put ox a oi.dst v a3;have ex:∀ (a:Act) v,execOp (a.put oi.dst v).eval ox=execOp a.eval ox:=λa v=>execOp_put ox hp.sx a oi.dst v a3;have cm:∀ (a:Act) v u,(a.put ox.dst v).put oi.dst u=(a.put oi.dst u).put ox.dst v:=λa v u=>Act.put_comm a v u a2;unfold FrT at h;simp only[hox] at h
  have back_no:∀ {pend past u w'},Region.wanted ox (yielded ops a.tmps)≠true->FrT P ops bef Q X' pend past ((a.put ox.dst undef).put oi.dst u) w'->
    FrT P ops bef Q (.op x X') pend past (a.put oi.dst u) w':=by
   intro pend past u w' hw hh;rw[cm] at hh;unfold FrT;simp only[hox];rw[wx,if_neg hw];exact hh
  split at h
  ·rename_i hwx;split at h
   ·rename_i hsx;obtain⟨v,h1,h2,h3⟩:=h;have ih:=ihX h3
    have back:∀ {u w' past},pkT P (bef x) past (execOp a.eval ox) v->Yl P (execOp a.eval ox) v w'->FrT P ops bef Q X' ((x,execOp a.eval ox,v)::pend) past ((a.put ox.dst v).put oi.dst u) w'->
      FrT P ops bef Q (.op x X') pend past (a.put oi.dst u) w':=by
     intro u w' past h2 hy hh;rw[cm] at hh;unfold FrT;simp only[hox];rw[wx,if_pos hwx,if_pos hsx,ex];exact⟨v,hy,h2,hh⟩
    unfold GrT at ih ⊢;rw[wi,ei] at ih;split at ih
    ·rename_i hwi;rw[if_pos hwi];split at ih
     ·rename_i hsi;rw[if_pos hsi];obtain⟨u,g1,g2,g3⟩:=ih;exact⟨u,g1,g2,back h2 h1 g3⟩
     ·rename_i hsi;rw[if_neg hsi];refine (ih.of_eval (ei a v).symm).mono λu w' ⟨g1,g2⟩=>⟨λy m z hy hb=>g1 y m z (List.mem_cons_of_mem _ hy) hb,back (.inr ⟨h1,h2⟩) (g1 x _ v List.mem_cons_self hp.xi) g2⟩
    ·rename_i hwi;rw[if_neg hwi];exact back h2 h1 ih
   ·rename_i hsx;have hsi:stillOp oi.op=true:=hp.eff.resolve_left hsx;have ih:=h.mono λv w' ⟨h1,h2⟩=>And.intro h1 (ihX h2);unfold GrT
    have backE:∀ u,(EffOp P ox a w λv w'=>rkA P (bef x) pend w'/\FrT P ops bef Q X' pend ((x,w)::past) ((a.put ox.dst v).put oi.dst u) w')->
      FrT P ops bef Q (.op x X') pend past (a.put oi.dst u) w:=by
     intro u hh;unfold FrT;simp only[hox];rw[wx,if_pos hwx,if_neg hsx];refine (hh.of_eval (ex a u)).mono λv w' ⟨g1,g2⟩=>⟨g1,?_⟩;rw[<-cm];exact g2
    by_cases hwi:Region.wanted oi (yielded ops a.tmps)=true
    ·rw[if_pos hwi,if_pos hsi]
     have ih2:EffOp P ox a w λv w'=>rkA P (bef x) pend w'/\∃ u,Yl P (execOp a.eval oi) u w'/\pkT P (bef i) ((x,w)::past) (execOp a.eval oi) u/\
       FrT P ops bef Q X' pend ((x,w)::past) ((a.put ox.dst v).put oi.dst u) w':=
      ih.mono λv w' ⟨g1,g2⟩=>by
       unfold GrT at g2;rw[wi,ei,if_pos hwi,if_pos hsi] at g2;exact⟨g1,g2⟩
     obtain⟨v0,w0,_,u,_,hpk,_⟩:=ih2.exists;have hpk:=hpk.resolve_left (by rw[hp.xi];simp);have hu:Yl P (execOp a.eval oi) u w:=hpk.1;refine⟨u,hu,hpk.2,backE u (ih2.mono λv w' ⟨g1,u',_,k2,k3⟩=>?_)⟩;have hu':Yl P (execOp a.eval oi) u' w:=(k2.resolve_left (by rw[hp.xi];simp)).1
     have:u'=u:=by
      unfold Yl at hu hu';rw[hu] at hu';simp at hu';exact hu'.symm
     rw[this] at k3;exact⟨g1,k3⟩
    ·rw[if_neg hwi];refine backE undef (ih.mono λv w' ⟨g1,g2⟩=>?_);unfold GrT at g2;rw[wi,if_neg hwi] at g2;exact⟨g1,g2⟩
  ·rename_i hwx;have ih:=ihX h;unfold GrT at ih ⊢;rw[wi,ei] at ih;split at ih
   ·rename_i hwi;rw[if_pos hwi];split at ih
    ·rename_i hsi;rw[if_pos hsi];obtain⟨u,g1,g2,g3⟩:=ih;exact⟨u,g1,g2,back_no hwx g3⟩
    ·rename_i hsi;rw[if_neg hsi];exact (ih.of_eval (ei a undef).symm).mono λu w' ⟨g1,g2⟩=>⟨g1,back_no hwx g2⟩
   ·rename_i hwi;rw[if_neg hwi];exact back_no hwx ih
theorem GrT.step {i:Nat}{oi:Oper}(hi:ops[i]?=some oi){R:Tr}{pend:List (Nat × Sem Next × Value)}{a:Act}{w:World}{Q':Exit->Act->World->Prop}
  {K:Act->World->Prop} (h:GrT P ops bef Q i oi R pend [] a w) (hk:∀ a' w',FrT P ops bef Q R pend [] a' w'->K a' w'):wpOp P ops Q' i K a w:=by
 unfold wpOp;simp only[hi];unfold GrT at h;split at h
 ·rename_i hw;rw[if_pos hw];refine .inl ?_;split at h
  ·obtain⟨v,h1,_,h3⟩:=h;unfold Oper.wp;rw[show (execOp a.eval oi).run P w=.ok (.value v) w from h1];exact hk _ _ h3
  ·exact h.wp λv w' ⟨_,h2⟩=>hk _ _ (FrT.weak (past:=[]) R h2 λx hx=>hx)
 ·rename_i hw;rw[if_neg hw];exact hk _ _ h
def rmS (i:Nat):Tr->Option Tr
 |.dn=>none
 |.op x t=>match Nat.beq x i with
  |true=>some t
  |false=>(match rmS i t with
   |some t'=>some (.op x t')
   |none=>none)
 |.fk a b=>match rmS i a,rmS i b with
  |some a',some b'=>some (.fk a' b')
  |_,_=>none
theorem Zz0 {i x:Nat}{t t':Tr}(h:rmS i (.op x t)=some t'):(x=i/\t'=t)\/(x≠i/\∃ u,rmS i t=some u/\t'=.op x u):=by
 unfold rmS at h;split at h
 ·rename_i hb;exact .inl ⟨Nat.eq_of_beq_eq_true hb,(Option.some.inj h).symm⟩
 ·rename_i hb;split at h
  ·rename_i u hu;exact .inr ⟨Nat.ne_of_beq_eq_false hb,u,hu,(Option.some.inj h).symm⟩
  ·cases h
theorem Zo1 {i:Nat}{t:Tr}:rmS i (.op i t)=some t:=by unfold rmS;rw[Nat.beq_refl]
theorem Zlz {i x:Nat}{t u:Tr}(hx:x≠i) (h:rmS i t=some u):rmS i (.op x t)=some (.op x u):=by
 unfold rmS
 have:Nat.beq x i=false:=by
  cases hb:Nat.beq x i with
  |false=>rfl
  |true=>exact absurd (Nat.eq_of_beq_eq_true hb) hx
 rw[this,h]
theorem Zya {i:Nat}{a b t':Tr}(h:rmS i (.fk a b)=some t'):∃ a' b',rmS i a=some a'/\rmS i b=some b'/\t'=.fk a' b':=by
 unfold rmS at h;split at h
 ·rename_i a' b' ha hb;exact⟨a',b',ha,hb,(Option.some.inj h).symm⟩
 ·cases h
theorem Zgf {s:Prop}(hs:s){C:Nat->Prop}{i:Nat}:∀ (t:Tr),(∀ R∈t.ps,i∈R)->(∀ R∈t.ps,∀ X Y,R=X++i::Y->i∉X->∀ x∈X,C x)->
  ∃ t',rmS i t=some t'/\Pl s C i t t'/\∀ R'∈t'.ps,∃ R∈t.ps,R'=R.erase i
 |.dn,h,_=>by
  have:=h [] (by simp[Tr.ps]);cases this
 |.op x t,h,hC=>by
  by_cases hx:x=i
  ·subst hx;exact⟨t,Zo1,.here t,λR' hR=>⟨x::R',by simp[Tr.ps,hR],by simp⟩⟩
  ·have h1:∀ R∈t.ps,i∈R:=λR hR=>by
    have:=h (x::R) (by simp[Tr.ps,hR]);rcases List.mem_cons.1 this with e|e
    ·exact absurd e.symm hx
    ·exact e
   have h2:∀ R∈t.ps,∀ X Y,R=X++i::Y->i∉X->∀ y∈x::X,C y:=λR hR X Y e hn=>
    hC (x::R) (by simp[Tr.ps,hR]) (x::X) Y (by rw[e];rfl) (by simp[hn,Ne.symm hx])
   obtain⟨t',g1,g2,g3⟩:=Zgf hs t h1 λR hR X Y e hn y hy=>h2 R hR X Y e hn y (List.mem_cons_of_mem _ hy);obtain⟨R0,hR0⟩:=t.ps_some;obtain⟨X,Y,e,hn⟩:=List.eq_append_cons_of_mem (h1 R0 hR0);refine⟨.op x t',Zlz hx g1,.there (h2 R0 hR0 X Y e hn x List.mem_cons_self) g2,λR' hR=>?_⟩;simp only[Tr.ps,List.mem_map] at hR;obtain⟨R1,hR1,rfl⟩:=hR;obtain⟨R,hR,rfl⟩:=g3 R1 hR1;refine⟨x::R,by simp[Tr.ps,hR],?_⟩;rw[List.erase_cons,if_neg (by simpa using hx)]
 |.fk a b,h,hC=>by
  obtain⟨a',g1,g2,g3⟩:=Zgf hs a (λR hR=>h R (by simp[Tr.ps,hR])) λR hR=>hC R (by simp[Tr.ps,hR]);obtain⟨b',k1,k2,k3⟩:=Zgf hs b (λR hR=>h R (by simp[Tr.ps,hR])) λR hR=>hC R (by simp[Tr.ps,hR]);refine⟨.fk a' b',by unfold rmS;rw[g1,k1],.both hs g2 k2,λR' hR=>?_⟩;simp only[Tr.ps,List.mem_append] at hR;rcases hR with hR|hR
  ·obtain⟨R,h1,h2⟩:=g3 R' hR;exact⟨R,by simp[Tr.ps,h1],h2⟩
  ·obtain⟨R,h1,h2⟩:=k3 R' hR;exact⟨R,by simp[Tr.ps,h1],h2⟩
inductive RmE (st:Nat->Bool) (i:Nat):Tr->Tr->Prop where
 |here (t:Tr):RmE st i (.op i t) t
 |there {x:Nat} {t t':Tr}:st x=true->RmE st i t t'->RmE st i (.op x t) (.op x t')
 |l {a b a':Tr}:RmE st i a a'->RmE st i (.fk a b) a'
 |r {a b b':Tr}:RmE st i b b'->RmE st i (.fk a b) b'
theorem RmE.pl {st:Nat->Bool}{s:Prop}{C:Nat->Prop}{i:Nat}(hst:st i=false){t t':Tr}(h:RmE st i t t'):(∀ R∈t.ps,∀ X Y,R=X++i::Y->i∉X->(∀ x∈X,st x=true)->∀ x∈X,C x)->
  Pl s C i t t'/\∀ R'∈t'.ps,∃ X Y,X++i::Y∈t.ps/\i∉X/\R'=X++Y/\∀ x∈X,st x=true:=by
 induction h with
 |here t=>exact λ_=>⟨.here t,λR' hR=>⟨[],R',by simp[Tr.ps,hR],by simp,rfl,by simp⟩⟩
 |l _ ih=>
  intro hC;obtain⟨g1,g2⟩:=ih λR hR=>hC R (by simp[Tr.ps,hR]);refine⟨.l g1,λR' hR=>?_⟩;obtain⟨X,Y,h1,h2⟩:=g2 R' hR;exact⟨X,Y,by simp[Tr.ps,h1],h2⟩
 |r _ ih=>
  intro hC;obtain⟨g1,g2⟩:=ih λR hR=>hC R (by simp[Tr.ps,hR]);refine⟨.r g1,λR' hR=>?_⟩;obtain⟨X,Y,h1,h2⟩:=g2 R' hR;exact⟨X,Y,by simp[Tr.ps,h1],h2⟩
 |@there x t t' hx _ ih=>
  intro hC
  have hxi:x≠i:=λe=>by rw[e,hst] at hx;cases hx
  have h2:∀ R∈t.ps,∀ X Y,R=X++i::Y->i∉X->(∀ y∈X,st y=true)->∀ y∈x::X,C y:=λR hR X Y e hn hs=>
   hC (x::R) (by simp[Tr.ps,hR]) (x::X) Y (by rw[e];rfl) (by simp[hn,Ne.symm hxi]) (λy hy=>by
    rcases List.mem_cons.1 hy with rfl|hy
    ·exact hx
    ·exact hs y hy)
  obtain⟨g1,g2⟩:=ih λR hR X Y e hn hs y hy=>h2 R hR X Y e hn hs y (List.mem_cons_of_mem _ hy);obtain⟨R0,hR0⟩:=t'.ps_some;obtain⟨X,Y,k1,k2,k3,k4⟩:=g2 R0 hR0;refine⟨.there (h2 _ k1 X Y rfl k2 k4 x List.mem_cons_self) g1,λR' hR=>?_⟩;simp only[Tr.ps,List.mem_map] at hR;obtain⟨R1,hR1,rfl⟩:=hR;obtain⟨X,Y,k1,k2,rfl,k4⟩:=g2 R1 hR1;refine⟨x::X,Y,by simp[Tr.ps,k1],by simp[k2,Ne.symm hxi],rfl,λy hy=>?_⟩;rcases List.mem_cons.1 hy with rfl|hy
  ·exact hx
  ·exact k4 y hy
theorem RmE.comm {st:Nat->Bool}{e j:Nat}(he:st e=false) (hj:st j=true){t t1:Tr}(h:RmE st e t t1):∀ {t2:Tr},rmS j t=some t2->∃ t3,RmE st e t2 t3/\rmS j t1=some t3:=by
 have hej:e≠j:=λh=>by rw[h,hj] at he;cases he
 induction h with
 |here t=>
  intro t2 h2;rcases Zz0 h2 with⟨h,_⟩|⟨_,u,h3,rfl⟩
  ·exact absurd h hej
  ·exact⟨u,.here u,h3⟩
 |@there x t t' hx h ih=>
  intro t2 h2;rcases Zz0 h2 with⟨rfl,rfl⟩|⟨hn,u,h3,rfl⟩
  ·exact⟨t',h,Zo1⟩
  ·obtain⟨t3,g1,g2⟩:=ih h3;exact⟨.op x t3,.there hx g1,Zlz hn g2⟩
 |l h ih=>
  intro t2 h2;obtain⟨a',b',h3,h4,rfl⟩:=Zya h2;obtain⟨t3,g1,g2⟩:=ih h3;exact⟨t3,.l g1,g2⟩
 |r h ih=>
  intro t2 h2;obtain⟨a',b',h3,h4,rfl⟩:=Zya h2;obtain⟨t3,g1,g2⟩:=ih h4;exact⟨t3,.r g1,g2⟩
def Cov (st:Nat->Bool) (bef:Nat->Nat->Bool):Nat->List Nat->Tr->Prop
 |0,E,_=>E=[]
 |n+1,E,t=>∀ e∈E,(∀ x∈E,bef e x=false)->∃ t',RmE st e t t'/\Cov st bef n (E.erase e) t'
theorem Cov.still {st:Nat->Bool}{j:Nat}(hj:st j=true):∀ {n:Nat}{E:List Nat}{t t2:Tr},(∀ e∈E,st e=false)->Cov st bef n E t->rmS j t=some t2->Cov st bef n E t2
 |0,_,_,_,_,h,_=>h
 |n+1,E,t,t2,hE,h,h2=>λe he hb=>by
  obtain⟨t1,g1,g2⟩:=h e he hb;obtain⟨t3,g3,g4⟩:=g1.comm (hE e he) hj h2;exact⟨t3,g3,Cov.still hj (λx hx=>hE x (List.mem_of_mem_erase hx)) g2 g4⟩
theorem FrT.done:∀ {t:Tr}{a:Act}{w:World},(∀ R∈t.ps,R=[])->FrT P ops bef Q t [] [] a w->Q a w
 |.dn,_,_,_,h=>h
 |.op x t,_,_,h0,_=>by
  obtain⟨R,hR⟩:=t.ps_some;have:=h0 (x::R) (by simp[Tr.ps,hR]);cases this
 |.fk x y,_,_,h0,h=>FrT.done (t:=x) (λR hR=>h0 R (by simp[Tr.ps,hR])) h.1
theorem Zrd (hs:Laid ops bef){st:Nat->Bool}(hst:∀ i o,ops[i]?=some o->st i=stillOp o.op){Q':Exit->Act->World->Prop}(hQ:∀ a w,Q a w->Q' .normal a w):∀ (fuel:Nat) (listed:Array Bool) (t:Tr) (n:Nat) (E:List Nat) (a:Act) (w:World),
  listed.size=ops.size->(∀ R∈t.ps,Left ops bef (λx i=>st x=false/\st i=false) fuel listed R)->E.Nodup->(∀ j,j∈E↔j < ops.size/\st j=false/\listed.getD j true=false)->E.length=n->Cov st bef n E t->
  (∀ j oj,ops[j]?=some oj->listed.getD j false=true->∀ e∈oj.after,Region.binds .any e=true->listed.getD e.on false=true)->
  FrT P ops bef Q t [] [] a w->wpAny P .any ops Q' fuel listed a w:=by
 intro fuel
 induction fuel with
 |zero=>
  intro listed t n E a w hsz hL hnd hE hn hcov hc h;refine⟨?_,hQ _ _ (FrT.done (λR hR=>List.eq_nil_of_length_eq_zero (hL R hR).len) h)⟩
  cases hr:Region.ready .any ops listed with
  |nil=>rfl
  |cons y ys=>
   exfalso
   have hy:y∈Region.ready .any ops listed:=by rw[hr];exact List.mem_cons_self
   obtain⟨h1,o,ho,_⟩:=mem_ready.1 hy;obtain⟨R,hR⟩:=t.ps_some;have:=((hL R hR).mem y).2 ⟨(Array.getElem?_eq_some_iff.1 ho).1,h1⟩;rw[List.eq_nil_of_length_eq_zero (hL R hR).len] at this;cases this
 |succ fuel ih=>
  intro listed t n E a w hsz hL hnd hE hn hcov hc h;obtain⟨R0,hR0⟩:=t.ps_some;refine⟨λh0=>absurd h0 ((hL R0 hR0).some_ready hs hsz),λi hi=>?_⟩;obtain⟨hu,oi,hoi,hall⟩:=mem_ready.1 hi;have his:i < ops.size:=(Array.getElem?_eq_some_iff.1 hoi).1;have hfree:∀ x,x < ops.size->listed.getD x true=false->bef i x=false:=λx hxs hxu=>Left.free hs hsz hc hoi hall hxs hxu
  have hset:(listed.setIfInBounds i true).getD i true=true:=by simp[hsz,his]
  have hpair:∀ R∈t.ps,∀ X Y,R=X++i::Y->(∀ x∈X,st x=true\/st i=true)->∀ x∈X,∃ ox,ops[x]?=some ox/\Pair ops bef x i ox oi:=by
   intro R hR X Y e hx x hxX;have hl:=hL R hR;subst e;obtain⟨hxs,hxu⟩:=(hl.mem x).1 (List.mem_append_left _ hxX);refine⟨ops[x],Array.getElem?_eq_getElem hxs,?_⟩;rcases (List.pairwise_append.1 hl.pass).2.2 x hxX i List.mem_cons_self with hp|hp|hp
   ·rw[hfree x hxs hxu] at hp;cases hp
   ·rcases hx x hxX with h|h
    ·rw[h] at hp;cases hp.1
    ·rw[h] at hp;cases hp.2
   ·exact hp _ _ (Array.getElem?_eq_getElem hxs) hoi
  cases hsi:st i with
  |true=>
   have hso:stillOp oi.op=true:=by rw[<-hst i oi hoi];exact hsi
   obtain⟨t',g1,g2,g3⟩:=Zgf (s:=stillOp oi.op=true) hso (C:=λx=>∃ ox,ops[x]?=some ox/\Pair ops bef x i ox oi) t
    (λR hR=>((hL R hR).mem i).2 ⟨his,hu⟩) λR hR X Y e _ x hx=>hpair R hR X Y e (λ_ _=>.inr hsi) x hx
   refine (FrT.pull hoi g2 h).step hoi λa' w' hf=>?_;refine ih _ t' n E a' w' (by simp[hsz]) (λR' hR'=>?_) hnd (λj=>?_) hn (hcov.still hsi (λe he=>((hE e).1 he).2.1) g1) (Zbx hoi hall hc) hf
   ·obtain⟨R,hR,rfl⟩:=g3 R' hR';exact (hL R hR).set hsz his hu
   ·rw[hE]
    by_cases hji:j=i
    ·subst hji;rw[hset]
     constructor
     ·rintro⟨_,h,_⟩;rw[hsi] at h;cases h
     ·rintro⟨_,_,h⟩;cases h
    ·rw[getD_set_ne true (λh=>hji h.symm)]
  |false=>
   have hiE:i∈E:=(hE i).2 ⟨his,hsi,hu⟩
   cases n with
   |zero=>
    have:E=[]:=hcov;rw[this] at hiE;cases hiE
   |succ n=>
    obtain⟨t',g1,g2⟩:=hcov i hiE λx hx=>hfree x ((hE x).1 hx).1 ((hE x).1 hx).2.2;obtain⟨k1,k2⟩:=g1.pl (s:=stillOp oi.op=true) (C:=λx=>∃ ox,ops[x]?=some ox/\Pair ops bef x i ox oi) hsi λR hR X Y e _ hx x hxX=>hpair R hR X Y e (λy hy=>.inl (hx y hy)) x hxX;refine (FrT.pull hoi k1 h).step hoi λa' w' hf=>?_;refine ih _ t' n (E.erase i) a' w' (by simp[hsz]) (λR' hR'=>?_) (hnd.erase i) (λj=>?_) (by rw[List.length_erase_of_mem hiE];omega) g2 (Zbx hoi hall hc) hf
    ·obtain⟨X,Y,m1,m2,rfl,_⟩:=k2 R' hR';have:=(hL _ m1).set hsz his hu;rw[List.erase_append_right _ m2,List.erase_cons_head] at this;exact this
    ·rw[hnd.mem_erase_iff,hE]
     by_cases hji:j=i
     ·subst hji;rw[hset]
      constructor
      ·rintro⟨h,_⟩;exact absurd rfl h
      ·rintro⟨_,_,h⟩;cases h
     ·rw[getD_set_ne true (λh=>hji h.symm)];simp[hji]
end

def memB (j:Nat):List Nat->Bool
 |[]=>false
 |x::r=>Nat.beq x j||memB j r
def ndB:List Nat->Bool
 |[]=>true
 |x::r=>!memB x r&&ndB r
def coverB (R:List Nat):Nat->Bool
 |0=>true
 |n+1=>memB n R&&coverB R n
def ltB (n:Nat):List Nat->Bool
 |[]=>true
 |x::r=>Nat.blt x n&&ltB n r
def permB (n:Nat) (R:List Nat):Bool:=Nat.beq R.length n&&ndB R&&coverB R n&&ltB n R
theorem Zk8 {j:Nat}:∀ {R:List Nat},memB j R=true↔j∈R
 |[]=>by simp[memB]
 |x::r=>by
  simp only[memB,Bool.or_eq_true,Zk8 (R:=r),List.mem_cons]
  constructor
  ·rintro (h|h)
   ·exact .inl (Nat.eq_of_beq_eq_true h).symm
   ·exact .inr h
  ·rintro (h|h)
   ·exact .inl (by rw[h];exact Nat.beq_refl x)
   ·exact .inr h
theorem Zny:∀ {R:List Nat},ndB R=true->R.Nodup
 |[],_=>List.nodup_nil
 |x::r,h=>by
  simp only[ndB,Bool.and_eq_true,Bool.not_eq_true'] at h;refine List.nodup_cons.2 ⟨λhm=>?_,Zny h.2⟩;rw[Zk8.2 hm] at h;cases h.1
theorem Zdt {R:List Nat}:∀ {n:Nat},coverB R n=true->∀ j,j < n->j∈R
 |n+1,h,j,hj=>by
  simp only[coverB,Bool.and_eq_true] at h;rcases Nat.lt_or_ge j n with h1|h1
  ·exact Zdt h.2 j h1
  ·have:j=n:=by omega
   subst this;exact Zk8.1 h.1
theorem Zot {n:Nat}:∀ {R:List Nat},ltB n R=true->∀ j∈R,j < n
 |x::r,h,j,hj=>by
  simp only[ltB,Bool.and_eq_true] at h;rcases List.mem_cons.1 hj with rfl|hj
  ·exact Nat.le_of_ble_eq_true h.1
  ·exact Zot h.2 j hj
def pcB (arr:Array Oper) (ops:List Oper) (ms:List Nat) (A B x i:Nat):Bool:=
 befM ms i x||(Nat.beq x A&&Nat.beq i B)||(match nth ops x,nth ops i with
  |some ox,some oi=>!befM ms i x&&!befM ms x i&&ox.apart arr oi&&(stillOp ox.op||stillOp oi.op)&&!isSel ox.op&&!isSel oi.op
  |_,_=>false)
def pcAll (arr:Array Oper) (ops:List Oper) (ms:List Nat) (A B x:Nat):List Nat->Bool
 |[]=>true
 |i::r=>pcB arr ops ms A B x i&&pcAll arr ops ms A B x r
def passB (arr:Array Oper) (ops:List Oper) (ms:List Nat) (A B:Nat):List Nat->Bool
 |[]=>true
 |x::r=>pcAll arr ops ms A B x r&&passB arr ops ms A B r
theorem Zop {ops:List Oper}{ms:List Nat}{A B x i:Nat}(h:pcB ops.toArray ops ms A B x i=true) :
  befM ms i x=true\/(x=A/\i=B)\/∀ ox oi,ops.toArray[x]?=some ox->ops.toArray[i]?=some oi->Pair ops.toArray (befM ms) x i ox oi:=by
 simp only[pcB,Bool.or_eq_true] at h;rcases h with (h|h)|h
 ·exact .inl h
 ·simp only[Bool.and_eq_true] at h;exact .inr (.inl ⟨Nat.eq_of_beq_eq_true h.1,Nat.eq_of_beq_eq_true h.2⟩)
 ·refine .inr (.inr λox oi hx hi=>?_);rw[List.getElem?_toArray,<-Zlj] at hx hi;rw[hx,hi] at h;simp only[Bool.and_eq_true,Bool.or_eq_true,Bool.not_eq_true'] at h;obtain⟨⟨⟨⟨⟨h1,h2⟩,h3⟩,h4⟩,h5⟩,h6⟩:=h;exact⟨h1,h2,h3,h4,Zg5 h5,Zg5 h6⟩
theorem Zih {ops:List Oper}{ms:List Nat}{A B x:Nat}:∀ {R:List Nat},pcAll ops.toArray ops ms A B x R=true->∀ i∈R,
  befM ms i x=true\/(x=A/\i=B)\/∀ ox oi,ops.toArray[x]?=some ox->ops.toArray[i]?=some oi->Pair ops.toArray (befM ms) x i ox oi
 |y::r,h,i,hi=>by
  simp only[pcAll,Bool.and_eq_true] at h;rcases List.mem_cons.1 hi with rfl|hi
  ·exact Zop h.1
  ·exact Zih h.2 i hi
theorem Zfh {ops:List Oper}{ms:List Nat}{A B:Nat}:∀ {R:List Nat},passB ops.toArray ops ms A B R=true->PassX ops.toArray (befM ms) (λx i=>x=A/\i=B) R
 |[],_=>List.Pairwise.nil
 |x::r,h=>by
  simp only[passB,Bool.and_eq_true] at h;exact List.Pairwise.cons (Zih h.1) (Zfh h.2)
def closI (ms:List Nat) (i:Nat) (o:Oper):Nat->Bool
 |0=>true
 |x+1=>(!befM ms i x||edgesTo ms x o.after.toList)&&closI ms i o x
def laidB (ms:List Nat) (A B:Nat):List Oper->Nat->Bool
 |[],_=>true
 |o::r,i=>edgesFwd i o.after.toList&&Nat.blt (getN ms i) (2^i)&&closI ms i o i&&(match stillOp o.op with
   |true=>!Nat.beq i A&&!Nat.beq i B
   |false=>Nat.beq i A||Nat.beq i B||(befM ms i A&&befM ms i B))&&laidB ms A B r (i+1)
theorem Zfc {ms:List Nat}{i:Nat}{o:Oper}:∀ {n:Nat},closI ms i o n=true->∀ x,x < n->befM ms i x=true->edgesTo ms x o.after.toList=true
 |n+1,h,x,hx,hb=>by
  simp only[closI,Bool.and_eq_true,Bool.or_eq_true,Bool.not_eq_true'] at h;rcases Nat.lt_or_ge x n with h1|h1
  ·exact Zfc h.2 x h1 hb
  ·have:x=n:=by omega
   subst this;rcases h.1 with h2|h2
   ·rw[hb] at h2;cases h2
   ·exact h2
theorem Zbv {ms:List Nat}{A B:Nat}(l:List Oper):∀ (k:Nat),laidB ms A B l k=true->∀ j o,l[j]?=some o->
  edgesFwd (k+j) o.after.toList=true/\getN ms (k+j) < 2^(k+j)/\closI ms (k+j) o (k+j)=true/\
  (stillOp o.op=true->k+j≠A/\k+j≠B)/\(stillOp o.op=false->k+j≠A->k+j≠B->befM ms (k+j) A=true/\befM ms (k+j) B=true):=by
 induction l with
 |nil=>intro k _ j x hx;simp at hx
 |cons y r ih=>
  intro k h j o ho;simp only[laidB,Bool.and_eq_true] at h;obtain⟨⟨⟨⟨h1,h2⟩,h3⟩,h4⟩,h5⟩:=h
  cases j with
  |zero=>
   simp at ho;subst ho;refine⟨h1,Nat.le_of_ble_eq_true h2,h3,λhs=>?_,λhs ha hb=>?_⟩
   ·rw[hs] at h4;simp only[Bool.and_eq_true,Bool.not_eq_true'] at h4;exact⟨Nat.ne_of_beq_eq_false h4.1,Nat.ne_of_beq_eq_false h4.2⟩
   ·rw[hs] at h4;simp only[Bool.or_eq_true,Bool.and_eq_true] at h4;rcases h4 with (h4|h4)|h4
    ·exact absurd (Nat.eq_of_beq_eq_true h4) ha
    ·exact absurd (Nat.eq_of_beq_eq_true h4) hb
    ·exact h4
  |succ j=>
   have:=ih (k+1) h5 j o (by simpa using ho);rw[show k+1+j=k+(j+1) by omega] at this;exact this
def twoB (arr:Array Oper) (ops:List Oper) (ms:List Nat) (A B:Nat) (R1 R2:List Nat):Bool:=
 laidB ms A B ops 0&&!Nat.beq A B&&Nat.blt A ops.length&&Nat.blt B ops.length&&permB ops.length R1&&permB ops.length R2&&passB arr ops ms A B R1&&passB arr ops ms B A R2
section
variable {P:Program}{n:Nat}
def vcStL (P:Program) (n:Nat) (ops:List Oper) (b:Nat->Nat->Bool):List Nat->List (Nat × Node × Value)->List (Nat × World)->Env->World->(Env->World->Prop)->Prop
 |[],_,_,ρ,w,K=>K ρ w
 |i::r,pend,past,ρ,w,K=>(match nth ops i with
  |none=>False
  |some o=>stG P n ops b i o pend past ρ w λpend' past' ρ' w'=>vcStL P n ops b r pend' past' ρ' w' K)
theorem Zbi {ops:List Oper}{b:Nat->Nat->Bool}{K:Env->World->Prop}:∀ (r:List Nat) (pend:List (Nat × Node × Value)) (past:List (Nat × World)) (pA:List (Nat × Sem Next × Value))
  (ρ:Env) (w:World) (a:Act),vcStL P n ops b r pend past ρ w K->Fits n ρ a->Rel P pend pA->
  Fr P ops.toArray b (λa w=>∃ ρ',Fits n ρ' a/\K ρ' w) r pA past a w
 |[],pend,past,pA,ρ,w,a,h,hf,hrel=>⟨ρ,hf,h⟩
 |i::r,pend,past,pA,ρ,w,a,h,hf,hrel=>by
  unfold vcStL at h
  cases ho:nth ops i with
  |none=>rw[ho] at h;exact h.elim
  |some o=>
   rw[ho] at h;simp only at h
   have hoi:ops.toArray[i]?=some o:=by
    rw[List.getElem?_toArray,<-Zlj,ho]
   unfold Fr;simp only[hoi]
   have ex:stEx P n ops b i o pend past ρ w (λpend' past' ρ' w'=>vcStL P n ops b r pend' past' ρ' w' K)->
     (if stillOp o.op=true then
      ∃ v,Yl P (execOp a.eval o) v w/\pkA P (b i) past (execOp a.eval o) v/\Fr P ops.toArray b (λa w=>∃ ρ',Fits n ρ' a/\K ρ' w) r ((i,execOp a.eval o,v)::pA) past (a.put o.dst v) w
     else EffOp P o a w λv w'=>rkA P (b i) pA w'/\Fr P ops.toArray b (λa w=>∃ ρ',Fits n ρ' a/\K ρ' w) r pA ((i,w)::past) (a.put o.dst v) w'):=by
    intro h;unfold stEx at h
    cases hs:stillOp o.op with
    |true=>
     rw[hs] at h;rw[if_pos rfl];rw[hf.eval]
     cases hb:blind P o with
     |true=>
      rw[hb] at h;obtain⟨v,g2,hv⟩:=Zjc hb h;have hy:∀ w',Yl P (execOp ρ.ev o) v w':=λw'=>Zbg (Zfm hb hv) hs;obtain⟨ρ',hf',hp⟩:=put_spec hf g2;refine⟨v,hy w,λe w0 he hb=>hy w0,?_⟩;refine Zae hp hf' λρ'' hf'' hK=>Zbi r _ _ _ ρ'' w _ hK hf'' ?_;intro x m' v' hx;rcases List.mem_cons.1 hx with e|hx
      ·cases e;exact .inl hy
      ·exact hrel x m' v' hx
     |false=>
      rw[hb] at h;obtain⟨v,h1,h2⟩:=Zgs h hs;obtain⟨g1,g2⟩:=Zge h1;obtain⟨ρ',hf',hp⟩:=put_spec hf g2;refine⟨v,h2,λe w0 he hb=>Zbg (g1 e w0 he hb) hs,?_⟩;refine Zae hp hf' λρ'' hf'' hK=>Zbi r _ _ _ ρ'' w _ hK hf'' ?_;intro x m' v' hx;rcases List.mem_cons.1 hx with e|hx
      ·cases e;exact .inr ⟨_,List.mem_cons_self,λw hw=>Zbg hw hs⟩
      ·rcases hrel x m' v' hx with h|⟨k,h5,h6⟩
       ·exact .inl h
       ·exact .inr ⟨k,List.mem_cons_of_mem _ h5,h6⟩
    |false=>
     rw[hs] at h;rw[if_neg (by simp)];refine (Zgh h hf.eval).mono λv w' hv=>?_;obtain⟨g1,g2⟩:=Zf6 hv;obtain⟨ρ',hf',hp⟩:=put_spec hf g2;refine⟨λx m v hx hb=>?_,Zae hp hf' λρ'' hf'' hK=>Zbi r _ _ _ ρ'' w' _ hK hf'' hrel⟩;rcases hrel x m v hx with h|⟨k,h5,h6⟩
     ·exact h w'
     ·exact h6 w' (g1 x k v h5 hb)
   have skip:(ρ.put n o.dst undef λρ'=>vcStL P n ops b r pend past ρ' w K)->
     Fr P ops.toArray b (λa w=>∃ ρ',Fits n ρ' a/\K ρ' w) r pA past (a.put o.dst undef) w:=λh=>by
    obtain⟨ρ',hf',hp⟩:=put_spec hf h;exact Zbi r _ _ _ ρ' w _ hp hf' hrel
   unfold stG at h;split at h
   ·rename_i hg;rw[if_pos (by simp[Region.wanted,hg])];exact ex h
   ·rename_i j want hg;split at h
    ·exact h.elim
    ·rename_i d hd;have hy:=Zcq hf hd
     have hw:Region.wanted o (yielded ops.toArray a.tmps)=((match ρ.get d with|.bool b=>some b|_=>none)==some want):=by
      simp only[Region.wanted,hg,hy]
     rw[hw];split at h
     all_goals first
      |exact h.elim
      |(rename_i e;rw[e];rw[if_pos (by decide)];exact ex h)
      |(rename_i e;rw[e];rw[if_neg (by decide)];exact skip h)
      |(rename_i e;rw[e];rw[if_neg (by simp)];exact skip h)
theorem Zsz (hm:P.follows .mixedOrders=true){id:Nat}{l:List Oper}{ms:List Nat}{A B:Nat}{R1 R2:List Nat}(ht:twoB l.toArray l ms A B R1 R2=true)
  {ρ:Env} {w:World} {K:Env->World->Prop} {a:Act} {Q:Exit->Act->World->Prop}
  (h1:vcStL P n l (befM ms) R1 [] [] ρ w.drew K) (h2:vcStL P n l (befM ms) R2 [] [] ρ w.drew K) (hf:Fits n ρ a) (hk:∀ ρ' a' w',Fits n ρ' a'->K ρ' w'->Q .normal a' w'):(Code.region id l.toArray true).wp P Q a w:=by
 simp only[twoB,permB,Bool.and_eq_true,Bool.not_eq_true'] at ht;obtain⟨⟨⟨⟨⟨⟨⟨g1,g2⟩,g3⟩,g4⟩,⟨⟨⟨g5,g6⟩,g7⟩,g8⟩⟩,⟨⟨⟨g9,g10⟩,g11⟩,g12⟩⟩,g13⟩,g14⟩:=ht
 have hz:∀ i x,x >= i->i < l.length->befM ms i x=false:=by
  intro i x hx hi;have:=(Zbv l 0 g1 i l[i] (by simp[hi])).2.1;rw[Nat.zero_add] at this;exact Nat.testBit_lt_two_pow (Nat.lt_of_lt_of_le this (Nat.pow_le_pow_right (by decide) hx))
 have hs:Laid l.toArray (befM ms):=by
  refine⟨λi o ho e he hb=>?_,λi o x ho hb=>?_⟩
  ·rw[List.getElem?_toArray] at ho;have:=(Zbv l 0 g1 i o ho).1;rw[Nat.zero_add] at this;exact Zbp this e (by simpa using he) hb
  ·rw[List.getElem?_toArray] at ho;have hil:i < l.length:=(List.getElem?_eq_some_iff.1 ho).1
   have hxi:x < i:=by
    rcases Nat.lt_or_ge x i with h|h
    ·exact h
    ·rw[hz i x h hil] at hb;cases hb
   have h3:=(Zbv l 0 g1 i o ho).2.2.1;rw[Nat.zero_add] at h3;obtain⟨e,he,h4⟩:=Zc9 (Zfc h3 x hxi hb);exact⟨e,by simpa using he,h4⟩
 refine Zjo hm hs (Nat.ne_of_beq_eq_false g2) (by rw[List.size_toArray];exact Nat.le_of_ble_eq_true g3) (by rw[List.size_toArray];exact Nat.le_of_ble_eq_true g4) ?_ ?_ ?_ (by simpa using Nat.eq_of_beq_eq_true g5) (by simpa using Nat.eq_of_beq_eq_true g9)
  (Zny g6) (Zny g10) ?_ ?_ (Zfh g13) (Zfh g14) (Q:=λa w=>∃ ρ',Fits n ρ' a/\K ρ' w) (λa w ⟨ρ',h2,h3⟩=>hk _ _ _ h2 h3) (Zbi R1 [] [] [] ρ w.drew a h1 hf (λx m v hx=>by cases hx)) (Zbi R2 [] [] [] ρ w.drew a h2 hf (λx m v hx=>by cases hx))
 ·intro i o ho hst ha hb;rw[List.getElem?_toArray] at ho;have:=(Zbv l 0 g1 i o ho).2.2.2.2 hst;rw[Nat.zero_add] at this;exact this ha hb
 ·intro o ho;rw[List.getElem?_toArray] at ho;have:=(Zbv l 0 g1 A o ho).2.2.2.1;rw[Nat.zero_add] at this
  cases hst:stillOp o.op with
  |false=>rfl
  |true=>exact absurd rfl (this hst).1
 ·intro o ho;rw[List.getElem?_toArray] at ho;have:=(Zbv l 0 g1 B o ho).2.2.2.1;rw[Nat.zero_add] at this
  cases hst:stillOp o.op with
  |false=>rfl
  |true=>exact absurd rfl (this hst).2
 ·intro j;simp only[List.size_toArray];exact⟨λh=>Zot g8 j h,λh=>Zdt g7 j h⟩
 ·intro j;simp only[List.size_toArray];exact⟨λh=>Zot g12 j h,λh=>Zdt g11 j h⟩
end

def stB (ops:List Oper) (x:Nat):Bool:=match nth ops x with
 |some o=>stillOp o.op
 |none=>true
def rmE (st:Nat->Bool) (i:Nat):Tr->Option Tr
 |.dn=>none
 |.op x t=>match Nat.beq x i with
  |true=>some t
  |false=>(match st x,rmE st i t with
   |true,some t'=>some (.op x t')
   |_,_=>none)
 |.fk a b=>match rmE st i a with
  |some a'=>some a'
  |none=>rmE st i b
theorem Zfx {st:Nat->Bool}{i:Nat}:∀ {t t':Tr},rmE st i t=some t'->RmE st i t t'
 |.dn,_,h=>by cases h
 |.op x t,t',h=>by
  unfold rmE at h;split at h
  ·rename_i hb;obtain rfl:=Nat.eq_of_beq_eq_true hb;obtain rfl:=Option.some.inj h;exact .here _
  ·split at h
   ·rename_i u hs hu;obtain rfl:=Option.some.inj h;exact .there hs (Zfx hu)
   ·cases h
 |.fk a b,t',h=>by
  unfold rmE at h;split at h
  ·rename_i a' ha;obtain rfl:=Option.some.inj h;exact .l (Zfx ha)
  ·exact .r (Zfx h)
def anyB (bf:Nat->Bool):List Nat->Bool
 |[]=>false
 |x::r=>bf x||anyB bf r
def eraB (e:Nat):List Nat->List Nat
 |[]=>[]
 |x::r=>match Nat.beq x e with
  |true=>r
  |false=>x::eraB e r
theorem Zri (e:Nat):∀ (E:List Nat),eraB e E=E.erase e
 |[]=>rfl
 |x::r=>by
  unfold eraB;rw[List.erase_cons]
  cases hb:Nat.beq x e with
  |true=>rw[if_pos (by simpa using Nat.eq_of_beq_eq_true hb)]
  |false=>rw[if_neg (by simpa using Nat.ne_of_beq_eq_false hb),Zri e r]
def covE (cov:List Nat->Tr->Bool) (st:Nat->Bool) (bf:Nat->Nat->Bool) (E:List Nat) (t:Tr):List Nat->Bool
 |[]=>true
 |e::r=>(anyB (bf e) E||(match rmE st e t with
  |some t'=>cov (eraB e E) t'
  |none=>false))&&covE cov st bf E t r
def covB (st:Nat->Bool) (bf:Nat->Nat->Bool):Nat->List Nat->Tr->Bool
 |0,E,_=>(match E with
  |[]=>true
  |_=>false)
 |n+1,E,t=>covE (covB st bf n) st bf E t E
theorem Zs3 {bf:Nat->Bool}:∀ {E:List Nat},(∀ x∈E,bf x=false)->anyB bf E=false
 |[],_=>rfl
 |x::r,h=>by
  unfold anyB;rw[h x List.mem_cons_self,Zs3 λy hy=>h y (List.mem_cons_of_mem _ hy)];rfl
theorem Zkk {cov:List Nat->Tr->Bool}{st:Nat->Bool}{bf:Nat->Nat->Bool}{E:List Nat}{t:Tr}:∀ {l:List Nat},covE cov st bf E t l=true->∀ e∈l,(∀ x∈E,bf e x=false)->∃ t',RmE st e t t'/\cov (E.erase e) t'=true
 |e::r,h,e',he,hb=>by
  simp only[covE,Bool.and_eq_true,Bool.or_eq_true] at h;rcases List.mem_cons.1 he with rfl|he
  ·rcases h.1 with h1|h1
   ·rw[Zs3 hb] at h1;cases h1
   ·split at h1
    ·rename_i t' ht;rw[Zri] at h1;exact⟨t',Zfx ht,h1⟩
    ·cases h1
  ·exact Zkk h.2 e' he hb
theorem Zl6 {st:Nat->Bool}{bf:Nat->Nat->Bool}:∀ {n:Nat}{E:List Nat}{t:Tr},covB st bf n E t=true->Cov st bf n E t
 |0,E,_,h=>by
  cases E with
  |nil=>rfl
  |cons _ _=>cases h
 |n+1,E,t,h=>λe he hb=>by
  obtain⟨t',g1,g2⟩:=Zkk h e he hb;exact⟨t',g1,Zl6 g2⟩
def effB (st:Nat->Bool):Nat->List Nat
 |0=>[]
 |n+1=>match st n with
  |true=>effB st n
  |false=>n::effB st n
theorem Zgd {st:Nat->Bool}:∀ {n j:Nat},j∈effB st n↔j < n/\st j=false
 |0,j=>by simp[effB]
 |n+1,j=>by
  unfold effB
  cases hs:st n with
  |true=>
   simp only;rw[Zgd]
   constructor
   ·rintro⟨h1,h2⟩;exact⟨by omega,h2⟩
   ·rintro⟨h1,h2⟩;refine⟨?_,h2⟩;rcases Nat.lt_or_ge j n with h|h
    ·exact h
    ·have:j=n:=by omega
     subst this;rw[hs] at h2;cases h2
  |false=>
   simp only[List.mem_cons];rw[Zgd]
   constructor
   ·rintro (rfl|⟨h1,h2⟩)
    ·exact⟨by omega,hs⟩
    ·exact⟨by omega,h2⟩
   ·rintro⟨h1,h2⟩;rcases Nat.lt_or_ge j n with h|h
    ·exact .inr ⟨h,h2⟩
    ·exact .inl (by omega)
theorem Zn6 {st:Nat->Bool}:∀ {n:Nat},(effB st n).Nodup
 |0=>List.nodup_nil
 |n+1=>by
  unfold effB
  cases hs:st n with
  |true=>exact Zn6
  |false=>exact List.nodup_cons.2 ⟨λh=>by have:=(Zgd.1 h).1;omega,Zn6⟩
def pcT (arr:Array Oper) (ops:List Oper) (ms:List Nat) (x i:Nat):Bool:=
 befM ms i x||(!stB ops x&&!stB ops i)||(match nth ops x,nth ops i with
  |some ox,some oi=>!befM ms i x&&!befM ms x i&&ox.apart arr oi&&(stillOp ox.op||stillOp oi.op)&&!isSel ox.op&&!isSel oi.op
  |_,_=>false)
def pcTAll (arr:Array Oper) (ops:List Oper) (ms:List Nat) (x:Nat):List Nat->Bool
 |[]=>true
 |i::r=>pcT arr ops ms x i&&pcTAll arr ops ms x r
def passT (arr:Array Oper) (ops:List Oper) (ms:List Nat):List Nat->Bool
 |[]=>true
 |x::r=>pcTAll arr ops ms x r&&passT arr ops ms r
theorem Zvu {ops:List Oper}{ms:List Nat}{x i:Nat}(h:pcT ops.toArray ops ms x i=true) :
  befM ms i x=true\/(stB ops x=false/\stB ops i=false)\/∀ ox oi,ops.toArray[x]?=some ox->ops.toArray[i]?=some oi->Pair ops.toArray (befM ms) x i ox oi:=by
 simp only[pcT,Bool.or_eq_true] at h;rcases h with (h|h)|h
 ·exact .inl h
 ·simp only[Bool.and_eq_true,Bool.not_eq_true'] at h;exact .inr (.inl h)
 ·have:pcB ops.toArray ops ms (x+1) x x i=true:=by
   simp only[pcB,Bool.or_eq_true];exact .inr h
  rcases Zop this with h|h|h
  ·exact .inl h
  ·exact absurd h.1 (by omega)
  ·exact .inr (.inr h)
theorem Zhm {ops:List Oper}{ms:List Nat}{x:Nat}:∀ {r:List Nat},pcTAll ops.toArray ops ms x r=true->∀ i∈r,pcT ops.toArray ops ms x i=true
 |y::r,h,i,hi=>by
  simp only[pcTAll,Bool.and_eq_true] at h;rcases List.mem_cons.1 hi with rfl|hi
  ·exact h.1
  ·exact Zhm h.2 i hi
theorem Zj0 {ops:List Oper}{ms:List Nat}:∀ {R:List Nat},passT ops.toArray ops ms R=true->PassX ops.toArray (befM ms) (λx i=>stB ops x=false/\stB ops i=false) R
 |[],_=>List.Pairwise.nil
 |x::r,h=>by
  simp only[passT,Bool.and_eq_true] at h;exact List.Pairwise.cons (λi hi=>Zvu (Zhm h.1 i hi)) (Zj0 h.2)
def laidT (ms:List Nat):List Oper->Nat->Bool
 |[],_=>true
 |o::r,i=>edgesFwd i o.after.toList&&Nat.blt (getN ms i) (2^i)&&closI ms i o i&&laidT ms r (i+1)
theorem Zfe {ms:List Nat}(l:List Oper):∀ (k:Nat),laidT ms l k=true->∀ j o,l[j]?=some o->edgesFwd (k+j) o.after.toList=true/\getN ms (k+j) < 2^(k+j)/\closI ms (k+j) o (k+j)=true:=by
 induction l with
 |nil=>intro k _ j x hx;simp at hx
 |cons y r ih=>
  intro k h j o ho;simp only[laidT,Bool.and_eq_true] at h;obtain⟨⟨⟨h1,h2⟩,h3⟩,h5⟩:=h
  cases j with
  |zero=>
   simp at ho;subst ho;exact⟨h1,Nat.le_of_ble_eq_true h2,h3⟩
  |succ j=>
   have:=ih (k+1) h5 j o (by simpa using ho);rw[show k+1+j=k+(j+1) by omega] at this;exact this
def listsT (arr:Array Oper) (ops:List Oper) (ms:List Nat):List (List Nat)->Bool
 |[]=>true
 |R::l=>permB ops.length R&&passT arr ops ms R&&listsT arr ops ms l
theorem Zh9 {ops:List Oper}{ms:List Nat}:∀ {l:List (List Nat)},listsT ops.toArray ops ms l=true->∀ R∈l,permB ops.length R=true/\passT ops.toArray ops ms R=true
 |R::l,h,R',hR=>by
  simp only[listsT,Bool.and_eq_true] at h;rcases List.mem_cons.1 hR with rfl|hR
  ·exact h.1
  ·exact Zh9 h.2 R' hR
def treeB (arr:Array Oper) (ops:List Oper) (ms:List Nat) (t:Tr):Bool:=
 laidT ms ops 0&&listsT arr ops ms t.ps&&covB (stB ops) (befM ms) (effB (stB ops) ops.length).length (effB (stB ops) ops.length) t
section
variable {P:Program}{n:Nat}
def PksT (b:Nat->Bool):List (Nat × World)->Node->Value->Prop->Prop
 |[],_,_,X=>X
 |(e,w)::r,m,v,X=>match b e with
  |true=>X
  |false=>Rk m v w (PksT b r m v X)
def pkN (b:Nat->Bool):List (Nat × World)->Node->Value->Prop
 |[],_,_=>True
 |(e,w)::r,m,v=>b e=true\/((m w λu=>u=v)/\pkN b r m v)
theorem Zle {b:Nat->Bool}{m:Node}{v:Value}{X:Prop}:∀ {l:List (Nat × World)},PksT b l m v X->pkN b l m v/\X
 |[],h=>⟨trivial,h⟩
 |(e,w)::r,h=>by
  unfold PksT at h;split at h
  ·rename_i he;exact⟨.inl he,h⟩
  ·obtain⟨h1,h2⟩:=h;obtain⟨h3,h4⟩:=Zle (l:=r) h2;exact⟨.inr ⟨h1,h3⟩,h4⟩
def stExT (P:Program) (n:Nat) (ops:List Oper) (b:Nat->Nat->Bool) (i:Nat) (o:Oper) (pend:List (Nat × Node × Value)) (past:List (Nat × World)) (ρ:Env) (w:World)
  (cont:List (Nat × Node × Value)->List (Nat × World)->Env->World->Prop):Prop:=
 match stillOp o.op with
 |true=>(match blind P o with
  |true=>vcOp P true ρ.ev o w λv w'=>ρ.put n o.dst v λρ'=>parting ops i o.dst (cont pend past) ρ' w'
  |false=>vcOp P true ρ.ev o w λv w'=>PksT (b i) past (λu K=>vcOp P true ρ.ev o u λv _=>K v) v
    (ρ.put n o.dst v λρ'=>parting ops i o.dst (cont ((i,(λu K=>vcOp P true ρ.ev o u λv _=>K v),v)::pend) past) ρ' w'))
 |false=>vcOp P false ρ.ev o w λv w'=>Rks (b i) pend w' (ρ.put n o.dst v λρ'=>parting ops i o.dst (cont pend ((i,w)::past)) ρ' w')
def stGT (P:Program) (n:Nat) (ops:List Oper) (b:Nat->Nat->Bool) (i:Nat) (o:Oper) (pend:List (Nat × Node × Value)) (past:List (Nat × World)) (ρ:Env) (w:World)
  (cont:List (Nat × Node × Value)->List (Nat × World)->Env->World->Prop):Prop:=
 match o.guard with
 |none=>stExT P n ops b i o pend past ρ w cont
 |some (j,want)=>match (nth ops j).bind (·.dst) with
  |none=>False
  |some d=>match ρ.get d,want with
   |.bool true,true|.bool false,false=>stExT P n ops b i o pend past ρ w cont
   |.bool true,false|.bool false,true|.tuple _,_=>ρ.put n o.dst undef λρ'=>cont pend past ρ' w
   |_,_=>False
def vcStT (P:Program) (n:Nat) (ops:List Oper) (b:Nat->Nat->Bool):Tr->List (Nat × Node × Value)->List (Nat × World)->Env->World->(Env->World->Prop)->Prop
 |.dn,_,_,ρ,w,K=>K ρ w
 |.op i r,pend,past,ρ,w,K=>(match nth ops i with
  |none=>False
  |some o=>stGT P n ops b i o pend past ρ w λpend' past' ρ' w'=>vcStT P n ops b r pend' past' ρ' w' K)
 |.fk x y,pend,past,ρ,w,K=>vcStT P n ops b x pend past ρ w K/\vcStT P n ops b y pend past ρ w K
theorem Zb0 {ops:List Oper}{b:Nat->Nat->Bool}{K:Env->World->Prop}:∀ (r:Tr) (pend:List (Nat × Node × Value)) (past:List (Nat × World)) (pA:List (Nat × Sem Next × Value))
  (ρ:Env) (w:World) (a:Act),vcStT P n ops b r pend past ρ w K->Fits n ρ a->Rel P pend pA->
  FrT P ops.toArray b (λa w=>∃ ρ',Fits n ρ' a/\K ρ' w) r pA past a w
 |.dn,pend,past,pA,ρ,w,a,h,hf,hrel=>⟨ρ,hf,h⟩
 |.fk x y,pend,past,pA,ρ,w,a,h,hf,hrel=>⟨Zb0 x pend past pA ρ w a h.1 hf hrel,Zb0 y pend past pA ρ w a h.2 hf hrel⟩
 |.op i r,pend,past,pA,ρ,w,a,h,hf,hrel=>by
  unfold vcStT at h
  cases ho:nth ops i with
  |none=>rw[ho] at h;exact h.elim
  |some o=>
   rw[ho] at h;simp only at h
   have hoi:ops.toArray[i]?=some o:=by
    rw[List.getElem?_toArray,<-Zlj,ho]
   unfold FrT;simp only[hoi]
   have ex:stExT P n ops b i o pend past ρ w (λpend' past' ρ' w'=>vcStT P n ops b r pend' past' ρ' w' K)->
     (if stillOp o.op=true then
      ∃ v,Yl P (execOp a.eval o) v w/\pkT P (b i) past (execOp a.eval o) v/\FrT P ops.toArray b (λa w=>∃ ρ',Fits n ρ' a/\K ρ' w) r ((i,execOp a.eval o,v)::pA) past (a.put o.dst v) w
     else EffOp P o a w λv w'=>rkA P (b i) pA w'/\FrT P ops.toArray b (λa w=>∃ ρ',Fits n ρ' a/\K ρ' w) r pA ((i,w)::past) (a.put o.dst v) w'):=by
    intro h;unfold stExT at h
    cases hs:stillOp o.op with
    |true=>
     rw[hs] at h;rw[if_pos rfl];rw[hf.eval]
     cases hb:blind P o with
     |true=>
      rw[hb] at h;obtain⟨v,g2,hv⟩:=Zjc hb h;have hy:∀ w',Yl P (execOp ρ.ev o) v w':=λw'=>Zbg (Zfm hb hv) hs;obtain⟨ρ',hf',hp⟩:=put_spec hf g2;refine⟨v,hy w,Ztp hy _,?_⟩;refine Zae hp hf' λρ'' hf'' hK=>Zb0 r _ _ _ ρ'' w _ hK hf'' ?_;intro x m' v' hx;rcases List.mem_cons.1 hx with e|hx
      ·cases e;exact .inl hy
      ·exact hrel x m' v' hx
     |false=>
      rw[hb] at h;obtain⟨v,h1,h2⟩:=Zgs h hs;obtain⟨g1,g2⟩:=Zle h1;obtain⟨ρ',hf',hp⟩:=put_spec hf g2
      have conv:∀ {l:List (Nat × World)},pkN (b i) l (λu K=>vcOp P true ρ.ev o u λv _=>K v) v->pkT P (b i) l (execOp ρ.ev o) v:=by
       intro l
       induction l with
       |nil=>exact λ_=>trivial
       |cons x r ih=>exact λh=>h.imp id λh=>⟨Zbg h.1 hs,ih h.2⟩
      refine⟨v,h2,conv g1,?_⟩;refine Zae hp hf' λρ'' hf'' hK=>Zb0 r _ _ _ ρ'' w _ hK hf'' ?_;intro x m' v' hx;rcases List.mem_cons.1 hx with e|hx
      ·cases e;exact .inr ⟨_,List.mem_cons_self,λw hw=>Zbg hw hs⟩
      ·rcases hrel x m' v' hx with h|⟨k,h5,h6⟩
       ·exact .inl h
       ·exact .inr ⟨k,List.mem_cons_of_mem _ h5,h6⟩
    |false=>
     rw[hs] at h;rw[if_neg (by simp)];refine (Zgh h hf.eval).mono λv w' hv=>?_;obtain⟨g1,g2⟩:=Zf6 hv;obtain⟨ρ',hf',hp⟩:=put_spec hf g2;refine⟨λx m v hx hb=>?_,Zae hp hf' λρ'' hf'' hK=>Zb0 r _ _ _ ρ'' w' _ hK hf'' hrel⟩;rcases hrel x m v hx with h|⟨k,h5,h6⟩
     ·exact h w'
     ·exact h6 w' (g1 x k v h5 hb)
   have skip:(ρ.put n o.dst undef λρ'=>vcStT P n ops b r pend past ρ' w K)->
     FrT P ops.toArray b (λa w=>∃ ρ',Fits n ρ' a/\K ρ' w) r pA past (a.put o.dst undef) w:=λh=>by
    obtain⟨ρ',hf',hp⟩:=put_spec hf h;exact Zb0 r _ _ _ ρ' w _ hp hf' hrel
   unfold stGT at h;split at h
   ·rename_i hg;rw[if_pos (by simp[Region.wanted,hg])];exact ex h
   ·rename_i j want hg;split at h
    ·exact h.elim
    ·rename_i d hd;have hy:=Zcq hf hd
     have hw:Region.wanted o (yielded ops.toArray a.tmps)=((match ρ.get d with|.bool b=>some b|_=>none)==some want):=by
      simp only[Region.wanted,hg,hy]
     rw[hw];split at h
     all_goals first
      |exact h.elim
      |(rename_i e;rw[e];rw[if_pos (by decide)];exact ex h)
      |(rename_i e;rw[e];rw[if_neg (by decide)];exact skip h)
      |(rename_i e;rw[e];rw[if_neg (by simp)];exact skip h)
theorem Zqn (hm:P.follows .mixedOrders=true){id:Nat}{l:List Oper}{ms:List Nat}{t:Tr}(ht:treeB l.toArray l ms t=true)
  {ρ:Env} {w:World} {K:Env->World->Prop} {a:Act} {Q:Exit->Act->World->Prop}
  (h1:vcStT P n l (befM ms) t [] [] ρ w.drew K) (hf:Fits n ρ a) (hk:∀ ρ' a' w',Fits n ρ' a'->K ρ' w'->Q .normal a' w'):(Code.region id l.toArray true).wp P Q a w:=by
 simp only[treeB,Bool.and_eq_true] at ht;obtain⟨⟨g1,g2⟩,g3⟩:=ht
 have hz:∀ i x,x >= i->i < l.length->befM ms i x=false:=by
  intro i x hx hi;have:=(Zfe l 0 g1 i l[i] (by simp[hi])).2.1;rw[Nat.zero_add] at this;exact Nat.testBit_lt_two_pow (Nat.lt_of_lt_of_le this (Nat.pow_le_pow_right (by decide) hx))
 have hs:Laid l.toArray (befM ms):=by
  refine⟨λi o ho e he hb=>?_,λi o x ho hb=>?_⟩
  ·rw[List.getElem?_toArray] at ho;have:=(Zfe l 0 g1 i o ho).1;rw[Nat.zero_add] at this;exact Zbp this e (by simpa using he) hb
  ·rw[List.getElem?_toArray] at ho;have hil:i < l.length:=(List.getElem?_eq_some_iff.1 ho).1
   have hxi:x < i:=by
    rcases Nat.lt_or_ge x i with h|h
    ·exact h
    ·rw[hz i x h hil] at hb;cases hb
   have h3:=(Zfe l 0 g1 i o ho).2.2;rw[Nat.zero_add] at h3;obtain⟨e,he,h4⟩:=Zc9 (Zfc h3 x hxi hb);exact⟨e,by simpa using he,h4⟩
 have hz2:∀ j,j < l.toArray.size->(Array.replicate l.toArray.size false).getD j true=false:=λj hj=>by simp at hj;simp[hj]
 refine wp_region_any hm (Zrd hs (st:=stB l) (λi o ho=>?_) (Q:=λa w=>∃ ρ',Fits n ρ' a/\K ρ' w) (λa w ⟨ρ',h2,h3⟩=>hk _ _ _ h2 h3) l.toArray.size _ t _ (effB (stB l) l.length) a _ (by simp) (λR hR=>?_) Zn6 (λj=>?_) rfl (Zl6 g3) ?_
  (Zb0 t [] [] [] ρ w.drew a h1 hf (λx m v hx=>by cases hx)))
 ·unfold stB;rw[Zlj,<-List.getElem?_toArray,ho]
 ·obtain⟨p1,p2⟩:=Zh9 g2 R hR;simp only[permB,Bool.and_eq_true] at p1;obtain⟨⟨⟨q1,q2⟩,q3⟩,q4⟩:=p1;refine⟨by simpa using Nat.eq_of_beq_eq_true q1,Zny q2,λj=>?_,Zj0 p2⟩
  constructor
  ·intro h
   have:j < l.toArray.size:=by simpa using Zot q4 j h
   exact⟨this,hz2 j this⟩
  ·intro h;exact Zdt q3 j (by simpa using h.1)
 ·rw[Zgd]
  constructor
  ·rintro⟨h1,h2⟩
   have:j < l.toArray.size:=by simpa using h1
   exact⟨this,h2,hz2 j this⟩
  ·rintro⟨h1,h2,_⟩;exact⟨by simpa using h1,h2⟩
 ·intro j oj hj hl;have:=getD_replicate_false l.toArray.size j;rw[this] at hl;cases hl
end
inductive RH where
 |text
 |still
 |tail (k:Nat)
 |staged (ms:List Nat)
 |two (ms:List Nat) (A B:Nat) (R1 R2:List Nat)
 |tree (ms:List Nat) (t:Tr)
def Dr (w:World) (K:World->Prop):Prop:=K w.drew
def vcReg (P:Program) (n:Nat) (ops:Array Oper) (draw:Bool) (h:RH) (ρ:Env) (w:World) (K:Env->World->Prop):Prop:=
 match draw,h with
 |false,_=>vcOps P false n ops.toList ops.toList 0 ρ w K
 |true,.text=>False
 |true,.still=>(match Region.lexB .any ops,allStill ops.toList with
  |true,true=>Dr w λw=>vcOps P true n ops.toList ops.toList 0 ρ w K
  |_,_=>False)
 |true,.tail k=>(match Region.lexTailB .any ops k,allStill (ops.toList.take k) with
  |true,true=>Dr w λw=>vcOps P true n ops.toList ops.toList 0 ρ w K
  |_,_=>False)
 |true,.staged ms=>(match stagedB ops ops.toList ms ops.toList 0 with
  |true=>Dr w λw=>vcSt P n ops.toList (befM ms) ops.toList 0 [] [] ρ w K
  |false=>False)
 |true,.tree ms t=>(match treeB ops ops.toList ms t with
  |true=>Dr w λw=>vcStT P n ops.toList (befM ms) t [] [] ρ w K
  |false=>False)
 |true,.two ms A B R1 R2=>(match twoB ops ops.toList ms A B R1 R2 with
  |true=>Dr w λw=>vcStL P n ops.toList (befM ms) R1 [] [] ρ w K/\vcStL P n ops.toList (befM ms) R2 [] [] ρ w K
  |false=>False)
section
variable {P:Program}{n:Nat}
theorem Zh1 (hm:P.follows .mixedOrders=true){id:Nat}{ops:Array Oper}{draw:Bool}{h:RH}{ρ:Env}{w:World}{K:Env->World->Prop}{a:Act}{Q:Exit->Act->World->Prop}
  (hh:vcReg P n ops draw h ρ w K) (hf:Fits n ρ a) (hk:∀ ρ' a' w',Fits n ρ' a'->K ρ' w'->Q .normal a' w'):(Code.region id ops draw).wp P Q a w:=by
 obtain⟨l⟩:=ops
 cases draw with
 |false=>exact wp_region_list (Zeh l 0 ρ w a hh hf hk)
 |true=>
  cases h with
  |text=>exact hh.elim
  |still=>
   simp only[vcReg] at hh;split at hh
   ·rename_i h1 h2;refine wp_region_still_lit hm h1 ?_;refine Zee l [] 0 ρ a (by rw[List.append_nil];exact hh) h2 hf ?_;intro ρ' a' hf' h';exact hk _ _ _ hf' h'
   ·exact hh.elim
  |tail k=>
   simp only[vcReg] at hh;split at hh
   ·rename_i h1 h2;refine wp_region_still_tail k hm h1 ?_;refine Zee (l.take k) (l.drop k) 0 ρ a (by rw[List.take_append_drop];exact hh) h2 hf ?_;intro ρ' a' hf' h';exact Zeh _ _ _ _ _ h' hf' hk
   ·exact hh.elim
  |staged ms=>
   simp only[vcReg] at hh;split at hh
   ·rename_i h1;refine Zfw hm (Zu0 h1) (Q:=λa w=>∃ ρ',Fits n ρ' a/\K ρ' w) (λa w ⟨ρ',h2,h3⟩=>hk _ _ _ h2 h3) ?_;have:=Zcs l 0 [] [] [] ρ w.drew a hh hf (λj=>by simp) (λx m v hx=>by cases hx);rw[List.range_eq_range'];exact this
   ·exact hh.elim
  |tree ms t=>
   simp only[vcReg] at hh;split at hh
   ·rename_i h1;exact Zqn hm h1 hh hf hk
   ·exact hh.elim
  |two ms A B R1 R2=>
   simp only[vcReg] at hh;split at hh
   ·rename_i h1;exact Zsz hm h1 hh.1 hh.2 hf hk
   ·exact hh.elim
end

def Cur:Nat->Type
 |0=>World->Prop
 |n+1=>Value->Cur n
def cur:(n:Nat)->(List Value->World->Prop)->Cur n
 |0,f=>f []
 |n+1,f=>λv=>cur n λvs=>f (v::vs)
def Cur.app:(n:Nat)->Cur n->List Value->World->Prop
 |0,f,_=>f
 |n+1,f,v::vs=>Cur.app n (f v) vs
 |_+1,_,[]=>λ_=>False
def Cur.imp:(n:Nat)->Cur n->Cur n->Prop
 |0,f,g=>∀ w,f w->g w
 |n+1,f,g=>∀ v,Cur.imp n (f v) (g v)
theorem Cur.imp_refl:∀ (n:Nat) (f:Cur n),Cur.imp n f f
 |0,_=>λ_ h=>h
 |n+1,f=>λv=>Cur.imp_refl n (f v)
theorem Cur.imp_app:∀ (n:Nat){f g:Cur n},Cur.imp n f g->∀ vs w,f.app n vs w->g.app n vs w
 |0,_,_,h,_,w,hf=>h w hf
 |n+1,_,_,h,v::vs,w,hf=>Cur.imp_app n (h v) vs w hf
 |_+1,_,_,_,[],_,hf=>hf.elim
theorem Zj7:∀ (n:Nat) (f:List Value->World->Prop) (vs:List Value),vs.length=n->∀ w,(cur n f).app n vs w↔f vs w
 |0,f,[],_,w=>Iff.rfl
 |n+1,f,v::vs,h,w=>Zj7 n (λvs=>f (v::vs)) vs (by simpa using h) w
 |0,f,_::_,h,w=>by simp at h
 |n+1,f,[],h,w=>by simp at h
def KE (a b:List Value) (X:Prop):Prop:=a=b/\X
def VJoin (n:Nat) (rest:(Nat->Value)->Cur n) (br:Cur n->Prop):Prop:=∃ J:Cur n,(∀ jb,Cur.imp n J (rest jb))/\br J
def VLoop (n:Nat) (vs:List Value) (w:World) (body:(Nat->Value)->Cur n->Cur n):Prop:=
 ∃ (I:List Value->World->Prop) (μ:List Value->World->Nat),I vs w/\
  ∀ jb us u,us.length=n->I us u->(body jb (cur n λus' u'=>I us' u'/\μ us' u' < μ us u)).app n us u

inductive H where
 |z
 |s (a b:H)
 |j (S K:List Nat) (a b:H)
 |i (a b:H)
 |b (a:H)
 |l (S K:List Nat) (a:H)
 |r (k:RH)
def zipV:List Nat->List Value->List (Nat × Value)
 |t::ts,v::vs=>(t,v)::zipV ts vs
 |_,_=>[]
def getV (ρ:Env):List Nat->List Value
 |[]=>[]
 |t::ts=>ρ.get t::getV ρ ts
def keepV (ρ:Env):List Nat->List (Nat × Value)
 |[]=>[]
 |t::ts=>(t,ρ.get t)::keepV ρ ts
def appL:List (Nat × Value)->List (Nat × Value)->List (Nat × Value)
 |[],b=>b
 |x::a,b=>x::appL a b
def len:List Nat->Nat
 |[]=>0
 |_::r=>len r+1
def thenE (next:Env->World->Prop) (Q:Exit->Env->World->Prop):Exit->Env->World->Prop
 |.normal,ρ,w=>next ρ w
 |e,ρ,w=>Q e ρ w
def inB (id:Nat) (Q:Exit->Env->World->Prop):Exit->Env->World->Prop
 |.exit k,ρ,w=>(match Nat.beq k id with
  |true=>Q .normal ρ w
  |false=>Q (.exit k) ρ w)
 |e,ρ,w=>Q e ρ w
def rh:H->RH
 |.r k=>k
 |_=>.text
def vc (P:Program) (n:Nat):Code->H->Env->World->(Exit->Env->World->Prop)->Prop
 |.skip,_,ρ,w,Q=>Q .normal ρ w
 |.label _,_,ρ,w,Q=>Q .normal ρ w
 |.region _ ops draw,h,ρ,w,Q=>vcReg P n ops draw (rh h) ρ w λρ' w'=>Q .normal ρ' w'
 |.seq x y,.s h1 h2,ρ,w,Q=>vc P n x h1 ρ w (thenE (λρ' w'=>vc P n y h2 ρ' w' Q) Q)
 |.seq x y,.j S K h1 h2,ρ,w,Q=>
  VJoin (len S) (λjb=>cur (len S) λvs w'=>vc P n y h2 ⟨appL (zipV S vs) (keepV ρ K),jb⟩ w' Q)
   λJ=>vc P n x h1 ρ w (thenE (λρ' w'=>KE (getV ρ' K) (getV ρ K) (J.app (len S) (getV ρ' S) w')) Q)
 |.cond c x y,.i h1 h2,ρ,w,Q=>Vif (ρ.ev c) (vc P n x h1 ρ w Q) (vc P n y h2 ρ w Q)
 |.block id c,.b h,ρ,w,Q=>vc P n c h ρ w (inB id Q)
 |.loop c,.l S K h,ρ,w,Q=>
  VLoop (len S) (getV ρ S) w λjb cont=>cur (len S) λvs w'=>
   vc P n c h ⟨appL (zipV S vs) (keepV ρ K),jb⟩ w' (thenE (λρ' w''=>KE (getV ρ' K) (getV ρ K) (cont.app (len S) (getV ρ' S) w'')) Q)
 |.exit id,_,ρ,w,Q=>Q (.exit id) ρ w
 |.ret,_,ρ,w,Q=>Q .ret ρ w
 |_,_,_,_,_=>False

section
variable {P:Program}{n:Nat}
theorem Zwi (a b:List (Nat × Value)) (t:Nat):find (appL a b) t=match find a t with|some v=>some v|none=>find b t:=by
 induction a with
 |nil=>rfl
 |cons x a ih=>
  obtain⟨s,v⟩:=x;simp only[appL,find]
  cases Nat.beq s t <;> simp[ih]
theorem Zwu (ρ:Env) (S:List Nat) (t:Nat):find (zipV S (getV ρ S)) t=none\/find (zipV S (getV ρ S)) t=some (ρ.get t):=by
 induction S with
 |nil=>exact .inl rfl
 |cons s S ih=>
  simp only[getV,zipV,find]
  cases h:Nat.beq s t with
  |true=>have:=Nat.eq_of_beq_eq_true h;subst this;exact .inr rfl
  |false=>exact ih
theorem Zs6 (ρ:Env) (S:List Nat) (t:Nat):find (keepV ρ S) t=none\/find (keepV ρ S) t=some (ρ.get t):=by
 induction S with
 |nil=>exact .inl rfl
 |cons s S ih=>
  simp only[keepV,find]
  cases h:Nat.beq s t with
  |true=>have:=Nat.eq_of_beq_eq_true h;subst this;exact .inr rfl
  |false=>exact ih
theorem Zqc {ρ ρ':Env}{K:List Nat}(h:getV ρ' K=getV ρ K):keepV ρ' K=keepV ρ K:=by
 induction K with
 |nil=>rfl
 |cons t K ih=>simp only[getV,List.cons.injEq] at h;simp only[keepV,h.1,ih h.2]
theorem Fits.cut {ρ ρ0:Env}{a:Act}(h:Fits n ρ a){S K:List Nat}(hK:getV ρ K=getV ρ0 K) :
  Fits n ⟨appL (zipV S (getV ρ S)) (keepV ρ0 K),ρ.get⟩ a:=by
 rw[<-Zqc hK];refine⟨h.defers,h.size,λt=>?_⟩;rw[h.slot];unfold Env.get;simp only;rw[Zwi]
 rcases Zwu ρ S t with e|e <;> rw[e]
 ·simp only
  rcases Zs6 ρ K t with e|e <;> rw[e] <;> rfl
 ·rfl
theorem Zg2 (ρ:Env) (S:List Nat):(getV ρ S).length=len S:=by
 induction S with
 |nil=>rfl
 |cons s S ih=>simp[getV,len,ih]
theorem Ycu {ρ ρ':Env}{a:Act}(h:Fits n ρ a) (h':Fits n ρ' a) (S:List Nat):getV ρ S=getV ρ' S:=by
 induction S with
 |nil=>rfl
 |cons s S ih=>simp only[getV,ih,<-h.slot,<-h'.slot]
def Ok (n:Nat) (Q:Exit->Env->World->Prop) (Q':Exit->Act->World->Prop):Prop:=∀ e ρ a w,Fits n ρ a->Q e ρ w->Q' e a w
theorem Zkj {ρ:Env}{a:Act}(hf:Fits n ρ a) (S:List Nat):(S.map λt=>a.tmps.getD t undef)=getV ρ S:=by
 induction S with
 |nil=>rfl
 |cons s S ih=>rw[List.map_cons,getV,ih,hf.slot]
theorem Zw1 (hm:P.follows .mixedOrders=true):∀ (c:Code) (h:H) (ρ:Env) (w:World) (a:Act) (Q:Exit->Env->World->Prop) (Q':Exit->Act->World->Prop),
  vc P n c h ρ w Q->Fits n ρ a->Ok n Q Q'->c.wp P Q' a w:=by
 intro c
 induction c with
 |skip=>intro h ρ w a Q Q' hh hf hk;exact wp_skip (hk _ _ _ _ hf hh)
 |label l=>intro h ρ w a Q Q' hh hf hk;exact wp_label (hk _ _ _ _ hf hh)
 |region id ops draw=>intro h ρ w a Q Q' hh hf hk;exact Zh1 hm hh hf λρ' a' w' hf' h'=>hk _ _ _ _ hf' h'
 |seq x y ihx ihy=>
  intro h ρ w a Q Q' hh hf hk
  cases h <;> simp only[vc] at hh <;> try exact hh.elim
  case s h1 h2=>
   refine wp_seq (ihx h1 ρ w a _ _ hh hf ?_);intro e ρ' a' w' hf' h'
   cases e <;> simp only[thenE] at h' <;> simp only[Exit.then]
   ·exact ihy h2 ρ' w' a' Q Q' h' hf' hk
   all_goals exact hk _ _ _ _ hf' h'
  case j S K h1 h2=>
   obtain⟨J,hJ,hh⟩:=hh;refine wp_seq (ihx h1 ρ w a _ _ hh hf ?_);intro e ρ' a' w' hf' h'
   cases e <;> simp only[thenE] at h' <;> simp only[Exit.then]
   ·obtain⟨hK,h'⟩:=h';have h2':=Cur.imp_app _ (hJ ρ'.get) _ _ h';rw[Zj7 _ _ _ (Zg2 _ _)] at h2';exact ihy h2 _ w' a' Q Q' h2' (hf'.cut hK) hk
   all_goals exact hk _ _ _ _ hf' h'
 |cond c x y ihx ihy=>
  intro h ρ w a Q Q' hh hf hk
  cases h <;> simp only[vc] at hh <;> try exact hh.elim
  case i h1 h2=>
   rcases hh.or with⟨hc,hh⟩|⟨hc,hh⟩
   ·exact wp_cond_true (by rw[hf.eval];exact hc) (ihx h1 ρ w a Q Q' hh hf hk)
   ·exact wp_cond_false (by rw[hf.eval];exact hc) (ihy h2 ρ w a Q Q' hh hf hk)
 |block id c ih=>
  intro h ρ w a Q Q' hh hf hk
  cases h <;> simp only[vc] at hh <;> try exact hh.elim
  case b h=>
   refine wp_block (ih h ρ w a _ _ hh hf ?_);intro e ρ' a' w' hf' h'
   cases e <;> simp only[inB] at h' <;> simp only[Exit.inBlock]
   case exit k=>
    cases hb:Nat.beq k id with
    |true=>
     rw[hb] at h';rw[if_pos (Nat.eq_of_beq_eq_true hb)];exact hk _ _ _ _ hf' h'
    |false=>
     rw[hb] at h';rw[if_neg (Nat.ne_of_beq_eq_false hb)];exact hk _ _ _ _ hf' h'
   all_goals exact hk _ _ _ _ hf' h'
 |loop c ih=>
  intro h ρ w a Q Q' hh hf hk
  cases h <;> simp only[vc] at hh <;> try exact hh.elim
  case l S K h=>
   obtain⟨I,μ,h0,hround⟩:=hh;refine wp_loop (λa w=>∃ ρ1,Fits n ρ1 a/\getV ρ1 K=getV ρ K/\I (getV ρ1 S) w) (λa w=>μ (S.map λt=>a.tmps.getD t undef) w) ⟨ρ,hf,rfl,h0⟩ ?_;rintro a1 w1 ⟨ρ1,hf1,hK1,hI1⟩;have hr:=hround ρ1.get (getV ρ1 S) w1 (Zg2 _ _) hI1;rw[Zj7 _ _ _ (Zg2 _ _)] at hr;refine ih h _ w1 a1 _ _ hr (hf1.cut hK1) ?_;intro e ρ' a' w' hf' h'
   cases e <;> simp only[thenE] at h' <;> simp only[Exit.then]
   ·obtain⟨hK,h'⟩:=h';rw[Zj7 _ _ _ (Zg2 _ _)] at h';refine⟨⟨ρ',hf',hK,h'.1⟩,?_⟩;rw[Zkj hf',Zkj hf1];exact h'.2
   all_goals exact hk _ _ _ _ hf' h'
 |exit id=>intro h ρ w a Q Q' hh hf hk;exact wp_exit (hk _ _ _ _ hf hh)
 |ret=>intro h ρ w a Q Q' hh hf hk;exact wp_ret (hk _ _ _ _ hf hh)
 |rangeFunc=>intro h ρ w a Q Q' hh hf hk;cases h <;> simp only[vc] at hh
 |scope=>intro h ρ w a Q Q' hh hf hk;cases h <;> simp only[vc] at hh
 |goto=>intro h ρ w a Q Q' hh hf hk;cases h <;> simp only[vc] at hh
 |refuse=>intro h ρ w a Q Q' hh hf hk;cases h <;> simp only[vc] at hh
end

def args0:List Value->Nat->List (Nat × Value)
 |[],_=>[]
 |v::r,i=>(i,v)::args0 r (i+1)
def ResK (P:Program) (ρ:Env) (w:World) (R:KT):List ResultVar->List Value->Prop
 |[],[v]=>R v w
 |[],vs=>R (.tuple vs.reverse.toArray) w
 |.tmp t::r,vs=>ResK P ρ w R r (ρ.get t::vs)
 | .cell x t :: r, vs => vcOp P true ρ.ev ⟨none, .load t (.tmp x), t, "", #[], none⟩ w fun v _ => ResK P ρ w R r (v :: vs)
def fin (P:Program) (rs:List ResultVar) (R:KT):Exit->Env->World->Prop
 |.normal,ρ,w|.ret,ρ,w=>ResK P ρ w R rs []
 |_,_,_=>False
def vcFn (P:Program) (n:Nat) (rs:List ResultVar) (c:Code) (h:H) (args:List Value) (w:World) (R:KT):Prop:=
 vc P n c h ⟨args0 args 0,λ_=>undef⟩ w (fin P rs R)

section
variable {P:Program}{n:Nat}
def rv (tmps:Array Value):ResultVar->Sem Value
 |.tmp t=>pure (tmps.getD t undef)
 |.cell a t=>do loadVar t (<-asAddr (tmps.getD a undef))
theorem Ybp {t:TypeId}{x v:Value}{w:World}(h:(Instr.loadAt t x).run P w=.ok v w):(do loadVar t (<-asAddr x):Sem Value).run P w=.ok v w:=by
 unfold Instr.loadAt at h
 cases x with
 |pointer a=>
  cases a with
  |some a=>simpa [Instr.sureAddr,asAddr] using h
  |none=>simp[Instr.sureAddr,stuck,Sem.run] at h
 |_=>simp[Instr.sureAddr,stuck,Sem.run] at h
theorem Zgb {ρ:Env}{a:Act}(hf:Fits n ρ a){w:World}{R:KT}:∀ (rs:List ResultVar) (acc:List Value),ResK P ρ w R rs acc->
  ∃ vs:List Value,(rs.mapM (rv a.tmps)).run P w=.ok vs w/\ResK P ρ w R [] (vs.reverse++acc)
 |[],acc,h=>⟨[],rfl,by simpa using h⟩
 |.tmp t::r,acc,h=>by
  simp only[ResK] at h;obtain⟨vs,h1,h2⟩:=Zgb hf r _ h;exact⟨ρ.get t::vs,by simp[List.mapM_cons,rv,h1,<-hf.slot],by simpa using h2⟩
 |.cell x t::r,acc,h=>by
  simp only[ResK] at h;obtain⟨v,h,hv⟩:=Zgs h rfl;obtain⟨vs,h1,h2⟩:=Zgb hf r _ h;refine⟨v::vs,?_,by simpa using h2⟩
  have:=Ybp (t:=t) (x:=ρ.get x) (v:=v) (w:=w) (P:=P) (by
   unfold Yl at hv; have e : execOp ρ.ev ⟨none, .load t (.tmp x), t, "", #[], none⟩ = (do pure (Next.value (← Instr.loadAt t (ρ.get x)))) := rfl; rw [e, Sem.run_bind] at hv
   cases hr:(Instr.loadAt t (ρ.get x)).run P w with
   |ok u w'=>rw[hr] at hv;simp[Result.andThen,Sem.run] at hv;rw[hv.1,hv.2]
   |halt k w'=>rw[hr] at hv;simp[Result.andThen] at hv)
  rw[List.mapM_cons,Sem.run_bind];simp only[rv];rw[hf.slot,this];simp[Result.andThen,h1]
theorem Zp5 {ρ:Env}{w:World}{R:KT}:∀ (vs:List Value),ResK P ρ w R [] vs.reverse->R (if h:vs.toArray.size=1 then vs.toArray[0] else .tuple vs.toArray) w
 |[],h=>h
 |[v],h=>h
 |v::u::r,h=>by
  have hne:¬ (v::u::r).toArray.size=1:=by simp
  rw[dif_neg hne];generalize hl:(v::u::r).reverse=l at h
  have hr:(v::u::r).toArray=l.reverse.toArray:=by rw[<-hl,List.reverse_reverse]
  rw[hr]
  match l,h with
  |[],h=>exact h
  |[x],h=>simp at hl;have:=congrArg List.length hl;simp at this
  |x::y::z,h=>exact h
theorem Zds:∀ (vs:List Value) (i t:Nat),find (args0 vs i) t=if i<=t then vs[t - i]? else none
 |[],i,t=>by simp[args0,find]
 |v::r,i,t=>by
  simp only[args0,find]
  cases h:Nat.beq i t with
  |true=>have:=Nat.eq_of_beq_eq_true h;subst this;simp
  |false=>
   have hne:=Nat.ne_of_beq_eq_false h;rw[Zds r (i+1) t]
   by_cases hlt:i<=t
   ·rw[if_pos hlt,if_pos (by omega)];rw[show t - i=(t - (i+1))+1 by omega,List.getElem?_cons_succ]
   ·rw[if_neg hlt,if_neg (by omega)]
theorem Zm4 {fn:Func}{rs:List ResultVar}(hr:fn.results=rs.toArray){ρ:Env}{a:Act}{w:World}{R:KT}(hf':Fits n ρ a)
  (h':ResK P ρ w R rs []):∃ v,(results fn a.tmps).run P w=.ok v w/\R v w:=by
 obtain⟨vs,h1,h2⟩:=Zgb hf' rs [] h';refine⟨_,?_,Zp5 vs (by simpa using h2)⟩;unfold results;rw[Sem.run_bind,hr]
 have:(rs.toArray.mapM fun|.tmp t=>pure (a.tmps.getD t undef)|.cell x t=>do loadVar t (<-asAddr (a.tmps.getD x undef)):Sem (Array Value))=(do pure (<-rs.mapM (rv a.tmps)).toArray):=by
  rw[List.mapM_toArray];rfl
 erw [this]
 simp[h1,Result.andThen]
end
end
section
variable {P:Program}{n:Nat}
theorem fits0 {fn:Func}{args:List Value}(hs:fn.ntmps=n) (ha:args.length<=n) :
  @Fits defN0 n ⟨args0 args 0,λ_=>undef⟩ { tmps:=args.toArray++Array.replicate (fn.ntmps - args.toArray.size) undef,defers:=[] }:=by
 refine⟨rfl,by simp[hs];omega,λt=>?_⟩;unfold Env.get;simp only[Zds,Nat.zero_le,if_true,Nat.sub_zero]
 by_cases hlt:t < args.length
 ·simp[Array.getElem?_append,hlt]
 ·have h1:args[t]?=none:=by simp;omega
  rw[h1];simp only[Array.getD_eq_getD_getElem?,Array.getElem?_append,List.size_toArray,if_neg hlt,Array.getElem?_replicate]
  split <;> rfl
theorem Zwx {f:FuncId}{fn:Func}{c:Code}{args:List Value}{w:World}{h:H}{R:KT}{rs:List ResultVar}
  (hm : P.follows .mixedOrders = true) (hf : P.funcs[f]? = some fn) (hb : fn.body = some c) (hn : (fn.name == "runtime.NumGoroutine") = false)
  (hs:fn.ntmps=n) (hr:fn.results=rs.toArray) (ha:Nat.ble args.length n=true)
  (hh:vcFn P n rs c h args w R):Cl P f args.toArray w R:=by
 refine ⟨by simp [callFunc, hf, (by simpa using hn : ¬ fn.name = "runtime.NumGoroutine"), hb], calls_of_wp hf hb ?_⟩; refine Zw1 hm c h _ w _ _ _ hh (fits0 hs (Nat.le_of_ble_eq_true ha)) ?_; intro e ρ a w hf' h'
 have key:ResK P ρ w R rs []->bodyPost P fn (λe w'=>∃ v,e=.returned v/\R v w') .ret a w:=λh'=>by
  obtain⟨v,h1,h2⟩:=Zm4 hr hf' h';exact⟨hf'.defers,v,h1,v,rfl,h2⟩
 cases e <;> simp only[fin] at h' <;> try exact h'.elim
 ·exact key h'
 ·exact key h'
end
theorem tz {P:Program}{f:FuncId}{fn:Func}{c:Code}(n:Nat) (rs:List ResultVar) (h:H) (args:List Value){w:World}{R:KT}{X:Prop}(hf:P.funcs[f]?=some fn) (hx:X)
 (hm : P.follows .mixedOrders = true := by kernel_rfl) (hb : fn.body = some c := by rfl) (hn : (fn.name == "runtime.NumGoroutine") = false := by kernel_rfl)
 (hs:fn.ntmps=n:=by rfl) (hr:fn.results=rs.toArray:=by rfl) (ha:Nat.ble args.length n=true:=by rfl) (hh:X=vcFn P n rs c h args w R:=by kernel_rfl):Cl P f args.toArray w R:=Zwx hm hf hb hn hs hr ha (Eq.mp hh hx)
end Go.Vc
