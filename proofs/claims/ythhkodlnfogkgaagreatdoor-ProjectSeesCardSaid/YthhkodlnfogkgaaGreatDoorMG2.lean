/- Several texts in one: EB, P46, Mh, Ms, Sp, Sw, Mp, O46, A46, Ag, He, Tn, Rg, Ah, Ws, Se, Dp, Df, Ds, Dt. -/
import Derived.Test.YthhkodlnfogkgaaGreatDoorMG1
import Derived.Test.YthhkodlnfogkgaaGreatDoorFm
import Derived.Test.YthhkodlnfogkgaaGreatDoorMG0
import Derived.WalkKit
import Derived.Deep.AppendSrc
import Derived.Deep.Upon
import Derived.Lib.UnsafeStr
import Derived.Lib.LaidU8T
import Derived.LaidMore
import Derived.Deep.Slices
import Derived.WideShapes
set_option linter.unusedVariables false
set_option linter.unusedSimpArgs false
open Go.RowKit (intOf)
open List (cons_append drop_of_length_le eq_nil_of_length_eq_zero find?_cons_of_neg getElem_mem getElem_of_mem getElem_take length_map length_nil length_set mem_cons mem_of_getElem? mem_of_mem_drop mem_of_mem_take mem_range'_1 mem_singleton not_mem_nil pairwise_append pairwise_cons pairwise_iff_getElem set_set)
namespace Go.Ev
open Go Go.Vc
noncomputable section
abbrev CallT:=FuncId->List X->St->Option (X × St)
def vPk (ρ:T X) (a b:Operand):Option X->Option X
 |some (.b c)=>(match c with
  |true=>evX ρ a
  |false=>evX ρ b)
 |_=>none
def vNc:Option (Nat × Nat)->Option X
 |some a=>some (.p (some a))
 |none=>none
def vFa2 (P:Program) (ρ:T X) (x:Operand):Option Field->Option X
 |some fd=>(match P.info? fd.type with
  |some i=>(match i.size with
   |0=>none
   |_+1=>foX (pX (evX ρ x)) fd.offset)
  |none=>none)
 |none=>none
def vFa (P:Program) (ρ:T X) (x:Operand) (f:Nat):Option TypeDesc->Option X
 |some (.struct fs)=>vFa2 P ρ x (fldOf fs.toList f)
 |_=>none
def vIa (P:Program) (ρ:T X) (x i:Operand):Option TypeDesc->Option X
 |some (.array len e)=>iaX P e len (pX (evX ρ x)) (evX ρ i)
 |some (.slice e)=>isX P e (evX ρ x) (evX ρ i)
 |_=>none
def vIx (P:Program) (ρ:T X) (x i:Operand):Option TypeDesc->Option X
 |some .string=>ixsX (evX ρ x) (evX ρ i)
 |some (.array len e)=>(match P.info? e with
  |some inf=>(match P.underlying e with
   |some (.struct _)|some (.array _ _)=>ixaX inf.size true len (evX ρ x) (evX ρ i)
   |some _=>ixaX inf.size false len (evX ρ x) (evX ρ i)
   |none=>none)
  |none=>none)
 |_=>none
def vFd (P:Program) (ρ:T X) (x:Operand) (f:Nat):Option TypeDesc->Option X
 |some (.struct fs)=>(match fldOf fs.toList f with
  |some fd=>(match P.underlying fd.type with
   |some (.struct _)|some (.array _ _)=>(match P.info? fd.type with
    |some i=>fdaX fd.offset i.size (evX ρ x)
    |none=>none)
   |some _=>fdX fd.offset (evX ρ x)
   |none=>none)
  |none=>none)
 |_=>none
def vBb (ρ:T X) (x y:Operand):BinOp->Option X
 |.eql=>bbX false (evX ρ x) (evX ρ y)
 |.neq=>bbX true (evX ρ x) (evX ρ y)
 |_=>none
def vBn (P:Program) (e:TypeId) (ρ:T X) (x y:Operand):BinOp->Option X
 |.eql=>bnX P e false (evX ρ x) (evX ρ y)
 |.neq=>bnX P e true (evX ρ x) (evX ρ y)
 |_=>none
def vBp (P:Program) (ρ:T X) (t:TypeId) (op:BinOp) (x y:Operand):Option TypeDesc->Option X
 |some (.int _)=>bp2 op (evX ρ x) (evX ρ y)
 |some .string=>bp2 op (evX ρ x) (evX ρ y)
 |some .bool=>vBb ρ x y op
 |some (.pointer e)=>vBn P e ρ x y op
 |some _=>beX P op t x y (evX ρ x) (evX ρ y)
 |none=>none
def vCv (P:Program) (ρ:T X) (s:St) (q d:TypeId) (x:Operand):Option TypeDesc->Option TypeDesc->Option X
 |some (.int _),some (.int k)=>ciX k (evX ρ x)
 |some (.slice e),some .string=>cvX P s q (evX ρ x)
 |some _,some _=>cpX P s q d (evX ρ x)
 |_,_=>none
def vMi:Option TypeDesc->TypeId->Option X->Option X
 |some (.interface _),_,_=>none
 |some _,t,some x=>some (.fc t x)
 |_,_,_=>none
def vSl (P:Program) (ρ:T X) (s:St) (x:Operand) (l h m:Option Operand):Option TypeDesc->Option X
 |some .string=>(match m with
  |none=>sstX (evX ρ x) (λd=>bndX ρ d l) (λd=>bndX ρ d h)
  |some _=>none)
 |some (.slice e)=>(match m with
  |none=>(match P.info? e with
   |some inf=>sslX inf.size (evX ρ x) (λd=>bndX ρ d l) (λd=>bndX ρ d h)
   |none=>none)
  |some _=>none)
 |some (.array n e)=>(match m with
  |none=>slaX P s n e (evX ρ x) (λd=>bndX ρ d l) (λd=>bndX ρ d h)
  |some _=>none)
 |_=>none
def vBd (P:Program) (t:TypeId):Option (List (Nat × X))->Option X
 |some xs=>bdX P t xs
 |none=>none
def vLn2 (s:St):Option TypeDesc->X->Option X
 |some .string,.s l=>some (.i .i64 (l.length:Int))
 |some (.slice _),.l _ n _=>some (.i .i64 (n:Int))
 |some (.slice _),.e0 _ _ _=>some (.i .i64 0)
 |some (.map _ _),.m b=>lmX s b
 |_,_=>none
def vLn (P:Program) (s:St):List TypeId->Option (List X)->Option X
 |t::_,some (x::_)=>vLn2 s (P.underlying t) x
 |_,_=>none
def vMm (mx:Bool):Option (List X)->Option X
 |some xs=>mmX mx xs
 |none=>none
def vCl (P:Program) (ρ:T X) (s:St) (c:Call):Callee->Option X
 |.builtin .len=>vLn P s c.argTypes.toList (xargs ρ c.args.toList)
 |.builtin .cap=>capX P c.argTypes.toList (xargs ρ c.args.toList)
 |.builtin .min=>vMm false (xargs ρ c.args.toList)
 |.builtin .max=>vMm true (xargs ρ c.args.toList)
 |_=>none
def xvalF (P:Program) (ρ:T X) (s:St):Op->Option X
 |.move x=>evX ρ x
 |.assign x=>evX ρ x
 |.pick c a b=>vPk ρ a b (evX ρ c)
 |.nilCheck x=>vNc (pX (evX ρ x))
 |.load t a=>ldW P ρ s t a
 |.fieldAddr q x f=>vFa P ρ x f (P.underlying q)
 |.indexAddr t x i=>vIa P ρ x i (P.underlying t)
 |.index t x i=>vIx P ρ x i (P.underlying t)
 |.field t x f=>vFd P ρ x f (P.underlying t)
 |.binOp op t x y _=>vBp P ρ t op x y (P.underlying t)
 |.unOp op _ x=>upX op (evX ρ x)
 |.convert q d x=>vCv P ρ s q d x (P.underlying q) (P.underlying d)
 |.makeInterface t x=>vMi (P.underlying t) t (evX ρ x)
 |.slice t x l h m=>vSl P ρ s x l h m (P.underlying t)
 |.extract x i=>exX (evX ρ x) i
 |.build t ps=>vBd P t (xparts ρ ps.toList)
 |.call c=>vCl P ρ s c c.callee
 |.makeFunc fn a c=>mfX ρ fn a c
 |.lookup t x i ok=>lkX P s t (evX ρ x) (evX ρ i) ok
 |.typeAssert x _ a ok=>taX P a ok (evX ρ x)
 |_=>none
theorem Zia (P:Program) (ρ:T X) (s:St) (o:Oper):xvalF P ρ s o.op=xval P ρ s o:=by
 unfold xval
 cases o.op with
 |pick c a b=>
  show vPk ρ a b (evX ρ c)=_;simp only
  cases evX ρ c with
  |none=>rfl
  |some x=>
   cases x with
   |b c=>cases c <;> rfl
   |_=>rfl
 |nilCheck x=>
  show vNc (pX (evX ρ x))=_;simp only
  cases pX (evX ρ x) <;> rfl
 |fieldAddr q x f=>
  show vFa P ρ x f (P.underlying q)=_;simp only
  cases P.underlying q with
  |none=>rfl
  |some d=>
   cases d with
   |struct fs=>
    show vFa2 P ρ x (fldOf fs.toList f)=_;simp only
    cases fldOf fs.toList f <;> rfl
   |_=>rfl
 |indexAddr t x i=>
  show vIa P ρ x i (P.underlying t)=_;simp only
  cases P.underlying t with
  |none=>rfl
  |some d=>cases d <;> rfl
 |index t x i=>
  show vIx P ρ x i (P.underlying t)=_;simp only
  cases P.underlying t with
  |none=>rfl
  |some d=>cases d <;> rfl
 |field t x f=>
  show vFd P ρ x f (P.underlying t)=_;simp only
  cases P.underlying t with
  |none=>rfl
  |some d=>cases d <;> rfl
 |binOp op t x y yt=>
  show vBp P ρ t op x y (P.underlying t)=_;simp only
  cases P.underlying t with
  |none=>rfl
  |some d=>cases d <;> first|rfl|(cases op <;> rfl)
 |convert q d x=>
  show vCv P ρ s q d x (P.underlying q) (P.underlying d)=_;simp only
  cases P.underlying q with
  |none=>cases P.underlying d <;> rfl
  |some a=>
   cases P.underlying d with
   |none=>cases a <;> rfl
   |some b=>cases a <;> cases b <;> rfl
 |makeInterface t x=>
  show vMi (P.underlying t) t (evX ρ x)=_;simp only
  cases P.underlying t with
  |none=>cases evX ρ x <;> rfl
  |some d=>cases d <;> cases evX ρ x <;> rfl
 |slice t x l h m=>
  show vSl P ρ s x l h m (P.underlying t)=_;simp only
  cases P.underlying t with
  |none=>rfl
  |some d=>cases d <;> cases m <;> rfl
 |build t ps=>
  show vBd P t (xparts ρ ps.toList)=_;simp only
  cases xparts ρ ps.toList <;> rfl
 |call c=>
  show vCl P ρ s c c.callee=_;simp only
  cases c.callee with
  |builtin b=>
   cases b with
   |len=>
    show vLn P s c.argTypes.toList (xargs ρ c.args.toList)=_;simp only
    cases c.argTypes.toList with
    |nil=>rfl
    |cons t ts=>
     cases xargs ρ c.args.toList with
     |none=>rfl
     |some xs=>
      cases xs with
      |nil=>rfl
      |cons y ys=>
       show vLn2 s (P.underlying t) y=_;simp only
       cases P.underlying t with
       |none=>cases y <;> rfl
       |some d=>cases d <;> cases y <;> rfl
   |min=>
    show vMm false (xargs ρ c.args.toList)=_;simp only
    cases xargs ρ c.args.toList <;> rfl
   |max=>
    show vMm true (xargs ρ c.args.toList)=_;simp only
    cases xargs ρ c.args.toList <;> rfl
   |_=>rfl
  |_=>rfl
 |_=>rfl
def eBx (t:TypeId) (s:St):Option X->Option (X × St)
 |some x=>newX t (some (cellsX x)) s
 |none=>none
def eAp (P:Program) (s:St):Array TypeId->Option (List X)->Option (X × St)
 |⟨[t,tx]⟩,some [x,y]=>appX P t tx x y s
 |_,_=>none
def eCl (P:Program) (call:CallT) (ρ:T X) (s:St) (c:Call):Callee->Option (X × St)
 |.value (.func f)=>eFn P call f s (xargs ρ c.args.toList)
 |.value f=>eVl call s (evX ρ f) (xargs ρ c.args.toList)
 |.invoke q name=>eIv P call s name (evX ρ q) (xargs ρ c.args.toList)
 |.builtin .clear=>clrX P c.argTypes.toList (xargs ρ c.args.toList) s
 |.builtin .delete=>dlX P c.argTypes.toList (xargs ρ c.args.toList) s
 |.builtin .copy=>cpyZ P c.argTypes.toList (xargs ρ c.args.toList) s
 |.builtin .unsafeSliceData=>eUsd s (usdX (xargs ρ c.args.toList))
 |.builtin .unsafeString=>ustX P c.argTypes.toList (xargs ρ c.args.toList) s
 |.builtin .append=>eAp P s c.argTypes (xargs ρ c.args.toList)
 |_=>none
def xeffF (P:Program) (st:Bool) (call:CallT) (ρ:T X) (s:St):Op->Option (X × St)
 |.store t a x=>stoX P s t (pX (evX ρ a)) (evX ρ x)
 |.alloc t=>newX t (zeroX P t) s
 |.box t x=>eBx t s (evX ρ x)
 |.buildSlice t n ps=>eBs P t s n (xparts ρ ps.toList)
 |.makeSlice t l c=>msX P t (evX ρ l) (evX ρ c) s
 |.convert q d x=>eCv P st q d (evX ρ x) s
 |.makeMap t r=>mmX0 P t (r.map (evX ρ)) s
 |.mapUpdate t m k x=>muX P t (evX ρ m) (evX ρ k) (evX ρ x) s
 |.insert t m k x=>muX P t (evX ρ m) (evX ρ k) (evX ρ x) s
 |.range t x=>rgX P t (evX ρ x) s
 |.next x isS=>nxX isS (evX ρ x) s
 |.call c=>eCl P call ρ s c c.callee
 |_=>none
theorem Zi6 (P:Program) (st:Bool) (call:CallT) (ρ:T X) (s:St) (o:Oper):xeffF P st call ρ s o.op=xeff P st call ρ s o:=by
 unfold xeff
 cases o.op with
 |box t x=>
  show eBx t s (evX ρ x)=_;simp only
  cases evX ρ x <;> rfl
 |call c=>
  show eCl P call ρ s c c.callee=_;simp only
  cases c.callee with
  |value f=>
   cases f with
   |func f=>rfl
   |_=>rfl
  |builtin b=>
   cases b with
   |append=>
    show eAp P s c.argTypes (xargs ρ c.args.toList)=_;obtain⟨l⟩:=c.argTypes
    cases xargs ρ c.args.toList with
    |none=>
     match l with
     |[]=>rfl
     |[_]=>rfl
     |[_,_]=>rfl
     |_::_::_::_=>rfl
    |some xs=>
     match l,xs with
     |[],[]=>rfl
     |[],[_]=>rfl
     |[],[_,_]=>rfl
     |[],_::_::_::_=>rfl
     |[_],[]=>rfl
     |[_],[_]=>rfl
     |[_],[_,_]=>rfl
     |[_],_::_::_::_=>rfl
     |[_,_],[]=>rfl
     |[_,_],[_]=>rfl
     |[_,_],[_,_]=>rfl
     |[_,_],_::_::_::_=>rfl
     |_::_::_::_,[]=>rfl
     |_::_::_::_,[_]=>rfl
     |_::_::_::_,[_,_]=>rfl
     |_::_::_::_,_::_::_::_=>rfl
   |delete=>rfl
   |clear=>rfl
   |copy=>rfl
   |unsafeSliceData=>rfl
   |unsafeString=>rfl
   |_=>cases xargs ρ c.args.toList <;> rfl
  |invoke r m=>rfl
 |_=>rfl
def oD2 (s:St):Option (T X)->Option (T X × St)
 |some ρ=>some (ρ,s)
 |none=>none
def oE (n:Nat) (ops:List Oper) (i:Nat) (dst:Option Nat) (ρ:T X):Option (X × St)->Option (T X × St)
 |some q=>oD2 q.2 (xdone n ops i dst q.1 ρ)
 |none=>none
def oV (P:Program) (st:Bool) (call:CallT) (n:Nat) (ops:List Oper) (i:Nat) (o:Oper) (ρ:T X) (s:St):Option X->Option (T X × St)
 |some x=>oD2 s (xdone n ops i o.dst x ρ)
 |none=>oE n ops i o.dst ρ (xeffF P st call ρ s o.op)
def oG (P:Program) (st:Bool) (call:CallT) (n:Nat) (ops:List Oper) (i:Nat) (o:Oper) (ρ:T X) (s:St):Option Bool->Option (T X × St)
 |some c=>(match c with
  |true=>oV P st call n ops i o ρ s (xvalF P ρ s o.op)
  |false=>oD2 s (xput n ρ o.dst undX))
 |none=>none
theorem oG_eq (P:Program) (st:Bool) (call:CallT) (n:Nat) (ops:List Oper) (i:Nat) (o:Oper) (ρ:T X) (s:St):oG P st call n ops i o ρ s (xgd ops ρ o)=xop1 P st call n ops i o ρ s:=by
 unfold xop1
 cases xgd ops ρ o with
 |none=>rfl
 |some c=>
  cases c with
  |true=>
   show oV P st call n ops i o ρ s (xvalF P ρ s o.op)=_;rw[Zia];simp only
   cases xval P ρ s o with
   |some x=>
    show oD2 s (xdone n ops i o.dst x ρ)=_;simp only
    cases xdone n ops i o.dst x ρ <;> rfl
   |none=>
    show oE n ops i o.dst ρ (xeffF P st call ρ s o.op)=_;rw[Zi6];simp only
    cases xeff P st call ρ s o with
    |none=>rfl
    |some q=>
     obtain⟨x,s'⟩:=q;show oD2 s' (xdone n ops i o.dst x ρ)=_;simp only
     cases xdone n ops i o.dst x ρ <;> rfl
  |false=>
   show oD2 s (xput n ρ o.dst undX)=_;simp only
   cases xput n ρ o.dst undX <;> rfl
def lK (ih:Nat->T X->St->Option (T X × St)) (i:Nat):Option (T X × St)->Option (T X × St)
 |some q=>ih i q.1 q.2
 |none=>none
def xopsF (P:Program) (st:Bool) (call:CallT) (n:Nat) (ops:List Oper) (l:List Oper):Nat->T X->St->Option (T X × St):=
 @List.rec Oper (λ_=>Nat->T X->St->Option (T X × St)) (λ_ ρ s=>some (ρ,s)) (λo _ ih i ρ s=>lK ih (i+1) (oG P st call n ops i o ρ s (xgd ops ρ o))) l
theorem Zg8 (P:Program) (st:Bool) (call:CallT) (n:Nat) (ops:List Oper):∀ (l:List Oper) (i:Nat) (ρ:T X) (s:St),xopsF P st call n ops l i ρ s=xops P st call n ops l i ρ s
 |[],_,_,_=>rfl
 |o::l,i,ρ,s=>by
  show lK (xopsF P st call n ops l) (i+1) (oG P st call n ops i o ρ s (xgd ops ρ o))=_;rw[oG_eq,xops]
  cases xop1 P st call n ops i o ρ s with
  |none=>rfl
  |some q=>
   obtain⟨ρ',s'⟩:=q;exact Zg8 P st call n ops l (i+1) ρ' s'
abbrev Pend:=List (Nat × Oper × T X × X)
abbrev Past:=List (Nat × St)
abbrev StT:=Nat->Pend->Past->T X->St->Option (T X × St)
def sPa (ih:StT) (i:Nat) (pend:Pend) (past:Past) (ρ:T X) (s:St):Bool->Option (T X × St)
 |true=>ih i pend past ρ s
 |false=>none
def sV2 (P:Program) (b:Nat->Nat->Bool) (o:Oper) (ih:StT) (i:Nat) (pend:Pend) (past:Past) (ρ:T X) (s:St) (x:X) (ρ':T X):Bool->Option (T X × St)
 |true=>ih (i+1) pend past ρ' s
 |false=>sPa ih (i+1) ((i,o,ρ,x)::pend) past ρ' s (pastOk P ρ o (b i) x past)
def sV1 (P:Program) (b:Nat->Nat->Bool) (o:Oper) (ih:StT) (i:Nat) (pend:Pend) (past:Past) (ρ:T X) (s:St) (x:X):Option (T X)->Option (T X × St)
 |some ρ'=>sV2 P b o ih i pend past ρ s x ρ' (blind P o)
 |none=>none
def sV (P:Program) (n:Nat) (ops:List Oper) (b:Nat->Nat->Bool) (o:Oper) (ih:StT) (i:Nat) (pend:Pend) (past:Past) (ρ:T X) (s:St):Option X->Option (T X × St)
 |some x=>sV1 P b o ih i pend past ρ s x (xdone n ops i o.dst x ρ)
 |none=>none
def sE2 (ih:StT) (i:Nat) (pend:Pend) (past:Past) (s s':St):Bool->Option (T X)->Option (T X × St)
 |true,some ρ'=>ih (i+1) pend ((i,s)::past) ρ' s'
 |_,_=>none
def sE (P:Program) (n:Nat) (ops:List Oper) (b:Nat->Nat->Bool) (o:Oper) (ih:StT) (i:Nat) (pend:Pend) (past:Past) (ρ:T X) (s:St):Option (X × St)->Option (T X × St)
 |some q=>sE2 ih i pend past s q.2 (pendOk P q.2 (b i) pend) (xdone n ops i o.dst q.1 ρ)
 |none=>none
def sS (ih:StT) (i:Nat) (pend:Pend) (past:Past) (s:St):Option (T X)->Option (T X × St)
 |some ρ'=>ih (i+1) pend past ρ' s
 |none=>none
def sX (P:Program) (call:CallT) (n:Nat) (ops:List Oper) (b:Nat->Nat->Bool) (o:Oper) (ih:StT) (i:Nat) (pend:Pend) (past:Past) (ρ:T X) (s:St):Bool->Option (T X × St)
 |true=>sV P n ops b o ih i pend past ρ s (xvalF P ρ s o.op)
 |false=>sE P n ops b o ih i pend past ρ s (xeffF P false call ρ s o.op)
def sG (P:Program) (call:CallT) (n:Nat) (ops:List Oper) (b:Nat->Nat->Bool) (o:Oper) (ih:StT) (i:Nat) (pend:Pend) (past:Past) (ρ:T X) (s:St):Option Bool->Option (T X × St)
 |some c=>(match c with
  |true=>sX P call n ops b o ih i pend past ρ s (stillOp o.op)
  |false=>sS ih i pend past s (xput n ρ o.dst undX))
 |none=>none
def xstF (P:Program) (call:CallT) (n:Nat) (ops:List Oper) (b:Nat->Nat->Bool) (l:List Oper):StT:=
 @List.rec Oper (λ_=>StT) (λ_ _ _ ρ s=>some (ρ,s)) (λo _ ih i pend past ρ s=>sG P call n ops b o ih i pend past ρ s (xgd ops ρ o)) l
theorem Zlg (P:Program) (call:CallT) (n:Nat) (ops:List Oper) (b:Nat->Nat->Bool):∀ (l:List Oper) (i:Nat) (pend:Pend) (past:Past) (ρ:T X) (s:St),xstF P call n ops b l i pend past ρ s=xst P call n ops b l i pend past ρ s
 |[],_,_,_,_,_=>rfl
 |o::l,i,pend,past,ρ,s=>by
  have ih:=Zlg P call n ops b l;show sG P call n ops b o (xstF P call n ops b l) i pend past ρ s (xgd ops ρ o)=_;rw[xst]
  cases xgd ops ρ o with
  |none=>rfl
  |some c=>
   cases c with
   |false=>
    show sS (xstF P call n ops b l) i pend past s (xput n ρ o.dst undX)=_;simp only
    cases xput n ρ o.dst undX with
    |none=>rfl
    |some ρ'=>exact ih _ _ _ _ _
   |true=>
    show sX P call n ops b o (xstF P call n ops b l) i pend past ρ s (stillOp o.op)=_;simp only
    cases stillOp o.op with
    |true=>
     show sV P n ops b o (xstF P call n ops b l) i pend past ρ s (xvalF P ρ s o.op)=_;rw[Zia];simp only
     cases xval P ρ s o with
     |none=>rfl
     |some x=>
      show sV1 P b o (xstF P call n ops b l) i pend past ρ s x (xdone n ops i o.dst x ρ)=_;simp only
      cases xdone n ops i o.dst x ρ with
      |none=>rfl
      |some ρ'=>
       show sV2 P b o (xstF P call n ops b l) i pend past ρ s x ρ' (blind P o)=_;simp only
       cases blind P o with
       |true=>exact ih _ _ _ _ _
       |false=>
        show sPa (xstF P call n ops b l) (i+1) ((i,o,ρ,x)::pend) past ρ' s (pastOk P ρ o (b i) x past)=_;simp only
        cases pastOk P ρ o (b i) x past with
        |true=>exact ih _ _ _ _ _
        |false=>rfl
    |false=>
     show sE P n ops b o (xstF P call n ops b l) i pend past ρ s (xeffF P false call ρ s o.op)=_;rw[Zi6];simp only
     cases xeff P false call ρ s o with
     |none=>rfl
     |some q=>
      obtain⟨x,s'⟩:=q;show sE2 (xstF P call n ops b l) i pend past s s' (pendOk P s' (b i) pend) (xdone n ops i o.dst x ρ)=_;simp only
      cases pendOk P s' (b i) pend with
      |false=>cases xdone n ops i o.dst x ρ <;> rfl
      |true=>
       cases xdone n ops i o.dst x ρ with
       |none=>rfl
       |some ρ'=>exact ih _ _ _ _ _
def rS (P:Program) (n:Nat) (call:CallT) (ops:Array Oper) (ρ:T X) (s:St):Bool->Option (T X × St)
 |true=>xstF P call n ops.toList (befM (msOf ops.toList [])) ops.toList 0 [] [] ρ s
 |false=>xtr P call n ops ρ s
def rD (P:Program) (n:Nat) (call:CallT) (ops:Array Oper) (ρ:T X) (s:St):Bool->Bool->Option (T X × St)
 |true,true=>xopsF P true call n ops.toList ops.toList 0 ρ s
 |_,_=>rS P n call ops ρ s (stagedB ops ops.toList (msOf ops.toList []) ops.toList 0)
def xregF (P:Program) (n:Nat) (call:CallT) (ops:Array Oper) (ρ:T X) (s:St):Bool->Option (T X × St)
 |false=>xopsF P false call n ops.toList ops.toList 0 ρ s
 |true=>rD P n call ops ρ s (Region.lexB .any ops) (allStill ops.toList)
theorem Zmi (P:Program) (n:Nat) (call:CallT) (ops:Array Oper) (draw:Bool) (ρ:T X) (s:St):xregF P n call ops ρ s draw=xreg P n call ops draw ρ s:=by
 unfold xreg
 cases draw with
 |false=>exact Zg8 _ _ _ _ _ _ _ _ _
 |true=>
  show rD P n call ops ρ s (Region.lexB .any ops) (allStill ops.toList)=_
  have st:rS P n call ops ρ s (stagedB ops ops.toList (msOf ops.toList []) ops.toList 0)=(match stagedB ops ops.toList (msOf ops.toList []) ops.toList 0 with
   |true=>xst P call n ops.toList (befM (msOf ops.toList [])) ops.toList 0 [] [] ρ s
   |false=>xtr P call n ops ρ s):=by
   cases stagedB ops ops.toList (msOf ops.toList []) ops.toList 0 with
   |true=>exact Zlg _ _ _ _ _ _ _ _ _ _ _
   |false=>rfl
  simp only
  cases Region.lexB .any ops with
  |false=>exact st
  |true=>
   cases allStill ops.toList with
   |false=>exact st
   |true=>exact Zg8 _ _ _ _ _ _ _ _ _
def cR2 (s:St):Option X->Option (X × St)
 |some x=>some (x,s)
 |none=>none
def cR (P:Program) (rs:List ResultVar):Option (Exit × T X × St)->Option (X × St)
 |some q=>(match q.1 with
  |.normal=>cR2 q.2.2 (xres P q.2.1 q.2.2 rs [])
  |.ret=>cR2 q.2.2 (xres P q.2.1 q.2.2 rs [])
  |_=>none)
 |none=>none
def cB (P:Program) (run:Run) (fn:Func) (xs:List X) (s:St):Option Code->Bool->Bool->Option (X × St)
 |some c,false,true=>cR P fn.results.toList (run fn.ntmps c (argX (dep fn.ntmps) xs 0 .e) s)
 |_,_,_=>none
def cF (P:Program) (run:Run) (xs:List X) (s:St):Option Func->Option (X × St)
 | some fn => cB P run fn xs s fn.body (fn.name == "runtime.NumGoroutine") (Nat.ble xs.length fn.ntmps)
 |none=>none
def mF (P:Program) (run:Run) (f:FuncId) (xs:List X) (s:St):Option (X × St)->Option (X × St)
 |some p=>some p
 |none=>cF P run xs s (P.funcs[f]?)
def callF (P:Program) (M:List Ent) (run:Run) (f:FuncId) (xs:List X) (s:St):Option (X × St):=mF P run f xs s (memo M f xs s)
theorem Zfi (P:Program) (M:List Ent) (run:Run) (f:FuncId) (xs:List X) (s:St):callF P M run f xs s=callX P M run f xs s:=by
 unfold callF callX
 cases memo M f xs s with
 |some x=>rfl
 |none=>
 show cF P run xs s (P.funcs[f]?)=_;simp only
 cases P.funcs[f]? with
 |none=>rfl
 |some fn=>
  show cB P run fn xs s fn.body (fn.name == "runtime.NumGoroutine") (Nat.ble xs.length fn.ntmps) = _; simp only
  cases fn.body with
  |none=>rfl
  |some c=>
   cases fn.name == "runtime.NumGoroutine" with
   |true=>cases Nat.ble xs.length fn.ntmps <;> rfl
   |false=>
    cases Nat.ble xs.length fn.ntmps with
    |false=>rfl
    |true=>
     show cR P fn.results.toList (run fn.ntmps c (argX (dep fn.ntmps) xs 0 .e) s)=_;simp only
     cases run fn.ntmps c (argX (dep fn.ntmps) xs 0 .e) s with
     |none=>rfl
     |some q=>
      obtain⟨e,ρ',s'⟩:=q
      cases e with
      |normal=>
       show cR2 s' (xres P ρ' s' fn.results.toList [])=_;simp only
       cases xres P ρ' s' fn.results.toList [] <;> rfl
      |ret=>
       show cR2 s' (xres P ρ' s' fn.results.toList [])=_;simp only
       cases xres P ρ' s' fn.results.toList [] <;> rfl
      |_=>rfl
def kR:Option (T X × St)->Option (Exit × T X × St)
 |some q=>some (.normal,q.1,q.2)
 |none=>none
def kS2 (ih:Run) (n:Nat) (y:Code) (q:Exit × T X × St):Exit->Option (Exit × T X × St)
 |.normal=>ih n y q.2.1 q.2.2
 |_=>some q
def kS (ih:Run) (n:Nat) (y:Code):Option (Exit × T X × St)->Option (Exit × T X × St)
 |some q=>kS2 ih n y q q.1
 |none=>none
def kC2 (ih:Run) (n:Nat) (x y:Code) (ρ:T X) (s:St):Bool->Option (Exit × T X × St)
 |true=>ih n x ρ s
 |false=>ih n y ρ s
def kC (ih:Run) (n:Nat) (x y:Code) (ρ:T X) (s:St):Option X->Option (Exit × T X × St)
 |some (.b c)=>kC2 ih n x y ρ s c
 |_=>none
def kB3 (q:Exit × T X × St):Bool->Option (Exit × T X × St)
 |true=>some (.normal,q.2.1,q.2.2)
 |false=>some q
def kB2 (id:Nat) (q:Exit × T X × St):Exit->Option (Exit × T X × St)
 |.exit i=>kB3 q (Nat.beq i id)
 |_=>some q
def kB (id:Nat):Option (Exit × T X × St)->Option (Exit × T X × St)
 |some q=>kB2 id q q.1
 |none=>none
def stepF (P:Program) (M:List Ent) (ih:Run) (n:Nat) (c:Code) (ρ:T X) (s:St):Option (Exit × T X × St):=match c with
 |.skip=>some (.normal,ρ,s)
 |.label _=>some (.normal,ρ,s)
 |.region _ ops draw=>kR (xregF P n (callF P M ih) ops ρ s draw)
 |.seq x y=>kS ih n y (ih n x ρ s)
 |.cond q x y=>kC ih n x y ρ s (evX ρ q)
 |.block id x=>kB id (ih n x ρ s)
 |.loop x=>kS ih n (.loop x) (ih n x ρ s)
 |.exit id=>some (.exit id,ρ,s)
 |.ret=>some (.ret,ρ,s)
 |_=>none
def evF (P:Program) (M:List Ent) (k:Nat):Run:=@Nat.rec (λ_=>Run) (λ_ _ _ _=>none) (λ_ ih=>stepF P M ih) k
theorem Znf (P:Program) (M:List Ent):∀ (k:Nat) (n:Nat) (c:Code) (ρ:T X) (s:St),evF P M k n c ρ s=ev P M k n c ρ s
 |0,_,_,_,_=>rfl
 |k+1,n,c,ρ,s=>by
  have ih:=Znf P M k
  have ihf:evF P M k=ev P M k:=by funext n c ρ s;exact ih n c ρ s
  show stepF P M (evF P M k) n c ρ s=_;rw[ihf];unfold stepF
  cases c with
  |region id ops draw=>
   simp only[ev];rw[Zmi]
   have:callF P M (ev P M k)=callX P M (ev P M k):=by funext f xs s;exact Zfi P M _ f xs s
   rw[this]
   cases xreg P n (callX P M (ev P M k)) ops draw ρ s <;> rfl
  |seq x y=>
   simp only[ev]
   cases ev P M k n x ρ s with
   |none=>rfl
   |some q=>obtain⟨e,ρ',s'⟩:=q;cases e <;> rfl
  |cond q x y=>
   simp only[ev]
   cases evX ρ q with
   |none=>rfl
   |some z=>
    cases z with
    |b c=>cases c <;> rfl
    |_=>rfl
  |block id x=>
   simp only[ev]
   cases ev P M k n x ρ s with
   |none=>rfl
   |some q=>
    obtain⟨e,ρ',s'⟩:=q
    cases e with
    |exit i=>
     show kB3 (.exit i,ρ',s') (Nat.beq i id)=_;simp only
     cases Nat.beq i id <;> rfl
    |_=>rfl
  |loop x=>
   simp only[ev]
   cases ev P M k n x ρ s with
   |none=>rfl
   |some q=>obtain⟨e,ρ',s'⟩:=q;cases e <;> rfl
  |_=>rfl
theorem Zkc (P:Program) (M:List Ent) (k:Nat):evF P M k=ev P M k:=by funext n c ρ s;exact Znf P M k n c ρ s
theorem Zm7 {P:Program}(hm:P.follows .mixedOrders=true){f:FuncId}{k:Nat}{M:List Ent}(hM:OraOk P M) (h:isTrue (callF P M (evF P M k) f [] s0)=true){w:World}{L:List HProp}{K:KT}(H:Holds w L)
  (post:∀ w',Same w w'->Holds w' L->K (.bool true) w'):Cl P f #[] w K:=by
 rw[Zkc,Zfi] at h;exact Znq hm hM h H post
theorem Zfe {P:Program}:OraOk P []:=λe he=>by cases he
theorem Zc3 {P:Program}{e:Ent}{M:List Ent}(h:EntOk P e) (hM:OraOk P M):OraOk P (e::M):=λx hx=>by
 rcases mem_cons.1 hx with rfl|hx
 ·exact h
 ·exact hM x hx
def isRes (x:X) (q':St):Option (X × St)->Bool
 |some r=>(match eqX r.1 x with
  |true=>subS r.2 q'
  |false=>false)
 |none=>false
theorem entS {P:Program}(hm:P.follows .mixedOrders=true){f:FuncId}{k:Nat}{xs:List X}{q:St}{z:X}{q':St}{M:List Ent}(hM:OraOk P M) (hd:domS q q'=true)
  (h:isRes z q' (callF P M (evF P M k) f xs q)=true):EntOk P (.s f xs q z q'):=by
 refine⟨hd,?_⟩;intro base w0 σ w vs hw hv K hK;rw[Zkc,Zfi] at h;have hc:CallOk P base w0 (callX P M (ev P M k)):=Zfl hM (ev_ok hm hM k).1
 cases hx:callX P M (ev P M k) f xs q with
 |none=>rw[hx] at h;cases h
 |some r=>
  obtain⟨y,s'⟩:=r;rw[hx] at h;unfold isRes at h;simp only at h;split at h
  ·rename_i he;obtain rfl:=Zcm _ _ he;exact hc f xs q _ s' hx σ w vs hw hv K λσ' w' v hxt hw' hv'=>hK σ' w' v hxt (hw'.sub (Zki h)) hv'
  ·cases h
end
end Go.Ev
namespace Go.Proofs.YthhkodlnfogkgaaGreatDoor
open Go Go.Vc Go.Proofs.Tryz
namespace P46
open S4r
variable {w:World}{L:List HProp}{K:KT}
structure En where
 id:Int
 dn:Bool
 tx:ByteArray
 er:Int
structure An where
 ty:Int
 jb:Int
 tx:ByteArray
 er:Int
def cellsEn (e:En):List Value:=[iv e.id,.bool e.dn,.string e.tx,iv e.er]
def cellsAn (a:An):List Value:=[iv a.ty,iv a.jb,.string a.tx,iv a.er]
def eqEn (a b:En):Prop:=a.id=b.id/\a.dn=b.dn/\a.tx=b.tx/\a.er=b.er
def eqAn (a b:An):Prop:=a.ty=b.ty/\a.jb=b.jb/\a.tx=b.tx/\a.er=b.er
instance (a b:En):Decidable (eqEn a b):=by unfold eqEn;infer_instance
instance (a b:An):Decidable (eqAn a b):=by unfold eqAn;infer_instance
theorem Zmu (a b:En):eqEn a b↔a=b:=by
 cases a;cases b;simp[eqEn]
theorem Zmh (a b:An):eqAn a b↔a=b:=by
 cases a;cases b;simp[eqAn]
instance:DecidableEq En:=λa b=>decidable_of_iff _ (Zmu a b)
instance:DecidableEq An:=λa b=>decidable_of_iff _ (Zmh a b)
def xs_ (s:ByteArray):Ev.X:=.s (s.data.toList.map (·.toNat))
theorem xs_vl (s:ByteArray):Ev.str (s.data.toList.map (·.toNat))=s:=by
 unfold Ev.str;rw[List.map_map]
 have:(s.data.toList.map (UInt8.ofNat ∘ λx=>x.toNat))=s.data.toList:=by
  rw[show (UInt8.ofNat ∘ λx:UInt8=>x.toNat)=id by funext x;simp];simp
 rw[this]
theorem xs_eq (s t:ByteArray):Ev.eqN (s.data.toList.map (·.toNat)) (t.data.toList.map (·.toNat))=decide (s=t):=by
 rw[Ev.Zbn,xs_vl,xs_vl]
def xEn (e:En):Ev.X:=.g [.i .i64 e.id,.b e.dn,xs_ e.tx,.i .i64 e.er]
def xAn (a:An):Ev.X:=.g [.i .i64 a.ty,.i .i64 a.jb,xs_ a.tx,.i .i64 a.er]
theorem Zit (e:En):Ev.vl (λ_=>none) (xEn e)=some (.agg (cellsEn e).toArray):=by
 simp[xEn,cellsEn,xs_,Ev.vl,Ev.vls,xs_vl,iv]
theorem Zii (a:An):Ev.vl (λ_=>none) (xAn a)=some (.agg (cellsAn a).toArray):=by
 simp[xAn,cellsAn,xs_,Ev.vl,Ev.vls,xs_vl,iv]
theorem eq4 {P:Program}{eq:TypeId->Ev.X->Ev.X->Option Bool}{x0 x1 x2 x3 y0 y1 y2 y3:Ev.X}{f0 f1 f2 f3:Field}{b0 b1 b2 b3:Bool}
  (o : f0.offset = 0 ∧ f1.offset = 1 ∧ f2.offset = 2 ∧ f3.offset = 3) (nm : (f0.name == "_") = false ∧ (f1.name == "_") = false ∧ (f2.name == "_") = false ∧ (f3.name == "_") = false)
  (p:∀ l:List Ev.X,Ev.partX P f0.type l 0=l[0]?/\Ev.partX P f1.type l 1=l[1]?/\Ev.partX P f2.type l 2=l[2]?/\Ev.partX P f3.type l 3=l[3]?)
  (e0:eq f0.type x0 y0=some b0) (e1:eq f1.type x1 y1=some b1) (e2:eq f2.type x2 y2=some b2) (e3:eq f3.type x3 y3=some b3) :
  Ev.eqFs P eq [x0,x1,x2,x3] [y0,y1,y2,y3] [f0,f1,f2,f3]=some (b0&&(b1&&(b2&&b3))):=by
 obtain⟨o0,o1,o2,o3⟩:=o;obtain⟨n0,n1,n2,n3⟩:=nm;obtain⟨p0,p1,p2,p3⟩:=p [x0,x1,x2,x3];obtain⟨q0,q1,q2,q3⟩:=p [y0,y1,y2,y3];simp only[Ev.eqFs,n0,n1,n2,n3,o0,o1,o2,o3,p0,p1,p2,p3,q0,q1,q2,q3,List.getElem?_cons_zero,gF,e0,e1,e2,e3]
 cases b0 <;> cases b1 <;> cases b2 <;> cases b3 <;> rfl
def findE (xs:List En) (id:Int):Option En:=xs.find? λe=>decide (e.id=id)
theorem Zfh {id:Int}:∀ {xs:List En}{i:Nat}{x:En},xs[i]?=some x->x.id=id->(∀ (q:Nat) y,q < i->xs[q]?=some y->y.id≠id)->findE xs id=some x
 |[],i,x,h,_,_=>by simp at h
 |y::r,0,x,h,hx,_=>by
  simp at h;subst h;simp[findE,hx]
 |y::r,i+1,x,h,hx,hn=>by
  have h0:¬ y.id=id:=hn 0 y (by omega) rfl;have:=Zfh (xs:=r) (i:=i) (x:=x) (by simpa using h) hx λq z hq hz=>hn (q+1) z (by omega) (by simpa using hz);unfold findE at this ⊢;rw[List.find?_cons,decide_eq_false h0];exact this
theorem Zeu {id:Int}{xs:List En}(h:∀ (q:Nat) y,xs[q]?=some y->y.id≠id):findE xs id=none:=by
 unfold findE;rw[List.find?_eq_none];intro x hx;obtain⟨q,hq⟩:=List.getElem?_of_mem hx;simpa using h q x hq
theorem Zm4 {id:Int}{xs:List En}{x:En}(h:findE xs id=some x):x.id=id:=by
 have:=List.find?_some h;simpa using this
def agrE (us bs:List En):Prop:=∀ (i:Nat) x,us[i]?=some x->∀ q,findE bs x.id=some q->findE us x.id=some q
def agrA (us bs:List An):Prop:=∀ (i:Nat) x y,us[i]?=some x->bs[i]?=some y->x=y
end P46
end Go.Proofs.YthhkodlnfogkgaaGreatDoor
namespace Go.Mh
def lt (W:List Nat) (x y:Nat):Prop:=W.getD x 0 < W.getD y 0\/(W.getD x 0=W.getD y 0/\x < y)
instance (W:List Nat) (x y:Nat):Decidable (lt W x y):=inferInstanceAs (Decidable (_\/_))
theorem Zbq {W:List Nat}{x y z:Nat}(h:lt W x y) (h2:lt W y z):lt W x z:=by unfold lt at *;omega
def IsLeast (W V:List Nat) (x:Nat):Prop:=x∈V/\∀ y∈V,y≠x->lt W x y
theorem IsLeast.perm {W V V':List Nat}{x:Nat}(h:IsLeast W V x) (p:V.Perm V'):IsLeast W V' x:=
 ⟨p.mem_iff.1 h.1,λy hy=>h.2 y (p.mem_iff.2 hy)⟩
structure HS where
 W:List Nat
 I:List (Option Nat)
 V:List Nat
def h0 (w:List Nat):HS:=⟨w,List.replicate w.length none,List.range w.length⟩
structure Join (s s':HS) (a b:Nat):Prop where
 la:IsLeast s.W s.V a
 lb:IsLeast s.W (s.V.erase a) b
 W:s'.W=s.W++[s.W.getD a 0+s.W.getD b 0]
 I:s'.I=((s.I.set a (some s.W.length)).set b (some s.W.length))++[none]
 V:s'.V.Perm (s.W.length::(s.V.erase a).erase b)
inductive Joins (s0:HS):Nat->HS->Prop
 |start:Joins s0 0 s0
 |next {k:Nat} {s s':HS} {a b:Nat} (h:Joins s0 k s) (j:Join s s' a b):Joins s0 (k+1) s'
structure Good (s:HS):Prop where
 nodup:s.V.Nodup
 lt:∀ x∈s.V,x < s.W.length
 len:s.I.length=s.W.length
 live:∀ x∈s.V,s.I[x]?=some none
 dead:∀ x,x < s.W.length->x∉s.V->∃ p,s.I[x]?=some (some p)/\x < p/\p < s.W.length
inductive Up (I:List (Option Nat)):Nat->Nat->Nat->Prop
 |here (x:Nat):Up I x 0 x
 |up {x p k y:Nat} (h:I[x]?=some (some p)) (u:Up I p k y):Up I x (k+1) y
theorem Up.join {s s':HS}{a b x k y:Nat}(hg:Good s) (j:Join s s' a b) (h:Up s.I x k y):Up s'.I x k y:=by
 induction h with
 |here x=>exact .here x
 |up h u ih=>
  rename_i x p k y;refine .up ?_ ih
  have hx:x < s.W.length:=by
   have:=(gH.1 h).1;rw[hg.len] at this;exact this
  have h1:x≠a:=by
   rintro rfl;rw[hg.live _ j.la.1] at h;cases h
  have h2:x≠b:=by
   rintro rfl;rw[hg.live _ (List.mem_of_mem_erase j.lb.1)] at h;cases h
  rw[j.I,gM (by rw[length_set,length_set,hg.len];exact hx),List.getElem?_set,List.getElem?_set,if_neg (λe=>h2 e.symm),if_neg (λe=>h1 e.symm)];exact h
def Depths (w out:List Nat):Prop:=∃ s r,Joins (h0 w) (w.length - 1) s/\s.V=[r]/\out.length=w.length/\∀ i,i < w.length->Up s.I i (out.getD i 0) r
structure Queue (n:Nat) (s:HS) (lf:List Nat) (j:Nat):Prop where
 perm:s.V.Perm (lf++List.range' j (s.W.length - j))
 jn:n<=j/\j<=s.W.length
 lfn:∀ x∈lf,x < n
 sorted:lf.Pairwise (lt s.W)
 mono:∀ x y,n<=x->x<=y->y < s.W.length->s.W.getD x 0<=s.W.getD y 0
 sum:∀ x∈s.V,∀ y∈s.V,x≠y->∀ c,n<=c->c < s.W.length->s.W.getD c 0<=s.W.getD x 0+s.W.getD y 0
def head (W lf:List Nat) (j:Nat):Nat:=match lf with
 |[]=>j
 |x::_=>if j=W.length\/W.getD x 0<=W.getD j 0 then x else j
def tail1 (W lf:List Nat) (j:Nat):List Nat:=match lf with
 |[]=>[]
 |x::l=>if j=W.length\/W.getD x 0<=W.getD j 0 then l else x::l
def tail2 (W lf:List Nat) (j:Nat):Nat:=match lf with
 |[]=>j+1
 |x::l=>if j=W.length\/W.getD x 0<=W.getD j 0 then j else j+1
def incL (out ls:List Nat):List Nat:=ls.foldl (λo i=>o.set i (o.getD i 0+1)) out
structure Forest (n:Nat) (s:HS) (l:List (Nat × List Nat)) (out:List Nat):Prop where
 perm:(l.map (·.1)).Perm s.V
 leaves:(l.flatMap (·.2)).Perm (List.range n)
 up:∀ t∈l,∀ i∈t.2,Up s.I i (out.getD i 0) t.1
 len:out.length=n
def Tot (s:HS):Nat:=(s.V.map λx=>s.W.getD x 0).sum
end Go.Mh
namespace Go.Ms
open Go.Mh
theorem sw {α:Type}{P Q R:List α}{x y:α}{p q:Nat}(hp:P.length=p) (hq:p+1+Q.length=q) :
  (P++x::(Q++y::R))[p]?=some x/\(P++x::(Q++y::R))[q]?=some y/\((P++x::(Q++y::R)).set p y).set q x=P++y::(Q++x::R)/\
   p < (P++x::(Q++y::R)).length/\q < ((P++x::(Q++y::R)).set p y).length:=by
 subst hp;subst hq
 have e:P.length+1+Q.length - P.length=(Q.length+1):=by omega
 refine⟨?_,?_,?_,?_,?_⟩
 ·rw[gT (Nat.le_refl _),Nat.sub_self];rfl
 ·rw[gT (by omega),e,gF,gT (Nat.le_refl _),Nat.sub_self];rfl
 ·rw[List.set_append_right _ _ (Nat.le_refl _),Nat.sub_self,List.set_cons_zero,List.set_append_right _ _ (by omega),e,List.set_cons_succ,List.set_append_right _ _ (Nat.le_refl _),Nat.sub_self,List.set_cons_zero]
 ·simp
 ·simp;omega
theorem Zel {α:Type}{U:List α}{i:Nat}(h:i < U.length):U.drop i=U[i]::U.drop (i+1):=List.drop_eq_getElem_cons h
theorem Zdx {α:Type}{U:List α}{i:Nat}(h:i < U.length):U.take (i+1)=U.take i++[U[i]]:=by
 rw[gO,gA h];rfl
theorem Zir {α:Type}{A B:List α}{x:α}{i:Nat}(h:A.length=i):(A++x::B)[i]?=some x:=by
 subst h;rw[gT (Nat.le_refl _),Nat.sub_self];rfl
theorem Zim {α:Type}{A X B:List α}{a c:Nat}(ha:A.length=a) (h:c < X.length):(A++(X++B))[a+c]?=some X[c]:=by
 subst ha;rw[gT (by omega),show A.length+c - A.length=c by omega,gM h,gA h]
theorem Zno {α:Type}{D:List α}{i:Nat}(h:i<=D.length):∃ A B,D=A++B/\A.length=i/\B.length=D.length - i:=⟨D.take i,D.drop i,(hN_ _ _).symm,by rw[gN];omega,by rw[gS]⟩
def Srt (W X:List Nat):Prop:=X.Pairwise (lt W)
theorem Srt.app {W X Y:List Nat}(hx:Srt W X) (hy:Srt W Y) (h:∀ x∈X,∀ y∈Y,lt W x y):Srt W (X++Y):=pairwise_append.2 ⟨hx,hy,h⟩
theorem Zho {W Z1 Z2:List Nat}{x:Nat}(hs:Srt W (Z1++Z2)) (h1:∀ z∈Z1,lt W z x) (h2:∀ z∈Z2,lt W x z):Srt W (Z1++x::Z2):=by
 obtain⟨a,b,c⟩:=pairwise_append.1 hs;refine pairwise_append.2 ⟨a,pairwise_cons.2 ⟨h2,b⟩,λz hz y hy=>?_⟩;rcases mem_cons.1 hy with rfl|hy
 ·exact h1 z hz
 ·exact c z hz y hy
theorem Zep {W Z:List Nat}{x:Nat}(hs:Srt W Z){k:Nat}(h:∀ y,Z[k]?=some y->lt W y x) (hk:k < Z.length):∀ z∈Z.take (k+1),lt W z x:=by
 intro z hz;obtain⟨i,hi,rfl⟩:=getElem_of_mem hz;rw[gN] at hi;rw[getElem_take];have hx:=h _ (gA hk)
 by_cases e:i=k
 ·subst e;exact hx
 ·exact Zbq (pairwise_iff_getElem.1 hs i k (by omega) hk (by omega)) hx
theorem Zf0 {W Z:List Nat}{x:Nat}(hs:Srt W Z){k:Nat}(h:∀ y,Z[k]?=some y->lt W x y):∀ z∈Z.drop k,lt W x z:=by
 intro z hz;obtain⟨i,hi,rfl⟩:=getElem_of_mem hz;rw[gS] at hi;rw[List.getElem_drop]
 have hk:k < Z.length:=by omega
 have hx:=h _ (gA hk)
 by_cases e:i=0
 ·subst e;exact hx
 ·exact Zbq hx (pairwise_iff_getElem.1 hs k (k+i) hk (by omega) (by omega))
def Seg (W:List Nat) (lo:Nat) (X:List Nat):Prop:=X.Perm (List.range' lo X.length)/\Srt W X
inductive Runs (W:List Nat) (s:Nat):Nat->List Nat->Prop
 |last {lo:Nat} {X:List Nat} (h:Seg W lo X) (hl:X.length<=s):Runs W s lo X
 |cons {lo:Nat} {X L:List Nat} (h:Seg W lo X) (hl:X.length=s) (r:Runs W s (lo+s) L):Runs W s lo (X++L)
theorem Seg.join {W X Y Z:List Nat}{lo s:Nat}(hx:Seg W lo X) (hl:X.length=s) (hy:Seg W (lo+s) Y) (hz:Z.Perm (X++Y)) (hs:Srt W Z):Seg W lo Z:=by
 refine⟨?_,hs⟩;refine hz.trans ((hx.1.append hy.1).trans ?_);rw[hz.length_eq,gD,hl,<-List.range'_append_1]
theorem Zj4 {W X Y:List Nat}{lo s:Nat}(hx:Seg W lo X) (hl:X.length=s) (hy:Seg W (lo+s) Y):∀ x∈X,∀ y∈Y,x < y:=by
 intro x h1 y h2;have h1:=mem_range'_1.1 (hx.1.mem_iff.1 h1);have h2:=mem_range'_1.1 (hy.1.mem_iff.1 h2);omega
theorem Zcy {W D:List Nat}{s lo:Nat}(h:Runs W s lo D) (hs:0 < s) (hl:D.length<=s):Seg W lo D:=by
 cases h with
 |last h _=>exact h
 |cons h hl2 r=>
  rename_i X L;rw[gD] at hl;have:L=[]:=eq_nil_of_length_eq_zero (by omega);subst this;rw[gU];exact h
theorem halves {W X1 X2 Y1 Y2 Z1 Z2:List Nat}(hx:Srt W (X1++X2)) (hy:Srt W (Y1++Y2)) (h1:∀ x∈X1,∀ y∈Y2,lt W x y) (h2:∀ y∈Y1,∀ x∈X2,lt W y x)
  (p1:Z1.Perm (X1++Y1)) (p2:Z2.Perm (X2++Y2)) (s1:Srt W Z1) (s2:Srt W Z2):(Z1++Z2).Perm (X1++X2++(Y1++Y2))/\Srt W (Z1++Z2):=by
 obtain⟨_,_,cx⟩:=pairwise_append.1 hx;obtain⟨_,_,cy⟩:=pairwise_append.1 hy;refine⟨?_,s1.app s2 λx hx1 y hy1=>?_⟩
 ·refine (p1.append p2).trans ?_;rw[gI,gI];refine .append_left _ ?_;rw[<-gI,<-gI];exact .append_right _ List.perm_append_comm
 ·rcases hT_.1 (p1.mem_iff.1 hx1) with h|h <;> rcases hT_.1 (p2.mem_iff.1 hy1) with h'|h'
  ·exact cx x h y h'
  ·exact h1 x h y h'
  ·exact h2 x h y h'
  ·exact cy x h y h'
theorem sw' {α:Type}{P Q R:List α}{x y:α}{p q:Nat}(hp:P.length=p) (hq:p+1+Q.length=q) :
  ((P++x::(Q++y::R)).set q x).set p y=P++y::(Q++x::R)/\q < (P++x::(Q++y::R)).length/\p < ((P++x::(Q++y::R)).set q x).length:=by
 obtain⟨_,_,e,h1,h2⟩:=sw (P:=P) (Q:=Q) (R:=R) (x:=x) (y:=y) hp hq;refine⟨by rw[List.set_comm _ _ (by omega)];exact e,?_,?_⟩
 ·rw[length_set] at h2;exact h2
 ·rw[length_set];exact h1
theorem Zp2 {W X Y:List Nat}{h lo hi s:Nat}(hx:Srt W X) (hy:Srt W Y) (hc:(lo=h - Y.length/\Y.length<=h/\hi=h)\/(lo=0/\hi=X.length)) (h0:lo<=s) (h1:s<=hi) (hh:s<=h)
  (h2:lo < s->lt W (X.getD (s - 1) 0) (Y.getD (h - s) 0)) (h3:s < hi->lt W (Y.getD (h - 1 - s) 0) (X.getD s 0)) (hX:s<=X.length) (hY:h - s<=Y.length) :
  (∀ x∈X.take s,∀ y∈Y.drop (h - s),lt W x y)/\(∀ y∈Y.take (h - s),∀ x∈X.drop s,lt W y x):=by
 have gX:∀ i (hi:i < X.length),X.getD i 0=X[i]:=λi hi=>by rw[gB,gA hi];rfl
 have gY:∀ i (hi:i < Y.length),Y.getD i 0=Y[i]:=λi hi=>by rw[gB,gA hi];rfl
 have mX:∀ i j (hi:i < X.length) (hj:j < X.length),i < j->lt W X[i] X[j]:=λi j hi hj hij=>pairwise_iff_getElem.1 hx i j hi hj hij;have mY:∀ i j (hi:i < Y.length) (hj:j < Y.length),i < j->lt W Y[i] Y[j]:=λi j hi hj hij=>pairwise_iff_getElem.1 hy i j hi hj hij
 constructor
 ·intro x hxm y hym;obtain⟨i,hi1,rfl⟩:=getElem_of_mem hxm;obtain⟨j,hj1,rfl⟩:=getElem_of_mem hym;rw[gN] at hi1;rw[gS] at hj1;rw[getElem_take,List.getElem_drop]
  have hls:lo < s:=by
   rcases hc with⟨a,b,c⟩|⟨a,b⟩ <;> omega
  have e:=h2 hls;rw[gX _ (by omega),gY _ (by omega)] at e
  have e1:lt W X[i] Y[h - s]:=by
   by_cases q:i=s - 1
   ·subst q;exact e
   ·exact Zbq (mX i (s - 1) (by omega) (by omega) (by omega)) e
  by_cases q:j=0
  ·subst q;exact e1
  ·exact Zbq e1 (mY (h - s) (h - s+j) (by omega) (by omega) (by omega))
 ·intro y hym x hxm;obtain⟨i,hi1,rfl⟩:=getElem_of_mem hxm;obtain⟨j,hj1,rfl⟩:=getElem_of_mem hym;rw[gN] at hj1;rw[gS] at hi1;rw[getElem_take,List.getElem_drop]
  have hls:s < hi:=by
   rcases hc with⟨a,b,c⟩|⟨a,b⟩ <;> omega
  have e:=h3 hls;rw[gX _ (by omega),gY _ (by omega)] at e
  have e1:lt W Y[j] X[s]:=by
   by_cases q:j=h - 1 - s
   ·subst q;exact e
   ·exact Zbq (mY j (h - 1 - s) (by omega) (by omega) (by omega)) e
  by_cases q:i=0
  ·subst q;exact e1
  ·exact Zbq e1 (mX s (s+i) (by omega) (by omega) (by omega))
theorem Znr (W:List Nat) (lo:Nat):Seg W lo []:=⟨.refl _,List.Pairwise.nil⟩
theorem Zem {W D:List Nat}{s lo:Nat}(h:Runs W s lo D) (hl:s<=D.length):∃ X R,D=X++R/\Seg W lo X/\X.length=s/\Runs W s (lo+s) R:=by
 cases h with
 |last h h2=>exact⟨D,[],(gU _).symm,h,by omega,.last (Znr _ _) (Nat.zero_le _)⟩
 |cons h h2 r=>exact⟨_,_,rfl,h,h2,r⟩
theorem Zi5 {W X:List Nat}{lo n:Nat}(h:Seg W lo X) (hn:lo+X.length<=n):∀ x∈X,x < n:=by
 intro x hx;have:=mem_range'_1.1 (h.1.mem_iff.1 hx);omega
theorem Zl3 (lo n s:Nat) (h:s<=n):List.range' lo n=List.range' lo s++List.range' (lo+s) (n - s):=by
 rw[List.range'_append_1,show s+(n - s)=n by omega]
end Go.Ms
namespace Go.Proofs.YthhkodlnfogkgaaGreatDoor
open Go Go.Vc Go.Proofs.Tryz
namespace P46
open Go.Mh Go.Ms
def isEnd (a:An):Prop:=a.ty=67\/a.ty=68
instance (a:An):Decidable (isEnd a):=by unfold isEnd;infer_instance
def isTx (a:An) (k:Int):Prop:=a.ty=66/\a.jb=k
instance (a:An) (k:Int):Decidable (isTx a k):=by unfold isTx;infer_instance
def isRef (a:An):Prop:=a.ty=69/\a.er≠34
instance (a:An):Decidable (isRef a):=by unfold isRef;infer_instance
def textsOf (l:List An) (k:Int):List UInt8:=(l.filter λa=>decide (isTx a k)).flatMap λa=>a.tx.data.toList
theorem Zgm (l:List An) (a:An) (k:Int):textsOf (l++[a]) k=textsOf l k++(if isTx a k then a.tx.data.toList else []):=by
 unfold textsOf;rw[List.filter_append,List.flatMap_append]
 congr 1
 by_cases h:isTx a k
 ·rw[if_pos h,List.filter_cons_of_pos (by simpa using h)];simp
 ·rw[if_neg h,List.filter_cons_of_neg (by simpa using h)];rfl
def endOf (l:List An) (a:An):En:=⟨a.jb,a.ty==67,if a.ty=67 then ⟨(textsOf l a.jb).toArray⟩ else ⟨#[]⟩,a.er⟩
def hasId (E:List En) (k:Int):Prop:=∃ e∈E,e.id=k
open Classical in
noncomputable def stepP (s:List An × List En) (a:An):List An × List En:=(s.1++[a],if isEnd a/\¬ hasId s.2 a.jb then s.2++[endOf s.1 a] else s.2)
def insE (x:En):List En->List En
 |[]=>[x]
 |y::r=>if x.id < y.id then x::y::r else y::insE x r
open Classical in
noncomputable def stepD (s:List An × List En) (a:An):List An × List En:=(s.1++[a],if isEnd a/\¬ hasId s.2 a.jb then insE (endOf s.1 a) s.2 else s.2)
noncomputable def seeP (l:List An):List En:=(l.foldl stepP ([],[])).2
noncomputable def seeD (l:List An):List En:=(l.foldl stepD ([],[])).2
theorem fst_P (l:List An):∀ s,(l.foldl stepP s).1=s.1++l:=by
 induction l with
 |nil=>intro s;simp
 |cons a r ih=>intro s;rw[List.foldl_cons,ih];simp[stepP]
theorem fst_D (l:List An):∀ s,(l.foldl stepD s).1=s.1++l:=by
 induction l with
 |nil=>intro s;simp
 |cons a r ih=>intro s;rw[List.foldl_cons,ih];simp[stepD]
open Classical in
theorem Zkl (s:List An × List En) (a:An):(stepP s a).2=if isEnd a/\¬ hasId s.2 a.jb then s.2++[endOf s.1 a] else s.2:=rfl
open Classical in
theorem Zdo (l:List An) (a:An):seeP (l++[a])=if isEnd a/\¬ hasId (seeP l) a.jb then seeP l++[endOf l a] else seeP l:=by
 unfold seeP;rw[List.foldl_append];show (stepP _ a).2=_;rw[Zkl,fst_P,hO_]
open Classical in
theorem Zkp (s:List An × List En) (a:An):(stepD s a).2=if isEnd a/\¬ hasId s.2 a.jb then insE (endOf s.1 a) s.2 else s.2:=rfl
open Classical in
theorem Zj2 (l:List An) (a:An):seeD (l++[a])=if isEnd a/\¬ hasId (seeD l) a.jb then insE (endOf l a) (seeD l) else seeD l:=by
 unfold seeD;rw[List.foldl_append];show (stepD _ a).2=_;rw[Zkp,fst_D,hO_]
theorem Ze6 (x:En):∀ r,(insE x r).Perm (x::r)
 |[]=>.refl _
 |y::r=>by
  unfold insE;split
  ·exact .refl _
  ·exact ((Ze6 x r).cons y).trans (List.Perm.swap x y r)
theorem Zgy {x:En}:∀ {r:List En},r.Pairwise (λa b=>a.id < b.id)->¬ hasId r x.id->(insE x r).Pairwise (λa b=>a.id < b.id)
 |[],_,_=>List.pairwise_singleton _ _
 |y::r,h,hn=>by
  obtain⟨h1,h2⟩:=pairwise_cons.1 h;have hxy:x.id≠y.id:=λe=>hn ⟨y,hJ_ ..,e.symm⟩;unfold insE;split
  ·rename_i hlt;refine pairwise_cons.2 ⟨λz hz=>?_,h⟩;rcases mem_cons.1 hz with rfl|hz
   ·exact hlt
   ·have:=h1 z hz;omega
  ·rename_i hlt;refine pairwise_cons.2 ⟨λz hz=>?_,Zgy h2 λ⟨e,he,hi⟩=>hn ⟨e,hK_ _ he,hi⟩⟩;rcases mem_cons.1 ((Ze6 x r).mem_iff.1 hz) with rfl|hz
   ·omega
   ·exact h1 z hz
theorem Zjp {E D:List En}(h:E.Perm D) (k:Int):hasId E k↔hasId D k:=⟨λ⟨e,a,b⟩=>⟨e,h.mem_iff.1 a,b⟩,λ⟨e,a,b⟩=>⟨e,h.mem_iff.2 a,b⟩⟩
theorem Zfw (l:List An):(seeD l).Pairwise (λa b=>a.id < b.id)/\(seeD l).Perm (seeP l):=by
 obtain⟨m,rfl⟩:∃ m,l=m.reverse:=⟨l.reverse,by simp⟩
 induction m with
 |nil=>exact⟨List.Pairwise.nil,.refl _⟩
 |cons a m ih=>
  rw[List.reverse_cons,Zj2,Zdo];obtain⟨h1,h2⟩:=ih;have hh:=Zjp h2 a.jb
  by_cases h:isEnd a/\¬ hasId (seeD m.reverse) a.jb
  ·rw[if_pos h,if_pos ⟨h.1,λg=>h.2 (hh.2 g)⟩];refine⟨Zgy h1 h.2,(Ze6 _ _).trans ?_⟩;exact (h2.cons _).trans (List.perm_append_singleton _ _).symm
  ·rw[if_neg h,if_neg λg=>h ⟨g.1,λq=>g.2 (hh.1 q)⟩];exact⟨h1,h2⟩
theorem Zeq:∀ {D E:List En},D.Pairwise (λa b=>a.id < b.id)->E.Pairwise (λa b=>a.id < b.id)->D.Perm E->D=E
 |[],E,_,_,h=>(List.nil_perm.1 h).symm
 |x::D,[],_,_,h=>by have:=h.length_eq;simp at this
 |x::D,y::E,h1,h2,h=>by
  obtain⟨a1,a2⟩:=pairwise_cons.1 h1;obtain⟨b1,b2⟩:=pairwise_cons.1 h2;have hx:x∈y::E:=h.mem_iff.1 (hJ_ ..);have hy:y∈x::D:=h.mem_iff.2 (hJ_ ..)
  have e:x=y:=by
   rcases mem_cons.1 hx with e|hx
   ·exact e
   ·rcases mem_cons.1 hy with e|hy
    ·exact e.symm
    ·have:=b1 x hx;have:=a1 y hy;omega
  subst e;rw[Zeq a2 b2 h.cons_inv]
theorem Zl9 {E:List En}(h:∃ D:List En,D.Pairwise (λa b=>a.id < b.id)/\D.Perm E):E.Pairwise λa b=>a.id≠b.id:=by
 obtain⟨D,h1,h2⟩:=h;refine h2.pairwise_iff (λ{a b} e=>e.symm) |>.1 (h1.imp λhab=>by omega)
theorem Zj7 {E:List En}{l:List An}{W Z:List Nat}(e0:En) (hE:E=seeP l) (hp:∀ e∈E,0<=e.id) (hW:W=E.map λe=>e.id.toNat) (hs:Seg W 0 Z) (hl:Z.length=E.length):Z.map (λi=>E.getD i e0)=seeD l:=by
 obtain⟨g1,g2⟩:=Zfw l;obtain⟨q1,q2⟩:=hs
 have hmap:(List.range' 0 E.length).map (λi=>E.getD i e0)=E:=by
  apply List.ext_getElem?;intro i;rw[hV_]
  by_cases h:i < E.length
  ·rw[List.getElem?_range' (by omega)];simp[gB,gA h]
  ·rw[List.getElem?_eq_none (by simpa using h),List.getElem?_eq_none (by omega)];rfl
 have hperm:(Z.map λi=>E.getD i e0).Perm E:=by
  have:=q1.map (λi=>E.getD i e0);rw[hl] at this
  rwa [hmap] at this
 refine Zeq ?_ g1 (hperm.trans (hE▸g2.symm));have hap:=Zl9 ⟨seeD l,g1,hE▸g2⟩
 have hmem:∀ i∈Z,i < E.length:=λi hi=>by
  have:=q1.mem_iff.1 hi;have:=mem_range'_1.1 this;omega
 have hget:∀ i,i < E.length->(W.getD i 0:Int)=(E.getD i e0).id:=by
  intro i hi;subst hW;have h1:E[i]?=some E[i]:=gA hi;rw[gB,gB,hV_,h1];have:=hp E[i] (getElem_mem hi);show ((E[i].id.toNat:Nat):Int)=E[i].id;omega
 rw[List.pairwise_map];refine List.Pairwise.imp_of_mem (R:=lt W) (λ{x y} hx hy h=>?_) q2;have ex:=hget x (hmem x hx);have ey:=hget y (hmem y hy);unfold lt at h;rcases h with h|⟨h,hxy⟩
 ·omega
 ·have hne:(E.getD x e0).id≠(E.getD y e0).id:=by
   have hx':=hmem x hx;have hy':=hmem y hy;have:=pairwise_iff_getElem.1 hap x y hx' hy' hxy;rw[gB,gB,gA hx',gA hy'];exact this
  omega
def refsOf (l:List An):List An:=l.filter λa=>decide (isRef a)
theorem Zij (l:List An) (a:An):refsOf (l++[a])=refsOf l++(if isRef a then [a] else []):=by
 unfold refsOf;rw[List.filter_append]
 congr 1
 by_cases h:isRef a
 ·rw[if_pos h,List.filter_cons_of_pos (by simpa using h)];rfl
 ·rw[if_neg h,List.filter_cons_of_neg (by simpa using h)];rfl
theorem Zf9 (l:List An):(seeP l).length<=l.length:=by
 obtain⟨m,rfl⟩:∃ m,l=m.reverse:=⟨l.reverse,by simp⟩
 induction m with
 |nil=>exact Nat.le_refl _
 |cons a m ih=>
  rw[List.reverse_cons,Zdo,gD,gQ];split
  ·rw[gD,gQ];omega
  ·omega
theorem Zfq (l:List An):(refsOf l).length<=l.length:=List.length_filter_le ..
end P46
end Go.Proofs.YthhkodlnfogkgaaGreatDoor
namespace Go.Vc
section
variable {P:Program}{w:World}{L:List HProp}
theorem Zf7:∀ (us cs:List Value) (o:Nat),o+us.length<=cs.length->setL cs o us=cs.take o++us++cs.drop (o+us.length)
 |[],cs,o,h=>by simp[setL]
 |u::us,cs,o,h=>by
  simp only[List.length_cons] at h;rw[setL,Zf7 us (cs.set o u) (o+1) (by rw[length_set];omega)]
  have h1:(cs.set o u).take (o+1)=cs.take o++[u]:=by
   rw[gO,List.getElem?_set_self (by omega)];simp only[Option.toList_some]
   congr 1
   exact List.take_set_of_le (Nat.le_refl o)
  have h2:(cs.set o u).drop (o+1+us.length)=cs.drop (o+(us.length+1)):=by
   rw[show o+1+us.length=o+(us.length+1) by omega];exact List.drop_set_of_lt (by omega)
  rw[h1,h2];simp
theorem Zec (b:Nat):∀ (vs:List Value) (w:World) (o:Nat),w.setCells b o vs=Vc.setCells w ⟨b,0,none⟩ vs o
 |[],w,o=>rfl
 |v::r,w,o=>by
  rw[World.setCells,Vc.setCells,Zec b r]
  have e1:(⟨b,0,none⟩:Addr).add o=⟨b,o,none⟩:=by
   unfold Addr.add;split
   ·rename_i h;rw[h]
   ·simp
  rw[e1]
theorem Zl6 {t e tx:TypeId}{z:Value} [hr:Row P t e z] (hk:P.underlying tx=some .string) (H:Holds w L) (i:Nat){v:Value}{xs ys:List UInt8}{ty:TypeId}{K:KT}
  (hi:L[i]?=some (SL bv e v xs)) (hn:xs.length+ys.length<=1099511627776)
  (h:∀ v' w',Same w w'->Holds w' (L.set i (SL bv e v' (xs++ys)))->K v' w'):Ap P #[t,tx] ty #[v,.string ⟨ys.toArray⟩] w K:=by
 obtain⟨inf,hinf,hsz,hby,hzz⟩:=hr.inf
 have hb:byteCells ⟨ys.toArray⟩=ys.map bv:=by
  unfold byteCells;simp
 have hsrc:∀ w,Src P inf.size tx (.string ⟨ys.toArray⟩) ys.length (ys.map bv) w:=λw=>by
  have:=Src.ofString (P:=P) w hk ⟨ys.toArray⟩;rw[hb] at this;rw[hsz]
  have e:(⟨ys.toArray⟩:ByteArray).size=ys.length:=by show ys.toArray.size=_;simp
  rw[e] at this;exact this
 obtain⟨oa,sp,rfl,H1⟩:=H.open i hi;have hil:i < L.length:=(gH.1 hi).1
 by_cases hy:ys=[]
 ·subst hy;refine⟨_,_,run_append_nothing w t tx ty e inf hr.und hinf oa xs.length (xs.length+sp.length) (by omega) _ (hsrc w),h _ _ (.refl _) ?_⟩
  rw[gU,show L.set i (SL bv e (.slice oa xs.length (xs.length+sp.length)) xs)=L from by
   have e1:L[i]=_:=(gH.1 hi).2
   rw[<-e1,List.set_getElem_self]]
  exact H
 have hy0:0 < ys.length:=gZ.2 hy;have hmul:(xs.length+ys.length)*inf.bytes<=140737488355328:=Nat.le_trans (Nat.mul_le_mul_left _ hby) (by omega)
 have hold:(Builtin.firstCells inf.size xs.length (.slice oa xs.length (xs.length+sp.length))).run P w.drew=.ok (xs.map bv).toArray w.drew:=by
  cases oa with
  |none=>
   obtain⟨g,⟨h2,h3⟩,_⟩:=H1.front i (Za7 hi);subst h2;exact run_firstCells_none w.drew inf.size 0 0 _
  |some a=>
   obtain⟨g,⟨h2,h3,_⟩,_⟩:=H1.front i (Za7 hi);obtain⟨b,o,s⟩:=a;simp only at h2 h3;subst h2;subst h3;have Hb:=H1.slb i (Za7 hi);refine run_firstCells_some w.drew inf.size xs.length ⟨b,0,none⟩ xs.length _ (xs.map bv) (by simp[hsz]) ?_;intro k u hu
   have e1:(⟨b,0,none⟩:Addr).add k=⟨b,k,none⟩:=by
    unfold Addr.add;split
    ·rename_i h;rw[h]
    ·simp
   rw[set_set] at Hb;have hc:=Hb.cell i (Za7 hi) k;rw[gM (by simpa using (gH.1 hu).1),hu] at hc;rw[e1];exact hc
 rcases hU_ sp.length ys.length with hg|hg
 ·have hrun:=run_append_grow_src (P:=P) w t tx ty e inf z hr.und hinf hzz oa xs.length (xs.length+sp.length) (xs.map bv) hold _ ys.length _ (hsrc w) (by omega) (by omega) (growslice_fits (by omega) hmul);refine⟨_,_,hrun,?_⟩;have hcap:=grownCap_ge w (xs.length+ys.length) (xs.length+sp.length) e;generalize grownCap w (xs.length+ys.length) (xs.length+sp.length) e=cap at hcap ⊢
  have hz2:Builtin.zeroCells z.cells (cap - (xs.length+ys.length))=(List.replicate (cap - (xs.length+ys.length)) z).toArray:=by
   rw[hr.one];apply Array.ext
   ·simp[Builtin.zeroCells]
   ·intro j h1 h2;simp[Builtin.zeroCells,Nat.mod_one]
  have hcells:((xs.map bv++ys.map bv).toArray++Builtin.zeroCells z.cells (cap - (xs.length+ys.length)))=((xs++ys).map bv++List.replicate (cap - (xs.length+ys.length)) z).toArray:=by
   rw[hz2];simp
  rw[hcells];have H2:=(H.same (w':=w.drew) rfl).alloc (.cells ((xs++ys).map bv++List.replicate (cap - (xs.length+ys.length)) z).toArray e);have H4:=(Holds.imp H2 (Q:=slb bv e (some ⟨w.heap.size,0,none⟩) (xs++ys) (List.replicate (cap - (xs.length+ys.length)) z)) λg hg=>⟨rfl,rfl,hg⟩);have H5:=H4.dropAt (i+1);rw[List.eraseIdx_cons_succ] at H5;have H6:Holds _ (L.set i (slb bv e (some ⟨w.heap.size,0,none⟩) (xs++ys) (List.replicate (cap - (xs.length+ys.length)) z))):=Sat.push i hi H5;have H7:=H6.close i (Za7 hi);rw[set_set] at H7
  have hc2:(xs++ys).length+(List.replicate (cap - (xs.length+ys.length)) z).length=cap:=by simp;omega
  have hl2:(xs++ys).length=xs.length+ys.length:=gD;rw[hc2,hl2] at H7;exact h _ _ ((Same.drew w).trans (.alloc _ _)) H7
 ·cases oa with
  |none=>
   obtain⟨g,⟨h2,h3⟩,_⟩:=H1.front i (Za7 hi);subst h3;simp at hg;exact absurd hg hy
  |some a=>
   obtain⟨g,⟨h2,h3,_⟩,_⟩:=H1.front i (Za7 hi);obtain⟨b,o,s⟩:=a;simp only at h2 h3;subst h2;subst h3;have Hb:=H1.slb i (Za7 hi);rw[set_set] at Hb;have hgi:=Za7 (Q:=blk b e (xs.map bv++sp)) hi
   have hrun:=run_append_room_src (P:=P) w t tx ty e inf hr.und hinf b 0 xs.length (xs.length+sp.length) _ ys.length _ (hsrc w) (by omega)
    (λj hj=>by
     rw[length_map] at hj
     rw[Hb.cell i hgi,hsz,Nat.mul_one,Nat.zero_add,gA (by rw[gD,length_map];omega)];rfl)
    (λj hj=>Hb.frozen i hgi _)
   refine⟨_,_,hrun,?_⟩;rw[Zec,hsz,Nat.mul_one,Nat.zero_add];have H3:=Holds.setCells (o:=0) i (ys.map bv) xs.length Hb hgi;rw[set_set,Zf7 _ _ _ (by simp;omega)] at H3
   have e2:(xs.map bv++sp).take (0+xs.length)++ys.map bv++(xs.map bv++sp).drop (0+xs.length+(ys.map bv).length)=(xs++ys).map bv++sp.drop ys.length:=by
    simp[List.take_append,List.drop_append]
   rw[e2] at H3;have H4:=Holds.slb' (f:=bv) (e:=e) (b:=b) (xs:=xs++ys) (sp:=sp.drop ys.length) H3 i (Za7 hi);rw[set_set] at H4;have H5:=H4.close i (Za7 hi);rw[set_set] at H5
   have hl:(xs++ys).length+(sp.drop ys.length).length=xs.length+sp.length:=by simp;omega
   have hl2:(xs++ys).length=xs.length+ys.length:=gD;rw[hl,hl2] at H5;exact h _ _ (Same.setCells _ _ _ _) H5
end
end Go.Vc
namespace Go.Vc
variable {P:Program}{w:World}{L:List HProp}
open Classical in
noncomputable def getM:List MapEntry->Int->Option Value
 |[],_=>none
 |e::l,k=>if e.key=iv k then some e.val else getM l k
def keysI (l:List MapEntry):Prop:=∀ e∈l,∃ k:Int,e.key=iv k
theorem Zh0 {a b:Int}:iv a=iv b↔a=b:=⟨λh=>by cases h;rfl,λh=>by rw[h]⟩
theorem Zhc:∀ {l:List MapEntry}(hk:keysI l) (k:Int) (i:Nat),∃ q,Instr.findNow (.int .i64) (iv k) l i=some q/\q.map (·.2)=getM l k/\
  (∀ j v,q=some (j,v)->i<=j/\(∃ e,l[j - i]?=some e/\e.key=iv k)/\∀ (u:Value) (k':Int),getM (l.modify (j - i) λe=>{ e with key:=iv k,val:=u }) k'=if k'=k then some u else getM l k')/\
  (q=none->∀ (u:Value) (c:Nat) (k':Int),getM (l++[⟨iv k,u,c⟩]) k'=if k'=k then some u else getM l k')
 |[],_,k,i=>by
  refine⟨none,rfl,rfl,λj v h=>(by cases h),λ_ u c k'=>?_⟩;simp only[hO_,getM,Zh0]
  by_cases h:k=k'
  ·rw[if_pos h,if_pos h.symm]
  ·rw[if_neg h,if_neg λe=>h e.symm]
 |e::l,hk,k,i=>by
  obtain⟨n,hn⟩:=hk e (hJ_ ..)
  have hs:Instr.sameNow (.int .i64) (iv k) e.key=some (k==n):=by rw[hn];simp[Instr.sameNow]
  have hk':keysI l:=λx hx=>hk x (hK_ _ hx)
  by_cases h:k=n
  ·subst h;refine⟨some (i,e.val),by simp[Instr.findNow,hs],by simp[getM,hn],λj v hq=>?_,λhq=>(by cases hq)⟩;simp only[Option.some.injEq,Prod.mk.injEq] at hq;obtain⟨rfl,rfl⟩:=hq;refine⟨Nat.le_refl _,⟨e,by simp,hn⟩,λu k'=>?_⟩;rw[Nat.sub_self];simp only[List.modify_zero_cons,getM,hn,Zh0]
   by_cases h:k=k'
   ·rw[if_pos h,if_pos h.symm]
   ·rw[if_neg h,if_neg λe=>h e.symm,if_neg h]
  ·obtain⟨q,g1,g2,g3,g4⟩:=Zhc hk' k (i+1);have hb:(k==n)=false:=beq_eq_false_iff_ne.2 h;refine⟨q,by simp[Instr.findNow,hs,hb,g1],?_,λj v hq=>?_,λhq u c k'=>?_⟩
   ·rw[g2,getM,if_neg (by rw[hn,Zh0];exact λe=>h e.symm)]
   ·obtain⟨e1,⟨e',e2,e3⟩,e4⟩:=g3 j v hq
    have hj:j - i=(j - (i+1))+1:=by omega
    refine⟨by omega,⟨e',by rw[hj,gF];exact e2,e3⟩,λu k'=>?_⟩;rw[hj,List.modify_succ_cons,getM,getM,e4 u k']
    by_cases h2:e.key=iv k'
    ·rw[if_pos h2,if_pos h2,if_neg];rintro rfl;rw[hn,Zh0] at h2;exact h h2.symm
    ·rw[if_neg h2,if_neg h2]
   ·rw[cons_append,getM,getM,g4 hq u c k']
    by_cases h2:e.key=iv k'
    ·rw[if_pos h2,if_pos h2,if_neg];rintro rfl;rw[hn,Zh0] at h2;exact h h2.symm
    ·rw[if_neg h2,if_neg h2]
def MP (b:Nat) (f:Int->Option Value):HProp:=λh=>∃ l clock,h b=some (.map (List.toArray l) clock)/\keysI l/\∀ k,getM l k=f k
theorem Holds.openMP (H:Holds w L) (i:Nat){b:Nat}{f:Int->Option Value}(hi:L[i]?=some (MP b f)):∃ l clock,keysI l/\(∀ k,getM l k=f k)/\Holds w (L.set i (blkO b (.map (List.toArray l) clock))):=by
 obtain⟨g,⟨l,clock,h1,h2,h3⟩,hs,hL⟩:=H.front i hi;exact⟨l,clock,h2,h3,Sat.push i hi ⟨g,h1,hs,hL⟩⟩
theorem r_mmM {t:TypeId}(H:Holds w L){K:KT}(h:∀ b w',Same w w'->Holds w' (MP b (λ_=>none)::L)->K (.map (some b)) w'):Mm P t none w K:=
 ⟨.map (some w.heap.size),w.alloc (.map #[] 0),rfl,h _ _ (.alloc _ _) (Holds.imp (H.alloc _) λg hg=>⟨[],0,hg,λe he=>(by cases he),λk=>rfl⟩)⟩
theorem ckey {kt:TypeId}{k:Int}(hk:P.underlying kt=some (.int .i64)) (b:Bool):(Instr.checkKey b 10000 kt (iv k)).run P w=.ok () w:=Ev.Zb8 (σ:=λ_=>none) (k:=.i .i64 k) hk rfl rfl b 9999 w
theorem r_lkM {t kt et:TypeId}{x:Ev.X}{z:Value}(ht:P.underlying t=some (.map kt et)) (hk:P.underlying kt=some (.int .i64)) (hx:Ev.zeroVX P et=some x) (hz:Ev.vl (λ_=>none) x=some z)
  (i:Nat) (H:Holds w L) {b:Nat} {f:Int->Option Value} (hi:L[i]?=some (MP b f)) {k:Int} {K:Value->Prop} (h:K ((f k).getD z)):Lk P t (.map (some b)) (iv k) false w K:=by
 obtain⟨l,clock,h1,h2,H1⟩:=H.openMP i hi;have hb:=H1.obj i (Za7 hi);obtain⟨q,g1,g2,_,_⟩:=Zhc h1 k 0;have hfk:=Ev.mfindKey (P:=P) (w:=w) hk g1;have hck:=λb=>ckey (w:=w) (k:=k) hk b;obtain⟨z',e1,e2⟩:=Ev.Zcu (σ:=λ_=>none) hx;rw[hz] at e1;obtain rfl:=Option.some.inj e1;refine⟨(f k).getD z,?_,h⟩;unfold Instr.lookup;rw[Sem.run_bind,run_underlying ht];rw[<-h2 k,<-g2]
 cases q with
 |none=>simp only[Result.andThen_ok,Sem.run_bind,Sem.run_pure,Ev.mgetObj hb,hck,List.toList_toArray,hfk,e2,Option.map_none,Option.getD_none,Bool.false_eq_true,if_false]
 |some q=>simp only[Result.andThen_ok,Sem.run_bind,Sem.run_pure,Ev.mgetObj hb,hck,List.toList_toArray,hfk,Option.map_some,Option.getD_some,Bool.false_eq_true,if_false]
theorem heap_set {b:Nat}{o o':Obj}{w':World}(hb:w.heap[b]?=some o) (hw:w'={ w with heap:=w.heap.setIfInBounds b o' }):w'.heap[b]?=some o'/\(∀ c,c≠b->w'.heap[c]?=w.heap[c]?)/\Same w w':=by
 subst hw;have hlt:b < w.heap.size:=(Array.getElem?_eq_some_iff.1 hb).1;refine⟨by simp[Array.getElem?_setIfInBounds,hlt],λc hc=>?_,⟨rfl,rfl,rfl,by simp⟩⟩;show (w.heap.setIfInBounds b o')[c]?=_;rw[Array.getElem?_setIfInBounds,if_neg λe=>hc e.symm]
theorem r_muM {t kt et:TypeId}(ht:P.underlying t=some (.map kt et)) (hk:P.underlying kt=some (.int .i64))
  (i:Nat) (H:Holds w L) {b:Nat} {f:Int->Option Value} (hi:L[i]?=some (MP b f)) {k:Int} {v:Value} {K:World->Prop} (h:∀ w',Same w w'->Holds w' (L.set i (MP b λj=>if j=k then some v else f j))->K w'):Mu P t (.map (some b)) (iv k) v w K:=by
 obtain⟨l,clock,h1,h2,H1⟩:=H.openMP i hi;have hb:=H1.obj i (Za7 hi);obtain⟨q,g1,_,g3,g4⟩:=Zhc h1 k 0;have hfk:=Ev.mfindKey (P:=P) (w:=w) hk g1;have hck:=ckey (w:=w) (k:=k) hk
 have fin:∀ (l':List MapEntry) (c':Nat) (w':World),w'={ w with heap:=w.heap.setIfInBounds b (.map l'.toArray c') }->keysI l'->(∀ k',getM l' k'=if k'=k then some v else getM l k')->K w':=by
  intro l' c' w' hw hk' hg;obtain⟨a1,a2,a3⟩:=heap_set hb hw;have H2:=H1.upd i (Za7 hi) a1 a2;rw[set_set] at H2;refine h w' a3 ?_;have H3:=H2.at i (Za7 hi) (Q:=MP b λj=>if j=k then some v else f j) λg hg'=>⟨l',c',hg',hk',λk'=>by rw[hg,h2]⟩;rw[set_set] at H3;exact H3
 cases q with
 |none=>
  refine⟨(),{ w with heap:=w.heap.setIfInBounds b (.map (l++[MapEntry.mk (iv k) v clock]).toArray (clock+1)) },?_,fin _ _ _ rfl (λe he=>?_) (g4 rfl v clock)⟩
  ·unfold Instr.mapUpdate;rw[Sem.run_bind,run_underlying ht];simp only[Result.andThen_ok];rw[Sem.run_bind,Ev.mgetObj hb];simp only[Result.andThen_ok];rw[Sem.run_bind,hck];simp only[Result.andThen_ok];rw[Sem.run_bind,hfk];simp only[Result.andThen_ok];rw[Ev.msetObj _ hb];simp
  ·rcases hT_.1 he with he|he
   ·exact h1 e he
   ·rw[mem_singleton.1 he];exact⟨k,rfl⟩
 |some q=>
  obtain⟨j,x⟩:=q;obtain⟨_,⟨e',e5,e6⟩,g5⟩:=g3 j x rfl;rw[Nat.sub_zero] at e5 g5;refine⟨(),{ w with heap:=w.heap.setIfInBounds b (.map (l.modify j λe=>{ e with key:=iv k,val:=v }).toArray clock) },?_,fin _ _ _ rfl (λe he=>?_) (g5 v)⟩
  ·unfold Instr.mapUpdate;rw[Sem.run_bind,run_underlying ht];simp only[Result.andThen_ok];rw[Sem.run_bind,Ev.mgetObj hb];simp only[Result.andThen_ok];rw[Sem.run_bind,hck];simp only[Result.andThen_ok];rw[Sem.run_bind,hfk];simp only[Result.andThen_ok]
   have hg:(((l.toArray)[j]?).map (·.key)).getD (iv k)=e'.key:=by
    have:l.toArray[j]?=some e':=by simpa using e5
    rw[this];rfl
   rw[Sem.run_bind,hg]
   have hks:(Instr.keyThatStays e'.key (iv k)).run P w=.ok (iv k) w:=by
    unfold Instr.keyThatStays;rw[if_pos (by rw[e6];simp[Instr.sameBits])];rfl
   rw[hks];simp only[Result.andThen_ok];rw[Ev.msetObj _ hb];simp
  ·obtain⟨q,hq⟩:=List.getElem?_of_mem he;rw[List.getElem?_modify] at hq
   cases hl:l[q]? with
   |none=>rw[hl] at hq;cases hq
   |some e0=>
    rw[hl] at hq;simp only[Option.map_eq_map,Option.map_some,Option.some.injEq] at hq;subst hq;split
    ·exact⟨k,rfl⟩
    ·exact h1 e0 (mem_of_getElem? hl)
abbrev Tx:=Int × Value × List UInt8
def ckT (e:TypeId) (x:Tx):HProp:=SL bv e x.2.1 x.2.2
def fmT (es:List Tx) (k:Int):Option Value:=(es.find? λx=>decide (x.1=k)).map (·.2.1)
def byT (es:List Tx) (k:Int):List UInt8:=((es.find? λx=>decide (x.1=k)).map (·.2.2)).getD []
def TM (e:TypeId) (b:Nat) (es:List Tx):HProp:=Sat (MP b (fmT es)::es.map (ckT e))
def rest (es:List Tx) (k:Int):List Tx:=es.filter λx=>!decide (x.1=k)
theorem Zen (x:Tx) (r:List Tx) (k:Int):rest (x::r) k=if x.1=k then rest r k else x::rest r k:=by
 unfold rest
 by_cases h:x.1=k
 ·rw[if_pos h,List.filter_cons_of_neg (by simp[h])]
 ·rw[if_neg h,List.filter_cons_of_pos (by simp[h])]
theorem Zh1 (es:List Tx) (k k':Int) (v:Value) (bs:List UInt8):((k,v,bs)::rest es k).find? (λx=>decide (x.1=k'))=if k'=k then some (k,v,bs) else es.find? λx=>decide (x.1=k'):=by
 by_cases h:k'=k
 ·subst h;rw[if_pos rfl,List.find?_cons_of_pos (by simp)]
 ·rw[if_neg h,find?_cons_of_neg (by simpa using λe=>h e.symm)]
  induction es with
  |nil=>rfl
  |cons x r ih=>
   rw[Zen]
   by_cases hx:x.1=k
   ·rw[if_pos hx,ih,find?_cons_of_neg (by simpa using λe=>h (by rw[<-e,hx]))]
   ·rw[if_neg hx]
    by_cases hx2:x.1=k'
    ·rw[List.find?_cons_of_pos (by simpa using hx2),List.find?_cons_of_pos (by simpa using hx2)]
    ·rw[find?_cons_of_neg (by simpa using hx2),find?_cons_of_neg (by simpa using hx2),ih]
theorem Zlx {Q:HProp}{L:List HProp}{h:Hp}(H:Sat (Q::L) h):Sat L h:=by
 obtain⟨g,hg,hs,hL⟩:=H;refine hL.mono λb o hb=>?_;unfold Hp.minus at hb;split at hb
 ·cases hb
 ·exact hb
theorem Zds {e:TypeId}(k:Int):∀ (es:List Tx){L:List HProp}{h:Hp},Sat (es.map (ckT e)++L) h->Sat ((rest es k).map (ckT e)++L) h
 |[],_,_,H=>H
 |x::r,L,h,H=>by
  rw[hR_,cons_append] at H;rw[Zen]
  by_cases hx:x.1=k
  ·rw[if_pos hx];exact Zds k r (Zlx H)
  ·rw[if_neg hx,hR_,cons_append];exact Zay (λh H=>Zds k r H) H
theorem Zg0 {e:TypeId}(k:Int):∀ (es:List Tx){L:List HProp}{h:Hp}{x:Tx},(es.find? λx=>decide (x.1=k))=some x->Sat (es.map (ckT e)++L) h->Sat (ckT e x::((rest es k).map (ckT e)++L)) h
 |[],_,_,_,hf,_=>by cases hf
 |y::r,L,h,x,hf,H=>by
  rw[hR_,cons_append] at H;rw[Zen]
  by_cases hy:y.1=k
  ·rw[List.find?_cons_of_pos (by simpa using hy)] at hf;obtain rfl:=Option.some.inj hf;rw[if_pos hy];exact Zay (λh H=>Zds k r H) H
  ·rw[find?_cons_of_neg (by simpa using hy)] at hf;rw[if_neg hy,hR_,cons_append];exact Sat.swap (Zay (λh H=>Zg0 k r hf H) H)
section
variable {t kt et tb tx d e:TypeId}{i b:Nat}{es:List Tx}{k:Int}
def TMp (e:TypeId) (b:Nat) (es:List Tx) (k:Int) (v:Value) (bs:List UInt8):HProp:=Sat (MP b (fmT es)::SL bv e v bs::(rest es k).map (ckT e))
theorem r_lkT {x:Ev.X}(ht:P.underlying t=some (.map kt et)) (hk:P.underlying kt=some (.int .i64)) (hx:Ev.zeroVX P et=some x) (hz:Ev.vl (λ_=>none) x=some (.slice none 0 0))
  (i:Nat) (H:Holds w L) (hi:L[i]?=some (TM e b es)) {K:Value->Prop} (h:K ((fmT es k).getD (.slice none 0 0))):Lk P t (.map (some b)) (iv k) false w K:=
 r_lkM ht hk hx hz 0 (H.front i hi).unpack rfl h
theorem r_apT {z:Value} [hr:Row P tb e z] (hs:P.underlying tx=some .string) (H:Holds w (TM e b es::L)){ys:List UInt8}{ty:TypeId}{K:KT}(hn:(byT es k).length+ys.length<=1099511627776)
  (h:∀ v w',Same w w'->Holds w' (TMp e b es k v (byT es k++ys)::L)->K v w'):Ap P #[tb,tx] ty #[(fmT es k).getD (.slice none 0 0),.string ⟨ys.toArray⟩] w K:=by
 have H1:Holds w (MP b (fmT es)::(es.map (ckT e)++L)):=H.unpack
 cases hf:es.find? (λx=>decide (x.1=k)) with
 |none=>
  have e1:fmT es k=none:=by unfold fmT;rw[hf];rfl
  have e2:byT es k=[]:=by unfold byT;rw[hf];rfl
  rw[e1,Option.getD_none];rw[e2] at h;refine Zl6 (P:=P) hs (H1.nilSL bv e) 0 rfl (by rw[e2] at hn;simpa using hn) λv w' S' H'=>h v w' S' ?_;have H2:Holds w' (MP b (fmT es)::SL bv e v ([]++ys)::(es.map (ckT e)++L)):=Holds.swap H';have H3:Holds w' (MP b (fmT es)::SL bv e v ([]++ys)::((rest es k).map (ckT e)++L)):=Zay (λh H=>Zay (λh H=>Zds k es H) H) H2;exact Holds.pack (A:=MP b (fmT es)::SL bv e v ([]++ys)::(rest es k).map (ckT e)) H3
 |some x=>
  have e1:fmT es k=some x.2.1:=by unfold fmT;rw[hf];rfl
  have e2:byT es k=x.2.2:=by unfold byT;rw[hf];rfl
  rw[e1,Option.getD_some];rw[e2] at h hn;have H2:Holds w (MP b (fmT es)::SL bv e x.2.1 x.2.2::((rest es k).map (ckT e)++L)):=Zay (λh H=>Zg0 k es hf H) H1;refine Zl6 (P:=P) hs H2 1 rfl hn λv w' S' H'=>h v w' S' ?_;exact Holds.pack (A:=MP b (fmT es)::SL bv e v (x.2.2++ys)::(rest es k).map (ckT e)) H'
theorem r_muT (ht:P.underlying t=some (.map kt et)) (hk:P.underlying kt=some (.int .i64)){v:Value}{bs:List UInt8}(H:Holds w (TMp e b es k v bs::L)){K:World->Prop}
  (h:∀ w',Same w w'->Holds w' (TM e b ((k,v,bs)::rest es k)::L)->K w'):Mu P t (.map (some b)) (iv k) v w K:=by
 have H1:Holds w (MP b (fmT es)::SL bv e v bs::((rest es k).map (ckT e)++L)):=H.unpack;refine r_muM ht hk 0 H1 rfl λw' S' H'=>h w' S' ?_
 have hf:(λj=>if j=k then some v else fmT es j)=fmT ((k,v,bs)::rest es k):=by
  funext j
  unfold fmT;rw[Zh1]
  by_cases hj:j=k
  ·rw[if_pos hj,if_pos hj];rfl
  ·rw[if_neg hj,if_neg hj]
 have H2:Holds w' (MP b (λj=>if j=k then some v else fmT es j)::SL bv e v bs::((rest es k).map (ckT e)++L)):=H';rw[hf] at H2;exact Holds.pack (A:=MP b (fmT ((k,v,bs)::rest es k))::((k,v,bs)::rest es k).map (ckT e)) H2
theorem Zoc (es:List Tx) (k k':Int) (v:Value) (bs:List UInt8):byT ((k,v,bs)::rest es k) k'=if k'=k then bs else byT es k':=by
 unfold byT;rw[Zh1]
 by_cases hj:k'=k
 ·rw[if_pos hj,if_pos hj];rfl
 ·rw[if_neg hj,if_neg hj]
theorem r_cwT [hr:Bytes P tb e d] (i:Nat) (H:Holds w L) (hi:L[i]?=some (TM e b es)){K:KT}(h:K (.string ⟨(byT es k).toArray⟩) w):Cw P tb d ((fmT es k).getD (.slice none 0 0)) w K:=by
 have H1:Holds w (MP b (fmT es)::(es.map (ckT e)++L.eraseIdx i)):=(H.front i hi).unpack
 cases hf:es.find? (λx=>decide (x.1=k)) with
 |none=>
  have e1:fmT es k=none:=by unfold fmT;rw[hf];rfl
  have e2:byT es k=[]:=by unfold byT;rw[hf];rfl
  rw[e1,Option.getD_none];rw[e2] at h;obtain⟨oa,sp,hv,H2⟩:=(H1.nilSL bv e).open 0 rfl;simp only[Value.slice.injEq] at hv;obtain⟨rfl,_,_⟩:=hv;exact r_cbs H2 0 rfl rfl h
 |some x=>
  have e1:fmT es k=some x.2.1:=by unfold fmT;rw[hf];rfl
  have e2:byT es k=x.2.2:=by unfold byT;rw[hf];rfl
  rw[e1,Option.getD_some];rw[e2] at h;have H2:Holds w (MP b (fmT es)::SL bv e x.2.1 x.2.2::((rest es k).map (ckT e)++L.eraseIdx i)):=Zay (λh H=>Zg0 k es hf H) H1;obtain⟨oa,sp,hv,H3⟩:=H2.open 1 rfl;rw[hv];exact r_cbs H3 1 rfl rfl h
end
end Go.Vc
set_option maxRecDepth 1000000
namespace Go.Proofs.YthhkodlnfogkgaaGreatDoor
open Go Go.Vc Go.Proofs.Tryz
attribute [local irreducible] Vc.Nc Vc.Ld Vc.LdA Vc.St Vc.StA Vc.Fo Vc.Iaa Vc.Ias Vc.Ixs Vc.Ixa Vc.Fd Vc.FdA Vc.Bp Vc.Bb Vc.Bn Vc.Up Vc.Ci Vc.Lns Vc.Lnl Vc.Ex Vc.Sst Vc.Ssl Vc.New Vc.Vif Vc.VJoin Vc.VLoop Vc.KE Vc.Dr Vc.Rk Vc.Cl Vc.Cx Vc.Inv Vc.Be Vc.Cv Vc.Cw Vc.Mf Vc.Sl Vc.Lk Vc.Bd Vc.Bs Vc.Ms Vc.Mm Vc.Mu Vc.Me Vc.Es Vc.Rg Vc.Nx Vc.Ta Vc.Ap Vc.Usd Vc.Ust Vc.Cp Vc.Ln Vc.Bc Vc.Bmin Vc.Bmax Vc.Bdel Vc.Bclr Vc.Pk
namespace O46
open S4r P46
variable {w:World}{L:List HProp}{K:KT}
section
variable {H:Type}{enc:TypeId × Value->H}{W:World}{base:Nat}{spare:Nat->Bool}{held:Bool}{fuel:Nat}{cs:List Value}{x:DataW H × List MemPlace}
abbrev tEn:Nat:=57
abbrev tAn:Nat:=74
abbrev tVi:Nat:=26
end
instance:Inhabited En:=⟨⟨0,false,⟨#[]⟩,0⟩⟩
instance:Inhabited An:=⟨⟨0,0,⟨#[]⟩,0⟩⟩
def cellsV (a:Option Addr) (l c:Nat) (b:Option Addr) (l2 c2:Nat):List Value:=[.slice a l c,.slice b l2 c2]
abbrev EnIn:=InG cellsEn 4
abbrev AnIn:=InG cellsAn 4
end O46
end Go.Proofs.YthhkodlnfogkgaaGreatDoor
namespace Go.Proofs.YthhkodlnfogkgaaGreatDoor
open Go Go.Vc Go.Proofs.Tryz
namespace A46
open S4r P46 O46
theorem Zc0 {p:Nat->Prop}(h:∃ n,p n):∃ n,p n/\∀ m,p m->n<=m:=by
 obtain⟨n,hn⟩:=h
 induction n using Nat.strongRecOn with
 |_ n ih=>
  by_cases hm:∃ m,m < n/\p m
  ·obtain⟨m,h1,h2⟩:=hm;exact ih m h1 h2
  ·exact⟨n,hn,λm h2=>Nat.le_of_not_lt λh1=>hm ⟨m,h1,h2⟩⟩
open Classical in
theorem Zfr {w:World}{a:Value}{body:(Nat->Value)->Cur 1->Cur 1}(I:Nat->Value->World->Prop) (n0:Nat) (h0:I n0 a w)
  (h:∀ jb n x w (k:Cur 1),I n x w->(∀ m x' w',m < n->I m x' w'->k x' w')->body jb k x w):VLoop 1 [a] w body:=by
 refine Zad (λx w'=>∃ n,I n x w') (λx w'=>if h:∃ n,I n x w' then Classical.choose (Zc0 h) else 0) ⟨n0,h0⟩ ?_;intro jb x w1 hx;have e1:=Classical.choose_spec (Zc0 hx);refine h jb _ x w1 _ e1.1 λm x' w' hm hI=>⟨⟨m,hI⟩,?_⟩;have hx':∃ n,I n x' w':=⟨m,hI⟩;have e2:=Classical.choose_spec (Zc0 hx');show dite _ _ _ < dite _ _ _;rw[dif_pos hx,dif_pos hx'];exact Nat.lt_of_le_of_lt (e2.2 m hI) hm
attribute [local irreducible] Vc.Nc Vc.Ld Vc.LdA Vc.St Vc.StA Vc.Fo Vc.Iaa Vc.Ias Vc.Ixs Vc.Ixa Vc.Fd Vc.FdA Vc.Bp Vc.Bb Vc.Bn Vc.Up Vc.Ci Vc.Lns Vc.Lnl Vc.Ex Vc.Sst Vc.Ssl Vc.New Vc.Vif Vc.VJoin Vc.VLoop Vc.KE Vc.Dr Vc.Rk Vc.Cl Vc.Cx Vc.Inv Vc.Be Vc.Cv Vc.Cw Vc.Mf Vc.Sl Vc.Lk Vc.Bd Vc.Bs Vc.Ms Vc.Mm Vc.Mu Vc.Me Vc.Es Vc.Rg Vc.Nx Vc.Ta Vc.Ap Vc.Usd Vc.Ust Vc.Cp Vc.Ln Vc.Bc Vc.Bmin Vc.Bmax Vc.Bdel Vc.Bclr Vc.Pk
abbrev pt (b:Nat):Value:=.pointer (some ⟨b,0,none⟩)
def fldsOf (P:Program) (t:Nat):List Field:=match P.underlying t with
 |some (.struct fs)=>fs.toList
 |_=>[]
def opV (i:Nat) (u v:Value):Operand->Value
 |.tmp n=>if n=i then u else v
 |_=>v
variable {w:World}{L:List HProp}{K:KT}
theorem be4 {P:Program}{tS i j:Nat}{x0 x1 x2 x3 y0 y1 y2 y3:Ev.X}{u v:Value}{b0 b1 b2 b3:Bool}{k0 k1 k2 k3:TypeDesc}{K:Value->Prop}(hij:j≠i)
  (hl : (fldsOf P tS).length = 4) (hu : P.underlying tS = some (.struct (fldsOf P tS).toArray)) (ho : (fldsOf P tS).map (·.offset) = [0, 1, 2, 3]) (hn : (fldsOf P tS).map (fun f => f.name == "_") = [false, false, false, false])
  (ht:(fldsOf P tS).map (λf=>P.underlying f.type)=[some k0,some k1,some k2,some k3])
  (hp:∀ (k:TypeDesc) (l:List Ev.X) (n:Nat),k=k0\/k=k1\/k=k2\/k=k3->(match k with|.struct _=>false|.array _ _=>false|_=>true)=true)
  (hst:P.stoodInHeld tS=false) (hg:P.eqGuardType P.depth tS=false)
  (e0:Ev.eq1 k0 x0 y0=some b0) (e1:Ev.eq1 k1 x1 y1=some b1) (e2:Ev.eq1 k2 x2 y2=some b2) (e3:Ev.eq1 k3 x3 y3=some b3)
  (hx:Ev.vl (λ_=>none) (.g [x0,x1,x2,x3])=some u) (hy:Ev.vl (λ_=>none) (.g [y0,y1,y2,y3])=some v)
  (h:K (.bool (!(b0&&(b1&&(b2&&b3)))))):Be P .neq tS (.tmp i) (.tmp j) u v w K:=by
 obtain⟨f0,f1,f2,f3,hfs⟩:∃ f0 f1 f2 f3,fldsOf P tS=[f0,f1,f2,f3]:=by
  match hq:fldsOf P tS,hl with
  |[a,b,c,d],_=>exact⟨a,b,c,d,rfl⟩
 rw[hfs] at ho hn ht hu;simp only[hR_,List.map_nil,List.cons.injEq,and_true] at ho hn ht;obtain⟨t0,t1,t2,t3⟩:=ht
 have hk:∀ (k:TypeDesc) (f:Field),(k=k0\/k=k1\/k=k2\/k=k3)->P.underlying f.type=some k->(∀ (l:List Ev.X) (n:Nat),Ev.partX P f.type l n=l[n]?)/\∀ x y,Ev.eqT P 19 f.type x y=Ev.eq1 k x y:=by
  intro k f hk hf;have:=hp k [] 0 hk
  constructor
  ·intro l n;unfold Ev.partX;rw[hf]
   cases k <;> first|rfl|(simp at this)
  ·intro x y;rw[Ev.eqT,hf]
   cases k <;> first|rfl|(simp at this)
 obtain⟨p0,q0⟩:=hk k0 f0 (.inl rfl) t0;obtain⟨p1,q1⟩:=hk k1 f1 (.inr (.inl rfl)) t1;obtain⟨p2,q2⟩:=hk k2 f2 (.inr (.inr (.inl rfl))) t2;obtain⟨p3,q3⟩:=hk k3 f3 (.inr (.inr (.inr rfl))) t3
 have he:Ev.eqT P 20 tS (.g [x0,x1,x2,x3]) (.g [y0,y1,y2,y3])=some (b0&&(b1&&(b2&&b3))):=by
  rw[Ev.eqT,hu];simp only[hst];exact eq4 ho hn (λl=>⟨p0 l 0,p1 l 1,p2 l 2,p3 l 3⟩) (by rw[q0];exact e0) (by rw[q1];exact e1) (by rw[q2];exact e2) (by rw[q3];exact e3)
 have hgd:Ev.gdE P tS (.tmp i) (.tmp j) (.g [x0,x1,x2,x3]) (.g [y0,y1,y2,y3])=true:=by
  simp only[Ev.gdE,hg]
 have hb:Ev.beX P .neq tS (.tmp i) (.tmp j) (some (.g [x0,x1,x2,x3])) (some (.g [y0,y1,y2,y3]))=some (.b (!(b0&&(b1&&(b2&&b3))))):=by
  unfold Ev.beX;simp only[hgd,he]
 have hfa:opV i u v (.tmp i)=u:=if_pos rfl;have hfb:opV i u v (.tmp j)=v:=if_neg hij
 have:=Ev.Zn2 (P:=P) (σ:=λ_=>none) (t:=tS) (A:=.tmp i) (B:=.tmp j) (f:=opV i u v) (w:=w) (K:=K)
  hu (λk h=>by cases h) (λh=>by cases h) (λh=>by cases h) (λe h=>by cases h) hb (λa ha=>by cases ha;rw[hfa];exact hx) (λa ha=>by cases ha;rw[hfb];exact hy) λv hv=>by
   obtain rfl:=Option.some.inj hv;exact h
 rw[hfa,hfb] at this;exact this
theorem Zdi {k0 k1 k2 k3:TypeDesc}(h:([k0,k1,k2,k3].all λk=>match k with|.struct _=>false|.array _ _=>false|_=>true)=true) :
  ∀ (k:TypeDesc) (l:List Ev.X) (n:Nat),k=k0\/k=k1\/k=k2\/k=k3->(match k with|.struct _=>false|.array _ _=>false|_=>true)=true:=by
 intro k l n hk;simp only[List.all_cons,List.all_nil,Bool.and_true,Bool.and_eq_true] at h;rcases hk with rfl|rfl|rfl|rfl
 ·exact h.1
 ·exact h.2.1
 ·exact h.2.2.1
 ·exact h.2.2.2
theorem Zpc (a b:En):((a.id==b.id)&&((a.dn==b.dn)&&(Ev.eqN (a.tx.data.toList.map (·.toNat)) (b.tx.data.toList.map (·.toNat))&&(a.er==b.er))))=decide (a=b):=by
 rw[xs_eq,Bool.eq_iff_iff];cases a;cases b;simp only[Bool.and_eq_true,beq_iff_eq,decide_eq_true_iff,En.mk.injEq]
theorem Zpf (a b:An):((a.ty==b.ty)&&((a.jb==b.jb)&&(Ev.eqN (a.tx.data.toList.map (·.toNat)) (b.tx.data.toList.map (·.toNat))&&(a.er==b.er))))=decide (a=b):=by
 rw[xs_eq,Bool.eq_iff_iff];cases a;cases b;simp only[Bool.and_eq_true,beq_iff_eq,decide_eq_true_iff,An.mk.injEq]
abbrev tRE:Nat:=73
abbrev tRA:Nat:=68
abbrev tRV:Nat:=37
theorem beE {tS i j:Nat}{a b:En}{K:Value->Prop}(hij:j≠i) (ht:tS=tEn\/tS=tRE) (h:K (.bool (!decide (a=b)))):Be prog .neq tS (.tmp i) (.tmp j) (.agg (cellsEn a).toArray) (.agg (cellsEn b).toArray) w K:=by
 rw[<-Zpc] at h;rcases ht with rfl|rfl
 ·exact be4 (k0:=.int .i64) (k1:=.bool) (k2:=.string) (k3:=.int .i64) hij (by kernel_rfl) (by kernel_rfl) (by kernel_rfl) (by kernel_rfl) (by kernel_rfl) (Zdi rfl) (by kernel_rfl) (by kernel_rfl)
   (by simp only[Ev.eq1,decide_true]) rfl rfl (by simp only[Ev.eq1,decide_true]) (Zit a) (Zit b) h
 ·exact be4 (k0:=.int .i64) (k1:=.bool) (k2:=.string) (k3:=.int .i64) hij (by kernel_rfl) (by kernel_rfl) (by kernel_rfl) (by kernel_rfl) (by kernel_rfl) (Zdi rfl) (by kernel_rfl) (by kernel_rfl)
   (by simp only[Ev.eq1,decide_true]) rfl rfl (by simp only[Ev.eq1,decide_true]) (Zit a) (Zit b) h
theorem beA {tS i j:Nat}{a b:An}{K:Value->Prop}(hij:j≠i) (ht:tS=tAn\/tS=tRA) (h:K (.bool (!decide (a=b)))):Be prog .neq tS (.tmp i) (.tmp j) (.agg (cellsAn a).toArray) (.agg (cellsAn b).toArray) w K:=by
 rw[<-Zpf] at h;rcases ht with rfl|rfl
 ·exact be4 (k0:=.int .i64) (k1:=.int .i64) (k2:=.string) (k3:=.int .i64) hij (by kernel_rfl) (by kernel_rfl) (by kernel_rfl) (by kernel_rfl) (by kernel_rfl) (Zdi rfl) (by kernel_rfl) (by kernel_rfl)
   (by simp only[Ev.eq1,decide_true]) (by simp only[Ev.eq1,decide_true]) rfl (by simp only[Ev.eq1,decide_true]) (Zii a) (Zii b) h
 ·exact be4 (k0:=.int .i64) (k1:=.int .i64) (k2:=.string) (k3:=.int .i64) hij (by kernel_rfl) (by kernel_rfl) (by kernel_rfl) (by kernel_rfl) (by kernel_rfl) (Zdi rfl) (by kernel_rfl) (by kernel_rfl)
   (by simp only[Ev.eq1,decide_true]) (by simp only[Ev.eq1,decide_true]) rfl (by simp only[Ev.eq1,decide_true]) (Zii a) (Zii b) h
end A46
namespace A46
open S4r P46 O46
variable {w:World}{L:List HProp}{K:KT}
abbrev tIn:Nat:=3
def En0:En:=⟨0,false,⟨#[]⟩,0⟩
def En1:En:=⟨-1,false,⟨#[]⟩,0⟩
def An0:An:=⟨0,0,⟨#[]⟩,0⟩
theorem Zi4:(zeroP prog tEn).cells.toList=cellsEn En0:=by kernel_rfl
theorem Zek:(zeroP prog tRE).cells.toList=cellsEn En0:=by kernel_rfl
theorem Zd8:(zeroP prog tAn).cells.toList=cellsAn An0:=by kernel_rfl
theorem Zg4:(zeroP prog tRA).cells.toList=cellsAn An0:=by kernel_rfl
theorem en_sg:∀ y:En,∀ u∈cellsEn y,sg u=true:=by
 intro y u hu;simp only[cellsEn,mem_cons,not_mem_nil,or_false] at hu
 rcases hu with rfl|rfl|rfl|rfl <;> rfl
theorem an_sg:∀ y:An,∀ u∈cellsAn y,sg u=true:=by
 intro y u hu;simp only[cellsAn,mem_cons,not_mem_nil,or_false] at hu
 rcases hu with rfl|rfl|rfl|rfl <;> rfl
instance rowAn:RowN prog 24 tAn 4:=⟨by kernel_rfl,⟨t74,.agg (cellsAn An0).toArray,by kernel_rfl,by kernel_rfl,by decide,by kernel_rfl,by kernel_rfl⟩⟩
instance rowRE:RowN prog 35 tRE 4:=⟨by kernel_rfl,⟨t73,.agg (cellsEn En0).toArray,by kernel_rfl,by kernel_rfl,by decide,by kernel_rfl,by kernel_rfl⟩⟩
instance rowRA:RowN prog 30 tRA 4:=⟨by kernel_rfl,⟨t68,.agg (cellsAn An0).toArray,by kernel_rfl,by kernel_rfl,by decide,by kernel_rfl,by kernel_rfl⟩⟩
theorem Zhv {e:En}{id:Int}{b:Nat}(i:Nat) (H:Holds w L) (hi:L[i]?=some (blk b tIn [iv id])) (k:∀ w',Same w w'->Holds w' L->K (.bool (e.id==id)) w'):Cl prog 75 #[.agg (cellsEn e).toArray,pt b] w K:=by
 refine Tz75 ?_;unfold Vz75;refine r_new H λx w1 S1 H1=>?_;replace H1:Holds w1 (blk x tEn (cellsEn e)::L):=H1;refine r_fo0 (r_ld 0 H1 rfl rfl ?_);refine r_ld (i+1) H1 (by rw[gF];exact hi) rfl ?_;exact r_eql (k _ S1 H1.drop)
theorem Zjr {a:Option Addr}{xs:List En}{c b:Nat}{id:Int}(i:Nat) (hn:xs.length<=1000) (H:Holds w L) (hT:EnIn L a xs) (hi:L[i]?=some (blk b tIn [iv id]))
  (k1:∀ (q:Nat) x w',xs[q]?=some x->findE xs id=some x->Same w w'->Holds w' L->K (nv q) w') (k2:∀ w',findE xs id=none->Same w w'->Holds w' L->K (iv (-1)) w') :
  Cl prog 74 #[.slice a xs.length c,.func (.func 75) #[] #[pt b]] w K:=by
 refine Tz74 ?_;unfold Vz74;refine r_lnl ?_
 refine Zfr (λj y w'=>∃ q:Nat,j=xs.length - q/\q<=xs.length/\y=nv q/\(∀ (r:Nat) z,r < q->xs[r]?=some z->z.id≠id)/\Same w w'/\Holds w' L) xs.length
  ⟨0,rfl,Nat.zero_le _,rfl,λr z h=>absurd h (Nat.not_lt_zero _),.refl w,H⟩ ?_
 clear H;rintro _ j _ w2 _ ⟨q,rfl,hq,rfl,hno,S,H⟩ hgo;refine r_lss (r_ifD (λh=>?_) λh=>?_)
 ·have hlt:q < xs.length:=by omega
  have hx:xs[q]?=some xs[q]:=gA hlt;generalize xs[q]=x at hx;refine r_ldG hT H hx rfl hlt ?_;refine r_inv (f:=75) (args:=#[.agg (cellsEn x).toArray,pt b]) (by kernel_rfl) ?_;refine Zhv i H hi λw3 S3 H3=>?_;refine r_ifE (λhe=>?_) λhe=>?_
  ·exact k1 q x w3 hx (Zfh hx he hno) (S.trans S3) H3
  ·refine Za2 (by omega) (r_ke (hgo (xs.length - (q+1)) _ _ (by omega) ⟨q+1,rfl,by omega,rfl,λr z hr hz=>?_,S.trans S3,H3⟩))
   by_cases hrq:r < q
   ·exact hno r z hrq hz
   ·obtain rfl:r=q:=by omega
    rw[hx] at hz;obtain rfl:=Option.some.inj hz;exact he
 ·obtain rfl:q=xs.length:=by omega
  refine k2 w2 (Zeu λr z hz=>hno r z (gH.1 hz).1 hz) S H
theorem first_spec {a b:Option Addr}{xs:List En}{c l2 c2:Nat}{id:Int}(hn:xs.length<=1000) (H:Holds w L) (hT:EnIn L a xs)
  (k1:∀ x w',findE xs id=some x->Same w w'->Holds w' L->K (.tuple #[.agg (cellsEn x).toArray,.bool true]) w') (k2:∀ w',findE xs id=none->Same w w'->Holds w' L->K (.tuple #[.agg (cellsEn En0).toArray,.bool false]) w') :
  Cl prog 48 #[.agg (cellsV a xs.length c b l2 c2).toArray,iv id] w K:=by
 refine Tz48 ?_;unfold Vz48;refine r_new H λvb w1 S1 H1=>?_;replace H1:Holds w1 (blk vb tVi (cellsV a xs.length c b l2 c2)::L):=H1;refine r_new H1 λib w2 S2 H2=>?_;replace H2:Holds w2 (blk ib tIn [iv id]::blk vb tVi (cellsV a xs.length c b l2 c2)::L):=H2;refine r_new H2 λrb w3 S3 H3=>?_;rw[Zi4] at H3;refine r_fo0 (r_ld 2 H3 rfl rfl ?_);refine r_mf (.func (.func 75) #[] #[pt ib]) (by kernel_rfl) ?_;have S:=S1.trans (S2.trans S3);refine Zjr 1 hn H3 hT.up.up.up rfl (λq x w4 hq hf S4 H4=>?_) λw4 hf S4 H4=>?_
 ·refine r_lss (r_vfD (by omega) ?_);refine r_fo0 (r_ld 2 H4 rfl rfl ?_);refine r_ldG hT.up.up.up H4 hq rfl (gH.1 hq).1 ?_;refine r_stA 0 H4 (vs:=cellsEn x) rfl (Nat.le_refl 4) rfl rfl λw5 S5 H5=>?_;refine r_ldA 0 H5 (cellsEn x) rfl rfl rfl ?_;exact k1 x _ hf (S.trans (S4.trans S5)) H5.drop.drop.drop
 ·refine r_lss (r_vtD (by decide) ?_);refine r_bd (v:=.agg (cellsEn En0).toArray) (by kernel_rfl) ?_;refine r_stA 0 H4 (vs:=cellsEn En0) rfl (Nat.le_refl 4) rfl rfl λw5 S5 H5=>?_;refine r_ldA 0 H5 (cellsEn En0) rfl rfl rfl ?_;exact k2 _ hf (S.trans (S4.trans S5)) H5.drop.drop.drop
theorem InG.take {α:Type}{F:α->List Value}{k:Nat}{a:Option Addr}{xs:List α}(h:InG F k L a xs) (n:Nat):InG F k L a (xs.take n):=λw' H i x hx=>h w' H i x (by
 rw[List.getElem?_take] at hx;split at hx
 ·exact hx
 ·cases hx)
theorem Zk8 {xs:List En}{q:Nat}{x:En}(h:xs[q]?=some x):∃ z,findE xs x.id=some z:=by
 unfold findE
 cases hf:xs.find? λe=>decide (e.id=x.id) with
 |some z=>exact⟨z,rfl⟩
 |none=>
  rw[List.find?_eq_none] at hf;have:=hf x (mem_of_getElem? h);simp at this
def agr (us vs:List En) (rs ts:List An):Prop:=agrE us vs/\agrA rs ts
def atE (us vs:List En) (x:En):Prop:=∀ q,findE vs x.id=some q->findE us x.id=some q
end A46
end Go.Proofs.YthhkodlnfogkgaaGreatDoor
namespace Go.Proofs.YthhkodlnfogkgaaGreatDoor
open Go Go.Vc Go.Proofs.Tryz
inductive F33.AllR:List UInt8->List F33.Fr->Nat->Prop
 |nil:F33.AllR [] [] 0
 |err {B:List UInt8} {e:Nat} (hne:B≠[]) (h:F33.dec B=.no e):F33.AllR B [] e
 |go {B:List UInt8} {f:F33.Fr} {n:Nat} {fs:List F33.Fr} {e:Nat} (hne:B≠[]) (h:F33.dec B=.ok f n) (t:F33.AllR (B.drop n) fs e):F33.AllR B (f::fs) e
attribute [local irreducible] Vc.Nc Vc.Ld Vc.LdA Vc.St Vc.StA Vc.Fo Vc.Iaa Vc.Ias Vc.Ixs Vc.Ixa Vc.Fd Vc.FdA Vc.Bp Vc.Bb Vc.Bn Vc.Up Vc.Ci Vc.Lns Vc.Lnl Vc.Ex Vc.Sst Vc.Ssl Vc.New Vc.Vif Vc.VJoin Vc.VLoop Vc.KE Vc.Dr Vc.Rk Vc.Cl Vc.Cx Vc.Inv Vc.Be Vc.Cv Vc.Cw Vc.Mf Vc.Sl Vc.Lk Vc.Bd Vc.Bs Vc.Ms Vc.Mm Vc.Mu Vc.Me Vc.Es Vc.Rg Vc.Nx Vc.Ta Vc.Ap Vc.Usd Vc.Ust Vc.Cp Vc.Ln Vc.Bc Vc.Bmin Vc.Bmax Vc.Bdel Vc.Bclr Vc.Pk
namespace F33
open Go.M31 J30 P46 O46 A46
variable {w:World}{L:List HProp}{K:KT}{s:List UInt8}
theorem Zbc {B:List UInt8}{fs gs:List Fr}{e d:Nat}(h:AllR B fs e):AllR B gs d->fs=gs/\e=d:=by
 induction h generalizing gs d with
 |nil=>intro h;cases h with
  |nil=>exact⟨rfl,rfl⟩
  |err hne _=>exact absurd rfl hne
  |go hne _ _=>exact absurd rfl hne
 |err hne h=>
  intro h'
  cases h' with
  |nil=>exact absurd rfl hne
  |err _ g=>rw[h] at g;cases g;exact⟨rfl,rfl⟩
  |go _ g _=>rw[h] at g;cases g
 |go hne h t ih=>
  intro h'
  cases h' with
  |nil=>exact absurd rfl hne
  |err _ g=>rw[h] at g;cases g
  |go _ g t'=>
   rw[h] at g;cases g;obtain⟨rfl,rfl⟩:=ih t';exact⟨rfl,rfl⟩
theorem Zfd {B:List UInt8}{fs:List Fr}{e:Nat}(h:AllR B fs e):∀ f∈fs,f.jb<=4294967295/\f.da.length<=65536:=by
 induction h with
 |nil=>intro f hf;cases hf
 |err=>intro f hf;cases hf
 |go _ h t ih=>
  intro g hg;rcases mem_cons.1 hg with rfl|hg
  ·have:=Zi0 h;exact⟨this.2.2.1,this.2.2.2.1⟩
  ·exact ih g hg
theorem Zip {B C:List UInt8}{fs:List Fr}{f:Fr}{n m:Nat}(hlt:m < B.length) (h:∀ gs e,AllR (B.drop m) gs e->AllR C (fs++gs) e) (hd:dec (B.drop m)=.ok f n):∀ gs e,AllR (B.drop (m+n)) gs e->AllR C (fs++[f]++gs) e:=by
 intro gs e hg
 have hne:B.drop m≠[]:=λh0=>by
  have:=congrArg List.length h0;rw[gS,length_nil] at this;omega
 have:=h (f::gs) e (.go hne hd (by rw[List.drop_drop];exact hg));simpa using this
set_option maxRecDepth 1000000 in
instance rowFr2:RowN prog 61 tFr 3:=⟨underlying61,_,_,rfl,rfl,by decide,rfl,rfl⟩
theorem Zp9:∀ y:Fr,∀ u∈cellsF y,sg u=true:=by
 intro y u hu;simp only[cellsF,mem_cons,not_mem_nil,or_false] at hu
 rcases hu with rfl|rfl|rfl <;> rfl
theorem Zk6 (H:Holds w L) (hs:s.length<=1000) (k:∀ v fs (at_ e:Nat) w',AllR s fs e->fs.length<=s.length->Same w w'->Holds w' (RW cellsF 3 tFr v fs::L)->K (.tuple #[v,nv at_,nv e]) w') :
  Cl prog 29 #[S_ s] w K:=by
 refine Tz29 ?_;unfold Vz29
 refine Zau (λx y w'=>∃ (fs:List Fr) (o:Option Addr) (q a:Nat),x=.slice o fs.length q/\y=nv a/\a<=s.length/\9*fs.length<=a/\(∀ gs e,AllR (s.drop a) gs e->AllR s (fs++gs) e)/\Same w w'/\Holds w' (RW cellsF 3 tFr (.slice o fs.length q) fs::L))
  (λ_ y _=>s.length - (intOf y).toNat) ⟨[],none,0,0,rfl,rfl,by omega,by simp,λgs e h=>h,.refl w,H.nilRW cellsF 3 tFr⟩ ?_
 clear H;rintro _ _ _ w2 ⟨fs,o,q,a,rfl,rfl,ha,h9,hF,S,H⟩;refine q_len (r_lss (r_ifD (λh=>?_) λh=>?_))
 ·have hlt:a < s.length:=by omega
  refine q_D (m:=a) ha ?_;refine Zeg H (by rw[gS];omega) λw3 S3 H3=>?_
  cases hd:dec (s.drop a) with
  |no e=>
   have he:=Zig hd;refine r_ex rfl (r_ex rfl (r_ex rfl ?_));refine r_new H3 λfb w4 S4 H4=>?_;rw[Zap] at H4;refine r_stA 0 H4 (vs:=cellsF fr0) rfl (Nat.le_refl 3) rfl rfl λw5 S5 H5=>?_;refine r_neq (r_ifN (λg1=>?_) λg1=>absurd g1 (by show ¬ ((e:Int)=0);omega))
   have hne:s.drop a≠[]:=λh0=>by
    have:=congrArg List.length h0;rw[gS,length_nil] at this;omega
   have hfr:=hF [] e (.err hne hd);rw[gU] at hfr;exact k _ fs a e w5 hfr (by omega) (S.trans (S3.trans (S4.trans S5))) H5.drop
  |ok f n=>
   obtain⟨hn9,hnl,hj,hda,_⟩:=Zi0 hd;rw[gS] at hnl;refine r_ex rfl (r_ex rfl (r_ex rfl ?_));refine r_new H3 λfb w4 S4 H4=>?_;rw[Zap] at H4;refine r_stA 0 H4 (vs:=cellsF f) rfl (Nat.le_refl 3) rfl rfl λw5 S5 H5=>?_;replace H5:Holds w5 (blk fb tFr (cellsF f)::RW cellsF 3 tFr (.slice o fs.length q) fs::L):=H5;refine r_neq (r_vfN rfl ?_);refine r_ldA 0 H5 (cellsF f) rfl rfl rfl ?_;refine Zbv H5 1 f rfl (by kernel_rfl) (λ_=>rfl) Zp9 (by omega) (by decide) λv w6 S6 H6=>?_;obtain⟨o4,m4,sp4,rfl,_⟩:=H6.openRW 1 rfl;refine Zae (a:=a) (b:=n) (by omega) ?_;refine r_ke ⟨⟨fs++[f],o4,(fs++[f]).length+m4,a+n,rfl,rfl,by omega,by rw[gD,gQ];omega,Zip hlt hF hd,S.trans (S3.trans (S4.trans (S5.trans S6))),H6.drop⟩,?_⟩;simp only[intOf,gC];omega
 ·have h0:s.drop a=[]:=drop_of_length_le (by omega);have hfr:=hF [] 0 (by rw[h0];exact .nil);rw[gU] at hfr;exact k _ fs a 0 w2 hfr (by omega) S H
def hear (f:Fr):Option An:=
 if f.ty=65\/f.ty=70 then if f.jb=0 then some ⟨f.ty,f.jb,⟨f.da.toArray⟩,0⟩ else none
 else if f.ty=66 then some ⟨f.ty,f.jb,⟨f.da.toArray⟩,0⟩
 else if f.ty=67 then if f.da=[] then some ⟨f.ty,f.jb,⟨#[]⟩,0⟩ else none
 else if f.ty=68\/f.ty=69 then if f.da.length=1/\0 < (f.da.getD 0 0).toNat then some ⟨f.ty,f.jb,⟨#[]⟩,((f.da.getD 0 0).toNat:Int)⟩ else none
 else none
def hearV:Option An->Value
 |some a=>.tuple #[.agg (cellsAn a).toArray,iv 0]
 |none=>.tuple #[.agg (cellsAn An0).toArray,iv 35]
def hearL:List Fr->Option (List An)
 |[]=>some []
 |f::r=>match hear f,hearL r with
  |some a,some l=>some (a::l)
  |_,_=>none
theorem Zgq (fs:List Fr) (f:Fr):hearL (fs++[f])=match hearL fs,hear f with
  |some l,some a=>some (l++[a])
  |_,_=>none:=by
 induction fs with
 |nil=>cases h:hear f <;> simp[hearL,h]
 |cons g r ih=>
  rw[cons_append,hearL,hearL,ih]
  cases hear g <;> cases hearL r <;> cases hear f <;> rfl
theorem Zez {fs:List Fr}{i:Nat}{f:Fr}(hf:fs[i]?=some f) (h:hear f=none):hearL fs=none:=by
 induction fs generalizing i with
 |nil=>cases hf
 |cons g r ih=>
  rw[hearL]
  cases i with
  |zero=>
   simp at hf;subst hf;rw[h]
  |succ i=>
   rw[ih (i:=i) (by simpa using hf)]
   cases hear g <;> rfl
theorem Zll {f:Fr}(H:Holds w L) (h1:f.jb<=4294967295) (h2:f.da.length<=65536) (k:∀ w',Same w w'->Holds w' L->K (hearV (hear f)) w'):Cl prog 30 #[.agg (cellsF f).toArray] w K:=by
 refine Tz30 ?_;unfold Vz30;refine r_new H λfb w1 S1 H1=>?_;replace H1:Holds w1 (blk fb tFr (cellsF f)::L):=H1;refine r_new H1 λxb w2 S2 H2=>?_;rw[Zd8] at H2;refine r_fo0 (r_ld 1 H2 rfl rfl (r_fo0 (r_ld 1 H2 rfl rfl ?_)));refine r_bd (v:=.agg (cellsAn ⟨f.ty,f.jb,⟨#[]⟩,0⟩).toArray) (by kernel_rfl) ?_;refine r_new H2 λab w3 S3 H3=>?_;rw[Zd8] at H3;refine r_stA 0 H3 (vs:=cellsAn ⟨f.ty,f.jb,⟨#[]⟩,0⟩) rfl (Nat.le_refl 4) rfl rfl λw4 S4 H4=>?_;replace H4:Holds w4 (blk ab tAn (cellsAn ⟨f.ty,f.jb,⟨#[]⟩,0⟩)::blk xb tAn (cellsAn An0)::blk fb tFr (cellsF f)::L):=H4;refine r_ldA 2 H4 (cellsF f) rfl rfl rfl ?_;refine Zeo H4 h1 h2 λw5 S5 H5=>?_;have S:=S1.trans (S2.trans (S3.trans (S4.trans S5)));clear S1 S2 S3 S4 S5 H H1 H2 H3 H4;refine Za4 (λx w'=>∃ (z:Bool) (a:An),x=.bool z/\hear f=(if z then some a else none)/\Same w w'/\Holds w' (blk ab tAn (cellsAn a)::blk xb tAn (cellsAn An0)::blk fb tFr (cellsF f)::L)) ?_ ?_
 ·rintro _ _ w6 ⟨z,a,rfl,hz,S6,H6⟩
  cases z with
  |false=>
   refine r_not (r_vt ?_);refine r_bd (v:=.agg (cellsAn An0).toArray) (by kernel_rfl) ?_;refine r_stA 1 H6 (vs:=cellsAn An0) rfl (Nat.le_refl 4) rfl rfl λw7 S7 H7=>?_;refine r_ldA 1 H7 (cellsAn An0) rfl rfl rfl ?_;have:=k w7 (S6.trans S7) H7.drop.drop.drop;rw[hz] at this;exact this
  |true=>
   refine r_not (r_vf ?_);refine r_ldA 0 H6 (cellsAn a) rfl rfl rfl ?_;refine r_stA 1 H6 (vs:=cellsAn a) rfl (Nat.le_refl 4) rfl rfl λw7 S7 H7=>?_;refine r_ldA 1 H7 (cellsAn a) rfl rfl rfl ?_;have:=k w7 (S6.trans S7) H7.drop.drop.drop;rw[hz] at this;exact this
 refine r_fo0 (r_ld 2 H5 rfl rfl ?_);refine Za4 (λx w'=>w5=w'/\x=.bool (decide (f.ty=65\/f.ty=70))) ?_ ?_
 rotate_left
 ·refine r_eql (r_ifE (λh=>r_ke ⟨rfl,by rw[decide_eq_true (by omega)];rw[beq_iff_eq.2 h]⟩) λh=>?_);refine r_eql (r_ke ⟨rfl,?_⟩)
  congr 1
  rw[Bool.eq_iff_iff,decide_eq_true_iff,beq_iff_eq];omega
 rintro _ _ _ ⟨rfl,rfl⟩;refine r_ifD (λg1=>?_) λg1=>?_
 ·refine r_fo0 (r_ld 2 H5 rfl rfl (r_fo0 (r_st 0 H5 rfl (by simp[cellsAn]) rfl λw6 S6 H6=>?_)));replace H6:Holds w6 (blk ab tAn (cellsAn ⟨f.ty,f.jb,⟨f.da.toArray⟩,0⟩)::blk xb tAn (cellsAn An0)::blk fb tFr (cellsF f)::L):=H6;refine r_vt (r_fo0 (r_ld 2 H6 rfl rfl (r_eql (r_ke ⟨_,_,rfl,?_,S.trans S6,H6⟩))));unfold hear;rw[if_pos g1]
  by_cases hj:f.jb=0
  ·rw[if_pos hj,if_pos (by rw[beq_iff_eq];omega)]
  ·rw[if_neg hj,if_neg (by rw[beq_iff_eq];omega)]
 refine r_eql (r_ifE (λg2=>?_) λg2=>?_)
 ·refine r_fo0 (r_ld 2 H5 rfl rfl (r_fo0 (r_st 0 H5 rfl (by simp[cellsAn]) rfl λw6 S6 H6=>?_)));replace H6:Holds w6 (blk ab tAn (cellsAn ⟨f.ty,f.jb,⟨f.da.toArray⟩,0⟩)::blk xb tAn (cellsAn An0)::blk fb tFr (cellsF f)::L):=H6;refine r_ke ⟨true,_,rfl,?_,S.trans S6,H6⟩;unfold hear;rw[if_neg g1,if_pos (by omega)];rfl
 refine r_eql (r_ifE (λg3=>?_) λg3=>?_)
 ·refine r_vt (r_fo0 (r_ld 2 H5 rfl rfl (Zh8 (r_ke ⟨_,_,rfl,?_,S,H5⟩))));unfold hear;rw[if_neg g1,if_neg (by omega),if_pos (by omega)]
  by_cases hd:f.da=[]
  ·rw[if_pos hd,if_pos (by rw[decide_eq_true_iff,sz,hd];rfl)]
  ·rw[if_neg hd,if_neg (by rw[decide_eq_true_iff,sz];exact λe=>hd (eq_nil_of_length_eq_zero e))]
 refine Za4 (λx w'=>w5=w'/\x=.bool (decide (f.ty=68\/f.ty=69))) ?_ ?_
 rotate_left
 ·refine r_eql (r_ifE (λh=>r_ke ⟨rfl,by rw[decide_eq_true (by omega)];rw[beq_iff_eq.2 h]⟩) λh=>?_);refine r_eql (r_ke ⟨rfl,?_⟩)
  congr 1
  rw[Bool.eq_iff_iff,decide_eq_true_iff,beq_iff_eq];omega
 rintro _ _ _ ⟨rfl,rfl⟩;refine r_ifD (λg4=>?_) λg4=>?_
 ·have hb:=(f.da.getD 0 0).toNat_lt;refine Za4 (λx w'=>w5=w'/\x=.bool (decide (f.da.length=1/\0 < (f.da.getD 0 0).toNat))) ?_ ?_
  rotate_left
  ·refine r_vt (r_fo0 (r_ld 2 H5 rfl rfl (q_len (r_eql (r_ifE (λh=>?_) λh=>r_ke ⟨rfl,by rw[decide_eq_false (by omega)]⟩)))));refine r_fo0 (r_ld 2 H5 rfl rfl (q_ix (m:=0) (by omega) (r_gtr (r_ke ⟨rfl,?_⟩))))
   congr 1
   rw[Bool.eq_iff_iff,decide_eq_true_iff,decide_eq_true_iff];omega
  rintro _ _ _ ⟨rfl,rfl⟩;refine r_ifD (λg5=>?_) λg5=>?_
  ·refine r_fo0 (r_ld 2 H5 rfl rfl (q_ix (m:=0) (by omega) (Zbb (by omega) (by omega) ?_)));refine r_fo0 (r_st 0 H5 rfl (by simp[cellsAn]) rfl λw6 S6 H6=>?_);replace H6:Holds w6 (blk ab tAn (cellsAn ⟨f.ty,f.jb,⟨#[]⟩,((f.da.getD 0 0).toNat:Int)⟩)::blk xb tAn (cellsAn An0)::blk fb tFr (cellsF f)::L):=H6;refine r_ke ⟨_,_,rfl,?_,S.trans S6,H6⟩;unfold hear;rw[if_neg g1,if_neg (by omega),if_neg (by omega),if_pos g4,if_pos g5,if_pos (decide_eq_true g5)]
  ·refine r_ke ⟨_,_,rfl,?_,S,H5⟩;unfold hear;rw[if_neg g1,if_neg (by omega),if_neg (by omega),if_pos g4,if_neg g5,if_neg (by simpa using g5)]
 ·refine r_ke ⟨false,_,rfl,?_,S,H5⟩;unfold hear;rw[if_neg g1,if_neg (by omega),if_neg (by omega),if_neg g4];rfl
inductive AnsR:List UInt8->List An->Nat->Prop
 |bad {B:List UInt8} {fs:List Fr} {e:Nat} (h:AllR B fs e) (he:e≠0):AnsR B [] e
 |no {B:List UInt8} {fs:List Fr} (h:AllR B fs 0) (hn:hearL fs=none):AnsR B [] 35
 |ok {B:List UInt8} {fs:List Fr} {l:List An} (h:AllR B fs 0) (hl:hearL fs=some l):AnsR B l 0
theorem Zdm {B:List UInt8}{l m:List An}{e d:Nat}(h:AnsR B l e) (h':AnsR B m d):l=m/\e=d:=by
 cases h with
 |bad h he=>
  cases h' with
  |bad g _=>obtain⟨_,rfl⟩:=Zbc h g;exact⟨rfl,rfl⟩
  |no g _=>obtain⟨_,rfl⟩:=Zbc h g;exact absurd rfl he
  |ok g _=>obtain⟨_,rfl⟩:=Zbc h g;exact absurd rfl he
 |no h hn=>
  cases h' with
  |bad g he=>obtain⟨_,rfl⟩:=Zbc h g;exact absurd rfl he
  |no g _=>exact⟨rfl,rfl⟩
  |ok g gl=>obtain⟨rfl,_⟩:=Zbc h g;rw[hn] at gl;cases gl
 |ok h hl=>
  cases h' with
  |bad g he=>obtain⟨_,rfl⟩:=Zbc h g;exact absurd rfl he
  |no g gn=>obtain⟨rfl,_⟩:=Zbc h g;rw[hl] at gn;cases gn
  |ok g gl=>
   obtain⟨rfl,_⟩:=Zbc h g;rw[hl] at gl;cases gl;exact⟨rfl,rfl⟩
theorem Zgg (H:Holds w L) (hs:s.length<=900)
  (k1:∀ e w',AnsR s [] e->e≠0->Same w w'->Holds w' L->K (.tuple #[.slice none 0 0,nv e]) w')
  (k2:∀ v l w',AnsR s l 0->l.length<=900->Same w w'->Holds w' (RW cellsAn 4 tAn v l::L)->K (.tuple #[v,iv 0]) w'):Cl prog 15 #[S_ s] w K:=by
 refine Tz15 ?_;unfold Vz15;refine Zk6 H (by omega) λv fs at_ e w1 hfr hfl S1 H1=>?_;obtain⟨of,mf,spf,rfl,_⟩:=H1.openRW 0 rfl;refine r_ex rfl (r_ex rfl (r_ex rfl ?_));refine r_neq (r_ifN (λh=>?_) λh=>?_)
 ·exact k1 e w1 (.bad hfr (by omega)) (by omega) S1 H1.drop
 obtain rfl:e=0:=by omega
 refine r_lnl ?_
 refine Zau (λx y w'=>∃ (i:Nat) (l:List An) (o:Option Addr) (q:Nat),i<=fs.length/\y=nv i/\x=.slice o l.length q/\l.length=i/\hearL (fs.take i)=some l/\Same w w'/\
   Holds w' (RW cellsAn 4 tAn (.slice o l.length q) l::RW cellsF 3 tFr (.slice of fs.length (fs.length+mf)) fs::L))
  (λ_ y _=>fs.length - (intOf y).toNat) ⟨0,[],none,0,by omega,rfl,rfl,rfl,rfl,S1,H1.nilRW cellsAn 4 tAn⟩ ?_
 clear H S1;rintro _ _ _ w2 ⟨i,l,o,q,hi,rfl,rfl,hl,hh,S,H⟩;refine r_lss (r_ifD (λh=>?_) λh=>?_)
 ·have hlt:i < fs.length:=by omega
  obtain⟨f,hf⟩:∃ f,fs[i]?=some f:=⟨_,gA hlt⟩;obtain⟨b1,b2⟩:=Zfd hfr f (mem_of_getElem? hf);refine S4r.r_ldG (S4r.InG.own 1 rfl λ_=>rfl) H hf rfl hlt ?_;refine r_new H λfb w3 S3 H3=>?_;rw[Zap] at H3;refine r_stA 0 H3 (vs:=cellsF f) rfl (Nat.le_refl 3) rfl rfl λw4 S4 H4=>?_;replace H4:Holds w4 (blk fb tFr (cellsF f)::RW cellsAn 4 tAn (.slice o l.length q) l::RW cellsF 3 tFr (.slice of fs.length (fs.length+mf)) fs::L):=H4;refine r_ldA 0 H4 (cellsF f) rfl rfl rfl ?_;refine Zll H4 b1 b2 λw5 S5 H5=>?_
  have ht:fs.take (i+1)=fs.take i++[f]:=by rw[gO,hf];rfl
  have happ:=Zgq (fs.take i) f;rw[<-ht,hh] at happ
  cases hq:hear f with
  |none=>
   refine r_ex rfl (r_ex rfl ?_);refine r_new H5 λab w6 S6 H6=>?_;rw[Zd8] at H6;refine r_stA 0 H6 (vs:=cellsAn An0) rfl (Nat.le_refl 4) rfl rfl λw7 S7 H7=>?_;refine r_neq (r_ifN (λ_=>?_) λg=>absurd g (by decide));exact k1 35 w7 (.no hfr (Zez hf hq)) (by decide) (S.trans (S3.trans (S4.trans (S5.trans (S6.trans S7))))) H7.drop.drop.drop.drop
  |some a=>
   rw[hq] at happ;refine r_ex rfl (r_ex rfl ?_);refine r_new H5 λab w6 S6 H6=>?_;rw[Zd8] at H6;refine r_stA 0 H6 (vs:=cellsAn a) rfl (Nat.le_refl 4) rfl rfl λw7 S7 H7=>?_;replace H7:Holds w7 (blk ab tAn (cellsAn a)::blk fb tFr (cellsF f)::RW cellsAn 4 tAn (.slice o l.length q) l::RW cellsF 3 tFr (.slice of fs.length (fs.length+mf)) fs::L):=H7;refine r_neq (r_vfN rfl ?_);refine r_ldA 0 H7 (cellsAn a) rfl rfl rfl ?_;refine Zbv H7 2 a rfl (by kernel_rfl) (λ_=>rfl) an_sg (by omega) (by decide) λv w8 S8 H8=>?_;obtain⟨o4,m4,sp4,rfl,_⟩:=H8.openRW 2 rfl;refine Za2 (by omega) (r_ke ⟨⟨i+1,l++[a],o4,(l++[a]).length+m4,by omega,rfl,rfl,by rw[gD,hl];rfl,happ,S.trans (S3.trans (S4.trans (S5.trans (S6.trans (S7.trans S8))))),H8.drop.drop⟩,?_⟩);simp only[intOf,gC];omega
 ·obtain rfl:i=fs.length:=by omega
  rw[hF_] at hh;exact k2 _ l w2 (.ok hfr hh) (by omega) S (Holds.dropAt H 1)
end F33
namespace F33
open Go.M31 J30 J31 J32
variable {w:World}{L:List HProp}{K:KT}{cb:Nat}{v m:Value}{ts:List Tn}{f:Fr}
abbrev tCo:Nat:=230
set_option maxRecDepth 1000000 in
instance rowTn:RowN prog 44 tT 5:=⟨underlying44,_,_,rfl,rfl,by decide,rfl,rfl⟩
theorem Zhi {a:Option Addr}{c:Nat}(H:Holds w L) (hT:TsIn L a ts) (hl:ts.length<=1000) (h0:0 < ts.length) (k:∀ v w',Same w w'->Holds w' (RW cellsT 5 tT v ts::L)->K v w') :
  Cl prog 25 #[.slice a ts.length c] w K:=by
 refine Tz25 ?_;unfold Vz25;obtain⟨p,rfl,_⟩:=hT w H 0 ts[0] (gA h0);refine r_be (v:=.bool false) (by kernel_rfl) (r_vf ?_);refine r_bsK (e:=tT) [] H (by kernel_rfl) λbz w1 S1 H1=>?_;have hT1:S4r.InG cellsT 5 (blk bz tT []::L) (some p) ts:=hT.up;refine r_apG (F:=cellsT) (k:=5) (e:=tT) H1 hT1 (λ_=>rfl) h0 hl λv w2 S2 H2=>?_;exact k v w2 (S1.trans S2) (Holds.dropAt H2 1)
theorem Zl2 {z:Bool}{a:Option Addr}{c:Nat}(H:Holds w L) (hT:TsIn L a ts) (hU:J33.TabZ z L) (hA:∀ t∈ts,J33.AscT z t) (hs:∀ t∈ts,szT t) (hc:ts.length<=c) (hok:goodTs ts)
  (k:∀ cb v m w',Same w w'->Holds w' (blk cb tCo [v,iv (-1),m]::RW cellsT 5 tT v ts::L)->K (.tuple #[pt cb,iv 0]) w'):Cl prog 83 #[.slice a ts.length c] w K:=by
 refine Tz83 ?_;unfold Vz83;refine J33.Zed H hT hU hA hs hc λx e w1 S1 H1 hch=>?_;obtain rfl:e=0:=Zcx hch (.inr (.inr (.inr ⟨hok,rfl⟩)));refine Zal (Zak (r_neq (r_vfN rfl ?_)));have h3:=hok.2.2;refine Zhi H1 hT (by omega) h3.1 λv w2 S2 H2=>?_;refine r_mmN H2 λmb w3 S3 H3=>?_;obtain⟨oa,q,sp,rfl,_⟩:=H2.openRW 0 rfl;refine r_bd (v:=.agg #[.slice oa ts.length (ts.length+q),iv (-1),.map (some mb)]) (by kernel_rfl) ?_;refine r_new H3 λcb w4 S4 H4=>?_;exact k cb _ _ w4 (S1.trans (S2.trans (S3.trans S4))) (Holds.dropAt H4 1)
def actL (i:Nat):List Value:=[iv 2,iv 0,nv i,iv 0,iv 0,iv 0,S_ [],iv 0]
def actR (jb:Nat) (e:Int):List Value:=[iv 1,nv jb,iv 0,iv 0,iv 0,iv 0,S_ [],iv e]
theorem Zhr {jb:Nat}{e:Int}(H:Holds w L) (k:∀ w',Same w w'->Holds w' L->K (.agg (actR jb e).toArray) w'):Cl prog 117 #[nv jb,iv e] w K:=by
 refine Tz117 ?_;unfold Vz117;refine r_new H λb w1 S1 H1=>?_;rw[Zd6] at H1;refine r_bd (v:=.agg (actR jb e).toArray) (by kernel_rfl) ?_;refine r_stA 0 H1 (vs:=actR jb e) rfl (Nat.le_refl 8) rfl rfl λw2 S2 H2=>?_;refine r_ldA 0 H2 (actR jb e) rfl rfl rfl ?_;exact k _ (S1.trans S2) H2.drop
theorem Zje {z:Bool}(H:Holds w (blk cb tCo [v,iv (-1),m]::RW cellsT 5 tT v ts::L)) (hU:J33.TabZ z L) (hA:J33.Asc z f.da) (h1:f.jb<=4294967295) (h2:f.da.length<=65536) (hl:ts.length<=1000) (hs:∀ t∈ts,szT t)
  (k1:logs f->∀ i w',First ts f.da i->Same w w'->Holds w' (blk cb tCo [v,nv i,m]::RW cellsT 5 tT v ts::L)->K (.agg (actL i).toArray) w')
  (k2:¬ logs f\/Nobody ts f.da->∀ e w',Same w w'->Holds w' (blk cb tCo [v,iv (-1),m]::RW cellsT 5 tT v ts::L)->K (.agg (actR f.jb e).toArray) w') :
  Cl prog 115 #[pt cb,.agg (cellsF f).toArray] w K:=by
 refine Tz115 ?_;unfold Vz115;refine r_new H λfb w1 S1 H1=>?_;replace H1:Holds w1 (blk fb tFr (cellsF f)::blk cb tCo [v,iv (-1),m]::RW cellsT 5 tT v ts::L):=H1;refine r_new H1 λob w2 S2 H2=>?_;rw[Zd6] at H2;refine r_ldA 1 H2 (cellsF f) rfl rfl rfl ?_;have S:=S1.trans S2;clear S1 S2 H H1
 have no:∀ (e:Int) (rb:Nat) (rc:List Value) w',(¬ logs f\/Nobody ts f.da)->Same w w'->Holds w' (blk rb tRq rc::blk ob tAc zAct::blk fb tFr (cellsF f)::blk cb tCo [v,iv (-1),m]::RW cellsT 5 tT v ts::L)->
   Fo 1 (pt fb) λx_9=>Ld x_9 w' λx_10=>Cl prog 117 #[x_10,iv e] w' λx_11 w7=>StA 8 (pt ob) x_11 w7 λw8=>LdA 8 (pt ob) w8 λx_12=>K x_12 w8:=by
  intro e rb rc w' hno Sz Hz;refine r_fo0 (r_ld 2 Hz rfl rfl ?_);refine Zhr Hz λw7 S7 H7=>?_;refine r_stA 1 H7 (vs:=actR f.jb e) rfl (Nat.le_refl 8) rfl rfl λw8 S8 H8=>?_;refine r_ldA 1 H8 (actR f.jb e) rfl rfl rfl ?_;exact k2 hno e w8 (Sz.trans (S7.trans S8)) H8.drop.drop.drop
 refine Zk2 H2 hU.up.up.up.up hA h1 h2 (λhlg w3 S3 H3=>?_) λhlg a b c d e g h r w3 hsg hr S3 H3=>?_
 ·refine Zal (Zak ?_);refine r_new H3 λrb w4 S4 H4=>?_;rw[Zft] at H4;refine r_stA 0 H4 (vs:=[nv 1,nv f.jb,S_ f.da,S_ [],iv 0,iv 0,iv 0]) rfl (Nat.le_refl 7) rfl rfl λw5 S5 H5=>?_;replace H5:Holds w5 (blk rb tRq [nv 1,nv f.jb,S_ f.da,S_ [],iv 0,iv 0,iv 0]::blk ob tAc zAct::blk fb tFr (cellsF f)::blk cb tCo [v,iv (-1),m]::RW cellsT 5 tT v ts::L):=H5;have S':=S.trans (S3.trans (S4.trans S5));refine Za4 (λx w'=>w5=w'/\x=.bool false) ?_ ?_
  rotate_left
  ·refine r_neq (r_vfN rfl (r_fo0 (r_ld 0 H5 rfl rfl (r_neq (r_ke ⟨rfl,rfl⟩)))))
  rintro _ _ _ ⟨rfl,rfl⟩;refine r_vf (r_dr H5 λw6 S6 H6=>?_);obtain⟨oa,q,sp,rfl,_⟩:=H6.openRW 4 rfl;refine r_nc (r_fo0 (r_ld 3 H6 rfl rfl (r_fo0 (r_ld 0 H6 rfl rfl ?_))));have hT:TsIn (blk rb tRq [nv 1,nv f.jb,S_ f.da,S_ [],iv 0,iv 0,iv 0]::blk ob tAc zAct::blk fb tFr (cellsF f)::blk cb tCo [.slice oa ts.length (ts.length+q),iv (-1),m]::RW cellsT 5 tT (.slice oa ts.length (ts.length+q)) ts::L) oa ts:=S4r.InG.own 4 rfl (λ_=>rfl);refine Find_spec H6 hT hl hs (λi w7 hi S7 H7=>?_) λw7 hno S7 H7=>?_
  ·refine Zal (Zak (r_neq (r_vfN rfl ?_)));refine r_nc (r_fo0 (r_st 3 H7 rfl (by simp) rfl λw8 S8 H8=>?_));replace H8:Holds w8 (blk rb tRq [nv 1,nv f.jb,S_ f.da,S_ [],iv 0,iv 0,iv 0]::blk ob tAc zAct::blk fb tFr (cellsF f)::blk cb tCo [.slice oa ts.length (ts.length+q),nv i,m]::RW cellsT 5 tT (.slice oa ts.length (ts.length+q)) ts::L):=H8;refine r_bd (v:=.agg (actL i).toArray) (by kernel_rfl) ?_;refine r_stA 1 H8 (vs:=actL i) rfl (Nat.le_refl 8) rfl rfl λw9 S9 H9=>?_;refine r_ldA 1 H9 (actL i) rfl rfl rfl ?_;exact k1 hlg i w9 hi (S'.trans (S6.trans (S7.trans (S8.trans S9)))) H9.drop.drop.drop
  ·refine Zal (Zak (r_neq (r_vtN (by decide) ?_)));exact no 30 rb _ w7 (.inr hno) (S'.trans (S6.trans S7)) H7
 ·refine Zal (Zak ?_);refine r_new H3 λrb w4 S4 H4=>?_;rw[Zft] at H4;refine r_stA 0 H4 (vs:=[a,b,c,d,e,g,h]) rfl (Nat.le_refl 7) rfl hsg λw5 S5 H5=>?_;replace H5:Holds w5 (blk rb tRq [a,b,c,d,e,g,h]::blk ob tAc zAct::blk fb tFr (cellsF f)::blk cb tCo [v,iv (-1),m]::RW cellsT 5 tT v ts::L):=H5;have S':=S.trans (S3.trans (S4.trans S5));refine Za4 (λx w'=>w5=w'/\x=.bool true) ?_ ?_
  rotate_left
  ·refine r_neq (r_ifN (λ_=>r_ke ⟨rfl,rfl⟩) λh0=>?_);rcases hr with hr|⟨t,rfl,ht⟩
   ·exact absurd h0 hr
   ·refine r_fo0 (r_ld 0 H5 rfl rfl (r_neq (r_ke ⟨rfl,congrArg Value.bool ?_⟩)));rw[bne_iff_ne];omega
  rintro _ _ _ ⟨rfl,rfl⟩;exact r_vt (no 30 rb _ w5 (.inl hlg) S' H5)
theorem Zkb {z:Bool}(H:Holds w (blk cb tCo [v,iv (-1),m]::RW cellsT 5 tT v ts::L)) (hU:J33.TabZ z L) (hA:J33.Asc z f.da) (h1:f.jb<=4294967295) (h2:f.da.length<=65536) (hl:ts.length<=1000) (hs:∀ t∈ts,szT t)
  (k1:logs f->∀ i w',First ts f.da i->Same w w'->Holds w' (blk cb tCo [v,nv i,m]::RW cellsT 5 tT v ts::L)->K (.tuple #[.agg (actL i).toArray,iv 0]) w')
  (k2:¬ logs f\/Nobody ts f.da->∀ e w',Same w w'->Holds w' (blk cb tCo [v,iv (-1),m]::RW cellsT 5 tT v ts::L)->K (.tuple #[.agg (actR f.jb e).toArray,iv 0]) w') :
  Cl prog 87 #[pt cb,.agg (cellsF f).toArray] w K:=by
 refine Tz87 ?_;unfold Vz87;refine r_new H λfb w1 S1 H1=>?_;replace H1:Holds w1 (blk fb tFr (cellsF f)::blk cb tCo [v,iv (-1),m]::RW cellsT 5 tT v ts::L):=H1;refine r_new H1 λob w2 S2 H2=>?_;rw[Zd6] at H2;refine Zko (r_vf (r_nc (r_fo0 (r_ld 2 H2 rfl rfl (r_eql (r_vtE rfl ?_))))));refine r_ldA 1 H2 (cellsF f) rfl rfl rfl ?_
 have H3:Holds w2 (blk cb tCo [v,iv (-1),m]::RW cellsT 5 tT v ts::blk ob tAc zAct::blk fb tFr (cellsF f)::L):=by have h_:=Holds.ord 4 [2,3,0,1] H2 rfl;exact h_
 refine Zje H3 hU.up.up hA h1 h2 hl hs (λhlg i w3 hi S3 H4=>?_) λhno e w3 S3 H4=>?_
 ·refine r_stA 2 H4 (vs:=actL i) rfl (Nat.le_refl 8) rfl rfl λw4 S4 H5=>?_;refine r_ldA 2 H5 (actL i) rfl rfl rfl ?_;exact k1 hlg i w4 hi (S1.trans (S2.trans (S3.trans S4))) (Holds.dropAt (Holds.dropAt H5 2) 2)
 ·refine r_stA 2 H4 (vs:=actR f.jb e) rfl (Nat.le_refl 8) rfl rfl λw4 S4 H5=>?_;refine r_ldA 2 H5 (actR f.jb e) rfl rfl rfl ?_;exact k2 hno e w4 (S1.trans (S2.trans (S3.trans S4))) (Holds.dropAt (Holds.dropAt H5 2) 2)
end F33
end Go.Proofs.YthhkodlnfogkgaaGreatDoor
namespace Go.Proofs.YthhkodlnfogkgaaGreatDoor
open Go Go.Vc Go.Proofs.Tryz
section
variable {P:Program}{w:World}{M Lr:List HProp}
theorem r_yd {l:Nat}{x:Value}{K:KT}(h:YdTo P l x w λb w'=>K (.bool b) w'):InvR P (do let d <-Deferred.ofValue (yv l) #[x];invoke d.target d.args) w K:=by
 obtain⟨fn,tmps,assign,body,h1,h2⟩:=h;refine .inr ⟨l,fn,tmps,assign,body,?_,h2.mono ?_⟩
 ·rw[<-h1];rfl
 ·rintro e w' ⟨b,rfl,h⟩;exact⟨_,rfl,h⟩
theorem Zca {i:Nat}{Q:HProp}(hi:Lr[i]?=some Q):(M++Lr)[M.length+i]?=some Q:=by
 rw[gT (by omega),show M.length+i - M.length=i by omega];exact hi
theorem Zhf (i:Nat) (Q:HProp):(M++Lr).set (M.length+i) Q=M++Lr.set i Q:=by
 rw[List.set_append_right _ _ (by omega),show M.length+i - M.length=i by omega]
theorem Holds.putR (i:Nat){b:Nat}{o:Obj}(o':Obj) (H:Holds w (M++Lr)) (hi:Lr[i]?=some (blkO b o)):Holds (w.putObj b o') (M++Lr.set i (blkO b o')):=by
 have h1:=Zca (M:=M) hi;have ho:=H.obj _ h1;have:=H.upd (w':=w.putObj b o') (M.length+i) h1 (o':=o') (World.putObj_heap_same (Array.getElem?_eq_some_iff.1 ho).1) λc hc=>World.putObj_heap_other hc
 rwa [Zhf] at this
theorem Zmm {f:FuncId}{args:Array Value}{K:KT}(h:Cl P f args w K):Calls P f args w λe w'=>∃ v,e=.returned v/\K v w':=h.2
theorem Zcv {b:Nat}{o:Obj}:Same w (w.putObj b o):=⟨rfl,rfl,rfl,by simp⟩
end
attribute [local irreducible] Vc.Nc Vc.Ld Vc.LdA Vc.St Vc.StA Vc.Fo Vc.Iaa Vc.Ias Vc.Ixs Vc.Ixa Vc.Fd Vc.FdA Vc.Bp Vc.Bb Vc.Bn Vc.Up Vc.Ci Vc.Lns Vc.Lnl Vc.Ex Vc.Sst Vc.Ssl Vc.New Vc.Vif Vc.VJoin Vc.VLoop Vc.KE Vc.Dr Vc.Rk Vc.Cl Vc.Cx Vc.Inv Vc.Be Vc.Cv Vc.Cw Vc.Mf Vc.Sl Vc.Lk Vc.Bd Vc.Bs Vc.Ms Vc.Mm Vc.Mu Vc.Me Vc.Es Vc.Rg Vc.Nx Vc.Ta Vc.Ap Vc.Usd Vc.Ust Vc.Cp Vc.Ln Vc.Bc Vc.Bmin Vc.Bmax Vc.Bdel Vc.Bclr Vc.Pk
namespace F33
open Go.M31 J30 J31 J32
variable {w:World}{L:List HProp}{K:KT}{ts:List Tn}
inductive TnR (ts:List Tn):List UInt8->Option Nat->Prop
 |stop {B:List UInt8} {e:Nat} (h:dec B=.no e):TnR ts B none
 |hit {B:List UInt8} {f:Fr} {n i:Nat} (h:dec B=.ok f n) (hl:logs f) (hi:First ts f.da i):TnR ts B (some i)
 |go {B:List UInt8} {f:Fr} {n:Nat} {r:Option Nat} (h:dec B=.ok f n) (hn:¬ logs f\/Nobody ts f.da) (t:TnR ts (B.drop n) r):TnR ts B r
abbrev tSt:Nat:=9
theorem Zo4 {s:List UInt8}{f:Fr}{n:Nat}(h:dec s=.ok f n):∀ b∈f.da,b∈s:=by
 unfold dec at h;split at h
 ·cases h
 split at h
 ·cases h
 split at h
 ·cases h
 split at h
 ·cases h
 split at h
 ·cases h
 ·cases h;intro b hb;exact mem_of_mem_take (mem_of_mem_drop hb)
theorem Zjb {z:Bool}{l cb2 sb2:Nat}{Lr:List HProp}{Lx:Nat->List HProp}{a:Option Addr}{c:Nat}{n:Cn}{s:List UInt8}
  (H:Holds w (blk cb2 tC (cellsC a ts.length c n)::blk sb2 tSt [S_ s]::Lr)) (hT:TsIn Lr a ts) (hU:J33.TabZ z Lr) (hA:∀ t∈ts,J33.AscT z t) (hAs:J33.Asc z s) (hs:∀ t∈ts,szT t) (hc:ts.length<=c) (hok:goodTs ts) (hl:s.length<=65536)
  (y1:∀ (jb:Nat) (e:Int) (M:List HProp) (W:World) (R:Bool->World->Prop),Holds W (M++Lr)->(∀ W',Same W W'->Holds W' (M++Lr)->R true W')->YdTo prog l (.agg (actR jb e).toArray) W R)
  (y2:∀ (i:Nat) (M:List HProp) (W:World) (R:Bool->World->Prop),Holds W (M++Lr)->(∀ W',Same W W'->Holds W' (M++Lx i)->R false W')->YdTo prog l (.agg (actL i).toArray) W R)
  (k:∀ r w',TnR ts s r->Same w w'->Holds w' (match r with|none=>Lr|some i=>Lx i)->K (.tuple #[]) w') :
  Cl prog 82 #[yv l,pt cb2,pt sb2] w K:=by
 refine Tz82 ?_;unfold Vz82;have hlen:=hok.2.2;refine r_fo0 (r_ld 0 H rfl rfl ?_);refine Zl2 H hT.up.up hU.up.up hA hs hc hok λcb v m w1 S1 H1=>?_;refine Zal (Zak ?_);refine Zkf H1 λp w2 S2 H2=>?_;refine Zal (Zak ?_)
 refine Zor (λj y w'=>∃ (q:Nat) (Bp:List UInt8),j=(Bp++s.drop q).length/\q<=s.length/\Bp.length+(s.drop q).length<=65536/\y=nv q/\((∀ r,TnR ts (Bp++s.drop q) r->TnR ts s r)/\∀ b∈Bp++s.drop q,b∈s)/\Same w w'/\
   Holds w' (blk p tPa (paC Bp 0)::blk cb tCo [v,iv (-1),m]::RW cellsT 5 tT v ts::blk cb2 tC (cellsC a ts.length c n)::blk sb2 tSt [S_ s]::Lr)) s.length
  ⟨0,[],rfl,Nat.zero_le _,by simpa using hl,rfl,⟨λr h=>h,λb h=>by simpa using h⟩,S1.trans S2,H2⟩ ?_
 clear H H1 H2 S1 S2;rintro _ j _ w3 _ ⟨q,Bp,rfl,hq,hsum,rfl,⟨hre,hsub⟩,S3,H3⟩ hgo;refine r_ld 4 H3 rfl rfl (q_D hq ?_);refine Zlk H3 (by omega) λw4 S4 H4=>?_;rw[gS] at hsum ⊢;refine Zae (a:=q) (b:=s.length - q) (by omega) ?_
 have hB:(Bp++s.drop q).length<=65536:=by rw[gD,gS];omega
 generalize hBq:Bp++s.drop q=B at *;refine Zk0 H4 (by omega) λw5 S5 H5=>?_;have S:=S3.trans (S4.trans S5);clear S3 S4 S5 H3 H4
 cases hd:dec B with
 |no e=>
  rw[hd] at H5;have stop:=hre none (.stop hd)
  by_cases h3:e=3
  ·subst h3;refine Zda (Ze2 (Ze0 ?_));refine r_new H5 λfb w6 S6 H6=>?_;rw[Zap] at H6;refine r_stA 0 H6 (vs:=cellsF fr0) rfl (Nat.le_refl 3) rfl rfl λw7 S7 H7=>?_;refine r_neq (r_vfN rfl (r_not (r_vt ?_)));exact k none w7 stop (S.trans (S6.trans S7)) H7.drop.drop.drop.drop.drop.drop
  ·simp only[nextV];rw[if_neg h3];have he:=Zig hd;refine Zda (Ze2 (Ze0 ?_));refine r_new H5 λfb w6 S6 H6=>?_;rw[Zap] at H6;refine r_stA 0 H6 (vs:=cellsF fr0) rfl (Nat.le_refl 3) rfl rfl λw7 S7 H7=>?_;refine r_neq (r_vtN (by omega) ?_);refine r_bd (v:=.agg (actR 0 e).toArray) (by kernel_rfl) ?_;refine r_yd (y1 0 e [_,_,_,_,_,_] w7 _ H7 λw8 S8 H8=>?_);exact k none w8 stop (S.trans (S6.trans (S7.trans S8))) (Holds.drop (Holds.drop (Holds.drop (Holds.drop (Holds.drop (Holds.drop H8))))))
 |ok f nn=>
  rw[hd] at H5;obtain⟨g1,g2,g3,g4,g5⟩:=Zn4 hd;refine Zda (Ze2 (Ze0 ?_));refine r_new H5 λfb w6 S6 H6=>?_;rw[Zap] at H6;refine r_stA 0 H6 (vs:=cellsF f) rfl (Nat.le_refl 3) rfl rfl λw7 S7 H7=>?_;replace H7:Holds w7 (blk fb tFr (cellsF f)::blk p tPa (paC (B.drop nn) 0)::blk cb tCo [v,iv (-1),m]::RW cellsT 5 tT v ts::blk cb2 tC (cellsC a ts.length c n)::blk sb2 tSt [S_ s]::Lr):=H7;refine r_neq (r_vfN rfl (r_not (r_vf ?_)));refine r_ldA 0 H7 (cellsF f) rfl rfl rfl ?_
  have H8:Holds w7 (blk cb tCo [v,iv (-1),m]::RW cellsT 5 tT v ts::blk fb tFr (cellsF f)::blk p tPa (paC (B.drop nn) 0)::blk cb2 tC (cellsC a ts.length c n)::blk sb2 tSt [S_ s]::Lr):=by have h_:=Holds.ord 4 [2,3,0,1] H7 rfl;exact h_
  refine Zkb H8 hU.up.up.up.up (λhz b hb=>hAs hz b (hsub b (Zo4 hd b hb))) g4 g5 (by omega) hs (λhlg i w8 hi S8 H9=>?_) λhno e w8 S8 H9=>?_
  ·refine Zal (Zak ?_);refine r_new H9 λab w9 S9 Ha=>?_;rw[Zd6] at Ha;refine r_stA 0 Ha (vs:=actL i) rfl (Nat.le_refl 8) rfl rfl λwa Sa Hb=>?_;refine r_ldA 0 Hb (actL i) rfl rfl rfl ?_;refine r_yd (y2 i [_,_,_,_,_,_,_] wa _ Hb λwb Sb Hc=>?_);refine r_not (r_vt ?_);exact k (some i) wb (hre _ (.hit hd hlg hi)) (S.trans (S6.trans (S7.trans (S8.trans (S9.trans (Sa.trans Sb)))))) (Holds.drop (Holds.drop (Holds.drop (Holds.drop (Holds.drop (Holds.drop (Holds.drop Hc)))))))
  ·refine Zal (Zak ?_);refine r_new H9 λab w9 S9 Ha=>?_;rw[Zd6] at Ha;refine r_stA 0 Ha (vs:=actR f.jb e) rfl (Nat.le_refl 8) rfl rfl λwa Sa Hb=>?_;refine r_ldA 0 Hb (actR f.jb e) rfl rfl rfl ?_;refine r_yd (y1 f.jb e [_,_,_,_,_,_,_] wa _ Hb λwb Sb Hc=>?_);refine r_not (r_vf ⟨rfl,r_ke ?_⟩);have hds:s.drop (q+(s.length - q))=[]:=drop_of_length_le (by omega);have hdl:(B.drop nn).length=B.length - nn:=gS;refine hgo ((B.drop nn)++s.drop (q+(s.length - q))).length _ _ (by rw[hds,gU];omega) ⟨q+(s.length - q),B.drop nn,rfl,by omega,by rw[hds];simp;omega,rfl,⟨λr hr=>hre r (.go hd hno (by rw[hds,gU] at hr;exact hr)),λb hb=>hsub b (mem_of_mem_drop (by rw[hds,gU] at hb;exact hb))⟩,S.trans (S6.trans (S7.trans (S8.trans (S9.trans (Sa.trans Sb))))),?_⟩;have Hd:=Holds.dropAt (Holds.dropAt Hc 3) 0;have h_:=Holds.ord 3 [2,0,1] Hd rfl;exact h_
end F33
namespace A46
open S4r P46 O46
variable {w:World}{L:List HProp}{K:KT}
theorem Zg1:(zeroP prog tRV).cells.toList=cellsV none 0 0 none 0 0:=by kernel_rfl
theorem Zee:(zeroP prog tVi).cells.toList=cellsV none 0 0 none 0 0:=by kernel_rfl
theorem Find_spec {a:Option Addr}{xs:List En}{c:Nat}{id:Int}(hn:xs.length<=1000) (H:Holds w L) (hT:EnIn L a xs)
  (k:∀ w',Same w w'->Holds w' L->K (.agg (cellsEn ((findE xs id).getD En1)).toArray) w'):Cl prog 19 #[.slice a xs.length c,iv id] w K:=by
 refine Tz19 ?_;unfold Vz19;refine r_new H λob w1 S1 H1=>?_;rw[Zek] at H1;refine r_lnl ?_
 refine Zfr (λj y w'=>∃ q:Nat,j=xs.length - q/\q<=xs.length/\y=nv q/\(∀ (r:Nat) z,r < q->xs[r]?=some z->z.id≠id)/\Same w w'/\Holds w' (blk ob tRE (cellsEn En0)::L)) xs.length
  ⟨0,rfl,Nat.zero_le _,rfl,λr z h=>absurd h (Nat.not_lt_zero _),S1,H1⟩ ?_
 clear H H1 S1;rintro _ j _ w2 _ ⟨q,rfl,hq,rfl,hno,S,H⟩ hgo;refine r_lss (r_ifD (λh=>?_) λh=>?_)
 ·have hlt:q < xs.length:=by omega
  have hx:xs[q]?=some xs[q]:=gA hlt;generalize xs[q]=x at hx;refine r_ldG hT.up H hx rfl hlt ?_;refine r_new H λeb w3 S3 H3=>?_;rw[Zek] at H3;refine r_stA 0 H3 (vs:=cellsEn x) rfl (Nat.le_refl 4) rfl rfl λw4 S4 H4=>?_;replace H4:Holds w4 (blk eb tRE (cellsEn x)::blk ob tRE (cellsEn En0)::L):=H4;refine r_fo0 (r_ld 0 H4 rfl rfl ?_);refine r_eql (r_ifE (λhe=>?_) λhe=>?_)
  ·refine r_ldA 0 H4 (cellsEn x) rfl rfl rfl ?_;refine r_stA 1 H4 (vs:=cellsEn x) rfl (Nat.le_refl 4) rfl rfl λw5 S5 H5=>?_;refine r_ldA 1 H5 (cellsEn x) rfl rfl rfl ?_;have:=k w5 (S.trans (S3.trans (S4.trans S5))) H5.drop.drop;rw[Zfh hx he hno] at this;exact this
  ·refine Za2 (by omega) (r_ke (hgo (xs.length - (q+1)) _ _ (by omega) ⟨q+1,rfl,by omega,rfl,λr z hr hz=>?_,S.trans (S3.trans S4),H4.drop⟩))
   by_cases hrq:r < q
   ·exact hno r z hrq hz
   ·obtain rfl:r=q:=by omega
    rw[hx] at hz;obtain rfl:=Option.some.inj hz;exact he
 ·obtain rfl:q=xs.length:=by omega
  refine r_bd (v:=.agg (cellsEn En1).toArray) (by kernel_rfl) ?_;refine r_stA 0 H (vs:=cellsEn En1) rfl (Nat.le_refl 4) rfl rfl λw5 S5 H5=>?_;refine r_ldA 0 H5 (cellsEn En1) rfl rfl rfl ?_;have:=k w5 (S.trans S5) H5.drop;rw[Zeu λr z hz=>hno r z (gH.1 hz).1 hz] at this;exact this
theorem Zif {a b:Option Addr}{xs:List En}{rs:List An}{c d:Nat}(hx:xs.length<=1000) (hr:rs.length<=1000) (H:Holds w L) (h1:EnIn L a xs) (h2:AnIn L b rs)
  (k:∀ u v w',Same w w'->Holds w' (RW cellsEn 4 tRE u xs::RW cellsAn 4 tRA v rs::L)->K (.agg #[u,v]) w') :
  Cl prog 8 #[.agg (cellsV a xs.length c b rs.length d).toArray] w K:=by
 refine Tz8 ?_;unfold Vz8;refine r_new H λvb w1 S1 H1=>?_;replace H1:Holds w1 (blk vb tVi (cellsV a xs.length c b rs.length d)::L):=H1;refine r_new H1 λrb w2 S2 H2=>?_;rw[Zg1] at H2;refine r_bd (v:=.agg (cellsV none 0 0 none 0 0).toArray) (by kernel_rfl) ?_;refine r_new H2 λob w3 S3 H3=>?_;rw[Zg1] at H3;refine r_stA 0 H3 (vs:=cellsV none 0 0 none 0 0) rfl (Nat.le_refl 2) rfl rfl λw4 S4 H4=>?_;have H5:=(H4.nilRW cellsAn 4 tRA).nilRW cellsEn 4 tRE;replace H5:Holds w4 (RW cellsEn 4 tRE (.slice none 0 0) []::RW cellsAn 4 tRA (.slice none 0 0) []::blk ob tRV [.slice none 0 0,.slice none 0 0]::blk rb tRV (cellsV none 0 0 none 0 0)::blk vb tVi (cellsV a xs.length c b rs.length d)::L):=H5;have S:=S1.trans (S2.trans (S3.trans S4));clear S1 S2 S3 S4 H H1 H2 H3 H4;refine r_fo0 (r_ld 4 H5 rfl rfl (r_lnl ?_))
 refine Zfr (λj y w'=>∃ (q:Nat) (u:Value),j=xs.length - q/\q<=xs.length/\y=nv q/\Same w w'/\Holds w' (RW cellsEn 4 tRE u (xs.take q)::RW cellsAn 4 tRA (.slice none 0 0) []::blk ob tRV [u,.slice none 0 0]::blk rb tRV (cellsV none 0 0 none 0 0)::blk vb tVi (cellsV a xs.length c b rs.length d)::L)) xs.length
  ⟨0,.slice none 0 0,rfl,Nat.zero_le _,rfl,S,H5⟩ ?_
 clear H5 S;rintro _ j _ w5 _ ⟨q,u,rfl,hq,rfl,S,H⟩ hgo;refine r_lss (r_ifD (λh=>?_) λh=>?_)
 ·have hlt:q < xs.length:=by omega
  have hx1:xs[q]?=some xs[q]:=gA hlt
  have htk:xs.take (q+1)=xs.take q++[xs[q]]:=by rw[gO,hx1];rfl
  generalize xs[q]=x at hx1 htk;refine r_ldG h1.up.up.up.up.up H hx1 rfl hlt ?_;refine r_new H λeb w6 S6 H6=>?_;rw[Zi4] at H6;refine r_stA 0 H6 (vs:=cellsEn x) rfl (Nat.le_refl 4) rfl rfl λw7 S7 H7=>?_;replace H7:Holds w7 (blk eb tEn (cellsEn x)::RW cellsEn 4 tRE u (xs.take q)::RW cellsAn 4 tRA (.slice none 0 0) []::blk ob tRV [u,.slice none 0 0]::blk rb tRV (cellsV none 0 0 none 0 0)::blk vb tVi (cellsV a xs.length c b rs.length d)::L):=H7;refine r_fo0 (r_ld 3 H7 rfl rfl ?_);refine r_fo0 (r_ld 0 H7 rfl rfl ?_);refine r_fo0 (r_ld 0 H7 rfl rfl ?_);refine r_fo0 (r_ld 0 H7 rfl rfl ?_);refine r_fo0 (r_ld 0 H7 rfl rfl ?_);refine r_bd (v:=.agg (cellsEn x).toArray) (by kernel_rfl) ?_;refine Zbv H7 1 x rfl (by kernel_rfl) (λy=>rfl) en_sg (by rw[gN];omega) (by decide) λu' w8 S8 H8=>?_;replace H8:Holds w8 (blk eb tEn (cellsEn x)::RW cellsEn 4 tRE u' (xs.take q++[x])::RW cellsAn 4 tRA (.slice none 0 0) []::blk ob tRV [u,.slice none 0 0]::blk rb tRV (cellsV none 0 0 none 0 0)::blk vb tVi (cellsV a xs.length c b rs.length d)::L):=H8;obtain⟨oa,m,sp,rfl,_⟩:=H8.openRW 1 rfl;refine r_fo0 ?_;refine r_st 3 H8 rfl (by simp) rfl λw9 S9 H9=>?_;refine Za2 (by omega) (r_ke (hgo (xs.length - (q+1)) _ _ (by omega) ⟨q+1,.slice oa (xs.take q++[x]).length ((xs.take q++[x]).length+m),rfl,by omega,rfl,S.trans (S6.trans (S7.trans (S8.trans S9))),?_⟩));rw[htk];exact H9.drop
 ·obtain rfl:q=xs.length:=by omega
  rw[hF_] at H;clear hgo;refine r_fo0 (r_ld 4 H rfl rfl (r_lnl ?_))
  refine Zfr (λj y w'=>∃ (q:Nat) (v:Value),j=rs.length - q/\q<=rs.length/\y=nv q/\Same w w'/\Holds w' (RW cellsEn 4 tRE u xs::RW cellsAn 4 tRA v (rs.take q)::blk ob tRV [u,v]::blk rb tRV (cellsV none 0 0 none 0 0)::blk vb tVi (cellsV a xs.length c b rs.length d)::L)) rs.length
   ⟨0,.slice none 0 0,rfl,Nat.zero_le _,rfl,S,H⟩ ?_
  clear H S;rintro _ j _ w5 _ ⟨q,v,rfl,hq,rfl,S,H⟩ hgo;refine r_lss (r_ifD (λh=>?_) λh=>?_)
  ·have hlt:q < rs.length:=by omega
   have hx1:rs[q]?=some rs[q]:=gA hlt
   have htk:rs.take (q+1)=rs.take q++[rs[q]]:=by rw[gO,hx1];rfl
   generalize rs[q]=x at hx1 htk;refine r_ldG h2.up.up.up.up.up H hx1 rfl hlt ?_;refine r_new H λeb w6 S6 H6=>?_;rw[Zd8] at H6;refine r_stA 0 H6 (vs:=cellsAn x) rfl (Nat.le_refl 4) rfl rfl λw7 S7 H7=>?_;replace H7:Holds w7 (blk eb tAn (cellsAn x)::RW cellsEn 4 tRE u xs::RW cellsAn 4 tRA v (rs.take q)::blk ob tRV [u,v]::blk rb tRV (cellsV none 0 0 none 0 0)::blk vb tVi (cellsV a xs.length c b rs.length d)::L):=H7;refine r_fo0 (r_ld 3 H7 rfl rfl ?_);refine r_fo0 (r_ld 0 H7 rfl rfl ?_);refine r_fo0 (r_ld 0 H7 rfl rfl ?_);refine r_fo0 (r_ld 0 H7 rfl rfl ?_);refine r_fo0 (r_ld 0 H7 rfl rfl ?_);refine r_bd (v:=.agg (cellsAn x).toArray) (by kernel_rfl) ?_;refine Zbv H7 2 x rfl (by kernel_rfl) (λy=>rfl) an_sg (by rw[gN];omega) (by decide) λv' w8 S8 H8=>?_;replace H8:Holds w8 (blk eb tAn (cellsAn x)::RW cellsEn 4 tRE u xs::RW cellsAn 4 tRA v' (rs.take q++[x])::blk ob tRV [u,v]::blk rb tRV (cellsV none 0 0 none 0 0)::blk vb tVi (cellsV a xs.length c b rs.length d)::L):=H8;obtain⟨oa,m,sp,rfl,_⟩:=H8.openRW 2 rfl;refine r_fo0 ?_;refine r_st 3 H8 rfl (by simp) rfl λw9 S9 H9=>?_;refine Za2 (by omega) (r_ke (hgo (rs.length - (q+1)) _ _ (by omega) ⟨q+1,.slice oa (rs.take q++[x]).length ((rs.take q++[x]).length+m),rfl,by omega,rfl,S.trans (S6.trans (S7.trans (S8.trans S9))),?_⟩));rw[htk];exact H9.drop
  ·obtain rfl:q=rs.length:=by omega
   rw[hF_] at H;obtain⟨oa,m,sp,rfl,_⟩:=H.openRW 0 rfl;obtain⟨oa2,m2,sp2,rfl,_⟩:=H.openRW 1 rfl;refine r_ldA 2 H [.slice oa xs.length (xs.length+m),.slice oa2 rs.length (rs.length+m2)] rfl rfl rfl ?_;refine r_stA 3 H (vs:=[.slice oa xs.length (xs.length+m),.slice oa2 rs.length (rs.length+m2)]) rfl (Nat.le_refl 2) rfl rfl λw6 S6 H6=>?_;refine r_ldA 3 H6 [.slice oa xs.length (xs.length+m),.slice oa2 rs.length (rs.length+m2)] rfl rfl rfl ?_;exact k _ _ _ (S.trans S6) (Holds.dropAt (Holds.dropAt (Holds.dropAt H6 2) 2) 2)
end A46
namespace S46
open Go.Mh Go.Ms P46 O46 A46
variable {w:World}{L:List HProp}{K:KT}{v f:Value}{W:List Nat}{E:List En}
def e0:En:=⟨0,false,⟨#[]⟩,0⟩
def cE (E:List En) (i:Nat):List Value:=cellsEn (E.getD i e0)
def vE (E:List En) (i:Nat):Value:=.agg (cE E i).toArray
def RE (E:List En) (v:Value) (D:List Nat):HProp:=RW (cE E) 4 tEn v D
theorem g_len (i:Nat) (H:Holds w L){D:List Nat}{K:Value->Prop}(hi:L[i]?=some (RE E v D)) (h:K (nv D.length)):Lnl v K:=by
 obtain⟨oa,m,sp,rfl,_⟩:=H.openRW (F:=cE E) (k:=4) (e:=tEn) i hi;exact r_lnl h
theorem g_get (i:Nat) (H:Holds w L){D:List Nat}{k:IntKind}{j x:Nat}{K:Value->Prop}(hi:L[i]?=some (RE E v D)) (hx:D[j]?=some x) (h:K (vE E x)):Ias 4 v (.int k (j:Int)) λp=>LdA 4 p w K:=by
 obtain⟨oa,m,sp,rfl,_⟩:=H.openRW (F:=cE E) (k:=4) (e:=tEn) i hi;have hin:S4r.InG (cE E) 4 L oa D:=S4r.InG.own (e:=tEn) i hi λ_=>rfl;exact S4r.r_ldG hin H hx rfl (gH.1 hx).1 h
theorem Zjx {α:Type}{F:α->List Value}{k:Nat}(hF:∀ x,(F x).length=k):∀ (xs:List α) (j:Nat) (x:α) (sp:List Value),j < xs.length->setL (flatL F xs++sp) (j*k) (F x)=flatL F (xs.set j x)++sp:=by
 intro xs j x sp hj;have hl:(flatL F xs).length=xs.length*k:=Zbz hF xs
 have hjk:j*k+k<=xs.length*k:=by rw[<-Nat.succ_mul];exact Nat.mul_le_mul_right _ hj
 rw[Zf7 _ _ _ (by rw[gD,hl,hF];omega),hF]
 have key:∀ (xs:List α) (j:Nat),j < xs.length->(flatL F xs++sp).take (j*k)++F x++(flatL F xs++sp).drop (j*k+k)=flatL F (xs.set j x)++sp:=by
  intro xs
  induction xs with
  |nil=>intro j hj;exact absurd hj (Nat.not_lt_zero _)
  |cons y r ih=>
   intro j hj
   cases j with
   |zero=>
    rw[Nat.zero_mul,List.take_zero,hO_,Nat.zero_add,List.set_cons_zero,flatL,flatL,gI (F y),List.drop_append_of_le_length (by rw[hF];exact Nat.le_refl _),drop_of_length_le (by rw[hF];exact Nat.le_refl _),hO_,gI (F x)]
   |succ j=>
    have:=ih j (by simpa using hj);rw[List.set_cons_succ,flatL,flatL,gI (F y),gI (F y),<-this,show (j+1)*k=k+j*k by rw[Nat.add_mul];omega];rw[List.take_append,hF,gK (by rw[hF];omega),show k+j*k - k=j*k by omega,show k+j*k+k=k+(j*k+k) by omega,List.drop_append,hF,drop_of_length_le (by rw[hF];omega),hO_,show k+(j*k+k) - k=j*k+k by omega];simp only[gI]
 exact key xs j hj
theorem g_set (i:Nat) (H:Holds w L){D:List Nat}{k:IntKind}{j:Nat}(x:Nat){K:World->Prop}(hi:L[i]?=some (RE E v D)) (hj:j < D.length) (hs:sg (.bool true)=true)
  (h:∀ w',Same w w'->Holds w' (L.set i (RE E v (D.set j x)))->K w'):Ias 4 v (.int k (j:Int)) λp=>StA 4 p (vE E x) w K:=by
 obtain⟨oa,m,sp,rfl,H1⟩:=H.openRW (F:=cE E) (k:=4) (e:=tEn) i hi;obtain⟨b,rfl,hsp,H2⟩:=H1.rwb i (Za7 hi) (.inl (by omega));rw[set_set] at H2;have hl:(flatL (cE E) D).length=D.length*4:=Zbz (F:=cE E) (k:=4) (λ_=>rfl) D;refine Zq3 hj ?_;refine r_stA i H2 (vs:=cE E x) (Za7 hi) (by rw[gD,hl];omega) rfl rfl λw' S' H'=>h w' S' ?_;rw[set_set,Zjx (F:=cE E) (k:=4) (λ_=>rfl) D j x sp hj] at H';have H3:=H'.at i (Za7 hi) (Q:=RE E (.slice (some ⟨b,0,none⟩) D.length (D.length+m)) (D.set j x)) λg hg=>⟨some ⟨b,0,none⟩,m,sp,by rw[length_set],rfl,rfl,hsp,hg⟩;rw[set_set] at H3;exact H3
theorem Zav {a b:Nat}{K:Value->Prop}(h1:b<=a) (h2:a<=1000000000000) (h:K (.int .i64 ((a - b:Nat):Int))):Bp .sub (.int .i64 (a:Int)) (.int .i64 (b:Int)) K:=
 r_sub (by omega) (by omega) (by rw[show (a:Int) - (b:Int)=((a - b:Nat):Int) by omega];exact h)
theorem Zbf {A U M V B:List Nat}{a b n:Nat}(H:Holds w (RE E v (A++(U++(M++(V++B))))::L)) (ha:A.length=a) (hu:U.length=n) (hm:a+n+M.length=b) (hv:V.length=n) (hb:b+n<=1000000000)
  (k:∀ w',Same w w'->Holds w' (RE E v (A++(V++(M++(U++B))))::L)->K (.tuple #[]) w'):Cl prog 143 #[v,nv a,nv b,nv n,f] w K:=by
 refine Tz143 ?_;unfold Vz143
 refine Zad (λx w'=>∃ i:Nat,i<=n/\x=nv i/\Same w w'/\Holds w' (RE E v (A++(V.take i++(U.drop i++(M++(U.take i++(V.drop i++B))))))::L)) (λx _=>n - (intOf x).toNat)
  ⟨0,Nat.zero_le _,rfl,.refl _,by simpa using H⟩ ?_
 clear H;rintro _ _ w1 ⟨i,hi,rfl,S1,H1⟩;refine r_lss (r_ifD (λh=>?_) λh=>?_)
 rotate_left
 ·obtain rfl:i=n:=by omega
  refine k _ S1 ?_;rw[gK (by omega),drop_of_length_le (by omega),gK (by omega),drop_of_length_le (by omega)] at H1;simpa using H1
 have hU:i < U.length:=by omega
 have hV:i < V.length:=by omega
 rw[Zel hU,Zel hV,show A++(V.take i++(U[i]::U.drop (i+1)++(M++(U.take i++(V[i]::V.drop (i+1)++B)))))=(A++V.take i)++U[i]::((U.drop (i+1)++(M++U.take i))++V[i]::(V.drop (i+1)++B)) by simp only[gI,cons_append]] at H1;obtain⟨e1,e2,e3,e4,e5⟩:=sw (P:=A++V.take i) (Q:=U.drop (i+1)++(M++U.take i)) (R:=V.drop (i+1)++B) (x:=U[i]) (y:=V[i]) (p:=a+i) (q:=b+i) (by simp;omega) (by simp;omega);refine r_dr H1 λw2 S2 H2=>?_;refine Zae (by omega) (Zae (by omega) (Zae (by omega) ?_));refine g_get 0 H2 rfl e2 ?_;refine Zae (by omega) ?_;refine g_get 0 H2 rfl e1 ?_;refine g_set 0 H2 V[i] rfl e4 rfl λw3 S3 H3=>?_;refine g_set 0 H3 U[i] rfl e5 rfl λw4 S4 H4=>?_;refine Za2 (by omega) ?_;refine r_ke ⟨⟨i+1,by omega,rfl,S1.trans (S2.trans (S3.trans S4)),?_⟩,?_⟩
 ·replace H4:Holds w4 (RE E v (((A++V.take i++U[i]::((U.drop (i+1)++(M++U.take i))++V[i]::(V.drop (i+1)++B))).set (a+i) V[i]).set (b+i) U[i])::L):=H4;rw[e3] at H4;rw[Zdx hU,Zdx hV];simpa only[gI,cons_append,hO_] using H4
 ·simp only[nv,intOf,gC];omega
theorem Zhj {A U V B:List Nat}{a m b:Nat}(H:Holds w (RE E v (A++(U++(V++B)))::L)) (ha:A.length=a) (hm:a+U.length=m) (hb:m+V.length=b) (hU:U≠[]) (hV:V≠[]) (hbb:b<=100000000)
  (k:∀ w',Same w w'->Holds w' (RE E v (A++(V++(U++B)))::L)->K (.tuple #[]) w'):Cl prog 111 #[v,nv a,nv m,nv b,f] w K:=by
 refine Tz111 ?_;unfold Vz111;have hU0:=gZ.2 hU;have hV0:=gZ.2 hV;refine Zav (by omega) (by omega) (Zav (by omega) (by omega) ?_)
 refine Zau (λx y w'=>∃ P U' V' S:List Nat,x=nv U'.length/\y=nv V'.length/\0 < U'.length/\0 < V'.length/\P.length+U'.length=U.length/\V'.length+S.length=V.length/\P++(V'++(U'++S))=V++U/\Same w w'/\
   Holds w' (RE E v (A++(P++(U'++(V'++(S++B)))))::L)) (λx y _=>(intOf x).toNat+(intOf y).toNat)
  ⟨[],U,V,[],by rw[show m - a=U.length by omega],by rw[show b - m=V.length by omega],hU0,hV0,by simp,by simp,by simp,.refl _,by simpa using H⟩ ?_
 clear H;rintro _ _ _ w1 ⟨P,U',V',S,rfl,rfl,h1,h2,h3,h4,h5,S1,H1⟩;refine r_neq (r_ifN (λh=>?_) λh=>?_)
 rotate_left
 ·refine Zav (by omega) (by omega) ?_;refine Zbf (A:=A++P) (U:=U') (M:=[]) (V:=V') (B:=S++B) (by simpa using H1) (by simp;omega) rfl (by simp;omega) (by omega) (by omega) λw2 S2 H2=>?_;refine k _ (S1.trans S2) ?_;rw[show A++(V++(U++B))=A++((V++U)++B) by simp,<-h5];simpa using H2
 refine r_gtr (r_ifD (λhg=>?_) λhg=>?_)
 ·obtain⟨u1,u2,rfl,e1,e2⟩:=Zno (D:=U') (i:=V'.length) (by omega);rw[gD] at *;refine Zav (by omega) (by omega) ?_;refine Zbf (A:=A++P) (U:=u1) (M:=u2) (V:=V') (B:=S++B) (by simpa using H1) (by simp;omega) e1 (by omega) rfl (by omega) λw2 S2 H2=>?_;refine Zav (by omega) (by omega) ?_;refine r_ke ⟨⟨P++V',u2,u1,S,by rw[show u1.length+u2.length - V'.length=u2.length by omega],by rw[e1],by omega,by omega,by rw[gD];omega,by omega,by rw[<-h5];simp,S1.trans S2,by simpa using H2⟩,?_⟩;simp only[nv,intOf,gC];omega
 ·obtain⟨v1,v2,rfl,e1,e2⟩:=Zno (D:=V') (i:=V'.length - U'.length) (by omega);rw[gD] at *;refine Zav (by omega) (by omega) (Zae (by omega) (Zav (by omega) (by omega) ?_));refine Zbf (A:=A++P) (U:=U') (M:=v1) (V:=v2) (B:=S++B) (by simpa using H1) (by simp;omega) rfl (by omega) (by omega) (by omega) λw2 S2 H2=>?_;refine Zav (by omega) (by omega) ?_;refine r_ke ⟨⟨P,v2,v1,U'++S,by rw[show v2.length=U'.length by omega],by rw[show v1.length+v2.length - U'.length=v1.length by omega],by omega,by omega,by omega,by rw[gD];omega,by rw[<-h5];simp,S1.trans S2,by simpa using H2⟩,?_⟩;simp only[nv,intOf,gC];omega
def CmpOk (E:List P46.En) (W:List Nat) (v f:Value) (L:List HProp):Prop:=∀ {D:List Nat}{w:World}{x y:Nat}{Q:KT},Holds w (RE E v D::L)->x < W.length->y < W.length->
 (∀ (z:Int) w',(z < 0↔W.getD x 0 < W.getD y 0)->Same w w'->Holds w' (RE E v D::L)->Q (iv z) w')->Inv prog (do let d <-Deferred.ofValue f #[vE E x,vE E y];invoke d.target d.args) w Q
theorem Zg3 {x y:Nat}(h:y < x):W.getD x 0 < W.getD y 0↔lt W x y:=by unfold lt;omega
theorem Zcn {x y:Nat}(h:y < x) (hn:¬ W.getD x 0 < W.getD y 0):lt W y x:=by unfold lt;omega
theorem Zc7 {A X B:List Nat}{a b:Nat}(hc:CmpOk E W v f L) (H:Holds w (RE E v (A++(X++B))::L)) (ha:A.length=a) (hb:a+X.length=b) (hx:∀ x∈X,x < W.length) (hn:X.Pairwise (· < ·)) (hbb:b<=100000000)
  (k:∀ Z w',Z.Perm X->Srt W Z->Same w w'->Holds w' (RE E v (A++(Z++B))::L)->K (.tuple #[]) w'):Cl prog 78 #[v,nv a,nv b,f] w K:=by
 refine Tz78 ?_;unfold Vz78;refine Za2 (by omega) ?_
 refine Zad (λx w'=>∃ (n:Nat) (Z:List Nat),x=nv (a+1+n)/\n<=X.length/\Z.Perm (X.take (n+1))/\Srt W Z/\Same w w'/\Holds w' (RE E v (A++(Z++(X.drop (n+1)++B)))::L)) (λx _=>b - (intOf x).toNat)
  ⟨0,X.take 1,rfl,Nat.zero_le _,.refl _,by
   cases X with
   |nil=>exact List.Pairwise.nil
   |cons x l=>exact List.pairwise_singleton _ _,.refl _,by rw[<-gI (X.take 1),hN_];exact H⟩ ?_
 clear H;rintro _ _ w1 ⟨n,Z,rfl,hnX,hp,hs,S1,H1⟩;refine r_lss (r_ifD (λh=>?_) λh=>?_)
 rotate_left
 ·rw[gK (by omega)] at hp;rw[drop_of_length_le (by omega)] at H1;exact k Z _ hp hs S1 H1
 have hlt:n+1 < X.length:=by omega
 have hZl:Z.length=n+1:=by rw[hp.length_eq,gN];omega
 have hxW:X[n+1] < W.length:=hx _ (getElem_mem hlt)
 have hZx:∀ z∈Z,z < X[n+1]/\z < W.length:=by
  intro z hz;have:=hp.mem_iff.1 hz;refine⟨?_,hx _ (mem_of_mem_take this)⟩;obtain⟨i,hi,rfl⟩:=getElem_of_mem this;rw[gN] at hi;rw[getElem_take];exact pairwise_iff_getElem.1 hn i (n+1) (by omega) hlt (by omega)
 rw[Zel hlt] at H1
 have hpx:(X.take (n+1+1)).Perm (X[n+1]::Z):=by
  rw[Zdx hlt];exact (List.perm_append_singleton _ _).trans (hp.symm.cons _)
 generalize X[n+1]=x at *;generalize hT:X.drop (n+1+1)=T at *
 refine Zad (λy w'=>∃ Z1 Z2:List Nat,y=nv (a+Z1.length)/\Z=Z1++Z2/\(∀ z∈Z2,lt W x z)/\Same w w'/\Holds w' (RE E v (A++(Z1++(x::(Z2++(T++B)))))::L)) (λy _=>(intOf y).toNat)
  ⟨Z,[],by rw[hZl,show a+1+n=a+(n+1) by omega],by simp,by simp,S1,by simpa using H1⟩ ?_
 clear H1 S1;rintro _ _ w2 ⟨Z1,Z2,rfl,rfl,hZ2,S2,H2⟩;rw[gD] at hZl;refine Za4 (λt w'=>Same w w'/\Holds w' (RE E v (A++(Z1++(x::(Z2++(T++B)))))::L)/\((t=.bool false/\∀ z∈Z1,lt W z x)\/(t=.bool true/\∃ Z1' z,Z1=Z1'++[z]/\lt W x z))) ?_ ?_
 rotate_left
 ·refine r_dr H2 λw3 S3 H3=>?_;refine r_gtr (r_ifD (λh=>?_) λh=>?_)
  ·have hne:Z1≠[]:=λe=>by rw[e,length_nil] at h;omega
   obtain⟨Z1',z,rfl⟩:∃ Z1' z,Z1=Z1'++[z]:=⟨Z1.dropLast,Z1.getLast hne,(List.dropLast_concat_getLast hne).symm⟩;have hz:=hZx z (by simp);rw[gD,gQ] at *
   have e1:(A++(Z1'++[z]++(x::(Z2++(T++B)))))[a+(Z1'.length+1)]?=some x:=by
    rw[show A++(Z1'++[z]++(x::(Z2++(T++B))))=(A++Z1'++[z])++x::(Z2++(T++B)) by simp];exact Zir (by simp;omega)
   have e2:(A++(Z1'++[z]++(x::(Z2++(T++B)))))[a+(Z1'.length+1) - 1]?=some z:=by
    rw[show A++(Z1'++[z]++(x::(Z2++(T++B))))=(A++Z1')++z::(x::(Z2++(T++B))) by simp];exact Zir (by simp;omega)
   refine g_get 0 H3 rfl e1 ?_;refine Zbr (by omega) (by omega) ?_;refine g_get 0 H3 rfl e2 ?_;refine hc H3 hxW hz.2 λc w4 hcc S4 H4=>?_;refine r_lss (r_ke ⟨S2.trans (S3.trans S4),H4,?_⟩)
   by_cases q:c < 0
   ·exact .inr ⟨by rw[decide_eq_true q],Z1',z,rfl,(Zg3 hz.1).1 (hcc.1 q)⟩
   ·refine .inl ⟨by rw[decide_eq_false q],?_⟩;have hl:=Zcn hz.1 λe=>q (hcc.2 e);have h5:=(pairwise_append.1 hs).1;intro u hu;rcases hT_.1 hu with hu|hu
    ·exact Zbq ((pairwise_append.1 h5).2.2 u hu z (by simp)) hl
    ·rw[mem_singleton.1 hu];exact hl
  ·have:Z1=[]:=eq_nil_of_length_eq_zero (by omega);subst this;exact r_ke ⟨S2.trans S3,H3,.inl ⟨rfl,by simp⟩⟩
 rintro _ _ w3 ⟨S3,H3,⟨rfl,hz1⟩|⟨rfl,Z1',z,rfl,hxz⟩⟩
 ·refine r_vf ?_;refine Za2 (by omega) ?_;refine r_ke ⟨⟨n+1,Z1++x::Z2,by rw[show a+1+(n+1)=a+1+n+1 by omega],by omega,?_,Zho hs hz1 hZ2,S3,?_⟩,?_⟩
  ·exact List.perm_middle.trans hpx.symm
  ·rw[hT];simpa using H3
  ·simp only[nv,intOf,gC];omega
 ·refine r_vt ?_;rw[gD,gQ] at *;rw[show A++(Z1'++[z]++(x::(Z2++(T++B))))=(A++Z1')++z::([]++x::(Z2++(T++B))) by simp] at H3;obtain⟨e1,e2,_,_,_⟩:=sw (P:=A++Z1') (Q:=[]) (R:=Z2++(T++B)) (x:=z) (y:=x) (p:=a+(Z1'.length+1) - 1) (q:=a+(Z1'.length+1)) (by simp;omega) (by rw[length_nil];omega);obtain⟨e3,e4,e5⟩:=sw' (P:=A++Z1') (Q:=[]) (R:=Z2++(T++B)) (x:=z) (y:=x) (p:=a+(Z1'.length+1) - 1) (q:=a+(Z1'.length+1)) (by simp;omega) (by rw[length_nil];omega);refine r_dr H3 λw4 S4 H4=>?_;refine Zbr (by omega) (by omega) (Zbr (by omega) (by omega) ?_);refine g_get 0 H4 rfl e1 (g_get 0 H4 rfl e2 ?_);refine g_set 0 H4 z rfl e4 rfl λw5 S5 H5=>?_;refine g_set 0 H5 x rfl e5 rfl λw6 S6 H6=>?_;refine Zbr (by omega) (by omega) ?_;refine r_ke ⟨⟨Z1',z::Z2,by rw[show a+(Z1'.length+1) - 1=a+Z1'.length by omega],by simp,?_,S3.trans (S4.trans (S5.trans S6)),?_⟩,?_⟩
  ·intro u hu;rcases mem_cons.1 hu with rfl|hu
   ·exact hxz
   ·exact hZ2 u hu
  ·replace H6:Holds w6 (RE E v (((A++Z1'++z::([]++x::(Z2++(T++B)))).set (a+(Z1'.length+1)) z).set (a+(Z1'.length+1) - 1) x)::L):=H6;rw[e3] at H6;simpa using H6
  ·simp only[nv,intOf,gC];omega
theorem Zcp {s:Nat}{K:Value->Prop}(hs:s<=1000000000) (h:K (nv (s/2))):Ci .u64 (.int .i64 (s:Int)) λy=>Bp .shr y (.int .u64 1) λz=>Ci .i64 z K:=by
 refine Zo7 (by omega) (by omega) ?_;refine Zpy (n:=1) (by decide) ?_;exact Zbb (by omega) (by omega) h
theorem symX {x:Nat}{A Y B:List Nat}{a m b:Nat}(hc:CmpOk E W v f L) (H:Holds w (RE E v (A++([x]++(Y++B)))::L)) (ha:A.length=a) (hm:a+1=m) (hb:m+Y.length=b) (hs:Srt W Y) (hxW:x < W.length) (hY:∀ y∈Y,x < y/\y < W.length) (hbb:b<=100000000)
  (k:∀ Z w',Z.Perm (x::Y)->Srt W Z->Same w w'->Holds w' (RE E v (A++(Z++B))::L)->K (.tuple #[]) w'):Cl prog 79 #[v,nv a,nv m,nv b,f] w K:=by
 refine Tz79 ?_;unfold Vz79;refine Zav (by omega) (by omega) ?_;refine r_eql (r_vtE (by omega) ?_)
 refine Zau (λi j w'=>∃ p q:Nat,i=nv (m+p)/\j=nv (m+q)/\p<=q/\q<=Y.length/\(∀ y∈Y.take p,lt W y x)/\(∀ y∈Y.drop q,lt W x y)/\Same w w'/\Holds w' (RE E v (A++([x]++(Y++B)))::L)) (λi j _=>(intOf j).toNat - (intOf i).toNat)
  ⟨0,Y.length,rfl,by rw[hb],Nat.zero_le _,Nat.le_refl _,by simp,by simp,.refl _,H⟩ ?_
 clear H;rintro _ _ _ w1 ⟨p,q,rfl,rfl,hpq,hq,h1,h2,S1,H1⟩;refine r_lss (r_ifD (λh=>?_) λh=>?_)
 ·have hlt:p < q:=by omega
  refine Zae (by omega) (Zcp (by omega) ?_);rw[show (m+p+(m+q))/2=m+(p+q)/2 by omega]
  have hc1:p<=(p+q)/2:=by omega
  have hc2:(p+q)/2 < q:=by omega
  generalize (p+q)/2=c at *
  have hcY:c < Y.length:=by omega
  have hy:=hY _ (getElem_mem hcY)
  have e1:(A++([x]++(Y++B)))[m+c]?=some Y[c]:=by
   rw[<-gI A];exact Zim (by simp;omega) hcY
  have e2:(A++([x]++(Y++B)))[a]?=some x:=Zir ha;refine r_dr H1 λw2 S2 H2=>?_;refine g_get 0 H2 rfl e1 (g_get 0 H2 rfl e2 ?_);refine hc H2 hy.2 hxW λz w3 hz S3 H3=>?_;refine r_lss (r_ifD (λhl=>?_) λhl=>?_)
  ·refine Za2 (by omega) (r_ke ⟨⟨c+1,q,rfl,rfl,by omega,hq,Zep hs (λy e=>?_) hcY,h2,S1.trans (S2.trans S3),H3⟩,?_⟩)
   ·rw[gA hcY] at e;cases e;exact (Zg3 hy.1).1 (hz.1 hl)
   ·simp only[nv,intOf,gC];omega
  ·refine r_ke ⟨⟨p,c,rfl,rfl,by omega,by omega,h1,Zf0 hs λy e=>?_,S1.trans (S2.trans S3),H3⟩,?_⟩
   ·rw[gA hcY] at e;cases e;exact Zcn hy.1 λe=>hl (hz.2 e)
   ·simp only[nv,intOf,gC];omega
 obtain rfl:p=q:=by omega
 refine Zad (λy w'=>∃ t:Nat,y=nv (a+t)/\t<=p/\Same w w'/\Holds w' (RE E v (A++(Y.take t++(x::(Y.drop t++B))))::L)) (λy _=>b - (intOf y).toNat)
  ⟨0,rfl,Nat.zero_le _,S1,by simpa using H1⟩ ?_
 clear H1 S1;rintro _ _ w2 ⟨t,rfl,htp,S2,H2⟩;refine Zbr (by omega) (by omega) (r_lss (r_ifD (λhl=>?_) λhl=>?_))
 ·have hlt:t < p:=by omega
  have htY:t < Y.length:=by omega
  rw[Zel htY,show A++(Y.take t++(x::(Y[t]::Y.drop (t+1)++B)))=(A++Y.take t)++x::([]++Y[t]::(Y.drop (t+1)++B)) by simp only[gI,cons_append,hO_]] at H2;obtain⟨e1,e2,e3,e4,e5⟩:=sw (P:=A++Y.take t) (Q:=[]) (R:=Y.drop (t+1)++B) (x:=x) (y:=Y[t]) (p:=a+t) (q:=a+t+1) (by simp;omega) (by rw[length_nil]);refine r_dr H2 λw3 S3 H3=>?_;refine Za2 (by omega) (Za2 (by omega) ?_);refine g_get 0 H3 rfl e2 (g_get 0 H3 rfl e1 ?_);refine g_set 0 H3 Y[t] rfl e4 rfl λw4 S4 H4=>?_;refine g_set 0 H4 x rfl e5 rfl λw5 S5 H5=>?_;refine Za2 (by omega) (r_ke ⟨⟨t+1,rfl,by omega,S2.trans (S3.trans (S4.trans S5)),?_⟩,?_⟩)
  ·replace H5:Holds w5 (RE E v (((A++Y.take t++x::([]++Y[t]::(Y.drop (t+1)++B))).set (a+t) Y[t]).set (a+t+1) x)::L):=H5;rw[e3] at H5;rw[Zdx htY];simpa only[gI,cons_append,hO_] using H5
  ·simp only[nv,intOf,gC];omega
 ·obtain rfl:t=p:=by omega
  refine k (Y.take t++x::Y.drop t) _ ?_ (Zho (by rw[hN_];exact hs) h1 h2) S2 (by simpa only[gI,cons_append] using H2);refine List.perm_middle.trans ?_;rw[hN_]
theorem symY {y:Nat}{A X B:List Nat}{a m b:Nat}(hc:CmpOk E W v f L) (H:Holds w (RE E v (A++(X++([y]++B)))::L)) (ha:A.length=a) (hm:a+X.length=m) (hb:m+1=b) (hX2:X.length≠1) (hs:Srt W X) (hyW:y < W.length) (hX:∀ x∈X,x < y/\x < W.length) (hbb:b<=100000000)
  (k:∀ Z w',Z.Perm (X++[y])->Srt W Z->Same w w'->Holds w' (RE E v (A++(Z++B))::L)->K (.tuple #[]) w'):Cl prog 79 #[v,nv a,nv m,nv b,f] w K:=by
 refine Tz79 ?_;unfold Vz79;refine Zav (by omega) (by omega) ?_;refine r_eql (r_vfE (by omega) ?_);refine Zav (by omega) (by omega) ?_;refine r_eql (r_vtE (by omega) ?_)
 refine Zau (λi j w'=>∃ p q:Nat,i=nv (a+p)/\j=nv (a+q)/\p<=q/\q<=X.length/\(∀ x∈X.take p,lt W x y)/\(∀ x∈X.drop q,lt W y x)/\Same w w'/\Holds w' (RE E v (A++(X++([y]++B)))::L)) (λi j _=>(intOf j).toNat - (intOf i).toNat)
  ⟨0,X.length,rfl,by rw[hm],Nat.zero_le _,Nat.le_refl _,by simp,by simp,.refl _,H⟩ ?_
 clear H;rintro _ _ _ w1 ⟨p,q,rfl,rfl,hpq,hq,h1,h2,S1,H1⟩;refine r_lss (r_ifD (λh=>?_) λh=>?_)
 ·have hlt:p < q:=by omega
  refine Zae (by omega) (Zcp (by omega) ?_);rw[show (a+p+(a+q))/2=a+(p+q)/2 by omega]
  have hc1:p<=(p+q)/2:=by omega
  have hc2:(p+q)/2 < q:=by omega
  generalize (p+q)/2=c at *
  have hcX:c < X.length:=by omega
  have hx:=hX _ (getElem_mem hcX)
  have e1:(A++(X++([y]++B)))[a+c]?=some X[c]:=by
   exact Zim ha hcX
  have e2:(A++(X++([y]++B)))[m]?=some y:=by
   rw[show A++(X++([y]++B))=(A++X)++y::B by simp];exact Zir (by simp;omega)
  refine r_dr H1 λw2 S2 H2=>?_;refine g_get 0 H2 rfl e2 (g_get 0 H2 rfl e1 ?_);refine hc H2 hyW hx.2 λz w3 hz S3 H3=>?_;refine r_lss ?_
  by_cases hl:z < 0
  ·rw[decide_eq_true hl];refine Zn8 (r_vf ?_);refine r_ke ⟨⟨p,c,rfl,rfl,by omega,by omega,h1,Zf0 hs λx e=>?_,S1.trans (S2.trans S3),H3⟩,?_⟩
   ·rw[gA hcX] at e;cases e;exact (Zg3 hx.1).1 (hz.1 hl)
   ·simp only[nv,intOf,gC];omega
  ·rw[decide_eq_false hl];refine Znl (r_vt ?_);refine Za2 (by omega) (r_ke ⟨⟨c+1,q,rfl,rfl,by omega,hq,Zep hs (λx e=>?_) hcX,h2,S1.trans (S2.trans S3),H3⟩,?_⟩)
   ·rw[gA hcX] at e;cases e;exact Zcn hx.1 λe=>hl (hz.2 e)
   ·simp only[nv,intOf,gC];omega
 obtain rfl:p=q:=by omega
 refine Zad (λx w'=>∃ t:Nat,x=nv (a+t)/\p<=t/\t<=X.length/\Same w w'/\Holds w' (RE E v (A++(X.take t++(y::(X.drop t++B))))::L)) (λx _=>(intOf x).toNat)
  ⟨X.length,by rw[hm],hq,Nat.le_refl _,S1,by simpa using H1⟩ ?_
 clear H1 S1;rintro _ _ w2 ⟨t,rfl,htp,htX,S2,H2⟩;refine r_gtr (r_ifD (λhl=>?_) λhl=>?_)
 ·have hlt:p < t:=by omega
  obtain⟨u,rfl⟩:∃ u,t=u+1:=⟨t - 1,by omega⟩
  have hu:u < X.length:=by omega
  rw[Zdx hu,show A++(X.take u++[X[u]]++(y::(X.drop (u+1)++B)))=(A++X.take u)++X[u]::([]++y::(X.drop (u+1)++B)) by simp only[gI,cons_append,hO_]] at H2;obtain⟨e1,e2,_,_,_⟩:=sw (P:=A++X.take u) (Q:=[]) (R:=X.drop (u+1)++B) (x:=X[u]) (y:=y) (p:=a+(u+1) - 1) (q:=a+(u+1)) (by simp;omega) (by rw[length_nil];omega);obtain⟨e3,e4,e5⟩:=sw' (P:=A++X.take u) (Q:=[]) (R:=X.drop (u+1)++B) (x:=X[u]) (y:=y) (p:=a+(u+1) - 1) (q:=a+(u+1)) (by simp;omega) (by rw[length_nil];omega);refine r_dr H2 λw3 S3 H3=>?_;refine Zbr (by omega) (by omega) (Zbr (by omega) (by omega) ?_);refine g_get 0 H3 rfl e1 (g_get 0 H3 rfl e2 ?_);refine g_set 0 H3 X[u] rfl e4 rfl λw4 S4 H4=>?_;refine g_set 0 H4 y rfl e5 rfl λw5 S5 H5=>?_;refine Zbr (by omega) (by omega) (r_ke ⟨⟨u,by rw[show a+(u+1) - 1=a+u by omega],by omega,by omega,S2.trans (S3.trans (S4.trans S5)),?_⟩,?_⟩)
  ·replace H5:Holds w5 (RE E v (((A++X.take u++X[u]::([]++y::(X.drop (u+1)++B))).set (a+(u+1)) X[u]).set (a+(u+1) - 1) y)::L):=H5;rw[e3] at H5;rw[Zel hu];simpa only[gI,cons_append,hO_] using H5
  ·simp only[nv,intOf,gC];omega
 ·obtain rfl:t=p:=by omega
  refine k (X.take t++y::X.drop t) _ ?_ (Zho (by rw[hN_];exact hs) h1 h2) S2 (by simpa only[gI,cons_append] using H2);refine List.perm_middle.trans ?_;rw[hN_];exact (List.perm_append_singleton _ _).symm
theorem Zj3:∀ (N:Nat){w:World}{K:KT}{A X Y B:List Nat}{a m b:Nat},X.length+Y.length<=N->CmpOk E W v f L->Holds w (RE E v (A++(X++(Y++B)))::L)->A.length=a->a+X.length=m->m+Y.length=b->X≠[]->Y≠[]->
  Srt W X->Srt W Y->(∀ x∈X,x < W.length)->(∀ y∈Y,y < W.length)->(∀ x∈X,∀ y∈Y,x < y)->b<=100000000->
  (∀ Z w',Z.Perm (X++Y)->Srt W Z->Same w w'->Holds w' (RE E v (A++(Z++B))::L)->K (.tuple #[]) w')->Cl prog 79 #[v,nv a,nv m,nv b,f] w K:=by
 intro N
 induction N with
 |zero=>
  intro w K A X Y B a m b hN _ _ _ _ _ hX _ _ _ _ _ _ _ _;have:=gZ.2 hX;omega
 |succ N ih=>
  intro w K A X Y B a m b hN hc H ha hm hb hX hY hsX hsY hXW hYW hXY hbb k;have hX0:=gZ.2 hX;have hY0:=gZ.2 hY
  by_cases hX1:X.length=1
  ·obtain⟨x,rfl⟩:=List.length_eq_one_iff.1 hX1;exact symX hc H ha (by simpa using hm) hb hsY (hXW x (by simp)) (λy hy=>⟨hXY x (by simp) y hy,hYW y hy⟩) hbb k
  by_cases hY1:Y.length=1
  ·obtain⟨y,rfl⟩:=List.length_eq_one_iff.1 hY1;exact symY hc H ha hm (by simpa using hb) hX1 hsX (hYW y (by simp)) (λx hx=>⟨hXY x hx y (by simp),hXW x hx⟩) hbb k
  refine Tz79 ?_;unfold Vz79;refine Zav (by omega) (by omega) ?_;refine r_eql (r_vfE (by omega) ?_);refine Zav (by omega) (by omega) ?_;refine r_eql (r_vfE (by omega) ?_);refine Zae (by omega) (Zcp (by omega) ?_);obtain⟨h,hh⟩:∃ h,h=(X.length+Y.length)/2:=⟨_,rfl⟩;rw[show (a+b)/2=a+h by omega];refine Zae (by omega) ?_;refine Zkt (λs r w'=>∃ lo hi:Nat,s=nv (a+lo)/\r=nv (a+hi)/\lo<=hi/\hi<=h/\hi<=X.length/\h - lo<=Y.length/\w=w'/\((lo=h - Y.length/\Y.length<=h/\hi=h)\/(lo=0/\hi=X.length))) ?_ ?_
  rotate_left
  ·refine r_gtr (r_ifD (λhg=>?_) λhg=>?_)
   ·refine Zav (by omega) (by omega) ?_;exact r_ke ⟨h - Y.length,h,by rw[show a+h+m - b=a+(h - Y.length) by omega],rfl,by omega,by omega,by omega,by omega,rfl,.inl ⟨rfl,by omega,rfl⟩⟩
   ·exact r_ke ⟨0,X.length,rfl,by rw[hm],by omega,by omega,by omega,by omega,rfl,.inr ⟨rfl,rfl⟩⟩
  rintro _ _ _ _ ⟨lo,hi,rfl,rfl,hlh,hhh,hhX,hlY,rfl,hcase⟩;refine Zbr (by omega) (by omega) ?_
  refine Zau (λs r w'=>∃ σ ρ:Nat,s=nv (a+σ)/\r=nv (a+ρ)/\lo<=σ/\σ<=ρ/\ρ<=hi/\(lo < σ->lt W (X.getD (σ - 1) 0) (Y.getD (h - σ) 0))/\(ρ < hi->lt W (Y.getD (h - 1 - ρ) 0) (X.getD ρ 0))/\Same w w'/\Holds w' (RE E v (A++(X++(Y++B)))::L)) (λs r _=>(intOf r).toNat - (intOf s).toNat)
   ⟨lo,hi,rfl,rfl,Nat.le_refl _,hlh,Nat.le_refl _,λe=>absurd e (Nat.lt_irrefl _),λe=>absurd e (Nat.lt_irrefl _),.refl _,H⟩ ?_
  clear H;rintro _ _ _ w1 ⟨σ,ρ,rfl,rfl,b0,b1,b2,b3,b4,S1,H1⟩;refine r_lss (r_ifD (λhl=>?_) λhl=>?_)
  ·have hlt:σ < ρ:=by omega
   refine Zae (by omega) (Zcp (by omega) ?_);rw[show (a+σ+(a+ρ))/2=a+(σ+ρ)/2 by omega]
   have hc1:σ<=(σ+ρ)/2:=by omega
   have hc2:(σ+ρ)/2 < ρ:=by omega
   generalize (σ+ρ)/2=c at *
   have hcX:c < X.length:=by omega
   have hcY:h - 1 - c < Y.length:=by omega
   have e1:(A++(X++(Y++B)))[a+c]?=some X[c]:=Zim ha hcX
   have e2:(A++(X++(Y++B)))[a+h+m - 1 - (a+c)]?=some Y[h - 1 - c]:=by
    rw[show a+h+m - 1 - (a+c)=m+(h - 1 - c) by omega,<-gI A];exact Zim (by simp;omega) hcY
   have gX:X.getD c 0=X[c]:=by rw[gB,gA hcX];rfl
   have gY:Y.getD (h - 1 - c) 0=Y[h - 1 - c]:=by rw[gB,gA hcY];rfl
   have hxy:=hXY _ (getElem_mem hcX) _ (getElem_mem hcY);refine r_dr H1 λw2 S2 H2=>?_;refine Zav (by omega) (by omega) ?_;refine g_get 0 H2 rfl e2 (g_get 0 H2 rfl e1 ?_);refine hc H2 (hYW _ (getElem_mem hcY)) (hXW _ (getElem_mem hcX)) λz w3 hz S3 H3=>?_;refine r_lss ?_
   by_cases hz0:z < 0
   ·rw[decide_eq_true hz0];refine Zn8 (r_vf ?_);refine r_ke ⟨⟨σ,c,rfl,rfl,b0,by omega,by omega,b3,λ_=>?_,S1.trans (S2.trans S3),H3⟩,?_⟩
    ·rw[gX,gY];exact (Zg3 hxy).1 (hz.1 hz0)
    ·simp only[nv,intOf,gC];omega
   ·rw[decide_eq_false hz0];refine Znl (r_vt ?_);refine Za2 (by omega) (r_ke ⟨⟨c+1,ρ,rfl,rfl,by omega,by omega,b2,λ_=>?_,b4,S1.trans (S2.trans S3),H3⟩,?_⟩)
    ·rw[show c+1 - 1=c by omega,show h - (c+1)=h - 1 - c by omega,gX,gY];exact Zcn hxy λe=>hz0 (hz.2 e)
    ·simp only[nv,intOf,gC];omega
  obtain rfl:σ=ρ:=by omega
  obtain⟨c1,c2⟩:=Zp2 hsX hsY hcase b0 b2 (by omega) b3 b4 (by omega) (by omega)
  have lX1:(X.take σ).length=σ:=by rw[gN];omega
  have lX2:(X.drop σ).length=X.length - σ:=gS ..
  have lY1:(Y.take (h - σ)).length=h - σ:=by rw[gN];omega
  have lY2:(Y.drop (h - σ)).length=Y.length - (h - σ):=gS ..;have eX:X=X.take σ++X.drop σ:=(hN_ _ _).symm;have eY:Y=Y.take (h - σ)++Y.drop (h - σ):=(hN_ _ _).symm;have oX1:∀ x∈X.take σ,x∈X:=λx hx=>mem_of_mem_take hx;have oX2:∀ x∈X.drop σ,x∈X:=λx hx=>mem_of_mem_drop hx;have oY1:∀ x∈Y.take (h - σ),x∈Y:=λx hx=>mem_of_mem_take hx;have oY2:∀ x∈Y.drop (h - σ),x∈Y:=λx hx=>mem_of_mem_drop hx;have sX1:Srt W (X.take σ):=hsX.sublist (List.take_sublist _ _);have sX2:Srt W (X.drop σ):=hsX.sublist (List.drop_sublist _ _);have sY1:Srt W (Y.take (h - σ)):=hsY.sublist (List.take_sublist _ _);have sY2:Srt W (Y.drop (h - σ)):=hsY.sublist (List.drop_sublist _ _);rw[eX] at hsX;rw[eY] at hsY;have fin:=λZ1 Z2 p1 p2 s1 s2=>halves (Z1:=Z1) (Z2:=Z2) hsX hsY c1 c2 p1 p2 s1 s2;rw[<-eX,<-eY] at fin
  have H1:Holds w1 (RE E v (A++(X.take σ++(X.drop σ++(Y.take (h - σ)++(Y.drop (h - σ)++B)))))::L):=by
   rw[eX,eY] at H1;simpa only[gI] using H1
  generalize X.take σ=X1 at *;generalize X.drop σ=X2 at *;generalize Y.take (h - σ)=Y1 at *;generalize Y.drop (h - σ)=Y2 at *;refine Zav (by omega) (by omega) ?_;rw[show a+h+m - (a+σ)=m+Y1.length by omega];refine Zfa (λw'=>Same w w'/\Holds w' (RE E v (A++(X1++(Y1++(X2++(Y2++B)))))::L)) ?_ ?_
  rotate_left
  ·refine Za4 (λt w'=>w1=w'/\t=.bool (decide (0 < X2.length/\0 < Y1.length))) ?_ ?_
   rotate_left
   ·refine r_lss (r_ifD (λq=>?_) λq=>?_)
    ·refine r_lss (r_ke ⟨rfl,?_⟩)
     congr 1
     exact decide_eq_decide.2 (by omega)
    ·exact r_ke ⟨rfl,by rw[decide_eq_false (by omega)]⟩
   rintro _ _ _ ⟨rfl,rfl⟩;refine r_ifD (λq=>?_) λq=>?_
   ·refine Zhj (A:=A++X1) (U:=X2) (V:=Y1) (B:=Y2++B) (by simpa only[gI] using H1) (by simp;omega) (by omega) rfl (gZ.1 q.1) (gZ.1 q.2) (by omega) λw2 S2 H2=>?_;exact r_ke ⟨S1.trans S2,by simpa only[gI] using H2⟩
   ·refine r_ke ⟨S1,?_⟩
    by_cases q1:X2.length=0
    ·rw[eq_nil_of_length_eq_zero q1] at H1 ⊢;exact H1
    ·rw[eq_nil_of_length_eq_zero (show Y1.length=0 by omega)] at H1 ⊢;exact H1
  clear H1 S1;rintro _ w2 ⟨S2,H2⟩;refine Zfa (λw'=>∃ Z1,Z1.Perm (X1++Y1)/\Srt W Z1/\Same w w'/\Holds w' (RE E v (A++(Z1++(X2++(Y2++B))))::L)) ?_ ?_
  rotate_left
  ·refine Za4 (λt w'=>w2=w'/\t=.bool (decide (0 < X1.length/\0 < Y1.length))) ?_ ?_
   rotate_left
   ·refine r_lss (r_ifD (λq=>?_) λq=>?_)
    ·refine r_lss (r_ke ⟨rfl,?_⟩)
     congr 1
     exact decide_eq_decide.2 (by omega)
    ·exact r_ke ⟨rfl,by rw[decide_eq_false (by omega)]⟩
   rintro _ _ _ ⟨rfl,rfl⟩;refine r_ifD (λq=>?_) λq=>?_
   ·refine ih (X:=X1) (Y:=Y1) (B:=X2++(Y2++B)) (by omega) hc H2 ha (by omega) (by omega) (gZ.1 q.1) (gZ.1 q.2) sX1 sY1 (λx hx=>hXW x (oX1 x hx)) (λx hx=>hYW x (oY1 x hx)) (λx hx y hy=>hXY x (oX1 x hx) y (oY1 y hy)) (by omega) λZ w3 p3 s3 S3 H3=>?_;exact r_ke ⟨Z,p3,s3,S2.trans S3,H3⟩
   ·refine r_ke ⟨X1++Y1,.refl _,?_,S2,by simpa only[gI] using H2⟩
    by_cases q1:X1.length=0
    ·rw[eq_nil_of_length_eq_zero q1,hO_];exact sY1
    ·rw[eq_nil_of_length_eq_zero (show Y1.length=0 by omega),gU];exact sX1
  clear H2 S2;rintro _ w3 ⟨Z1,p1,s1,S3,H3⟩
  have lZ1:Z1.length=h:=by rw[p1.length_eq,gD];omega
  refine Za4 (λt w'=>w3=w'/\t=.bool (decide (0 < X2.length/\0 < Y2.length))) ?_ ?_
  rotate_left
  ·refine r_lss (r_ifD (λq=>?_) λq=>?_)
   ·refine r_lss (r_ke ⟨rfl,?_⟩)
    congr 1
    exact decide_eq_decide.2 (by omega)
   ·exact r_ke ⟨rfl,by rw[decide_eq_false (by omega)]⟩
  rintro _ _ _ ⟨rfl,rfl⟩;refine r_ifD (λq=>?_) λq=>?_
  ·refine ih (A:=A++Z1) (X:=X2) (Y:=Y2) (B:=B) (by omega) hc (by simpa only[gI] using H3) (by simp;omega) (by omega) (by omega) (gZ.1 q.1) (gZ.1 q.2) sX2 sY2 (λx hx=>hXW x (oX2 x hx)) (λx hx=>hYW x (oY2 x hx)) (λx hx y hy=>hXY x (oX2 x hx) y (oY2 y hy)) (by omega) λZ w4 p4 s4 S4 H4=>?_;obtain⟨f1,f2⟩:=fin Z1 Z p1 p4 s1 s4;exact k _ _ f1 f2 (S3.trans S4) (by simpa only[gI] using H4)
  ·obtain⟨f1,f2⟩:=fin Z1 (X2++Y2) p1 (.refl _) s1 (by
    by_cases q1:X2.length=0
    ·rw[eq_nil_of_length_eq_zero q1,hO_];exact sY2
    ·rw[eq_nil_of_length_eq_zero (show Y2.length=0 by omega),gU];exact sX2)
   exact k _ _ f1 f2 S3 (by simpa only[gI] using H3)
theorem Zhz {n:Nat}(hc:CmpOk E W v f L) (H:Holds w (RE E v (List.range' 0 n)::L)) (hW:n<=W.length) (hn:n<=1000000)
  (k:∀ Z w',Seg W 0 Z->Z.length=n->Same w w'->Holds w' (RE E v Z::L)->K (.tuple #[]) w'):Cl prog 52 #[v,nv n,f] w K:=by
 refine Tz52 ?_;unfold Vz52
 refine Zau (λx y w'=>∃ (a:Nat) (Dn:List Nat),x=nv a/\y=nv (a+20)/\a<=n/\Dn.length=a/\(∀ R,Runs W 20 a R->Runs W 20 0 (Dn++R))/\Same w w'/\Holds w' (RE E v (Dn++List.range' a (n - a))::L)) (λx _ _=>n - (intOf x).toNat)
  ⟨0,[],rfl,rfl,Nat.zero_le _,rfl,λ_ r=>r,.refl _,H⟩ ?_
 clear H;rintro _ _ _ w1 ⟨a,Dn,rfl,rfl,ha,hl,hr,S1,H1⟩;have hinc:∀ lo m,(List.range' lo m).Pairwise (· < ·):=λlo m=>List.pairwise_lt_range'
 have hmem:∀ lo m,lo+m<=n->∀ x∈List.range' lo m,x < W.length:=λlo m h x hx=>by
  have:=mem_range'_1.1 hx;omega
 refine r_leq (r_ifD (λh=>?_) λh=>?_)
 ·rw[Zl3 a (n - a) 20 (by omega)] at H1;refine Zc7 (A:=Dn) (X:=List.range' a 20) hc H1 hl (by simp) (hmem _ _ (by omega)) (hinc _ _) (by omega) λZ w2 p s S2 H2=>?_
  have hZ:Z.length=20:=by rw[p.length_eq];simp
  refine Zae (b:=20) (by omega) (r_ke ⟨⟨a+20,Dn++Z,rfl,rfl,by omega,by rw[gD];omega,λR r=>?_,S1.trans S2,?_⟩,?_⟩)
  ·rw[gI];exact hr _ (.cons ⟨by rw[hZ];exact p,s⟩ hZ r)
  ·rw[show n - (a+20)=n - a - 20 by omega,gI];exact H2
  ·simp only[nv,intOf,gC];omega
 rw[show Dn++List.range' a (n - a)=Dn++(List.range' a (n - a)++[]) by simp] at H1;refine Zc7 (A:=Dn) (X:=List.range' a (n - a)) hc H1 hl (by simp;omega) (hmem _ _ (by omega)) (hinc _ _) (by omega) λZ w2 p s S2 H2=>?_
 have hZ:Z.length=n - a:=by rw[p.length_eq];simp
 have hruns:=hr Z (.last ⟨by rw[hZ];exact p,s⟩ (by omega));rw[gU] at H2
 refine Zad (λx w'=>∃ (s:Nat) (D:List Nat),x=nv s/\20<=s/\s<=10000000/\Runs W s 0 D/\D.length=n/\Same w w'/\Holds w' (RE E v D::L)) (λx _=>n - (intOf x).toNat)
  ⟨20,_,rfl,by omega,by omega,hruns,by rw[gD];omega,S1.trans S2,H2⟩ ?_
 clear H1 S1 H2 S2 hruns hr;rintro _ _ w3 ⟨bs,D,rfl,hs20,hsb,hru,hDl,S3,H3⟩;refine r_lss (r_ifD (λhlt=>?_) λhlt=>?_)
 rotate_left
 ·exact k D _ (Zcy hru (by omega) (by omega)) hDl S3 H3
 have hbn:bs < n:=by omega
 refine Ziq ((2*bs:Nat):Int) (by omega) (by omega) (by omega) ?_
 refine Zau (λx y w'=>∃ (a:Nat) (Dn R:List Nat),x=nv a/\y=nv (a+2*bs)/\Dn.length=a/\a+R.length=n/\Runs W bs a R/\(∀ R,Runs W (2*bs) a R->Runs W (2*bs) 0 (Dn++R))/\Same w w'/\Holds w' (RE E v (Dn++R)::L)) (λx _ _=>n - (intOf x).toNat)
  ⟨0,[],D,rfl,by rw[Nat.zero_add],rfl,by omega,hru,λ_ r=>r,S3,H3⟩ ?_
 clear H3 S3 hru hDl;rintro _ _ _ w4 ⟨a2,Dn2,R,rfl,rfl,hl2,hR,hru,hr2,S4,H4⟩;refine r_leq (r_ifD (λh2=>?_) λh2=>?_)
 ·obtain⟨X,R1,rfl,gX,lX,r1⟩:=Zem hru (by omega);rw[gD] at hR;obtain⟨Y,R2,rfl,gY,lY,r2⟩:=Zem r1 (by omega);rw[gD] at hR;refine Zae (by omega) ?_
  refine Zj3 _ (A:=Dn2) (X:=X) (Y:=Y) (B:=R2) (Nat.le_refl _) hc H4 hl2 (by omega) (by omega) (λe=>by rw[e,length_nil] at lX;omega) (λe=>by rw[e,length_nil] at lY;omega) gX.2 gY.2
   (λx hx=>Nat.lt_of_lt_of_le (Zi5 gX (Nat.le_refl _) x hx) (by omega)) (λx hx=>Nat.lt_of_lt_of_le (Zi5 gY (Nat.le_refl _) x hx) (by omega)) (Zj4 gX lX gY) (by omega) λZ w5 p s S5 H5=>?_
  have lZ:Z.length=2*bs:=by rw[p.length_eq,gD];omega
  refine Ziq ((2*bs:Nat):Int) (by omega) (by omega) (by omega) ?_;refine Zae (by omega) (r_ke ⟨⟨a2+2*bs,Dn2++Z,R2,rfl,rfl,by rw[gD];omega,by omega,?_,λQ q=>?_,S4.trans S5,?_⟩,?_⟩)
  ·rw[show a2+2*bs=a2+bs+bs by omega];exact r2
  ·rw[gI];exact hr2 _ (.cons (gX.join lX gY p s) lZ q)
  ·rw[gI];exact H5
  ·simp only[nv,intOf,gC];omega
 refine Zae (by omega) (r_lss (r_ifD (λh3=>?_) λh3=>?_))
 ·obtain⟨X,Y,rfl,gX,lX,r1⟩:=Zem hru (by omega);rw[gD] at hR;have gY:=Zcy r1 (by omega) (by omega);rw[show Dn2++(X++Y)=Dn2++(X++(Y++[])) by rw[gU]] at H4
  refine Zj3 _ (A:=Dn2) (X:=X) (Y:=Y) (B:=[]) (Nat.le_refl _) hc H4 hl2 (by omega) (by omega) (λe=>by rw[e,length_nil] at lX;omega) (λe=>by rw[e,length_nil] at hR;omega) gX.2 gY.2
   (λx hx=>Nat.lt_of_lt_of_le (Zi5 gX (Nat.le_refl _) x hx) (by omega)) (λx hx=>Nat.lt_of_lt_of_le (Zi5 gY (Nat.le_refl _) x hx) (by omega)) (Zj4 gX lX gY) (by omega) λZ w5 p s S5 H5=>?_
  have lZ:Z.length=bs+Y.length:=by rw[p.length_eq,gD];omega
  rw[gU] at H5;refine Ziq ((2*bs:Nat):Int) (by omega) (by omega) (by omega) ?_;refine r_ke ⟨⟨2*bs,Dn2++Z,rfl,by omega,by omega,hr2 Z (.last (gX.join lX gY p s) (by omega)),by rw[gD];omega,S4.trans S5,H5⟩,?_⟩;simp only[nv,intOf,gC];omega
 ·refine Ziq ((2*bs:Nat):Int) (by omega) (by omega) (by omega) ?_;refine r_ke ⟨⟨2*bs,Dn2++R,rfl,by omega,by omega,hr2 R (.last (Zcy hru (by omega) (by omega)) (by omega)),by rw[gD];omega,S4,H4⟩,?_⟩;simp only[nv,intOf,gC];omega
theorem Zk4 {n:Nat}(hc:CmpOk E W v f L) (H:Holds w (RE E v (List.range' 0 n)::L)) (hW:n<=W.length) (hn:n<=1000000)
  (k:∀ Z w',Seg W 0 Z->Z.length=n->Same w w'->Holds w' (RE E v Z::L)->K (.tuple #[]) w'):Cl prog 31 #[v,f] w K:=by
 refine Tz31 ?_;unfold Vz31;refine g_len 0 H rfl ?_;rw[List.length_range'];refine Zhz hc H hW hn λZ w' g l S' H'=>?_;exact k Z w' g l S' H'
theorem Zpv {f:Value}(hf:f=.func (.func 32) #[] #[]) (hW:W=E.map λe=>e.id.toNat) (hE:∀ e∈E,0<=e.id):CmpOk E W v f L:=by
 intro D w x y Q H hx hy k;subst hf hW;rw[length_map] at hx hy
 have gx:∀ x,x < E.length->E.getD x e0∈E/\(((E.map λe=>e.id.toNat).getD x 0:Nat):Int)=(E.getD x e0).id:=by
  intro x hx;have h1:E[x]?=some E[x]:=gA hx;rw[gB,gB,hV_,h1];have:=hE E[x] (getElem_mem hx);exact⟨getElem_mem hx,by show ((E[x].id.toNat:Nat):Int)=E[x].id;omega⟩
 obtain⟨_,ex⟩:=gx x hx;obtain⟨_,ey⟩:=gx y hy;refine r_inv (f:=32) (args:=#[vE E x,vE E y]) (by kernel_rfl) ?_;refine Tz32 ?_;unfold Vz32;refine r_new H λxb w1 S1 H1=>?_;replace H1:Holds w1 (blk xb tEn (cE E x)::RE E v D::L):=H1;refine r_new H1 λyb w2 S2 H2=>?_;replace H2:Holds w2 (blk yb tEn (cE E y)::blk xb tEn (cE E x)::RE E v D::L):=H2;refine r_fo0 (r_ld 1 H2 (v:=iv (E.getD x e0).id) rfl rfl (r_fo0 (r_ld 0 H2 (v:=iv (E.getD y e0).id) rfl rfl ?_)));generalize hp:(E.getD x e0).id=p;generalize hq:(E.getD y e0).id=q;rw[hp] at ex;rw[hq] at ey
 have nan:∀ (c:Int) {K:KT},K (.bool false) w2->Cl prog 53 #[iv c] w2 K:=by
  intro c K h;refine Tz53 ?_;unfold Vz53;refine r_neq ?_;rw[show (c != c)=false by simp];exact h
 refine r_cl (K:=λz w'=>w2=w'/\∃ c:Int,z=iv c/\(c < 0↔p < q)) ?_ ?_
 ·refine Tz33 ?_;unfold Vz33;refine nan p (nan q (r_vf (r_vf ?_)));refine r_lss (r_ifD (λh=>?_) λh=>?_)
  ·exact⟨rfl,-1,rfl,by omega⟩
  ·refine r_gtr (r_ifD (λh2=>?_) λh2=>?_)
   ·exact⟨rfl,1,rfl,by omega⟩
   ·exact⟨rfl,0,rfl,by omega⟩
 rintro _ _ ⟨rfl,c,rfl,hcc⟩;exact k c _ (by rw[hcc];omega) (S1.trans S2) H2.drop.drop
end S46
namespace S46
open Go.Mh Go.Ms P46 O46 A46
variable {w:World}{L:List HProp}{K:KT}
abbrev tU8:Nat:=5
abbrev tMb:Nat:=96
abbrev tMi:Nat:=97
instance rowEn:RowN prog 23 tEn 4:=⟨by kernel_rfl,⟨t57,.agg (cellsEn En0).toArray,by kernel_rfl,by kernel_rfl,by decide,by kernel_rfl,by kernel_rfl⟩⟩
instance rowU8:Row prog 98 5 (.int .u8 0):=⟨by kernel_rfl,⟨t5,by kernel_rfl,by kernel_rfl,by decide,by kernel_rfl⟩,rfl⟩
instance bytesU8:Bytes prog 98 5 9:=⟨by kernel_rfl,by kernel_rfl,by kernel_rfl⟩
def feOk (E:List En) (fe:Int->Option Value):Prop:=∀ k,(hasId E k/\∃ n:Nat,fe k=some (nv n)/\0 < n)\/(¬ hasId E k/\fe k=none)
theorem Zgk {l:List An}(h:∀ x∈l,x.tx.data.toList.length<=65536) (k:Int):(textsOf l k).length<=l.length*65536:=by
 unfold textsOf
 induction l with
 |nil=>simp
 |cons a r ih=>
  have h1:=ih λx hx=>h x (hK_ _ hx);have h2:=h a (hJ_ ..)
  by_cases hk:isTx a k
  ·rw[List.filter_cons_of_pos (by simpa using hk),List.flatMap_cons,gD,List.length_cons,Nat.succ_mul];exact Nat.le_trans (Nat.add_le_add h2 h1) (Nat.le_of_eq (Nat.add_comm ..))
  ·rw[List.filter_cons_of_neg (by simpa using hk),List.length_cons,Nat.succ_mul];exact Nat.le_trans h1 (Nat.le_add_right ..)
theorem RE_of (i:Nat){v:Value}{E:List En}(H:Holds w L) (hi:L[i]?=some (RW cellsEn 4 tEn v E)):Holds w (L.set i (RE E v (List.range' 0 E.length))):=by
 refine H.at i hi λg hg=>?_;obtain⟨oa,m,sp,hv,hg⟩:=hg
 have hf:flatL (cE E) (List.range' 0 E.length)=flatL cellsEn E:=by
  have key:∀ (xs:List Nat),flatL (cE E) xs=flatL cellsEn (xs.map λi=>E.getD i e0):=by
   intro xs
   induction xs with
   |nil=>rfl
   |cons x r ih=>rw[flatL,hR_,flatL,ih];rfl
  rw[key]
  congr 1
  apply List.ext_getElem?;intro i;rw[hV_]
  by_cases h:i < E.length
  ·rw[List.getElem?_range' (by omega)];simp[gB,gA h]
  ·rw[List.getElem?_eq_none (by simpa using h),List.getElem?_eq_none (by omega)];rfl
 refine⟨oa,m,sp,by rw[List.length_range'];exact hv,?_⟩
 cases oa with
 |none=>
  obtain⟨h1,h2⟩:=hg;subst h1;exact⟨rfl,h2⟩
 |some a=>
  obtain⟨h1,h2,h3,h4⟩:=hg;exact⟨h1,h2,h3,by rw[hf];exact h4⟩
theorem RW_of (i:Nat){v:Value}{E:List En}{Z:List Nat}(H:Holds w L) (hi:L[i]?=some (RE E v Z)):Holds w (L.set i (RW cellsEn 4 tEn v (Z.map λi=>E.getD i e0))):=by
 refine H.at i hi λg hg=>?_;obtain⟨oa,m,sp,hv,hg⟩:=hg
 have key:∀ (xs:List Nat),flatL (cE E) xs=flatL cellsEn (xs.map λi=>E.getD i e0):=by
  intro xs
  induction xs with
  |nil=>rfl
  |cons x r ih=>rw[flatL,hR_,flatL,ih];rfl
 refine⟨oa,m,sp,by rw[length_map];exact hv,?_⟩
 cases oa with
 |none=>
  obtain⟨h1,h2⟩:=hg;subst h1;exact⟨rfl,h2⟩
 |some a=>
  obtain⟨h1,h2,h3,h4⟩:=hg;exact⟨h1,h2,h3,by rw[<-key];exact h4⟩
theorem Zm6 {a:Option Addr}{l:List An}{c:Nat}(H:Holds w L) (hA:AnIn L a l) (hl:l.length<=900) (hb:∀ x∈l,0<=x.jb/\x.tx.data.toList.length<=65536)
  (k:∀ o1 q1 o2 q2 w',Same w w'->Holds w' (RW cellsEn 4 tEn (.slice o1 (seeD l).length q1) (seeD l)::RW cellsAn 4 tAn (.slice o2 (refsOf l).length q2) (refsOf l)::L)->K (.agg (cellsV o1 (seeD l).length q1 o2 (refsOf l).length q2).toArray) w') :
  Cl prog 16 #[.slice a l.length c] w K:=by
 refine Tz16 ?_;unfold Vz16;refine r_new H λxb w1 S1 H1=>?_;rw[Zee] at H1;refine r_new H1 λvb w2 S2 H2=>?_;rw[Zee] at H2;refine r_mmM H2 λmb w3 S3 H3=>?_;refine r_mmM H3 λeb w4 S4 H4=>?_;refine r_lnl ?_
 have H5:Holds w4 (TM tU8 mb []::MP eb (λ_=>none)::RW cellsEn 4 tEn (.slice none 0 0) []::RW cellsAn 4 tAn (.slice none 0 0) []::blk vb tVi (cellsV none 0 0 none 0 0)::blk xb tVi (cellsV none 0 0 none 0 0)::L):=by
  have g1:Holds w4 (MP mb (fmT [])::MP eb (λ_=>none)::blk vb tVi (cellsV none 0 0 none 0 0)::blk xb tVi (cellsV none 0 0 none 0 0)::L):=Holds.swap H4;have g2:=Holds.pack (A:=[MP mb (fmT [])]) g1;have g3:=(g2.nilRW cellsAn 4 tAn).nilRW cellsEn 4 tEn;have h_:=Holds.ord 4 [2,3,0,1] g3 rfl;exact h_
 refine Zad (λy w'=>∃ (i:Nat) (es:List Tx) (fe:Int->Option Value) (o1:Option Addr) (q1:Nat) (o2:Option Addr) (q2:Nat),i<=l.length/\y=nv i/\(∀ k,byT es k=textsOf (l.take i) k)/\feOk (seeP (l.take i)) fe/\Same w w'/\
   Holds w' (TM tU8 mb es::MP eb fe::RW cellsEn 4 tEn (.slice o1 (seeP (l.take i)).length q1) (seeP (l.take i))::RW cellsAn 4 tAn (.slice o2 (refsOf (l.take i)).length q2) (refsOf (l.take i)) ::
    blk vb tVi (cellsV o1 (seeP (l.take i)).length q1 o2 (refsOf (l.take i)).length q2)::blk xb tVi (cellsV none 0 0 none 0 0)::L))
  (λy _=>l.length - (intOf y).toNat) ⟨0,[],_,none,0,none,0,by omega,rfl,λk=>rfl,λk=>.inr ⟨λ⟨e,he,_⟩=>(by cases he),rfl⟩,S1.trans (S2.trans (S3.trans S4)),H5⟩ ?_
 clear S1 S2 S3 S4 H H1 H2 H3 H4 H5;rintro _ _ w5 ⟨i,es,fe,o1,q1,o2,q2,hi,rfl,hes,hfe,S,H⟩;refine r_lss (r_ifD (λh=>?_) λh=>?_)
 rotate_left
 ·obtain rfl:i=l.length:=by omega
  rw[hF_] at *;refine r_fo0 (r_ld 4 H rfl rfl ?_);have hn:=Zf9 l
  have hid:∀ e∈seeP l,0<=e.id:=by
   have key:∀ (m:List An),(∀ x∈m,0<=x.jb)->∀ e∈seeP m.reverse,0<=e.id:=by
    intro m
    induction m with
    |nil=>intro _ e he;cases he
    |cons x r ih=>
     intro hm e he;rw[List.reverse_cons,Zdo] at he;split at he
     ·rcases hT_.1 he with he|he
      ·exact ih (λy hy=>hm y (hK_ _ hy)) e he
      ·rw[mem_singleton.1 he];exact hm x (hJ_ ..)
     ·exact ih (λy hy=>hm y (hK_ _ hy)) e he
   have:=key l.reverse (λx hx=>(hb x (List.mem_reverse.1 hx)).1)
   rwa [List.reverse_reverse] at this
  have H6:=RE_of 2 H rfl
  have H7:Holds w5 (RE (seeP l) (.slice o1 (seeP l).length q1) (List.range' 0 (seeP l).length)::TM tU8 mb es::MP eb fe::RW cellsAn 4 tAn (.slice o2 (refsOf l).length q2) (refsOf l) ::
    blk vb tVi (cellsV o1 (seeP l).length q1 o2 (refsOf l).length q2)::blk xb tVi (cellsV none 0 0 none 0 0)::L):=by
   have h_:=Holds.ord 3 [2,0,1] H6 rfl;exact h_
  refine Zk4 (Zpv (E:=seeP l) rfl rfl hid) H7 (by rw[length_map];exact Nat.le_refl _) (by omega) λZ w6 hs hZ S6 H8=>?_;have hsee:=Zj7 e0 rfl hid rfl hs hZ;have hlen:(seeD l).length=(seeP l).length:=(Zfw l).2.length_eq;have H9:=RW_of 0 H8 rfl;rw[hsee] at H9
  replace H9:Holds w6 (RW cellsEn 4 tEn (.slice o1 (seeP l).length q1) (seeD l)::TM tU8 mb es::MP eb fe::RW cellsAn 4 tAn (.slice o2 (refsOf l).length q2) (refsOf l) ::
    blk vb tVi (cellsV o1 (seeP l).length q1 o2 (refsOf l).length q2)::blk xb tVi (cellsV none 0 0 none 0 0)::L):=H9
  rw[<-hlen] at H9;refine r_ldA 4 H9 (cellsV o1 (seeD l).length q1 o2 (refsOf l).length q2) rfl rfl rfl ?_;refine r_stA 5 H9 (vs:=cellsV o1 (seeD l).length q1 o2 (refsOf l).length q2) rfl (Nat.le_refl 2) rfl rfl λw7 S7 H10=>?_;refine r_ldA 5 H10 (cellsV o1 (seeD l).length q1 o2 (refsOf l).length q2) rfl rfl rfl ?_;exact k o1 q1 o2 q2 w7 (S.trans (S6.trans S7)) (Holds.dropAt (Holds.dropAt (Holds.dropAt (Holds.dropAt H10 4) 4) 1) 1)
 have hlt:i < l.length:=by omega
 obtain⟨x,hx⟩:∃ x,l[i]?=some x:=⟨_,gA hlt⟩;obtain⟨hx0,hxt⟩:=hb x (mem_of_getElem? hx)
 have htk:l.take (i+1)=l.take i++[x]:=by rw[gO,hx];rfl
 have et:=λk=>Zgm (l.take i) x k;have ep:=Zdo (l.take i) x;have er:=Zij (l.take i) x;simp only[<-htk] at et ep er;have hpl:=Zf9 (l.take i);have hrl:=Zfq (l.take i);rw[gN] at hpl hrl;refine S4r.r_ldG hA.up.up.up.up.up.up H hx rfl hlt ?_;refine r_new H λab w6 S6 H6=>?_;rw[Zd8] at H6;refine r_stA 0 H6 (vs:=cellsAn x) rfl (Nat.le_refl 4) rfl rfl λw7 S7 H7=>?_;replace S:=S.trans (S6.trans S7)
 replace H7:Holds w7 (blk ab tAn (cellsAn x)::TM tU8 mb es::MP eb fe::RW cellsEn 4 tEn (.slice o1 (seeP (l.take i)).length q1) (seeP (l.take i))::RW cellsAn 4 tAn (.slice o2 (refsOf (l.take i)).length q2) (refsOf (l.take i)) ::
    blk vb tVi (cellsV o1 (seeP (l.take i)).length q1 o2 (refsOf (l.take i)).length q2)::blk xb tVi (cellsV none 0 0 none 0 0)::L):=H7
 clear S6 S7 H H6
 have idle:∀ (es':List Tx) w',¬ (isEnd x/\¬ hasId (seeP (l.take i)) x.jb)->¬ isRef x->(∀ k,byT es' k=textsOf (l.take (i+1)) k)->Same w w'->Holds w' (TM tU8 mb es'::MP eb fe::RW cellsEn 4 tEn (.slice o1 (seeP (l.take i)).length q1) (seeP (l.take i))::RW cellsAn 4 tAn (.slice o2 (refsOf (l.take i)).length q2) (refsOf (l.take i)) ::
    blk vb tVi (cellsV o1 (seeP (l.take i)).length q1 o2 (refsOf (l.take i)).length q2)::blk xb tVi (cellsV none 0 0 none 0 0)::L)->
   (∃ (i_1:Nat) (es:List Tx) (fe:Int->Option Value) (o1:Option Addr) (q1:Nat) (o2:Option Addr) (q2:Nat),i_1<=l.length/\nv (i+1)=nv i_1/\(∀ k,byT es k=textsOf (l.take i_1) k)/\feOk (seeP (l.take i_1)) fe/\Same w w'/\
   Holds w' (TM tU8 mb es::MP eb fe::RW cellsEn 4 tEn (.slice o1 (seeP (l.take i_1)).length q1) (seeP (l.take i_1))::RW cellsAn 4 tAn (.slice o2 (refsOf (l.take i_1)).length q2) (refsOf (l.take i_1)) ::
    blk vb tVi (cellsV o1 (seeP (l.take i_1)).length q1 o2 (refsOf (l.take i_1)).length q2)::blk xb tVi (cellsV none 0 0 none 0 0)::L)):=by
  intro es' w' n1 n2 g1 Sz Hz;rw[if_neg n1] at ep;rw[if_neg n2,gU] at er;refine⟨i+1,es',fe,o1,q1,o2,q2,by omega,rfl,g1,by rw[ep];exact hfe,Sz,?_⟩;rw[ep,er];exact Hz
 have mu:l.length - (intOf (nv (i+1))).toNat < l.length - (intOf (nv i)).toNat:=by
  simp only[intOf,gC];omega
 refine r_fo0 (r_ld 0 H7 (v:=iv x.ty) rfl rfl (r_eql (r_ifE (λg1=>?_) λg1=>?_)))
 ·refine r_dr H7 λw8 S8 H8=>?_;refine r_fo0 (r_ld 0 H8 (v:=iv x.jb) rfl rfl (r_fo0 (r_ld 0 H8 (v:=iv x.jb) rfl rfl ?_)));refine r_lkT (t:=tMb) (kt:=tIn) (et:=98) (x:=.l none 0 0) (by kernel_rfl) (by kernel_rfl) (by kernel_rfl) rfl 1 H8 rfl ?_;refine r_fo0 (r_ld 0 H8 (v:=.string ⟨x.tx.data.toList.toArray⟩) rfl rfl ?_);have hle:=Zgk (l:=l.take i) (λy hy=>(hb y (mem_of_mem_take hy)).2) x.jb;rw[gN] at hle;refine r_apT (es:=es) (k:=x.jb) (by kernel_rfl) (Holds.swap H8) (by rw[hes];omega) λv w9 S9 H9=>?_;refine r_rk (r_ld 1 H9 (v:=iv x.jb) rfl rfl rfl) ?_;refine r_muT (t:=tMb) (kt:=tIn) (et:=98) (by kernel_rfl) (by kernel_rfl) H9 λw10 S10 H10=>?_;refine Za2 (by omega) (r_ke ⟨idle _ w10 (λq=>by have:=q.1;unfold isEnd at this;omega) (λq=>by have:=q.1;omega) (λk=>?_) (S.trans (S8.trans (S9.trans S10))) (Holds.dropAt H10 1),mu⟩);rw[Zoc,et,hes,hes]
  by_cases hk:k=x.jb
  ·subst hk;rw[if_pos rfl,if_pos ⟨g1,rfl⟩]
  ·rw[if_neg hk,if_neg λq=>hk q.2.symm,gU]
 have et':∀ k,textsOf (l.take (i+1)) k=textsOf (l.take i) k:=λk=>by rw[et,if_neg λq=>g1 q.1,gU]
 refine Za4 (λy w'=>w7=w'/\y=.bool (decide (isEnd x))) ?_ ?_
 rotate_left
 ·refine r_eql (r_ifE (λh=>r_ke ⟨rfl,by rw[show decide (isEnd x)=true from decide_eq_true (.inl h)];congr 1;exact beq_iff_eq.2 h⟩) λh=>?_);refine r_eql (r_ke ⟨rfl,?_⟩)
  congr 1
  rw[Bool.eq_iff_iff,decide_eq_true_iff,beq_iff_eq];unfold isEnd;omega
 rintro _ _ _ ⟨rfl,rfl⟩;refine r_ifD (λg2=>?_) λg2=>?_
 ·refine r_fo0 (r_ld 0 H7 (v:=iv x.jb) rfl rfl ?_);refine r_lkM (t:=tMi) (kt:=tIn) (et:=tIn) (x:=.i .i64 0) (z:=nv 0) (by kernel_rfl) (by kernel_rfl) (by kernel_rfl) rfl 2 H7 rfl ?_;rcases hfe x.jb with⟨hid,n,hfn,hn0⟩|⟨hid,hfn⟩
  ·rw[hfn,Option.getD_some];refine r_gtr (r_vtD (by omega) ?_);refine Za2 (by omega) (r_ke ⟨idle es w7 (λq=>q.2 hid) (λq=>by unfold isEnd at g2;have:=q.1;omega) (λk=>by rw[hes,et']) S H7.drop,mu⟩)
  rw[hfn,Option.getD_none];refine r_gtr (r_vfD (by decide) ?_);refine r_fo0 (r_ld 0 H7 (v:=iv x.jb) rfl rfl (r_fo0 (r_ld 0 H7 (v:=iv x.ty) rfl rfl (r_eql ?_))));refine r_fo0 (r_ld 0 H7 (v:=iv x.er) rfl rfl ?_);refine r_bd (v:=.agg (cellsEn ⟨x.jb,x.ty==67,⟨#[]⟩,x.er⟩).toArray) (by kernel_rfl) ?_;refine r_new H7 λcb w8 S8 H8=>?_;rw[Zi4] at H8;refine r_stA 0 H8 (vs:=cellsEn ⟨x.jb,x.ty==67,⟨#[]⟩,x.er⟩) rfl (Nat.le_refl 4) rfl rfl λw9 S9 H9=>?_;replace S:=S.trans (S8.trans S9)
  replace H9:Holds w9 (blk cb tEn (cellsEn ⟨x.jb,x.ty==67,⟨#[]⟩,x.er⟩)::blk ab tAn (cellsAn x)::TM tU8 mb es::MP eb fe::RW cellsEn 4 tEn (.slice o1 (seeP (l.take i)).length q1) (seeP (l.take i))::RW cellsAn 4 tAn (.slice o2 (refsOf (l.take i)).length q2) (refsOf (l.take i)) ::
    blk vb tVi (cellsV o1 (seeP (l.take i)).length q1 o2 (refsOf (l.take i)).length q2)::blk xb tVi (cellsV none 0 0 none 0 0)::L):=H9
  clear S8 S9 H7 H8
  refine Zfa (λw'=>Same w w'/\Holds w' (blk cb tEn (cellsEn (endOf (l.take i) x))::blk ab tAn (cellsAn x)::TM tU8 mb es::MP eb fe::RW cellsEn 4 tEn (.slice o1 (seeP (l.take i)).length q1) (seeP (l.take i))::RW cellsAn 4 tAn (.slice o2 (refsOf (l.take i)).length q2) (refsOf (l.take i)) ::
    blk vb tVi (cellsV o1 (seeP (l.take i)).length q1 o2 (refsOf (l.take i)).length q2)::blk xb tVi (cellsV none 0 0 none 0 0)::L)) ?_ ?_
  rotate_left
  ·refine r_fo0 (r_ld 0 H9 (v:=.bool (x.ty==67)) rfl rfl (r_vif (λg3=>?_) λg3=>?_))
   ·refine r_fo0 (r_ld 1 H9 (v:=iv x.jb) rfl rfl ?_);refine r_lkT (t:=tMb) (kt:=tIn) (et:=98) (x:=.l none 0 0) (by kernel_rfl) (by kernel_rfl) (by kernel_rfl) rfl 2 H9 rfl ?_;refine r_cwT (es:=es) (k:=x.jb) 2 H9 rfl ?_;refine r_fo0 (r_st 0 H9 rfl (by simp[cellsEn]) rfl λw10 S10 H10=>?_);refine r_ke ⟨S.trans S10,?_⟩
    have he:endOf (l.take i) x=⟨x.jb,x.ty==67,⟨(byT es x.jb).toArray⟩,x.er⟩:=by
     unfold endOf;rw[if_pos (beq_iff_eq.1 g3),hes]
    rw[he];exact H10
   ·refine r_ke ⟨S,?_⟩
    have he:endOf (l.take i) x=⟨x.jb,x.ty==67,⟨#[]⟩,x.er⟩:=by
     unfold endOf;rw[if_neg (beq_eq_false_iff_ne.1 g3)]
    rw[he];exact H9
  clear S H9;rintro _ w10 ⟨S,H⟩;rw[if_pos ⟨g2,hid⟩] at ep
  have nr:¬ isRef x:=λq=>by unfold isEnd at g2;have:=q.1;omega
  rw[if_neg nr,gU] at er;refine r_fo0 (r_ld 6 H rfl rfl ?_);refine r_ldA 0 H (cellsEn (endOf (l.take i) x)) rfl rfl rfl ?_;refine Zbv H 4 (endOf (l.take i) x) rfl (by kernel_rfl) (λ_=>rfl) en_sg (by omega) (by decide) λv w11 S11 H11=>?_;obtain⟨o4,m4,sp4,rfl,_⟩:=H11.openRW 4 rfl;refine r_fo0 (r_st 6 H11 rfl (by simp[cellsV]) rfl λw12 S12 H12=>?_);refine r_fo0 (r_ld 1 H12 (v:=iv x.jb) rfl rfl (r_fo0 (r_ld 6 H12 rfl rfl (r_lnl ?_))));refine r_muM (t:=tMi) (kt:=tIn) (et:=tIn) (by kernel_rfl) (by kernel_rfl) 3 H12 rfl λw13 S13 H13=>?_;refine Za2 (by omega) (r_ke ⟨⟨i+1,es,(λj=>if j=x.jb then some (nv (seeP (l.take i)++[endOf (l.take i) x]).length) else fe j),o4,(seeP (l.take i)++[endOf (l.take i) x]).length+m4,o2,q2,by omega,rfl,λk=>by rw[hes,et'],?_,S.trans (S11.trans (S12.trans S13)),?_⟩,mu⟩)
  rotate_left
  ·rw[ep,er];exact H13.drop.drop
  ·rw[ep];intro k
   by_cases hk:k=x.jb
   ·refine .inl ⟨⟨endOf (l.take i) x,by simp,hk.symm⟩,(seeP (l.take i)++[endOf (l.take i) x]).length,if_pos hk,by simp⟩
   ·rcases hfe k with⟨⟨e,he,hi2⟩,n,g,g'⟩|⟨g,g'⟩
    ·exact .inl ⟨⟨e,List.mem_append_left _ he,hi2⟩,n,by simp only[if_neg hk];exact g,g'⟩
    ·refine .inr ⟨λ⟨e,he,hi2⟩=>?_,by simp only[if_neg hk];exact g'⟩;rcases hT_.1 he with he|he
     ·exact g ⟨e,he,hi2⟩
     ·rw[mem_singleton.1 he] at hi2;exact hk hi2.symm
 have nend:¬ (isEnd x/\¬ hasId (seeP (l.take i)) x.jb):=λq=>g2 q.1;refine r_eql (r_ifE (λg3=>?_) λg3=>?_)
 ·refine r_fo0 (r_ld 0 H7 (v:=iv x.er) rfl rfl (r_neq (r_ifN (λg4=>?_) λg4=>?_)))
  ·rw[if_neg nend] at ep;rw[if_pos ⟨g3,g4⟩] at er;refine r_fo0 (r_ld 5 H7 rfl rfl ?_);refine r_ldA 0 H7 (cellsAn x) rfl rfl rfl ?_;refine Zbv H7 4 x rfl (by kernel_rfl) (λ_=>rfl) an_sg (by omega) (by decide) λv w11 S11 H11=>?_;obtain⟨o4,m4,sp4,rfl,_⟩:=H11.openRW 4 rfl;refine r_fo0 (r_st 5 H11 rfl (by simp[cellsV]) rfl λw12 S12 H12=>?_);refine Za2 (by omega) (r_ke ⟨⟨i+1,es,fe,o1,q1,o4,(refsOf (l.take i)++[x]).length+m4,by omega,rfl,λk=>by rw[hes,et'],by rw[ep];exact hfe,S.trans (S11.trans S12),?_⟩,mu⟩);rw[ep,er];exact H12.drop
  ·exact Za2 (by omega) (r_ke ⟨idle es w7 nend (λq=>q.2 g4) (λk=>by rw[hes,et']) S H7.drop,mu⟩)
 ·exact Za2 (by omega) (r_ke ⟨idle es w7 nend (λq=>g3 q.1) (λk=>by rw[hes,et']) S H7.drop,mu⟩)
end S46
end Go.Proofs.YthhkodlnfogkgaaGreatDoor
namespace Go.Proofs.YthhkodlnfogkgaaGreatDoor
open Go Go.Vc Go.Proofs.Tryz
namespace F33
open Go.M31 J30 J31 J32
inductive FrsR:List UInt8->List Fr->Prop
 |stop {B:List UInt8} {e:Nat} (h:dec B=.no e):FrsR B []
 |go {B:List UInt8} {f:Fr} {n:Nat} {fs:List Fr} (h:dec B=.ok f n) (t:FrsR (B.drop n) fs):FrsR B (f::fs)
inductive FsR (ts:List Tn):List Fr->Option Nat->Prop
 |nil:FsR ts [] none
 |hit {f:Fr} {fs:List Fr} {i:Nat} (hl:logs f) (hi:First ts f.da i):FsR ts (f::fs) (some i)
 |go {f:Fr} {fs:List Fr} {r:Option Nat} (hn:¬ logs f\/Nobody ts f.da) (t:FsR ts fs r):FsR ts (f::fs) r
end F33
end Go.Proofs.YthhkodlnfogkgaaGreatDoor
namespace Go.Proofs.YthhkodlnfogkgaaGreatDoor
open Go Go.Vc Go.Proofs.Tryz
attribute [local irreducible] Vc.Nc Vc.Ld Vc.LdA Vc.St Vc.StA Vc.Fo Vc.Iaa Vc.Ias Vc.Ixs Vc.Ixa Vc.Fd Vc.FdA Vc.Bp Vc.Bb Vc.Bn Vc.Up Vc.Ci Vc.Lns Vc.Lnl Vc.Ex Vc.Sst Vc.Ssl Vc.New Vc.Vif Vc.VJoin Vc.VLoop Vc.KE Vc.Dr Vc.Rk Vc.Cl Vc.Cx Vc.Inv Vc.Be Vc.Cv Vc.Cw Vc.Mf Vc.Sl Vc.Lk Vc.Bd Vc.Bs Vc.Ms Vc.Mm Vc.Mu Vc.Me Vc.Es Vc.Rg Vc.Nx Vc.Ta Vc.Ap Vc.Usd Vc.Ust Vc.Cp Vc.Ln Vc.Bc Vc.Bmin Vc.Bmax Vc.Bdel Vc.Bclr Vc.Pk
namespace F33
open Go.M31 J30 J31 J32
variable {w:World}{L:List HProp}{K:KT}{s:List UInt8}
abbrev tGo:Nat:=103
abbrev tRo:Nat:=63
def frD:Dec->Fr
 |.no _=>fr0
 |.ok f _=>f
def lnD:Dec->Nat
 |.no _=>0
 |.ok _ n=>n
def erD:Dec->Nat
 |.no e=>e
 |.ok _ _=>0
def gotV (d:Dec):List Value:=[nv (frD d).ty,nv (frD d).jb,S_ (frD d).da,nv (lnD d),nv (erD d)]
theorem Zib:(zeroP prog tGo).cells.toList=gotV (.no 0):=by kernel_rfl
theorem Zfm:(zeroP prog tRo).cells.toList=[.slice none 0 0,iv 0,iv 0]:=by kernel_rfl
set_option maxRecDepth 1000000 in
instance rowFr:RowN prog 61 tFr 3:=⟨underlying61,_,_,rfl,rfl,by decide,rfl,rfl⟩
theorem fr_sg:∀ y:Fr,∀ u∈cellsF y,sg u=true:=by
 intro y u hu;simp only[cellsF,mem_cons,not_mem_nil,or_false] at hu
 rcases hu with rfl|rfl|rfl <;> rfl
theorem Zdd (H:Holds w L) (h4:4<=s.length) (k:∀ w',Same w w'->Holds w' L->K (nv (numK s 4)) w'):Cl prog 55 #[S_ s] w K:=by
 refine Tz55 ?_;unfold Vz55;refine r_dr H λw1 S1 H1=>?_;have h0:=(s.getD 0 0).toNat_lt;have h1:=(s.getD 1 0).toNat_lt;have h2:=(s.getD 2 0).toNat_lt;have h3:=(s.getD 3 0).toNat_lt
 have e:((numK s 4:Nat):Int)=((s.getD 0 0).toNat:Int)*16777216+((s.getD 1 0).toNat:Int)*65536+((s.getD 2 0).toNat:Int)*256+((s.getD 3 0).toNat:Int):=by
  simp only[numK];omega
 refine q_ix (m:=0) (by omega) (Zbb (by omega) (by omega) (r_mul (by omega) (by omega) ?_));refine q_ix (m:=1) (by omega) (Zbb (by omega) (by omega) (r_mul (by omega) (by omega) (r_add (by omega) (by omega) ?_)));refine q_ix (m:=2) (by omega) (Zbb (by omega) (by omega) (r_mul (by omega) (by omega) (r_add (by omega) (by omega) ?_)));refine q_ix (m:=3) (by omega) (Zbb (by omega) (by omega) (r_add (by omega) (by omega) ?_));have:=k w1 S1 H1;rw[show nv (numK s 4)=iv _ from congrArg iv e] at this;exact this
theorem Zji {n:Nat}(k:K (.bool (decide (cli n\/srv n))) w):Cl prog 54 #[nv n] w K:=by
 refine Tz54 ?_;unfold Vz54;unfold cli srv at k;refine r_geq (r_ifD (λh1=>?_) λh1=>?_)
 ·refine r_leq (r_ifD (λh2=>?_) λh2=>?_)
  ·rw[decide_eq_true (by omega)] at k;exact k
  ·refine r_geq (r_ifD (λh3=>?_) λh3=>?_)
   ·refine r_leq ?_;rw[show decide ((n:Int)<=70)=decide (1<=n/\n<=7\/65<=n/\n<=70) by rw[Bool.eq_iff_iff,decide_eq_true_iff,decide_eq_true_iff];omega];exact k
   ·rw[decide_eq_false (by omega)] at k;exact k
 ·refine r_geq (r_ifD (λh3=>?_) λh3=>?_)
  ·refine r_leq ?_;rw[show decide ((n:Int)<=70)=decide (1<=n/\n<=7\/65<=n/\n<=70) by rw[Bool.eq_iff_iff,decide_eq_true_iff,decide_eq_true_iff];omega];exact k
  ·rw[decide_eq_false (by omega)] at k;exact k
theorem Zl4 (d:Dec):(gotV d).all sg=true:=rfl
theorem Zgs (H:Holds w L) (hs:s.length<=1000000) (k:∀ w',Same w w'->Holds w' L->K (.agg (gotV (dec s)).toArray) w'):Cl prog 34 #[S_ s] w K:=by
 refine Tz34 ?_;unfold Vz34;refine r_new H λb w1 S1 H1=>?_;rw[Zib] at H1
 have fin:∀ (d:Dec) w',dec s=d->Same w w'->Holds w' (blk b tGo (gotV (.no 0))::L)->StA 5 (pt b) (.agg (gotV d).toArray) w' λw2=>LdA 5 (pt b) w2 λy=>K y w2:=by
  intro d w' he Sz Hz;refine r_stA 0 Hz (vs:=gotV d) rfl (Nat.le_refl 5) rfl (Zl4 d) λw2 S2 H2=>?_;refine r_ldA 0 H2 (gotV d) rfl rfl rfl ?_;have:=k w2 (Sz.trans S2) H2.drop;rw[he] at this;exact this
 refine q_len (r_eql (r_ifE (λh=>?_) λh=>?_))
 ·have h0:s=[]:=eq_nil_of_length_eq_zero (by omega);exact r_bd (v:=.agg (gotV (.no 3)).toArray) (by kernel_rfl) (fin _ w1 (by unfold dec;rw[if_pos h0]) S1 H1)
 have hp:0 < s.length:=by omega
 have h0:s≠[]:=gZ.1 hp;have hb0:=(s.getD 0 0).toNat_lt;refine q_ix (m:=0) hp (Zbb (by omega) (by omega) ?_);refine Zji (r_not (r_vif (λh2=>?_) λh2=>?_))
 ·have h2':¬ (cli (s.getD 0 0).toNat\/srv (s.getD 0 0).toNat):=by simpa using h2
  exact r_bd (v:=.agg (gotV (.no 35)).toArray) (by kernel_rfl) (fin _ w1 (by unfold dec;rw[if_neg h0,if_pos h2']) S1 H1)
 have h2':¬ ¬ (cli (s.getD 0 0).toNat\/srv (s.getD 0 0).toNat):=by simpa using h2
 refine q_len (r_lss (r_ifD (λh3=>?_) λh3=>?_))
 ·exact r_bd (v:=.agg (gotV (.no 3)).toArray) (by kernel_rfl) (fin _ w1 (by unfold dec;rw[if_neg h0,if_neg h2',if_pos (by omega)]) S1 H1)
 have hd:dec s=if 65536 < numK (s.drop 5) 4 then .no 2 else if s.length - 9 < numK (s.drop 5) 4 then .no 3 else .ok ⟨(s.getD 0 0).toNat,numK (s.drop 1) 4,(s.take (9+numK (s.drop 5) 4)).drop 9⟩ (9+numK (s.drop 5) 4):=by
  unfold dec;rw[if_neg h0,if_neg h2',if_neg (by omega)]
 have hk:∀ a:Nat,a<=5->numK ((s.take (a+4)).drop a) 4=numK (s.drop a) 4:=by
  intro a ha;simp only[numK,gB,hH_,List.getElem?_take];rw[if_pos (by omega),if_pos (by omega),if_pos (by omega),if_pos (by omega)]
 refine q_DT (a:=5) (b:=9) (by omega) (by omega) ?_;refine Zdd H1 (by rw[gS,gN];omega) λw2 S2 H2=>?_;rw[hk 5 (by omega)];have S:=S1.trans S2;clear S1 S2 H1;generalize hn:numK (s.drop 5) 4=n at *;refine r_gtr (r_ifD (λh4=>?_) λh4=>?_)
 ·exact r_bd (v:=.agg (gotV (.no 2)).toArray) (by kernel_rfl) (fin _ w2 (by rw[hd,if_pos (by omega)]) S H2)
 refine q_len (Zae (a:=9) (b:=n) (by omega) (r_lss (r_ifD (λh5=>?_) λh5=>?_)))
 ·exact r_bd (v:=.agg (gotV (.no 3)).toArray) (by kernel_rfl) (fin _ w2 (by rw[hd,if_neg (by omega),if_pos (by omega)]) S H2)
 refine r_dr H2 λw3 S3 H3=>?_;refine q_ix (m:=0) hp (Zbb (by omega) (by omega) ?_);refine q_DT (a:=1) (b:=5) (by omega) (by omega) ?_;refine Zdd H3 (by rw[gS,gN];omega) λw4 S4 H4=>?_;rw[hk 1 (by omega)];refine Zae (a:=9) (b:=n) (by omega) ?_;refine q_DT (a:=9) (b:=9+n) (by omega) (by omega) ?_;refine r_rk (q_DT (a:=9) (b:=9+n) (by omega) (by omega) rfl) ?_;refine r_bd (v:=.agg (cellsF ⟨(s.getD 0 0).toNat,numK (s.drop 1) 4,(s.take (9+n)).drop 9⟩).toArray) (by kernel_rfl) ?_;refine Zae (a:=9) (b:=n) (by omega) ?_;refine r_bd (v:=.agg (gotV (.ok ⟨(s.getD 0 0).toNat,numK (s.drop 1) 4,(s.take (9+n)).drop 9⟩ (9+n))).toArray) (by kernel_rfl) ?_;exact fin _ w4 (by rw[hd,if_neg (by omega),if_neg (by omega)]) (S.trans (S3.trans S4)) H4
end F33
namespace D46
open Go.M31 J30 P46 O46 F33 S4r
open A46 hiding pt
variable {w:World}{L:List HProp}{K:KT}{s:List UInt8}
abbrev tTo:Nat:=70
abbrev tAs:Nat:=32
def toV:Option An->List Value
 |some a=>cellsAn a++[.bool true]
 |none=>cellsAn An0++[.bool false]
theorem Zi2:(zeroP prog tTo).cells.toList=toV none:=by kernel_rfl
theorem Zhw:(zeroP prog tAs).cells.toList=[.slice none 0 0,iv 0]:=by kernel_rfl
theorem Zi1 (H:Holds w L) (hs:s.length<=900) (k:∀ v fs (n e:Nat) w',AllR s fs e->fs.length<=s.length->Same w w'->Holds w' (RW cellsF 3 tFr v fs::L)->K (.agg #[v,nv n,nv e]) w') :
  Cl prog 17 #[S_ s] w K:=by
 refine Tz17 ?_;unfold Vz17;refine r_new H λrb w1 S1 H1=>?_;rw[Zfm] at H1;refine r_bd (v:=.agg #[.slice none 0 0,iv 0,iv 0]) (by kernel_rfl) ?_;refine r_new H1 λob w2 S2 H2=>?_;rw[Zfm] at H2;refine r_stA 0 H2 (vs:=[.slice none 0 0,iv 0,iv 0]) rfl (Nat.le_refl 3) rfl rfl λw3 S3 H3=>?_;replace H3:Holds w3 (blk ob tRo [.slice none 0 0,nv 0,nv 0]::blk rb tRo [.slice none 0 0,iv 0,iv 0]::L):=H3;have S:=S1.trans (S2.trans S3);clear S1 S2 S3 H H1 H2;refine q_len ?_
 refine Zad (λx w'=>∃ (i:Nat) (fs:List Fr) (o:Option Addr) (q a:Nat),x=nv i/\i<=s.length/\a<=s.length/\i<=a/\fs.length<=a/\(∀ gs e,AllR (s.drop a) gs e->AllR s (fs++gs) e)/\Same w w'/\
   Holds w' (RW cellsF 3 tFr (.slice o fs.length q) fs::blk ob tRo [.slice o fs.length q,nv a,nv 0]::blk rb tRo [.slice none 0 0,iv 0,iv 0]::L))
  (λx _=>s.length - (intOf x).toNat) ⟨0,[],none,0,0,rfl,by omega,by omega,by omega,by simp,λgs e h=>h,S,H3.nilRW cellsF 3 tFr⟩ ?_
 clear H3 S;rintro _ _ w4 ⟨i,fs,o,q,a,rfl,hi,ha,hia,hfa,hF,S,H⟩
 have fin:∀ (e:Nat) w',AllR s fs e->Same w w'->Holds w' (RW cellsF 3 tFr (.slice o fs.length q) fs::blk ob tRo [.slice o fs.length q,nv a,nv e]::blk rb tRo [.slice none 0 0,iv 0,iv 0]::L)->
   LdA 3 (pt ob) w' λx=>StA 3 (pt rb) x w' λw2=>LdA 3 (pt rb) w2 λy=>K y w2:=by
  intro e w' he Sz Hz;refine r_ldA 1 Hz [.slice o fs.length q,nv a,nv e] rfl rfl rfl ?_;refine r_stA 2 Hz (vs:=[.slice o fs.length q,nv a,nv e]) rfl (Nat.le_refl 3) rfl rfl λw5 S5 H5=>?_;refine r_ldA 2 H5 [.slice o fs.length q,nv a,nv e] rfl rfl rfl ?_;exact k _ fs a e w5 he (by omega) (Sz.trans S5) (Holds.dropAt (Holds.dropAt H5 1) 1)
 have stop:s.length<=a->AllR s fs 0:=λh=>by
  have h0:s.drop a=[]:=drop_of_length_le h;have:=hF [] 0 (by rw[h0];exact .nil)
  rwa [gU] at this
 refine r_lss (r_ifD (λh=>?_) λh=>fin 0 w4 (stop (by omega)) S H);refine r_fo0 (r_ld 1 H (v:=nv a) rfl rfl (q_len (r_eql (r_ifE (λg=>fin 0 w4 (stop (by omega)) S H) λg=>?_))))
 have hlt:a < s.length:=by omega
 refine r_fo0 (r_ld 1 H (v:=nv a) rfl rfl (q_D (m:=a) ha ?_));refine Zgs H (by rw[gS];omega) λw5 S5 H5=>?_;refine r_new H5 λgb w6 S6 H6=>?_;rw[Zib] at H6;refine r_stA 0 H6 (vs:=gotV (dec (s.drop a))) rfl (Nat.le_refl 5) rfl (Zl4 _) λw7 S7 H7=>?_;replace H7:Holds w7 (blk gb tGo (gotV (dec (s.drop a)))::RW cellsF 3 tFr (.slice o fs.length q) fs::blk ob tRo [.slice o fs.length q,nv a,nv 0]::blk rb tRo [.slice none 0 0,iv 0,iv 0]::L):=H7;replace S:=S.trans (S5.trans (S6.trans S7));clear S5 S6 S7 H H5 H6
 have hne:s.drop a≠[]:=λh0=>by
  have:=congrArg List.length h0;rw[gS,length_nil] at this;omega
 cases hd:dec (s.drop a) with
 |no e=>
  rw[hd] at H7;have he:=Zig hd;refine r_fo0 (r_ld 0 H7 (v:=nv e) rfl rfl (r_neq (r_ifN (λ_=>?_) λg1=>absurd g1 (by show ¬ ((e:Int)=0);omega))));refine r_fo0 (r_ld 0 H7 (v:=nv e) rfl rfl (r_fo0 ?_));refine r_st 2 H7 rfl (by simp) rfl λw8 S8 H8=>?_;have hfr:=hF [] e (.err hne hd);rw[gU] at hfr;exact fin e w8 hfr (S.trans S8) H8.drop
 |ok f n=>
  rw[hd] at H7;obtain⟨hn9,hnl,hj,hda,_⟩:=Zi0 hd;rw[gS] at hnl;refine r_fo0 (r_ld 0 H7 (v:=nv 0) rfl rfl (r_neq (r_vfN rfl ?_)));refine r_fo0 (r_ld 2 H7 (v:=.slice o fs.length q) rfl rfl (r_fo0 ?_));refine r_ldA 0 H7 (cellsF f) rfl rfl rfl ?_;refine Zbv H7 1 f rfl (by kernel_rfl) (λ_=>rfl) fr_sg (by omega) (by decide) λv w8 S8 H8=>?_;obtain⟨o4,m4,sp4,rfl,_⟩:=H8.openRW 1 rfl;refine r_fo0 (r_st 2 H8 rfl (by simp) rfl λw9 S9 H9=>?_);refine r_fo0 (r_ld 2 H9 (v:=nv a) rfl rfl (r_fo0 (r_ld 0 H9 (v:=nv n) rfl rfl (Zae (a:=a) (b:=n) (by omega) (r_fo0 ?_)))));refine r_st 2 H9 rfl (by simp) rfl λw10 S10 H10=>?_;refine Za2 (by omega) (r_ke ⟨⟨i+1,fs++[f],o4,(fs++[f]).length+m4,a+n,rfl,by omega,by omega,by omega,by rw[gD,gQ];omega,Zip hlt hF hd,S.trans (S8.trans (S9.trans S10)),H10.drop⟩,?_⟩);simp only[intOf,gC];omega
theorem Zff {f:Fr}(H:Holds w L) (h1:f.jb<=4294967295) (h2:f.da.length<=65536) (k:∀ w',Same w w'->Holds w' L->K (.bool true) w'):Cl prog 35 #[.agg (cellsF f).toArray] w K:=by
 refine Tz35 ?_;unfold Vz35;refine r_new H λb w1 S1 H1=>?_;replace H1:Holds w1 (blk b tFr (cellsF f)::L):=H1;refine r_fo0 (r_ld 0 H1 rfl rfl (r_geq (r_vtD (by omega) ?_)));refine r_fo0 (r_ld 0 H1 rfl rfl (r_leq (r_vtD (by omega) ?_)));refine r_fo0 (r_ld 0 H1 rfl rfl (q_len (r_leq ?_)));rw[decide_eq_true (by omega)];exact k _ S1 H1.drop
theorem Zju {a:An}{z:Bool}(H:Holds w L) (k:∀ w',Same w w'->Holds w' L->K (.agg (toV (if z then some a else none)).toArray) w'):Cl prog 36 #[.agg (cellsAn a++[Value.bool z]).toArray] w K:=by
 refine Tz36 ?_;unfold Vz36;refine r_new H λtb w1 S1 H1=>?_;replace H1:Holds w1 (blk tb tTo (cellsAn a++[.bool z])::L):=H1;refine r_new H1 λxb w2 S2 H2=>?_;rw[Zi2] at H2;refine r_fo0 (r_ld 1 H2 (v:=.bool z) rfl rfl ?_)
 cases z with
 |false=>
  refine r_not (r_vt ?_);refine r_bd (v:=.agg (toV none).toArray) (by kernel_rfl) ?_;refine r_stA 0 H2 (vs:=toV none) rfl (Nat.le_refl 5) rfl rfl λw3 S3 H3=>?_;refine r_ldA 0 H3 (toV none) rfl rfl rfl ?_;exact k w3 (S1.trans (S2.trans S3)) H3.drop.drop
 |true=>
  refine r_not (r_vf ?_);refine r_ldA 1 H2 (toV (some a)) rfl rfl rfl ?_;refine r_stA 0 H2 (vs:=toV (some a)) rfl (Nat.le_refl 5) rfl rfl λw3 S3 H3=>?_;refine r_ldA 0 H3 (toV (some a)) rfl rfl rfl ?_;exact k w3 (S1.trans (S2.trans S3)) H3.drop.drop
theorem Zjs {f:Fr}(H:Holds w L) (h1:f.jb<=4294967295) (h2:f.da.length<=65536) (k:∀ w',Same w w'->Holds w' L->K (.agg (toV (hear f)).toArray) w'):Cl prog 18 #[.agg (cellsF f).toArray] w K:=by
 refine Tz18 ?_;unfold Vz18;refine r_new H λfb w1 S1 H1=>?_;replace H1:Holds w1 (blk fb tFr (cellsF f)::L):=H1;refine r_new H1 λxb w2 S2 H2=>?_;rw[Zi2] at H2;refine r_fo0 (r_ld 1 H2 rfl rfl (r_fo0 (r_ld 1 H2 rfl rfl ?_)));refine r_bd (v:=.agg (cellsAn ⟨f.ty,f.jb,⟨#[]⟩,0⟩).toArray) (by kernel_rfl) ?_;refine r_new H2 λab w3 S3 H3=>?_;rw[Zg4] at H3;refine r_stA 0 H3 (vs:=cellsAn ⟨f.ty,f.jb,⟨#[]⟩,0⟩) rfl (Nat.le_refl 4) rfl rfl λw4 S4 H4=>?_;replace H4:Holds w4 (blk ab tRA (cellsAn ⟨f.ty,f.jb,⟨#[]⟩,0⟩)::blk xb tTo (toV none)::blk fb tFr (cellsF f)::L):=H4;have S:=S1.trans (S2.trans (S3.trans S4));clear S1 S2 S3 S4 H H1 H2 H3
 have fin:∀ (a:An) (o:Option An) w',hear f=o->Same w w'->Holds w' (blk ab tRA (cellsAn a)::blk xb tTo (toV none)::blk fb tFr (cellsF f)::L)->
   StA 5 (pt xb) (.agg (toV o).toArray) w' λw2=>LdA 5 (pt xb) w2 λy=>K y w2:=by
  intro a o w' he Sz Hz;refine r_stA 1 Hz (vs:=toV o) rfl (by cases o <;> exact Nat.le_refl 5) (by cases o <;> rfl) (by cases o <;> rfl) λw5 S5 H5=>?_;refine r_ldA 1 H5 (toV o) rfl (by cases o <;> rfl) (by cases o <;> rfl) ?_;have:=k w5 (Sz.trans S5) H5.drop.drop.drop;rw[he] at this;exact this
 refine Za4 (λx w'=>∃ z:Bool,x=.bool z/\(z=true->hear f=none)/\(z=false->65<=f.ty/\f.ty<=70)/\Same w w'/\Holds w' (blk ab tRA (cellsAn ⟨f.ty,f.jb,⟨#[]⟩,0⟩)::blk xb tTo (toV none)::blk fb tFr (cellsF f)::L)) ?_ ?_
 rotate_left
 ·have hn:(f.ty < 65\/70 < f.ty)->hear f=none:=by
   intro h;unfold hear;rw[if_neg (by omega),if_neg (by omega),if_neg (by omega),if_neg (by omega)]
  refine r_ldA 2 H4 (cellsF f) rfl rfl rfl ?_;refine Zff H4 h1 h2 λw5 S5 H5=>?_;refine r_not (r_vf ?_);refine r_fo0 (r_ld 2 H5 (v:=nv f.ty) rfl rfl (r_lss (r_ifD (λh=>r_ke ⟨true,rfl,λ_=>hn (.inl (by omega)),λe=>(by cases e),S.trans S5,H5⟩) λh=>?_)));refine r_fo0 (r_ld 2 H5 (v:=nv f.ty) rfl rfl (r_gtr (r_ke ⟨_,rfl,λe=>hn (.inr ?_),λe=>?_,S.trans S5,H5⟩)))
  ·have:=of_decide_eq_true e;omega
  ·have:=of_decide_eq_false e;omega
 clear H4 S;rintro _ _ w5 ⟨z,rfl,hz1,hz2,S,H⟩;refine r_vif (λe=>?_) λe=>?_
 ·exact r_bd (v:=.agg (toV none).toArray) (by kernel_rfl) (fin _ none w5 (hz1 e) S H)
 obtain⟨g65,g70⟩:=hz2 e;clear hz1 hz2 e;refine r_fo0 (r_ld 2 H (v:=nv f.ty) rfl rfl (r_eql (r_ifE (λg3=>?_) λg3=>?_)))
 ·refine r_ldA 0 H (cellsAn ⟨f.ty,f.jb,⟨#[]⟩,0⟩) rfl rfl rfl ?_;refine r_fo0 (r_ld 2 H rfl rfl (Zh8 ?_))
  have hz:((⟨f.da.toArray⟩:ByteArray).size==0)=decide (f.da=[]):=by
   rw[Bool.eq_iff_iff,beq_iff_eq,decide_eq_true_iff,sz];exact⟨λh=>eq_nil_of_length_eq_zero h,λh=>by rw[h];rfl⟩
  have hz':decide ((⟨f.da.toArray⟩:ByteArray).size=0)=decide (f.da=[]):=by
   rw[Bool.eq_iff_iff,decide_eq_true_iff,decide_eq_true_iff,sz];exact⟨λh=>eq_nil_of_length_eq_zero h,λh=>by rw[h];rfl⟩
  rw[hz'];refine r_bd (v:=.agg (cellsAn ⟨f.ty,f.jb,⟨#[]⟩,0⟩++[Value.bool (decide (f.da=[]))]).toArray) (by kernel_rfl) ?_;refine Zju H λw6 S6 H6=>?_;refine fin _ _ w6 ?_ (S.trans S6) H6;unfold hear;rw[if_neg (by omega),if_neg (by omega),if_pos (by omega)]
  by_cases hd:f.da=[]
  ·rw[if_pos hd,if_pos (decide_eq_true hd)]
  ·rw[if_neg hd,if_neg (by simpa using hd)]
 refine Za4 (λx w'=>w5=w'/\x=.bool (decide (f.ty=68\/f.ty=69))) ?_ ?_
 rotate_left
 ·refine r_fo0 (r_ld 2 H (v:=nv f.ty) rfl rfl (r_eql (r_ifE (λh=>r_ke ⟨rfl,by rw[decide_eq_true (by omega)]⟩) λh=>?_)));refine r_fo0 (r_ld 2 H (v:=nv f.ty) rfl rfl (r_eql (r_ke ⟨rfl,?_⟩)))
  congr 1
  rw[Bool.eq_iff_iff,decide_eq_true_iff,beq_iff_eq];omega
 rintro _ _ _ ⟨rfl,rfl⟩;refine r_ifD (λg4=>?_) λg4=>?_
 ·have hb:=(f.da.getD 0 0).toNat_lt
  have hh:hear f=if f.da.length=1/\0 < (f.da.getD 0 0).toNat then some ⟨f.ty,f.jb,⟨#[]⟩,((f.da.getD 0 0).toNat:Int)⟩ else none:=by
   unfold hear;rw[if_neg (by omega),if_neg (by omega),if_neg (by omega),if_pos g4]
  refine Za4 (λx w'=>w5=w'/\x=.bool (!decide (f.da.length=1/\0 < (f.da.getD 0 0).toNat))) ?_ ?_
  rotate_left
  ·refine r_fo0 (r_ld 2 H rfl rfl (q_len (r_neq (r_ifN (λh=>r_ke ⟨rfl,by rw[decide_eq_false (by omega)];rfl⟩) λh=>?_))));refine r_fo0 (r_ld 2 H rfl rfl (q_ix (m:=0) (by omega) (r_eql (r_ke ⟨rfl,?_⟩))))
   congr 1
   rw[Bool.eq_iff_iff,beq_iff_eq,Bool.not_eq_true',decide_eq_false_iff_not];omega
  rintro _ _ _ ⟨rfl,rfl⟩
  by_cases g5:f.da.length=1/\0 < (f.da.getD 0 0).toNat
  ·rw[if_pos g5] at hh;rw[decide_eq_true g5];refine r_vf ?_;refine r_fo0 (r_ld 2 H rfl rfl (q_ix (m:=0) (by omega) (Zbb (by omega) (by omega) (r_fo0 ?_))));refine r_st 0 H rfl (by simp[cellsAn]) rfl λw6 S6 H6=>?_;replace H6:Holds w6 (blk ab tRA (cellsAn ⟨f.ty,f.jb,⟨#[]⟩,((f.da.getD 0 0).toNat:Int)⟩)::blk xb tTo (toV none)::blk fb tFr (cellsF f)::L):=H6;refine r_ldA 0 H6 (cellsAn ⟨f.ty,f.jb,⟨#[]⟩,((f.da.getD 0 0).toNat:Int)⟩) rfl rfl rfl ?_;refine r_bd (v:=.agg (toV (some ⟨f.ty,f.jb,⟨#[]⟩,((f.da.getD 0 0).toNat:Int)⟩)).toArray) (by kernel_rfl) ?_;exact fin _ _ w6 hh (S.trans S6) H6
  ·rw[if_neg g5] at hh;rw[decide_eq_false g5];refine r_vt ?_;exact r_bd (v:=.agg (toV none).toArray) (by kernel_rfl) (fin _ none w5 hh S H)
 have hh:hear f=if f.ty=66\/f.jb=0 then some ⟨f.ty,f.jb,⟨f.da.toArray⟩,0⟩ else none:=by
  unfold hear
  by_cases g5:f.ty=66
  ·rw[if_neg (by omega),if_pos g5,if_pos (.inl g5)]
  ·rw[if_pos (by omega)]
   by_cases g6:f.jb=0
   ·rw[if_pos g6,if_pos (.inr g6)]
   ·rw[if_neg g6,if_neg (by omega)]
 refine Za4 (λx w'=>w5=w'/\x=.bool (!decide (f.ty=66\/f.jb=0))) ?_ ?_
 rotate_left
 ·refine r_fo0 (r_ld 2 H (v:=nv f.ty) rfl rfl (r_neq (r_ifN (λh=>?_) λh=>r_ke ⟨rfl,by rw[decide_eq_true (by omega)];rfl⟩)));refine r_fo0 (r_ld 2 H (v:=nv f.jb) rfl rfl (r_neq (r_ke ⟨rfl,?_⟩)))
  congr 1
  rw[Bool.eq_iff_iff,Bool.not_eq_true',decide_eq_false_iff_not,bne_iff_ne];omega
 rintro _ _ _ ⟨rfl,rfl⟩
 by_cases g5:f.ty=66\/f.jb=0
 ·rw[if_pos g5] at hh;rw[decide_eq_true g5];refine r_vf ?_;refine r_fo0 (r_ld 2 H rfl rfl (r_fo0 ?_));refine r_st 0 H rfl (by simp[cellsAn]) rfl λw6 S6 H6=>?_;replace H6:Holds w6 (blk ab tRA (cellsAn ⟨f.ty,f.jb,⟨f.da.toArray⟩,0⟩)::blk xb tTo (toV none)::blk fb tFr (cellsF f)::L):=H6;refine r_ldA 0 H6 (cellsAn ⟨f.ty,f.jb,⟨f.da.toArray⟩,0⟩) rfl rfl rfl ?_;refine r_bd (v:=.agg (toV (some ⟨f.ty,f.jb,⟨f.da.toArray⟩,0⟩)).toArray) (by kernel_rfl) ?_;exact fin _ _ w6 hh (S.trans S6) H6
 ·rw[if_neg g5] at hh;rw[decide_eq_false g5];refine r_vt ?_;exact r_bd (v:=.agg (toV none).toArray) (by kernel_rfl) (fin _ none w5 hh S H)
theorem Ze1 (H:Holds w L) (hs:s.length<=900)
  (k1:∀ (e:Nat) w',AnsR s [] e->e≠0->Same w w'->Holds w' L->K (.agg #[.slice none 0 0,nv e]) w')
  (k2:∀ v l w',AnsR s l 0->l.length<=900->Same w w'->Holds w' (RW cellsAn 4 tRA v l::L)->K (.agg #[v,nv 0]) w'):Cl prog 6 #[S_ s] w K:=by
 refine Tz6 ?_;unfold Vz6;refine r_new H λxb w1 S1 H1=>?_;rw[Zhw] at H1;refine Zi1 H1 hs λv fs n e w2 hfr hfl S2 H2=>?_;obtain⟨of,mf,spf,rfl,_⟩:=H2.openRW 0 rfl;refine r_new H2 λrb w3 S3 H3=>?_;rw[Zfm] at H3;refine r_stA 0 H3 (vs:=[.slice of fs.length (fs.length+mf),nv n,nv e]) rfl (Nat.le_refl 3) rfl rfl λw4 S4 H4=>?_;replace H4:Holds w4 (blk rb tRo [.slice of fs.length (fs.length+mf),nv n,nv e]::RW cellsF 3 tFr (.slice of fs.length (fs.length+mf)) fs::blk xb tAs [.slice none 0 0,iv 0]::L):=H4;have S:=S1.trans (S2.trans (S3.trans S4));clear S1 S2 S3 S4 H H1 H2 H3;refine r_fo0 (r_ld 0 H4 (v:=nv e) rfl rfl (r_neq (r_ifN (λh=>?_) λh=>?_)))
 ·refine r_fo0 (r_ld 0 H4 (v:=nv e) rfl rfl ?_);refine r_bd (v:=.agg #[.slice none 0 0,nv e]) (by kernel_rfl) ?_;refine r_stA 2 H4 (vs:=[.slice none 0 0,nv e]) rfl (Nat.le_refl 2) rfl rfl λw5 S5 H5=>?_;refine r_ldA 2 H5 [.slice none 0 0,nv e] rfl rfl rfl ?_;exact k1 e w5 (.bad hfr (by omega)) (by omega) (S.trans S5) H5.drop.drop.drop
 obtain rfl:e=0:=by omega
 refine r_fo0 (r_ld 0 H4 rfl rfl (r_lnl ?_))
 refine Zau (λx y w'=>∃ (i:Nat) (l:List An) (o:Option Addr) (q:Nat),i<=fs.length/\y=nv i/\x=.slice o l.length q/\l.length=i/\hearL (fs.take i)=some l/\Same w w'/\
   Holds w' (RW cellsAn 4 tRA (.slice o l.length q) l::blk rb tRo [.slice of fs.length (fs.length+mf),nv n,nv 0]::RW cellsF 3 tFr (.slice of fs.length (fs.length+mf)) fs::blk xb tAs [.slice none 0 0,iv 0]::L))
  (λ_ y _=>fs.length - (intOf y).toNat) ⟨0,[],none,0,by omega,rfl,rfl,rfl,rfl,S,H4.nilRW cellsAn 4 tRA⟩ ?_
 clear H4 S;rintro _ _ _ w2 ⟨i,l,o,q,hi,rfl,rfl,hl,hh,S,H⟩;refine r_lss (r_ifD (λh=>?_) λh=>?_)
 ·have hlt:i < fs.length:=by omega
  obtain⟨f,hf⟩:∃ f,fs[i]?=some f:=⟨_,gA hlt⟩;obtain⟨b1,b2⟩:=Zfd hfr f (mem_of_getElem? hf);refine S4r.r_ldG (S4r.InG.own 2 rfl λ_=>rfl) H hf rfl hlt ?_;refine r_new H λfb w3 S3 H3=>?_;rw[Zap] at H3;refine r_stA 0 H3 (vs:=cellsF f) rfl (Nat.le_refl 3) rfl rfl λw4 S4 H4=>?_;replace H4:Holds w4 (blk fb tFr (cellsF f)::RW cellsAn 4 tRA (.slice o l.length q) l::blk rb tRo [.slice of fs.length (fs.length+mf),nv n,nv 0]::RW cellsF 3 tFr (.slice of fs.length (fs.length+mf)) fs::blk xb tAs [.slice none 0 0,iv 0]::L):=H4;refine r_ldA 0 H4 (cellsF f) rfl rfl rfl ?_;refine Zjs H4 b1 b2 λw5 S5 H5=>?_
  have ht:fs.take (i+1)=fs.take i++[f]:=by rw[gO,hf];rfl
  have happ:=Zgq (fs.take i) f;rw[<-ht,hh] at happ;refine r_new H5 λtb w6 S6 H6=>?_;rw[Zi2] at H6
  cases hq:hear f with
  |none=>
   refine r_stA 0 H6 (vs:=toV none) rfl (Nat.le_refl 5) rfl rfl λw7 S7 H7=>?_;refine r_fo0 (r_ld 0 H7 (v:=.bool false) rfl rfl (r_not (r_vt ?_)));refine r_bd (v:=.agg #[.slice none 0 0,nv 35]) (by kernel_rfl) ?_;refine r_stA 5 H7 (vs:=[.slice none 0 0,nv 35]) rfl (Nat.le_refl 2) rfl rfl λw8 S8 H8=>?_;refine r_ldA 5 H8 [.slice none 0 0,nv 35] rfl rfl rfl ?_;exact k1 35 w8 (.no hfr (Zez hf hq)) (by decide) (S.trans (S3.trans (S4.trans (S5.trans (S6.trans (S7.trans S8)))))) H8.drop.drop.drop.drop.drop.drop
  |some a=>
   rw[hq] at happ;refine r_stA 0 H6 (vs:=toV (some a)) rfl (Nat.le_refl 5) rfl rfl λw7 S7 H7=>?_;replace H7:Holds w7 (blk tb tTo (toV (some a))::blk fb tFr (cellsF f)::RW cellsAn 4 tRA (.slice o l.length q) l::blk rb tRo [.slice of fs.length (fs.length+mf),nv n,nv 0]::RW cellsF 3 tFr (.slice of fs.length (fs.length+mf)) fs::blk xb tAs [.slice none 0 0,iv 0]::L):=H7;refine r_fo0 (r_ld 0 H7 (v:=.bool true) rfl rfl (r_not (r_vf ?_)));refine r_fo0 (r_ldA 0 H7 (cellsAn a) rfl rfl rfl ?_);refine Zbv H7 2 a rfl (by kernel_rfl) (λ_=>rfl) an_sg (by omega) (by decide) λv w8 S8 H8=>?_;obtain⟨o4,m4,sp4,rfl,_⟩:=H8.openRW 2 rfl;refine Za2 (by omega) (r_ke ⟨⟨i+1,l++[a],o4,(l++[a]).length+m4,by omega,rfl,rfl,by rw[gD,hl];rfl,happ,S.trans (S3.trans (S4.trans (S5.trans (S6.trans (S7.trans S8))))),H8.drop.drop⟩,?_⟩);simp only[intOf,gC];omega
 ·obtain rfl:i=fs.length:=by omega
  rw[hF_] at hh;refine r_bd (v:=.agg #[.slice o l.length q,nv 0]) (by kernel_rfl) ?_;refine r_stA 3 H (vs:=[.slice o l.length q,nv 0]) rfl (Nat.le_refl 2) rfl rfl λw8 S8 H8=>?_;refine r_ldA 3 H8 [.slice o l.length q,nv 0] rfl rfl rfl ?_;exact k2 _ l w8 (.ok hfr hh) (by omega) (S.trans S8) (Holds.dropAt (Holds.dropAt (Holds.dropAt H8 1) 1) 1)
end D46
namespace D46
open Go.M31 J30 P46 O46 S46 F33 S4r
open A46 hiding pt
variable {w:World}{L:List HProp}{K:KT}{s:List UInt8}
noncomputable instance hasDec (E:List En) (k:Int):Decidable (hasId E k):=Classical.propDecidable _
theorem Zg5 (x:En):∀ (d r:List En),(∀ y∈d,¬ x.id < y.id)->insE x (d++r)=d++insE x r
 |[],_,_=>rfl
 |y::d,r,h=>by
  rw[cons_append,insE,if_neg (h y (hJ_ ..)),Zg5 x d r λz hz=>h z (hK_ _ hz)];rfl
theorem Zma (x y:En) (d r:List En) (h:∀ y∈d,¬ x.id < y.id) (hy:x.id < y.id):insE x (d++y::r)=d++x::y::r:=by
 rw[Zg5 x d _ h,insE,if_pos hy]
def wOk (x:En) (l:List En) (i:Nat) (z:Bool) (d:List En):Prop:=(z=false/\d=l.take i/\∀ y∈d,¬ x.id < y.id)\/(z=true/\d=insE x (l.take i)/\∃ y∈l.take i,x.id < y.id)
theorem Zg9 (x y:En):∀ (d:List En),(∃ z∈d,x.id < z.id)->insE x (d++[y])=insE x d++[y]
 |[],⟨_,h,_⟩=>by cases h
 |u::d,⟨z,hz,hlt⟩=>by
  rw[cons_append,insE,insE]
  by_cases h:x.id < u.id
  ·rw[if_pos h,if_pos h];rfl
  ·rw[if_neg h,if_neg h];rcases mem_cons.1 hz with rfl|hz
   ·exact absurd hlt h
   ·rw[Zg9 x y d ⟨z,hz,hlt⟩];rfl
theorem Zlb {a:Option Addr}{l:List En}{c:Nat}{x:En}(H:Holds w L) (hl:l.length<=900) (hT:EnIn L a l)
  (k:∀ v w',Same w w'->Holds w' (RW cellsEn 4 tRE v (insE x l)::L)->K v w') :
  Cl prog 20 #[.slice a l.length c,.agg (cellsEn x).toArray] w K:=by
 refine Tz20 ?_
 unfold Vz20
 refine r_new H λxb w1 S1 H1=>?_;replace H1:Holds w1 (blk xb tRE (cellsEn x)::L):=H1;refine r_lnl ?_
 refine Zo8 (λu p y w'=>∃ (i:Nat) (z:Bool) (d:List En) (o:Option Addr) (q:Nat),i<=l.length/\y=nv i/\p=.bool z/\u=.slice o d.length q/\d.length<=i+1/\wOk x l i z d/\Same w w'/\
   Holds w' (RW cellsEn 4 tRE (.slice o d.length q) d::blk xb tRE (cellsEn x)::L))
  (λ_ _ y _=>l.length - (intOf y).toNat) ⟨0,false,[],none,0,by omega,rfl,rfl,rfl,by simp,.inl ⟨rfl,rfl,λy h=>(by cases h)⟩,S1,H1.nilRW cellsEn 4 tRE⟩ ?_
 clear S1 H H1;rintro _ _ _ _ w2 ⟨i,z,d,o,q,hi,rfl,rfl,rfl,hd,hw,S,H⟩;refine r_lss (r_ifD (λh=>?_) λh=>?_)
 ·have hlt:i < l.length:=by omega
  obtain⟨y,hy⟩:∃ y,l[i]?=some y:=⟨_,gA hlt⟩
  have htk:l.take (i+1)=l.take i++[y]:=by rw[gO,hy];rfl
  refine r_ldG hT.up.up H hy rfl hlt ?_;refine r_new H λyb w3 S3 H3=>?_;rw[Zek] at H3;refine r_stA 0 H3 (vs:=cellsEn y) rfl (Nat.le_refl 4) rfl rfl λw4 S4 H4=>?_;replace H4:Holds w4 (blk yb tRE (cellsEn y)::RW cellsEn 4 tRE (.slice o d.length q) d::blk xb tRE (cellsEn x)::L):=H4;replace S:=S.trans (S3.trans S4);clear S3 S4 H H3
  refine Zkt (λu p w'=>∃ (z:Bool) (d:List En) (o:Option Addr) (q:Nat),u=.slice o d.length q/\p=.bool z/\d.length<=i+1/\wOk x l (i+1) z (d++[y])/\Same w w'/\
   Holds w' (RW cellsEn 4 tRE (.slice o d.length q) d::blk yb tRE (cellsEn y)::blk xb tRE (cellsEn x)::L)) ?_ ?_
  rotate_left
  ·have H5:Holds w4 (RW cellsEn 4 tRE (.slice o d.length q) d::blk yb tRE (cellsEn y)::blk xb tRE (cellsEn x)::L):=Holds.swap H4;refine Za4 (λv w'=>w4=w'/\v=.bool (!z&&decide (x.id < y.id))) ?_ ?_
   rotate_left
   ·cases z with
    |true=>exact r_not (r_vf (r_ke ⟨rfl,rfl⟩))
    |false=>
     refine r_not (r_vt (r_fo0 (r_ld 0 H4 (v:=iv y.id) rfl rfl (r_fo0 (r_ld 2 H4 (v:=iv x.id) rfl rfl (r_gtr (r_ke ⟨rfl,?_⟩)))))));rfl
   rintro _ _ _ ⟨rfl,rfl⟩;rcases hw with⟨rfl,rfl,hn⟩|⟨rfl,rfl,hn⟩
   ·by_cases hxy:x.id < y.id
    ·rw[decide_eq_true hxy];refine r_vt ?_;refine r_ldA 2 H5 (cellsEn x) rfl rfl rfl ?_;refine Zbv H5 0 x rfl (by kernel_rfl) (λ_=>rfl) en_sg (by omega) (by decide) λv w5 S5 H6=>?_;obtain⟨o4,m4,sp4,rfl,_⟩:=H6.openRW 0 rfl;refine r_ke ⟨true,l.take i++[x],o4,_,rfl,rfl,by rw[gD,gN];simp;omega,.inr ⟨rfl,?_,y,?_,hxy⟩,S.trans S5,H6⟩
     ·rw[htk,Zma x y _ [] hn hxy];simp
     ·rw[htk];simp
    ·rw[decide_eq_false hxy];refine r_vf (r_ke ⟨false,l.take i,o,q,rfl,rfl,by rw[gN];omega,.inl ⟨rfl,htk.symm,λu hu=>?_⟩,S,H5⟩);rcases hT_.1 hu with hu|hu
     ·exact hn u hu
     ·rw[mem_singleton.1 hu];exact hxy
   ·refine r_vf (r_ke ⟨true,insE x (l.take i),o,q,rfl,rfl,hd,.inr ⟨rfl,?_,?_⟩,S,H5⟩)
    ·rw[htk,Zg9 x y _ hn]
    ·obtain⟨u,hu,hlt⟩:=hn;exact⟨u,by rw[htk];exact List.mem_append_left _ hu,hlt⟩
  clear H4 S hw hd;rintro _ _ _ w5 ⟨z,d,o,q,rfl,rfl,hd,hw,S,H⟩;refine r_ldA 1 H (cellsEn y) rfl rfl rfl ?_;refine Zbv H 0 y rfl (by kernel_rfl) (λ_=>rfl) en_sg (by omega) (by decide) λv w6 S6 H6=>?_;obtain⟨o4,m4,sp4,rfl,_⟩:=H6.openRW 0 rfl;refine Za2 (by omega) (r_ke ⟨⟨i+1,z,d++[y],o4,_,by omega,rfl,rfl,rfl,by rw[gD,gQ];omega,hw,S.trans S6,Holds.dropAt H6 1⟩,?_⟩);simp only[intOf,gC];omega
 ·obtain rfl:i=l.length:=by omega
  unfold wOk at hw;rw[hF_] at hw;rcases hw with⟨rfl,rfl,hn⟩|⟨rfl,rfl,hn⟩
  ·refine r_not (r_vt ?_);refine r_ldA 1 H (cellsEn x) rfl rfl rfl ?_;refine Zbv H 0 x rfl (by kernel_rfl) (λ_=>rfl) en_sg (by omega) (by decide) λv w6 S6 H6=>?_
   have e:insE x d=d++[x]:=by
    have:=Zg5 x d [] hn
    rwa [gU] at this
   refine k v w6 (S.trans S6) ?_;rw[e];exact Holds.dropAt H6 1
  ·refine r_not (r_vf ?_);exact k _ w2 S (Holds.dropAt H 1)
theorem Zj5 (l:List An):(seeD l).length<=l.length:=by
 rw[(Zfw l).2.length_eq];exact Zf9 l
theorem Zo0 {l:List An}{a:Int}(h0:0<=a):(((findE (seeD l) a).getD En1).id==a)=decide (hasId (seeD l) a):=by
 rw[Bool.eq_iff_iff,beq_iff_eq,decide_eq_true_iff]
 cases hf:findE (seeD l) a with
 |none=>
  constructor
  ·intro h;have:(-1:Int)=a:=h;omega
  ·rintro⟨e,he,rfl⟩;obtain⟨i,hi⟩:=List.getElem?_of_mem he;obtain⟨z,hz⟩:=Zk8 hi;rw[hz] at hf;cases hf
 |some x=>
  refine⟨λh=>⟨x,List.mem_of_find?_eq_some hf,h⟩,λ_=>Zm4 hf⟩
def tOf (x:An) (l:List An):List UInt8:=if x.ty=67 then textsOf l x.jb else []
theorem Zkg {a:Option Addr}{l:List An}{c:Nat}(H:Holds w L) (hA:AnIn L a l) (hl:l.length<=900) (hcl:l.length<=c) (hb:∀ x∈l,0<=x.jb/\x.tx.data.toList.length<=65536)
  (k:∀ o1 q1 o2 q2 w',Same w w'->Holds w' (RW cellsEn 4 tRE (.slice o1 (seeD l).length q1) (seeD l)::RW cellsAn 4 tRA (.slice o2 (refsOf l).length q2) (refsOf l)::L)->K (.agg (cellsV o1 (seeD l).length q1 o2 (refsOf l).length q2).toArray) w') :
  Cl prog 9 #[.slice a l.length c] w K:=by
 refine Tz9 ?_;unfold Vz9;refine r_new H λrb w1 S1 H1=>?_;rw[Zg1] at H1;refine r_bd (v:=.agg (cellsV none 0 0 none 0 0).toArray) (by kernel_rfl) ?_;refine r_new H1 λvb w2 S2 H2=>?_;rw[Zg1] at H2;refine r_stA 0 H2 (vs:=cellsV none 0 0 none 0 0) rfl (Nat.le_refl 2) rfl rfl λw3 S3 H3=>?_;replace H3:Holds w3 (blk vb tRV (cellsV none 0 0 none 0 0)::blk rb tRV (cellsV none 0 0 none 0 0)::L):=H3;refine r_lnl ?_
 refine Zad (λy w'=>∃ (i:Nat) (o1:Option Addr) (q1:Nat) (o2:Option Addr) (q2:Nat),i<=l.length/\y=nv i/\Same w w'/\
   Holds w' (RW cellsEn 4 tRE (.slice o1 (seeD (l.take i)).length q1) (seeD (l.take i))::RW cellsAn 4 tRA (.slice o2 (refsOf (l.take i)).length q2) (refsOf (l.take i)) ::
    blk vb tRV (cellsV o1 (seeD (l.take i)).length q1 o2 (refsOf (l.take i)).length q2)::blk rb tRV (cellsV none 0 0 none 0 0)::L))
  (λy _=>l.length - (intOf y).toNat) ⟨0,none,0,none,0,by omega,rfl,S1.trans (S2.trans S3),(H3.nilRW cellsAn 4 tRA).nilRW cellsEn 4 tRE⟩ ?_
 clear S1 S2 S3 H H1 H2 H3;rintro _ _ w5 ⟨i,o1,q1,o2,q2,hi,rfl,S,H⟩;refine r_lss (r_ifD (λh=>?_) λh=>?_)
 rotate_left
 ·obtain rfl:i=l.length:=by omega
  rw[hF_] at *;refine r_ldA 2 H (cellsV o1 (seeD l).length q1 o2 (refsOf l).length q2) rfl rfl rfl ?_;refine r_stA 3 H (vs:=cellsV o1 (seeD l).length q1 o2 (refsOf l).length q2) rfl (Nat.le_refl 2) rfl rfl λw7 S7 H7=>?_;refine r_ldA 3 H7 (cellsV o1 (seeD l).length q1 o2 (refsOf l).length q2) rfl rfl rfl ?_;exact k o1 q1 o2 q2 w7 (S.trans S7) (Holds.dropAt (Holds.dropAt H7 2) 2)
 have hlt:i < l.length:=by omega
 obtain⟨x,hx⟩:∃ x,l[i]?=some x:=⟨_,gA hlt⟩;obtain⟨hx0,hxt⟩:=hb x (mem_of_getElem? hx)
 have htk:l.take (i+1)=l.take i++[x]:=by rw[gO,hx];rfl
 have ep:=Zj2 (l.take i) x;have er:=Zij (l.take i) x;simp only[<-htk] at ep er;have hpl:=Zj5 (l.take i);have hrl:=Zfq (l.take i);rw[gN] at hpl hrl;refine r_ldG hA.up.up.up.up H hx rfl hlt ?_;refine r_new H λab w6 S6 H6=>?_;rw[Zg4] at H6;refine r_stA 0 H6 (vs:=cellsAn x) rfl (Nat.le_refl 4) rfl rfl λw7 S7 H7=>?_;replace S:=S.trans (S6.trans S7)
 replace H7:Holds w7 (blk ab tRA (cellsAn x)::RW cellsEn 4 tRE (.slice o1 (seeD (l.take i)).length q1) (seeD (l.take i))::RW cellsAn 4 tRA (.slice o2 (refsOf (l.take i)).length q2) (refsOf (l.take i)) ::
    blk vb tRV (cellsV o1 (seeD (l.take i)).length q1 o2 (refsOf (l.take i)).length q2)::blk rb tRV (cellsV none 0 0 none 0 0)::L):=H7
 clear S6 S7 H H6
 refine Zfa (λw'=>∃ (o2:Option Addr) (q2:Nat),Same w w'/\Holds w' (blk ab tRA (cellsAn x)::RW cellsEn 4 tRE (.slice o1 (seeD (l.take i)).length q1) (seeD (l.take i))::RW cellsAn 4 tRA (.slice o2 (refsOf (l.take (i+1))).length q2) (refsOf (l.take (i+1))) ::
    blk vb tRV (cellsV o1 (seeD (l.take i)).length q1 o2 (refsOf (l.take (i+1))).length q2)::blk rb tRV (cellsV none 0 0 none 0 0)::L)) ?_ ?_
 rotate_left
 ·refine Za4 (λv w'=>w7=w'/\v=.bool (decide (isRef x))) ?_ ?_
  rotate_left
  ·refine r_fo0 (r_ld 0 H7 (v:=iv x.ty) rfl rfl (r_eql (r_ifE (λh=>?_) λh=>r_ke ⟨rfl,by rw[show decide (isRef x)=false from decide_eq_false λg=>h g.1]⟩)));refine r_fo0 (r_ld 0 H7 (v:=iv x.er) rfl rfl (r_neq (r_ke ⟨rfl,?_⟩)))
   congr 1
   rw[Bool.eq_iff_iff,decide_eq_true_iff,bne_iff_ne];exact⟨λg=>⟨h,g⟩,λg=>g.2⟩
  rintro _ _ _ ⟨rfl,rfl⟩;refine r_ifD (λg=>?_) λg=>?_
  ·rw[if_pos g] at er;refine r_fo0 (r_ld 3 H7 rfl rfl ?_);refine r_ldA 0 H7 (cellsAn x) rfl rfl rfl ?_;refine Zbv H7 2 x rfl (by kernel_rfl) (λ_=>rfl) an_sg (by omega) (by decide) λv w8 S8 H8=>?_;obtain⟨o4,m4,sp4,rfl,_⟩:=H8.openRW 2 rfl;refine r_fo0 (r_st 3 H8 rfl (by simp[cellsV]) rfl λw9 S9 H9=>?_);refine r_ke ⟨o4,(refsOf (l.take i)++[x]).length+m4,S.trans (S8.trans S9),?_⟩;rw[er];exact H9
  ·rw[if_neg g,gU] at er;refine r_ke ⟨o2,q2,S,?_⟩;rw[er];exact H7
 clear H7 S hrl er o2 q2;rintro _ w8 ⟨o2,q2,S,H⟩
 have mu:l.length - (intOf (nv (i+1))).toNat < l.length - (intOf (nv i)).toNat:=by
  simp only[intOf,gC];omega
 refine Za4 (λv w'=>Same w w'/\(v=.bool (decide (¬ (isEnd x/\¬ hasId (seeD (l.take i)) x.jb))))/\Holds w' (blk ab tRA (cellsAn x)::RW cellsEn 4 tRE (.slice o1 (seeD (l.take i)).length q1) (seeD (l.take i))::RW cellsAn 4 tRA (.slice o2 (refsOf (l.take (i+1))).length q2) (refsOf (l.take (i+1))) ::
    blk vb tRV (cellsV o1 (seeD (l.take i)).length q1 o2 (refsOf (l.take (i+1))).length q2)::blk rb tRV (cellsV none 0 0 none 0 0)::L)) ?_ ?_
 rotate_left
 ·refine r_dr H λw9 S9 H9=>?_
  have ask:isEnd x->∀ {Q:KT},(∀ w',Same w w'->Holds w' (blk ab tRA (cellsAn x)::RW cellsEn 4 tRE (.slice o1 (seeD (l.take i)).length q1) (seeD (l.take i))::RW cellsAn 4 tRA (.slice o2 (refsOf (l.take (i+1))).length q2) (refsOf (l.take (i+1))) ::
    blk vb tRV (cellsV o1 (seeD (l.take i)).length q1 o2 (refsOf (l.take (i+1))).length q2)::blk rb tRV (cellsV none 0 0 none 0 0)::L)->Q (.agg (cellsEn ((findE (seeD (l.take i)) x.jb).getD En1)).toArray) w')->
    Cl prog 19 #[.slice o1 (seeD (l.take i)).length q1,iv x.jb] w9 Q:=λ_ Q hQ=>Find_spec (by omega) H9 (InG.own 1 rfl λ_=>rfl) λw' S' H'=>hQ w' (S.trans (S9.trans S')) H'
  have fd:∀ {e:En} {Q:Value->Prop},Q (iv e.id)->Vc.Fd 0 (.agg (cellsEn e).toArray) Q:=by
   intro e Q h;unfold Vc.Fd;exact⟨_,_,rfl,rfl,h⟩
  have val:isEnd x->(((findE (seeD (l.take i)) x.jb).getD En1).id==x.jb)=decide (¬ (isEnd x/\¬ hasId (seeD (l.take i)) x.jb)):=by
   intro he;rw[Zo0 hx0,Bool.eq_iff_iff,decide_eq_true_iff,decide_eq_true_iff];exact⟨λg q=>q.2 g,λg=>Classical.byContradiction λq=>g ⟨he,q⟩⟩
  refine r_fo0 (r_ld 0 H9 (v:=iv x.ty) rfl rfl (r_neq (r_ifN (λg1=>?_) λg1=>?_)))
  ·refine r_fo0 (r_ld 0 H9 (v:=iv x.ty) rfl rfl (r_neq (r_ifN (λg2=>?_) λg2=>?_)))
   ·refine r_ke ⟨S.trans S9,?_,H9⟩;rw[show decide (¬ (isEnd x/\¬ hasId (seeD (l.take i)) x.jb))=true from decide_eq_true λq=>by have:=q.1;unfold isEnd at this;omega]
   ·refine r_fo0 (r_ld 3 H9 rfl rfl (r_fo0 (r_ld 0 H9 (v:=iv x.jb) rfl rfl ?_)));refine ask (.inr g2) λw10 S10 H10=>?_;refine fd (r_fo0 (r_ld 0 H10 (v:=iv x.jb) rfl rfl ?_));refine r_rk (r_ld 0 H9 (v:=iv x.jb) rfl rfl rfl) ?_;refine r_eql (r_ke ⟨S10,?_,H10⟩);rw[val (.inr g2)]
  ·refine r_fo0 (r_ld 3 H9 rfl rfl (r_fo0 (r_ld 0 H9 (v:=iv x.jb) rfl rfl ?_)));refine ask (.inl g1) λw10 S10 H10=>?_;refine fd (r_fo0 (r_ld 0 H10 (v:=iv x.jb) rfl rfl ?_));refine r_rk (r_ld 0 H9 (v:=iv x.jb) rfl rfl rfl) ?_;refine r_eql (r_ke ⟨S10,?_,H10⟩);rw[val (.inl g1)]
 clear H S;rintro _ _ w9 ⟨S,rfl,H⟩;refine r_ifD (λg=>?_) λg=>?_
 ·rw[if_neg g] at ep;refine Za2 (by omega) (r_ke ⟨⟨i+1,o1,q1,o2,q2,by omega,rfl,S,?_⟩,mu⟩);rw[ep];exact H.drop
 have hh:isEnd x/\¬ hasId (seeD (l.take i)) x.jb:=Classical.not_not.1 g;rw[if_pos hh] at ep;refine r_fo0 (r_ld 0 H (v:=iv x.jb) rfl rfl (r_fo0 (r_ld 0 H (v:=iv x.ty) rfl rfl (r_eql ?_))));refine r_fo0 (r_ld 0 H (v:=iv x.er) rfl rfl ?_);refine r_bd (v:=.agg (cellsEn ⟨x.jb,x.ty==67,⟨#[]⟩,x.er⟩).toArray) (by kernel_rfl) ?_;refine r_new H λcb w10 S10 H10=>?_;rw[Zek] at H10;refine r_stA 0 H10 (vs:=cellsEn ⟨x.jb,x.ty==67,⟨#[]⟩,x.er⟩) rfl (Nat.le_refl 4) rfl rfl λw11 S11 H11=>?_;replace S:=S.trans (S10.trans S11)
 have t0:tOf x (l.take 0)=[]:=by unfold tOf;split <;> rfl
 replace H11:Holds w11 (blk cb tRE (cellsEn ⟨x.jb,x.ty==67,⟨(tOf x (l.take 0)).toArray⟩,x.er⟩)::blk ab tRA (cellsAn x)::RW cellsEn 4 tRE (.slice o1 (seeD (l.take i)).length q1) (seeD (l.take i))::RW cellsAn 4 tRA (.slice o2 (refsOf (l.take (i+1))).length q2) (refsOf (l.take (i+1))) ::
    blk vb tRV (cellsV o1 (seeD (l.take i)).length q1 o2 (refsOf (l.take (i+1))).length q2)::blk rb tRV (cellsV none 0 0 none 0 0)::L):=by
  rw[t0];exact H11
 clear S10 S11 H H10;refine Znj (by omega) (r_lnl ?_)
 refine Zad (λy w'=>∃ j:Nat,j<=i/\y=nv j/\Same w w'/\
   Holds w' (blk cb tRE (cellsEn ⟨x.jb,x.ty==67,⟨(tOf x (l.take j)).toArray⟩,x.er⟩)::blk ab tRA (cellsAn x)::RW cellsEn 4 tRE (.slice o1 (seeD (l.take i)).length q1) (seeD (l.take i))::RW cellsAn 4 tRA (.slice o2 (refsOf (l.take (i+1))).length q2) (refsOf (l.take (i+1))) ::
    blk vb tRV (cellsV o1 (seeD (l.take i)).length q1 o2 (refsOf (l.take (i+1))).length q2)::blk rb tRV (cellsV none 0 0 none 0 0)::L))
  (λy _=>i - (intOf y).toNat) ⟨0,by omega,rfl,S,H11⟩ ?_
 clear H11 S;rintro _ _ w12 ⟨j,hj,rfl,S,H⟩;refine r_lss (r_ifD (λh2=>?_) λh2=>?_)
 ·have hji:j < i:=by omega
  obtain⟨y,hy⟩:∃ y,l[j]?=some y:=⟨_,gA (by omega)⟩;obtain⟨hy0,hyt⟩:=hb y (mem_of_getElem? hy)
  have htj:l.take (j+1)=l.take j++[y]:=by rw[gO,hy];rfl
  have et:=Zgm (l.take j) y x.jb;have hle:=Zgk (l:=l.take j) (λz hz=>(hb z (mem_of_mem_take hz)).2) x.jb;rw[gN] at hle;refine r_ldG hA.up.up.up.up.up.up H hy rfl hji ?_;refine r_new H λyb w13 S13 H13=>?_;rw[Zg4] at H13;refine r_stA 0 H13 (vs:=cellsAn y) rfl (Nat.le_refl 4) rfl rfl λw14 S14 H14=>?_;replace S:=S.trans (S13.trans S14)
  replace H14:Holds w14 (blk yb tRA (cellsAn y)::blk cb tRE (cellsEn ⟨x.jb,x.ty==67,⟨(tOf x (l.take j)).toArray⟩,x.er⟩)::blk ab tRA (cellsAn x)::RW cellsEn 4 tRE (.slice o1 (seeD (l.take i)).length q1) (seeD (l.take i))::RW cellsAn 4 tRA (.slice o2 (refsOf (l.take (i+1))).length q2) (refsOf (l.take (i+1))) ::
    blk vb tRV (cellsV o1 (seeD (l.take i)).length q1 o2 (refsOf (l.take (i+1))).length q2)::blk rb tRV (cellsV none 0 0 none 0 0)::L):=H14
  clear S13 S14 H H13
  have mu2:i - (intOf (nv (j+1))).toNat < i - (intOf (nv j)).toNat:=by
   simp only[intOf,gC];omega
  refine Za4 (λv w'=>w14=w'/\v=.bool (decide (x.ty=67/\isTx y x.jb))) ?_ ?_
  rotate_left
  ·refine r_fo0 (r_ld 1 H14 (v:=.bool (x.ty==67)) rfl rfl (r_vif (λg3=>?_) λg3=>?_))
   ·have g3':=beq_iff_eq.1 g3;refine r_fo0 (r_ld 0 H14 (v:=iv y.ty) rfl rfl (r_eql (r_ifE (λg4=>?_) λg4=>?_)))
    ·refine r_fo0 (r_ld 0 H14 (v:=iv y.jb) rfl rfl (r_fo0 (r_ld 2 H14 (v:=iv x.jb) rfl rfl (r_eql (r_ke ⟨rfl,?_⟩)))))
     congr 1
     rw[Bool.eq_iff_iff,decide_eq_true_iff,beq_iff_eq];exact⟨λq=>⟨g3',g4,q⟩,λq=>q.2.2⟩
    ·refine r_ke ⟨rfl,?_⟩;rw[show decide (x.ty=67/\isTx y x.jb)=false from decide_eq_false λq=>g4 q.2.1]
   ·have g3':=beq_eq_false_iff_ne.1 g3;refine r_ke ⟨rfl,?_⟩;rw[show decide (x.ty=67/\isTx y x.jb)=false from decide_eq_false λq=>g3' q.1]
  rintro _ _ _ ⟨rfl,rfl⟩;refine r_ifD (λg3=>?_) λg3=>?_
  ·have hto:tOf x (l.take (j+1))=tOf x (l.take j)++y.tx.data.toList:=by
    unfold tOf;rw[if_pos g3.1,if_pos g3.1,htj,et,if_pos g3.2]
   have htl:(tOf x (l.take j)).length<=900*65536:=by
    unfold tOf;rw[if_pos g3.1];exact Nat.le_trans hle (Nat.mul_le_mul_right _ (by omega))
   refine r_fo0 (r_ld 1 H14 (v:=.string ⟨(tOf x (l.take j)).toArray⟩) rfl rfl (r_fo0 (r_ld 0 H14 (v:=.string ⟨y.tx.data.toList.toArray⟩) rfl rfl (Zpn (by omega) (r_fo0 ?_)))));rw[<-hto];refine r_st 1 H14 rfl (by simp[cellsEn]) rfl λw15 S15 H15=>?_;exact Za2 (by omega) (r_ke ⟨⟨j+1,by omega,rfl,S.trans S15,H15.drop⟩,mu2⟩)
  ·have hto:tOf x (l.take (j+1))=tOf x (l.take j):=by
    unfold tOf
    by_cases h67:x.ty=67
    ·rw[if_pos h67,if_pos h67,htj,et,if_neg λq=>g3 ⟨h67,q⟩,gU]
    ·rw[if_neg h67,if_neg h67]
   rw[<-hto] at H14;exact Za2 (by omega) (r_ke ⟨⟨j+1,by omega,rfl,S,H14.drop⟩,mu2⟩)
 ·obtain rfl:j=i:=by omega
  have hto:(⟨x.jb,x.ty==67,⟨(tOf x (l.take j)).toArray⟩,x.er⟩:En)=endOf (l.take j) x:=by
   unfold tOf endOf
   by_cases h67:x.ty=67
   ·rw[if_pos h67,if_pos h67]
   ·rw[if_neg h67,if_neg h67]
  rw[hto] at H;refine r_fo0 (r_ld 4 H rfl rfl ?_);refine r_ldA 0 H (cellsEn (endOf (l.take j) x)) rfl rfl rfl ?_;refine Zlb H (by omega) (InG.own 2 rfl λ_=>rfl) λv w13 S13 H13=>?_;obtain⟨o4,m4,sp4,rfl,_⟩:=H13.openRW 0 rfl;refine r_fo0 (r_st 5 H13 rfl (by simp[cellsV]) rfl λw14 S14 H14=>?_);refine Za2 (by omega) (r_ke ⟨⟨j+1,o4,(insE (endOf (l.take j) x) (seeD (l.take j))).length+m4,o2,q2,by omega,rfl,S.trans (S13.trans S14),?_⟩,mu⟩);rw[ep];have h_:=Holds.dropAt (Holds.dropAt (Holds.dropAt H14 1) 1) 1;exact h_
theorem Zgh {a1 a2 b1 b2:Option Addr}{es fs:List En}{rs ts:List An}{c1 c2 d1 d2:Nat}(H:Holds w L) (hE1:EnIn L a1 es) (hA1:AnIn L a2 rs) (hE2:EnIn L b1 fs) (hA2:AnIn L b2 ts) (he:es=fs) (hr:rs=ts) (hel:es.length<=1000) (hrl:rs.length<=1000)
  (k:∀ w',Same w w'->Holds w' L->K (.bool true) w') :
  Cl prog 7 #[.agg (cellsV a1 es.length c1 a2 rs.length c2).toArray,.agg (cellsV b1 fs.length d1 b2 ts.length d2).toArray] w K:=by
 subst he hr;refine Tz7 ?_;unfold Vz7;refine r_new H λab w1 S1 H1=>?_;replace H1:Holds w1 (blk ab tRV (cellsV a1 es.length c1 a2 rs.length c2)::L):=H1;refine r_new H1 λbb w2 S2 H2=>?_;replace H2:Holds w2 (blk bb tRV (cellsV b1 es.length d1 b2 rs.length d2)::blk ab tRV (cellsV a1 es.length c1 a2 rs.length c2)::L):=H2;have S:=S1.trans S2;clear S1 S2 H H1;refine Za4 (λv w'=>w2=w'/\v=.bool false) ?_ ?_
 rotate_left
 ·refine r_fo0 (r_ld 1 H2 rfl rfl (r_lnl (r_fo0 (r_ld 0 H2 rfl rfl (r_lnl (r_neq (r_vfN rfl ?_)))))));refine r_fo0 (r_ld 1 H2 rfl rfl (r_lnl (r_fo0 (r_ld 0 H2 rfl rfl (r_lnl (r_neq (r_ke ⟨rfl,?_⟩)))))));simp
 rintro _ _ _ ⟨rfl,rfl⟩;refine r_vf ?_;refine r_fo0 (r_ld 1 H2 rfl rfl (r_lnl ?_));refine Zad (λy w'=>∃ i:Nat,i<=es.length/\y=nv i/\Same w w'/\Holds w' (blk bb tRV (cellsV b1 es.length d1 b2 rs.length d2)::blk ab tRV (cellsV a1 es.length c1 a2 rs.length c2)::L)) (λy _=>es.length - (intOf y).toNat) ⟨0,by omega,rfl,S,H2⟩ ?_;clear H2 S;rintro _ _ w3 ⟨i,hi,rfl,S,H⟩;refine r_lss (r_ifD (λh=>?_) λh=>?_)
 ·have hlt:i < es.length:=by omega
  obtain⟨x,hx⟩:∃ x,es[i]?=some x:=⟨_,gA hlt⟩;refine r_ldG hE1.up.up H hx rfl hlt ?_;refine r_new H λxb w4 S4 H4=>?_;rw[Zek] at H4;refine r_stA 0 H4 (vs:=cellsEn x) rfl (Nat.le_refl 4) rfl rfl λw5 S5 H5=>?_;replace H5:Holds w5 (blk xb tRE (cellsEn x)::blk bb tRV (cellsV b1 es.length d1 b2 rs.length d2)::blk ab tRV (cellsV a1 es.length c1 a2 rs.length c2)::L):=H5;refine r_dr H5 λw6 S6 H6=>?_;refine r_ldA 0 H6 (cellsEn x) rfl rfl rfl ?_;refine r_fo0 (r_ld 1 H6 rfl rfl ?_);refine r_ldG hE2.up.up.up H6 hx rfl hlt ?_;refine beE (by decide) (.inr rfl) ?_;rw[decide_eq_true rfl];refine r_vf (Za2 (by omega) (r_ke ⟨⟨i+1,by omega,rfl,S.trans (S4.trans (S5.trans S6)),H6.drop⟩,?_⟩));simp only[intOf,gC];omega
 ·refine r_fo0 (r_ld 1 H rfl rfl (r_lnl ?_));refine Zad (λy w'=>∃ i:Nat,i<=rs.length/\y=nv i/\Same w w'/\Holds w' (blk bb tRV (cellsV b1 es.length d1 b2 rs.length d2)::blk ab tRV (cellsV a1 es.length c1 a2 rs.length c2)::L)) (λy _=>rs.length - (intOf y).toNat) ⟨0,by omega,rfl,S,H⟩ ?_;clear H S h hi i;rintro _ _ w3 ⟨i,hi,rfl,S,H⟩;refine r_lss (r_ifD (λh=>?_) λh=>?_)
  ·have hlt:i < rs.length:=by omega
   obtain⟨x,hx⟩:∃ x,rs[i]?=some x:=⟨_,gA hlt⟩;refine r_ldG hA1.up.up H hx rfl hlt ?_;refine r_new H λxb w4 S4 H4=>?_;rw[Zg4] at H4;refine r_stA 0 H4 (vs:=cellsAn x) rfl (Nat.le_refl 4) rfl rfl λw5 S5 H5=>?_;replace H5:Holds w5 (blk xb tRA (cellsAn x)::blk bb tRV (cellsV b1 es.length d1 b2 rs.length d2)::blk ab tRV (cellsV a1 es.length c1 a2 rs.length c2)::L):=H5;refine r_dr H5 λw6 S6 H6=>?_;refine r_ldA 0 H6 (cellsAn x) rfl rfl rfl ?_;refine r_fo0 (r_ld 1 H6 rfl rfl ?_);refine r_ldG hA2.up.up.up H6 hx rfl hlt ?_;refine beA (by decide) (.inr rfl) ?_;rw[decide_eq_true rfl];refine r_vf (Za2 (by omega) (r_ke ⟨⟨i+1,by omega,rfl,S.trans (S4.trans (S5.trans S6)),H6.drop⟩,?_⟩));simp only[intOf,gC];omega
  ·exact k w3 S H.drop.drop
theorem Zld {l:List An}(h:AnsR s l 0):∀ x∈l,0<=x.jb/\x.tx.data.toList.length<=65536:=by
 cases h with
 |bad _ he=>exact absurd rfl he
 |ok hf hl=>
  have hb:=Zfd hf;clear hf;rename_i fs
  induction fs generalizing l with
  |nil=>
   rw[hearL] at hl;cases hl;intro x hx;cases hx
  |cons f r ih=>
   rw[hearL] at hl
   cases hf:hear f with
   |none=>rw[hf] at hl;cases hl
   |some a=>
    cases hr:hearL r with
    |none=>rw[hf,hr] at hl;cases hl
    |some m=>
     rw[hf,hr] at hl;cases hl;intro x hx;rcases mem_cons.1 hx with rfl|hx
     ·have:=hb f (hJ_ ..);unfold hear at hf
      repeat' (split at hf)
      all_goals first
       |(cases hf;done)
       |(cases hf;exact⟨Int.natCast_nonneg _,this.2⟩)
       |(cases hf;exact⟨Int.natCast_nonneg _,Nat.zero_le _⟩)
     ·exact ih hr (λg hg=>hb g (hK_ _ hg)) x hx
theorem Zln (H:Holds w L) (hs:s.length<=900)
  (k1:∀ (e:Nat) w',AnsR s [] e->e≠0->Same w w'->Holds w' L->K (.tuple #[.agg (cellsV none 0 0 none 0 0).toArray,nv e]) w')
  (k2:∀ l o1 q1 o2 q2 w',AnsR s l 0->l.length<=900->Same w w'->Holds w' (RW cellsEn 4 tEn (.slice o1 (seeD l).length q1) (seeD l)::RW cellsAn 4 tAn (.slice o2 (refsOf l).length q2) (refsOf l)::L)->K (.tuple #[.agg (cellsV o1 (seeD l).length q1 o2 (refsOf l).length q2).toArray,iv 0]) w') :
  Cl prog 5 #[S_ s] w K:=by
 refine Tz5 ?_;unfold Vz5;refine r_new H λxb w1 S1 H1=>?_;rw[Zee] at H1;refine Zgg H1 hs (λe w2 hr he S2 H2=>?_) λv l w2 hr hl S2 H2=>?_
 ·refine Zal (Zak (r_neq (r_ifN (λ_=>?_) λg=>absurd g (by show ¬ ((e:Int)=0);omega))));refine r_bd (v:=.agg (cellsV none 0 0 none 0 0).toArray) (by kernel_rfl) ?_;refine r_stA 0 H2 (vs:=cellsV none 0 0 none 0 0) rfl (Nat.le_refl 2) rfl rfl λw3 S3 H3=>?_;refine r_ldA 0 H3 (cellsV none 0 0 none 0 0) rfl rfl rfl ?_;exact k1 e w3 hr he (S1.trans (S2.trans S3)) H3.drop
 ·obtain⟨o4,m4,sp4,rfl,_⟩:=H2.openRW 0 rfl;refine Zal (Zak (r_neq (r_vfN rfl ?_)));refine Zm6 H2 (InG.own 0 rfl λ_=>rfl) hl (Zld hr) λo1 q1 o2 q2 w3 S3 H3=>?_;refine r_stA 3 H3 (vs:=cellsV o1 (seeD l).length q1 o2 (refsOf l).length q2) rfl (Nat.le_refl 2) rfl rfl λw4 S4 H4=>?_;refine r_ldA 3 H4 (cellsV o1 (seeD l).length q1 o2 (refsOf l).length q2) rfl rfl rfl ?_;exact k2 l o1 q1 o2 q2 w4 hr hl (S1.trans (S2.trans (S3.trans S4))) (Holds.dropAt (Holds.dropAt H4 2) 2)
theorem Zoq (hb:∀ {w:World}{L:List HProp}{K:KT},Holds w L->(∀ w',Same w w'->Holds w' L->K (.bool true) w')->Cl prog 4 #[] w K)
  (H:Holds w L) (a0:ByteArray) (h0:a0.size<=maxLen) (post:∀ w',Same w w'->Holds w' L->K (.bool true) w') :
  Cl prog 3 #[.string a0] w K:=by
 refine Tz3 ?_;unfold Vz3;obtain⟨s,rfl⟩:∃ s:List UInt8,a0=⟨s.toArray⟩:=⟨a0.data.toList,rfl⟩
 have bob:∀ (M:List HProp) w',Same w w'->Holds w' (M++L)->Cl prog 4 #[] w' λx w2=>K x w2:=by
  intro M w' Sx Hx
  have Hy:∀ (M:List HProp) {L':List HProp},Holds w' (M++L')->Holds w' L':=by
   intro M
   induction M with
   |nil=>exact λh=>h
   |cons m r ih=>exact λh=>ih (Holds.drop h)
  exact hb (Hy M Hx) λw3 S3 H3=>post w3 (Sx.trans S3) H3
 refine q_len (r_gtr (r_ifD (λh=>bob [] w (.refl _) H) λh=>?_))
 have hs:s.length<=400:=by omega
 refine Zln H (by omega) (λe w1 hr he S1 H1=>?_) λl o1 q1 o2 q2 w1 hr hl S1 H1=>?_
 ·refine Zal (Zak ?_);refine r_new H1 λvb w2 S2 H2=>?_;rw[Zee] at H2;refine r_stA 0 H2 (vs:=cellsV none 0 0 none 0 0) rfl (Nat.le_refl 2) rfl rfl λw3 S3 H3=>?_;refine Ze1 H3 (by omega) (λd w4 hr2 hd S4 H4=>?_) λv l w4 hr2 _ S4 H4=>absurd (Zdm hr hr2).2 he;obtain⟨_,rfl⟩:=Zdm hr hr2;refine r_new H4 λrb w5 S5 H5=>?_;rw[Zhw] at H5;refine r_stA 0 H5 (vs:=[.slice none 0 0,nv e]) rfl (Nat.le_refl 2) rfl rfl λw6 S6 H6=>?_;refine r_fo0 (r_ld 0 H6 (v:=nv e) rfl rfl (r_neq (r_ifN (λ_=>?_) λg=>absurd g (by show ¬ ((e:Int)=0);omega))));refine r_fo0 (r_ld 0 H6 (v:=nv e) rfl rfl (r_eql (r_vtE rfl ?_)));refine r_ldA 1 H6 (cellsV none 0 0 none 0 0) rfl rfl rfl ?_;have H7:=(H6.nilRW cellsAn 4 tAn).nilRW cellsEn 4 tEn;refine Zif (xs:=[]) (rs:=[]) (by simp) (by simp) H7 (InG.own 0 rfl λ_=>rfl) (InG.own 1 rfl λ_=>rfl) λu v w7 S7 H8=>?_;obtain⟨ou,mu,su,rfl,_⟩:=H8.openRW 0 rfl;obtain⟨ov,mv,sv,rfl,_⟩:=H8.openRW 1 rfl;refine r_bd (v:=.agg (cellsV none 0 0 none 0 0).toArray) (by kernel_rfl) ?_;have H9:=(H8.nilRW cellsAn 4 tRA).nilRW cellsEn 4 tRE;refine Zgh (es:=[]) (fs:=[]) (rs:=[]) (ts:=[]) H9 (InG.own 2 rfl λ_=>rfl) (InG.own 3 rfl λ_=>rfl) (InG.own 0 rfl λ_=>rfl) (InG.own 1 rfl λ_=>rfl) rfl rfl (by simp) (by simp) λw8 S8 Ha=>?_;refine r_vt ?_;exact bob [_,_,_,_,_,_,_,_] w8 (S1.trans (S2.trans (S3.trans (S4.trans (S5.trans (S6.trans (S7.trans S8))))))) Ha
 ·refine Zal (Zak ?_);refine r_new H1 λvb w2 S2 H2=>?_;rw[Zee] at H2;refine r_stA 0 H2 (vs:=cellsV o1 (seeD l).length q1 o2 (refsOf l).length q2) rfl (Nat.le_refl 2) rfl rfl λw3 S3 H3=>?_;replace H3:Holds w3 (blk vb tVi (cellsV o1 (seeD l).length q1 o2 (refsOf l).length q2)::RW cellsEn 4 tEn (.slice o1 (seeD l).length q1) (seeD l)::RW cellsAn 4 tAn (.slice o2 (refsOf l).length q2) (refsOf l)::L):=H3;refine Ze1 H3 (by omega) (λd w4 hr2 hd S4 H4=>absurd (Zdm hr hr2).2.symm hd) λv l2 w4 hr2 _ S4 H4=>?_;obtain⟨rfl,_⟩:=Zdm hr hr2;obtain⟨o4,m4,sp4,rfl,_⟩:=H4.openRW 0 rfl;refine r_new H4 λrb w5 S5 H5=>?_;rw[Zhw] at H5;refine r_stA 0 H5 (vs:=[.slice o4 l.length (l.length+m4),nv 0]) rfl (Nat.le_refl 2) rfl rfl λw6 S6 H6=>?_;replace H6:Holds w6 (blk rb tAs [.slice o4 l.length (l.length+m4),nv 0]::RW cellsAn 4 tRA (.slice o4 l.length (l.length+m4)) l::blk vb tVi (cellsV o1 (seeD l).length q1 o2 (refsOf l).length q2)::RW cellsEn 4 tEn (.slice o1 (seeD l).length q1) (seeD l)::RW cellsAn 4 tAn (.slice o2 (refsOf l).length q2) (refsOf l)::L):=H6;have hsl:=Zj5 l;have hrl:=Zfq l;refine r_fo0 (r_ld 0 H6 (v:=nv 0) rfl rfl (r_neq (r_vfN rfl ?_)));refine r_dr H6 λw7 S7 H7=>?_;refine r_eql (r_vtE rfl ?_);refine r_ldA 2 H7 (cellsV o1 (seeD l).length q1 o2 (refsOf l).length q2) rfl rfl rfl ?_;refine Zif (by omega) (by omega) H7 (InG.own 3 rfl λ_=>rfl) (InG.own 4 rfl λ_=>rfl) λu v w8 S8 H8=>?_;obtain⟨ou,mu,su,rfl,_⟩:=H8.openRW 0 rfl;obtain⟨ov,mv,sv,rfl,_⟩:=H8.openRW 1 rfl;refine r_fo0 (r_ld 2 H8 (v:=.slice o4 l.length (l.length+m4)) rfl rfl ?_);refine r_rk (r_ld 0 H7 (v:=.slice o4 l.length (l.length+m4)) rfl rfl rfl) ?_;refine Zkg H8 (InG.own 3 rfl λ_=>rfl) hl (by omega) (Zld hr) λo5 q5 o6 q6 w9 S9 H9=>?_;refine Zgh H9 (InG.own 2 rfl λ_=>rfl) (InG.own 3 rfl λ_=>rfl) (InG.own 0 rfl λ_=>rfl) (InG.own 1 rfl λ_=>rfl) rfl rfl (by omega) (by omega) λw10 S10 Ha=>?_;refine r_vt ?_;exact bob [_,_,_,_,_,_,_,_,_] w10 (S1.trans (S2.trans (S3.trans (S4.trans (S5.trans (S6.trans (S7.trans (S8.trans (S9.trans S10))))))))) Ha
end D46
end Go.Proofs.YthhkodlnfogkgaaGreatDoor
