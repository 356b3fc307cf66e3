/- The evaluator once more, in small pieces (the kernel copies a definition's whole body each time that it is unfolded), and that it is the same. No program in sight. -/
import Derived.Test.YtieneaffjelhhaaGreatMG4
set_option linter.unusedVariables false
set_option linter.unusedSimpArgs false
namespace Go.Ev
open Go Go.Vc
noncomputable section
abbrev CallT:=FuncId->List X->St->Option (X × St)
def vPk (ρ:T X) (a b:Operand):Option X->Option X
  |some (.b c)=>(match c with
    |true=>evX ρ a
    |false=>evX ρ b)
  |_=>none
def vNc:Option (Nat × Nat)->Option X
  |some a=>some (.p (some a))
  |none=>none
def vFa2 (P:Program) (ρ:T X) (x:Operand):Option Field->Option X
  |some fd=>(match P.info? fd.type with
    |some i=>(match i.size with
      |0=>none
      |_+1=>foX (pX (evX ρ x)) fd.offset)
    |none=>none)
  |none=>none
def vFa (P:Program) (ρ:T X) (x:Operand) (f:Nat):Option TypeDesc->Option X
  |some (.struct fs)=>vFa2 P ρ x (fldOf fs.toList f)
  |_=>none
def vIa (P:Program) (ρ:T X) (x i:Operand):Option TypeDesc->Option X
  |some (.array len e)=>iaX P e len (pX (evX ρ x)) (evX ρ i)
  |some (.slice e)=>isX P e (evX ρ x) (evX ρ i)
  |_=>none
def vIx (P:Program) (ρ:T X) (x i:Operand):Option TypeDesc->Option X
  |some .string=>ixsX (evX ρ x) (evX ρ i)
  |some (.array len e)=>(match P.info? e with
    |some inf=>(match P.underlying e with
      |some (.struct _)|some (.array _ _)=>ixaX inf.size true len (evX ρ x) (evX ρ i)
      |some _=>ixaX inf.size false len (evX ρ x) (evX ρ i)
      |none=>none)
    |none=>none)
  |_=>none
def vFd (P:Program) (ρ:T X) (x:Operand) (f:Nat):Option TypeDesc->Option X
  |some (.struct fs)=>(match fldOf fs.toList f with
    |some fd=>(match P.underlying fd.type with
      |some (.struct _)|some (.array _ _)=>(match P.info? fd.type with
        |some i=>fdaX fd.offset i.size (evX ρ x)
        |none=>none)
      |some _=>fdX fd.offset (evX ρ x)
      |none=>none)
    |none=>none)
  |_=>none
def vBb (ρ:T X) (x y:Operand):BinOp->Option X
  |.eql=>bbX false (evX ρ x) (evX ρ y)
  |.neq=>bbX true (evX ρ x) (evX ρ y)
  |_=>none
def vBn (P:Program) (e:TypeId) (ρ:T X) (x y:Operand):BinOp->Option X
  |.eql=>bnX P e false (evX ρ x) (evX ρ y)
  |.neq=>bnX P e true (evX ρ x) (evX ρ y)
  |_=>none
def vBp (P:Program) (ρ:T X) (t:TypeId) (op:BinOp) (x y:Operand):Option TypeDesc->Option X
  |some (.int _)=>bp2 op (evX ρ x) (evX ρ y)
  |some .string=>bp2 op (evX ρ x) (evX ρ y)
  |some .bool=>vBb ρ x y op
  |some (.pointer e)=>vBn P e ρ x y op
  |some _=>beX P op t x y (evX ρ x) (evX ρ y)
  |none=>none
def vCv (P:Program) (ρ:T X) (s:St) (q d:TypeId) (x:Operand):Option TypeDesc->Option TypeDesc->Option X
  |some (.int _),some (.int k)=>ciX k (evX ρ x)
  |some (.slice e),some .string=>cvX P s q (evX ρ x)
  |some _,some _=>cpX P s q d (evX ρ x)
  |_,_=>none
def vMi:Option TypeDesc->TypeId->Option X->Option X
  |some (.interface _),_,_=>none
  |some _,t,some x=>some (.fc t x)
  |_,_,_=>none
def vSl (P:Program) (ρ:T X) (s:St) (x:Operand) (l h m:Option Operand):Option TypeDesc->Option X
  |some .string=>(match m with
    |none=>sstX (evX ρ x) (λd=>bndX ρ d l) (λd=>bndX ρ d h)
    |some _=>none)
  |some (.slice e)=>(match m with
    |none=>(match P.info? e with
      |some inf=>sslX inf.size (evX ρ x) (λd=>bndX ρ d l) (λd=>bndX ρ d h)
      |none=>none)
    |some _=>none)
  |some (.array n e)=>(match m with
    |none=>slaX P s n e (evX ρ x) (λd=>bndX ρ d l) (λd=>bndX ρ d h)
    |some _=>none)
  |_=>none
def vBd (P:Program) (t:TypeId):Option (List (Nat × X))->Option X
  |some xs=>bdX P t xs
  |none=>none
def vLn2 (s:St):Option TypeDesc->X->Option X
  |some .string,.s l=>some (.i .i64 (l.length:Int))
  |some (.slice _),.l _ n _=>some (.i .i64 (n:Int))
  |some (.slice _),.e0 _ _ _=>some (.i .i64 0)
  |some (.map _ _),.m b=>lmX s b
  |_,_=>none
def vLn (P:Program) (s:St):List TypeId->Option (List X)->Option X
  |t::_,some (x::_)=>vLn2 s (P.underlying t) x
  |_,_=>none
def vMm (mx:Bool):Option (List X)->Option X
  |some xs=>mmX mx xs
  |none=>none
def vCl (P:Program) (ρ:T X) (s:St) (c:Call):Callee->Option X
  |.builtin .len=>vLn P s c.argTypes.toList (xargs ρ c.args.toList)
  |.builtin .cap=>capX P c.argTypes.toList (xargs ρ c.args.toList)
  |.builtin .min=>vMm false (xargs ρ c.args.toList)
  |.builtin .max=>vMm true (xargs ρ c.args.toList)
  |_=>none
def xvalF (P:Program) (ρ:T X) (s:St):Op->Option X
  |.move x=>evX ρ x
  |.assign x=>evX ρ x
  |.pick c a b=>vPk ρ a b (evX ρ c)
  |.nilCheck x=>vNc (pX (evX ρ x))
  |.load t a=>ldW P ρ s t a
  |.fieldAddr q x f=>vFa P ρ x f (P.underlying q)
  |.indexAddr t x i=>vIa P ρ x i (P.underlying t)
  |.index t x i=>vIx P ρ x i (P.underlying t)
  |.field t x f=>vFd P ρ x f (P.underlying t)
  |.binOp op t x y _=>vBp P ρ t op x y (P.underlying t)
  |.unOp op _ x=>upX op (evX ρ x)
  |.convert q d x=>vCv P ρ s q d x (P.underlying q) (P.underlying d)
  |.makeInterface t x=>vMi (P.underlying t) t (evX ρ x)
  |.slice t x l h m=>vSl P ρ s x l h m (P.underlying t)
  |.extract x i=>exX (evX ρ x) i
  |.build t ps=>vBd P t (xparts ρ ps.toList)
  |.call c=>vCl P ρ s c c.callee
  |.makeFunc fn a c=>mfX ρ fn a c
  |.lookup t x i ok=>lkX P s t (evX ρ x) (evX ρ i) ok
  |.typeAssert x _ a ok=>taX P a ok (evX ρ x)
  |_=>none
theorem Zpc (P:Program) (ρ:T X) (s:St) (o:Oper):xvalF P ρ s o.op=xval P ρ s o:=by
  unfold xval
  cases o.op with
  |pick c a b=>
    show vPk ρ a b (evX ρ c)=_
    simp only
    cases evX ρ c with
    |none=>rfl
    |some x=>
      cases x with
      |b c=>cases c <;> rfl
      |_=>rfl
  |nilCheck x=>
    show vNc (pX (evX ρ x))=_
    simp only
    cases pX (evX ρ x) <;> rfl
  |fieldAddr q x f=>
    show vFa P ρ x f (P.underlying q)=_
    simp only
    cases P.underlying q with
    |none=>rfl
    |some d=>
      cases d with
      |struct fs=>
        show vFa2 P ρ x (fldOf fs.toList f)=_
        simp only
        cases fldOf fs.toList f <;> rfl
      |_=>rfl
  |indexAddr t x i=>
    show vIa P ρ x i (P.underlying t)=_
    simp only
    cases P.underlying t with
    |none=>rfl
    |some d=>cases d <;> rfl
  |index t x i=>
    show vIx P ρ x i (P.underlying t)=_
    simp only
    cases P.underlying t with
    |none=>rfl
    |some d=>cases d <;> rfl
  |field t x f=>
    show vFd P ρ x f (P.underlying t)=_
    simp only
    cases P.underlying t with
    |none=>rfl
    |some d=>cases d <;> rfl
  |binOp op t x y yt=>
    show vBp P ρ t op x y (P.underlying t)=_
    simp only
    cases P.underlying t with
    |none=>rfl
    |some d=>cases d <;> first|rfl|(cases op <;> rfl)
  |convert q d x=>
    show vCv P ρ s q d x (P.underlying q) (P.underlying d)=_
    simp only
    cases P.underlying q with
    |none=>cases P.underlying d <;> rfl
    |some a=>
      cases P.underlying d with
      |none=>cases a <;> rfl
      |some b=>cases a <;> cases b <;> rfl
  |makeInterface t x=>
    show vMi (P.underlying t) t (evX ρ x)=_
    simp only
    cases P.underlying t with
    |none=>cases evX ρ x <;> rfl
    |some d=>cases d <;> cases evX ρ x <;> rfl
  |slice t x l h m=>
    show vSl P ρ s x l h m (P.underlying t)=_
    simp only
    cases P.underlying t with
    |none=>rfl
    |some d=>cases d <;> cases m <;> rfl
  |build t ps=>
    show vBd P t (xparts ρ ps.toList)=_
    simp only
    cases xparts ρ ps.toList <;> rfl
  |call c=>
    show vCl P ρ s c c.callee=_
    simp only
    cases c.callee with
    |builtin b=>
      cases b with
      |len=>
        show vLn P s c.argTypes.toList (xargs ρ c.args.toList)=_
        simp only
        cases c.argTypes.toList with
        |nil=>rfl
        |cons t ts=>
          cases xargs ρ c.args.toList with
          |none=>rfl
          |some xs=>
            cases xs with
            |nil=>rfl
            |cons y ys=>
              show vLn2 s (P.underlying t) y=_
              simp only
              cases P.underlying t with
              |none=>cases y <;> rfl
              |some d=>cases d <;> cases y <;> rfl
      |min=>
        show vMm false (xargs ρ c.args.toList)=_
        simp only
        cases xargs ρ c.args.toList <;> rfl
      |max=>
        show vMm true (xargs ρ c.args.toList)=_
        simp only
        cases xargs ρ c.args.toList <;> rfl
      |_=>rfl
    |_=>rfl
  |_=>rfl
def eBx (t:TypeId) (s:St):Option X->Option (X × St)
  |some x=>newX t (some (cellsX x)) s
  |none=>none
def eAp (P:Program) (s:St):Array TypeId->Option (List X)->Option (X × St)
  |⟨[t,tx]⟩,some [x,y]=>appX P t tx x y s
  |_,_=>none
def eCl (P:Program) (call:CallT) (ρ:T X) (s:St) (c:Call):Callee->Option (X × St)
  |.value (.func f)=>eFn P call f s (xargs ρ c.args.toList)
  |.value f=>eVl call s (evX ρ f) (xargs ρ c.args.toList)
  |.invoke q name=>eIv P call s name (evX ρ q) (xargs ρ c.args.toList)
  |.builtin .clear=>clrX P c.argTypes.toList (xargs ρ c.args.toList) s
  |.builtin .delete=>dlX P c.argTypes.toList (xargs ρ c.args.toList) s
  |.builtin .copy=>cpyZ P c.argTypes.toList (xargs ρ c.args.toList) s
  |.builtin .unsafeSliceData=>eUsd s (usdX (xargs ρ c.args.toList))
  |.builtin .unsafeString=>ustX P c.argTypes.toList (xargs ρ c.args.toList) s
  |.builtin .append=>eAp P s c.argTypes (xargs ρ c.args.toList)
  |_=>none
def xeffF (P:Program) (st:Bool) (call:CallT) (ρ:T X) (s:St):Op->Option (X × St)
  |.store t a x=>stoX P s t (pX (evX ρ a)) (evX ρ x)
  |.alloc t=>newX t (zeroX P t) s
  |.box t x=>eBx t s (evX ρ x)
  |.buildSlice t n ps=>eBs P t s n (xparts ρ ps.toList)
  |.makeSlice t l c=>msX P t (evX ρ l) (evX ρ c) s
  |.convert q d x=>eCv P st q d (evX ρ x) s
  |.makeMap t r=>mmX0 P t (r.map (evX ρ)) s
  |.mapUpdate t m k x=>muX P t (evX ρ m) (evX ρ k) (evX ρ x) s
  |.insert t m k x=>muX P t (evX ρ m) (evX ρ k) (evX ρ x) s
  |.range t x=>rgX P t (evX ρ x) s
  |.next x isS=>nxX isS (evX ρ x) s
  |.call c=>eCl P call ρ s c c.callee
  |_=>none
theorem Zob (P:Program) (st:Bool) (call:CallT) (ρ:T X) (s:St) (o:Oper):xeffF P st call ρ s o.op=xeff P st call ρ s o:=by
  unfold xeff
  cases o.op with
  |box t x=>
    show eBx t s (evX ρ x)=_
    simp only
    cases evX ρ x <;> rfl
  |call c=>
    show eCl P call ρ s c c.callee=_
    simp only
    cases c.callee with
    |value f=>
      cases f with
      |func f=>rfl
      |_=>rfl
    |builtin b=>
      cases b with
      |append=>
        show eAp P s c.argTypes (xargs ρ c.args.toList)=_
        obtain⟨l⟩:=c.argTypes
        cases xargs ρ c.args.toList with
        |none=>
          match l with
          |[]=>rfl
          |[_]=>rfl
          |[_,_]=>rfl
          |_::_::_::_=>rfl
        |some xs=>
          match l,xs with
          |[],[]=>rfl
          |[],[_]=>rfl
          |[],[_,_]=>rfl
          |[],_::_::_::_=>rfl
          |[_],[]=>rfl
          |[_],[_]=>rfl
          |[_],[_,_]=>rfl
          |[_],_::_::_::_=>rfl
          |[_,_],[]=>rfl
          |[_,_],[_]=>rfl
          |[_,_],[_,_]=>rfl
          |[_,_],_::_::_::_=>rfl
          |_::_::_::_,[]=>rfl
          |_::_::_::_,[_]=>rfl
          |_::_::_::_,[_,_]=>rfl
          |_::_::_::_,_::_::_::_=>rfl
      |delete=>rfl
      |clear=>rfl
      |copy=>rfl
      |unsafeSliceData=>rfl
      |unsafeString=>rfl
      |_=>cases xargs ρ c.args.toList <;> rfl
    |invoke r m=>rfl
  |_=>rfl
def oD2 (s:St):Option (T X)->Option (T X × St)
  |some ρ=>some (ρ,s)
  |none=>none
def oE (n:Nat) (ops:List Oper) (i:Nat) (dst:Option Nat) (ρ:T X):Option (X × St)->Option (T X × St)
  |some q=>oD2 q.2 (xdone n ops i dst q.1 ρ)
  |none=>none
def oV (P:Program) (st:Bool) (call:CallT) (n:Nat) (ops:List Oper) (i:Nat) (o:Oper) (ρ:T X) (s:St):Option X->Option (T X × St)
  |some x=>oD2 s (xdone n ops i o.dst x ρ)
  |none=>oE n ops i o.dst ρ (xeffF P st call ρ s o.op)
def oG (P:Program) (st:Bool) (call:CallT) (n:Nat) (ops:List Oper) (i:Nat) (o:Oper) (ρ:T X) (s:St):Option Bool->Option (T X × St)
  |some c=>(match c with
    |true=>oV P st call n ops i o ρ s (xvalF P ρ s o.op)
    |false=>oD2 s (xput n ρ o.dst undX))
  |none=>none
theorem oG_eq (P:Program) (st:Bool) (call:CallT) (n:Nat) (ops:List Oper) (i:Nat) (o:Oper) (ρ:T X) (s:St):oG P st call n ops i o ρ s (xgd ops ρ o)=xop1 P st call n ops i o ρ s:=by
  unfold xop1
  cases xgd ops ρ o with
  |none=>rfl
  |some c=>
    cases c with
    |true=>
      show oV P st call n ops i o ρ s (xvalF P ρ s o.op)=_
      rw[Zpc]
      simp only
      cases xval P ρ s o with
      |some x=>
        show oD2 s (xdone n ops i o.dst x ρ)=_
        simp only
        cases xdone n ops i o.dst x ρ <;> rfl
      |none=>
        show oE n ops i o.dst ρ (xeffF P st call ρ s o.op)=_
        rw[Zob]
        simp only
        cases xeff P st call ρ s o with
        |none=>rfl
        |some q=>
          obtain⟨x,s'⟩:=q
          show oD2 s' (xdone n ops i o.dst x ρ)=_
          simp only
          cases xdone n ops i o.dst x ρ <;> rfl
    |false=>
      show oD2 s (xput n ρ o.dst undX)=_
      simp only
      cases xput n ρ o.dst undX <;> rfl
def lK (ih:Nat->T X->St->Option (T X × St)) (i:Nat):Option (T X × St)->Option (T X × St)
  |some q=>ih i q.1 q.2
  |none=>none
def xopsF (P:Program) (st:Bool) (call:CallT) (n:Nat) (ops:List Oper) (l:List Oper):Nat->T X->St->Option (T X × St):=
  @List.rec Oper (λ_=>Nat->T X->St->Option (T X × St)) (λ_ ρ s=>some (ρ,s)) (λo _ ih i ρ s=>lK ih (i+1) (oG P st call n ops i o ρ s (xgd ops ρ o))) l
theorem Zjw (P:Program) (st:Bool) (call:CallT) (n:Nat) (ops:List Oper):∀ (l:List Oper) (i:Nat) (ρ:T X) (s:St),xopsF P st call n ops l i ρ s=xops P st call n ops l i ρ s
  |[],_,_,_=>rfl
  |o::l,i,ρ,s=>by
    show lK (xopsF P st call n ops l) (i+1) (oG P st call n ops i o ρ s (xgd ops ρ o))=_
    rw[oG_eq,xops]
    cases xop1 P st call n ops i o ρ s with
    |none=>rfl
    |some q=>
      obtain⟨ρ',s'⟩:=q
      exact Zjw P st call n ops l (i+1) ρ' s'
abbrev Pend:=List (Nat × Oper × T X × X)
abbrev Past:=List (Nat × St)
abbrev StT:=Nat->Pend->Past->T X->St->Option (T X × St)
def sPa (ih:StT) (i:Nat) (pend:Pend) (past:Past) (ρ:T X) (s:St):Bool->Option (T X × St)
  |true=>ih i pend past ρ s
  |false=>none
def sV2 (P:Program) (b:Nat->Nat->Bool) (o:Oper) (ih:StT) (i:Nat) (pend:Pend) (past:Past) (ρ:T X) (s:St) (x:X) (ρ':T X):Bool->Option (T X × St)
  |true=>ih (i+1) pend past ρ' s
  |false=>sPa ih (i+1) ((i,o,ρ,x)::pend) past ρ' s (pastOk P ρ o (b i) x past)
def sV1 (P:Program) (b:Nat->Nat->Bool) (o:Oper) (ih:StT) (i:Nat) (pend:Pend) (past:Past) (ρ:T X) (s:St) (x:X):Option (T X)->Option (T X × St)
  |some ρ'=>sV2 P b o ih i pend past ρ s x ρ' (blind P o)
  |none=>none
def sV (P:Program) (n:Nat) (ops:List Oper) (b:Nat->Nat->Bool) (o:Oper) (ih:StT) (i:Nat) (pend:Pend) (past:Past) (ρ:T X) (s:St):Option X->Option (T X × St)
  |some x=>sV1 P b o ih i pend past ρ s x (xdone n ops i o.dst x ρ)
  |none=>none
def sE2 (ih:StT) (i:Nat) (pend:Pend) (past:Past) (s s':St):Bool->Option (T X)->Option (T X × St)
  |true,some ρ'=>ih (i+1) pend ((i,s)::past) ρ' s'
  |_,_=>none
def sE (P:Program) (n:Nat) (ops:List Oper) (b:Nat->Nat->Bool) (o:Oper) (ih:StT) (i:Nat) (pend:Pend) (past:Past) (ρ:T X) (s:St):Option (X × St)->Option (T X × St)
  |some q=>sE2 ih i pend past s q.2 (pendOk P q.2 (b i) pend) (xdone n ops i o.dst q.1 ρ)
  |none=>none
def sS (ih:StT) (i:Nat) (pend:Pend) (past:Past) (s:St):Option (T X)->Option (T X × St)
  |some ρ'=>ih (i+1) pend past ρ' s
  |none=>none
def sX (P:Program) (call:CallT) (n:Nat) (ops:List Oper) (b:Nat->Nat->Bool) (o:Oper) (ih:StT) (i:Nat) (pend:Pend) (past:Past) (ρ:T X) (s:St):Bool->Option (T X × St)
  |true=>sV P n ops b o ih i pend past ρ s (xvalF P ρ s o.op)
  |false=>sE P n ops b o ih i pend past ρ s (xeffF P false call ρ s o.op)
def sG (P:Program) (call:CallT) (n:Nat) (ops:List Oper) (b:Nat->Nat->Bool) (o:Oper) (ih:StT) (i:Nat) (pend:Pend) (past:Past) (ρ:T X) (s:St):Option Bool->Option (T X × St)
  |some c=>(match c with
    |true=>sX P call n ops b o ih i pend past ρ s (stillOp o.op)
    |false=>sS ih i pend past s (xput n ρ o.dst undX))
  |none=>none
def xstF (P:Program) (call:CallT) (n:Nat) (ops:List Oper) (b:Nat->Nat->Bool) (l:List Oper):StT:=
  @List.rec Oper (λ_=>StT) (λ_ _ _ ρ s=>some (ρ,s)) (λo _ ih i pend past ρ s=>sG P call n ops b o ih i pend past ρ s (xgd ops ρ o)) l
theorem Zs4 (P:Program) (call:CallT) (n:Nat) (ops:List Oper) (b:Nat->Nat->Bool):∀ (l:List Oper) (i:Nat) (pend:Pend) (past:Past) (ρ:T X) (s:St),xstF P call n ops b l i pend past ρ s=xst P call n ops b l i pend past ρ s
  |[],_,_,_,_,_=>rfl
  |o::l,i,pend,past,ρ,s=>by
    have ih:=Zs4 P call n ops b l
    show sG P call n ops b o (xstF P call n ops b l) i pend past ρ s (xgd ops ρ o)=_
    rw[xst]
    cases xgd ops ρ o with
    |none=>rfl
    |some c=>
      cases c with
      |false=>
        show sS (xstF P call n ops b l) i pend past s (xput n ρ o.dst undX)=_
        simp only
        cases xput n ρ o.dst undX with
        |none=>rfl
        |some ρ'=>exact ih _ _ _ _ _
      |true=>
        show sX P call n ops b o (xstF P call n ops b l) i pend past ρ s (stillOp o.op)=_
        simp only
        cases stillOp o.op with
        |true=>
          show sV P n ops b o (xstF P call n ops b l) i pend past ρ s (xvalF P ρ s o.op)=_
          rw[Zpc]
          simp only
          cases xval P ρ s o with
          |none=>rfl
          |some x=>
            show sV1 P b o (xstF P call n ops b l) i pend past ρ s x (xdone n ops i o.dst x ρ)=_
            simp only
            cases xdone n ops i o.dst x ρ with
            |none=>rfl
            |some ρ'=>
              show sV2 P b o (xstF P call n ops b l) i pend past ρ s x ρ' (blind P o)=_
              simp only
              cases blind P o with
              |true=>exact ih _ _ _ _ _
              |false=>
                show sPa (xstF P call n ops b l) (i+1) ((i,o,ρ,x)::pend) past ρ' s (pastOk P ρ o (b i) x past)=_
                simp only
                cases pastOk P ρ o (b i) x past with
                |true=>exact ih _ _ _ _ _
                |false=>rfl
        |false=>
          show sE P n ops b o (xstF P call n ops b l) i pend past ρ s (xeffF P false call ρ s o.op)=_
          rw[Zob]
          simp only
          cases xeff P false call ρ s o with
          |none=>rfl
          |some q=>
            obtain⟨x,s'⟩:=q
            show sE2 (xstF P call n ops b l) i pend past s s' (pendOk P s' (b i) pend) (xdone n ops i o.dst x ρ)=_
            simp only
            cases pendOk P s' (b i) pend with
            |false=>cases xdone n ops i o.dst x ρ <;> rfl
            |true=>
              cases xdone n ops i o.dst x ρ with
              |none=>rfl
              |some ρ'=>exact ih _ _ _ _ _
def rS (P:Program) (n:Nat) (call:CallT) (ops:Array Oper) (ρ:T X) (s:St):Bool->Option (T X × St)
  |true=>xstF P call n ops.toList (befM (msOf ops.toList [])) ops.toList 0 [] [] ρ s
  |false=>xtr P call n ops ρ s
def rD (P:Program) (n:Nat) (call:CallT) (ops:Array Oper) (ρ:T X) (s:St):Bool->Bool->Option (T X × St)
  |true,true=>xopsF P true call n ops.toList ops.toList 0 ρ s
  |_,_=>rS P n call ops ρ s (stagedB ops ops.toList (msOf ops.toList []) ops.toList 0)
def xregF (P:Program) (n:Nat) (call:CallT) (ops:Array Oper) (ρ:T X) (s:St):Bool->Option (T X × St)
  |false=>xopsF P false call n ops.toList ops.toList 0 ρ s
  |true=>rD P n call ops ρ s (Region.lexB .any ops) (allStill ops.toList)
theorem Zxa (P:Program) (n:Nat) (call:CallT) (ops:Array Oper) (draw:Bool) (ρ:T X) (s:St):xregF P n call ops ρ s draw=xreg P n call ops draw ρ s:=by
  unfold xreg
  cases draw with
  |false=>exact Zjw _ _ _ _ _ _ _ _ _
  |true=>
    show rD P n call ops ρ s (Region.lexB .any ops) (allStill ops.toList)=_
    have st:rS P n call ops ρ s (stagedB ops ops.toList (msOf ops.toList []) ops.toList 0)=(match stagedB ops ops.toList (msOf ops.toList []) ops.toList 0 with
      |true=>xst P call n ops.toList (befM (msOf ops.toList [])) ops.toList 0 [] [] ρ s
      |false=>xtr P call n ops ρ s):=by
      cases stagedB ops ops.toList (msOf ops.toList []) ops.toList 0 with
      |true=>exact Zs4 _ _ _ _ _ _ _ _ _ _ _
      |false=>rfl
    simp only
    cases Region.lexB .any ops with
    |false=>exact st
    |true=>
      cases allStill ops.toList with
      |false=>exact st
      |true=>exact Zjw _ _ _ _ _ _ _ _ _
def cR2 (s:St):Option X->Option (X × St)
  |some x=>some (x,s)
  |none=>none
def cR (P:Program) (rs:List ResultVar):Option (Exit × T X × St)->Option (X × St)
  |some q=>(match q.1 with
    |.normal=>cR2 q.2.2 (xres P q.2.1 q.2.2 rs [])
    |.ret=>cR2 q.2.2 (xres P q.2.1 q.2.2 rs [])
    |_=>none)
  |none=>none
def cB (P:Program) (run:Run) (fn:Func) (xs:List X) (s:St):Option Code->Bool->Bool->Option (X × St)
  |some c,false,true=>cR P fn.results.toList (run fn.ntmps c (argX (dep fn.ntmps) xs 0 .e) s)
  |_,_,_=>none
def cF (P:Program) (run:Run) (xs:List X) (s:St):Option Func->Option (X × St)
  | some fn => cB P run fn xs s fn.body (fn.name == "runtime.NumGoroutine") (Nat.ble xs.length fn.ntmps)
  |none=>none
def mF (P:Program) (run:Run) (f:FuncId) (xs:List X) (s:St):Option (X × St)->Option (X × St)
  |some p=>some p
  |none=>cF P run xs s (P.funcs[f]?)
def callF (P:Program) (M:List Ent) (run:Run) (f:FuncId) (xs:List X) (s:St):Option (X × St):=mF P run f xs s (memo M f xs s)
theorem Zj3 (P:Program) (M:List Ent) (run:Run) (f:FuncId) (xs:List X) (s:St):callF P M run f xs s=callX P M run f xs s:=by
  unfold callF callX
  cases memo M f xs s with
  |some x=>rfl
  |none=>
  show cF P run xs s (P.funcs[f]?)=_
  simp only
  cases P.funcs[f]? with
  |none=>rfl
  |some fn=>
    show cB P run fn xs s fn.body (fn.name == "runtime.NumGoroutine") (Nat.ble xs.length fn.ntmps) = _
    simp only
    cases fn.body with
    |none=>rfl
    |some c=>
      cases fn.name == "runtime.NumGoroutine" with
      |true=>cases Nat.ble xs.length fn.ntmps <;> rfl
      |false=>
        cases Nat.ble xs.length fn.ntmps with
        |false=>rfl
        |true=>
          show cR P fn.results.toList (run fn.ntmps c (argX (dep fn.ntmps) xs 0 .e) s)=_
          simp only
          cases run fn.ntmps c (argX (dep fn.ntmps) xs 0 .e) s with
          |none=>rfl
          |some q=>
            obtain⟨e,ρ',s'⟩:=q
            cases e with
            |normal=>
              show cR2 s' (xres P ρ' s' fn.results.toList [])=_
              simp only
              cases xres P ρ' s' fn.results.toList [] <;> rfl
            |ret=>
              show cR2 s' (xres P ρ' s' fn.results.toList [])=_
              simp only
              cases xres P ρ' s' fn.results.toList [] <;> rfl
            |_=>rfl
def kR:Option (T X × St)->Option (Exit × T X × St)
  |some q=>some (.normal,q.1,q.2)
  |none=>none
def kS2 (ih:Run) (n:Nat) (y:Code) (q:Exit × T X × St):Exit->Option (Exit × T X × St)
  |.normal=>ih n y q.2.1 q.2.2
  |_=>some q
def kS (ih:Run) (n:Nat) (y:Code):Option (Exit × T X × St)->Option (Exit × T X × St)
  |some q=>kS2 ih n y q q.1
  |none=>none
def kC2 (ih:Run) (n:Nat) (x y:Code) (ρ:T X) (s:St):Bool->Option (Exit × T X × St)
  |true=>ih n x ρ s
  |false=>ih n y ρ s
def kC (ih:Run) (n:Nat) (x y:Code) (ρ:T X) (s:St):Option X->Option (Exit × T X × St)
  |some (.b c)=>kC2 ih n x y ρ s c
  |_=>none
def kB3 (q:Exit × T X × St):Bool->Option (Exit × T X × St)
  |true=>some (.normal,q.2.1,q.2.2)
  |false=>some q
def kB2 (id:Nat) (q:Exit × T X × St):Exit->Option (Exit × T X × St)
  |.exit i=>kB3 q (Nat.beq i id)
  |_=>some q
def kB (id:Nat):Option (Exit × T X × St)->Option (Exit × T X × St)
  |some q=>kB2 id q q.1
  |none=>none
def stepF (P:Program) (M:List Ent) (ih:Run) (n:Nat) (c:Code) (ρ:T X) (s:St):Option (Exit × T X × St):=match c with
  |.skip=>some (.normal,ρ,s)
  |.label _=>some (.normal,ρ,s)
  |.region _ ops draw=>kR (xregF P n (callF P M ih) ops ρ s draw)
  |.seq x y=>kS ih n y (ih n x ρ s)
  |.cond q x y=>kC ih n x y ρ s (evX ρ q)
  |.block id x=>kB id (ih n x ρ s)
  |.loop x=>kS ih n (.loop x) (ih n x ρ s)
  |.exit id=>some (.exit id,ρ,s)
  |.ret=>some (.ret,ρ,s)
  |_=>none
def evF (P:Program) (M:List Ent) (k:Nat):Run:=@Nat.rec (λ_=>Run) (λ_ _ _ _=>none) (λ_ ih=>stepF P M ih) k
theorem Zyx (P:Program) (M:List Ent):∀ (k:Nat) (n:Nat) (c:Code) (ρ:T X) (s:St),evF P M k n c ρ s=ev P M k n c ρ s
  |0,_,_,_,_=>rfl
  |k+1,n,c,ρ,s=>by
    have ih:=Zyx P M k
    have ihf:evF P M k=ev P M k:=by funext n c ρ s;exact ih n c ρ s
    show stepF P M (evF P M k) n c ρ s=_
    rw[ihf]
    unfold stepF
    cases c with
    |region id ops draw=>
      simp only[ev]
      rw[Zxa]
      have:callF P M (ev P M k)=callX P M (ev P M k):=by funext f xs s;exact Zj3 P M _ f xs s
      rw[this]
      cases xreg P n (callX P M (ev P M k)) ops draw ρ s <;> rfl
    |seq x y=>
      simp only[ev]
      cases ev P M k n x ρ s with
      |none=>rfl
      |some q=>obtain⟨e,ρ',s'⟩:=q;cases e <;> rfl
    |cond q x y=>
      simp only[ev]
      cases evX ρ q with
      |none=>rfl
      |some z=>
        cases z with
        |b c=>cases c <;> rfl
        |_=>rfl
    |block id x=>
      simp only[ev]
      cases ev P M k n x ρ s with
      |none=>rfl
      |some q=>
        obtain⟨e,ρ',s'⟩:=q
        cases e with
        |exit i=>
          show kB3 (.exit i,ρ',s') (Nat.beq i id)=_
          simp only
          cases Nat.beq i id <;> rfl
        |_=>rfl
    |loop x=>
      simp only[ev]
      cases ev P M k n x ρ s with
      |none=>rfl
      |some q=>obtain⟨e,ρ',s'⟩:=q;cases e <;> rfl
    |_=>rfl
theorem Zrl (P:Program) (M:List Ent) (k:Nat):evF P M k=ev P M k:=by funext n c ρ s;exact Zyx P M k n c ρ s
theorem Zw2 {P:Program}(hm:P.follows .mixedOrders=true){f:FuncId}{k:Nat}{M:List Ent}(hM:OraOk P M) (h:isTrue (callF P M (evF P M k) f [] s0)=true){w:World}{L:List HProp}{K:Value->World->Prop}(H:Holds w L)
    (post:∀ w',Same w w'->Holds w' L->K (.bool true) w'):Cl P f #[] w K:=by
  rw[Zrl,Zj3] at h
  exact Zzh hm hM h H post
theorem Za7 {P:Program}:OraOk P []:=λe he=>by cases he
theorem Za5 {P:Program}{e:Ent}{M:List Ent}(h:EntOk P e) (hM:OraOk P M):OraOk P (e::M):=λx hx=>by
  rcases List.mem_cons.1 hx with rfl|hx
  . exact h
  . exact hM x hx
def isRes (x:X) (q':St):Option (X × St)->Bool
  |some r=>(match eqX r.1 x with
    |true=>subS r.2 q'
    |false=>false)
  |none=>false
theorem entS {P:Program}(hm:P.follows .mixedOrders=true){f:FuncId}{k:Nat}{xs:List X}{q:St}{z:X}{q':St}{M:List Ent}(hM:OraOk P M) (hd:domS q q'=true)
    (h:isRes z q' (callF P M (evF P M k) f xs q)=true):EntOk P (.s f xs q z q'):=by
  refine⟨hd,?_⟩
  intro base w0 σ w vs hw hv K hK
  rw[Zrl,Zj3] at h
  have hc:CallOk P base w0 (callX P M (ev P M k)):=Zjl hM (ev_ok hm hM k).1
  cases hx:callX P M (ev P M k) f xs q with
  |none=>rw[hx] at h;cases h
  |some r=>
    obtain⟨y,s'⟩:=r
    rw[hx] at h
    unfold isRes at h
    simp only at h
    split at h
    . rename_i he
      obtain rfl:=Zel _ _ he
      exact hc f xs q _ s' hx σ w vs hw hv K λσ' w' v hxt hw' hv'=>hK σ' w' v hxt (hw'.sub (Zsh h)) hv'
    . cases h
end
end Go.Ev
