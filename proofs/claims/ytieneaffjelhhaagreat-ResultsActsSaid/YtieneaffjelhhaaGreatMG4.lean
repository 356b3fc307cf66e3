/- Several texts in one: E4, E5, E6, F2, F3, E7, E8, ET, EU, E9, EA. -/
import Derived.Test.YtieneaffjelhhaaGreatMG3
import Derived.Deep.AppendSrc
import Derived.Test.YtieneaffjelhhaaGreatMG0
import Derived.Carry
import Derived.Lib.UnsafeStr
import Derived.Lib.Bytealg
import Derived.Lib.MakeNoZero
import Derived.Great.BuildSlice
set_option linter.unusedVariables false
set_option linter.unusedSimpArgs false
set_option linter.unusedSectionVars false
/- A verified evaluator for closed calls, fourth part: operations that leave the world as it is, each against its formula. No program in sight. -/
open Go.RowKit (intOf)
open List (all_append all_eq_true mem_cons)
namespace Go.Ev
open Go Go.Vc
noncomputable section
variable {P:Program}{base:Bs}{σ:Sg}{s:St}{w w':World}{ρ:T X}{r:Env}
def pX:Option X->Option (Nat × Nat)
 |some (.p (some a))=>some a
 |_=>none
theorem Yaw {o:Operand}{a:Nat × Nat}(hE:EnvR σ ρ r) (h:pX (evX ρ o)=some a):∃ q,σ a.1=some q/\r.ev o=.pointer (some ⟨q.1,q.2.1+a.2,none⟩)\/False:=by
 unfold pX at h;split at h
 ·rename_i b hb;obtain rfl:=Option.some.inj h;have:=Za3 hE hb;simp only[vl] at this
  cases hs:σ b.1 with
  |none=>rw[hs] at this;cases this
  |some q=>rw[hs] at this;exact⟨q,.inl ⟨rfl,(Option.some.inj this).symm⟩⟩
 ·cases h
theorem pX_ok {o:Operand}{a:Nat × Nat}(hE:EnvR σ ρ r) (h:pX (evX ρ o)=some a):∃ q,σ a.1=some q/\r.ev o=.pointer (some ⟨q.1,q.2.1+a.2,none⟩):=by
 obtain⟨q,h1|h1⟩:=Yaw hE h
 ·exact⟨q,h1⟩
 ·exact h1.elim
theorem vl_p {b o:Nat}{q:Nat × Nat × Nat}(h:σ b=some q):vl σ (.p (some (b,o)))=some (.pointer (some ⟨q.1,q.2.1+o,none⟩)):=by
 simp only[vl,h]
def foX (a:Option (Nat × Nat)) (off:Nat):Option X:=match a with
 |some a=>some (.p (some (a.1,a.2+off)))
 |none=>none
theorem Ybw {o:Operand}{off:Nat}{x:X}{K:Value->Prop}(hE:EnvR σ ρ r) (h:foX (pX (evX ρ o)) off=some x) (hK:∀ v,vl σ x=some v->K v):Fo off (r.ev o) K:=by
 unfold foX at h;split at h
 ·rename_i a ha;obtain rfl:=Option.some.inj h;obtain⟨q,h1,h2⟩:=pX_ok hE ha;rw[h2];refine⟨_,rfl,?_⟩;rw[Zam];refine hK _ ?_;rw[vl_p h1,hG_]
 ·cases h
def ldV (P:Program) (s:St) (t:TypeId) (a:Option (Nat × Nat)):Option X:=match P.underlying t,a with
 |some (.struct _),some a|some (.array _ _),some a=>(match P.info? t with
  |some i=>ldAX s a.1 a.2 i.size
  |none=>none)
 |some _,some a=>ldX s a.1 a.2
 |_,_=>none
def ldG1:List X->Option X
 |[x]=>some x
 |_=>none
def ldGA (xs:List X) (n:Nat):Option X:=match Nat.beq xs.length n with
 |true=>some (.g xs)
 |false=>none
def ldG (P:Program) (t:TypeId) (xs:List X):Option X:=match P.underlying t with
 |some (.struct _)|some (.array _ _)=>(match P.info? t with
  |some i=>ldGA xs i.size
  |none=>none)
 |some _=>ldG1 xs
 |none=>none
def ldW (P:Program) (ρ:T X) (s:St) (t:TypeId):Operand->Option X
 |.global g=>(match lkG s.g g with
  |some xs=>ldG P t xs
  |none=>none)
 |a=>ldV P s t (pX (evX ρ a))
def iaX (P:Program) (e:TypeId) (len:Nat) (a:Option (Nat × Nat)) (n:Option X):Option X:=match P.info? e,a,n with
 |some inf,some a,some (.i k n)=>(match inX n len with
  |some m=>some (.p (some (a.1,a.2+m*inf.size)))
  |none=>none)
 |_,_,_=>none
def isX (P:Program) (e:TypeId) (x n:Option X):Option X:=match x with
 |some (.l (some a) len _)=>iaX P e len (some a) n
 |_=>none
def ixsX (x n:Option X):Option X:=match x,n with
 |some (.s l),some (.i k n)=>(match inX n l.length with
  |some m=>some (.i .u8 ((l.getD m 0%256:Nat):Int))
  |none=>none)
 |_,_=>none
theorem Ya5 {a b:Operand}{x:X}{K:Value->Prop}(hE:EnvR σ ρ r) (h:ixsX (evX ρ a) (evX ρ b)=some x) (hK:∀ v,vl σ x=some v->K v):Ixs (r.ev a) (r.ev b) K:=by
 unfold ixsX at h;split at h
 ·rename_i l k n ha hb;split at h
  ·rename_i m hm;obtain rfl:=Option.some.inj h;obtain⟨rfl,h2⟩:=Zg8 hm;have e1:=Za3 hE ha;have e2:=Za3 hE hb;simp only[vl,Option.some.injEq] at e1 e2;rw[<-e1,<-e2];refine⟨str l,k,(m:Int),rfl,rfl,by omega,by rw[Zbe];omega,hK _ ?_⟩;rw[gC,Yap h2];rfl
  ·cases h
 ·cases h
def ixaX (size:Nat) (agg:Bool) (len:Nat) (x n:Option X):Option X:=match x,n with
 |some (.g xs),some (.i k n)=>(match inX n len with
  |some m=>(match agg with
   |true=>some (.g ((xs.drop (m*size)).take size))
   |false=>xs[m*size]?)
  |none=>none)
 |_,_=>none
theorem Zhx (vs:List Value) (a n:Nat):vs.toArray.extract a (a+n)=((vs.drop a).take n).toArray:=by
 apply Array.ext';rw[Array.toList_extract,List.extract_eq_take_drop];simp
theorem Zno {size len:Nat}{agg:Bool}{a b:Operand}{x:X}{K:Value->Prop}(hE:EnvR σ ρ r) (h:ixaX size agg len (evX ρ a) (evX ρ b)=some x) (hK:∀ v,vl σ x=some v->K v):Ixa len size agg (r.ev a) (r.ev b) K:=by
 unfold ixaX at h;split at h
 ·rename_i xs k n ha hb;split at h
  ·rename_i m hm;obtain⟨rfl,h2⟩:=Zg8 hm;have e1:=Za3 hE ha;have e2:=Za3 hE hb;simp only[vl] at e1;simp only[vl,Option.some.injEq] at e2
   cases hv:vls σ xs with
   |none=>rw[hv] at e1;cases e1
   |some vs=>
    rw[hv] at e1;rw[<-Option.some.inj e1,<-e2];refine⟨vs.toArray,k,(m:Int),rfl,rfl,by omega,by omega,?_⟩;rw[gC]
    cases agg with
    |true=>
     obtain rfl:=Option.some.inj h;refine hK _ ?_;rw[Zhx];simp only[vl,Zbd size (Zb7 (m*size) hv)]
    |false=>
     obtain⟨v,g1,g2⟩:=Zeb hv h;exact⟨v,by simpa using g1,hK _ g2⟩
  ·cases h
 ·cases h
def fdX (off:Nat) (x:Option X):Option X:=match x with
 |some (.g xs)=>xs[off]?
 |_=>none
theorem Ybi {off:Nat}{a:Operand}{x:X}{K:Value->Prop}(hE:EnvR σ ρ r) (h:fdX off (evX ρ a)=some x) (hK:∀ v,vl σ x=some v->K v):Vc.Fd off (r.ev a) K:=by
 unfold fdX at h;split at h
 ·rename_i xs ha;have e1:=Za3 hE ha;simp only[vl] at e1
  cases hv:vls σ xs with
  |none=>rw[hv] at e1;cases e1
  |some vs=>
   rw[hv] at e1;rw[<-Option.some.inj e1];obtain⟨v,g1,g2⟩:=Zeb hv h;exact⟨vs.toArray,v,rfl,by simpa using g1,hK _ g2⟩
 ·cases h
def fdaX (off n:Nat) (x:Option X):Option X:=match x with
 |some (.g xs)=>some (.g ((xs.drop off).take n))
 |_=>none
theorem Zuj {off n:Nat}{a:Operand}{x:X}{K:Value->Prop}(hE:EnvR σ ρ r) (h:fdaX off n (evX ρ a)=some x) (hK:∀ v,vl σ x=some v->K v):FdA off n (r.ev a) K:=by
 unfold fdaX at h;split at h
 ·rename_i xs ha;have e1:=Za3 hE ha;simp only[vl] at e1
  cases hv:vls σ xs with
  |none=>rw[hv] at e1;cases e1
  |some vs=>
   rw[hv] at e1;rw[<-Option.some.inj e1];obtain rfl:=Option.some.inj h;refine⟨vs.toArray,rfl,hK _ ?_⟩;rw[Zhx];simp only[vl,Zbd n (Zb7 off hv)]
 ·cases h
def bp2 (op:BinOp) (x y:Option X):Option X:=match x,y with
 |some x,some y=>bpX op x y
 |_,_=>none
def bbX (neg:Bool) (x y:Option X):Option X:=match x,y with
 |some (.b a),some (.b b)=>some (.b (if neg then !(a==b) else a==b))
 |_,_=>none
def bnX (P:Program) (e:TypeId) (neg:Bool) (x y:Option X):Option X:=match x,y with
 |some (.p none),some (.p b)=>some (.b (if neg then !b.isNone else b.isNone))
 |some (.p (some _)),some (.p none)=>some (.b neg)
 |some (.p (some a)),some (.p (some b))=>(match P.info? e,Nat.beq a.1 b.1,Nat.beq a.2 b.2 with
  |some _,true,true=>some (.b (!neg))
  |_,_,_=>none)
 |_,_=>none
theorem Zyo {e:TypeId}{neg:Bool}{a b:Operand}{x:X}{K:Value->Prop}(hE:EnvR σ ρ r) (h:bnX P e neg (evX ρ a) (evX ρ b)=some x) (hK:∀ v,vl σ x=some v->K v):Bn P e neg (r.ev a) (r.ev b) K:=by
 unfold bnX at h;split at h
 ·rename_i q ha hb;obtain rfl:=Option.some.inj h;have e1:=Za3 hE ha;have e2:=Za3 hE hb;simp only[vl,Option.some.injEq] at e1;rw[<-e1]
  cases q with
  |none=>
   simp only[vl,Option.some.injEq] at e2;rw[<-e2];exact .inl ⟨true,rfl,hK _ rfl⟩
  |some q=>
   simp only[vl] at e2
   cases hs:σ q.1 with
   |none=>rw[hs] at e2;cases e2
   |some z=>
    rw[hs] at e2;rw[<-Option.some.inj e2];exact .inl ⟨false,rfl,hK _ rfl⟩
 ·rename_i q ha hb;obtain rfl:=Option.some.inj h;have e1:=Za3 hE ha;have e2:=Za3 hE hb;simp only[vl,Option.some.injEq] at e2;rw[<-e2];simp only[vl] at e1
  cases hs:σ q.1 with
  |none=>rw[hs] at e1;cases e1
  |some z=>
   rw[hs] at e1;rw[<-Option.some.inj e1];exact .inl ⟨false,rfl,hK _ (by cases neg <;> rfl)⟩
 ·rename_i p q ha hb;split at h
  ·rename_i i hi h1 h2;obtain rfl:=Option.some.inj h;have e1:=Za3 hE ha;have e2:=Za3 hE hb;obtain⟨p1,p2⟩:=p;obtain⟨q1,q2⟩:=q;obtain rfl:=Nat.eq_of_beq_eq_true h1;obtain rfl:=Nat.eq_of_beq_eq_true h2;rw[e1] at e2;have e2:=Option.some.inj e2;obtain⟨z,hz⟩:=vl_ps e1;rw[<-e2,hz];exact .inr ⟨i,z,hi,rfl,rfl,hK _ rfl⟩
  ·cases h
 ·cases h
def mfX (ρ:T X) (fn:Fn) (a c:Array Operand):Option X:=match xargs ρ a.toList,xargs ρ c.toList with
 |some xs,some ys=>some (.f fn xs ys)
 |_,_=>none
theorem Ybj {fn:Fn}{a c:Array Operand}{x:X}{K:Value->Prop}(hE:EnvR σ ρ r) (h:mfX ρ fn a c=some x) (hK:∀ v,vl σ x=some v->K v):Mf P fn (amap r.ev a) (amap r.ev c) w K:=by
 unfold mfX at h;split at h
 ·rename_i xs ys hx hy;obtain rfl:=Option.some.inj h;refine⟨_,rfl,hK _ ?_⟩;simp only[vl,Zaf hE hx,Zaf hE hy];rfl
 ·cases h
def lmX (s:St) (b:Option Nat):Option X:=match esX s b with
 |some es=>some (.i .i64 (es.length:Int))
 |none=>none
theorem EsR.len {σ:Sg}:∀ {es:List (X × X)}{l:List MapEntry},EsR σ es l->es.length=l.length
 |[],[],_=>rfl
 |(k,v)::es,e::l,⟨_,_,h⟩=>by simp[EsR.len h]
 |[],_::_,h=>h.elim
 |_::_,[],h=>h.elim
theorem Ycs (hM:Mem P base σ s w){t k e ty:TypeId}{b:Option Nat}{x:X}{v:Value}(ht:P.underlying t=some (.map k e)) (h:lmX s b=some x) (hv:vl σ (.m b)=some v):∃ u,vl σ x=some u/\∀ (ts:List TypeId) (vs:List Value),(Builtin.len_ (t::ts).toArray ty (v::vs).toArray).run P w=.ok u w:=by
 unfold lmX at h;split at h
 ·rename_i es hes;obtain rfl:=Option.some.inj h;refine⟨_,rfl,λts vs=>?_⟩
  cases b with
  |none=>
   obtain rfl:=Option.some.inj hes;simp only[vl,Option.some.injEq] at hv;subst hv;simp[Builtin.len_,run_underlying ht,goInt]
  |some b=>
   simp only[esX] at hes;split at hes
   ·rename_i es' hb;obtain rfl:=Option.some.inj hes;obtain⟨rb,g1,g2,l,clock,g3,g4⟩:=hM.mown b _ hb;simp only[vl,g1,Option.some.injEq] at hv;subst hv;simp[Builtin.len_,run_underlying ht,mgetObj g3,goInt,g4.len]
   ·cases hes
 ·cases h
def upX (op:UnOp) (x:Option X):Option X:=match x with
 |some (.i k n)=>(match up op (.int k n) with
  |some v=>ofV v
  |none=>none)
 |some (.b b)=>(match up op (.bool b) with
  |some v=>ofV v
  |none=>none)
 |_=>none
theorem Ycp {op:UnOp}{a:Operand}{x:X}{K:Value->Prop}(hE:EnvR σ ρ r) (h:upX op (evX ρ a)=some x) (hK:∀ v,vl σ x=some v->K v):Up op (r.ev a) K:=by
 unfold upX at h;split at h
 ·rename_i k n ha;have e1:=Za3 hE ha;simp only[vl,Option.some.injEq] at e1;rw[<-e1];split at h
  ·rename_i v hv;exact⟨v,hv,hK _ (Zi8 h)⟩
  ·cases h
 ·rename_i b ha;have e1:=Za3 hE ha;simp only[vl,Option.some.injEq] at e1;rw[<-e1];split at h
  ·rename_i v hv;exact⟨v,hv,hK _ (Zi8 h)⟩
  ·cases h
 ·cases h
def ciX (k:IntKind) (x:Option X):Option X:=match x with
 |some (.i _ n)=>some (.i k (k.wrap n))
 |_=>none
def cvX (P:Program) (s:St) (t:TypeId) (x:Option X):Option X:=match P.underlying t with
 |some (.slice e)=>(match P.underlying e,x with
  |some (.int .u8),some x=>strX s x
  |_,_=>none)
 |_=>none
def sstX (x:Option X) (lo hi:Nat->Option Nat):Option X:=match x with
 |some (.s l)=>(match lo 0,hi l.length with
  |some a,some b=>(match Nat.ble a b,Nat.ble b l.length with
   |true,true=>some (.s ((l.take b).drop a))
   |_,_=>none)
  |_,_=>none)
 |_=>none
def slaX (P:Program) (s:St) (n:Nat) (e:TypeId) (x:Option X) (lo hi:Nat->Option Nat):Option X:=match x with
 |some (.p (some a))=>(match s.blk a.1 with
  |some cb=>(match isArrB P cb.1,P.info? e,lo 0,hi n with
   |true,some inf,some i,some j=>(match Nat.ble i j,Nat.ble j n,Nat.beq n i with
    |true,true,false=>some (.l (some (a.1,a.2+i*inf.size)) (j - i) (n - i))
    |true,true,true=>some (.l (some a) 0 0)
    |_,_,_=>none)
   |_,_,_,_=>none)
  |none=>none)
 |_=>none
theorem Zzq (hM:Mem P base σ s w){t:TypeId}{n:Nat}{e:TypeId}(hu:P.underlying t=some (.array n e)){a:Operand}{lo hi:Option Operand}{x:X}{K:Value->Prop}(hE:EnvR σ ρ r) (h:slaX P s n e (evX ρ a) (λd=>bndX ρ d lo) (λd=>bndX ρ d hi)=some x) (hK:∀ v,vl σ x=some v->K v) :
  Sl P t (r.ev a) (lo.map r.ev) (hi.map r.ev) none w K:=by
 unfold slaX at h;split at h
 ·rename_i p ha;have e1:=Za3 hE ha;split at h
  ·rename_i cb hb;obtain⟨be,cs⟩:=cb;obtain⟨rb,off,k,pre,vs,sp,post,g⟩:=hM.own p.1 be cs hb;split at h
   ·rename_i inf i j har hinf hi' hj';have hk:k=0:=g.nsp har;subst hk;simp only[vl,g.sg_,Option.some.injEq] at e1;split at h
    ·rename_i h1 h2 h3;obtain rfl:=Option.some.inj h;have h1:=Nat.le_of_ble_eq_true h1;have h2:=Nat.le_of_ble_eq_true h2;have h3:=Nat.ne_of_beq_eq_false h3;have hb:=Zdu (P:=P) (w:=w) (b:=false) (Zap hE hi') (Zap hE hj') h1 h2;refine⟨.slice (some ⟨rb,off+p.2+i*inf.size,none⟩) (j - i) (n - i),?_,hK _ ?_⟩
     ·rw[<-e1];simp[Instr.sliceAt,Instr.sureAddr,run_underlying hu,hb,Zaw hinf,h3,Zam]
     ·simp only[vl,g.sg_,Nat.add_zero,hG_]
    ·rename_i h1 h2 h3;obtain rfl:=Option.some.inj h;have h1:=Nat.le_of_ble_eq_true h1;have h2:=Nat.le_of_ble_eq_true h2;have h3:=Nat.eq_of_beq_eq_true h3;subst h3
     have h4:j=n:=by omega
     subst h4;have hb:=Zdu (P:=P) (w:=w) (b:=false) (Zap hE hi') (Zap hE hj') h1 h2;refine⟨.slice (some ⟨rb,off+p.2,none⟩) 0 0,?_,hK _ ?_⟩
     ·rw[<-e1];simp[Instr.sliceAt,Instr.sureAddr,run_underlying hu,hb,Zaw hinf]
     ·simp only[vl,g.sg_,Nat.add_zero]
    ·cases h
   ·cases h
  ·cases h
 ·cases h
def sslX (size:Nat) (x:Option X) (lo hi:Nat->Option Nat):Option X:=match x with
 |some (.l (some p) n c)=>(match lo 0,hi n with
  |some a,some b=>(match Nat.ble a b,Nat.ble b c,Nat.beq c a&&!(Nat.beq a 0) with
   |true,true,false=>some (.l (some (p.1,p.2+a*size)) (b - a) (c - a))
   |true,true,true=>some (.e0 p.1 p.2 (p.2+a*size))
   |_,_,_=>none)
  |_,_=>none)
 |some (.l none n c)=>(match lo 0,hi n with
  |some a,some b=>(match Nat.ble a b,Nat.ble b c with
   |true,true=>some (.l none (b - a) (c - a))
   |_,_=>none)
  |_,_=>none)
 |_=>none
theorem Zzs {size:Nat}{a:Operand}{lo hi:Option Operand}{x:X}{K:Value->Prop}(hE:EnvR σ ρ r) (h:sslX size (evX ρ a) (λd=>bndX ρ d lo) (λd=>bndX ρ d hi)=some x) (hK:∀ v,vl σ x=some v->K v):Ssl size (r.ev a) (lo.map r.ev) (hi.map r.ev) K:=by
 unfold sslX at h;split at h
 ·rename_i p n c ha;have e1:=Za3 hE ha;simp only[vl] at e1;split at h
  ·rename_i i j hi' hj';split at h
   ·rename_i h1 h2 h3;obtain rfl:=Option.some.inj h;have h1:=Nat.le_of_ble_eq_true h1;have h2:=Nat.le_of_ble_eq_true h2
    cases hs:σ p.1 with
    |none=>rw[hs] at e1;cases e1
    |some q=>
     rw[hs] at e1;rw[<-Option.some.inj e1];refine⟨_,n,c+q.2.2,i,j,rfl,Zap hE hi',Zap hE hj',h1,by omega,hK _ ?_⟩
     have h4:¬ (c=i/\i≠0):=by
      rintro⟨rfl,h5⟩;have h6:Nat.beq c c=true:=Nat.beq_refl c;rw[h6] at h3
      cases h7:Nat.beq c 0 with
      |true=>exact h5 (Nat.eq_of_beq_eq_true h7)
      |false=>rw[h7] at h3;cases h3
     simp only[vl,hs]
     congr 1
     have h8:c+q.2.2 - i=c - i+q.2.2:=by omega
     rw[h8]
     congr 1
     split
     ·rename_i h9
      have h10:i=0:=by
       rcases Nat.eq_zero_or_pos i with h11|h11
       ·exact h11
       ·exact absurd ⟨by omega,by omega⟩ h4
      subst h10;rw[Nat.zero_mul,Nat.add_zero]
     ·simp only[Option.map_some,Zam,hG_]
   ·rename_i h1 h2 h3;obtain rfl:=Option.some.inj h;have h1:=Nat.le_of_ble_eq_true h1;have h2:=Nat.le_of_ble_eq_true h2;rw[Bool.and_eq_true] at h3;have h3:=Nat.eq_of_beq_eq_true h3.1
    cases hs:σ p.1 with
    |none=>rw[hs] at e1;cases e1
    |some q=>
     rw[hs] at e1;rw[<-Option.some.inj e1];refine⟨_,n,c+q.2.2,i,j,rfl,Zap hE hi',Zap hE hj',h1,by omega,hK _ ?_⟩;simp only[vl,hs]
     have h4:j - i=0:=by omega
     have h5:c+q.2.2 - i=q.2.2:=by omega
     rw[h4,h5]
     congr 2
     by_cases hk:q.2.2=0
     ·rw[if_pos hk,if_pos (by omega)]
     ·rw[if_neg hk,if_neg (by omega)];simp only[Option.map_some,Zam,hG_]
   ·cases h
  ·cases h
 ·rename_i n c ha;have e1:=Za3 hE ha;simp only[vl,Option.some.injEq] at e1;rw[<-e1];split at h
  ·rename_i i j hi' hj';split at h
   ·rename_i h1 h2;obtain rfl:=Option.some.inj h;refine⟨none,n,c,i,j,rfl,Zap hE hi',Zap hE hj',Nat.le_of_ble_eq_true h1,Nat.le_of_ble_eq_true h2,hK _ ?_⟩;simp only[vl,Option.map_none,ite_self]
   ·cases h
  ·cases h
 ·cases h
def exX (x:Option X) (i:Nat):Option X:=match x with
 |some (.t xs)=>xs[i]?
 |_=>none
theorem Ycm {i:Nat}{a:Operand}{x:X}{K:Value->Prop}(hE:EnvR σ ρ r) (h:exX (evX ρ a) i=some x) (hK:∀ v,vl σ x=some v->K v):Ex (r.ev a) i K:=by
 unfold exX at h;split at h
 ·rename_i xs ha;have e1:=Za3 hE ha;simp only[vl] at e1
  cases hv:vls σ xs with
  |none=>rw[hv] at e1;cases e1
  |some vs=>
   rw[hv] at e1;rw[<-Option.some.inj e1];obtain⟨v,g1,g2⟩:=Zeb hv h;exact⟨vs.toArray,v,rfl,by simpa using g1,hK _ g2⟩
 ·cases h
def mmR (mx:Bool) (a b:Int):Int:=match mx with
 |true=>if a < b then b else a
 |false=>if b < a then b else a
def mmL (mx:Bool) (k:IntKind):Int->List X->Option X
 |a,[]=>some (.i k a)
 |a,.i k' b::l=>(match decide (k=k') with
  |true=>mmL mx k (mmR mx a b) l
  |false=>none)
 |_,_=>none
def mmX (mx:Bool):List X->Option X
 |.i k a::l=>mmL mx k a l
 |_=>none
def xval (P:Program) (ρ:T X) (s:St) (o:Oper):Option X:=match o.op with
 |.move x|.assign x=>evX ρ x
 |.pick c a b=>(match evX ρ c with
  |some (.b true)=>evX ρ a
  |some (.b false)=>evX ρ b
  |_=>none)
 |.nilCheck x=>(match pX (evX ρ x) with
  |some a=>some (.p (some a))
  |none=>none)
 |.load t a=>ldW P ρ s t a
 |.fieldAddr q x f=>(match P.underlying q with
  |some (.struct fs)=>(match fldOf fs.toList f with
   |some fd=>(match P.info? fd.type with
    |some i=>(match i.size with
     |0=>none
     |_+1=>foX (pX (evX ρ x)) fd.offset)
    |none=>none)
   |none=>none)
  |_=>none)
 |.indexAddr t x i=>(match P.underlying t with
  |some (.array len e)=>iaX P e len (pX (evX ρ x)) (evX ρ i)
  |some (.slice e)=>isX P e (evX ρ x) (evX ρ i)
  |_=>none)
 |.index t x i=>(match P.underlying t with
  |some .string=>ixsX (evX ρ x) (evX ρ i)
  |some (.array len e)=>(match P.info? e with
   |some inf=>(match P.underlying e with
    |some (.struct _)|some (.array _ _)=>ixaX inf.size true len (evX ρ x) (evX ρ i)
    |some _=>ixaX inf.size false len (evX ρ x) (evX ρ i)
    |none=>none)
   |none=>none)
  |_=>none)
 |.field t x f=>(match P.underlying t with
  |some (.struct fs)=>(match fldOf fs.toList f with
   |some fd=>(match P.underlying fd.type with
    |some (.struct _)|some (.array _ _)=>(match P.info? fd.type with
     |some i=>fdaX fd.offset i.size (evX ρ x)
     |none=>none)
    |some _=>fdX fd.offset (evX ρ x)
    |none=>none)
   |none=>none)
  |_=>none)
 |.binOp op t x y _=>(match P.underlying t with
  |some (.int _)|some .string=>bp2 op (evX ρ x) (evX ρ y)
  |some .bool=>(match op with
   |.eql=>bbX false (evX ρ x) (evX ρ y)
   |.neq=>bbX true (evX ρ x) (evX ρ y)
   |_=>none)
  |some (.pointer e)=>(match op with
   |.eql=>bnX P e false (evX ρ x) (evX ρ y)
   |.neq=>bnX P e true (evX ρ x) (evX ρ y)
   |_=>none)
  |some _=>beX P op t x y (evX ρ x) (evX ρ y)
  |none=>none)
 |.makeFunc fn a c=>mfX ρ fn a c
 |.lookup t x i ok=>lkX P s t (evX ρ x) (evX ρ i) ok
 |.typeAssert x _ a ok=>taX P a ok (evX ρ x)
 |.unOp op _ x=>upX op (evX ρ x)
 |.convert q d x=>(match P.underlying q,P.underlying d with
  |some (.int _),some (.int k)=>ciX k (evX ρ x)
  |some (.slice e),some .string=>cvX P s q (evX ρ x)
  |some _,some _=>cpX P s q d (evX ρ x)
  |_,_=>none)
 |.makeInterface t x=>(match P.underlying t,evX ρ x with
  |some (.interface _),_=>none
  |some _,some x=>some (.fc t x)
  |_,_=>none)
 |.slice t x l h m=>(match P.underlying t,m with
  |some .string,none=>sstX (evX ρ x) (λd=>bndX ρ d l) (λd=>bndX ρ d h)
  |some (.slice e),none=>(match P.info? e with
   |some inf=>sslX inf.size (evX ρ x) (λd=>bndX ρ d l) (λd=>bndX ρ d h)
   |none=>none)
  |some (.array n e),none=>slaX P s n e (evX ρ x) (λd=>bndX ρ d l) (λd=>bndX ρ d h)
  |_,_=>none)
 |.extract x i=>exX (evX ρ x) i
 |.build t ps=>(match xparts ρ ps.toList with
  |some xs=>bdX P t xs
  |none=>none)
 |.call c=>(match c.callee with
  |.builtin .len=>(match c.argTypes.toList,xargs ρ c.args.toList with
   |t::_,some (x::_)=>(match P.underlying t,x with
    |some .string,.s l=>some (.i .i64 (l.length:Int))
    |some (.slice _),.l _ n _=>some (.i .i64 (n:Int))
    |some (.slice _),.e0 _ _ _=>some (.i .i64 0)
    |some (.map _ _),.m b=>lmX s b
    |_,_=>none)
   |_,_=>none)
  |.builtin .cap=>capX P c.argTypes.toList (xargs ρ c.args.toList)
  |.builtin .min=>(match xargs ρ c.args.toList with
   |some xs=>mmX false xs
   |none=>none)
  |.builtin .max=>(match xargs ρ c.args.toList with
   |some xs=>mmX true xs
   |none=>none)
  |_=>none)
 |_=>none
theorem Zye {mx:Bool}{k:IntKind}{x:X}:∀ {l:List X}{a:Int},mmL mx k a l=some x->∃ bs:List Int,l=bs.map (X.i k)/\x=.i k (bs.foldl (mmR mx) a)
 |[],a,h=>⟨[],rfl,(Option.some.inj h).symm⟩
 |y::l,a,h=>by
  unfold mmL at h;split at h
  ·rename_i e;cases e
  ·rename_i a' k' b l' e;cases e
   by_cases hk:k=k'
   ·subst hk;rw[decide_eq_true rfl] at h;obtain⟨bs,rfl,h2⟩:=Zye (l:=l) h;exact⟨b::bs,rfl,h2⟩
   ·rw[decide_eq_false hk] at h;cases h
  ·cases h
theorem mm_ok {mx:Bool}{xs:List X}{x:X}(h:mmX mx xs=some x):∃ k a,∃ bs:List Int,xs=.i k a::bs.map (X.i k)/\x=.i k (bs.foldl (mmR mx) a):=by
 unfold mmX at h;split at h
 ·rename_i k a l;obtain⟨bs,rfl,h2⟩:=Zye h;exact⟨k,a,bs,rfl,h2⟩
 ·cases h
theorem Zp0 {k:IntKind}:∀ (bs:List Int),vls σ (bs.map (X.i k))=some (bs.map (Value.int k))
 |[]=>rfl
 |b::bs=>Zbo rfl (Zp0 bs)
theorem Zoi (k:IntKind) (w:World):∀ (bs:List Int) (a:Int),((bs.map (Value.int k)).foldlM Builtin.min2 (Value.int k a)).run P w=.ok (.int k (bs.foldl (mmR false) a)) w/\((bs.map (Value.int k)).foldlM Builtin.max2 (Value.int k a)).run P w=.ok (.int k (bs.foldl (mmR true) a)) w
 |[],a=>⟨by simp,by simp⟩
 |b::bs,a=>by
  obtain⟨h1,_⟩:=Zoi k w bs (mmR false a b);obtain⟨_,h2⟩:=Zoi k w bs (mmR true a b);refine⟨?_,?_⟩
  ·rw[hR_,List.foldlM_cons,List.foldl_cons,Sem.run_bind,show (Builtin.min2 (Value.int k a) (Value.int k b)).run P w=.ok (.int k (mmR false a b)) w by simp[Builtin.min2,mmR]];exact h1
  ·rw[hR_,List.foldlM_cons,List.foldl_cons,Sem.run_bind,show (Builtin.max2 (Value.int k a) (Value.int k b)).run P w=.ok (.int k (mmR true a b)) w by simp[Builtin.max2,mmR]];exact h2
theorem Zcw (hM:Mem P base σ s w) (hE:EnvR σ ρ r){o:Oper}{x:X}(h:xval P ρ s o=some x) (st:Bool){K:KT}(hK:∀ v,vl σ x=some v->K v w):vcOp P st r.ev o w K:=by
 unfold xval at h;unfold vcOp
 cases ho:o.op with
 |move a=>simp only[ho] at h ⊢;exact hK _ (Za3 hE h)
 |assign a=>simp only[ho] at h ⊢;exact hK _ (Za3 hE h)
 |pick c a b=>
  simp only[ho] at h ⊢;split at h
  ·rename_i hc;have e1:=Za3 hE hc;simp only[vl,Option.some.injEq] at e1;rw[<-e1];exact hK _ (Za3 hE h)
  ·rename_i hc;have e1:=Za3 hE hc;simp only[vl,Option.some.injEq] at e1;rw[<-e1];exact hK _ (Za3 hE h)
  ·cases h
 |nilCheck a=>
  simp only[ho] at h ⊢;split at h
  ·rename_i p hp;obtain rfl:=Option.some.inj h;obtain⟨q,h1,h2⟩:=pX_ok hE hp;refine⟨⟨_,h2⟩,hK _ ?_⟩;rw[h2];exact vl_p h1
  ·cases h
 |load t a=>
  simp only[ho] at h ⊢;unfold ldW at h;split at h
  ·rename_i g;split at h
   ·rename_i xs hxs;obtain⟨_,e,fz,vs,h2,h3⟩:=hM.glb g xs hxs;have h4:vls σ xs=some vs:=Zd7 (λn q hn=>by cases hn) _ _ h2
    have hcell:∀ (j:Nat) v,vs[j]?=some v->w.cell? ((⟨g,0,none⟩:Addr).add j)=some v:=λj v hj=>by
     rw[Zam,Nat.zero_add];simp[World.cell?,h3,hj]
    unfold ldG at h
    have agg:∀ {i:TypeInfo},ldGA xs i.size=some x->LdA i.size (r.ev (.global g)) w λv=>K v w:=by
     intro i h;unfold ldGA at h
     cases hb:Nat.beq xs.length i.size with
     |false=>rw[hb] at h;cases h
     |true=>
      rw[hb] at h;obtain rfl:=Option.some.inj h;have:=Zas h4;have hb:=Nat.eq_of_beq_eq_true hb;refine⟨⟨g,0,none⟩,vs.toArray,rfl,by simp;omega,λj v hj=>hcell j v (by simpa using hj),hK _ ?_⟩;simp only[vl,h4]
    have one:ldG1 xs=some x->Ld (r.ev (.global g)) w λv=>K v w:=by
     intro h
     cases xs with
     |nil=>cases h
     |cons y l=>
      cases l with
      |cons _ _=>cases h
      |nil=>
       obtain rfl:=Option.some.inj h;obtain⟨v,us,g1,g2,rfl⟩:=Za6 h4;have:=hcell 0 v rfl;rw[Zam] at this;exact⟨⟨g,0,none⟩,v,rfl,this,hK _ g1⟩
    cases hu:P.underlying t with
    |none=>rw[hu] at h;cases h
    |some d=>
     rw[hu] at h
     cases d with
     |struct fs=>
      simp only at h ⊢
      cases hi:P.info? t with
      |none=>rw[hi] at h;cases h
      |some i=>rw[hi] at h;exact agg h
     |array n e=>
      simp only at h ⊢
      cases hi:P.info? t with
      |none=>rw[hi] at h;cases h
      |some i=>rw[hi] at h;exact agg h
     |_=>exact one h
   ·cases h
  ·unfold ldV at h
   have agg:∀ {p:Nat × Nat} {y:X} {i:TypeInfo},pX (evX ρ a)=some p->ldAX s p.1 p.2 i.size=some y->y=x->LdA i.size (r.ev a) w λv=>K v w:=by
    rintro p y i hp hl rfl;obtain⟨q,h1,h2⟩:=pX_ok hE hp;obtain⟨q',vs,g1,g2,g3,g4⟩:=Zu1 hM hl;rw[h1] at g1;cases g1;rw[h2];exact⟨_,vs.toArray,rfl,by simpa using g3,λj v hj=>g4 j v (by simpa using hj),hK _ g2⟩
   have one:∀ {p:Nat × Nat} {y:X},pX (evX ρ a)=some p->ldX s p.1 p.2=some y->y=x->Ld (r.ev a) w λv=>K v w:=by
    rintro p y hp hl rfl;obtain⟨q,h1,h2⟩:=pX_ok hE hp;obtain⟨q',v,g1,g2,g3⟩:=Zvt hM hl;rw[h1] at g1;cases g1;rw[h2];exact⟨_,v,rfl,g3,hK _ g2⟩
   cases hu:P.underlying t with
   |none=>simp[hu] at h
   |some d=>
    cases hp:pX (evX ρ a) with
    |none=>cases d <;> simp[hu,hp] at h
    |some p=>
     rw[hu,hp] at h
     cases d with
     |struct fs=>
      simp only at h ⊢
      cases hi:P.info? t with
      |none=>rw[hi] at h;cases h
      |some i=>rw[hi] at h;exact agg hp h rfl
     |array n e=>
      simp only at h ⊢
      cases hi:P.info? t with
      |none=>rw[hi] at h;cases h
      |some i=>rw[hi] at h;exact agg hp h rfl
     |_=>exact one hp h rfl
 |fieldAddr q a f=>
  simp only[ho] at h ⊢;split at h
  ·rename_i fs hu;split at h
   ·rename_i fd hf;split at h
    ·rename_i i hi;split at h
     ·cases h
     ·rename_i m hm;simp only[hu,hf,hi,hm];exact Ybw hE h λv hv=>hK v hv
    ·cases h
   ·cases h
  ·cases h
 |indexAddr t a i=>
  simp only[ho] at h ⊢;split at h
  ·rename_i len e hu;unfold iaX at h;split at h
   ·rename_i inf p k n hi hp hn;split at h
    ·rename_i m hm;obtain rfl:=Option.some.inj h;obtain⟨rfl,h2⟩:=Zg8 hm;obtain⟨q,h1,h3⟩:=pX_ok hE hp;have e2:=Za3 hE hn;simp only[vl,Option.some.injEq] at e2;simp only[hu,hi];rw[h3,<-e2];refine⟨_,k,(m:Int),rfl,rfl,by omega,by omega,hK _ ?_⟩;rw[Zam,gC,vl_p h1,hG_]
    ·cases h
   ·cases h
  ·rename_i e hu;unfold isX at h;split at h
   ·rename_i p len c ha;unfold iaX at h;split at h
    ·rename_i inf p' k n hi hp hn;cases hp;split at h
     ·rename_i m hm;obtain rfl:=Option.some.inj h;obtain⟨rfl,h2⟩:=Zg8 hm;have e1:=Za3 hE ha;have e2:=Za3 hE hn;simp only[vl,Option.some.injEq] at e2;simp only[vl] at e1
      cases hs:σ p.1 with
      |none=>rw[hs] at e1;cases e1
      |some q=>
       rw[hs] at e1;simp only[hu,hi];rw[<-Option.some.inj e1,<-e2];refine⟨_,len,_,k,(m:Int),rfl,rfl,by omega,by omega,hK _ ?_⟩;rw[Zam,gC,vl_p hs,hG_]
     ·cases h
    ·cases h
   ·cases h
  ·cases h
 |index t a i=>
  simp only[ho] at h ⊢;split at h
  ·rename_i hu;simp only[hu];exact Ya5 hE h λv hv=>hK v hv
  ·rename_i len e hu;split at h
   ·rename_i inf hi;split at h
    ·rename_i fs he;simp only[hu,hi,he];exact Zno hE h λv hv=>hK v hv
    ·rename_i fs n he;simp only[hu,hi,he];exact Zno hE h λv hv=>hK v hv
    ·rename_i d h1 h2 he;simp only[hu,hi,he];exact Zno hE h λv hv=>hK v hv
    ·cases h
   ·cases h
  ·cases h
 |field t a f=>
  simp only[ho] at h ⊢;split at h
  ·rename_i fs hu;split at h
   ·rename_i fd hf;split at h
    ·rename_i fs2 he;split at h
     ·rename_i i hi;simp only[hu,hf,he,hi];exact Zuj hE h λv hv=>hK v hv
     ·cases h
    ·rename_i n e he;split at h
     ·rename_i i hi;simp only[hu,hf,he,hi];exact Zuj hE h λv hv=>hK v hv
     ·cases h
    ·rename_i d h1 h2 he;simp only[hu,hf,he];exact Ybi hE h λv hv=>hK v hv
    ·cases h
   ·cases h
  ·cases h
 |binOp op t a b yt=>
  simp only[ho] at h ⊢
  have arith:bp2 op (evX ρ a) (evX ρ b)=some x->Bp op (r.ev a) (r.ev b) λv=>K v w:=by
   intro h;unfold bp2 at h;split at h
   ·rename_i y z ha hb;obtain⟨v,g1,g2⟩:=Zy2 h (Za3 hE ha) (Za3 hE hb);exact⟨v,g1,hK _ g2⟩
   ·cases h
  have bool:∀ neg,bbX neg (evX ρ a) (evX ρ b)=some x->Bb neg (r.ev a) (r.ev b) λv=>K v w:=by
   intro neg h;unfold bbX at h;split at h
   ·rename_i y z ha hb;obtain rfl:=Option.some.inj h;have e1:=Za3 hE ha;have e2:=Za3 hE hb;simp only[vl,Option.some.injEq] at e1 e2;exact⟨y,z,e1.symm,e2.symm,hK _ rfl⟩
   ·cases h
  split at h
  ·rename_i k hu;simp only[hu];exact arith h
  ·rename_i hu;simp only[hu];exact arith h
  ·rename_i hu;simp only[hu];split at h
   ·exact bool _ h
   ·exact bool _ h
   ·cases h
  ·rename_i e hu;simp only[hu];split at h
   ·exact Zyo hE h λv hv=>hK v hv
   ·exact Zyo hE h λv hv=>hK v hv
   ·cases h
  ·rename_i d h1 h2 h3 h4 hu;have hb:=Yc3 (w:=w) hu (λk e=>h1 k e) (λe=>h2 e) (λe=>h3 e) (λq e=>h4 q e) h (λa ha=>Za3 hE ha) (λa ha=>Za3 hE ha) (K:=λv=>K v w) λv hv=>hK v hv
   cases d with
   |int k=>exact (h1 k rfl).elim
   |string=>exact (h2 rfl).elim
   |bool=>exact (h3 rfl).elim
   |pointer e=>exact (h4 e rfl).elim
   |_=>simp only[hu];exact hb
  ·cases h
 |makeFunc fn a c=>simp only[ho] at h ⊢;exact Ybj hE h λv hv=>hK v hv
 |typeAssert a t b ok=>simp only[ho] at h ⊢;exact Yci h (λq hq=>Za3 hE hq) λv hv=>hK v hv
 |lookup t a i ok=>simp only[ho] at h ⊢;exact Ybt hM h (λq hq=>Za3 hE hq) (λq hq=>Za3 hE hq) λv hv=>hK v hv
 |unOp op t a=>simp only[ho] at h ⊢;exact Ycp hE h λv hv=>hK v hv
 |convert q d a=>
  simp only[ho] at h ⊢;split at h
  ·rename_i k1 k2 hq hd;unfold ciX at h;split at h
   ·rename_i k n ha;obtain rfl:=Option.some.inj h;have e1:=Za3 hE ha;simp only[vl,Option.some.injEq] at e1;simp only[hq,hd];exact⟨k,n,e1.symm,hK _ rfl⟩
   ·cases h
  ·rename_i e hq hd;unfold cvX at h;rw[hq] at h;simp only at h;split at h
   ·rename_i y he ha;obtain⟨u,g1,g2⟩:=Zsi hM hq he hd (Za3 hE ha) h;simp only[hq,hd]
    cases st with
    |true=>exact⟨u,g2,hK _ g1⟩
    |false=>exact⟨u,w,g2,hK _ g1⟩
   ·cases h
  ·rename_i d1 d2 n1 n2 hq hd;have g:=Ycv (w:=w) hM h (u:=r.ev a) λb hb=>Za3 hE hb
   have key:(match st with
    |true=>Cv P q d (r.ev a) w λv=>K v w
    |false=>Cw P q d (r.ev a) w K):=by
    cases st with
    |true=>exact⟨_,g.2,hK _ g.1⟩
    |false=>exact⟨_,w,g.2,hK _ g.1⟩
   cases d1 with
   |int k1=>
    cases d2 with
    |int k2=>exact (n1 k1 k2 rfl rfl).elim
    |_=>simp only[hq,hd];exact key
   |_=>simp only[hq,hd];exact key
  ·cases h
 |makeInterface t a=>
  simp only[ho] at h ⊢;split at h
  ·cases h
  ·rename_i d y hn hu ha;obtain rfl:=Option.some.inj h;have e1:=Za3 hE ha
   have:vl σ (.fc t y)=some (.iface t (r.ev a)):=by simp only[vl,e1]
   have hk:=hK _ this
   cases d <;> first|(simp only[hu];exact hk)|exact (hn _ rfl).elim
  ·cases h
 |slice t a l hh m=>
  simp only[ho] at h ⊢;split at h
  ·rename_i hu;simp only[hu];unfold sstX at h;split at h
   ·rename_i q ha;split at h
    ·rename_i i j hi hj;split at h
     ·rename_i h1 h2;obtain rfl:=Option.some.inj h;have e1:=Za3 hE ha;simp only[vl,Option.some.injEq] at e1;rw[<-e1];refine⟨str q,i,j,rfl,Zap hE hi,by rw[Zbe];exact Zap hE hj,Nat.le_of_ble_eq_true h1,by rw[Zbe];exact Nat.le_of_ble_eq_true h2,hK _ ?_⟩;rw[Yb0];rfl
     ·cases h
    ·cases h
   ·cases h
  ·rename_i e hu;split at h
   ·rename_i inf hi;simp only[hu,hi];exact Zzs hE h λv hv=>hK v hv
   ·cases h
  ·rename_i q e hu;simp only[hu];exact Zzq hM hu hE h λv hv=>hK v hv
  ·cases h
 |extract a i=>simp only[ho] at h ⊢;exact Ycm hE h λv hv=>hK v hv
 |build t ps=>
  simp only[ho] at h ⊢;split at h
  ·rename_i xs hx;obtain⟨v,g1,g2⟩:=Zwq (w:=w) (qs:=bmap r.ev ps) h (by rw[Zcy hE hx];rfl);exact⟨v,g2,hK _ g1⟩
  ·cases h
 |call c=>
  simp only[ho] at h ⊢
  have mm:∀ mx xs,xargs ρ c.args.toList=some xs->mmX mx xs=some x->∃ k a,∃ bs:List Int,amap r.ev c.args=(Value.int k a::bs.map (Value.int k)).toArray/\vl σ x=some (.int k (bs.foldl (mmR mx) a)):=by
   intro mx xs hx hm;obtain⟨k,a,bs,rfl,rfl⟩:=mm_ok hm;have:=Zaf hE hx;obtain⟨v1,vs1,e1,e2,e3⟩:=Za6 this;rw[Zp0] at e2;obtain rfl:=Option.some.inj e2;simp only[vl,Option.some.injEq] at e1;subst e1;exact⟨k,a,bs,by unfold amap;rw[e3],rfl⟩
  split at h
  ·rename_i hc;simp only[hc];split at h
   ·rename_i t ts y ys h1 h2;obtain⟨v1,vs1,e1,e2,e3⟩:=Za6 (Zaf hE h2);rw[h1,e3];simp only;split at h
    ·rename_i l hu;obtain rfl:=Option.some.inj h;simp only[vl,Option.some.injEq] at e1;rw[hu];refine⟨str l,e1.symm,hK _ ?_⟩;rw[Zbe];rfl
    ·rename_i e a n q hu;obtain rfl:=Option.some.inj h;rw[hu]
     cases a with
     |none=>
      simp only[vl,Option.some.injEq] at e1;exact⟨none,n,q,e1.symm,hK _ rfl⟩
     |some a=>
      simp only[vl] at e1
      cases hs:σ a.1 with
      |none=>rw[hs] at e1;cases e1
      |some z=>rw[hs] at e1;exact⟨_,n,_,(Option.some.inj e1).symm,hK _ rfl⟩
    ·rename_i a b o q hu;obtain rfl:=Option.some.inj h;rw[hu];obtain⟨p,m,rfl⟩:=vl_es e1;exact⟨_,0,_,rfl,hK _ rfl⟩
    ·rename_i k e b hu;obtain⟨u,g1,g2⟩:=Ycs hM (ty:=o.type) hu h e1;rw[hu];refine⟨u,?_,hK _ g1⟩;have:=g2 ts vs1
     have ea:amap r.ev c.args=(v1::vs1).toArray:=by unfold amap;rw[e3]
     have et:c.argTypes=(t::ts).toArray:=by rw[<-h1]
     rw[ea,et];exact this
    ·cases h
   ·cases h
  ·rename_i hc;simp only[hc];have:=Yb9 (P:=P) (σ:=σ) (w:=w) (ty:=o.type) (K:=λv=>K v w) h (λl hl=>Zaf hE hl) λv hv=>hK v hv;exact this
  ·rename_i hc;simp only[hc];split at h
   ·rename_i xs hx;obtain⟨k,a,bs,e1,e2⟩:=mm false xs hx h;rw[e1];exact⟨_,(Zoi k w bs a).1,hK _ e2⟩
   ·cases h
  ·rename_i hc;simp only[hc];split at h
   ·rename_i xs hx;obtain⟨k,a,bs,e1,e2⟩:=mm true xs hx h;rw[e1];exact⟨_,(Zoi k w bs a).2,hK _ e2⟩
   ·cases h
  ·cases h
 |_=>simp only[ho] at h;cases h
end
end Go.Ev
/- A verified evaluator for closed calls, fifth part: operations that turn memory. No program in sight. -/
namespace Go.Ev
open Go Go.Vc
noncomputable section
variable {P:Program}{base:Bs}{w0:World}{σ:Sg}{s:St}{w w':World}{ρ:T X}{r:Env}
structure Wo (P:Program) (base:Bs) (w0:World) (σ:Sg) (s:St) (w:World):Prop where
 mem:Mem P base σ s w
 fresh:Fresh base σ s
 fram:Fram base w0 w
theorem Wo.drew (h:Wo P base w0 σ s w):Wo P base w0 σ s w.drew:=⟨h.mem.drew,h.fresh,h.fram.drew⟩
theorem Zk6:∀ (us l:List Value) (o:Nat),o+us.length<=l.length->setL l o us=l.take o++us++l.drop (o+us.length)
 |[],l,o,h=>by simp[setL]
 |u::us,l,o,h=>by
  simp only[List.length_cons] at h;rw[setL,Zk6 us (l.set o u) (o+1) (by rw[hX_];omega)]
  have h1:(l.set o u).take (o+1)=l.take o++[u]:=by
   rw[gO,List.take_set_of_le (Nat.le_refl _),List.getElem?_set_self (by omega)];rfl
  have h2:(l.set o u).drop (o+1+us.length)=l.drop (o+(us.length+1)):=by
   rw[List.drop_set_of_lt (by omega)]
   congr 1
   omega
  rw[h1,h2];simp
theorem Zek {b:Nat}{t:TypeId}{fz:Nat × Nat}:∀ (vs:List Value){w:World}{cs:List Value}(o:Nat),w.heap[b]?=some (.cells cs.toArray t fz)->
  (w.setCells b o vs).heap[b]?=some (.cells (setL cs o vs).toArray t fz)/\∀ c,c≠b->(w.setCells b o vs).heap[c]?=w.heap[c]?
 |[],w,cs,o,h=>⟨h,λ_ _=>rfl⟩
 |v::r,w,cs,o,h=>by
  have h1:(w.setCell ⟨b,o,none⟩ v).heap[b]?=some (.cells (cs.set o v).toArray t fz):=by simp[World.setCell,Array.getElem?_modify,h]
  have h2:∀ c,c≠b->(w.setCell ⟨b,o,none⟩ v).heap[c]?=w.heap[c]?:=λc hc=>by
   simp only[World.setCell,Array.getElem?_modify];rw[if_neg (by simpa using λh=>hc h.symm)]
  obtain⟨g1,g2⟩:=Zek r (o+1) h1;exact⟨g1,λc hc=>(g2 c hc).trans (h2 c hc)⟩
theorem Zcx:∀ (vs:List Value) (w:World) (b o:Nat),Same w (w.setCells b o vs)
 |[],w,_,_=>.refl w
 |v::r,w,b,o=>(Same.setCell w _ v).trans (Zcx r _ b (o+1))
theorem Own.write {b e:Nat}{cs:List X}{rb off k:Nat}{pre vs sp post:List Value}(g:Own P base σ w b e cs rb off k pre vs sp post) (o:Nat) (us:List Value) (ho:o+us.length<=vs.length+sp.length) :
  (∃ fz:Nat × Nat,(w.setCells rb (off+o) us).heap[rb]?=some (.cells (pre++((vs++sp).take o++us++(vs++sp).drop (o+us.length))++post).toArray e fz)/\∀ q,q < (pre++vs++sp++post).length->¬ (fz.1<=q/\q < fz.2))/\
   (∀ c x,c≠rb->w.heap[c]?=some x->(w.setCells rb (off+o) us).heap[c]?=some x):=by
 obtain⟨fz,hh,hz⟩:=g.heap;obtain⟨g1,g2⟩:=Zek us (off+o) hh;refine⟨⟨fz,?_,hz⟩,λc x hc hx=>(g2 c hc).trans hx⟩;rw[g1]
 congr 3
 have hp:=g.pre_;rw[Zk6 us _ _ (by simp;omega)]
 have e1:pre++vs++sp++post=pre++((vs++sp)++post):=by simp
 rw[e1,<-hp,List.take_append,gK (by omega),Nat.add_sub_cancel_left,List.take_append_of_le_length (by simp;omega),List.drop_append,List.drop_of_length_le (by omega),hO_,
  show pre.length+o+us.length - pre.length=o+us.length by omega,List.drop_append_of_le_length (by simp;omega)]
 simp
def stX (s:St) (a:Nat × Nat) (x:X):Option St:=match s.blk a.1 with
 |some c=>(match Nat.blt a.2 c.2.length with
  |true=>some (s.put a.1 (some (c.1,c.2.set a.2 x)))
  |false=>none)
 |none=>none
def flatX:X->Bool
 |.g _|.t _=>false
 |_=>true
theorem Zod {x:X}{v:Value}(h:flatX x=true) (hv:vl σ x=some v):sg v=true:=by
 cases x with
 |g xs=>cases h
 |t xs=>cases h
 |b c=>simp only[vl,Option.some.injEq] at hv;subst hv;rfl
 |i k n=>simp only[vl,Option.some.injEq] at hv;subst hv;rfl
 |s l=>simp only[vl,Option.some.injEq] at hv;subst hv;rfl
 |ni=>simp only[vl,Option.some.injEq] at hv;subst hv;rfl
 |nf=>simp only[vl,Option.some.injEq] at hv;subst hv;rfl
 |p a=>
  cases a with
  |none=>simp only[vl,Option.some.injEq] at hv;subst hv;rfl
  |some a=>
   simp only[vl] at hv
   cases hs:σ a.1 with
   |none=>rw[hs] at hv;cases hv
   |some r=>rw[hs] at hv;obtain rfl:=Option.some.inj hv;rfl
 |l a n c=>
  cases a with
  |none=>simp only[vl,Option.some.injEq] at hv;subst hv;rfl
  |some a=>
   simp only[vl] at hv
   cases hs:σ a.1 with
   |none=>rw[hs] at hv;cases hv
   |some r=>rw[hs] at hv;obtain rfl:=Option.some.inj hv;rfl
 |fc t x=>
  simp only[vl] at hv
  cases hs:vl σ x with
  |none=>rw[hs] at hv;cases hv
  |some r=>rw[hs] at hv;obtain rfl:=Option.some.inj hv;rfl
 |f fn a c=>
  simp only[vl] at hv
  cases hs:vls σ a with
  |none=>rw[hs] at hv;cases hv
  |some r=>
   cases hc:vls σ c with
   |none=>rw[hs,hc] at hv;cases hv
   |some r'=>rw[hs,hc] at hv;obtain rfl:=Option.some.inj hv;rfl
 |m a=>
  cases a with
  |none=>simp only[vl,Option.some.injEq] at hv;subst hv;rfl
  |some a=>
   simp only[vl] at hv
   cases hs:σ a with
   |none=>rw[hs] at hv;cases hv
   |some r=>rw[hs] at hv;obtain rfl:=Option.some.inj hv;rfl
 |e0 b o q=>
  simp only[vl] at hv
  cases hs:σ b with
  |none=>rw[hs] at hv;cases hv
  |some r=>rw[hs] at hv;obtain rfl:=Option.some.inj hv;rfl
def flatXs:List X->Bool
 |[]=>true
 |x::r=>match flatX x with
  |true=>flatXs r
  |false=>false
theorem Zc0:∀ {xs:List X}{vs:List Value},flatXs xs=true->vls σ xs=some vs->vs.all sg=true
 |[],vs,_,h=>by simp only[vls,Option.some.injEq] at h;subst h;rfl
 |x::r,vs,hf,h=>by
  obtain⟨v,us,h1,h2,rfl⟩:=Za6 h;simp only[flatXs] at hf
  cases hx:flatX x with
  |false=>rw[hx] at hf;cases hf
  |true=>
   rw[hx] at hf;rw[List.all_cons,Zod hx h1,Zc0 hf h2];rfl
theorem Zjj {vs us:List Value}{o:Nat}(h1:vs.all sg=true) (h2:us.all sg=true) (n:Nat):(vs.take o++us++vs.drop n).all sg=true:=by
 rw[all_append,all_append,Bool.and_eq_true,Bool.and_eq_true];refine⟨⟨all_eq_true.2 λx hx=>all_eq_true.1 h1 x (List.mem_of_mem_take hx),h2⟩,all_eq_true.2 λx hx=>all_eq_true.1 h1 x (List.mem_of_mem_drop hx)⟩
theorem Wo.write (h:Wo P base w0 σ s w){b e:Nat}{cs xs:List X}{us:List Value}{o:Nat}(hb:s.blk b=some (e,cs)) (hx:vls σ xs=some us) (hf:us.all sg=true) (ho:o+xs.length<=cs.length){q:Nat × Nat × Nat}(hq:σ b=some q) :
  Wo P base w0 σ (s.put b (some (e,setLX cs o xs))) (w.setCells q.1 (q.2.1+o) us)/\(∀ j,j < us.length->(w.cell? ⟨q.1,q.2.1+o+j,none⟩).isSome=true/\w.frozen? ⟨q.1,q.2.1+o+j,none⟩=false):=by
 obtain⟨rb,off,k,pre,vs,sp,post,g⟩:=h.mem.own b e cs hb;have hg:=g.sg_;rw[hq] at hg;obtain rfl:=Option.some.inj hg;have l1:=Zas g.val;have l2:=Zas hx;obtain⟨⟨fz,h1,hz⟩,h2⟩:=g.write o us (by omega);refine⟨⟨h.mem.upd hb (w':=w.setCells rb (off+o) us) (post:=post) ⟨g.sg_,Zfj o g.val hx,g.pre_,g.sp_,⟨fz,?_,λq hq=>hz q ?_⟩,g.low,?_,g.mul_,g.nsp⟩ h2,h.fresh,h.fram.upd (Zcx _ _ _ _) g.low h2⟩,λj hj=>⟨?_,?_⟩⟩
 ·show (w.setCells rb (off+o) us).heap[rb]?=_;rw[h1,Zk6 us vs o (by omega),List.take_append_of_le_length (by omega),List.drop_append_of_le_length (by omega)];simp
 ·have:=Zok us vs o;simp only[gD] at hq ⊢;omega
 ·rw[Zk6 us vs o (by omega)];exact Zjj g.flat hf _
 ·show (w.cell? ⟨rb,off+o+j,none⟩).isSome=true;rw[hG_,g.cell (by omega)];simp;omega
 ·show w.frozen? ⟨rb,off+o+j,none⟩=false;rw[hG_];exact g.nofz (by have:=g.pre_;simp only[gD];omega)
def srcX (P:Program) (s:St) (k:Nat) (tx:TypeId) (y:X):Option (Nat × List X):=match P.underlying tx,y with
 |some .string,.s l=>(match Nat.beq k 1 with
  |true=>some (l.length,l.map λm=>.i .u8 ((m%256:Nat):Int))
  |false=>none)
 |some (.slice _),.l none 0 _=>some (0,[])
 |some (.slice _),.e0 _ _ _=>some (0,[])
 |some (.slice _),.l (some b) m _=>(match s.blk b.1 with
  |some c=>(match Nat.beq ((c.2.drop b.2).take (m*k)).length (m*k) with
   |true=>some (m,(c.2.drop b.2).take (m*k))
   |false=>none)
  |none=>none)
 |_,_=>none
theorem Ya7 (hM:Mem P base σ s w){k:Nat}{tx:TypeId}{y:X}{v:Value}{n:Nat}{xs:List X}(h:srcX P s k tx y=some (n,xs)) (hv:vl σ y=some v):∃ us,vls σ xs=some us/\us.all sg=true/\Src P k tx v n us w:=by
 unfold srcX at h;split at h
 ·rename_i l hu;split at h
  ·rename_i hk;obtain rfl:=Nat.eq_of_beq_eq_true hk;simp only[Option.some.injEq,Prod.mk.injEq] at h;obtain⟨rfl,rfl⟩:=h;simp only[vl,Option.some.injEq] at hv;subst hv
   have hb:byteCells (str l)=l.map λm=>Value.int .u8 ((m%256:Nat):Int):=by
    unfold byteCells str;simp
   have hs:=Src.ofString (P:=P) w hu (str l);rw[Zbe,hb] at hs;refine⟨_,?_,?_,hs⟩
   ·clear hs hb
    induction l with
    |nil=>rfl
    |cons c l ih=>exact Zbo rfl ih
   ·simp[sg]
  ·cases h
 ·rename_i e c hu;simp only[Option.some.injEq,Prod.mk.injEq] at h;obtain⟨rfl,rfl⟩:=h;simp only[vl,Option.some.injEq] at hv;subst hv;exact⟨[],rfl,rfl,Src.ofNil (P:=P) w hu _⟩
 ·rename_i e b o q hu;simp only[Option.some.injEq,Prod.mk.injEq] at h;obtain⟨rfl,rfl⟩:=h;simp only[vl] at hv
  cases hs:σ b with
  |none=>rw[hs] at hv;cases hv
  |some r=>
   rw[hs] at hv;obtain rfl:=Option.some.inj hv;exact⟨[],rfl,rfl,Src.ofSlice (P:=P) w hu _ 0 _ [] (by simp) (λj v hj=>by simp at hj) (λv hv=>by simp at hv)⟩
 ·rename_i e b m c hu;split at h
  ·rename_i cb hb;split at h
   ·rename_i hl;simp only[Option.some.injEq,Prod.mk.injEq] at h;obtain⟨rfl,rfl⟩:=h;obtain⟨be,cs⟩:=cb;obtain⟨rb,off,kk,pre,vs,sp,post,g⟩:=hM.own b.1 be cs hb;simp only[vl,g.sg_,Option.some.injEq] at hv;subst hv;have h3:=Zbd (m*k) (Zb7 b.2 g.val);have h5:=Nat.eq_of_beq_eq_true hl;rw[Zas h3] at h5;have hfl:((vs.drop b.2).take (m*k)).all sg=true:=all_eq_true.2 λx hx=>all_eq_true.1 g.flat x (List.mem_of_mem_drop (List.mem_of_mem_take hx));refine⟨_,h3,hfl,Src.ofSlice (P:=P) w hu _ m _ _ h5 (λj u hj=>?_) λu hu2=>Zib (all_eq_true.1 hfl u hu2)⟩;rw[Zam];have hj2:=hj;rw[hI_ (by have:=(gH.1 hj).1;omega),hH_] at hj2;show w.cell? ⟨rb,off+b.2+j,none⟩=_;rw[show off+b.2+j=off+(b.2+j) by omega,g.cell (gH.1 hj2).1,hj2]
   ·cases h
  ·cases h
 ·cases h
end
end Go.Ev
/- A verified evaluator for closed calls, sixth part: append. No program in sight. -/
namespace Go.Ev
open Go Go.Vc
noncomputable section
variable {P:Program}{base:Bs}{w0:World}{σ:Sg}{s:St}{w w':World}{ρ:T X}{r:Env}
def elemX (P:Program) (t:TypeId):Option (TypeId × Nat × Nat):=match P.underlying t with
 |some (.slice e)=>(match P.info? e with
  |some i=>(match i.zero with
   |some z=>(match Nat.beq z.cells.size i.size,Nat.blt 0 i.size with
    |true,true=>some (e,i.size,i.bytes)
    |_,_=>none)
   |none=>none)
  |none=>none)
 |_=>none
theorem Zev {t e:TypeId}{k b:Nat}(h:elemX P t=some (e,k,b)):∃ i z,P.underlying t=some (.slice e)/\P.info? e=some i/\i.zero=some z/\z.cells.size=k/\i.size=k/\i.bytes=b/\0 < k/\szOf P e=k:=by
 unfold elemX at h;split at h
 ·rename_i e' hu;split at h
  ·rename_i i hi;split at h
   ·rename_i z hz;split at h
    ·rename_i h1 h2;simp only[Option.some.injEq,Prod.mk.injEq] at h;obtain⟨rfl,rfl,rfl⟩:=h;exact⟨i,z,hu,hi,hz,Nat.eq_of_beq_eq_true h1,rfl,rfl,Nat.le_of_ble_eq_true h2,by unfold szOf;rw[hi]⟩
    ·cases h
   ·cases h
  ·cases h
 ·cases h
def app2 (s:St) (e k bytes:Nat) (n:Nat) (news:List X):X->Option (X × St)
 |.l none 0 0=>(match n with
  |0=>some (.l none 0 0,s)
  |n+1=>(match Nat.ble ((n+1)*bytes) 140737488355328,Nat.ble (n+1) 9223372036854775807 with
   |true,true=>some (.l (some (s.n,0)) (n+1) (n+1),s.new (e,news))
   |_,_=>none))
 |.l (some a) m c=>(match s.blk a.1 with
  |some cb=>(match Nat.beq cb.1 e,Nat.ble m c with
   |true,true=>(match Nat.ble (m+n) c with
    |true=>(match Nat.ble (a.2+m*k+news.length) cb.2.length with
     |true=>some (.l (some a) (m+n) c,s.put a.1 (some (cb.1,setLX cb.2 (a.2+m*k) news)))
     |false=>none)
    |false=>(match Nat.beq (a.2+c*k) cb.2.length,Nat.ble ((m+n)*bytes) 140737488355328,Nat.ble (m+n) 9223372036854775807,Nat.beq (a.2%k) 0 with
     |true,true,true,true=>some (.l (some (s.n,0)) (m+n) (m+n),(s.put a.1 none).new (e,(cb.2.drop a.2).take (m*k)++news))
     |_,_,_,_=>none))
   |_,_=>none)
  |none=>none)
 |_=>none
def appX (P:Program) (t tx:TypeId) (x y:X) (s:St):Option (X × St):=match elemX P t with
 |some q=>(match srcX P s q.2.1 tx y,isArrB P q.1 with
  |some z,false=>app2 s q.1 q.2.1 q.2.2 z.1 z.2 x
  |_,_=>none)
 |none=>none
theorem Zyt (z:Array Value) (n:Nat):(Builtin.zeroCells z n).toList.length=n*z.size:=by simp[Builtin.zeroCells]
theorem Yb2 (h:Wo P base w0 σ s w){t tx ty:TypeId}{x y z:X}{u v:Value}{s':St}(ha:appX P t tx x y s=some (z,s')) (hx:vl σ x=some u) (hy:vl σ y=some v){K:KT}
  (hK:∀ σ' w' v',Ext σ σ'->Wo P base w0 σ' s' w'->vl σ' z=some v'->K v' w'):Ap P #[t,tx] ty #[u,v] w K:=by
 unfold appX at ha;split at ha
 ·rename_i q hq;obtain⟨e,k,bytes⟩:=q;obtain⟨i,zv,hu,hi,hz,hzk,hik,hib,hk0,hsz⟩:=Zev hq;split at ha
  ·rename_i nz hs hna
   have hns:∀ k:Nat,isArrB P e=true->k=0:=λk he=>by rw[show isArrB P e=false from hna] at he;cases he
   obtain⟨n,news⟩:=nz;simp only at ha hs;obtain⟨us,hus,husg,hsrc⟩:=Ya7 h.mem hs hy;have hnl:=hsrc.newsLen;have hnx:=Zas hus;subst hik;subst hib;unfold app2 at ha;split at ha
   ·simp only[vl,Option.some.injEq] at hx;subst hx;split at ha
    ·simp only[Option.some.injEq,Prod.mk.injEq] at ha;obtain⟨rfl,rfl⟩:=ha;refine⟨.slice none 0 0,w,?_,hK σ w _ (Ext.refl _) h rfl⟩
     rcases hsrc.kind with⟨e',hk⟩|hk <;> simp[Builtin.append_,run_underlying hu,run_underlying hk,sizeOf,typeInfo,hi,hsrc.len,hsrc.cells]
    ·rename_i n;split at ha
     ·rename_i h1 h2;simp only[Option.some.injEq,Prod.mk.injEq] at ha;obtain⟨rfl,rfl⟩:=ha;have h1:=Nat.le_of_ble_eq_true h1;have h2:=Nat.le_of_ble_eq_true h2;have hrun:=run_append_grow_src (P:=P) w t tx ty e i zv hu hi hz none 0 0 [] (run_firstCells_none w.drew i.size 0 0 0) v (n+1) us hsrc (by omega) (by omega) (growslice_fits (by omega) (by rw[Nat.zero_add];exact h1));refine⟨_,_,hrun,?_⟩;rw[Nat.zero_add,hO_];have hcap:=grownCap_ge w (n+1) 0 e;generalize grownCap w (n+1) 0 e=cap at hcap ⊢;obtain⟨g1,g2,g3⟩:=h.drew.mem.alloc h.fresh h.drew.fram (e:=e) (cs:=news) (k:=cap - (n+1)) (sp:=(Builtin.zeroCells zv.cells (cap - (n+1))).toList) hus (by rw[Zyt,hsz,hzk]) husg (hns _)
      have hc:us.toArray++Builtin.zeroCells zv.cells (cap - (n+1))=(us++(Builtin.zeroCells zv.cells (cap - (n+1))).toList).toArray:=by simp
      rw[hc];refine hK _ _ _ g2 ⟨g1,g3,h.drew.fram.alloc _⟩ ?_;simp only[vl];rw[Zaj];simp only[Option.some.injEq,Value.slice.injEq,true_and];exact⟨rfl,by omega⟩
     ·cases ha
   ·rename_i a m c;split at ha
    ·rename_i cb hb;obtain⟨be,cs⟩:=cb;simp only at ha;split at ha
     ·rename_i hbe hmc;obtain rfl:=Nat.eq_of_beq_eq_true hbe;have hmc:=Nat.le_of_ble_eq_true hmc;obtain⟨rb,off,kk,pre,vs,sp,post,g⟩:=h.mem.own a.1 be cs hb;simp only[vl,g.sg_,Option.some.injEq] at hx;subst hx;have hvl:=Zas g.val;split at ha
      ·rename_i hroom;have hroom:=Nat.le_of_ble_eq_true hroom;split at ha
       ·rename_i hin;have hin:=Nat.le_of_ble_eq_true hin;simp only[Option.some.injEq,Prod.mk.injEq] at ha;obtain⟨rfl,rfl⟩:=ha;obtain⟨hw,hc⟩:=h.write hb hus husg hin g.sg_
        have hrun:=run_append_room_src (P:=P) w t tx ty be i hu hi rb (off+a.2) m (c+kk) v n us hsrc (by omega)
         (λj hj=>by rw[hG_ off];exact (hc j hj).1) (λj hj=>by rw[hG_ off];exact (hc j hj).2)
        refine⟨_,_,hrun,?_⟩;rw[show off+a.2+m*i.size=off+(a.2+m*i.size) by omega];refine hK _ _ _ (Ext.refl _) hw ?_;simp only[vl,g.sg_]
       ·cases ha
      ·rename_i hroom
       have hroom:¬ m+n<=c:=λe=>by rw[Nat.ble_eq_true_of_le e] at hroom;cases hroom
       split at ha
       ·rename_i h1 h2 h3 h4;have h1:=Nat.eq_of_beq_eq_true h1;have h2:=Nat.le_of_ble_eq_true h2;have h3:=Nat.le_of_ble_eq_true h3;have h4:=Nat.eq_of_beq_eq_true h4;simp only[Option.some.injEq,Prod.mk.injEq] at ha;obtain⟨rfl,rfl⟩:=ha;have hmk:m*i.size<=c*i.size:=Nat.mul_le_mul_right _ hmc;have hold:=Zbd (m*i.size) (Zb7 a.2 g.val)
        have hol:((vs.drop a.2).take (m*i.size)).length=m*i.size:=by rw[gN,gS];omega
        have hosg:((vs.drop a.2).take (m*i.size)).all sg=true:=all_eq_true.2 λx hx=>all_eq_true.1 g.flat x (List.mem_of_mem_drop (List.mem_of_mem_take hx));have hfresh:Fresh base σ (s.put a.1 none):=h.fresh;have hv2:=Zfg hold hus
        have hsg2:((vs.drop a.2).take (m*i.size)++us).all sg=true:=by rw[all_append,hosg,husg];rfl
        have hfirst:∀ w1:World,w1.heap=w.heap->(Builtin.firstCells i.size m (.slice (some ⟨rb,off+a.2,none⟩) m (c+kk))).run P w1=.ok ((vs.drop a.2).take (m*i.size)).toArray w1:=by
         intro w1 hw1;refine run_firstCells_some (P:=P) w1 i.size m _ m (c+kk) _ hol λj u hj=>?_;rw[Zam];have hj2:=hj;rw[hI_ (by have:=(gH.1 hj).1;omega),hH_] at hj2
         have e1:w1.cell? ⟨rb,off+a.2+j,none⟩=w.cell? ⟨rb,off+a.2+j,none⟩:=by unfold World.cell?;rw[hw1]
         rw[e1,show off+a.2+j=off+(a.2+j) by omega,g.cell (gH.1 hj2).1,hj2]
        rcases hU_ (c+kk) (m+n) with hg|hg
        ·have hrun:=run_append_grow_src (P:=P) w t tx ty be i zv hu hi hz (some ⟨rb,off+a.2,none⟩) m (c+kk) _ (hfirst w.drew rfl) v n us hsrc hg (by omega) (growslice_fits (by omega) h2);refine⟨_,_,hrun,?_⟩;have hcap:=grownCap_ge w (m+n) (c+kk) be;generalize grownCap w (m+n) (c+kk) be=cap at hcap ⊢;obtain⟨g1,g2,g3⟩:=(h.drew.mem.del a.1).alloc hfresh h.drew.fram (e:=be) (k:=cap - (m+n)) (sp:=(Builtin.zeroCells zv.cells (cap - (m+n))).toList) hv2 (by rw[Zyt,hsz,hzk]) hsg2 (hns _)
         have hc:((vs.drop a.2).take (m*i.size)++us).toArray++Builtin.zeroCells zv.cells (cap - (m+n))=((vs.drop a.2).take (m*i.size)++us++(Builtin.zeroCells zv.cells (cap - (m+n))).toList).toArray:=by simp
         rw[hc];refine hK _ _ _ g2 ⟨g1,g3,h.drew.fram.alloc _⟩ ?_;simp only[vl];rw[show (s.put a.1 none).n=s.n from rfl,Zaj];simp only[Option.some.injEq,Value.slice.injEq,true_and];exact⟨rfl,by omega⟩
        ·have hspl:=g.sp_;rw[hsz] at hspl;have hpre:=g.pre_;have hnk:(m+n)*i.size<=(c+kk)*i.size:=Nat.mul_le_mul_right _ hg;have hd1:(m+n)*i.size=m*i.size+n*i.size:=Nat.add_mul _ _ _;have hd2:(c+kk)*i.size=c*i.size+kk*i.size:=Nat.add_mul _ _ _;have hd3:(c+kk - (m+n))*i.size=(c+kk)*i.size - (m+n)*i.size:=Nat.sub_mul _ _ _;obtain⟨⟨fz,w1,wz⟩,w2⟩:=g.write (a.2+m*i.size) us (by omega)
         have hcells:∀ j,j < us.length->(w.cell? ⟨rb,off+a.2+m*i.size+j,none⟩).isSome=true:=by
          intro j hj;have:w.cell? ⟨rb,off+a.2+m*i.size+j,none⟩=(pre++vs++sp++post)[off+a.2+m*i.size+j]?:=g.any _;rw[this,gA (by simp;omega)];rfl
         have hfroz:∀ j,j < us.length->w.frozen? ⟨rb,off+a.2+m*i.size+j,none⟩=false:=λj hj=>g.nofz (by simp only[gD];omega);have hrun:=run_append_room_src (P:=P) w t tx ty be i hu hi rb (off+a.2) m (c+kk) v n us hsrc hg hcells hfroz;refine⟨_,_,hrun,?_⟩;rw[show off+a.2+m*i.size=off+(a.2+m*i.size) by omega]
         have hlist:pre++((vs++sp).take (a.2+m*i.size)++us++(vs++sp).drop (a.2+m*i.size+us.length))++post =
           (pre++vs.take a.2)++((vs.drop a.2).take (m*i.size)++us)++(vs++sp).drop (a.2+m*i.size+us.length)++post:=by
          have e1:(vs++sp).take (a.2+m*i.size)=vs.take a.2++(vs.drop a.2).take (m*i.size):=by
           rw[List.take_append_of_le_length (by omega),List.take_add]
          rw[e1];simp
         rw[hlist] at w1
         have hpl:(pre++vs.take a.2).length=off+a.2:=by rw[gD,gN];omega
         obtain⟨g1,g2,g3⟩:=(h.mem.del a.1).fresh (w':=w.setCells rb (off+(a.2+m*i.size)) us) hfresh (e:=be) (k:=c+kk - (m+n)) hv2 (by rw[hsz,gS,gD];omega) g.low hsg2 ⟨fz,w1,λq hq=>wz q (by have:=congrArg List.length hlist;simp only[gD,gN,gS] at this hq ⊢;omega)⟩
          (λb x r hb2 hr he=>by
           have hne:b≠a.1/\s.blk b=some x:=by
            rcases Zd0 hb2 with⟨_,h5⟩|h5
            ·cases h5
            ·exact h5
           exact h.mem.apart b a.1 x _ r _ hne.2 hb hne.1 hr g.sg_ he)
          (λb x r hb2 hr he=>by
           obtain⟨fz',hh',_⟩:=g.heap
           exact h.mem.sep (q:=b) (o:=x) hb2 ⟨_,_,_,hh'⟩ hr he) (by
           obtain⟨q,hq⟩:=g.mul_;refine⟨q+a.2/i.size,?_⟩;have e1:=Nat.div_add_mod a.2 i.size;rw[h4,Nat.add_zero,Nat.mul_comm] at e1
           rw[hpl,hq,hsz,Nat.add_mul,e1]) (hns _) w2
         rw[hpl] at g1 g2 g3;refine hK _ _ _ g2 ⟨g1,g3,h.fram.upd (Zcx _ _ _ _) g.low w2⟩ ?_;simp only[vl];rw[show (s.put a.1 none).n=s.n from rfl,Zaj];simp only[Option.some.injEq,Value.slice.injEq,true_and];exact⟨rfl,by omega⟩
       ·cases ha
     ·cases ha
    ·cases ha
   ·cases ha
  ·cases ha
 ·cases ha
end
end Go.Ev
/- A verified evaluator for closed calls: maps that turn, iterators of strings. No program in sight. -/
namespace Go.Ev
open Go Go.Vc
noncomputable section
variable {P:Program}{base:Bs}{w0:World}{σ:Sg}{s:St}{w w':World}
def undX:X:=.t []
def Fin (P:Program) (base:Bs) (w0:World) (σ:Sg) (x:X) (s':St) (K:KT):Prop:=∀ σ' w' v,Ext σ σ'->Wo P base w0 σ' s' w'->vl σ' x=some v->K v w'
theorem Wo.mnew (h:Wo P base w0 σ s w){o:M}{ob:Obj}(hn:∀ w',w'.heap[w.heap.size]?=some ob->MOk σ w' w.heap.size o):∃ σ',Ext σ σ'/\Wo P base w0 σ' (s.mnew o) (w.alloc ob)/\σ' s.n=some (w.heap.size,0,0):=by
 obtain⟨g1,g2,g3⟩:=h.mem.mnew h.fresh h.fram hn;exact⟨_,g2,⟨g1,g3,h.fram.alloc _⟩,Zaj _ _ _⟩
theorem Wo.mset (h:Wo P base w0 σ s w){b rb:Nat}{o o':M}{ob:Obj}(hb:s.mo b=some o) (hr:σ b=some (rb,0,0)) (hn:∀ w',w'.heap[rb]?=some ob->MOk σ w' rb o') :
  Wo P base w0 σ (s.mput b (some o')) { w with heap:=w.heap.setIfInBounds rb ob }:=by
 obtain⟨rb',h1,h2,h3⟩:=h.mem.mown b o hb;rw[hr] at h1;cases h1;obtain⟨ox,hox⟩:=Option.isSome_iff_exists.1 h3.noC.2;obtain⟨g1,g2⟩:=MapKept.heap_set (o':=ob) hox;have ho:∀ c x,c≠rb->w.heap[c]?=some x->(w.heap.setIfInBounds rb ob)[c]?=some x:=λc x hc hx=>(g2 c hc).trans hx;exact⟨h.mem.mupd hb hr (hn _ g1) ho,h.fresh,h.fram.upd ⟨rfl,rfl,rfl,by simp⟩ h2 ho⟩
def mmX0 (P:Program) (t:TypeId) (r:Option (Option X)) (s:St):Option (X × St):=match r with
 |none=>some (.m (some s.n),s.mnew (.mp []))
 |some (some (.i _ _))=>(match P.underlying t with
  |some (.map _ _)=>some (.m (some s.n),s.mnew (.mp []))
  |_=>none)
 |_=>none
def RqX (σ:Sg):Option (Option X)->Option Value->Prop
 |none,none=>True
 |some (some a),some v=>vl σ a=some v
 |some none,some _=>True
 |_,_=>False
theorem Ybe (h:Wo P base w0 σ s w){t:TypeId}{r:Option (Option X)}{q:Option Value}{x:X}{s':St}(hx:mmX0 P t r s=some (x,s')) (hq:RqX σ r q){K:KT}(hK:Fin P base w0 σ x s' K):Mm P t q w K:=by
 obtain⟨σ',k1,k2,k3⟩:=h.mnew (o:=.mp []) (ob:=.map #[] 0) λw' hw=>⟨[],0,hw,trivial⟩;unfold mmX0 at hx;split at hx
 ·simp only[Option.some.injEq,Prod.mk.injEq] at hx;obtain⟨rfl,rfl⟩:=hx
  cases q with
  |some v=>exact hq.elim
  |none=>
   refine⟨.map (some w.heap.size),w.alloc (.map #[] 0),rfl,hK σ' _ _ k1 k2 ?_⟩;simp only[vl,k3]
 ·rename_i k n
  cases hu:P.underlying t with
  |none=>rw[hu] at hx;cases hx
  |some d=>
   rw[hu] at hx
   cases d with
   |map kt et=>
    simp only[Option.some.injEq,Prod.mk.injEq] at hx;obtain⟨rfl,rfl⟩:=hx
    cases q with
    |none=>exact hq.elim
    |some v=>
     replace hq:some (Value.int k n)=some v:=hq;obtain rfl:=Option.some.inj hq;refine⟨.map (some w.heap.size),w.alloc (.map #[] 0),?_,hK σ' _ _ k1 k2 ?_⟩
     ·simp[Instr.makeMap,run_underlying hu,asInt,asIntOf]
     ·simp only[vl,k3]
   |_=>cases hx
 ·cases hx
def muX (P:Program) (t:TypeId) (m k x:Option X) (s:St):Option (X × St):=match P.underlying t,m,k,x with
 |some (.map kt _),some (.m (some b)),some k,some x=>(match P.underlying kt,s.mo b with
  |some d,some (.mp es)=>(match keyOk d k,findX k es 0 with
   |true,some none=>some (undX,s.mput b (some (.mp (es++[(k,x)]))))
   |true,some (some q)=>some (undX,s.mput b (some (.mp (es.set q.1 (k,x)))))
   |_,_=>none)
  |_,_=>none)
 |_,_,_,_=>none
theorem EsR.app:∀ {es es':List (X × X)}{l l':List MapEntry},EsR σ es l->EsR σ es' l'->EsR σ (es++es') (l++l')
 |[],_,[],_,_,h=>h
 |(k,v)::es,_,e::l,_,⟨h1,h2,h3⟩,h=>⟨h1,h2,h3.app h⟩
 |[],_,_::_,_,h,_=>h.elim
 |_::_,_,[],_,h,_=>h.elim
theorem EsR.set {k x:X}{kv xv:Value}(hk:vl σ k=some kv) (hx:vl σ x=some xv):∀ {es:List (X × X)}{l:List MapEntry}(j:Nat),EsR σ es l->EsR σ (es.set j (k,x)) (l.modify j λe=>{ e with key:=kv,val:=xv })
 |[],[],0,_=>trivial
 |[],[],_+1,_=>trivial
 |(a,b)::es,e::l,0,⟨h1,h2,h3⟩=>⟨hk,hx,h3⟩
 |(a,b)::es,e::l,j+1,⟨h1,h2,h3⟩=>⟨h1,h2,h3.set hk hx j⟩
 |[],_::_,_,h=>h.elim
 |_::_,[],_,h=>h.elim
theorem EsR.get:∀ {es:List (X × X)}{l:List MapEntry}{j:Nat}{e:X × X},EsR σ es l->es[j]?=some e->∃ e',l[j]?=some e'/\vl σ e.1=some e'.key
 |[],[],_,_,_,h=>by simp at h
 |(a,b)::es,e'::l,0,e,⟨h1,h2,h3⟩,h=>by
  simp at h;subst h;exact⟨e',rfl,h1⟩
 |(a,b)::es,e'::l,j+1,e,⟨h1,h2,h3⟩,h=>by
  obtain⟨q,g1,g2⟩:=h3.get (j:=j) (by simpa using h);exact⟨q,by simpa using g1,g2⟩
 |[],_::_,_,_,h,_=>h.elim
 |_::_,[],_,_,h,_=>h.elim
theorem Zqf {x y:X}{u v:Value}(h:keyEq x y=some true) (hx:vl σ x=some u) (hy:vl σ y=some v) (n:Nat):Instr.sameBits n v u=true:=by
 unfold keyEq at h;split at h
 ·split at h
  ·rename_i hk;have hk:=of_decide_eq_true hk;subst hk;simp only[vl,Option.some.injEq] at hx hy h;subst hx;subst hy;have:=beq_iff_eq.1 h;subst this
   cases n <;> simp[Instr.sameBits]
  ·cases h
 ·simp only[vl,Option.some.injEq] at hx hy h;subst hx;subst hy;rw[Ze2,decide_eq_true_iff] at h;rw[h]
  cases n <;> simp only[Instr.sameBits] <;> exact (MapKept.bytes_beq _ _).2 rfl
 ·cases h
theorem Zze (h:Wo P base w0 σ s w){t:TypeId}{m k x:Option X}{mv kv xv:Value}{z:X}{s':St}(hx:muX P t m k x s=some (z,s')) (hm:∀ a,m=some a->vl σ a=some mv) (hk:∀ a,k=some a->vl σ a=some kv) (hv:∀ a,x=some a->vl σ a=some xv)
  {K:KT} (hK:Fin P base w0 σ z s' K):Mu P t mv kv xv w λw'=>K undef w':=by
 unfold muX at hx;split at hx
 ·rename_i kt et b k x ht;have hm:=hm _ rfl;have hk:=hk _ rfl;have hv:=hv _ rfl;split at hx
  ·rename_i d es hd hb;obtain⟨rb,g1,g2,l,clock,g3,g4⟩:=h.mem.mown b _ hb;simp only[vl,g1,Option.some.injEq] at hm;subst hm;split at hx
   ·rename_i hko hf;simp only[Option.some.injEq,Prod.mk.injEq] at hx;obtain⟨rfl,rfl⟩:=hx;obtain⟨q,e1,e2⟩:=Zd9 hko hk g4 hf
    cases q with
    |some q=>exact e2.elim
    |none=>
     have hfk:=mfindKey (P:=P) (w:=w) hd e1;refine⟨(),{ w with heap:=w.heap.setIfInBounds rb (.map (l++[MapEntry.mk kv xv clock]).toArray (clock+1)) },?_,hK σ _ undef (Ext.refl _) (h.mset hb g1 λw' hw=>⟨_,_,hw,g4.app (es':=[(k,x)]) (l':=[MapEntry.mk kv xv clock]) ⟨hk,hv,trivial⟩⟩) rfl⟩;unfold Instr.mapUpdate;rw[Sem.run_bind,run_underlying ht];simp only[Result.andThen_ok];rw[Sem.run_bind,mgetObj g3];simp only[Result.andThen_ok];rw[Sem.run_bind,Zdb hd hko hk];simp only[Result.andThen_ok];rw[Sem.run_bind,hfk];simp only[Result.andThen_ok];rw[msetObj _ g3];simp
   ·rename_i q hko hf;obtain⟨j,y⟩:=q;simp only[Option.some.injEq,Prod.mk.injEq] at hx;obtain⟨rfl,rfl⟩:=hx;obtain⟨q,e1,e2⟩:=Zd9 hko hk g4 hf
    cases q with
    |none=>exact e2.elim
    |some q=>
     obtain⟨j',v'⟩:=q;obtain⟨rfl,_,_,e,e3,e4⟩:=e2;rw[Nat.sub_zero] at e3;obtain⟨e',e5,e6⟩:=g4.get e3;have hfk:=mfindKey (P:=P) (w:=w) hd e1;refine⟨(),{ w with heap:=w.heap.setIfInBounds rb (.map (l.modify j λe=>{ e with key:=kv,val:=xv }).toArray clock) },?_,hK σ _ undef (Ext.refl _) (h.mset hb g1 λw' hw=>⟨_,_,hw,g4.set hk hv j⟩) rfl⟩;unfold Instr.mapUpdate;rw[Sem.run_bind,run_underlying ht];simp only[Result.andThen_ok];rw[Sem.run_bind,mgetObj g3];simp only[Result.andThen_ok];rw[Sem.run_bind,Zdb hd hko hk];simp only[Result.andThen_ok];rw[Sem.run_bind,hfk];simp only[Result.andThen_ok]
     have hg:(((l.toArray)[j]?).map (·.key)).getD kv=e'.key:=by
      have:l.toArray[j]?=some e':=by simpa using e5
      rw[this];rfl
     rw[Sem.run_bind,hg]
     have hks:(Instr.keyThatStays e'.key kv).run P w=.ok kv w:=by
      unfold Instr.keyThatStays;rw[if_pos (Zqf e4 hk e6 10000)];rfl
     rw[hks];simp only[Result.andThen_ok];rw[msetObj _ g3];simp
   ·cases hx
  ·cases hx
 ·cases hx
def dlX (P:Program) (ats:List TypeId) (xs:Option (List X)) (s:St):Option (X × St):=match ats,xs with
 |t::_,some (.m (some b)::k::_)=>(match P.underlying t with
  |some (.map kt _)=>(match P.underlying kt,s.mo b with
   |some d,some (.mp es)=>(match keyOk d k,findX k es 0 with
    |true,some none=>some (undX,s.mput b (some (.mp es)))
    |true,some (some q)=>some (undX,s.mput b (some (.mp (es.eraseIdx q.1))))
    |_,_=>none)
   |_,_=>none)
  |_=>none)
 |_,_=>none
theorem EsR.erase:∀ {es:List (X × X)}{l:List MapEntry}(j:Nat),EsR σ es l->EsR σ (es.eraseIdx j) (l.eraseIdx j)
 |[],[],_,_=>trivial
 |(a,b)::es,e::l,0,⟨h1,h2,h3⟩=>h3
 |(a,b)::es,e::l,j+1,⟨h1,h2,h3⟩=>⟨h1,h2,h3.erase j⟩
 |[],_::_,_,h=>h.elim
 |_::_,[],_,h=>h.elim
theorem Yc7 (h:Wo P base w0 σ s w){ats:Array TypeId}{ty:TypeId}{xs:Option (List X)}{vs:List Value}{z:X}{s':St}(hx:dlX P ats.toList xs s=some (z,s')) (hv:∀ l,xs=some l->vls σ l=some vs)
  {K:KT} (hK:Fin P base w0 σ z s' K):Bdel P ats ty vs.toArray w K:=by
 unfold dlX at hx;split at hx
 ·rename_i t ts b k ks hats;have hv:=hv _ rfl;obtain⟨v1,vs1,e1,e2,rfl⟩:=Za6 hv;obtain⟨v2,vs2,e3,e4,rfl⟩:=Za6 e2
  have hat:ats=(t::ts).toArray:=by rw[<-hats]
  subst hat;split at hx
  ·rename_i kt et ht;split at hx
   ·rename_i d es hd hb;obtain⟨rb,g1,g2,l,clock,g3,g4⟩:=h.mem.mown b _ hb;simp only[vl,g1,Option.some.injEq] at e1;subst e1
    have pre:keyOk d k=true->∀ q ob,Instr.findNow d v2 l 0=some q->ob=(match q with
      |some (i,_)=>Obj.map (l.toArray.eraseIdxIfInBounds i) clock
      |none=>Obj.map l.toArray clock)->(Builtin.delete_ (t::ts).toArray ty (.map (some rb)::v2::vs2).toArray).run P w=.ok (.tuple #[]) { w with heap:=w.heap.setIfInBounds rb ob }:=by
     intro hko q ob hq hob;have hfk:=mfindKey (P:=P) (w:=w) hd hq;unfold Builtin.delete_;simp only[List.getElem?_toArray,List.getElem?_cons_zero,gF];rw[Sem.run_bind,run_underlying ht];simp only[Result.andThen_ok];rw[Sem.run_bind,mgetObj g3];simp only[Result.andThen_ok];rw[Sem.run_bind,Zdb hd hko e3];simp only[Result.andThen_ok];rw[Sem.run_bind,hfk];simp only[Result.andThen_ok];subst hob
     cases q with
     |none=>
      simp only;rw[Sem.run_bind,msetObj _ g3];rfl
     |some q=>
      obtain⟨i,v⟩:=q;simp only;rw[Sem.run_bind,msetObj _ g3];rfl
    split at hx
    ·rename_i hko hf;simp only[Option.some.injEq,Prod.mk.injEq] at hx;obtain⟨rfl,rfl⟩:=hx;obtain⟨q,f1,f2⟩:=Zd9 hko e3 g4 hf
     cases q with
     |some q=>exact f2.elim
     |none=>exact⟨_,_,pre hko none _ f1 rfl,hK σ _ undef (Ext.refl _) (h.mset hb g1 λw' hw=>⟨_,_,hw,g4⟩) rfl⟩
    ·rename_i q hko hf;obtain⟨j,y⟩:=q;simp only[Option.some.injEq,Prod.mk.injEq] at hx;obtain⟨rfl,rfl⟩:=hx;obtain⟨q,f1,f2⟩:=Zd9 hko e3 g4 hf
     cases q with
     |none=>exact f2.elim
     |some q=>
      obtain⟨j',v'⟩:=q;obtain⟨rfl,_⟩:=f2;refine⟨_,_,pre hko (some (j,v')) _ f1 rfl,hK σ _ undef (Ext.refl _) (h.mset hb g1 λw' hw=>⟨l.eraseIdx j,clock,?_,g4.erase j⟩) rfl⟩;rw[hw];show some (Obj.map (l.toArray.eraseIdxIfInBounds j) clock)=_
      congr 2
      unfold Array.eraseIdxIfInBounds;split
      ·simp
      ·rename_i hn;rw[List.eraseIdx_of_length_le (by simpa using hn)]
    ·cases hx
   ·cases hx
  ·cases hx
 ·cases hx
def rgX (P:Program) (t:TypeId) (x:Option X) (s:St):Option (X × St):=match P.underlying t,x with
 |some .string,some (.s l)=>some (.p (some (s.n,0)),s.mnew (.it l 0))
 |_,_=>none
theorem Yco (h:Wo P base w0 σ s w){t:TypeId}{x:Option X}{v:Value}{z:X}{s':St}(hx:rgX P t x s=some (z,s')) (hv:∀ a,x=some a->vl σ a=some v){K:KT}(hK:Fin P base w0 σ z s' K):Rg P t v w K:=by
 unfold rgX at hx;split at hx
 ·rename_i l ht;have hv:=hv _ rfl;simp only[vl,Option.some.injEq] at hv;subst hv;simp only[Option.some.injEq,Prod.mk.injEq] at hx;obtain⟨rfl,rfl⟩:=hx;obtain⟨σ',k1,k2,k3⟩:=h.mnew (o:=.it l 0) (ob:=.stringIter (str l) 0) λw' hw=>hw;refine⟨_,_,run_range_string w t _ ht,hK σ' _ _ k1 k2 ?_⟩;simp only[vl,k3]
 ·cases hx
def dcX (l:List Nat) (p:Nat):Nat × Nat:=match l[p]? with
 |some c=>(match Nat.blt (c%256) 128 with
  |true=>(c%256,1)
  |false=>Utf8.decode (str l) p)
 |none=>Utf8.decode (str l) p
theorem Yca (l:List Nat) (p:Nat):dcX l p=Utf8.decode (str l) p:=by
 unfold dcX;split
 ·rename_i c hc;split
  ·rename_i hb;have hb:=Nat.le_of_ble_eq_true hb;have hp:p < l.length:=(gH.1 hc).1
   have h0:((str l).get! (p+0)).toNat=c%256:=by
    have h1:(str l).data.toList=l.map UInt8.ofNat:=by simp[str]
    have h2:(str l).get! (p+0)=(str l).data[p]!:=rfl
    have h3:(str l).data[p]! =UInt8.ofNat c:=by
     have h4:(str l).data[p]?=some (UInt8.ofNat c):=by
      rw[<-Array.getElem?_toList,h1,hV_,hc];rfl
     rw[getElem!_def,h4]
    rw[h2,h3];simp
   unfold Utf8.decode;simp only[h0];rw[if_pos (by omega)]
  ·rfl
 ·rfl
def nxX (isS:Bool) (x:Option X) (s:St):Option (X × St):=match isS,x with
 |true,some (.p (some (b,0)))=>(match s.mo b with
  |some (.it l p)=>(match Nat.blt p l.length with
   |true=>(match dcX l p with
    |(c,k)=>some (.t [.b true,.i .i64 (p:Int),.i .i32 (c:Int)],s.mput b (some (.it l (p+k)))))
   |false=>some (.t [.b false],s))
  |_=>none)
 |_,_=>none
theorem Yct (h:Wo P base w0 σ s w){t:TypeId}{isS:Bool}{x:Option X}{v:Value}{z:X}{s':St}(hx:nxX isS x s=some (z,s')) (hv:∀ a,x=some a->vl σ a=some v){K:KT}(hK:Fin P base w0 σ z s' K):Nx P v isS t w K:=by
 unfold nxX at hx;split at hx
 ·rename_i b;have hv:=hv _ rfl;split at hx
  ·rename_i l p hb;obtain⟨rb,g1,g2,g3⟩:=h.mem.mown b _ hb;replace g3:w.heap[rb]?=some (.stringIter (str l) p):=g3;simp only[vl,g1,Option.some.injEq] at hv;subst hv;split at hx
   ·rename_i hlt;have hlt:=Nat.le_of_ble_eq_true hlt;have hd:=Yca l p;generalize dcX l p=q at hx hd;obtain⟨c,k⟩:=q;simp only[Option.some.injEq,Prod.mk.injEq] at hx;obtain⟨rfl,rfl⟩:=hx;have hrun:=Lib.run_next_any_at (P:=P) w rb (str l) p t g3 (by rw[Zbe];omega);rw[<-hd] at hrun;have hw:=h.mset (o':=.it l (p+k)) (ob:=.stringIter (str l) (p+k)) hb g1 λw' hw=>hw;refine⟨_,_,hrun,hK σ _ _ (Ext.refl _) hw ?_⟩;simp only[vl,vls]
   ·rename_i hlt;simp only[Option.some.injEq,Prod.mk.injEq] at hx;obtain⟨rfl,rfl⟩:=hx
    have hlt:¬ p < (str l).size:=by
     rw[Zbe];intro e;have:Nat.blt p l.length=true:=Nat.ble_eq_true_of_le e;rw[this] at hlt;cases hlt
    refine⟨_,_,Lib.run_next_end_at (P:=P) w rb (str l) p t g3 hlt,hK σ w _ (Ext.refl _) h ?_⟩;simp only[vl,vls]
  ·cases hx
 ·cases hx
end
end Go.Ev
/- A verified evaluator for closed calls: pointers that are seen as others, bytes of strings, rows copied, functions without a body. No program in sight. -/
namespace Go.Ev
open Go Go.Vc
noncomputable section
variable {P:Program}{base:Bs}{w0:World}{σ:Sg}{s:St}{w w':World}
def sbX (P:Program) (q d:TypeId) (x:Option X) (s:St):Option (X × St):=match P.underlying q,P.underlying d,x with
 |some .string,some (.slice e),some (.s l)=>(match P.underlying e,szOf P e with
  |some (.int .u8),1=>some (.l (some (s.n,0)) l.length l.length,s.new (e,l.map λm=>.i .u8 ((m%256:Nat):Int)))
  |_,_=>none)
 |_,_,_=>none
theorem Yd4 {q d:TypeId}{x:Option X}{z:X × St}(hx:sbX P q d x s=some z):∃ e,P.underlying q=some .string/\P.underlying d=some (.slice e):=by
 unfold sbX at hx;split at hx
 ·rename_i hq hd;exact⟨_,hq,hd⟩
 ·cases hx
theorem Zsd (l:List Nat):vls σ (l.map λm=>X.i .u8 ((m%256:Nat):Int))=some (l.map λm=>Value.int .u8 ((m%256:Nat):Int)):=by
 induction l with
 |nil=>rfl
 |cons c l ih=>exact Zbo rfl ih
theorem Ycx (h:Wo P base w0 σ s w){q d:TypeId}{x:Option X}{u:Value}{z:X}{s':St}(hx:sbX P q d x s=some (z,s')) (hv:∀ a,x=some a->vl σ a=some u){K:KT}(hK:Fin P base w0 σ z s' K):Cw P q d u w K:=by
 unfold sbX at hx;split at hx
 ·rename_i e l hq hd;have hv:=hv _ rfl;simp only[vl,Option.some.injEq] at hv;subst hv;split at hx
  ·rename_i he hsz;simp only[Option.some.injEq,Prod.mk.injEq] at hx;obtain⟨rfl,rfl⟩:=hx;have hrun:=run_bytes_of_string (P:=P) w q d e (str l) hq hd he;have hcap:=grownCap_ge w (str l).size 0 e;rw[Zbe] at hrun hcap;generalize grownCap w l.length 0 e=cap at hrun hcap
   have hb:bytesRow (str l) cap=([]++(l.map λm=>Value.int .u8 ((m%256:Nat):Int))++List.replicate (cap - l.length) (Value.int .u8 0)++[]).toArray:=by
    unfold bytesRow;rw[Zbe];apply Array.ext';simp[str]
   rw[hb] at hrun;have hlow:=h.fram.top
   obtain⟨g1,g2,g3⟩:=h.drew.mem.fresh (e:=e) (pre:=[]) (post:=[]) (rb:=w.heap.size) (k:=cap - l.length) (w':=w.drew.alloc (.cells ([]++(l.map λm=>Value.int .u8 ((m%256:Nat):Int))++List.replicate (cap - l.length) (Value.int .u8 0)++[]).toArray e
     (([]++(l.map λm=>Value.int .u8 ((m%256:Nat):Int))++List.replicate (cap - l.length) (Value.int .u8 0)++[]).toArray.size,([]++(l.map λm=>Value.int .u8 ((m%256:Nat):Int))++List.replicate (cap - l.length) (Value.int .u8 0)++[]).toArray.size+1)))
    h.fresh (Zsd l) (by rw[hsz,gP,Nat.mul_one]) hlow (by simp[sg]) ⟨_,Zo2 _,λo ho hz=>by simp at ho hz;omega⟩
    (λb x r hb hr he=>by have:r.1 < w.heap.size:=h.drew.mem.below hb hr;omega) (λb x r hb hr he=>by have:r.1 < w.heap.size:=h.drew.mem.mbelow hb hr;omega) ⟨0,by simp⟩ (λha=>by unfold isArrB at ha;rw[he] at ha;cases ha) Zdo
   refine⟨_,_,hrun,hK _ _ _ g2 ⟨g1,g3,h.drew.fram.alloc _⟩ ?_⟩;simp only[vl];rw[show sgPut σ s.n (w.heap.size,([]:List Value).length,cap - l.length) s.n=some (w.heap.size,0,cap - l.length) from Zaj _ _ _];show some (Value.slice (some ⟨w.heap.size,0+0,none⟩) l.length (l.length+(cap - l.length)))=_;rw[show l.length+(cap - l.length)=cap by omega]
  ·cases hx
 ·cases hx
def cpyX (P:Program) (ats:List TypeId) (xs:Option (List X)) (s:St):Option (X × St):=match ats,xs with
 |[t,_],some [.l _ _ _,.l none 0 _]=>(match P.underlying t with
  |some (.slice e)=>(match Nat.beq (szOf P e) 1 with
   |true=>some (.i .i64 0,s)
   |false=>none)
  |_=>none)
 |[t,t'],some [.l (some a) n _,.l (some b) m _]=>(match P.underlying t,s.blk a.1,s.blk b.1 with
  |some (.slice e),some ca,some cb=>(match Nat.beq (szOf P e) 1,Nat.ble (a.2+min m n) ca.2.length,Nat.ble (b.2+min m n) cb.2.length,flatXs ((cb.2.drop b.2).take (min m n)) with
   |true,true,true,true=>some (.i .i64 ((min m n:Nat):Int),s.put a.1 (some (ca.1,setLX ca.2 a.2 ((cb.2.drop b.2).take (min m n)))))
   |_,_,_,_=>none)
  |_,_,_=>none)
 |_,_=>none
theorem Zk1 {e:TypeId}(h:szOf P e=1):(P.info? e).map (·.size)=some 1:=by
 unfold szOf at h
 cases hi:P.info? e with
 |none=>rw[hi] at h;cases h
 |some i=>rw[hi] at h;simp at h;simp[h]
theorem Zzt (h:Wo P base w0 σ s w){ats:Array TypeId}{ty:TypeId}{xs:Option (List X)}{vs:List Value}{z:X}{s':St}(hx:cpyX P ats.toList xs s=some (z,s')) (hv:∀ l,xs=some l->vls σ l=some vs)
  {K:KT} (hK:Fin P base w0 σ z s' K):Cp P ats ty vs.toArray w K:=by
 unfold cpyX at hx;split at hx
 ·rename_i t t' a n ca' cb' hats;have hv:=hv _ rfl;obtain⟨v1,vs1,e1,e2,rfl⟩:=Za6 hv;obtain⟨v2,vs2,e3,e4,rfl⟩:=Za6 e2;simp only[vls,Option.some.injEq] at e4;subst e4
  have hat:ats=#[t,t']:=by
   obtain⟨l⟩:=ats;simp only at hats;rw[hats]
  subst hat;simp only[vl,Option.some.injEq] at e3;subst e3;split at hx
  ·rename_i e ht;split at hx
   ·rename_i h1;have h1:=Nat.eq_of_beq_eq_true h1;simp only[Option.some.injEq,Prod.mk.injEq] at hx;obtain⟨rfl,rfl⟩:=hx
    have hd:∃ d q,v1=.slice d n q:=by
     cases a with
     |none=>simp only[vl,Option.some.injEq] at e1;exact⟨_,_,e1.symm⟩
     |some a=>
      simp only[vl] at e1
      cases hs:σ a.1 with
      |none=>rw[hs] at e1;cases e1
      |some r=>rw[hs] at e1;exact⟨_,_,(Option.some.inj e1).symm⟩
    obtain⟨d,q,rfl⟩:=hd;exact⟨_,_,run_copy_none (P:=P) w t t' ty e d none n q 0 _ ht (Zk1 h1) (Nat.zero_min _),hK σ w _ (Ext.refl _) h rfl⟩
   ·cases hx
  ·cases hx
 ·rename_i t t' a n ca' b m cb' hats;have hv:=hv _ rfl;obtain⟨v1,vs1,e1,e2,rfl⟩:=Za6 hv;obtain⟨v2,vs2,e3,e4,rfl⟩:=Za6 e2;simp only[vls,Option.some.injEq] at e4;subst e4
  have hat:ats=#[t,t']:=by
   obtain⟨l⟩:=ats;simp only at hats;rw[hats]
  subst hat;split at hx
  ·rename_i e ca cb ht ha hb;obtain⟨ea,csa⟩:=ca;obtain⟨eb,csb⟩:=cb;split at hx
   ·rename_i h1 h2 h3 h4;have h1:=Nat.eq_of_beq_eq_true h1;have h2:=Nat.le_of_ble_eq_true h2;have h3:=Nat.le_of_ble_eq_true h3;simp only[Option.some.injEq,Prod.mk.injEq] at hx;obtain⟨rfl,rfl⟩:=hx;obtain⟨rb,off,k,pre,vs,sp,post,g⟩:=h.mem.own a.1 ea csa ha;obtain⟨rb2,off2,k2,pre2,vs2,sp2,post2,g2⟩:=h.mem.own b.1 eb csb hb;simp only[vl,g.sg_,Option.some.injEq] at e1;simp only[vl,g2.sg_,Option.some.injEq] at e3;subst e1;subst e3;simp only at h2 h3 h4 ⊢;have hl2:=Zas g2.val;have hcut:=Zbd (min m n) (Zb7 b.2 g2.val)
    have hlen:((vs2.drop b.2).take (min m n)).length=min m n:=by rw[gN,gS];omega
    have hlenX:((csb.drop b.2).take (min m n)).length=min m n:=by rw[gN,gS];omega
    have hsg:=Zc0 h4 hcut;obtain⟨hw,hc⟩:=h.write ha hcut hsg (by rw[hlenX];exact h2) g.sg_
    have hrun:=run_copy_cells (P:=P) w t t' ty e rb (off+a.2) n (ca'+k) ⟨rb2,off2+b.2,none⟩ m (cb'+k2) ((vs2.drop b.2).take (min m n)) ht (Zk1 h1) hlen
     (λj v hj=>by
      rw[Zam];have hj2:=hj;rw[hI_ (by have:=(gH.1 hj).1;omega),hH_] at hj2
      rw[show off2+b.2+j=off2+(b.2+j) by omega,g2.cell (gH.1 hj2).1,hj2])
     (λj hj=>(hc j hj).1) (λj hj=>(hc j hj).2) (λv hv=>Zib (all_eq_true.1 hsg v hv))
    refine⟨_,_,hrun,hK _ _ _ (Ext.refl _) hw ?_⟩;rw[hlen];rfl
   ·cases hx
  ·cases hx
 ·cases hx
def slN:X->Option Nat
 |.l _ n _=>some n
 |.e0 _ _ _=>some 0
 |_=>none
theorem Zyy {x:X}{n:Nat}{v:Value}(h:slN x=some n) (hv:vl σ x=some v):∃ d q,v=.slice d n q:=by
 unfold slN at h;split at h
 ·rename_i a n' c;obtain rfl:=Option.some.inj h
  cases a with
  |none=>simp only[vl,Option.some.injEq] at hv;exact⟨_,_,hv.symm⟩
  |some a=>
   obtain⟨q,m,d,rfl⟩:=vl_ls hv;simp only[vl] at hv
   cases hs:σ a.1 with
   |none=>rw[hs] at hv;cases hv
   |some r=>
    rw[hs] at hv;exact⟨_,_,(Option.some.inj hv).symm⟩
 ·obtain rfl:=Option.some.inj h;obtain⟨p,m,rfl⟩:=vl_es hv;exact⟨_,_,rfl⟩
 ·cases h
def cpy0 (P:Program):List TypeId->Option (List X)->Bool
 |[t,_],some [x,y]=>(match P.underlying t,slN x,slN y with
  |some (.slice e),some n,some m=>Nat.beq (szOf P e) 1&&Nat.beq (Nat.min m n) 0
  |_,_,_=>false)
 |_,_=>false
def cpyZ (P:Program) (ats:List TypeId) (xs:Option (List X)) (s:St):Option (X × St):=match cpy0 P ats xs with
 |true=>some (.i .i64 0,s)
 |false=>cpyX P ats xs s
theorem Yaa (h:Wo P base w0 σ s w){ats:Array TypeId}{ty:TypeId}{xs:Option (List X)}{vs:List Value}{z:X}{s':St}(hx:cpyZ P ats.toList xs s=some (z,s')) (hv:∀ l,xs=some l->vls σ l=some vs)
  {K:KT} (hK:Fin P base w0 σ z s' K):Cp P ats ty vs.toArray w K:=by
 unfold cpyZ at hx;split at hx
 ·rename_i h0;simp only[Option.some.injEq,Prod.mk.injEq] at hx;obtain⟨rfl,rfl⟩:=hx;unfold cpy0 at h0;split at h0
  ·rename_i t t' x y hats
   have hat:ats=#[t,t']:=by
    obtain⟨l⟩:=ats;simp only at hats;rw[hats]
   subst hat;split at h0
   ·rename_i e n m ht hn hm;rw[Bool.and_eq_true] at h0;obtain⟨v1,vs1,e1,e2,rfl⟩:=Za6 (hv _ rfl);obtain⟨v2,vs2,e3,e4,rfl⟩:=Za6 e2;simp only[vls,Option.some.injEq] at e4;subst e4;obtain⟨d,q,rfl⟩:=Zyy hn e1;obtain⟨d',q',rfl⟩:=Zyy hm e3;exact⟨_,_,run_copy_none (P:=P) w t t' ty e d d' n q m q' ht (Zk1 (Nat.eq_of_beq_eq_true h0.1)) (Nat.eq_of_beq_eq_true h0.2),hK σ w _ (Ext.refl _) h rfl⟩
   ·cases h0
  ·cases h0
 ·exact Zzt h hx hv hK
def usdX:Option (List X)->Option X
 |some [.l none _ _]=>some (.p none)
 |some [.l (some a) _ (_+1)]=>some (.p (some a))
 |_=>none
theorem Yb5 {ats:Array TypeId}{ty:TypeId}{xs:Option (List X)}{vs:List Value}{z:X}(hx:usdX xs=some z) (hv:∀ l,xs=some l->vls σ l=some vs)
  {K:KT} (hK:∀ v,vl σ z=some v->K v w):Usd P ats ty vs.toArray w K:=by
 unfold usdX at hx;split at hx
 ·obtain rfl:=Option.some.inj hx;obtain⟨v1,vs1,e1,e2,rfl⟩:=Za6 (hv _ rfl);simp only[vls,Option.some.injEq] at e2;simp only[vl,Option.some.injEq] at e1;subst e1;subst e2;exact⟨_,w,Lib.run_unsafeSliceData_nil (P:=P) w ats ty _ _,hK _ rfl⟩
 ·rename_i a n c;obtain rfl:=Option.some.inj hx;obtain⟨v1,vs1,e1,e2,rfl⟩:=Za6 (hv _ rfl);simp only[vls,Option.some.injEq] at e2;subst e2;simp only[vl] at e1
  cases hs:σ a.1 with
  |none=>rw[hs] at e1;cases e1
  |some r=>
   rw[hs] at e1;obtain rfl:=Option.some.inj e1;exact⟨_,w,Lib.run_unsafeSliceData_row (P:=P) w ats ty _ n _ (by omega),hK _ (by simp only[vl,hs])⟩
 ·cases hx
def smallB:List Nat->Bool
 |[]=>true
 |m::l=>match Nat.blt m 256 with
  |true=>smallB l
  |false=>false
theorem Zi0:∀ {l:List Nat}{j m:Nat},smallB l=true->l[j]?=some m->m < 256
 |[],j,m,_,h=>by simp at h
 |a::l,0,m,hb,h=>by
  simp only[smallB] at hb;simp at h;subst h
  cases hq:Nat.blt a 256 with
  |true=>exact Nat.le_of_ble_eq_true hq
  |false=>rw[hq] at hb;cases hb
 |a::l,j+1,m,hb,h=>by
  simp only[smallB] at hb
  cases hq:Nat.blt a 256 with
  |true=>rw[hq] at hb;exact Zi0 (l:=l) (j:=j) hb (by simpa using h)
  |false=>rw[hq] at hb;cases hb
def ustX (P:Program) (ats:List TypeId) (xs:Option (List X)) (s:St):Option (X × St):=match ats,xs with
 |[_,_],some [.p _,.i .i64 (.ofNat 0)]=>some (.s [],s)
 |[pt,_],some [.p (some b),.i .i64 (.ofNat (n+1))]=>(match s.blk b.1 with
  |some cb=>(match P.underlying pt,Nat.ble (n+1) 9223372036854775807,bytesX ((cb.2.drop b.2).take (n+1)) with
   |some (.pointer e),true,some l=>(match Nat.beq e cb.1,Nat.beq (szOf P e) 1,Nat.beq l.length (n+1),smallB l with
    |true,true,true,true=>some (.s l,s.put b.1 none)
    |_,_,_,_=>none)
   |_,_,_=>none)
  |none=>none)
 |_,_=>none
theorem Zpp {a:Addr}{n:Nat}:(∀ c o,c≠a.block->w.heap[c]?=some o->(w.freeze a n).heap[c]?=some o)/\Same w (w.freeze a n):=by
 unfold World.freeze;split
 ·exact⟨λc o _ h=>h,.refl w⟩
 ·refine⟨λc o hc h=>?_,⟨rfl,rfl,rfl,by simp⟩⟩;simp only[Array.getElem?_modify];rw[if_neg (λe=>hc e.symm)];exact h
theorem Zxo (l:List Nat) (j:Nat) (x:UInt8) (h:(l.map UInt8.ofNat)[j]?=some x):∃ m,l[j]?=some m/\x=UInt8.ofNat m:=by
 rw[hV_] at h
 cases hl:l[j]? with
 |none=>rw[hl] at h;cases h
 |some m=>rw[hl] at h;exact⟨m,rfl,(Option.some.inj h).symm⟩
theorem Yav (h:Wo P base w0 σ s w){ats:Array TypeId}{ty:TypeId}{xs:Option (List X)}{vs:List Value}{z:X}{s':St}(hx:ustX P ats.toList xs s=some (z,s')) (hv:∀ l,xs=some l->vls σ l=some vs)
  {K:KT} (hK:Fin P base w0 σ z s' K):Ust P ats ty vs.toArray w K:=by
 unfold ustX at hx;split at hx
 ·rename_i pt it a hats;simp only[Option.some.injEq,Prod.mk.injEq] at hx;obtain⟨rfl,rfl⟩:=hx;obtain⟨v1,vs1,e1,e2,rfl⟩:=Za6 (hv _ rfl);obtain⟨v2,vs2,e3,e4,rfl⟩:=Za6 e2;simp only[vls,Option.some.injEq] at e4;subst e4;simp only[vl,Option.some.injEq] at e3;subst e3
  have hat:ats=#[pt,it]:=by obtain⟨l⟩:=ats;simp only at hats;rw[hats]
  subst hat
  have hp:∃ q,v1=.pointer q:=by
   cases a with
   |none=>simp only[vl,Option.some.injEq] at e1;exact⟨_,e1.symm⟩
   |some a=>obtain⟨q,rfl⟩:=vl_ps e1;exact⟨_,rfl⟩
  obtain⟨q,rfl⟩:=hp;exact⟨_,w,Lib.run_unsafeString_none (P:=P) w pt it ty q,hK σ w _ (Ext.refl _) h rfl⟩
 ·rename_i pt it b n hats;split at hx
  ·rename_i cb hb;split at hx
   ·rename_i e l hp h63 hby
    split at hx
    ·rename_i he hs1 hl hsm;obtain⟨eb,cs⟩:=cb;obtain rfl:=Nat.eq_of_beq_eq_true he;have hs1:=Nat.eq_of_beq_eq_true hs1;have hl:=Nat.eq_of_beq_eq_true hl;have h63:=Nat.le_of_ble_eq_true h63;simp only[Option.some.injEq,Prod.mk.injEq] at hx;obtain⟨rfl,rfl⟩:=hx;obtain⟨v1,vs1,e1,e2,rfl⟩:=Za6 (hv _ rfl);obtain⟨v2,vs2,e3,e4,rfl⟩:=Za6 e2;simp only[vls,Option.some.injEq] at e4;subst e4;simp only[vl,Option.some.injEq] at e3;subst e3
     have hat:ats=#[pt,it]:=by obtain⟨l⟩:=ats;simp only at hats;rw[hats]
     subst hat;obtain⟨rb,off,k,pre,vs,sp,post,g⟩:=h.mem.own b.1 e cs hb;simp only[vl,g.sg_,Option.some.injEq] at e1;subst e1;have hcut:=Zbd (n+1) (Zb7 b.2 g.val)
     have hbv:=Ze8 (σ:=σ) hby
     simp only at hbv hcut;rw[hcut] at hbv;have hvs:=Option.some.inj hbv
     have hlen:((vs.drop b.2).take (n+1)).length=n+1:=by rw[hvs];simp[hl]
     have hc1:P.cellsOf e=1:=by rw[Zft (by omega)];exact hs1
     have hsh:=g.shape;have hpre:=g.pre_
     have hin:b.2+(n+1)<=vs.length:=by rw[gN,gS] at hlen;omega
     have hlies:liesAt P P.depth e ((pre++vs++sp++post).length/P.cellsOf e) (off+b.2) e (n+1)=true:=by
      have h0:=Lib.liesAt_bytes (P:=P) hc1 (n+1) (n+1) (Nat.le_refl _);have h1:=Zhb (q:=off+b.2) (c':=(pre++vs++sp++post).length/P.cellsOf e) (by rw[hc1,Nat.div_one];simp only[gD];omega) h0;rw[hc1,Nat.mul_one,Nat.add_zero] at h1;rw[hc1];exact h1
     have hlb:=Lib.run_loadBytes (P:=P) w (l.map UInt8.ofNat) ⟨rb,off+b.2,none⟩ .empty (λj x hj=>by
      obtain⟨m,hm,rfl⟩:=Zxo l j x hj;rw[Zam];have hm256:=Zi0 hsm hm
      have hvj:((vs.drop b.2).take (n+1))[j]?=some (.int .u8 (m:Int)):=by
       rw[hvs,hV_,hV_,hm];rfl
      have hj1:=(gH.1 hvj).1;rw[hI_ (by omega),hH_] at hvj;rw[show off+b.2+j=off+(b.2+j) by omega,g.cell (gH.1 hvj).1,hvj]
      rw[UInt8.toNat_ofNat_of_lt' (by simpa using hm256)])
     rw[hS_,hl] at hlb
     have h63':¬ (9223372036854775807:Int) < ((n+1:Nat):Int):=by omega
     have hdef:Builtin.unsafeString_ #[pt,it] ty #[.pointer (some ⟨rb,off+b.2,none⟩),.int .i64 ((n+1:Nat):Int)] =
       (do
        let n <-asInt (.int .i64 ((n+1:Nat):Int))
        if n < 0 then runtimePanic (.error "unsafe.String: len out of range")
        if n > IntKind.i64.max then unsupported (.unsafePointer "String: a length above the largest int")
        if n=0 then pure (.string .empty)
        else if <-variablesAt ⟨rb,off+b.2,none⟩ (<-elemOf pt) n.toNat then do
         let s <-loadBytes ⟨rb,off+b.2,none⟩ .empty n.toNat
         freeze ⟨rb,off+b.2,none⟩ n.toNat
         pure (.string s)
        else unsupported (.unsafePointer "String: not so many bytes at ptr")) := rfl
     have hmax:IntKind.i64.max=9223372036854775807:=rfl
     have hneg:¬ ((n+1:Nat):Int) < 0:=by omega
     have hnz:¬ ((n+1:Nat):Int)=0:=by omega
     have hrun:(Builtin.unsafeString_ #[pt,it] ty #[.pointer (some ⟨rb,off+b.2,none⟩),.int .i64 ((n+1:Nat):Int)]).run P w=.ok (.string (str l)) (w.freeze ⟨rb,off+b.2,none⟩ (n+1)):=by
      rw[hdef]
      have hstr:(⟨ByteArray.empty.data++(l.map UInt8.ofNat).toArray⟩:ByteArray)=str l:=by
       apply ByteArray.ext;simp[str]
      have e1:(asInt (.int .i64 ((n+1:Nat):Int))).run P w=.ok ((n+1:Nat):Int) w:=by simp[asInt,asIntOf]
      rw[Sem.run_bind,e1];simp only[Result.andThen_ok,hneg,if_false,hmax,gt_iff_lt,h63',hnz,gC,Sem.run_bind,Sem.run_pure,elemOf,run_underlying hp,variablesAt,run_program,run_shape,hsh,hlies,if_true,hlb,hstr];rfl
     obtain⟨f1,f2⟩:=Zpp (w:=w) (a:=⟨rb,off+b.2,none⟩) (n:=n+1);refine⟨_,_,hrun,hK σ _ _ (Ext.refl _) ⟨h.mem.lose hb g.sg_ f1,h.fresh,h.fram.upd f2 g.low f1⟩ rfl⟩
    ·cases hx
   ·cases hx
  ·cases hx
 ·cases hx
def bytX:List X->Option (List Nat)
 |[]=>some []
 |.i .u8 (.ofNat n)::l=>(match bytX l with
  |some r=>some (n::r)
  |none=>none)
 |_=>none
theorem Zsl:∀ {xs:List X}{l:List Nat},bytX xs=some l->vls σ xs=some (l.map λ(n:Nat)=>Value.int .u8 (n:Int))
 |[],l,h=>by obtain rfl:=Option.some.inj h;rfl
 |x::xs,l,h=>by
  unfold bytX at h;split at h
  ·rename_i e;cases e
  ·rename_i n l' e;cases e;split at h
   ·rename_i r hr;obtain rfl:=Option.some.inj h;exact Zbo rfl (Zsl hr)
   ·cases h
  ·cases h
def extX (P:Program) (s:St):Option (Func × Xt)->Option (List X)->Option (X × St)
 |some (_,.idx),some [.s l,.i .u8 c]=>some (.i .i64 (Lib.indexByte (l.map UInt8.ofNat) c.toNat.toUInt8),s)
 |some (_,.idxB),some [.l none _ _,.i .u8 c]=>some (.i .i64 (Lib.indexByte [] c.toNat.toUInt8),s)
 |some (_,.idxB),some [.l (some a) n _,.i .u8 c]=>(match s.blk a.1 with
  |some cb=>(match bytX ((cb.2.drop a.2).take n) with
   |some l=>(match Nat.beq l.length n with
    |true=>some (.i .i64 (Lib.indexByte (l.map UInt8.ofNat) c.toNat.toUInt8),s)
    |false=>none)
   |none=>none)
  |none=>none)
 |some (_,.cnt),some [.s l,.i .u8 c]=>some (.i .i64 (Lib.countByte (l.map UInt8.ofNat) c.toNat.toUInt8),s)
 |some (_,.noEsc),some [x]=>some (x,s)
 |some (fn,.mkNo),some [.i .i64 (.ofNat n)]=>(match fn.resultTypes.toList with
  |[t]=>(match P.underlying t with
   |some (.slice e)=>(match szOf P e,Nat.ble n 1048576,isArrB P e with
    |1,true,false=>some (.l (some (s.n,0)) n 0,s.new (e,[]))
    |_,_,_=>none)
   |_=>none)
  |_=>none)
 |_,_=>none
theorem Zk4 (l:List Nat):(str l).data.toList=l.map UInt8.ofNat:=by simp[str]
theorem Zzl (h:Wo P base w0 σ s w){f:FuncId}{xs:Option (List X)}{vs:List Value}{z:X}{s':St}(hx:extX P s (extK P f) xs=some (z,s')) (hv:∀ l,xs=some l->vls σ l=some vs)
  {K:KT} (hK:Fin P base w0 σ z s' K):isExt P f=true/\Cx P f vs.toArray w K:=by
 unfold extX at hx;split at hx
 ·rename_i fn l c hk;simp only[Option.some.injEq,Prod.mk.injEq] at hx;obtain⟨rfl,rfl⟩:=hx;obtain⟨v1,vs1,e1,e2,rfl⟩:=Za6 (hv _ rfl);obtain⟨v2,vs2,e3,e4,rfl⟩:=Za6 e2;simp only[vls,Option.some.injEq] at e4;subst e4;simp only[vl,Option.some.injEq] at e1 e3;subst e1;subst e3;have hr:=Lib.run_indexByteString (P:=P) (str l) c w;rw[Zk4] at hr;obtain⟨g1,g2⟩:=callExt hk (Zvb (Zdp hk).2.2) hr;exact⟨g1,_,w,g2,hK σ w _ (Ext.refl _) h rfl⟩
 ·rename_i fn n m c hk;simp only[Option.some.injEq,Prod.mk.injEq] at hx;obtain⟨rfl,rfl⟩:=hx;obtain⟨v1,vs1,e1,e2,rfl⟩:=Za6 (hv _ rfl);obtain⟨v2,vs2,e3,e4,rfl⟩:=Za6 e2;simp only[vls,Option.some.injEq] at e4;subst e4;simp only[vl,Option.some.injEq] at e1 e3;subst e1;subst e3;have hr:(Extern.BytealgIndexByte.indexByte #[.slice none n m,.int .u8 c]).run P w=.ok (.int .i64 (Lib.indexByte [] c.toNat.toUInt8)) w:=Lib.run_indexByteString (P:=P) .empty c w;obtain⟨g1,g2⟩:=callExt hk (Zh4 (Zdp hk).2.2) hr;exact⟨g1,_,w,g2,hK σ w _ (Ext.refl _) h rfl⟩
 ·rename_i fn a n m c hk;split at hx
  ·rename_i cb hb;obtain⟨be,cs⟩:=cb;split at hx
   ·rename_i l hl;split at hx
    ·rename_i hn;have hn:=Nat.eq_of_beq_eq_true hn;simp only[Option.some.injEq,Prod.mk.injEq] at hx;obtain⟨rfl,rfl⟩:=hx;obtain⟨v1,vs1,e1,e2,rfl⟩:=Za6 (hv _ rfl);obtain⟨v2,vs2,e3,e4,rfl⟩:=Za6 e2;simp only[vls,Option.some.injEq] at e4;subst e4;obtain⟨rb,off,k,pre,vs,sp,post,g⟩:=h.mem.own a.1 be cs hb;simp only[vl,g.sg_,Option.some.injEq] at e1 e3;subst e1;subst e3;have h3:=Zbd n (Zb7 a.2 g.val);have h4:=Zsl (σ:=σ) hl;simp only at h4;rw[h3] at h4;have h5:=Option.some.inj h4
     have hload:=run_loadBytes (P:=P) (w:=w) (b:=rb) l (off+a.2) .empty λi m' hi=>by
      have hlt:i < l.length:=(gH.1 hi).1
      have h6:((vs.drop a.2).take n)[i]?=some (.int .u8 (m':Int)):=by rw[h5,hV_,hi];rfl
      rw[hI_ (by omega),hH_] at h6;rw[show off+a.2+i=off+(a.2+i) by omega,g.cell (gH.1 h6).1,h6]
     have hr:=Lib.run_indexByteString (P:=P) (str l) c w;rw[Zk4] at hr
     have hr2:(Extern.BytealgIndexByte.indexByte #[.slice (some ⟨rb,off+a.2,none⟩) n (m+k),.int .u8 c]).run P w=.ok (.int .i64 (Lib.indexByte (l.map UInt8.ofNat) c.toNat.toUInt8)) w:=by
      rw[<-hr];rw[hn] at hload;have hl1:(Extern.Bytes.bytesOf (.slice (some ⟨rb,off+a.2,none⟩) n (m+k))).run P w=.ok (str l) w:=hload.trans (by congr 1;apply Ze4;simp[str]);have hl2:(Extern.Bytes.bytesOf (.string (str l))).run P w=.ok (str l) w:=rfl;exact Zrt hl1 hl2
     obtain⟨g1,g2⟩:=callExt hk (Zh4 (Zdp hk).2.2) hr2;exact⟨g1,_,w,g2,hK σ w _ (Ext.refl _) h rfl⟩
    ·cases hx
   ·cases hx
  ·cases hx
 ·rename_i fn l c hk;simp only[Option.some.injEq,Prod.mk.injEq] at hx;obtain⟨rfl,rfl⟩:=hx;obtain⟨v1,vs1,e1,e2,rfl⟩:=Za6 (hv _ rfl);obtain⟨v2,vs2,e3,e4,rfl⟩:=Za6 e2;simp only[vls,Option.some.injEq] at e4;subst e4;simp only[vl,Option.some.injEq] at e1 e3;subst e1;subst e3;have hr:=Lib.run_countString (P:=P) (str l) c w;rw[Zk4] at hr;obtain⟨g1,g2⟩:=callExt hk (Zws (Zdp hk).2.2) hr;exact⟨g1,_,w,g2,hK σ w _ (Ext.refl _) h rfl⟩
 ·rename_i fn x hk;simp only[Option.some.injEq,Prod.mk.injEq] at hx;obtain⟨rfl,rfl⟩:=hx;obtain⟨v1,vs1,e1,e2,rfl⟩:=Za6 (hv _ rfl);simp only[vls,Option.some.injEq] at e2;subst e2;obtain⟨g1,g2⟩:=callExt (P:=P) (w:=w) (w':=w) (args:=[v1].toArray) (v:=v1) hk (Zpz (Zdp hk).2.2) rfl;exact⟨g1,_,w,g2,hK σ w _ (Ext.refl _) h e1⟩
 ·rename_i fn n hk;obtain⟨v1,vs1,e1,e2,rfl⟩:=Za6 (hv _ rfl);simp only[vls,Option.some.injEq] at e2;subst e2;simp only[vl,Option.some.injEq] at e1;subst e1;split at hx
  ·rename_i t hrt;split at hx
   ·rename_i e ht;split at hx
    ·rename_i hsz hn hna;have hn:=Nat.le_of_ble_eq_true hn;simp only[Option.some.injEq,Prod.mk.injEq] at hx;obtain⟨rfl,rfl⟩:=hx
     have hres:fn.resultTypes=#[t]:=by
      have:=congrArg List.toArray hrt;simpa using this
     obtain⟨cs,hr,h1,h2⟩:=Lib.run_makeNoZero (P:=P) w fn.params t e ht n (by omega);have hfind:=Zrj (Zdp hk).2.2;rw[hres] at hfind;obtain⟨g1,g2⟩:=callExt (P:=P) (w:=w) (args:=[Value.int .i64 (n:Int)].toArray) hk hfind hr;refine⟨g1,_,_,g2,?_⟩;obtain⟨k1,k2,k3⟩:=h.drew.drew.mem.alloc h.fresh h.drew.drew.fram (e:=e) (cs:=[]) (vs:=[]) (sp:=cs.toList) (k:=cs.size) rfl (by rw[hsz];simp) rfl (λha=>by rw[hna] at ha;cases ha)
     have hcs:(([]:List Value)++cs.toList).toArray=cs:=by simp
     rw[hcs] at k1;refine hK _ _ _ k2 ⟨k1,k3,h.drew.drew.fram.alloc _⟩ ?_;simp only[vl];rw[Zaj];show some (Value.slice (some ⟨w.heap.size,0+0,none⟩) n (0+cs.size))=_;simp only[Nat.zero_add]
    ·cases hx
   ·cases hx
  ·cases hx
 ·cases hx
end
end Go.Ev
/- A verified evaluator for closed calls, seventh part: operations with effects. No program in sight. -/
namespace Go.Ev
open Go Go.Vc
noncomputable section
variable {P:Program}{base:Bs}{w0:World}{σ:Sg}{s:St}{w w':World}{ρ:T X}{r:Env}
def CallOk (P:Program) (base:Bs) (w0:World) (call:FuncId->List X->St->Option (X × St)):Prop:=
 ∀ f xs s x s',call f xs s=some (x,s')->∀ σ w vs,Wo P base w0 σ s w->vls σ xs=some vs->∀ K,Fin P base w0 σ x s' K->isExt P f=false/\Cl P f vs.toArray w K
def repL {α:Type}:Nat->List α->List α
 |0,_=>[]
 |n+1,l=>l++repL n l
theorem Zke {α:Type}(l:List α):∀ n,(repL n l).length=n*l.length
 |0=>by simp[repL]
 |n+1=>by rw[repL,gD,Zke l n,Nat.add_mul,Nat.one_mul];omega
theorem Zol {α:Type}(l:List α):∀ (n j:Nat),j < n*l.length->(repL n l)[j]?=l[j%l.length]?
 |0,j,h=>by omega
 |n+1,j,h=>by
  rw[repL];rcases hU_ j l.length with h1|h1
  ·rw[gM h1,Nat.mod_eq_of_lt h1]
  ·rw[gT h1,Zol l n _ (by rw[Nat.add_mul] at h;omega),Nat.mod_eq_sub_mod h1]
theorem Zhe (z:Array Value) (n:Nat) (hz:0 < z.size):(Array.range (n*z.size)).map (λi=>z[i%z.size]!)=(repL n z.toList).toArray:=by
 apply Array.ext';apply List.ext_getElem?;intro j;rw[Array.toList_map,Array.toList_range,hV_];rcases hU_ j (n*z.size) with h|h
 ·rw[List.getElem?_range h]
  have h1:j < n*z.toList.length:=by simpa using h
  show _=(repL n z.toList)[j]?;rw[Zol _ _ _ h1];have h2:j%z.size < z.size:=Nat.mod_lt _ hz;simp[h2]
 ·rw[List.getElem?_eq_none (by simpa using h)]
  have:(repL n z.toList).length<=j:=by rw[Zke];simpa using h
  show _=(repL n z.toList)[j]?;rw[List.getElem?_eq_none this];rfl
theorem Zfd {xs:List X}{vs:List Value}(h:vls σ xs=some vs):∀ n,vls σ (repL n xs)=some (repL n vs)
 |0=>rfl
 |n+1=>Zfg h (Zfd h n)
theorem Wo.new (h:Wo P base w0 σ s w){e:TypeId}{cs:List X}{vs:List Value}(hv:vls σ cs=some vs) (hf:flatXs cs=true):∃ σ',Ext σ σ'/\Wo P base w0 σ' (s.new (e,cs)) (w.alloc (.cells vs.toArray e))/\σ' s.n=some (w.heap.size,0,0):=by
 obtain⟨g1,g2,g3⟩:=h.mem.alloc h.fresh h.fram (e:=e) (sp:=[]) (k:=0) hv (by simp) (Zc0 hf hv) (λ_=>rfl);rw[gU] at g1;exact⟨_,g2,⟨g1,g3,h.fram.alloc _⟩,Zaj _ _ _⟩
def stoA (s:St) (a:Nat × Nat) (cb:Blk) (n:Nat) (x:X):Option (X × St):=match x with
 |.g xs=>(match Nat.beq xs.length n,Nat.ble (a.2+xs.length) cb.2.length,flatXs xs with
  |true,true,true=>some (undX,s.put a.1 (some (cb.1,setLX cb.2 a.2 xs)))
  |_,_,_=>none)
 |_=>none
def stoO (s:St) (a:Nat × Nat) (cb:Blk) (n:Nat) (x:X):Option (X × St):=match Nat.beq n 1,Nat.ble (a.2+1) cb.2.length,flatX x with
 |true,true,true=>some (undX,s.put a.1 (some (cb.1,setLX cb.2 a.2 [x])))
 |_,_,_=>none
def stoX (P:Program) (s:St) (t:TypeId) (a:Option (Nat × Nat)) (x:Option X):Option (X × St):=match a,x with
 |some a,some x=>(match s.blk a.1 with
  |some cb=>(match P.underlying t,P.info? t with
   |some (.struct _),some i|some (.array _ _),some i=>stoA s a cb i.size x
   |some _,some i=>stoO s a cb i.size x
   |_,_=>none)
  |none=>none)
 |_,_=>none
def bs0 (P:Program) (t:TypeId) (s:St):Option (X × St):=match elemX P t with
 |some q=>some (.l (some (s.n,0)) 0 0,s.new (q.1,[]))
 |none=>none
def bsX (P:Program) (t:TypeId) (n:Nat) (ps:List (Nat × X)) (s:St):Option (X × St):=match elemX P t with
 |some q=>(match zeroX P q.1,Nat.ble (n*q.2.1) 16777216,Nat.blt 0 n with
  |some z,true,true=>(match xfill (λi=>some (i*q.2.1,q.2.1)) (repL n z) ps with
   |some cs=>(match flatXs cs with
    |true=>some (.l (some (s.n,0)) n n,s.new (q.1,cs))
    |false=>none)
   |none=>none)
  |_,_,_=>none)
 |none=>none
def msX (P:Program) (t:TypeId) (l c:Option X) (s:St):Option (X × St):=match elemX P t,l,c with
 |some q,some (.i _ (.ofNat l)),some (.i _ (.ofNat c))=>(match zeroX P q.1,Nat.ble l c,Nat.ble (q.2.2*c) 281474976710656,Nat.ble c 9223372036854775807 with
  |some z,true,true,true=>(match flatXs (repL c z) with
   |true=>some (.l (some (s.n,0)) l c,s.new (q.1,repL c z))
   |false=>none)
  |_,_,_,_=>none)
 |_,_,_=>none
def newX (t:TypeId) (cs:Option (List X)) (s:St):Option (X × St):=match cs with
 |some cs=>(match flatXs cs with
  |true=>some (.p (some (s.n,0)),s.new (t,cs))
  |false=>none)
 |none=>none
def eBs (P:Program) (t:TypeId) (s:St):Nat->Option (List (Nat × X))->Option (X × St)
 |0,some []=>bs0 P t s
 |n,some xs=>bsX P t n xs s
 |_,none=>none
def clrX (P:Program) (ats:List TypeId) (xs:Option (List X)) (s:St):Option (X × St):=match ats,xs with
 |[t],some [.l none _ _]=>(match P.underlying t with
  |some (.slice _)=>some (.t [],s)
  |_=>none)
 |[t],some [.e0 _ _ _]=>(match P.underlying t with
  |some (.slice _)=>some (.t [],s)
  |_=>none)
 |[t],some [.l (some a) n _]=>(match elemX P t,s.blk a.1 with
  |some q,some cb=>(match zeroX P q.1,Nat.ble (a.2+n*q.2.1) cb.2.length,Nat.blt 0 n with
   |some z,true,true=>(match flatXs (repL n z) with
    |true=>some (.t [],s.put a.1 (some (cb.1,setLX cb.2 a.2 (repL n z))))
    |false=>none)
   |_,true,false=>some (.t [],s)
   |_,_,_=>none)
  |_,_=>none)
 |_,_=>none
theorem Zzv (h:Wo P base w0 σ s w){ats:Array TypeId}{ty:TypeId}{xs:Option (List X)}{vs:List Value}{z:X}{s':St}(hx:clrX P ats.toList xs s=some (z,s')) (hv:∀ l,xs=some l->vls σ l=some vs)
  {K:KT} (hK:Fin P base w0 σ z s' K):Bclr P ats ty vs.toArray w K:=by
 have hat:∀ {t:TypeId},ats.toList=[t]->ats=#[t]:=λ{t} e=>by
  obtain⟨l⟩:=ats;simp only at e;rw[e]
 have hone:∀ {x:X},xs=some [x]->∃ v,vl σ x=some v/\vs=[v]:=λ{x} e=>by
  obtain⟨v1,vs1,e1,e2,rfl⟩:=Za6 (hv _ e);simp only[vls,Option.some.injEq] at e2;subst e2;exact⟨v1,e1,rfl⟩
 unfold clrX at hx;split at hx
 ·rename_i t n c hats;obtain rfl:=hat hats;obtain⟨v,e1,rfl⟩:=hone rfl;simp only[vl,Option.some.injEq] at e1;subst e1;split at hx
  ·rename_i e ht;simp only[Option.some.injEq,Prod.mk.injEq] at hx;obtain⟨rfl,rfl⟩:=hx;exact⟨_,w,by simp[Builtin.clear_,run_underlying ht],hK σ w _ (Ext.refl _) h rfl⟩
  ·cases hx
 ·rename_i t b o q hats;obtain rfl:=hat hats;obtain⟨v,e1,rfl⟩:=hone rfl;obtain⟨p,m,rfl⟩:=vl_es e1;split at hx
  ·rename_i e ht;simp only[Option.some.injEq,Prod.mk.injEq] at hx;obtain⟨rfl,rfl⟩:=hx;exact⟨_,w,by simp[Builtin.clear_,run_underlying ht],hK σ w _ (Ext.refl _) h rfl⟩
  ·cases hx
 ·rename_i t a n c hats;obtain rfl:=hat hats;obtain⟨v,e1,rfl⟩:=hone rfl;split at hx
  ·rename_i q cb hq hb;obtain⟨e,k,b⟩:=q;obtain⟨be,cs⟩:=cb;obtain⟨i,zv,hu,hi,hz,hzk,hik,hib,hk0,hsz⟩:=Zev hq;obtain⟨rb,off,kk,pre,us,sp,post,g⟩:=h.mem.own a.1 be cs hb;simp only[vl,g.sg_,Option.some.injEq] at e1;subst e1;split at hx
   ·rename_i zc hzc h1 h2;split at hx
    ·rename_i hf;simp only[Option.some.injEq,Prod.mk.injEq] at hx;obtain⟨rfl,rfl⟩:=hx;obtain⟨i',z',f1,f2,f3⟩:=Zbw (σ:=σ) hzc;simp only at f1;rw[hi] at f1;cases f1;rw[hz] at f2;cases f2;have h1:=Nat.le_of_ble_eq_true h1;have h2:=Nat.le_of_ble_eq_true h2;have hl3:=Zas f3
     have hzl:zv.cells.toList.length=k:=by simpa using hzk
     have hlen:(repL n zc).length=n*k:=by rw[Zke,hl3,hzl]
     obtain⟨hw,hc⟩:=h.write hb (Zfd f3 n) (Zc0 hf (Zfd f3 n)) (by rw[hlen];exact h1) g.sg_
     have hm:(Builtin.zeroCells zv.cells n).toList=repL n zv.cells.toList:=by
      unfold Builtin.zeroCells;rw[Zhe zv.cells n (by omega)]
     have hset:∀ (vs:List Value) (w:World) (j:Nat),setCells w ⟨rb,off+a.2,none⟩ vs j=w.setCells rb (off+a.2+j) vs:=by
      intro vs
      induction vs with
      |nil=>intro w j;rfl
      |cons v r ih=>
       intro w j;show setCells (w.setCell ((⟨rb,off+a.2,none⟩:Addr).add j) v) _ r (j+1)=_;rw[Zam,ih];rfl
     have hst:=Vc.Zbk (P:=P) (a:=⟨rb,off+a.2,none⟩) (repL n zv.cells.toList) 0 w (λj hj=>by rw[Zam,Nat.zero_add];exact hc j hj) (Zc0 hf (Zfd f3 n));rw[hset] at hst;obtain⟨n,rfl⟩:∃ m,n=m+1:=⟨n - 1,by omega⟩;refine⟨.tuple #[],_,?_,hK σ _ _ (Ext.refl _) hw rfl⟩;simp[Builtin.clear_,run_underlying hu,zeroValue,typeInfo,hi,hz,hm,hst]
    ·cases hx
   ·rename_i h1 h2;simp only[Option.some.injEq,Prod.mk.injEq] at hx;obtain⟨rfl,rfl⟩:=hx
    have h3:n=0:=by
     cases n with
     |zero=>rfl
     |succ n=>rw[Nat.ble_eq_true_of_le (show 0+1<=n+1 by omega) |> λe=>(show Nat.blt 0 (n+1)=true from e)] at h2;cases h2
    subst h3;exact⟨_,w,by simp[Builtin.clear_,run_underlying hu],hK σ w _ (Ext.refl _) h rfl⟩
   ·cases hx
  ·cases hx
 ·cases hx
def eFn (P:Program) (call:FuncId->List X->St->Option (X × St)) (f:FuncId) (s:St) (xs:Option (List X)):Option (X × St):=match extK P f with
 |some k=>extX P s (some k) xs
 |none=>(match xs with
  |some xs=>call f xs s
  |none=>none)
def eUsd (s:St):Option X->Option (X × St)
 |some x=>some (x,s)
 |none=>none
def eCv (P:Program) (st:Bool) (q d:TypeId) (x:Option X) (s:St):Option (X × St):=match st with
 |false=>sbX P q d x s
 |true=>none
def eVl (call:FuncId->List X->St->Option (X × St)) (s:St):Option X->Option (List X)->Option (X × St)
 |some (.f (.func g) a c),some xs=>call g (a++xs++c) s
 |_,_=>none
def eIv (P:Program) (call:FuncId->List X->St->Option (X × St)) (s:St) (name:String):Option X->Option (List X)->Option (X × St)
 |some (.fc t x),some xs=>(match methX P t name with
  |some g=>call g (x::xs) s
  |none=>none)
 |_,_=>none
def xeff (P:Program) (st:Bool) (call:FuncId->List X->St->Option (X × St)) (ρ:T X) (s:St) (o:Oper):Option (X × St):=match o.op with
 |.store t a x=>stoX P s t (pX (evX ρ a)) (evX ρ x)
 |.alloc t=>newX t (zeroX P t) s
 |.box t x=>(match evX ρ x with
  |some x=>newX t (some (cellsX x)) s
  |none=>none)
 |.buildSlice t n ps=>eBs P t s n (xparts ρ ps.toList)
 |.makeMap t r=>mmX0 P t (r.map (evX ρ)) s
 |.convert q d x=>eCv P st q d (evX ρ x) s
 |.mapUpdate t m k x=>muX P t (evX ρ m) (evX ρ k) (evX ρ x) s
 |.insert t m k x=>muX P t (evX ρ m) (evX ρ k) (evX ρ x) s
 |.range t x=>rgX P t (evX ρ x) s
 |.next x isS=>nxX isS (evX ρ x) s
 |.makeSlice t l c=>msX P t (evX ρ l) (evX ρ c) s
 |.call c=>(match c.callee,xargs ρ c.args.toList with
  |.value (.func f),xs=>eFn P call f s xs
  |.value f,xs=>eVl call s (evX ρ f) xs
  |.invoke q name,xs=>eIv P call s name (evX ρ q) xs
  |.builtin .clear,xs=>clrX P c.argTypes.toList xs s
  |.builtin .delete,xs=>dlX P c.argTypes.toList xs s
  |.builtin .copy,xs=>cpyZ P c.argTypes.toList xs s
  |.builtin .unsafeSliceData,xs=>eUsd s (usdX xs)
  |.builtin .unsafeString,xs=>ustX P c.argTypes.toList xs s
  |.builtin .append,some [x,y]=>(match c.argTypes with
   |⟨[t,tx]⟩=>appX P t tx x y s
   |_=>none)
  |_,_=>none)
 |_=>none
theorem Zkb {call:FuncId->List X->St->Option (X × St)}(hcall:CallOk P base w0 call) (h:Wo P base w0 σ s w) (hE:EnvR σ ρ r){o:Oper}{x:X}{s':St}(st:Bool) (hx:xeff P st call ρ s o=some (x,s')){K:KT}
  (hK:Fin P base w0 σ x s' K):vcOp P st r.ev o w K:=by
 unfold xeff at hx;unfold vcOp
 cases ho:o.op with
 |store t a y=>
  simp only[ho] at hx ⊢;unfold stoX at hx;split at hx
  ·rename_i p z ha hz;obtain⟨q,h1,h2⟩:=pX_ok hE ha;have hzv:=Za3 hE hz;split at hx
   ·rename_i cb hb;obtain⟨be,cs⟩:=cb
    have aggr:∀ {i:TypeInfo},stoA s p (be,cs) i.size z=some (x,s')->StA i.size (r.ev a) (r.ev y) w λw'=>K undef w':=by
     clear hx;intro i hx;unfold stoA at hx;split at hx
     ·rename_i xs;split at hx
      ·rename_i e1 e2 e3;simp only[Option.some.injEq,Prod.mk.injEq] at hx;obtain⟨rfl,rfl⟩:=hx;simp only[vl] at hzv
       cases hv:vls σ xs with
       |none=>rw[hv] at hzv;cases hzv
       |some vs=>
        rw[hv] at hzv;have hl:=Zas hv;have e1:=Nat.eq_of_beq_eq_true e1;have e2:=Nat.le_of_ble_eq_true e2;obtain⟨hw,hc⟩:=h.write hb hv (Zc0 e3 hv) e2 h1;rw[h2,<-Option.some.inj hzv];refine⟨_,vs.toArray,rfl,rfl,by simpa using (hl.symm.trans e1),λj hj=>?_,?_,?_⟩
        ·rw[Zam];exact hc j (by omega)
        ·simpa using Zc0 e3 hv
        ·have hs:setCells w ⟨q.1,q.2.1+p.2,none⟩ vs.toArray.toList 0=w.setCells q.1 (q.2.1+p.2) vs:=by
          have:∀ (vs:List Value) (w:World) (k:Nat),setCells w ⟨q.1,q.2.1+p.2,none⟩ vs k=w.setCells q.1 (q.2.1+p.2+k) vs:=by
           intro vs
           induction vs with
           |nil=>intro w k;rfl
           |cons v r ih=>
            intro w k;show setCells (w.setCell ((⟨q.1,q.2.1+p.2,none⟩:Addr).add k) v) _ r (k+1)=_;rw[Zam,ih];rfl
          exact this vs w 0
         rw[hs];exact hK σ _ undef (Ext.refl _) hw rfl
      ·cases hx
     ·cases hx
    have one:∀ {i:TypeInfo},stoO s p (be,cs) i.size z=some (x,s')->Nat.beq i.size 1=true/\Vc.St (r.ev a) (r.ev y) w λw'=>K undef w':=by
     clear hx;intro i hx;unfold stoO at hx;split at hx
     ·rename_i e1 e2 e3;simp only[Option.some.injEq,Prod.mk.injEq] at hx;obtain⟨rfl,rfl⟩:=hx;have e2:=Nat.le_of_ble_eq_true e2;have hsg:=Zod e3 hzv;obtain⟨hw,hc⟩:=h.write (xs:=[z]) hb (Zbo hzv rfl) (by rw[List.all_cons,hsg];rfl) (by simpa using e2) h1;obtain⟨c1,c2⟩:=hc 0 (by simp);rw[Nat.add_zero] at c1 c2;obtain⟨u,hu⟩:=Option.isSome_iff_exists.1 c1;refine⟨e1,_,u,h2,hu,c2,hsg,?_⟩;exact hK σ _ undef (Ext.refl _) hw rfl
     ·cases hx
    cases hu:P.underlying t with
    |none=>rw[hu] at hx;cases hx
    |some d=>
     cases hi:P.info? t with
     |none=>rw[hu,hi] at hx;cases d <;> cases hx
     |some i=>
      rw[hu,hi] at hx
      cases d with
      |struct fs=>exact aggr hx
      |array n e=>exact aggr hx
      |_=>
       obtain⟨g1,g2⟩:=one (i:=i) hx;simp only[g1];exact g2
   ·cases hx
  ·cases hx
 |alloc t=>
  simp only[ho] at hx ⊢;unfold newX at hx;split at hx
  ·rename_i cs hz;split at hx
   ·rename_i hf;simp only[Option.some.injEq,Prod.mk.injEq] at hx;obtain⟨rfl,rfl⟩:=hx;obtain⟨i,z,h1,h2,h3⟩:=Zbw (σ:=σ) hz
    have hh:hasZ P t=true:=by unfold hasZ;rw[h1];simp[h2]
    have hp:zeroP P t=z:=by unfold zeroP;rw[h1];simp[h2]
    rw[hh,hp];obtain⟨σ',g1,g2,g3⟩:=h.new (e:=t) h3 hf;refine hK σ' _ _ g1 ?_ ?_
    ·exact g2
    ·simp only[vl,g3]
   ·cases hx
  ·cases hx
 |box t y=>
  simp only[ho] at hx ⊢;split at hx
  ·rename_i z hz;unfold newX at hx;simp only at hx;split at hx
   ·rename_i hf;simp only[Option.some.injEq,Prod.mk.injEq] at hx;obtain⟨rfl,rfl⟩:=hx;obtain⟨σ',g1,g2,g3⟩:=h.new (e:=t) (Zh0 (Za3 hE hz)) hf;refine hK σ' _ _ g1 ?_ ?_
    ·exact g2
    ·simp only[vl,g3]
   ·cases hx
  ·cases hx
 |makeMap t q=>
  simp only[ho] at hx ⊢;refine Ybe h hx ?_ hK
  cases q with
  |none=>trivial
  |some q=>
   show RqX σ (some (evX ρ q)) (some (r.ev q))
   cases hq:evX ρ q with
   |none=>trivial
   |some a=>exact Za3 hE hq
 |convert q d y=>
  simp only[ho] at hx ⊢;unfold eCv at hx
  cases st with
  |true=>cases hx
  |false=>
   have key:=Ycx h hx (λa ha=>Za3 hE ha) hK;obtain⟨e,hq,hd⟩:=Yd4 hx;simp only[hq,hd];exact key
 |mapUpdate t m k y=>simp only[ho] at hx ⊢;exact Zze h hx (λa ha=>Za3 hE ha) (λa ha=>Za3 hE ha) (λa ha=>Za3 hE ha) hK
 |insert t m k y=>simp only[ho] at hx ⊢;exact Zze h hx (λa ha=>Za3 hE ha) (λa ha=>Za3 hE ha) (λa ha=>Za3 hE ha) hK
 |range t y=>simp only[ho] at hx ⊢;exact Yco h hx (λa ha=>Za3 hE ha) hK
 |next y q=>simp only[ho] at hx ⊢;exact Yct h hx (λa ha=>Za3 hE ha) hK
 |buildSlice t n ps=>
  simp only[ho] at hx ⊢;unfold eBs at hx;split at hx
  ·rename_i hxs;unfold bs0 at hx;split at hx
   ·rename_i q hq;obtain⟨e,k,b⟩:=q;obtain⟨i,z,hu,hi,hz,hzk,hik,hib,hk0,hsz⟩:=Zev hq;simp only[Option.some.injEq,Prod.mk.injEq] at hx;obtain⟨rfl,rfl⟩:=hx
    have hb:bmap r.ev ps=#[]:=by
     have:=Zcy hE hxs;simp only[pvl,Option.some.injEq] at this;unfold bmap;rw[<-this]
    obtain⟨σ',k1,k2,k3⟩:=h.new (e:=e) (cs:=[]) (vs:=[]) rfl rfl;refine⟨.slice (some ⟨w.heap.size,0,none⟩) 0 0,w.alloc (.cells #[] e),?_,hK σ' _ _ k1 k2 ?_⟩
    ·rw[hb]
     have e0:(Array.range 0).map (λ_=>(default:Value))=#[]:=by apply Array.ext';simp
     simp[Instr.buildSlice,run_underlying hu,Zaw hi,Instr.fill,newRow];rw[e0]
    ·simp only[vl,k3]
   ·cases hx
  ·rename_i n _ _ xs hneg hxs;unfold bsX at hx;split at hx
   ·rename_i q hq;obtain⟨e,k,b⟩:=q;obtain⟨i,z,hu,hi,hz,hzk,hik,hib,hk0,hsz⟩:=Zev hq;split at hx
    ·rename_i zc hzc h16 hn;split at hx
     ·rename_i cs hfill;split at hx
      ·rename_i hf;simp only[Option.some.injEq,Prod.mk.injEq] at hx;obtain⟨rfl,rfl⟩:=hx;obtain⟨i',z',f1,f2,f3⟩:=Zbw (σ:=σ) hzc;simp only at f1;rw[hi] at f1;cases f1;rw[hz] at f2;cases f2;have h16:=Nat.le_of_ble_eq_true h16;have hn:=Nat.le_of_ble_eq_true hn;subst hik;obtain⟨vs',g1,g2⟩:=Zdz hfill (Zfd f3 n) (Zcy hE hxs)
       have hrun:=run_buildSlice (P:=P) w t e n (bmap r.ev ps) vs'.toArray i z hu hi hz (by simp only at h16;omega) (by
        have:1*1<=n*i.size:=Nat.mul_le_mul hn hk0
        omega) (by
        have hm:=Zhe z.cells n (by omega);rw[hzk] at hm;rw[hzk,hm]
        exact g1)
       obtain⟨σ',k1,k2,k3⟩:=h.new (e:=e) g2 hf;refine⟨_,_,hrun,hK σ' _ _ k1 k2 ?_⟩;simp only[vl,k3];rfl
      ·cases hx
     ·cases hx
    ·cases hx
   ·cases hx
  ·cases hx
 |makeSlice t l c=>
  simp only[ho] at hx ⊢;unfold msX at hx;split at hx
  ·rename_i q kl l' kc c' hq hl hc;obtain⟨e,k,b⟩:=q;obtain⟨i,z,hu,hi,hz,hzk,hik,hib,hk0,hsz⟩:=Zev hq;split at hx
   ·rename_i zc hzc h1 h2 h3;split at hx
    ·rename_i hf;simp only[Option.some.injEq,Prod.mk.injEq] at hx;obtain⟨rfl,rfl⟩:=hx;obtain⟨i',z',f1,f2,f3⟩:=Zbw (σ:=σ) hzc;simp only at f1;rw[hi] at f1;cases f1;rw[hz] at f2;cases f2;have e1:=Za3 hE hl;have e2:=Za3 hE hc;simp only[vl,Option.some.injEq] at e1 e2;have h1:=Nat.le_of_ble_eq_true h1;have h2:=Nat.le_of_ble_eq_true h2;have h3:=Nat.le_of_ble_eq_true h3;rw[<-e1,<-e2]
     have hrun:=run_make (P:=P) w t e i z hu hi hz kl kc (l':Int) (c':Int) (by omega) (by omega) (by
      simp only at h2
      have:((i.bytes*c':Nat):Int)<=281474976710656:=by rw[hib];omega
      simpa using this) (by omega)
     have hm:madeCells z.cells ((c':Int).toNat*i.size)=(repL c' z.cells.toList).toArray:=by
      have:=Zhe z.cells c' (by omega);unfold madeCells;rw[gC,hik,<-hzk];exact this
     rw[hm] at hrun;obtain⟨σ',k1,k2,k3⟩:=h.new (e:=e) (Zfd f3 c') hf;refine⟨_,_,hrun,hK σ' _ _ k1 k2 ?_⟩;simp only[vl,k3];rfl
    ·cases hx
   ·cases hx
  ·cases hx
 |call c=>
  simp only[ho] at hx ⊢;split at hx
  ·rename_i f hc;simp only[hc];unfold eFn at hx;split at hx
   ·rename_i k hk;rw[<-hk] at hx;obtain⟨g1,g2⟩:=Zzl h hx (λl hl=>Zaf hE hl) hK;rw[g1];exact g2
   ·split at hx
    ·rename_i xs hxs;obtain⟨g1,g2⟩:=hcall f xs s x s' hx σ w _ h (Zaf hE hxs) K hK;rw[g1];exact g2
    ·cases hx
  ·rename_i f hnf hc;unfold eVl at hx;split at hx
   ·rename_i g a q xs hf hxs;obtain⟨us,vs,e1,e2,e3⟩:=vl_fs (Za3 hE hf);obtain⟨_,g2⟩:=hcall g _ s x s' hx σ w _ h (Zfg (Zfg e2 (Zaf hE hxs)) e3) K hK
    have key:Inv P (do let d <-Deferred.ofValue (r.ev f) (amap r.ev c.args);invoke d.target d.args) w K:=by
     refine⟨g,_,?_,g2.2⟩;rw[e1];have:=g2.1;simp only[Deferred.ofValue,Sem.run_bind,Sem.run_pure,Result.andThen_ok,invoke];unfold amap;simpa using this
    cases f with
    |func f=>exact (hnf f rfl).elim
    |_=>simp only[hc];exact key
   ·cases hx
  ·rename_i q name hc;unfold eIv at hx;split at hx
   ·rename_i t y xs hq hxs;split at hx
    ·rename_i g hg;obtain⟨v,e1,e2⟩:=Zfr (Za3 hE hq);obtain⟨_,g2⟩:=hcall g _ s x s' hx σ w _ h (Zbo e2 (Zaf hE hxs)) K hK;simp only[hc];refine⟨g,_,?_,g2.2⟩;rw[e1];have:=g2.1;simp only[invoke]
     have hz:(#[Value.iface t v]++amap r.ev c.args)[0]?=some (.iface t v):=by unfold amap;simp
     rw[hz];simp only[callMethod,Sem.run_bind,run_program,Result.andThen_ok];rw[show P.types.size+Made.depth=(P.types.size+(Made.depth - 1))+1 from rfl,Zvc hg];simp only[Result.andThen_ok];unfold amap;simpa using this
    ·cases hx
   ·cases hx
  ·rename_i hc;simp only[hc];exact Zzv h hx (λl hl=>Zaf hE hl) hK
  ·rename_i hc;simp only[hc];refine Yc7 h hx (λl hl=>?_) hK;exact Zaf hE hl
  ·rename_i hc;simp only[hc];exact Yaa h hx (λl hl=>Zaf hE hl) hK
  ·rename_i hc;simp only[hc];unfold eUsd at hx;split at hx
   ·rename_i z hz;simp only[Option.some.injEq,Prod.mk.injEq] at hx;obtain⟨rfl,rfl⟩:=hx;exact Yb5 hz (λl hl=>Zaf hE hl) λv hv=>hK σ w v (Ext.refl _) h hv
   ·cases hx
  ·rename_i hc;simp only[hc];exact Yav h hx (λl hl=>Zaf hE hl) hK
  ·rename_i y z hc hxs;simp only[hc];obtain⟨v1,vs1,e1,e2,e3⟩:=Za6 (Zaf hE hxs);obtain⟨v2,vs2,e4,e5,rfl⟩:=Za6 e2;simp only[vls,Option.some.injEq] at e5;subst e5
   have ha:amap r.ev c.args=#[v1,v2]:=by unfold amap;rw[e3]
   rw[ha];split at hx
   ·rename_i t tx hat;rw[hat];exact Yb2 h hx e1 e4 hK
   ·cases hx
  ·cases hx
 |_=>simp only[ho] at hx;cases hx
end
end Go.Ev
/- A verified evaluator for closed calls, eighth part: regions. No program in sight. -/
namespace Go.Ev
open Go Go.Vc
noncomputable section
variable {P:Program}{base:Bs}{w0:World}{σ:Sg}{s:St}{w w':World}{ρ:T X}{r:Env}{n:Nat}
theorem EnvR.ext {σ':Sg}(h:EnvR σ ρ r) (hx:Ext σ σ'):EnvR σ' ρ r:=λt x ht=>Zfo hx _ _ (h t x ht)
theorem EnvR.set (h:EnvR σ ρ r){k d:Nat}{x:X}{v:Value}(hv:vl σ x=some v):EnvR σ (T.set k ρ d d x) (r.set d v):=by
 intro t y ht;rw[Env.get_set];rcases T.get_set k ρ d d x t t y (λe=>e) ht with⟨rfl,rfl⟩|⟨h1,h2⟩
 ·rw[if_pos rfl];exact hv
 ·rw[if_neg (λe=>h1 e.symm)];exact h t y h2
theorem EnvR.same {d:Nat}{v:Value}(h:EnvR σ ρ r) (hv:r.get d=v):EnvR σ ρ (r.set d v):=by
 intro t y ht;rw[Env.get_set];split
 ·rename_i e;subst e;rw[<-hv];exact h _ y ht
 ·exact h t y ht
def dep (n:Nat):Nat:=Nat.succ (Nat.log2 n)
def xput (n:Nat) (ρ:T X) (dst:Option Nat) (x:X):Option (T X):=match dst with
 |none=>some ρ
 |some d=>(match Nat.blt d n with
  |true=>some (T.set (dep n) ρ d d x)
  |false=>none)
def condOk (ops:List Oper) (i:Nat) (dst:Option Nat) (x:X):Bool:=match isCond ops i,dst,x with
 |true,some _,.b _=>true
 |true,some _,_=>false
 |_,_,_=>true
def xdone (n:Nat) (ops:List Oper) (i:Nat) (dst:Option Nat) (x:X) (ρ:T X):Option (T X):=match condOk ops i dst x with
 |true=>xput n ρ dst x
 |false=>none
theorem Znj {dst:Option Nat}{x:X}{ρ':T X}{v:Value}{K:Env->Prop}(h:xput n ρ dst x=some ρ') (hE:EnvR σ ρ r) (hv:vl σ x=some v) (hK:∀ r',EnvR σ ρ' r'->(∀ d,dst=some d->r'.get d=v)->K r'):r.put n dst v K:=by
 unfold xput at h;unfold Env.put
 cases dst with
 |none=>obtain rfl:=Option.some.inj h;exact hK _ hE (λd hd=>by cases hd)
 |some d=>
  simp only at h ⊢
  cases hb:Nat.blt d n with
  |false=>rw[hb] at h;cases h
  |true=>
   rw[hb] at h;obtain rfl:=Option.some.inj h;exact hK _ (hE.set hv) (λd' hd=>by obtain rfl:=Option.some.inj hd;rw[Env.get_set,if_pos rfl])
theorem Zew {ops:List Oper}{i:Nat}{dst:Option Nat}{x:X}{ρ':T X}{v:Value}{K:Env->World->Prop}(h:xdone n ops i dst x ρ=some ρ') (hE:EnvR σ ρ r) (hv:vl σ x=some v) (hK:∀ r',EnvR σ ρ' r'->K r' w) :
  r.put n dst v λr'=>parting ops i dst K r' w:=by
 unfold xdone at h
 cases hc:condOk ops i dst x with
 |false=>rw[hc] at h;cases h
 |true=>
  rw[hc] at h;refine Znj h hE hv λr' hr hd=>?_;unfold parting;unfold condOk at hc
  cases hi:isCond ops i with
  |false=>exact hK r' hr
  |true=>
   cases dst with
   |none=>exact hK r' hr
   |some d=>
    rw[hi] at hc
    cases x with
    |b c=>
     simp only[vl,Option.some.injEq] at hv;have hdv:=hd d rfl;simp only;rw[hdv,<-hv];rw[<-hv] at hdv
     cases c with
     |true=>exact hK _ (hr.same hdv)
     |false=>exact hK _ (hr.same hdv)
    |_=>cases hc
def xgd (ops:List Oper) (ρ:T X) (o:Oper):Option Bool:=match o.guard with
 |none=>some true
 |some (j,want)=>(match (nth ops j).bind (·.dst) with
  |none=>none
  |some d=>(match ρ.get d d,want with
   |some (.b true),true|some (.b false),false=>some true
   |some (.b true),false|some (.b false),true|some (.t _),_=>some false
   |_,_=>none))
def xop1 (P:Program) (st:Bool) (call:FuncId->List X->St->Option (X × St)) (n:Nat) (ops:List Oper) (i:Nat) (o:Oper) (ρ:T X) (s:St):Option (T X × St):=match xgd ops ρ o with
 |some true=>(match xval P ρ s o with
  |some x=>(match xdone n ops i o.dst x ρ with
   |some ρ'=>some (ρ',s)
   |none=>none)
  |none=>(match xeff P st call ρ s o with
   |some (x,s')=>(match xdone n ops i o.dst x ρ with
    |some ρ'=>some (ρ',s')
    |none=>none)
   |none=>none))
 |some false=>(match xput n ρ o.dst undX with
  |some ρ'=>some (ρ',s)
  |none=>none)
 |none=>none
def xops (P:Program) (st:Bool) (call:FuncId->List X->St->Option (X × St)) (n:Nat) (ops:List Oper):List Oper->Nat->T X->St->Option (T X × St)
 |[],_,ρ,s=>some (ρ,s)
 |o::l,i,ρ,s=>match xop1 P st call n ops i o ρ s with
  |some (ρ',s')=>xops P st call n ops l (i+1) ρ' s'
  |none=>none
def FinE (P:Program) (base:Bs) (w0:World) (σ:Sg) (ρ':T X) (s':St) (K:Env->World->Prop):Prop:=∀ σ' w' r',Ext σ σ'->Wo P base w0 σ' s' w'->EnvR σ' ρ' r'->K r' w'
theorem Zso {ops:List Oper}{o:Oper}{c:Bool}(hE:EnvR σ ρ r) (h:xgd ops ρ o=some c){A:Prop}{B:Nat->Value->Bool->Prop}
  (hg:(o.guard=none/\c=true)\/(∃ j want d,o.guard=some (j,want)/\(nth ops j).bind (·.dst)=some d/\
   ((c=true/\(r.get d=.bool true/\want=true\/r.get d=.bool false/\want=false))\/(c=false/\(r.get d=.bool true/\want=false\/r.get d=.bool false/\want=true\/∃ l,r.get d=.tuple l))))->A):A:=by
 apply hg;unfold xgd at h
 cases hgd:o.guard with
 |none=>rw[hgd] at h;exact .inl ⟨rfl,(Option.some.inj h).symm⟩
 |some q=>
  obtain⟨j,want⟩:=q;rw[hgd] at h;simp only at h
  cases hd:(nth ops j).bind (·.dst) with
  |none=>rw[hd] at h;cases h
  |some d=>
   rw[hd] at h;simp only at h;refine .inr ⟨j,want,d,rfl,hd,?_⟩
   cases hr:ρ.get d d with
   |none=>rw[hr] at h;cases h
   |some x=>
    rw[hr] at h;have hv:=hE d x hr
    cases x with
    |b c'=>
     simp only[vl,Option.some.injEq] at hv
     cases c' <;> cases want <;> simp only[Option.some.injEq] at h <;> subst h
     ·exact .inl ⟨rfl,.inr ⟨hv.symm,rfl⟩⟩
     ·exact .inr ⟨rfl,.inr (.inl ⟨hv.symm,rfl⟩)⟩
     ·exact .inr ⟨rfl,.inl ⟨hv.symm,rfl⟩⟩
     ·exact .inl ⟨rfl,.inl ⟨hv.symm,rfl⟩⟩
    |t xs=>
     simp only[Option.some.injEq] at h;subst h;simp only[vl] at hv
     cases hs:vls σ xs with
     |none=>rw[hs] at hv;cases hv
     |some vs=>rw[hs] at hv;exact .inr ⟨rfl,.inr (.inr ⟨_,(Option.some.inj hv).symm⟩)⟩
    |_=>cases h
theorem Ya9 {call:FuncId->List X->St->Option (X × St)}(hcall:CallOk P base w0 call){ops:List Oper}{i:Nat}{o:Oper}(h:Wo P base w0 σ s w) (hE:EnvR σ ρ r){ρ':T X}{s':St}(st:Bool) (hx:xop1 P st call n ops i o ρ s=some (ρ',s')){K:Env->World->Prop}
  (hK:FinE P base w0 σ ρ' s' K):vcG P st n ops i o r w K:=by
 unfold xop1 at hx
 have run:(match xval P ρ s o with
   |some x=>(match xdone n ops i o.dst x ρ with
    |some ρ'=>some (ρ',s)
    |none=>none)
   |none=>(match xeff P st call ρ s o with
    |some (x,s')=>(match xdone n ops i o.dst x ρ with
     |some ρ'=>some (ρ',s')
     |none=>none)
    |none=>none))=some (ρ',s')->vcOp P st r.ev o w λv w'=>r.put n o.dst v λr'=>parting ops i o.dst K r' w':=by
  intro hx
  cases hv:xval P ρ s o with
  |some x=>
   rw[hv] at hx;simp only at hx
   cases hd:xdone n ops i o.dst x ρ with
   |none=>rw[hd] at hx;cases hx
   |some ρ1=>
    rw[hd] at hx;simp only[Option.some.injEq,Prod.mk.injEq] at hx;obtain⟨rfl,rfl⟩:=hx;exact Zcw h.mem hE hv st λv hvv=>Zew hd hE hvv λr' hr=>hK σ w r' (Ext.refl _) h hr
  |none=>
   rw[hv] at hx;simp only at hx
   cases he:xeff P st call ρ s o with
   |none=>rw[he] at hx;cases hx
   |some q=>
    obtain⟨x,s1⟩:=q;rw[he] at hx;simp only at hx
    cases hd:xdone n ops i o.dst x ρ with
    |none=>rw[hd] at hx;cases hx
    |some ρ1=>
     rw[hd] at hx;simp only[Option.some.injEq,Prod.mk.injEq] at hx;obtain⟨rfl,rfl⟩:=hx;exact Zkb hcall h hE st he λσ' w' v hxt hw hvv=>Zew hd (hE.ext hxt) hvv λr' hr=>hK σ' w' r' hxt hw hr
 have skip:(match xput n ρ o.dst undX with
   |some ρ'=>some (ρ',s)
   |none=>none)=some (ρ',s')->r.put n o.dst undef λr'=>K r' w:=by
  intro hx
  cases hd:xput n ρ o.dst undX with
  |none=>rw[hd] at hx;cases hx
  |some ρ1=>
   rw[hd] at hx;simp only[Option.some.injEq,Prod.mk.injEq] at hx;obtain⟨rfl,rfl⟩:=hx;exact Znj hd hE rfl λr' hr _=>hK σ w r' (Ext.refl _) h hr
 cases hg:xgd ops ρ o with
 |none=>rw[hg] at hx;cases hx
 |some c=>
  rw[hg] at hx;unfold vcG;refine Zso (B:=λ_ _ _=>True) hE hg λhgd=>?_;rcases hgd with⟨h1,rfl⟩|⟨j,want,d,h1,h2,h3⟩
  ·rw[h1];exact run hx
  ·rw[h1];simp only[h2];rcases h3 with⟨rfl,⟨h4,rfl⟩|⟨h4,rfl⟩⟩|⟨rfl,⟨h4,rfl⟩|⟨h4,rfl⟩|⟨l,h4⟩⟩
   ·rw[h4];exact run hx
   ·rw[h4];exact run hx
   ·rw[h4];exact skip hx
   ·rw[h4];exact skip hx
   ·rw[h4];exact skip hx
theorem Zn4 {call:FuncId->List X->St->Option (X × St)}(hcall:CallOk P base w0 call){ops:List Oper}(st:Bool):∀ (l:List Oper) (i:Nat){σ:Sg}{ρ:T X}{s:St}{w:World}{r:Env}{ρ':T X}{s':St}{K:Env->World->Prop},
  Wo P base w0 σ s w->EnvR σ ρ r->xops P st call n ops l i ρ s=some (ρ',s')->FinE P base w0 σ ρ' s' K->vcOps P st n ops l i r w K
 |[],i,σ,ρ,s,w,r,ρ',s',K,h,hE,hx,hK=>by
  simp only[xops,Option.some.injEq,Prod.mk.injEq] at hx;obtain⟨rfl,rfl⟩:=hx;exact hK σ w r (Ext.refl _) h hE
 |o::l,i,σ,ρ,s,w,r,ρ',s',K,h,hE,hx,hK=>by
  simp only[xops] at hx
  cases h1:xop1 P st call n ops i o ρ s with
  |none=>rw[h1] at hx;cases hx
  |some q=>
   obtain⟨ρ1,s1⟩:=q;rw[h1] at hx;refine Ya9 hcall h hE st h1 λσ' w' r' hxt hw hr=>?_;exact Zn4 hcall st l (i+1) hw hr hx λσ2 w2 r2 hxt2 hw2 hr2=>hK σ2 w2 r2 (hxt.trans hxt2) hw2 hr2
mutual
def eqX:X->X->Bool
 |.b a,.b c=>a==c
 |.i k a,.i k' c=>decide (k=k')&&decide (a=c)
 |.s a,.s c=>decide (a=c)
 |.p a,.p c=>decide (a=c)
 |.l a m c,.l a' m' c'=>decide (a=a')&&(Nat.beq m m'&&Nat.beq c c')
 |.ni,.ni=>true
 |.nf,.nf=>true
 |.fc t x,.fc t' y=>Nat.beq t t'&&eqX x y
 |.m a,.m c=>decide (a=c)
 |.f fn a c,.f fn' a' c'=>decide (fn=fn')&&(eqXs a a'&&eqXs c c')
 |.e0 a m c,.e0 a' m' c'=>Nat.beq a a'&&(Nat.beq m m'&&Nat.beq c c')
 |.g a,.g c=>eqXs a c
 |.t a,.t c=>eqXs a c
 |_,_=>false
def eqXs:List X->List X->Bool
 |[],[]=>true
 |x::a,y::c=>eqX x y&&eqXs a c
 |_,_=>false
end
mutual
theorem Zel:∀ (x y:X),eqX x y=true->x=y
 |.b a,y,h=>by cases y <;> simp[eqX] at h;subst h;rfl
 |.i k a,y,h=>by cases y <;> simp[eqX] at h;obtain⟨rfl,rfl⟩:=h;rfl
 |.s a,y,h=>by cases y <;> simp[eqX] at h;subst h;rfl
 |.p a,y,h=>by cases y <;> simp[eqX] at h;subst h;rfl
 |.l a m c,y,h=>by cases y <;> simp[eqX] at h;obtain⟨rfl,rfl,rfl⟩:=h;rfl
 |.ni,y,h=>by cases y <;> simp[eqX] at h;rfl
 |.nf,y,h=>by cases y <;> simp[eqX] at h;rfl
 |.fc t x,y,h=>by
  cases y with
  |fc t' y=>
   simp only[eqX,Bool.and_eq_true] at h;rw[Nat.eq_of_beq_eq_true h.1,Zel x y h.2]
  |_=>simp[eqX] at h
 |.m a,y,h=>by cases y <;> simp[eqX] at h;subst h;rfl
 |.e0 a m c,y,h=>by cases y <;> simp[eqX] at h;obtain⟨rfl,rfl,rfl⟩:=h;rfl
 |.f fn a c,y,h=>by
  cases y with
  |f fn' a' c'=>
   simp only[eqX,Bool.and_eq_true,decide_eq_true_eq] at h;rw[h.1,Zd6 a a' h.2.1,Zd6 c c' h.2.2]
  |_=>simp[eqX] at h
 |.g a,y,h=>by
  cases y with
  |g c=>simp only[eqX] at h;rw[Zd6 a c h]
  |_=>simp[eqX] at h
 |.t a,y,h=>by
  cases y with
  |t c=>simp only[eqX] at h;rw[Zd6 a c h]
  |_=>simp[eqX] at h
theorem Zd6:∀ (x y:List X),eqXs x y=true->x=y
 |[],y,h=>by cases y <;> simp[eqXs] at h;rfl
 |x::a,y,h=>by
  cases y with
  |nil=>simp[eqXs] at h
  |cons z c=>
   simp only[eqXs,Bool.and_eq_true] at h;rw[Zel x z h.1,Zd6 a c h.2]
end
def pastOk (P:Program) (ρ:T X) (o:Oper) (b:Nat->Bool) (x:X):List (Nat × St)->Bool
 |[]=>true
 |(e,s)::l=>match b e with
  |true=>pastOk P ρ o b x l
  |false=>(match xval P ρ s o with
   |some y=>(match eqX y x with
    |true=>pastOk P ρ o b x l
    |false=>false)
   |none=>false)
def pendOk (P:Program) (s:St) (b:Nat->Bool):List (Nat × Oper × T X × X)->Bool
 |[]=>true
 |(k,o,ρ,x)::l=>match b k with
  |true=>pendOk P s b l
  |false=>(match xval P ρ s o with
   |some y=>(match eqX y x with
    |true=>pendOk P s b l
    |false=>false)
   |none=>false)
abbrev NodeOf (P:Program) (r:Env) (o:Oper):Vc.Node:=λu K=>vcOp P true r.ev o u λv _=>K v
def PastR (P:Program) (base:Bs) (σ:Sg):List (Nat × St)->List (Nat × World)->Prop
 |[],[]=>True
 |(e,s)::l,(e',w)::l'=>e=e'/\Mem P base σ s w/\PastR P base σ l l'
 |_,_=>False
def PendR (P:Program) (σ:Sg):List (Nat × Oper × T X × X)->List (Nat × Vc.Node × Value)->Prop
 |[],[]=>True
 |(k,o,ρ,x)::l,(k',N,v)::l'=>k=k'/\(∃ r,EnvR σ ρ r/\N=NodeOf P r o/\vl σ x=some v)/\PendR P σ l l'
 |_,_=>False
theorem PastR.ext {σ':Sg}(hx:Ext σ σ'):∀ {l:List (Nat × St)}{l':List (Nat × World)},PastR P base σ l l'->PastR P base σ' l l'
 |[],[],_=>trivial
 |(e,s)::l,(e',w)::l',⟨h1,h2,h3⟩=>⟨h1,h2.ext hx,PastR.ext hx h3⟩
theorem PendR.ext {σ':Sg}(hx:Ext σ σ'):∀ {l:List (Nat × Oper × T X × X)}{l':List (Nat × Vc.Node × Value)},PendR P σ l l'->PendR P σ' l l'
 |[],[],_=>trivial
 |(k,o,ρ,x)::l,(k',N,v)::l',⟨h1,⟨r,h2,h3,h4⟩,h5⟩=>⟨h1,⟨r,h2.ext hx,h3,Zfo hx _ _ h4⟩,PendR.ext hx h5⟩
theorem Zu2 {b:Nat->Bool}{o:Oper}{x:X}{v:Value}{A:Prop}(hE:EnvR σ ρ r) (hv:vl σ x=some v) (hA:A):∀ {l:List (Nat × St)}{l':List (Nat × World)},PastR P base σ l l'->pastOk P ρ o b x l=true->Pks b l' (NodeOf P r o) v A
 |[],[],_,_=>hA
 |(e,s)::l,(e',w)::l',⟨h1,h2,h3⟩,h=>by
  subst h1;simp only[pastOk] at h;simp only[Pks]
  cases hb:b e with
  |true=>rw[hb] at h;exact Zu2 hE hv hA h3 h
  |false=>
   rw[hb] at h;simp only at h ⊢
   cases hy:xval P ρ s o with
   |none=>rw[hy] at h;cases h
   |some y=>
    rw[hy] at h;simp only at h
    cases he:eqX y x with
    |false=>rw[he] at h;cases h
    |true=>
     rw[he] at h;obtain rfl:=Zel y x he;refine⟨Zcw h2 hE hy true λu hu=>?_,Zu2 hE hv hA h3 h⟩;rw[hv] at hu;exact (Option.some.inj hu).symm
theorem Zl1 {b:Nat->Bool}{A:Prop}(hM:Mem P base σ s w) (hA:A):∀ {l:List (Nat × Oper × T X × X)}{l':List (Nat × Vc.Node × Value)},PendR P σ l l'->pendOk P s b l=true->Rks b l' w A
 |[],[],_,_=>hA
 |(k,o,ρ,x)::l,(k',N,v)::l',⟨h1,⟨r,h2,h3,h4⟩,h5⟩,h=>by
  subst h1;subst h3;simp only[pendOk] at h;simp only[Rks]
  cases hb:b k with
  |true=>rw[hb] at h;exact Zl1 hM hA h5 h
  |false=>
   rw[hb] at h;simp only at h ⊢
   cases hy:xval P ρ s o with
   |none=>rw[hy] at h;cases h
   |some y=>
    rw[hy] at h;simp only at h
    cases he:eqX y x with
    |false=>rw[he] at h;cases h
    |true=>
     rw[he] at h;obtain rfl:=Zel y x he;refine⟨Zcw hM h2 hy true λu hu=>?_,Zl1 hM hA h5 h⟩;rw[h4] at hu;exact (Option.some.inj hu).symm
def xst (P:Program) (call:FuncId->List X->St->Option (X × St)) (n:Nat) (ops:List Oper) (b:Nat->Nat->Bool):List Oper->Nat->List (Nat × Oper × T X × X)->List (Nat × St)->T X->St->Option (T X × St)
 |[],_,_,_,ρ,s=>some (ρ,s)
 |o::l,i,pend,past,ρ,s=>match xgd ops ρ o with
  |some true=>(match stillOp o.op with
   |true=>(match xval P ρ s o with
    |some x=>(match xdone n ops i o.dst x ρ with
     |some ρ'=>(match blind P o with
      |true=>xst P call n ops b l (i+1) pend past ρ' s
      |false=>(match pastOk P ρ o (b i) x past with
       |true=>xst P call n ops b l (i+1) ((i,o,ρ,x)::pend) past ρ' s
       |false=>none))
     |none=>none)
    |none=>none)
   |false=>(match xeff P false call ρ s o with
    |some (x,s')=>(match pendOk P s' (b i) pend,xdone n ops i o.dst x ρ with
     |true,some ρ'=>xst P call n ops b l (i+1) pend ((i,s)::past) ρ' s'
     |_,_=>none)
    |none=>none))
  |some false=>(match xput n ρ o.dst undX with
   |some ρ'=>xst P call n ops b l (i+1) pend past ρ' s
   |none=>none)
  |none=>none
theorem Zli {call:FuncId->List X->St->Option (X × St)}(hcall:CallOk P base w0 call){ops:List Oper}{b:Nat->Nat->Bool}:∀ (l:List Oper) (i:Nat){pend:List (Nat × Oper × T X × X)}{past:List (Nat × St)}{pend':List (Nat × Vc.Node × Value)}{past':List (Nat × World)}{σ:Sg}{ρ:T X}{s:St}{w:World}{r:Env}{ρ':T X}{s':St}{K:Env->World->Prop},
  Wo P base w0 σ s w->EnvR σ ρ r->PendR P σ pend pend'->PastR P base σ past past'->xst P call n ops b l i pend past ρ s=some (ρ',s')->FinE P base w0 σ ρ' s' K->vcSt P n ops b l i pend' past' r w K
 |[],i,pend,past,pend',past',σ,ρ,s,w,r,ρ',s',K,h,hE,_,_,hx,hK=>by
  simp only[xst,Option.some.injEq,Prod.mk.injEq] at hx;obtain⟨rfl,rfl⟩:=hx;exact hK σ w r (Ext.refl _) h hE
 |o::l,i,pend,past,pend',past',σ,ρ,s,w,r,ρ',s',K,h,hE,hP,hQ,hx,hK=>by
  simp only[xst] at hx;rw[vcSt];unfold stG
  cases hg:xgd ops ρ o with
  |none=>rw[hg] at hx;cases hx
  |some c=>
   rw[hg] at hx
   have skip:c=false->r.put n o.dst undef λr'=>vcSt P n ops b l (i+1) pend' past' r' w K:=by
    rintro rfl;simp only at hx
    cases hd:xput n ρ o.dst undX with
    |none=>rw[hd] at hx;cases hx
    |some ρ1=>
     rw[hd] at hx;exact Znj hd hE rfl λr' hr _=>Zli hcall l (i+1) h hr hP hQ hx hK
   have exec:c=true->stEx P n ops b i o pend' past' r w λpend' past' ρ' w'=>vcSt P n ops b l (i+1) pend' past' ρ' w' K:=by
    rintro rfl;simp only at hx;unfold stEx
    cases hs:stillOp o.op with
    |true=>
     rw[hs] at hx;simp only at hx ⊢
     cases hv:xval P ρ s o with
     |none=>rw[hv] at hx;cases hx
     |some x=>
      rw[hv] at hx;simp only at hx
      cases hd:xdone n ops i o.dst x ρ with
      |none=>rw[hd] at hx;cases hx
      |some ρ1=>
       rw[hd] at hx;simp only at hx
       cases hbl:blind P o with
       |true=>
        rw[hbl] at hx;exact Zcw h.mem hE hv true λv hvv=>Zew hd hE hvv λr' hr=>Zli hcall l (i+1) h hr hP hQ hx hK
       |false=>
        rw[hbl] at hx;simp only at hx ⊢
        cases hpo:pastOk P ρ o (b i) x past with
        |false=>rw[hpo] at hx;cases hx
        |true=>
         rw[hpo] at hx;refine Zcw h.mem hE hv true λv hvv=>?_;refine Zu2 (σ:=σ) (x:=x) hE hvv ?_ hQ hpo;exact Zew hd hE hvv λr' hr=>Zli hcall l (i+1) (pend:=(i,o,ρ,x)::pend) h hr ⟨rfl,⟨r,hE,rfl,hvv⟩,hP⟩ hQ hx hK
    |false=>
     rw[hs] at hx;simp only at hx ⊢
     cases he:xeff P false call ρ s o with
     |none=>rw[he] at hx;cases hx
     |some q=>
      obtain⟨x,s1⟩:=q;rw[he] at hx;simp only at hx
      cases hpe:pendOk P s1 (b i) pend with
      |false=>rw[hpe] at hx;cases hx
      |true=>
       cases hd:xdone n ops i o.dst x ρ with
       |none=>rw[hpe,hd] at hx;cases hx
       |some ρ1=>
        rw[hpe,hd] at hx;refine Zkb hcall h hE false he λσ' w' v hxt hw hvv=>?_;refine Zl1 hw.mem ?_ (hP.ext hxt) hpe;exact Zew hd (hE.ext hxt) hvv λr' hr=>Zli hcall l (i+1) (past:=(i,s)::past) hw hr (hP.ext hxt) ⟨rfl,h.mem.ext hxt,hQ.ext hxt⟩ hx λσ2 w2 r2 hxt2 hw2 hr2=>hK σ2 w2 r2 (hxt.trans hxt2) hw2 hr2
   refine Zso (B:=λ_ _ _=>True) hE hg λhgd=>?_;rcases hgd with⟨h1,h2⟩|⟨j,want,d,h1,h2,h3⟩
   ·rw[h1];exact exec h2
   ·rw[h1];simp only[h2];rcases h3 with⟨h5,⟨h4,rfl⟩|⟨h4,rfl⟩⟩|⟨h5,⟨h4,rfl⟩|⟨h4,rfl⟩|⟨l,h4⟩⟩
    ·rw[h4];exact exec h5
    ·rw[h4];exact exec h5
    ·rw[h4];exact skip h5
    ·rw[h4];exact skip h5
    ·rw[h4];exact skip h5
end
end Go.Ev
/- A verified evaluator for closed calls: drawn regions in which effects may change places. No program in sight. -/
namespace Go.Ev
open Go Go.Vc
noncomputable section
variable {P:Program}{base:Bs}{w0:World}{σ:Sg}{s:St}{w w':World}{ρ:T X}{r:Env}{n:Nat}
def oT:Operand->List Nat
 |.tmp t=>[t]
 |_=>[]
def osT:List Operand->List Nat
 |[]=>[]
 |o::l=>oT o++osT l
def psT:List (Nat × Operand)->List Nat
 |[]=>[]
 |p::l=>oT p.2++psT l
def opT:Op->List Nat
 |.box _ x=>oT x
 |.makeSlice _ l c=>oT l++oT c
 |.buildSlice _ _ ps=>psT ps.toList
 |.convert _ _ x=>oT x
 |.store _ a x=>oT a++oT x
 |.mapUpdate _ m k x=>oT m++(oT k++oT x)
 |.insert _ m k x=>oT m++(oT k++oT x)
 |.range _ x=>oT x
 |.next x _=>oT x
 |.makeMap _ (some x)=>oT x
 |.call c=>(match c.callee with
  |.value f=>oT f++osT c.args.toList
  |.invoke q _=>oT q++osT c.args.toList
  |_=>osT c.args.toList)
 |_=>[]
def isFl:Op->Bool
 |.alloc _|.box _ _|.makeSlice ..|.buildSlice ..|.convert ..|.makeMap ..=>true
 |_=>false
abbrev Ts:=List (Nat × X)
def pickT (ρ:T X):List Nat->Option Ts
 |[]=>some []
 |t::l=>match ρ.get t t,pickT ρ l with
  |some x,some r=>some ((t,x)::r)
  |_,_=>none
def ofTs (n:Nat):Ts->T X->T X
 |[],ρ=>ρ
 |p::l,ρ=>T.set (dep n) (ofTs n l ρ) p.1 p.1 p.2
def sameTs (ρ:T X):Ts->Bool
 |[]=>true
 |p::l=>match ρ.get p.1 p.1 with
  |some y=>(match eqX y p.2 with
   |true=>sameTs ρ l
   |false=>false)
  |none=>false
theorem Zgz {ρ:T X}{p:Nat × X}{l:Ts}(h:sameTs ρ (p::l)=true):ρ.get p.1 p.1=some p.2/\sameTs ρ l=true:=by
 simp only[sameTs] at h
 cases hy:ρ.get p.1 p.1 with
 |none=>rw[hy] at h;cases h
 |some y=>
  rw[hy] at h;simp only at h
  cases he:eqX y p.2 with
  |false=>rw[he] at h;cases h
  |true=>rw[he] at h;exact⟨by rw[Zel _ _ he],h⟩
theorem Zst (hE:EnvR σ ρ r){ρ0:T X}:∀ {ts:Ts},sameTs ρ ts=true->(∀ t x,ρ0.get t t=some x->(∀ y,(t,y)∉ts)->vl σ x=some (r.get t))->EnvR σ (ofTs n ts ρ0) r
 |[],_,h0=>λt x h=>h0 t x h (λy hy=>by cases hy)
 |p::l,h,h0=>by
  obtain⟨h1,h2⟩:=Zgz h;intro t y ht;rcases T.get_set _ _ _ _ _ t t y (λe=>e) ht with⟨rfl,rfl⟩|⟨h3,h4⟩
  ·exact hE _ _ h1
  ·have gen:∀ {ts:Ts},sameTs ρ ts=true->∀ t y,(ofTs n ts ρ0).get t t=some y->(∃ z,(t,z)∈ts)/\vl σ y=some (r.get t)\/(∀ z,(t,z)∉ts)/\ρ0.get t t=some y:=by
    intro ts
    induction ts with
    |nil=>intro _ t y hy;exact .inr ⟨(λz hz=>by cases hz),hy⟩
    |cons q l ih=>
     intro hs t y hy;obtain⟨k1,k2⟩:=Zgz hs;rcases T.get_set _ _ _ _ _ t t y (λe=>e) hy with⟨rfl,rfl⟩|⟨k3,k4⟩
     ·exact .inl ⟨⟨q.2,hJ_⟩,hE _ _ k1⟩
     ·rcases ih k2 t y k4 with⟨⟨z,k5⟩,k6⟩|⟨k5,k6⟩
      ·exact .inl ⟨⟨z,hK_ _ k5⟩,k6⟩
      ·refine .inr ⟨λz hz=>?_,k6⟩;rcases mem_cons.1 hz with e|hz
       ·subst e;exact k3 rfl
       ·exact k5 z hz
   rcases gen h2 t y h4 with⟨_,h5⟩|⟨h5,h6⟩
   ·exact h5
   ·refine h0 t y h6 λz hz=>?_;rcases mem_cons.1 hz with e|hz
    ·subst e;exact h3 rfl
    ·exact h5 z hz
theorem Zy8 (hE:EnvR σ ρ r){ts:Ts}(h:sameTs ρ ts=true):EnvR σ (ofTs n ts .e) r:=Zst hE h λt x hx=>by rw[T.get_e] at hx;cases hx
theorem Zix {ρ:T X}:∀ {l:List Nat}{ts:Ts},pickT ρ l=some ts->∀ d∈l,∃ x,(d,x)∈ts
 |t::l,ts,h,d,hd=>by
  simp only[pickT] at h
  cases h1:ρ.get t t with
  |none=>rw[h1] at h;cases h
  |some x=>
   cases h2:pickT ρ l with
   |none=>rw[h1,h2] at h;cases h
   |some r=>
    rw[h1,h2] at h;obtain rfl:=Option.some.inj h;rcases mem_cons.1 hd with rfl|hd
    ·exact⟨x,hJ_⟩
    ·obtain⟨y,hy⟩:=Zix h2 d hd;exact⟨y,hK_ _ hy⟩
inductive Ob where
 |c (q:Blk)
 |m (o:M)
def St.putO (s:St) (b:Nat):Ob->St
 |.c q=>s.put b (some q)
 |.m o=>s.mput b (some o)
def obOf (s:St) (b:Nat):Option Ob:=match s.blk b with
 |some q=>some (.c q)
 |none=>(match s.mo b with
  |some o=>some (.m o)
  |none=>none)
def ObAt (s:St) (b:Nat):Ob->Prop
 |.c q=>s.blk b=some q
 |.m o=>s.mo b=some o
theorem Yaq {s:St}{b:Nat}{ob:Ob}(h:obOf s b=some ob):ObAt s b ob:=by
 unfold obOf at h;split at h
 ·rename_i q hq;obtain rfl:=Option.some.inj h;exact hq
 ·split at h
  ·rename_i o ho;obtain rfl:=Option.some.inj h;exact ho
  ·cases h
structure Fe where
 i:Nat
 ts:Ts
 x:X
 ob:Ob
structure En where
 i:Nat
 ts:Ts
 rv:List Nat
 x:X
 s1:St
def lkF (i:Nat):List Fe->Option Fe
 |[]=>none
 |f::l=>match Nat.beq f.i i with
  |true=>some f
  |false=>lkF i l
theorem Zs5 {i:Nat}{f:Fe}{G:List Fe}:∀ {F:List Fe},lkF i F=some f->lkF i (F++G)=some f
 |g::l,h=>by
  show lkF i (g::(l++G))=some f;simp only[lkF] at h ⊢
  cases hb:Nat.beq g.i i with
  |true=>rw[hb] at h;exact h
  |false=>rw[hb] at h;exact Zs5 (F:=l) h
theorem Zsa {i:Nat}{f:Fe}:∀ {F:List Fe},lkF i F=some f->f∈F/\f.i=i
 |g::l,h=>by
  simp only[lkF] at h
  cases hb:Nat.beq g.i i with
  |true=>
   rw[hb] at h;obtain rfl:=Option.some.inj h;exact⟨hJ_,Nat.eq_of_beq_eq_true hb⟩
  |false=>
   rw[hb] at h;obtain⟨h1,h2⟩:=Zsa (F:=l) h;exact⟨hK_ _ h1,h2⟩
def rvS (F:List Fe) (k0:Nat):List Nat->St->Option St
 |[],s=>some s
 |i::l,s=>match lkF i F with
  |some f=>rvS F k0 l (s.putO (k0+i) f.ob)
  |none=>none
theorem Zt1 {F G:List Fe}{k0:Nat}:∀ {l:List Nat}{s s':St},rvS F k0 l s=some s'->rvS (F++G) k0 l s=some s'
 |[],_,_,h=>h
 |i::l,s,s',h=>by
  simp only[rvS] at h ⊢
  cases hf:lkF i F with
  |none=>rw[hf] at h;cases h
  |some f=>
   rw[hf] at h;rw[Zs5 hf];exact Zt1 (l:=l) h
def memN (i:Nat):List Nat->Bool
 |[]=>false
 |j::l=>match Nat.beq j i with
  |true=>true
  |false=>memN i l
theorem Zj4 {i:Nat}:∀ {l:List Nat},memN i l=true↔i∈l
 |[]=>by simp[memN]
 |j::l=>by
  simp only[memN]
  cases hb:Nat.beq j i with
  |true=>have:=Nat.eq_of_beq_eq_true hb;subst this;simp
  |false=>
   have:=Nat.ne_of_beq_eq_false hb;simp only[Zj4 (l:=l),mem_cons];exact⟨.inr,λh=>h.resolve_left λe=>this e.symm⟩
def rmN (i:Nat):List Nat->List Nat
 |[]=>[]
 |j::l=>match Nat.beq j i with
  |true=>rmN i l
  |false=>j::rmN i l
theorem Zef {i j:Nat}:∀ {l:List Nat},j∈rmN i l↔j∈l/\j≠i
 |[]=>by simp[rmN]
 |k::l=>by
  simp only[rmN]
  cases hb:Nat.beq k i with
  |true=>
   have:=Nat.eq_of_beq_eq_true hb;subst this;simp only[Zef (l:=l),mem_cons];exact⟨λ⟨h1,h2⟩=>⟨.inr h1,h2⟩,λ⟨h1,h2⟩=>⟨h1.resolve_left h2,h2⟩⟩
  |false=>
   have:=Nat.ne_of_beq_eq_false hb;simp only[mem_cons,Zef (l:=l)]
   constructor
   ·rintro (rfl|⟨h1,h2⟩)
    ·exact⟨.inl rfl,this⟩
    ·exact⟨.inr h1,h2⟩
   ·rintro⟨rfl|h1,h2⟩
    ·exact .inl rfl
    ·exact .inr ⟨h1,h2⟩
def rvU:List Nat->List Nat->Option (List Nat)
 |[],U=>some U
 |i::l,U=>match memN i U with
  |true=>rvU l (rmN i U)
  |false=>none
def vwS (F:List Fe) (k0:Nat) (U:List Nat) (s:St):St:=match rvU U U,rvS F k0 U s with
 |some _,some s'=>s'
 |_,_=>s
def dum (m c:Nat):St:=⟨.e,m,c,.e,[]⟩
abbrev CallT0:=FuncId->List X->St->Option (X × St)
def FFact (P:Program) (call:CallT0) (n:Nat) (ops:List Oper) (k0 c:Nat) (f:Fe):Prop:=
 ∃ o s1,nth ops f.i=some o/\xeff P false call (ofTs n f.ts .e) (dum (k0+f.i) c) o=some (f.x,s1)/\ObAt s1 (k0+f.i) f.ob/\s1.n=c/\s1.k=c+1
def Chain (P:Program) (call:CallT0) (n:Nat) (ops:List Oper) (F:List Fe) (k0:Nat):St->List En->St->Prop
 |s,[],z=>s=z
 |s,e::l,z=>(∃ o s',nth ops e.i=some o/\rvS F k0 e.rv s=some s'/\xeff P false call (ofTs n e.ts .e) s' o=some (e.x,e.s1))/\Chain P call n ops F k0 e.s1 l z
abbrev Pl0:=List Fe × List En × List Nat × St × T X
def cpF (f:Fe):Option Pl0->Option Pl0
 |some (G,E,V,z,ρz)=>some (f::G,E,V,z,ρz)
 |none=>none
def cpE (e:En):Option Pl0->Option Pl0
 |some (G,E,V,z,ρz)=>some (G,e::E,V,z,ρz)
 |none=>none
def filN (q:Nat->Bool):List Nat->List Nat
 |[]=>[]
 |i::l=>match q i with
  |true=>i::filN q l
  |false=>filN q l
def cp (P:Program) (call:CallT0) (n:Nat) (ops:List Oper) (b:Nat->Nat->Bool) (k0 c:Nat):List Nat->List Fe->List Nat->T X->St->Option Pl0
 |[],F,U,ρ,s=>some ([],[],U,s,ρ)
 |i::l,F,U,ρ,s=>match nth ops i with
  |none=>none
  |some o=>(match xgd ops ρ o with
   |none=>none
   |some false=>(match xput n ρ o.dst undX with
    |some ρ'=>cp P call n ops b k0 c l F U ρ' s
    |none=>none)
   |some true=>(match stillOp o.op with
    |true=>(match xval P ρ (vwS F k0 U s) o with
     |some x=>(match xdone n ops i o.dst x ρ with
      |some ρ'=>cp P call n ops b k0 c l F U ρ' s
      |none=>none)
     |none=>none)
    |false=>(match pickT ρ (opT o.op) with
     |none=>none
     |some ts=>(match isFl o.op with
      |true=>(match xeff P false call (ofTs n ts .e) (dum (k0+i) c) o with
       |some (x,s1)=>(match obOf s1 (k0+i),Nat.beq s1.n c,Nat.beq s1.k (c+1),xdone n ops i o.dst x ρ with
        |some q,true,true,some ρ'=>cpF ⟨i,ts,x,q⟩ (cp P call n ops b k0 c l (F++[⟨i,ts,x,q⟩]) (U++[i]) ρ' s)
        |_,_,_,_=>none)
       |none=>none)
      |false=>(match rvS F k0 (filN (b i) U) s with
       |some s'=>(match xeff P false call (ofTs n ts .e) s' o with
        |some (x,s1)=>(match xdone n ops i o.dst x ρ with
         |some ρ'=>cpE ⟨i,ts,filN (b i) U,x,s1⟩ (cp P call n ops b k0 c l F (filN (λj=>!(b i j)) U) ρ' s1)
         |none=>none)
        |none=>none)
       |none=>none)))))
theorem Yck {f:Fe}{o:Option Pl0}{G:List Fe}{E:List En}{V:List Nat}{z:St}{ρz:T X}(h:cpF f o=some (G,E,V,z,ρz)):∃ G',o=some (G',E,V,z,ρz)/\G=f::G':=by
 cases o with
 |none=>cases h
 |some q=>
  obtain⟨G',E',V',z',ρ'⟩:=q;simp only[cpF,Option.some.injEq,Prod.mk.injEq] at h;obtain⟨rfl,rfl,rfl,rfl,rfl⟩:=h;exact⟨_,rfl,rfl⟩
theorem Ybs {e:En}{o:Option Pl0}{G:List Fe}{E:List En}{V:List Nat}{z:St}{ρz:T X}(h:cpE e o=some (G,E,V,z,ρz)):∃ E',o=some (G,E',V,z,ρz)/\E=e::E':=by
 cases o with
 |none=>cases h
 |some q=>
  obtain⟨G',E',V',z',ρ'⟩:=q;simp only[cpE,Option.some.injEq,Prod.mk.injEq] at h;obtain⟨rfl,rfl,rfl,rfl,rfl⟩:=h;exact⟨_,rfl,rfl⟩
theorem cp_ok {call:CallT0}{ops:List Oper}{b:Nat->Nat->Bool}{k0 c:Nat}:∀ {l:List Nat}{F:List Fe}{U:List Nat}{ρ:T X}{s:St}{G:List Fe}{E:List En}{V:List Nat}{z:St}{ρz:T X},
  cp P call n ops b k0 c l F U ρ s=some (G,E,V,z,ρz)->Chain P call n ops (F++G) k0 s E z/\∀ f∈G,FFact P call n ops k0 c f
 |[],F,U,ρ,s,G,E,V,z,ρz,h=>by
  simp only[cp,Option.some.injEq,Prod.mk.injEq] at h;obtain⟨rfl,rfl,rfl,rfl,rfl⟩:=h;exact⟨rfl,λf hf=>by cases hf⟩
 |i::l,F,U,ρ,s,G,E,V,z,ρz,h=>by
  simp only[cp] at h
  cases ho:nth ops i with
  |none=>rw[ho] at h;cases h
  |some o=>
   rw[ho] at h;simp only at h;split at h
   ·cases h
   ·split at h
    ·exact cp_ok h
    ·cases h
   ·split at h
    ·split at h
     ·split at h
      ·exact cp_ok h
      ·cases h
     ·cases h
    ·split at h
     ·cases h
     ·rename_i ts hts;split at h
      ·split at h
       ·rename_i x s1 hx;split at h
        ·rename_i q ρ' hq h1 h2 hd;obtain⟨G',h3,rfl⟩:=Yck h;obtain⟨g1,g2⟩:=cp_ok h3;rw[gI] at g1;refine⟨g1,λf hf=>?_⟩;rcases mem_cons.1 hf with rfl|hf
         ·exact⟨o,s1,ho,hx,Yaq hq,Nat.eq_of_beq_eq_true h1,Nat.eq_of_beq_eq_true h2⟩
         ·exact g2 f hf
        ·cases h
       ·cases h
      ·split at h
       ·rename_i s' hs';split at h
        ·rename_i x s1 hx;split at h
         ·obtain⟨E',h3,rfl⟩:=Ybs h;obtain⟨g1,g2⟩:=cp_ok h3;exact⟨⟨⟨o,s',ho,Zt1 hs',hx⟩,g1⟩,g2⟩
         ·cases h
        ·cases h
       ·cases h
def pastT (P:Program) (ρ:T X) (o:Oper) (b:Nat->Bool) (x:X):List (Nat × St)->Bool
 |[]=>true
 |(e,s)::l=>match b e with
  |true=>true
  |false=>(match xval P ρ s o with
   |some y=>(match eqX y x with
    |true=>pastT P ρ o b x l
    |false=>false)
   |none=>false)
theorem Zrh {b:Nat->Bool}{o:Oper}{x:X}{v:Value}{A:Prop}(hE:EnvR σ ρ r) (hv:vl σ x=some v) (hA:A):∀ {l:List (Nat × St)}{l':List (Nat × World)},PastR P base σ l l'->pastT P ρ o b x l=true->PksT b l' (NodeOf P r o) v A
 |[],[],_,_=>hA
 |(e,s)::l,(e',w)::l',⟨h1,h2,h3⟩,h=>by
  subst h1;simp only[pastT] at h;simp only[PksT]
  cases hb:b e with
  |true=>exact hA
  |false=>
   rw[hb] at h;simp only at h ⊢
   cases hy:xval P ρ s o with
   |none=>rw[hy] at h;cases h
   |some y=>
    rw[hy] at h;simp only at h
    cases he:eqX y x with
    |false=>rw[he] at h;cases h
    |true=>
     rw[he] at h;obtain rfl:=Zel y x he;refine⟨Zcw h2 hE hy true λu hu=>?_,Zrh hE hv hA h3 h⟩;rw[hv] at hu;exact (Option.some.inj hu).symm
def tw (P:Program) (n:Nat) (ops:List Oper) (b:Nat->Nat->Bool) (k0 c:Nat) (F:List Fe) (DL:Ts) (V:List Nat):Tr->List En->List Nat->List Nat->List (Nat × Oper × T X × X)->List (Nat × St)->T X->St->Bool
 |.dn,es,U,_,_,_,ρ,_=>(match es,rvU V U with
  |[],some _=>sameTs ρ DL
  |_,_=>false)
 |.fk x y,es,U,D,pend,past,ρ,s=>(match tw P n ops b k0 c F DL V x es U D pend past ρ s with
  |true=>tw P n ops b k0 c F DL V y es U D pend past ρ s
  |false=>false)
 |.op i t,es,U,D,pend,past,ρ,s=>(match nth ops i with
  |none=>false
  |some o=>(match xgd ops ρ o with
   |none=>false
   |some false=>(match xput n ρ o.dst undX with
    |some ρ'=>tw P n ops b k0 c F DL V t es U D pend past ρ' s
    |none=>false)
   |some true=>(match stillOp o.op with
    |true=>(match xval P ρ (vwS F k0 U s) o with
     |some x=>(match xdone n ops i o.dst x ρ with
      |some ρ'=>(match blind P o with
       |true=>tw P n ops b k0 c F DL V t es U D pend past ρ' s
       |false=>(match pastT P ρ o (b i) x past with
        |true=>tw P n ops b k0 c F DL V t es U D ((i,o,ρ,x)::pend) past ρ' s
        |false=>false))
      |none=>false)
     |none=>false)
    |false=>(match lkF i F with
     |some f=>(match !(memN i D)&&(Nat.blt i ops.length&&(Nat.blt s.n c&&(Nat.beq s.k (s.n+1)&&(sameTs ρ f.ts&&pendOk P (vwS F k0 (i::U) s) (b i) pend)))),xdone n ops i o.dst f.x ρ with
      |true,some ρ'=>tw P n ops b k0 c F DL V t es (i::U) (i::D) pend ((i,vwS F k0 U s)::past) ρ' s
      |_,_=>false)
     |none=>(match es with
      |[]=>false
      |e::es=>(match Nat.beq e.i i&&sameTs ρ e.ts,rvU e.rv U,rvS F k0 e.rv s,xdone n ops i o.dst e.x ρ with
       |true,some U',some s',some ρ'=>(match pendOk P (vwS F k0 U' e.s1) (b i) pend with
        |true=>tw P n ops b k0 c F DL V t es U' D pend ((i,vwS F k0 U s)::past) ρ' e.s1
        |false=>false)
       |_,_,_,_=>false))))))
def maskOf (acc:List Nat):List Edge->Nat->Nat
 |[],m=>m
 |e::l,m=>match Region.binds .any e with
  |true=>maskOf acc l ((m ||| 2^e.on) ||| getN acc e.on)
  |false=>maskOf acc l m
def msOf:List Oper->List Nat->List Nat
 |[],acc=>acc
 |o::l,acc=>msOf l (acc++[maskOf acc o.after.toList 0])
def stL (ms:List Nat):List Oper->Nat->Nat->List Nat × Nat
 |[],_,done=>([],done)
 |o::l,i,done=>match stillOp o.op&&(!(Nat.testBit done i)&&Nat.beq (Nat.land (getN ms i) done) (getN ms i)) with
  |true=>(i::(stL ms l (i+1) (done+2^i)).1,(stL ms l (i+1) (done+2^i)).2)
  |false=>stL ms l (i+1) done
def efL (ms:List Nat) (done:Nat):List Oper->Nat->List Nat
 |[],_=>[]
 |o::l,i=>match !(stillOp o.op)&&(!(Nat.testBit done i)&&Nat.beq (Nat.land (getN ms i) done) (getN ms i)) with
  |true=>i::efL ms done l (i+1)
  |false=>efL ms done l (i+1)
def preT:List Nat->Tr->Tr
 |[],t=>t
 |i::l,t=>.op i (preT l t)
def mkE (f:Nat->Tr) (d:Nat):List Nat->Tr
 |[]=>.dn
 |e::l=>match l with
  |[]=>.op e (f (d+2^e))
  |_::_=>.fk (.op e (f (d+2^e))) (mkE f d l)
def mkQ (ops:List Oper) (ms:List Nat) (f:Nat->Tr) (q:List Nat × Nat):Tr:=preT q.1 (mkE f q.2 (efL ms q.2 ops 0))
def mkT (ops:List Oper) (ms:List Nat):Nat->Nat->Tr
 |0,_=>.dn
 |k+1,done=>mkQ ops ms (mkT ops ms k) (stL ms ops 0 done)
def lfT:Tr->List Nat
 |.dn=>[]
 |.op i t=>i::lfT t
 |.fk a _=>lfT a
def dstsL:List Oper->List Nat
 |[]=>[]
 |o::l=>match o.dst with
  |some d=>d::dstsL l
  |none=>dstsL l
def srT (s:St) (L:Nat):St:=⟨s.h,s.n+L,s.n+L+1,s.m,s.g⟩
def xtrM (P:Program) (call:CallT0) (n:Nat) (ops:List Oper) (b:Nat->Nat->Bool) (t:Tr) (ρ:T X) (s:St):Option (T X × St):=match Nat.beq s.k (s.n+1) with
 |false=>none
 |true=>(match cp P call n ops b s.n 1000000 (lfT t) [] [] ρ (srT s ops.length) with
  |none=>none
  |some (F,E,V,z,ρz)=>(match pickT ρz (dstsL ops),rvS F s.n V z with
   |some DL,some sf=>(match tw P n ops b s.n 1000000 F DL V t E [] [] [] [] ρ (srT s ops.length) with
    |true=>some (ofTs n DL ρ,sf)
    |false=>none)
   |_,_=>none))
def xtr1 (P:Program) (call:CallT0) (n:Nat) (ops:Array Oper) (ρ:T X) (s:St) (ms:List Nat) (t:Tr):Option (T X × St):=match treeB ops ops.toList ms t with
 |true=>xtrM P call n ops.toList (befM ms) t ρ s
 |false=>none
def xtr0 (P:Program) (call:CallT0) (n:Nat) (ops:Array Oper) (ρ:T X) (s:St) (ms:List Nat):Option (T X × St):=xtr1 P call n ops ρ s ms (mkT ops.toList ms (ops.toList.length+1) 0)
def xtr (P:Program) (call:CallT0) (n:Nat) (ops:Array Oper) (ρ:T X) (s:St):Option (T X × St):=xtr0 P call n ops ρ s (msOf ops.toList [])
end
end Go.Ev
/- A verified evaluator for closed calls: drawn regions in which effects may change places, and that the plan holds of each listing. No program in sight. -/
namespace Go.Ev
open Go Go.Vc
noncomputable section
variable {P:Program}{base:Bs}{w0:World}{σ σ':Sg}{s s1:St}{w w':World}{ρ:T X}{r:Env}{n:Nat}
theorem Own.rebase {base':Bs}{b e:Nat}{cs:List X}{rb off k:Nat}{pre vs sp post:List Value}(g:Own P base σ w b e cs rb off k pre vs sp post) (hb:¬ base'.pr rb):Own P base' σ w b e cs rb off k pre vs sp post:=
 ⟨g.sg_,g.val,g.pre_,g.sp_,g.heap,hb,g.flat,g.mul_,g.nsp⟩
theorem Own.lt {b e:Nat}{cs:List X}{rb off k:Nat}{pre vs sp post:List Value}(g:Own P base σ w b e cs rb off k pre vs sp post):rb < w.heap.size:=by
 obtain⟨fz,h,_⟩:=g.heap;exact (Array.getElem?_eq_some_iff.1 h).1
theorem Mem.rebase {base':Bs}(h:Mem P base σ s w) (hb:∀ a,base'.pr a->base.pr a) (hg:∀ a,base.gp a->base'.gp a):Mem P base' σ s w:=
 ⟨λb e cs hq=>let ⟨rb,off,k,pre,vs,sp,post,g⟩:=h.own b e cs hq;⟨rb,off,k,pre,vs,sp,post,g.rebase λha=>g.low (hb _ ha)⟩,h.apart,
  λb o hq=>let ⟨rb,h1,h2,h3⟩:=h.mown b o hq;⟨rb,h1,λha=>h2 (hb _ ha),h3⟩,h.mapart,λg xs hq=>let ⟨h1,r⟩:=h.glb g xs hq;⟨hg _ h1,r⟩⟩
theorem Fram.step {bs:Bs}(h:Fram base w0 w) (g:Fram bs w w') (hb:∀ a,base.pr a->bs.pr a):Fram base w0 w':=
 ⟨h.same.trans g.same,λc hc=>g.low c (hb c hc),λc hc=>(g.old c (hb c hc)).trans (h.old c hc)⟩
def ObOk (P:Program) (base:Bs) (σ:Sg) (w:World) (b:Nat):Ob->Prop
 |.c q=>∃ rb off k pre vs sp post,Own P base σ w b q.1 q.2 rb off k pre vs sp post
 |.m o=>∃ rb,σ b=some (rb,0,0)/\¬ base.pr rb/\MOk σ w rb o
theorem MOk.lt {rb:Nat}{o:M}(h:MOk σ w rb o):rb < w.heap.size:=by
 rcases hU_ rb w.heap.size with h4|h4
 ·exact h4
 ·have:=h.noC.2;rw[Array.getElem?_eq_none h4] at this;cases this
theorem ObOk.sg {b:Nat}:∀ {ob:Ob},ObOk P base σ w b ob->∃ q,σ b=some q/\q.1 < w.heap.size/\¬ base.pr q.1
 |.c q,⟨rb,off,k,pre,vs,sp,post,g⟩=>⟨_,g.sg_,g.lt,g.low⟩
 |.m o,⟨rb,h1,h2,h3⟩=>⟨_,h1,h3.lt,h2⟩
theorem ObOk.keep {base':Bs}{b:Nat}{q:Nat × Nat × Nat}(hq:σ b=some q) (hk:∀ o,w.heap[q.1]?=some o->w'.heap[q.1]?=some o) (hx:Ext σ σ') (hb:¬ base'.pr q.1):∀ {ob:Ob},ObOk P base σ w b ob->ObOk P base' σ' w' b ob
 |.c c,⟨rb,off,k,pre,vs,sp,post,g⟩=>by
  have:=g.sg_;rw[hq] at this;obtain rfl:=Option.some.inj this;exact⟨rb,off,k,pre,vs,sp,post,((g.keep hk).ext hx).rebase hb⟩
 |.m o,⟨rb,h1,h2,h3⟩=>by
  rw[hq] at h1;obtain rfl:=Option.some.inj h1;exact⟨rb,hx _ _ hq,hb,(h3.keep hk).ext hx⟩
theorem Mem.ob (h:Mem P base σ s w){b:Nat}:∀ {ob:Ob},ObAt s b ob->ObOk P base σ w b ob
 |.c c,ho=>h.own b c.1 c.2 ho
 |.m o,ho=>h.mown b o ho
def bsU (base:Bs) (k0 L:Nat) (σ:Sg) (U D:List Nat):Bs:=⟨λa=>base.pr a\/∃ i,i∈U/\∃ q,σ (k0+i)=some q/\q.1=a,λm=>base.res m\/∃ j,j < L/\m=k0+j/\j∉D,base.gp,λa h=>.inl (base.gpr a h)⟩
structure Br (P:Program) (base:Bs) (w0:World) (F:List Fe) (k0 L:Nat) (σ:Sg) (s:St) (w:World) (U D:List Nat):Prop where
 mem:Mem P (bsU base k0 L σ U D) σ s w
 fresh:Fresh (bsU base k0 L σ U D) σ s
 fram:Fram base w0 w
 uok:∀ i,i∈U->∃ f,lkF i F=some f/\ObOk P base σ w (k0+i) f.ob
 uap:∀ i j q q',i∈U->j∈U->i≠j->σ (k0+i)=some q->σ (k0+j)=some q'->q.1≠q'.1
variable {F:List Fe}{k0 L:Nat}{U D:List Nat}
theorem Br.rv1 (h:Br P base w0 F k0 L σ s w U D){i:Nat}{f:Fe}(hi:i∈U) (hf:lkF i F=some f):Br P base w0 F k0 L σ (s.putO (k0+i) f.ob) w (rmN i U) D:=by
 obtain⟨f',hf',hob⟩:=h.uok i hi;rw[hf] at hf';obtain rfl:=Option.some.inj hf';obtain⟨q0,g1,g2,g3⟩:=hob.sg
 have hsub:∀ a,(bsU base k0 L σ (rmN i U) D).pr a->(bsU base k0 L σ U D).pr a:=by
  rintro a (h1|⟨j,h1,q,h2,h3⟩)
  ·exact .inl h1
  ·exact .inr ⟨j,(Zef.1 h1).1,q,h2,h3⟩
 have hin:(bsU base k0 L σ U D).pr q0.1:=.inr ⟨i,hi,_,g1,rfl⟩
 have hout:¬ (bsU base k0 L σ (rmN i U) D).pr q0.1:=by
  rintro (h1|⟨j,h1,q,h2,h3⟩)
  ·exact g3 h1
  ·obtain⟨h4,h5⟩:=Zef.1 h1;exact h.uap j i q _ h4 hi h5 h2 g1 h3
 have B:Mem P (bsU base k0 L σ (rmN i U) D) σ s w:=h.mem.rebase hsub λ_ h=>h;refine⟨?_,?_,h.fram,λj hj=>h.uok j (Zef.1 hj).1,λj j' q q' hj hj'=>h.uap j j' q q' (Zef.1 hj).1 (Zef.1 hj').1⟩
 ·have ob2:=ObOk.keep (base':=bsU base k0 L σ (rmN i U) D) (w':=w) g1 (λo ho=>ho) (Ext.refl σ) hout hob
  cases hobe:f.ob with
  |c c=>
   rw[hobe] at ob2;obtain⟨rb,off,k,pre,vs,sp,post,g⟩:=ob2;have hsg:=g.sg_;rw[g1] at hsg;obtain rfl:=Option.some.inj hsg
   have apt:∀ {c:Nat} {y:Blk} {r':Nat × Nat × Nat},s.blk c=some y->σ c=some r'->r'.1≠rb:=by
    intro c y r' h4 h2 he;obtain⟨e',cs'⟩:=y;obtain⟨rb',off',k',pre',vs',sp',post',g'⟩:=h.mem.own c e' cs' h4;have:=g'.sg_;rw[h2] at this;obtain rfl:=Option.some.inj this;exact g'.low ((show rb'=rb from he)▸hin)
   refine⟨λb e cs hb=>?_,λb c x y r r' hb hc hne h1 h2=>?_,λb o hb=>B.mown b o hb,h.mem.mapart,B.glb⟩
   ·rcases Zd0 hb with⟨rfl,h2⟩|⟨hne,h2⟩
    ·obtain rfl:=Option.some.inj h2;exact⟨rb,off,k,pre,vs,sp,post,g⟩
    ·exact B.own b e cs h2
   ·rcases Zd0 hb with⟨rfl,_⟩|⟨hn1,h3⟩ <;> rcases Zd0 hc with⟨rfl,_⟩|⟨hn2,h4⟩
    ·exact absurd rfl hne
    ·rw[g1] at h1;obtain rfl:=Option.some.inj h1;exact λhe=>apt h4 h2 he.symm
    ·rw[g1] at h2;obtain rfl:=Option.some.inj h2;exact apt h3 h1
    ·exact h.mem.apart b c x y r r' h3 h4 hne h1 h2
  |m o=>
   rw[hobe] at ob2;obtain⟨rb,k1,k2,k3⟩:=ob2
   have apt:∀ {c:Nat} {y:M} {r':Nat × Nat × Nat},s.mo c=some y->σ c=some r'->r'.1≠rb:=by
    intro c y r' h4 h2 he;obtain⟨rb',h5,h6,_⟩:=h.mem.mown c y h4;rw[h2] at h5;obtain rfl:=Option.some.inj h5;rw[g1] at k1;obtain rfl:=Option.some.inj k1;exact h6 ((show rb'=rb from he)▸hin)
   refine⟨λb e cs hb=>B.own b e cs hb,h.mem.apart,λb x hb=>?_,λb c x y r r' hb hc hne h1 h2=>?_,B.glb⟩
   ·rcases Zff hb with⟨rfl,h2⟩|⟨hne,h2⟩
    ·obtain rfl:=Option.some.inj h2;exact⟨rb,k1,k2,k3⟩
    ·exact B.mown b x h2
   ·rcases Zff hb with⟨rfl,_⟩|⟨hn1,h3⟩ <;> rcases Zff hc with⟨rfl,_⟩|⟨hn2,h4⟩
    ·exact absurd rfl hne
    ·rw[k1] at h1;obtain rfl:=Option.some.inj h1;exact λhe=>apt h4 h2 he.symm
    ·rw[k1] at h2;obtain rfl:=Option.some.inj h2;exact apt h3 h1
    ·exact h.mem.mapart b c x y r r' h3 h4 hne h1 h2
 ·cases hobe:f.ob with
  |c c=>exact⟨h.fresh.nx,h.fresh.lt,h.fresh.ge,h.fresh.rs⟩
  |m o=>exact⟨h.fresh.nx,h.fresh.lt,h.fresh.ge,h.fresh.rs⟩
theorem Br.rv:∀ {l:List Nat}{U U':List Nat}{s s':St},Br P base w0 F k0 L σ s w U D->rvU l U=some U'->rvS F k0 l s=some s'->Br P base w0 F k0 L σ s' w U' D
 |[],U,U',s,s',h,h1,h2=>by
  obtain rfl:=Option.some.inj h1;obtain rfl:=Option.some.inj h2;exact h
 |i::l,U,U',s,s',h,h1,h2=>by
  simp only[rvU] at h1;simp only[rvS] at h2
  cases hm:memN i U with
  |false=>rw[hm] at h1;cases h1
  |true=>
   rw[hm] at h1
   cases hf:lkF i F with
   |none=>rw[hf] at h2;cases h2
   |some f=>
    rw[hf] at h2;exact Br.rv (h.rv1 (Zj4.1 hm) hf) h1 h2
theorem Br.view (h:Br P base w0 F k0 L σ s w U D):Mem P base σ (vwS F k0 U s) w:=by
 unfold vwS;split
 ·rename_i U' s' h1 h2;exact (h.rv h1 h2).mem.rebase (λa ha=>.inl ha) λ_ h=>h
 ·exact h.mem.rebase (λa ha=>.inl ha) λ_ h=>h
theorem Br.wo (h:Br P base w0 F k0 L σ s w U D):Wo P (bsU base k0 L σ U D) w σ s w:=by
 refine⟨h.mem,h.fresh,.refl w,?_,λ_ _=>rfl⟩;rintro a (h1|⟨i,h1,q,h2,h3⟩)
 ·exact h.fram.low a h1
 ·obtain⟨f,_,g⟩:=h.uok i h1;obtain⟨q0,g1,g2,_⟩:=g.sg;rw[h2] at g1;obtain rfl:=Option.some.inj g1;exact h3▸g2
theorem Br.eff (h:Br P base w0 F k0 L σ s w U D) (hx:Ext σ σ') (hw:Wo P (bsU base k0 L σ U D) w σ' s1 w'):Br P base w0 F k0 L σ' s1 w' U D:=by
 have hsg:∀ i,i∈U->∃ q,σ (k0+i)=some q/\σ' (k0+i)=some q:=λi hi=>by
  obtain⟨f,_,g⟩:=h.uok i hi;obtain⟨q0,g1,_⟩:=g.sg;exact⟨q0,g1,hx _ _ g1⟩
 refine⟨hw.mem.rebase ?_ λ_ h=>h,⟨hw.fresh.nx,hw.fresh.lt,hw.fresh.ge,hw.fresh.rs⟩,h.fram.step hw.fram λa ha=>.inl ha,λi hi=>?_,λi j q q' hi hj hne h1 h2=>?_⟩
 ·rintro a (h1|⟨i,h1,q,h2,h3⟩)
  ·exact .inl h1
  ·obtain⟨q0,h4,h5⟩:=hsg i h1;rw[h2] at h5;obtain rfl:=Option.some.inj h5;exact .inr ⟨i,h1,q,h4,h3⟩
 ·obtain⟨f,hf,g⟩:=h.uok i hi;obtain⟨q0,g1,g2,g3⟩:=g.sg;have hin:(bsU base k0 L σ U D).pr q0.1:=.inr ⟨i,hi,_,g1,rfl⟩;exact⟨f,hf,g.keep g1 (λo ho=>by rw[hw.fram.old q0.1 hin];exact ho) hx g3⟩
 ·obtain⟨q0,k1,k2⟩:=hsg i hi;obtain⟨q1,k3,k4⟩:=hsg j hj;rw[h1] at k2;rw[h2] at k4;obtain rfl:=Option.some.inj k2;obtain rfl:=Option.some.inj k4;exact h.uap i j _ _ hi hj hne k1 k3
def flB (base:Bs) (k0 L:Nat) (σ:Sg) (U D:List Nat) (w:World) (s:St) (i c:Nat):Bs:=⟨λa=>a < w.heap.size,λm=>(bsU base k0 L σ U D).res m/\m≠k0+i\/m≠k0+i/\s.n<=m/\m < c,λ_=>False,λ_ h=>h.elim⟩
theorem Br.fl0 (h:Br P base w0 F k0 L σ s w U D){i c:Nat}(hi:i < L) (hD:i∉D) (hc:s.n < c) (hk:s.k=s.n+1):Wo P (flB base k0 L σ U D w s i c) w σ (dum (k0+i) c) w:=by
 have hr:=h.fresh.rs (k0+i) (.inr ⟨i,hi,rfl,hD⟩);refine⟨⟨λb e cs h=>?_,λb c x y r r' h=>?_,λb o h=>?_,λb c x y r r' h=>?_,λg xs h=>by cases h⟩,⟨hr.1,?_,λm hm=>h.fresh.ge m ?_,λm hm=>?_⟩,.refl w,λa ha=>ha,λ_ _=>rfl⟩
 ·simp[St.blk,dum,T.get_e,jn] at h
 ·simp[St.blk,dum,T.get_e,jn] at h
 ·simp[St.mo,dum,T.get_e,jn] at h
 ·simp[St.mo,dum,T.get_e,jn] at h
 ·show k0+i < c;have:=hr.2.2;omega
 ·have:c<=m:=hm;omega
 ·show σ m=none/\m≠k0+i/\m < c;rcases hm with⟨h1,h2⟩|⟨h1,h2,h3⟩
  ·obtain⟨a,b,d⟩:=h.fresh.rs m h1;exact⟨a,h2,by omega⟩
  ·refine⟨?_,h1,h3⟩;rcases Nat.eq_or_lt_of_le h2 with rfl|h4
   ·exact h.fresh.nx
   ·exact h.fresh.ge m (by omega)
theorem Br.fl (h:Br P base w0 F k0 L σ s w U D){i c:Nat}{f:Fe}(hi:i < L) (hD:i∉D) (hc:s.n < c) (hk:s.k=s.n+1) (hres:∀ m,base.res m->m < k0) (hx:Ext σ σ') (hw:Wo P (flB base k0 L σ U D w s i c) w σ' s1 w') (hf:lkF i F=some f)
  (hb:ObAt s1 (k0+i) f.ob) (hn:s1.n=c) (hk1:s1.k=c+1):Br P base w0 F k0 L σ' s w' (i::U) (i::D):=by
 have keep:∀ a o,w.heap[a]?=some o->w'.heap[a]?=some o:=λa o ho=>by rw[hw.fram.old a (Array.getElem?_eq_some_iff.1 ho).1];exact ho
 have g:=hw.mem.ob hb;obtain⟨q0,gsg,_,hlow⟩:=g.sg;replace hlow:¬ q0.1 < w.heap.size:=hlow;have hr:=h.fresh.rs (k0+i) (.inr ⟨i,hi,rfl,hD⟩)
 have npr:∀ a,a < w.heap.size->¬ (bsU base k0 L σ U D).pr a->¬ (bsU base k0 L σ' (i::U) (i::D)).pr a:=by
  rintro a ha hna (h1|⟨j,h1,q,h2,h3⟩)
  ·exact hna (.inl h1)
  ·rcases mem_cons.1 h1 with rfl|h1
   ·rw[gsg] at h2;obtain rfl:=Option.some.inj h2;exact hlow (h3▸ha)
   ·obtain⟨f',_,g'⟩:=h.uok j h1;obtain⟨q1,g1,_⟩:=g'.sg;rw[hx _ _ g1] at h2;obtain rfl:=Option.some.inj h2;exact hna (.inr ⟨j,h1,_,g1,h3⟩)
 refine⟨⟨λb e cs hq=>?_,(h.mem.ext hx).apart,λb o hq=>?_,(h.mem.ext hx).mapart,h.mem.keepG λc o _ hc=>keep c o hc⟩,⟨?_,h.fresh.lt,λm hm=>?_,λm hm=>?_⟩,h.fram.step hw.fram λa ha=>h.fram.low a ha,λj hj=>?_,λj j' q q' hj hj' hne h1 h2=>?_⟩
 ·obtain⟨rb',off',k',pre',vs',sp',post',g'⟩:=h.mem.own b e cs hq;exact⟨rb',off',k',pre',vs',sp',post',((g'.keep (keep _)).ext hx).rebase (npr _ g'.lt g'.low)⟩
 ·obtain⟨rb',h1,h2,h3⟩:=h.mem.mown b o hq;exact⟨rb',hx _ _ h1,npr _ (h.mem.mbelow hq h1) h2,(h3.keep (keep _)).ext hx⟩
 ·exact (hw.fresh.rs s.n (.inr ⟨λe=>hr.2.1 e.symm,Nat.le_refl _,hc⟩)).1
 ·have hne:m≠k0+i:=by omega
  rcases Nat.lt_trichotomy m c with h1|h1|h1
  ·exact (hw.fresh.rs m (.inr ⟨hne,by omega,h1⟩)).1
  ·have:=hw.fresh.nx;rw[hn] at this;rw[h1];exact this
  ·exact hw.fresh.ge m (by omega)
 ·have ho:(bsU base k0 L σ U D).res m/\m≠k0+i:=by
   rcases hm with h1|⟨j,h1,h2,h3⟩
   ·have:=hres m h1;exact⟨.inl h1,by omega⟩
   ·refine⟨.inr ⟨j,h1,h2,λhj=>h3 (hK_ _ hj)⟩,λe=>h3 ?_⟩
    have:j=i:=by omega
    rw[this];exact hJ_
  exact⟨(hw.fresh.rs m (.inl ho)).1,(h.fresh.rs m ho.1).2⟩
 ·rcases mem_cons.1 hj with rfl|hj
  ·exact⟨f,hf,g.keep gsg (λo ho=>ho) (Ext.refl _) λha=>hlow (h.fram.low _ ha)⟩
  ·obtain⟨f',hf',g'⟩:=h.uok j hj;obtain⟨q1,g1,g2,g3⟩:=g'.sg;exact⟨f',hf',g'.keep g1 (keep _) hx g3⟩
 ·have old:∀ {j q},j∈U->σ' (k0+j)=some q->σ (k0+j)=some q/\q.1 < w.heap.size:=by
   intro j q hj h1;obtain⟨f',_,g'⟩:=h.uok j hj;obtain⟨q1,g1,g2,_⟩:=g'.sg;rw[hx _ _ g1] at h1;obtain rfl:=Option.some.inj h1;exact⟨g1,g2⟩
  rcases mem_cons.1 hj with rfl|ha <;> rcases mem_cons.1 hj' with rfl|hb'
  ·exact absurd rfl hne
  ·rw[gsg] at h1;obtain rfl:=Option.some.inj h1;exact λe=>hlow (e▸(old hb' h2).2)
  ·rw[gsg] at h2;obtain rfl:=Option.some.inj h2;exact λe=>hlow (e▸(old ha h1).2)
  ·exact h.uap j j' q q' ha hb' hne (old ha h1).1 (old hb' h2).1
def EnvO (σ:Sg) (ρ0:T X) (DL:Ts) (r:Env):Prop:=∀ t x,ρ0.get t t=some x->(∀ y,(t,y)∉DL)->vl σ x=some (r.get t)
theorem EnvO.ext {ρ0:T X}{DL:Ts}(h:EnvO σ ρ0 DL r) (hx:Ext σ σ'):EnvO σ' ρ0 DL r:=λt x h1 h2=>Zfo hx _ _ (h t x h1 h2)
theorem EnvO.step {ρ0:T X}{DL:Ts}{r':Env}{dst:Option Nat}(h:EnvO σ ρ0 DL r) (hD:∀ d,dst=some d->∃ x,(d,x)∈DL) (h2:∀ t,dst≠some t->r'.get t=r.get t):EnvO σ ρ0 DL r':=λt x h1 h3=>by
 rw[h2 t λe=>by obtain⟨x,hx⟩:=hD t e;exact h3 x hx];exact h t x h1 h3
theorem Zp1 {dst:Option Nat}{x:X}{ρ':T X}{v:Value}{K:Env->Prop}(h:xput n ρ dst x=some ρ') (hE:EnvR σ ρ r) (hv:vl σ x=some v) (hK:∀ r',EnvR σ ρ' r'->(∀ d,dst=some d->r'.get d=v)->(∀ t,dst≠some t->r'.get t=r.get t)->K r'):r.put n dst v K:=by
 unfold xput at h;unfold Env.put
 cases dst with
 |none=>obtain rfl:=Option.some.inj h;exact hK _ hE (λd hd=>by cases hd) λ_ _=>rfl
 |some d=>
  simp only at h ⊢
  cases hb:Nat.blt d n with
  |false=>rw[hb] at h;cases h
  |true=>
   rw[hb] at h;obtain rfl:=Option.some.inj h
   exact hK _ (hE.set hv) (λd' hd=>by obtain rfl:=Option.some.inj hd;rw[Env.get_set,if_pos rfl]) λt ht=>by rw[Env.get_set,if_neg (λe=>ht (by rw[e]))]
theorem Zep {ops:List Oper}{i:Nat}{dst:Option Nat}{x:X}{ρ':T X}{v:Value}{K:Env->World->Prop}(h:xdone n ops i dst x ρ=some ρ') (hE:EnvR σ ρ r) (hv:vl σ x=some v) (hK:∀ r',EnvR σ ρ' r'->(∀ t,dst≠some t->r'.get t=r.get t)->K r' w) :
  r.put n dst v λr'=>parting ops i dst K r' w:=by
 unfold xdone at h
 cases hc:condOk ops i dst x with
 |false=>rw[hc] at h;cases h
 |true=>
  rw[hc] at h;refine Zp1 h hE hv λr' hr hd ho=>?_;unfold parting;unfold condOk at hc
  cases hi:isCond ops i with
  |false=>exact hK r' hr ho
  |true=>
   cases dst with
   |none=>exact hK r' hr ho
   |some d=>
    rw[hi] at hc
    cases x with
    |b c=>
     simp only[vl,Option.some.injEq] at hv;have hdv:=hd d rfl
     have ho2:∀ u,∀ t,some d≠some t->(r'.set d u).get t=r.get t:=λu t ht=>by
      rw[Env.get_set,if_neg (λe=>ht (by rw[e]))];exact ho t ht
     simp only;rw[hdv,<-hv];rw[<-hv] at hdv
     cases c with
     |true=>exact hK _ (hr.same hdv) (ho2 _)
     |false=>exact hK _ (hr.same hdv) (ho2 _)
    |_=>cases hc
theorem tw_ok {call:CallT0}(hcall:∀ base w0,CallOk P base w0 call){ops:List Oper}{b:Nat->Nat->Bool}{c:Nat}{DL:Ts}{V:List Nat}{ρ0:T X}{σ0:Sg}{zf sf:St}{K:Env->World->Prop}
  (hFT:∀ f∈F,FFact P call n ops k0 c f) (hres:∀ m,base.res m->m < k0) (hDL:∀ i o d,nth ops i=some o->o.dst=some d->∃ x,(d,x)∈DL) (hsf:rvS F k0 V zf=some sf) (hK:FinE P base w0 σ0 (ofTs n DL ρ0) sf K) :
  ∀ (t:Tr) {es:List En} {U D:List Nat} {pend:List (Nat × Oper × T X × X)} {past:List (Nat × St)} {pend':List (Nat × Vc.Node × Value)} {past':List (Nat × World)} {σ:Sg} {ρ:T X} {s:St} {w:World} {r:Env},
   Br P base w0 F k0 ops.length σ s w U D->Ext σ0 σ->EnvR σ ρ r->EnvO σ ρ0 DL r->PendR P σ pend pend'->PastR P base σ past past'->Chain P call n ops F k0 s es zf->
   tw P n ops b k0 c F DL V t es U D pend past ρ s=true->vcStT P n ops b t pend' past' r w K
 |.dn,es,U,D,pend,past,pend',past',σ,ρ,s,w,r,hB,hX,hE,hO,hP,hQ,hC,hx=>by
  simp only[tw] at hx
  cases es with
  |cons e es=>cases hx
  |nil=>
   cases hU:rvU V U with
   |none=>rw[hU] at hx;cases hx
   |some U'=>
    rw[hU] at hx;obtain rfl:s=zf:=hC;have B:=hB.rv hU hsf;exact hK σ w r hX ⟨B.mem.rebase (λa ha=>.inl ha) (λ_ h=>h),⟨B.fresh.nx,B.fresh.lt,B.fresh.ge,λm hm=>B.fresh.rs m (.inl hm)⟩,B.fram⟩ (Zst hE hx hO)
 |.fk x y,es,U,D,pend,past,pend',past',σ,ρ,s,w,r,hB,hX,hE,hO,hP,hQ,hC,hx=>by
  simp only[tw] at hx
  cases h1:tw P n ops b k0 c F DL V x es U D pend past ρ s with
  |false=>rw[h1] at hx;cases hx
  |true=>
   rw[h1] at hx;exact⟨tw_ok hcall hFT hres hDL hsf hK x hB hX hE hO hP hQ hC h1,tw_ok hcall hFT hres hDL hsf hK y hB hX hE hO hP hQ hC hx⟩
 |.op i t,es,U,D,pend,past,pend',past',σ,ρ,s,w,r,hB,hX,hE,hO,hP,hQ,hC,hx=>by
  simp only[tw] at hx;rw[vcStT]
  cases ho:nth ops i with
  |none=>rw[ho] at hx;cases hx
  |some o=>
  rw[ho] at hx;simp only at hx ⊢;have hd:∀ d,o.dst=some d->∃ x,(d,x)∈DL:=λd=>hDL i o d ho;unfold stGT
  cases hg:xgd ops ρ o with
  |none=>rw[hg] at hx;cases hx
  |some c1=>
   rw[hg] at hx
   have skip:c1=false->r.put n o.dst undef λr'=>vcStT P n ops b t pend' past' r' w K:=by
    rintro rfl;simp only at hx
    cases hdd:xput n ρ o.dst undX with
    |none=>rw[hdd] at hx;cases hx
    |some ρ1=>
     rw[hdd] at hx;exact Zp1 hdd hE rfl λr' hr _ hr2=>tw_ok hcall hFT hres hDL hsf hK t hB hX hr (hO.step hd hr2) hP hQ hC hx
   have exec:c1=true->stExT P n ops b i o pend' past' r w λpend' past' ρ' w'=>vcStT P n ops b t pend' past' ρ' w' K:=by
    rintro rfl;simp only at hx;unfold stExT
    cases hs:stillOp o.op with
    |true=>
     rw[hs] at hx;simp only at hx ⊢
     cases hv:xval P ρ (vwS F k0 U s) o with
     |none=>rw[hv] at hx;cases hx
     |some x=>
      rw[hv] at hx;simp only at hx
      cases hdd:xdone n ops i o.dst x ρ with
      |none=>rw[hdd] at hx;cases hx
      |some ρ1=>
       rw[hdd] at hx;simp only at hx
       cases hbl:blind P o with
       |true=>
        rw[hbl] at hx;exact Zcw hB.view hE hv true λv hvv=>Zep hdd hE hvv λr' hr hr2=>tw_ok hcall hFT hres hDL hsf hK t hB hX hr (hO.step hd hr2) hP hQ hC hx
       |false=>
        rw[hbl] at hx;simp only at hx ⊢
        cases hpo:pastT P ρ o (b i) x past with
        |false=>rw[hpo] at hx;cases hx
        |true=>
         rw[hpo] at hx;refine Zcw hB.view hE hv true λv hvv=>?_;refine Zrh (σ:=σ) (x:=x) hE hvv ?_ hQ hpo;exact Zep hdd hE hvv λr' hr hr2=>tw_ok hcall hFT hres hDL hsf hK t (pend:=(i,o,ρ,x)::pend) hB hX hr (hO.step hd hr2) ⟨rfl,⟨r,hE,rfl,hvv⟩,hP⟩ hQ hC hx
    |false=>
     rw[hs] at hx;simp only at hx ⊢
     cases hF:lkF i F with
     |some f=>
      rw[hF] at hx;simp only at hx;split at hx
      ·rename_i ρ1 hcnd hdd;simp only[Bool.and_eq_true,Bool.not_eq_true'] at hcnd;obtain⟨c1,c2,c3,c4,c5,c6⟩:=hcnd;obtain⟨hfm,hfi⟩:=Zsa hF;obtain⟨o',s1,k1,k2,k3,k4,k5⟩:=hFT f hfm;rw[hfi] at k1 k2 k3;rw[ho] at k1;obtain rfl:=Option.some.inj k1
       have c1':i∉D:=λhm=>by rw[Zj4.2 hm] at c1;cases c1
       have c2':i < ops.length:=Nat.le_of_ble_eq_true c2;have c3':s.n < c:=Nat.le_of_ble_eq_true c3;have c4':=Nat.eq_of_beq_eq_true c4;refine Zkb (hcall _ _) (hB.fl0 c2' c1' c3' c4') (Zy8 hE c5) false k2 λσ' w' v hxt hw hvv=>?_;have hB':=hB.fl c2' c1' c3' c4' hres hxt hw hF k3 k4 k5;refine Zl1 hB'.view ?_ (hP.ext hxt) c6;exact Zep hdd (hE.ext hxt) hvv λr' hr hr2=>tw_ok hcall hFT hres hDL hsf hK t (past:=(i,vwS F k0 U s)::past) hB' (hX.trans hxt) hr ((hO.ext hxt).step hd hr2) (hP.ext hxt) ⟨rfl,hB.view.ext hxt,hQ.ext hxt⟩ hC hx
      ·cases hx
     |none=>
      rw[hF] at hx;simp only at hx
      cases es with
      |nil=>cases hx
      |cons e es=>
       simp only at hx;split at hx
       ·rename_i U' s' ρ1 hcnd hU hS hdd;simp only[Bool.and_eq_true] at hcnd;obtain⟨c1,c2⟩:=hcnd;obtain⟨⟨o',s'',k1,k2,k3⟩,k4⟩:=hC;rw[Nat.eq_of_beq_eq_true c1,ho] at k1;obtain rfl:=Option.some.inj k1;rw[hS] at k2;obtain rfl:=Option.some.inj k2;have hB2:=hB.rv hU hS;split at hx
        ·rename_i c3;refine Zkb (hcall _ _) hB2.wo (Zy8 hE c2) false k3 λσ' w' v hxt hw hvv=>?_;have hB':=hB2.eff hxt hw;refine Zl1 hB'.view ?_ (hP.ext hxt) c3;exact Zep hdd (hE.ext hxt) hvv λr' hr hr2=>tw_ok hcall hFT hres hDL hsf hK t (past:=(i,vwS F k0 U s)::past) hB' (hX.trans hxt) hr ((hO.ext hxt).step hd hr2) (hP.ext hxt) ⟨rfl,hB.view.ext hxt,hQ.ext hxt⟩ k4 hx
        ·cases hx
       ·cases hx
   refine Zso (B:=λ_ _ _=>True) hE hg λhgd=>?_;rcases hgd with⟨h1,h2⟩|⟨j,want,d,h1,h2,h3⟩
   ·rw[h1];exact exec h2
   ·rw[h1];simp only[h2];rcases h3 with⟨h5,⟨h4,rfl⟩|⟨h4,rfl⟩⟩|⟨h5,⟨h4,rfl⟩|⟨h4,rfl⟩|⟨l,h4⟩⟩
    ·rw[h4];exact exec h5
    ·rw[h4];exact exec h5
    ·rw[h4];exact skip h5
    ·rw[h4];exact skip h5
    ·rw[h4];exact skip h5
theorem Zla:∀ {ops:List Oper}{i:Nat}{o:Oper}{d:Nat},nth ops i=some o->o.dst=some d->d∈dstsL ops
 |[],i,o,d,h,_=>by cases i <;> cases h
 |q::l,0,o,d,h,hd=>by
  obtain rfl:q=o:=Option.some.inj h;simp only[dstsL,hd];exact hJ_
 |q::l,i+1,o,d,h,hd=>by
  have:=Zla (ops:=l) (i:=i) h hd;simp only[dstsL];split
  ·exact hK_ _ this
  ·exact this
theorem Wo.br (h:Wo P base w0 σ s w) (hk:s.k=s.n+1):Br P base w0 F s.n L σ (srT s L) w [] []:=by
 have hz:∀ j,σ (s.n+j)=none:=λj=>by
  cases j with
  |zero=>exact h.fresh.nx
  |succ j=>exact h.fresh.ge _ (by omega)
 refine⟨⟨λb e cs hq=>?_,h.mem.apart,λb o hq=>?_,h.mem.mapart,h.mem.glb⟩,⟨hz L,Nat.lt_succ_self _,λm hm=>?_,λm hm=>?_⟩,h.fram,(λi hi=>by cases hi),λi j q q' hi=>by cases hi⟩
 ·obtain⟨rb,off,k,pre,vs,sp,post,g⟩:=h.mem.own b e cs hq;exact⟨rb,off,k,pre,vs,sp,post,g.rebase λha=>ha.elim g.low λ⟨i,hi,_⟩=>by cases hi⟩
 ·obtain⟨rb,h1,h2,h3⟩:=h.mem.mown b o hq;exact⟨rb,h1,(λha=>ha.elim h2 λ⟨i,hi,_⟩=>by cases hi),h3⟩
 ·have:s.n+L+1<=m:=hm;exact h.fresh.ge m (by omega)
 ·show σ m=none/\m≠s.n+L/\m < s.n+L+1;rcases hm with h1|⟨j,h1,h2,_⟩
  ·obtain⟨a,b,c⟩:=h.fresh.rs m h1;exact⟨a,by omega,by omega⟩
  ·subst h2;exact⟨hz j,by omega,by omega⟩
theorem Yat {call:CallT0}(hcall:∀ base w0,CallOk P base w0 call){ops:List Oper}{b:Nat->Nat->Bool}{t:Tr}(h:Wo P base w0 σ s w) (hE:EnvR σ ρ r){ρ':T X}{s':St}(hx:xtrM P call n ops b t ρ s=some (ρ',s')){K:Env->World->Prop}
  (hK:FinE P base w0 σ ρ' s' K):vcStT P n ops b t [] [] r w K:=by
 unfold xtrM at hx
 cases hk:Nat.beq s.k (s.n+1) with
 |false=>rw[hk] at hx;cases hx
 |true=>
  rw[hk] at hx;have hk':=Nat.eq_of_beq_eq_true hk;simp only at hx;split at hx
  ·cases hx
  ·rename_i F E V z ρz hcp;split at hx
   ·rename_i DL sf hDL hsf;split at hx
    ·rename_i htw;simp only[Option.some.injEq,Prod.mk.injEq] at hx;obtain⟨rfl,rfl⟩:=hx;obtain⟨g1,g2⟩:=cp_ok hcp;refine tw_ok hcall g2 (λm hm=>?_) (λi o d ho hd=>?_) hsf hK t (pend:=[]) (past:=[]) (pend':=[]) (past':=[]) (h.br hk') (Ext.refl _) hE (λt x ht _=>hE t x ht) trivial trivial g1 htw
     ·obtain⟨a,b,c⟩:=h.fresh.rs m hm;omega
     ·exact Zix hDL d (Zla ho hd)
    ·cases hx
   ·cases hx
end
end Go.Ev
/- A verified evaluator for closed calls, ninth part: code and functions. No program in sight. -/
namespace Go.Ev
open Go Go.Vc
noncomputable section
variable {P:Program}{base:Bs}{w0:World}{σ:Sg}{s:St}{w w':World}{ρ:T X}{r:Env}{n:Nat}
def xreg (P:Program) (n:Nat) (call:FuncId->List X->St->Option (X × St)) (ops:Array Oper) (draw:Bool) (ρ:T X) (s:St):Option (T X × St):=match draw with
 |false=>xops P false call n ops.toList ops.toList 0 ρ s
 |true=>(match Region.lexB .any ops,allStill ops.toList with
  |true,true=>xops P true call n ops.toList ops.toList 0 ρ s
  |_,_=>(match stagedB ops ops.toList (msOf ops.toList []) ops.toList 0 with
   |true=>xst P call n ops.toList (befM (msOf ops.toList [])) ops.toList 0 [] [] ρ s
   |false=>xtr P call n ops ρ s))
theorem Zzz {call:FuncId->List X->St->Option (X × St)}(hcall:∀ base w0,CallOk P base w0 call){ops:Array Oper}{draw:Bool}(h:Wo P base w0 σ s w) (hE:EnvR σ ρ r){ρ':T X}{s':St}(hx:xreg P n call ops draw ρ s=some (ρ',s')){K:Env->World->Prop}
  (hK:FinE P base w0 σ ρ' s' K):∃ hh,vcReg P n ops draw hh r w K:=by
 unfold xreg at hx
 cases draw with
 |false=>exact⟨.text,Zn4 (hcall _ _) false _ _ h hE hx hK⟩
 |true=>
  simp only at hx
  have stg:(match stagedB ops ops.toList (msOf ops.toList []) ops.toList 0 with
   |true=>xst P call n ops.toList (befM (msOf ops.toList [])) ops.toList 0 [] [] ρ s
   |false=>xtr P call n ops ρ s)=some (ρ',s')->∃ hh,vcReg P n ops true hh r w K:=by
   intro hx
   cases hs:stagedB ops ops.toList (msOf ops.toList []) ops.toList 0 with
   |false=>
    rw[hs] at hx;replace hx:xtr P call n ops ρ s=some (ρ',s'):=hx;unfold xtr xtr0 xtr1 at hx
    cases ht:treeB ops ops.toList (msOf ops.toList []) (mkT ops.toList (msOf ops.toList []) (ops.toList.length+1) 0) with
    |false=>rw[ht] at hx;cases hx
    |true=>
     rw[ht] at hx;refine⟨.tree (msOf ops.toList []) (mkT ops.toList (msOf ops.toList []) (ops.toList.length+1) 0),?_⟩;simp only[vcReg,ht];exact Yat hcall h.drew hE hx hK
   |true=>
    rw[hs] at hx;refine⟨.staged (msOf ops.toList []),?_⟩;simp only[vcReg,hs];exact Zli (hcall _ _) _ _ (pend:=[]) (past:=[]) (pend':=[]) (past':=[]) h.drew hE trivial trivial hx hK
  cases h1:Region.lexB .any ops with
  |false=>rw[h1] at hx;exact stg hx
  |true=>
   cases h2:allStill ops.toList with
   |false=>rw[h1,h2] at hx;exact stg hx
   |true=>
    rw[h1,h2] at hx;refine⟨.still,?_⟩;simp only[vcReg,h1,h2];exact Zn4 (hcall _ _) true _ _ h.drew hE hx hK
def LR (P:Program) (c:Code) (Q:Exit->Act->World->Prop):Nat->Act->World->Prop
 |0,_,_=>False
 |k+1,a,w=>c.wp P (Exit.then (LR P c Q k) Q) a w
theorem least_of {p:Nat->Prop}:∀ n,p n->∃ m,p m/\∀ k,k < m->¬ p k:=by
 intro n
 induction n using Nat.strongRecOn with
 |_ n ih=>
  intro hn
  by_cases h:∃ k,k < n/\p k
  ·obtain⟨k,hk,hp⟩:=h;exact ih k hk hp
  ·exact⟨n,hn,λk hk hp=>h ⟨k,hk,hp⟩⟩
theorem Zxb {c:Code}{Q:Exit->Act->World->Prop}{k:Nat}{a:Act}(h:LR P c Q k a w):(Code.loop c).wp P Q a w:=by
 classical
 have key:∀ a w,(∃ k,LR P c Q k a w)->∃ m,LR P c Q m a w/\∀ k,k < m->¬ LR P c Q k a w:=λa w ⟨k,hk⟩=>least_of k hk;refine wp_loop (λa w=>∃ k,LR P c Q k a w) (λa w=>if h:∃ k,LR P c Q k a w then Classical.choose (key a w h) else 0) ⟨k,h⟩ ?_;intro a1 w1 h1;obtain⟨hm,hmin⟩:=Classical.choose_spec (key a1 w1 h1);rw[dif_pos h1];generalize Classical.choose (key a1 w1 h1)=m at hm hmin
 cases m with
 |zero=>exact hm.elim
 |succ m=>
  refine wp_mono hm λe a2 w2 h2=>?_
  cases e with
  |normal=>
   refine⟨⟨m,h2⟩,?_⟩;have h3:∃ k,LR P c Q k a2 w2:=⟨m,h2⟩;rw[dif_pos h3];obtain⟨_,g2⟩:=Classical.choose_spec (key a2 w2 h3);rcases hU_ m (Classical.choose (key a2 w2 h3)) with h4|h4
   ·exact absurd h2 (g2 m h4)
   ·omega
  |_=>exact h2
abbrev Run:=Nat->Code->T X->St->Option (Exit × T X × St)
def argX (d:Nat):List X->Nat->T X->T X
 |[],_,ρ=>ρ
 |x::l,i,ρ=>argX d l (i+1) (T.set d ρ i i x)
theorem Zov {d:Nat}:∀ (xs:List X) (i:Nat) (ρ:T X) (t:Nat) (x:X),(argX d xs i ρ).get t t=some x->(i<=t/\xs[t - i]?=some x)\/ρ.get t t=some x
 |[],i,ρ,t,x,h=>.inr h
 |y::l,i,ρ,t,x,h=>by
  rcases Zov l (i+1) _ t x h with⟨h1,h2⟩|h1
  ·refine .inl ⟨by omega,?_⟩;rw[show t - i=(t - (i+1))+1 by omega,gF];exact h2
  ·rcases T.get_set d ρ i i y t t x (λe=>e) h1 with⟨rfl,rfl⟩|⟨_,h2⟩
   ·exact .inl ⟨Nat.le_refl _,by simp⟩
   ·exact .inr h2
theorem Yau {d:Nat}{xs:List X}{vs:List Value}(h:vls σ xs=some vs):EnvR σ (argX d xs 0 .e) ⟨args0 vs 0,λ_=>undef⟩:=by
 intro t x ht;rcases Zov xs 0 .e t x ht with⟨_,h2⟩|h2
 ·obtain⟨v,g1,g2⟩:=Zeb h h2;rw[g2];unfold Env.get;simp only[Zds,Nat.zero_le,if_true,g1]
 ·cases h2
def xres (P:Program) (ρ:T X) (s:St):List ResultVar->List X->Option X
 |[],[x]=>some x
 |[],xs=>some (.t xs.reverse)
 |.tmp t::l,xs=>(match ρ.get t t with
  |some x=>xres P ρ s l (x::xs)
  |none=>none)
 | .cell x t :: l, xs => (match xval P ρ s ⟨none, .load t (.tmp x), t, "", #[], none⟩ with
  |some y=>xres P ρ s l (y::xs)
  |none=>none)
theorem Ybf {xs:List X}{vs:List Value}(h:vls σ xs=some vs):vls σ xs.reverse=some vs.reverse:=by
 induction xs generalizing vs with
 |nil=>simp only[vls,Option.some.injEq] at h;subst h;rfl
 |cons x l ih=>
  obtain⟨v,us,h1,h2,rfl⟩:=Za6 h;rw[List.reverse_cons,List.reverse_cons];exact Zfg (ih h2) (Zbo h1 rfl)
theorem Zng (hM:Mem P base σ s w) (hE:EnvR σ ρ r):∀ {rs:List ResultVar}{xs:List X}{vs:List Value}{x:X}{R:KT},xres P ρ s rs xs=some x->vls σ xs=some vs->(∀ v,vl σ x=some v->R v w)->ResK P r w R rs vs
 |[],[],vs,x,R,h,hv,hR=>by
  simp only[vls,Option.some.injEq] at hv;subst hv;simp only[xres,Option.some.injEq] at h;subst h;exact hR _ rfl
 |[],[y],vs,x,R,h,hv,hR=>by
  obtain⟨v,us,h1,h2,rfl⟩:=Za6 hv;simp only[vls,Option.some.injEq] at h2;subst h2;simp only[xres,Option.some.injEq] at h;subst h;exact hR _ h1
 |[],y::z::l,vs,x,R,h,hv,hR=>by
  have hr:=Ybf hv;obtain⟨v,us,h1,h2,rfl⟩:=Za6 hv;obtain⟨v2,us2,h3,h4,rfl⟩:=Za6 h2;simp only[xres,Option.some.injEq] at h;subst h;exact hR _ (by simp only[vl,hr])
 |.tmp t::l,xs,vs,x,R,h,hv,hR=>by
  simp only[xres] at h
  cases hx:ρ.get t t with
  |none=>rw[hx] at h;cases h
  |some y=>
   rw[hx] at h;replace h:xres P ρ s l (y::xs)=some x:=h;show ResK P r w R l (r.get t::vs);exact Zng hM hE h (Zbo (hE t y hx) hv) hR
 |.cell q t::l,xs,vs,x,R,h,hv,hR=>by
  simp only[xres] at h
  cases hx : xval P ρ s ⟨none, .load t (.tmp q), t, "", #[], none⟩ with
  |none=>rw[hx] at h;cases h
  |some y=>
   rw[hx] at h;replace h:xres P ρ s l (y::xs)=some x:=h;exact Zcw hM hE hx true λv hvv=>Zng hM hE h (Zbo hvv hv) hR
def eqPs:List (X × X)->List (X × X)->Bool
 |[],[]=>true
 |x::a,y::c=>match eqX x.1 y.1 with
  |true=>(match eqX x.2 y.2 with
   |true=>eqPs a c
   |false=>false)
  |false=>false
 |_,_=>false
theorem Zv1:∀ (x y:List (X × X)),eqPs x y=true->x=y
 |[],y,h=>by cases y <;> simp[eqPs] at h;rfl
 |(x1,x2)::a,y,h=>by
  cases y with
  |nil=>simp[eqPs] at h
  |cons z c=>
   obtain⟨z1,z2⟩:=z;simp only[eqPs] at h;split at h
   ·rename_i h1;split at h
    ·rename_i h2;rw[Zel _ _ h1,Zel _ _ h2,Zv1 a c h]
    ·cases h
   ·cases h
def eqB:Option (Option Blk)->Blk->Bool
 |some (some c),d=>(match Nat.beq c.1 d.1 with
  |true=>eqXs c.2 d.2
  |false=>false)
 |_,_=>false
theorem Yd3 {o:Option (Option Blk)}{d:Blk}(h:eqB o d=true):o=some (some d):=by
 unfold eqB at h;split at h
 ·rename_i c;obtain⟨c1,c2⟩:=c;obtain⟨d1,d2⟩:=d;simp only at h;split at h
  ·rename_i h1;have:=Nat.eq_of_beq_eq_true h1;subst this;rw[Zd6 _ _ h]
  ·cases h
 ·cases h
def eqM:Option (Option M)->M->Bool
 |some (some (.mp a)),.mp c=>eqPs a c
 |some (some (.it a p)),.it c q=>(match Nat.beq p q with
  |true=>decide (a=c)
  |false=>false)
 |_,_=>false
theorem Ybz {o:Option (Option M)}{d:M}(h:eqM o d=true):o=some (some d):=by
 unfold eqM at h;split at h
 ·rw[Zv1 _ _ h]
 ·split at h
  ·rename_i h1;have:=Nat.eq_of_beq_eq_true h1;subst this;rw[of_decide_eq_true h]
  ·cases h
 ·cases h
def subH (s:T (Option Blk)):T (Option Blk)->Bool
 |.e=>true
 |.lf k v=>(match v with
  |none=>true
  |some c=>eqB (s.get k k) c)
 |.nd a b=>(match subH s a with
  |true=>subH s b
  |false=>false)
theorem Zmq {s:T (Option Blk)}:∀ (t:T (Option Blk)),subH s t=true->∀ i q c,t.get i q=some (some c)->s.get q q=some (some c)
 |.e,_,i,q,c,h=>by rw[T.get_e] at h;cases h
 |.lf k v,hs,i,q,c,h=>by
  rw[T.get_lf] at h;split at h
  ·rename_i hb;have:=Nat.eq_of_beq_eq_true hb;subst this;obtain rfl:=Option.some.inj h;exact Yd3 hs
  ·cases h
 |.nd a b,hs,i,q,c,h=>by
  rw[T.get_nd] at h;simp only[subH] at hs;split at hs
  ·rename_i h1;split at h
   ·exact Zmq a h1 _ q c h
   ·exact Zmq b hs _ q c h
  ·cases hs
def subM (s:T (Option M)):T (Option M)->Bool
 |.e=>true
 |.lf k v=>(match v with
  |none=>true
  |some c=>eqM (s.get k k) c)
 |.nd a b=>(match subM s a with
  |true=>subM s b
  |false=>false)
theorem Zms {s:T (Option M)}:∀ (t:T (Option M)),subM s t=true->∀ i q c,t.get i q=some (some c)->s.get q q=some (some c)
 |.e,_,i,q,c,h=>by rw[T.get_e] at h;cases h
 |.lf k v,hs,i,q,c,h=>by
  rw[T.get_lf] at h;split at h
  ·rename_i hb;have:=Nat.eq_of_beq_eq_true hb;subst this;obtain rfl:=Option.some.inj h;exact Ybz hs
  ·cases h
 |.nd a b,hs,i,q,c,h=>by
  rw[T.get_nd] at h;simp only[subM] at hs;split at hs
  ·rename_i h1;split at h
   ·exact Zms a h1 _ q c h
   ·exact Zms b hs _ q c h
  ·cases hs
def eqG:List (Nat × List X)->List (Nat × List X)->Bool
 |[],[]=>true
 |x::a,y::c=>match Nat.beq x.1 y.1 with
  |true=>(match eqXs x.2 y.2 with
   |true=>eqG a c
   |false=>false)
  |false=>false
 |_,_=>false
theorem Zz4:∀ (x y:List (Nat × List X)),eqG x y=true->x=y
 |[],y,h=>by cases y <;> simp[eqG] at h;rfl
 |(x1,x2)::a,y,h=>by
  cases y with
  |nil=>simp[eqG] at h
  |cons z c=>
   obtain⟨z1,z2⟩:=z;simp only[eqG] at h;split at h
   ·rename_i h1;split at h
    ·rename_i h2;rw[show x1=z1 from Nat.eq_of_beq_eq_true h1,Zd6 _ _ h2,Zz4 a c h]
    ·cases h
   ·cases h
def subS (s q:St):Bool:=match Nat.beq q.k s.k with
 |true=>(match Nat.beq q.n s.n with
  |true=>(match subH s.h q.h with
   |true=>(match subM s.m q.m with
    |true=>(match q.g with
     |[]=>true
     |_::_=>eqG q.g s.g)
    |false=>false)
   |false=>false)
  |false=>false)
 |false=>false
theorem jn_eq {α:Type}{o:Option (Option α)}{c:α}(h:jn o=some c):o=some (some c):=by
 cases o with
 |none=>cases h
 |some o=>
  cases o with
  |none=>cases h
  |some x=>obtain rfl:=Option.some.inj h;rfl
structure Less (s q:St):Prop where
 k:q.k=s.k
 n:q.n=s.n
 b:∀ b c,q.blk b=some c->s.blk b=some c
 m:∀ b c,q.mo b=some c->s.mo b=some c
 g:∀ g xs,lkG q.g g=some xs->lkG s.g g=some xs
theorem Zsh {s q:St}(hq:subS s q=true):Less s q:=by
 unfold subS at hq;split at hq
 ·rename_i h1;split at hq
  ·rename_i h2;split at hq
   ·rename_i h3;split at hq
    ·rename_i h4;refine⟨Nat.eq_of_beq_eq_true h1,Nat.eq_of_beq_eq_true h2,λb c hc=>?_,λb c hc=>?_,λg xs hx=>?_⟩
     ·show jn (s.h.get b b)=some c;rw[Zmq _ h3 b b c (jn_eq hc)];rfl
     ·show jn (s.m.get b b)=some c;rw[Zms _ h4 b b c (jn_eq hc)];rfl
     ·split at hq
      ·rename_i hz;rw[hz] at hx;cases hx
      ·rw[Zz4 _ _ hq] at hx;exact hx
    ·cases hq
   ·cases hq
  ·cases hq
 ·cases hq
theorem Wo.sub {q:St}(l:Less s q) (h:Wo P base w0 σ s w):Wo P base w0 σ q w:=by
 have hf:=h.fresh;refine⟨⟨λb e cs hq=>h.mem.own b e cs (l.b _ _ hq),λb c x y r r' h1 h2=>h.mem.apart b c x y r r' (l.b _ _ h1) (l.b _ _ h2),λb o ho=>h.mem.mown b o (l.m _ _ ho),λb c x y r r' h1 h2=>h.mem.mapart b c x y r r' (l.m _ _ h1) (l.m _ _ h2),λg xs hx=>h.mem.glb g xs (l.g _ _ hx)⟩,?_,h.fram⟩;show FreshN base σ q.n q.k;rw[l.k,l.n];exact hf
def mrg {α:Type}:T α->T α->T α
 |.e,s=>s
 |.lf k v,_=>.lf k v
 |.nd a b,s=>(match s with
  |.nd c d=>.nd (mrg a c) (mrg b d)
  |_=>.nd a b)
theorem Zj6 {α:Type}:∀ (t s:T α) (i q:Nat) (x:α),(mrg t s).get i q=some x->t.get i q=some x\/(t.get i q=none/\s.get i q=some x)
 |.e,s,i,q,x,h=>by
  simp only[mrg] at h;exact .inr ⟨T.get_e _ _,h⟩
 |.lf k v,s,i,q,x,h=>by
  simp only[mrg] at h;exact .inl h
 |.nd a b,s,i,q,x,h=>by
  cases s with
  |nd c d=>
   simp only[mrg] at h;rw[T.get_nd] at h;rw[T.get_nd,T.get_nd];split at h
   ·exact Zj6 a c _ q x h
   ·exact Zj6 b d _ q x h
  |_=>
   simp only[mrg] at h;exact .inl h
def mrgS (s q':St):St:=⟨mrg q'.h s.h,q'.n,q'.k,mrg q'.m s.m,s.g⟩
def domH {α:Type}(t:T α):T α->Bool
 |.e=>true
 |.lf k _=>(match t.get k k with
  |some _=>true
  |none=>false)
 |.nd a b=>(match domH t a with
  |true=>domH t b
  |false=>false)
theorem Zjy {α:Type}{t:T α}:∀ (u:T α),domH t u=true->∀ i q x,u.get i q=some x->t.get q q≠none
 |.e,_,i,q,c,h=>by rw[T.get_e] at h;cases h
 |.lf k v,hs,i,q,c,h=>by
  rw[T.get_lf] at h;split at h
  ·rename_i hb;have:=Nat.eq_of_beq_eq_true hb;subst this;simp only[domH] at hs;split at hs
   ·rename_i y hy;rw[hy];exact λh=>by cases h
   ·cases hs
  ·cases h
 |.nd a b,hs,i,q,c,h=>by
  rw[T.get_nd] at h;simp only[domH] at hs;split at hs
  ·rename_i h1;split at h
   ·exact Zjy a h1 _ q c h
   ·exact Zjy b hs _ q c h
  ·cases hs
def domS (q q':St):Bool:=match domH q'.h q.h with
 |true=>domH q'.m q.m
 |false=>false
def bsF (base:Bs) (σ:Sg) (s q:St):Bs:=⟨λa=>base.pr a\/(∃ b c r,s.blk b=some c/\q.blk b=none/\σ b=some r/\r.1=a)\/(∃ b c r,s.mo b=some c/\q.mo b=none/\σ b=some r/\r.1=a),base.res,base.gp,λa h=>.inl (base.gpr a h)⟩
theorem Wo.part {q:St}(l:Less s q) (h:Wo P base w0 σ s w):Wo P (bsF base σ s q) w σ q w:=by
 have h0:=h.sub l;refine⟨⟨λb e cs hq=>?_,h0.mem.apart,λb o ho=>?_,h0.mem.mapart,h0.mem.glb⟩,⟨h0.fresh.nx,h0.fresh.lt,h0.fresh.ge,h0.fresh.rs⟩,⟨.refl w,λc hc=>?_,λ_ _=>rfl⟩⟩
 ·obtain⟨rb,off,k,pre,vs,sp,post,g⟩:=h0.mem.own b e cs hq;refine⟨rb,off,k,pre,vs,sp,post,⟨g.sg_,g.val,g.pre_,g.sp_,g.heap,?_,g.flat,g.mul_,g.nsp⟩⟩;rintro (hp|⟨c,x,r,h1,h2,h3,h4⟩|⟨c,x,r,h1,h2,h3,h4⟩)
  ·exact g.low hp
  ·have hne:b≠c:=λe=>by subst e;rw[hq] at h2;cases h2
   exact h.mem.apart b c _ _ _ _ (l.b _ _ hq) h1 hne g.sg_ h3 h4.symm
  ·obtain⟨fz,hh,_⟩:=g.heap;exact h.mem.sep h1 ⟨_,_,_,hh⟩ h3 h4
 ·obtain⟨rb,g1,g2,g3⟩:=h0.mem.mown b o ho;refine⟨rb,g1,?_,g3⟩;rintro (hp|⟨c,x,r,h1,h2,h3,h4⟩|⟨c,x,r,h1,h2,h3,h4⟩)
  ·exact g2 hp
  ·obtain⟨e,cs⟩:=x;obtain⟨rb',off',k',pre',vs',sp',post',g'⟩:=h.mem.own c e cs h1;have e1:=g'.sg_;rw[h3] at e1;obtain rfl:=Option.some.inj e1;obtain⟨fz,hh,_⟩:=g'.heap;exact h.mem.sep (l.m _ _ ho) ⟨_,_,_,hh⟩ g1 h4.symm
  ·have hne:b≠c:=λe=>by subst e;rw[ho] at h2;cases h2
   exact h.mem.mapart b c _ _ _ _ (l.m _ _ ho) h1 hne g1 h3 h4.symm
 ·rcases hc with hp|⟨b,x,r,h1,h2,h3,h4⟩|⟨b,x,r,h1,h2,h3,h4⟩
  ·exact h.fram.low c hp
  ·obtain⟨e,cs⟩:=x;obtain⟨rb',off',k',pre',vs',sp',post',g'⟩:=h.mem.own b e cs h1;have e1:=g'.sg_;rw[h3] at e1;obtain rfl:=Option.some.inj e1;rw[<-h4];exact g'.lt
  ·obtain⟨rb',k1,k2,k3⟩:=h.mem.mown b x h1;rw[h3] at k1;obtain rfl:=Option.some.inj k1;rw[<-h4];exact k3.lt
theorem Wo.back {σ':Sg}{q q':St}(l:Less s q) (h:Wo P base w0 σ s w) (hd:domS q q'=true) (hx:Ext σ σ') (g:Wo P (bsF base σ s q) w σ' q' w'):Wo P base w0 σ' (mrgS s q') w':=by
 have hd1:domH q'.h q.h=true/\domH q'.m q.m=true:=by
  unfold domS at hd;split at hd
  ·rename_i h1;exact⟨h1,hd⟩
  ·cases hd
 have hb:∀ b c,(mrgS s q').blk b=some c->q'.blk b=some c\/(s.blk b=some c/\q.blk b=none):=λb c hc=>by
  rcases Zj6 _ _ _ _ _ (jn_eq hc) with h1|⟨h1,h2⟩
  ·left;show jn (q'.h.get b b)=some c;rw[h1];rfl
  ·right;refine⟨by show jn (s.h.get b b)=some c;rw[h2];rfl,?_⟩
   cases hq:q.blk b with
   |none=>rfl
   |some y=>exact absurd h1 (Zjy _ hd1.1 b b _ (jn_eq hq))
 have hm:∀ b c,(mrgS s q').mo b=some c->q'.mo b=some c\/(s.mo b=some c/\q.mo b=none):=λb c hc=>by
  rcases Zj6 _ _ _ _ _ (jn_eq hc) with h1|⟨h1,h2⟩
  ·left;show jn (q'.m.get b b)=some c;rw[h1];rfl
  ·right;refine⟨by show jn (s.m.get b b)=some c;rw[h2];rfl,?_⟩
   cases hq:q.mo b with
   |none=>rfl
   |some y=>exact absurd h1 (Zjy _ hd1.2 b b _ (jn_eq hq))
 have pb:∀ {b c r},s.blk b=some c->q.blk b=none->σ b=some r->(bsF base σ s q).pr r.1:=λh1 h2 h3=>.inr (.inl ⟨_,_,_,h1,h2,h3,rfl⟩);have pm:∀ {b c r},s.mo b=some c->q.mo b=none->σ b=some r->(bsF base σ s q).pr r.1:=λh1 h2 h3=>.inr (.inr ⟨_,_,_,h1,h2,h3,rfl⟩)
 have kp:∀ {c:Nat} {o:Obj},(bsF base σ s q).pr c->w.heap[c]?=some o->w'.heap[c]?=some o:=λhp ho=>by rw[g.fram.old _ hp];exact ho
 have sb:∀ {b c r},s.blk b=some c->σ' b=some r->σ b=some r:=λ{b c r} h1 h2=>by
  obtain⟨e,cs⟩:=c;obtain⟨_,_,_,_,_,_,_,g'⟩:=h.mem.own b e cs h1;have e1:=hx _ _ g'.sg_;rw[h2] at e1;rw[e1];exact g'.sg_
 have sm:∀ {b c r},s.mo b=some c->σ' b=some r->σ b=some r:=λ{b c r} h1 h2=>by
  obtain⟨_,g',_⟩:=h.mem.mown b c h1;have e1:=hx _ _ g';rw[h2] at e1;rw[e1];exact g'
 have gb:∀ {b c r},q'.blk b=some c->σ' b=some r->¬ (bsF base σ s q).pr r.1:=λ{b c r} h1 h2=>by
  obtain⟨e,cs⟩:=c;obtain⟨_,_,_,_,_,_,_,g'⟩:=g.mem.own b e cs h1;have e1:=g'.sg_;rw[h2] at e1;obtain rfl:=Option.some.inj e1;exact g'.low
 have gm:∀ {b c r},q'.mo b=some c->σ' b=some r->¬ (bsF base σ s q).pr r.1:=λ{b c r} h1 h2=>by
  obtain⟨_,g',g2,_⟩:=g.mem.mown b c h1;rw[h2] at g';obtain rfl:=Option.some.inj g';exact g2
 refine⟨⟨λb e cs hq=>?_,λb c x y r r' h1 h2 hne e1 e2=>?_,λb o ho=>?_,λb c x y r r' h1 h2 hne e1 e2=>?_,λv xs hv=>?_⟩,⟨g.fresh.nx,g.fresh.lt,g.fresh.ge,g.fresh.rs⟩,h.fram.step g.fram λa ha=>.inl ha⟩
 ·rcases hb _ _ hq with h1|⟨h1,h2⟩
  ·obtain⟨rb,off,k,pre,vs,sp,post,g'⟩:=g.mem.own b e cs h1;exact⟨rb,off,k,pre,vs,sp,post,g'.rebase λha=>g'.low (.inl ha)⟩
  ·obtain⟨rb,off,k,pre,vs,sp,post,g'⟩:=h.mem.own b e cs h1;exact⟨rb,off,k,pre,vs,sp,post,(g'.keep λo=>kp (pb h1 h2 g'.sg_)).ext hx⟩
 ·rcases hb _ _ h1 with k1|⟨k1,k2⟩ <;> rcases hb _ _ h2 with j1|⟨j1,j2⟩
  ·exact g.mem.apart b c x y r r' k1 j1 hne e1 e2
  ·exact λhe=>gb k1 e1 (he▸pb j1 j2 (sb j1 e2))
  ·exact λhe=>gb j1 e2 (he▸pb k1 k2 (sb k1 e1))
  ·exact h.mem.apart b c x y r r' k1 j1 hne (sb k1 e1) (sb j1 e2)
 ·rcases hm _ _ ho with h1|⟨h1,h2⟩
  ·obtain⟨rb,k1,k2,k3⟩:=g.mem.mown b o h1;exact⟨rb,k1,λha=>k2 (.inl ha),k3⟩
  ·obtain⟨rb,k1,k2,k3⟩:=h.mem.mown b o h1;exact⟨rb,hx _ _ k1,k2,(k3.keep λo=>kp (pm h1 h2 k1)).ext hx⟩
 ·rcases hm _ _ h1 with k1|⟨k1,k2⟩ <;> rcases hm _ _ h2 with j1|⟨j1,j2⟩
  ·exact g.mem.mapart b c x y r r' k1 j1 hne e1 e2
  ·exact λhe=>gm k1 e1 (he▸pm j1 j2 (sm j1 e2))
  ·exact λhe=>gm j1 e2 (he▸pm k1 k2 (sm k1 e1))
  ·exact h.mem.mapart b c x y r r' k1 j1 hne (sm k1 e1) (sm j1 e2)
 ·exact h.mem.keepG (λc o hp=>kp (.inl hp)) v xs hv
inductive Ent
 |c (f:FuncId) (xs:List X) (x:X)
 |s (f:FuncId) (xs:List X) (q:St) (x:X) (q':St)
def memo:List Ent->FuncId->List X->St->Option (X × St)
 |[],_,_,_=>none
 |.c g ys x::l,f,xs,s=>(match Nat.beq g f with
  |true=>(match eqXs ys xs with
   |true=>some (x,s)
   |false=>memo l f xs s)
  |false=>memo l f xs s)
 |.s g ys q x q'::l,f,xs,s=>(match Nat.beq g f with
  |true=>(match eqXs ys xs with
   |true=>(match subS s q with
    |true=>some (x,mrgS s q')
    |false=>memo l f xs s)
   |false=>memo l f xs s)
  |false=>memo l f xs s)
def nsg:Sg:=λ_=>none
def EntOk (P:Program):Ent->Prop
 |.c f xs x=>isExt P f=false/\∃ vs v,vls nsg xs=some vs/\vl nsg x=some v/\∀ (w:World) (L:List HProp) (K:KT),Holds w L->(∀ w',Same w w'->Holds w' L->K v w')->Cl P f vs.toArray w K
 |.s f xs q x q'=>domS q q'=true/\∀ (base:Bs) (w0:World) σ w vs,Wo P base w0 σ q w->vls σ xs=some vs->∀ K,Fin P base w0 σ x q' K->isExt P f=false/\Cl P f vs.toArray w K
def OraOk (P:Program) (M:List Ent):Prop:=∀ e∈M,EntOk P e
theorem Wo.keepAll (h:Wo P base w0 σ s w) (S:Same w w') (ho:∀ (c:Nat) (o:Obj),w.heap[c]?=some o->w'.heap[c]?=some o):Wo P base w0 σ s w':=by
 refine⟨⟨λb e cs hq=>?_,h.mem.apart,λb o hq=>?_,h.mem.mapart,h.mem.keepG λc o _ hc=>ho c o hc⟩,h.fresh,h.fram.same.trans S,λc hc=>Nat.lt_of_lt_of_le (h.fram.low c hc) S.size,λc hc=>?_⟩
 ·obtain⟨rb,off,k,pre,vs,sp,post,g⟩:=h.mem.own b e cs hq;exact⟨rb,off,k,pre,vs,sp,post,g.keep (ho _)⟩
 ·obtain⟨rb,h1,h2,h3⟩:=h.mem.mown b o hq;exact⟨rb,h1,h2,h3.keep (ho _)⟩
 ·rw[<-h.fram.old c hc];have hlt:=h.fram.low c hc;have h2:w.heap[c]?=some w.heap[c]:=Array.getElem?_eq_getElem hlt;rw[h2];exact ho c _ h2
theorem Yag {M:List Ent}(hM:OraOk P M){f:FuncId}{xs:List X}{x:X}{s':St}(h:memo M f xs s=some (x,s')){vs:List Value}(hw:Wo P base w0 σ s w) (hv:vls σ xs=some vs){K:KT}(hK:Fin P base w0 σ x s' K):isExt P f=false/\Cl P f vs.toArray w K:=by
 induction M with
 |nil=>cases h
 |cons e l ih=>
  have rest:=λh=>ih (λe he=>hM e (hK_ _ he)) h
  cases e with
  |c g ys z=>
   simp only[memo] at h
   cases hb:Nat.beq g f with
   |false=>rw[hb] at h;exact rest h
   |true=>
    rw[hb] at h;simp only at h
    cases he:eqXs ys xs with
    |false=>rw[he] at h;exact rest h
    |true=>
     rw[he] at h;simp only[Option.some.injEq,Prod.mk.injEq] at h;obtain⟨rfl,rfl⟩:=h;obtain rfl:=Nat.eq_of_beq_eq_true hb;have he:=Zd6 _ _ he;obtain⟨g1,us,v,g2,g3,g4⟩:=hM _ hJ_;rw[he] at g2
     have hn:Ext nsg σ:=λn r hn=>by cases hn
     have:=Zd7 hn _ _ g2;rw[hv] at this;obtain rfl:=Option.some.inj this;refine⟨g1,g4 w [Vc.whole w] K (Vc.holds_whole w) λw' S' H'=>hK σ w' v (Ext.refl _) (hw.keepAll S' λc o hc=>?_) (Zfo hn _ _ g3)⟩;obtain⟨g,hg,hgs,_⟩:=H';exact hgs _ _ (hg _ _ hc)
  |s g ys q z q'=>
   simp only[memo] at h
   cases hb:Nat.beq g f with
   |false=>rw[hb] at h;exact rest h
   |true=>
    rw[hb] at h;simp only at h
    cases he:eqXs ys xs with
    |false=>rw[he] at h;exact rest h
    |true=>
     rw[he] at h;simp only at h
     cases hs:subS s q with
     |false=>rw[hs] at h;exact rest h
     |true=>
      rw[hs] at h;simp only[Option.some.injEq,Prod.mk.injEq] at h;obtain⟨rfl,rfl⟩:=h;obtain rfl:=Nat.eq_of_beq_eq_true hb;obtain rfl:=Zd6 _ _ he;have l:=Zsh hs;obtain⟨hd,hM⟩:=hM _ hJ_;exact hM (bsF base σ s q) w σ w vs (hw.part l) hv K λσ' w' v hxt hw' hv'=>hK σ' w' v hxt (hw.back l hd hxt hw') hv'
def callX (P:Program) (ora:List Ent) (run:Run) (f:FuncId) (xs:List X) (s:St):Option (X × St):=match memo ora f xs s with
 |some p=>some p
 |none=>(match P.funcs[f]? with
  | some fn => (match fn.body, fn.name == "runtime.NumGoroutine", Nat.ble xs.length fn.ntmps with
   |some c,false,true=>(match run fn.ntmps c (argX (dep fn.ntmps) xs 0 .e) s with
    |some (.normal,ρ',s')|some (.ret,ρ',s')=>(match xres P ρ' s' fn.results.toList [] with
     |some x=>some (x,s')
     |none=>none)
    |_=>none)
   |_,_,_=>none)
  |none=>none)
def RunOk (P:Program) (run:Run):Prop:=∀ (base:Bs) (w0:World) n c ρ s e ρ' s',run n c ρ s=some (e,ρ',s')->∀ σ w a r Q,Wo P base w0 σ s w->Fits n r a->EnvR σ ρ r->
 (∀ σ' w' a' r',Ext σ σ'->Wo P base w0 σ' s' w'->Fits n r' a'->EnvR σ' ρ' r'->Q e a' w')->c.wp P Q a w
theorem Zxf {f:FuncId}{fn:Func}{c:Code}{args:List Value}{w:World}{R:KT}{rs:List ResultVar}
  (hf : P.funcs[f]? = some fn) (hb : fn.body = some c) (hn : (fn.name == "runtime.NumGoroutine") = false)
  (hr:fn.results=rs.toArray) (ha:Nat.ble args.length fn.ntmps=true)
  (hh:∀ a,Fits fn.ntmps ⟨args0 args 0,λ_=>undef⟩ a->c.wp P (λe a' w'=>∃ ρ',Fits fn.ntmps ρ' a'/\fin P rs R e ρ' w') a w):Cl P f args.toArray w R:=by
 refine ⟨by simp [callFunc, hf, (by simpa using hn : ¬ fn.name = "runtime.NumGoroutine"), hb], calls_of_wp hf hb ?_⟩; have ha := Nat.le_of_ble_eq_true ha; refine wp_mono (hh _ ⟨rfl, by simp; omega, fun t => ?_⟩) ?_
 ·unfold Env.get;simp only[Zds,Nat.zero_le,if_true,Nat.sub_zero]
  by_cases hlt:t < args.length
  ·simp[Array.getElem?_append,hlt]
  ·have h1:args[t]?=none:=by simp;omega
   rw[h1];simp only[Array.getD_eq_getD_getElem?,Array.getElem?_append,List.size_toArray,if_neg hlt,Array.getElem?_replicate]
   split <;> rfl
 ·rintro e a w ⟨ρ,hf',h'⟩
  have key:ResK P ρ w R rs []->bodyPost P fn (λe w'=>∃ v,e=.returned v/\R v w') .ret a w:=λh'=>by
   obtain⟨vs,h1,h2⟩:=Zgb hf' rs [] h';refine⟨hf'.defers,_,?_,_,rfl,Zp5 vs (by simpa using h2)⟩;unfold results;rw[Sem.run_bind,hr]
   have:(rs.toArray.mapM fun|.tmp t=>pure (a.tmps.getD t undef)|.cell x t=>do loadVar t (<-asAddr (a.tmps.getD x undef)):Sem (Array Value))=(do pure (<-rs.mapM (rv a.tmps)).toArray):=by
    rw[List.mapM_toArray];rfl
   erw [this]
   simp[h1,Result.andThen]
  cases e <;> simp only[fin] at h' <;> try exact h'.elim
  ·exact key h'
  ·exact key h'
theorem Zjl {ora:List Ent}(hora:OraOk P ora){run:Run}(hrun:RunOk P run):CallOk P base w0 (callX P ora run):=by
 intro f xs s x s' hx σ w vs h hv K hK;unfold callX at hx
 cases ho:memo ora f xs s with
 |some g=>
  rw[ho] at hx;simp only[Option.some.injEq] at hx;subst hx;exact Yag hora ho h hv hK
 |none=>
  rw[ho] at hx;simp only at hx
  cases hf:P.funcs[f]? with
  |none=>rw[hf] at hx;cases hx
  |some fn=>
   rw[hf] at hx;simp only at hx;split at hx
   ·rename_i c hb hn hl;have hlen:=Zas hv;refine⟨by simp only[isExt,hf,hb];rfl,Zxf (rs:=fn.results.toList) hf hb hn (by simp) (by rw[<-hlen];exact hl) λa ha=>?_⟩
    have res:∀ e ρ1 s1,(e=.normal\/e=.ret)->run fn.ntmps c (argX (dep fn.ntmps) xs 0 .e) s=some (e,ρ1,s1)->(match xres P ρ1 s1 fn.results.toList [] with
      |some x=>some (x,s1)
      |none=>none)=some (x,s')->c.wp P (λe a' w'=>∃ ρ',Fits fn.ntmps ρ' a'/\fin P fn.results.toList K e ρ' w') a w:=by
     intro e ρ1 s1 he hr hq
     cases hxr:xres P ρ1 s1 fn.results.toList [] with
     |none=>rw[hxr] at hq;cases hq
     |some y=>
      rw[hxr] at hq;simp only[Option.some.injEq,Prod.mk.injEq] at hq;obtain⟨rfl,rfl⟩:=hq;refine hrun _ _ _ _ _ _ _ _ _ hr σ w a _ _ h ha (Yau hv) λσ' w' a' r' hxt hw hfit hE=>⟨r',hfit,?_⟩;have hk:ResK P r' w' K fn.results.toList []:=Zng hw.mem hE hxr rfl λv hvv=>hK σ' w' v hxt hw hvv;rcases he with rfl|rfl
      ·exact hk
      ·exact hk
    split at hx
    ·rename_i ρ1 s1 hr;exact res _ _ _ (.inl rfl) hr hx
    ·rename_i ρ1 s1 hr;exact res _ _ _ (.inr rfl) hr hx
    ·cases hx
   ·cases hx
def ev (P:Program) (ora:List Ent):Nat->Run
 |0,_,_,_,_=>none
 |k+1,n,c,ρ,s=>match c with
  |.skip=>some (.normal,ρ,s)
  |.label _=>some (.normal,ρ,s)
  |.region _ ops draw=>(match xreg P n (callX P ora (ev P ora k)) ops draw ρ s with
   |some (ρ',s')=>some (.normal,ρ',s')
   |none=>none)
  |.seq x y=>(match ev P ora k n x ρ s with
   |some (.normal,ρ',s')=>ev P ora k n y ρ' s'
   |o=>o)
  |.cond q x y=>(match evX ρ q with
   |some (.b true)=>ev P ora k n x ρ s
   |some (.b false)=>ev P ora k n y ρ s
   |_=>none)
  |.block id x=>(match ev P ora k n x ρ s with
   |some (.exit i,ρ',s')=>(match Nat.beq i id with
    |true=>some (.normal,ρ',s')
    |false=>some (.exit i,ρ',s'))
   |o=>o)
  |.loop x=>(match ev P ora k n x ρ s with
   |some (.normal,ρ',s')=>ev P ora k n (.loop x) ρ' s'
   |o=>o)
  |.exit id=>some (.exit id,ρ,s)
  |.ret=>some (.ret,ρ,s)
  |_=>none
theorem ev_ok (hm:P.follows .mixedOrders=true){ora:List Ent}(hora:OraOk P ora) :
  ∀ k,RunOk P (ev P ora k)/\(∀ (base:Bs) (w0:World) n c ρ s e ρ' s',ev P ora k n (.loop c) ρ s=some (e,ρ',s')->∀ σ w a r Q,Wo P base w0 σ s w->Fits n r a->EnvR σ ρ r->
   (∀ σ' w' a' r',Ext σ σ'->Wo P base w0 σ' s' w'->Fits n r' a'->EnvR σ' ρ' r'->Q e a' w')->LR P c Q k a w):=by
 intro k
 induction k with
 |zero=>
  refine⟨?_,?_⟩
  ·intro base w0 n c ρ s e ρ' s' h;simp only[ev] at h;cases h
  ·intro base w0 n c ρ s e ρ' s' h;simp only[ev] at h;cases h
 |succ k ih=>
  obtain⟨ihR,ihL⟩:=ih
  have loop:∀ (base:Bs) (w0:World) n c ρ s e ρ' s',ev P ora (k+1) n (.loop c) ρ s=some (e,ρ',s')->∀ σ w a r Q,Wo P base w0 σ s w->Fits n r a->EnvR σ ρ r->
   (∀ σ' w' a' r',Ext σ σ'->Wo P base w0 σ' s' w'->Fits n r' a'->EnvR σ' ρ' r'->Q e a' w')->LR P c Q (k+1) a w:=by
   intro base w0 n c ρ s e ρ' s' h σ w a r Q hw hf hE hQ;simp only[ev] at h
   cases hx:ev P ora k n c ρ s with
   |none=>rw[hx] at h;cases h
   |some q=>
    obtain⟨e1,ρ1,s1⟩:=q;rw[hx] at h;refine ihR _ _ _ _ _ _ _ _ _ hx σ w a r _ hw hf hE λσ' w' a' r' hxt hw' hf' hE'=>?_
    cases e1 with
    |normal=>exact ihL _ _ _ _ _ _ _ _ _ h σ' w' a' r' Q hw' hf' hE' λσ2 w2 a2 r2 hxt2 hw2 hf2 hE2=>hQ σ2 w2 a2 r2 (hxt.trans hxt2) hw2 hf2 hE2
    |_=>
     simp only[Option.some.injEq,Prod.mk.injEq] at h;obtain⟨rfl,rfl,rfl⟩:=h;exact hQ σ' w' a' r' hxt hw' hf' hE'
  refine⟨λbase w0 n c ρ s e ρ' s' h σ w a r Q hw hf hE hQ=>?_,loop⟩
  cases c with
  |skip=>
   simp only[ev,Option.some.injEq,Prod.mk.injEq] at h;obtain⟨rfl,rfl,rfl⟩:=h;exact wp_skip (hQ σ w a r (Ext.refl _) hw hf hE)
  |label l=>
   simp only[ev,Option.some.injEq,Prod.mk.injEq] at h;obtain⟨rfl,rfl,rfl⟩:=h;exact wp_label (hQ σ w a r (Ext.refl _) hw hf hE)
  |exit id=>
   simp only[ev,Option.some.injEq,Prod.mk.injEq] at h;obtain⟨rfl,rfl,rfl⟩:=h;exact wp_exit (hQ σ w a r (Ext.refl _) hw hf hE)
  |ret=>
   simp only[ev,Option.some.injEq,Prod.mk.injEq] at h;obtain⟨rfl,rfl,rfl⟩:=h;exact wp_ret (hQ σ w a r (Ext.refl _) hw hf hE)
  |region id ops draw=>
   simp only[ev] at h
   cases hx:xreg P n (callX P ora (ev P ora k)) ops draw ρ s with
   |none=>rw[hx] at h;cases h
   |some q=>
    obtain⟨ρ1,s1⟩:=q;rw[hx] at h;simp only[Option.some.injEq,Prod.mk.injEq] at h;obtain⟨rfl,rfl,rfl⟩:=h;obtain⟨hh,hv⟩:=Zzz (λ_ _=>Zjl hora ihR) hw hE hx (K:=λr' w'=>∃ σ',Ext σ σ'/\Wo P base w0 σ' s1 w'/\EnvR σ' ρ1 r') λσ' w' r' hxt hw' hE'=>⟨σ',hxt,hw',hE'⟩;exact Zh1 hm hv hf λr' a' w' hf' ⟨σ',hxt,hw',hE'⟩=>hQ σ' w' a' r' hxt hw' hf' hE'
  |seq x y=>
   simp only[ev] at h
   cases hx:ev P ora k n x ρ s with
   |none=>rw[hx] at h;cases h
   |some q=>
    obtain⟨e1,ρ1,s1⟩:=q;rw[hx] at h;refine wp_seq (ihR _ _ _ _ _ _ _ _ _ hx σ w a r _ hw hf hE λσ' w' a' r' hxt hw' hf' hE'=>?_)
    cases e1 with
    |normal=>exact ihR _ _ _ _ _ _ _ _ _ h σ' w' a' r' Q hw' hf' hE' λσ2 w2 a2 r2 hxt2 hw2 hf2 hE2=>hQ σ2 w2 a2 r2 (hxt.trans hxt2) hw2 hf2 hE2
    |_=>
     simp only[Option.some.injEq,Prod.mk.injEq] at h;obtain⟨rfl,rfl,rfl⟩:=h;exact hQ σ' w' a' r' hxt hw' hf' hE'
  |cond q x y=>
   simp only[ev] at h
   cases hx:evX ρ q with
   |none=>rw[hx] at h;cases h
   |some z=>
    rw[hx] at h;have hz:=Za3 hE hx
    cases z with
    |b c=>
     simp only[vl,Option.some.injEq] at hz
     cases c with
     |true=>exact wp_cond_true (by rw[hf.eval];exact hz.symm) (ihR _ _ _ _ _ _ _ _ _ h σ w a r Q hw hf hE hQ)
     |false=>exact wp_cond_false (by rw[hf.eval];exact hz.symm) (ihR _ _ _ _ _ _ _ _ _ h σ w a r Q hw hf hE hQ)
    |_=>cases h
  |block id x=>
   simp only[ev] at h
   cases hx:ev P ora k n x ρ s with
   |none=>rw[hx] at h;cases h
   |some q=>
    obtain⟨e1,ρ1,s1⟩:=q;rw[hx] at h;refine wp_block (ihR _ _ _ _ _ _ _ _ _ hx σ w a r _ hw hf hE λσ' w' a' r' hxt hw' hf' hE'=>?_)
    cases e1 with
    |exit i=>
     simp only at h
     cases hb:Nat.beq i id with
     |true=>
      rw[hb] at h;simp only[Option.some.injEq,Prod.mk.injEq] at h;obtain⟨rfl,rfl,rfl⟩:=h;have:=Nat.eq_of_beq_eq_true hb;subst this;simp only[Exit.inBlock,if_true];exact hQ σ' w' a' r' hxt hw' hf' hE'
     |false=>
      rw[hb] at h;simp only[Option.some.injEq,Prod.mk.injEq] at h;obtain⟨rfl,rfl,rfl⟩:=h;simp only[Exit.inBlock,if_neg (Nat.ne_of_beq_eq_false hb)];exact hQ σ' w' a' r' hxt hw' hf' hE'
    |_=>
     simp only[Option.some.injEq,Prod.mk.injEq] at h;obtain⟨rfl,rfl,rfl⟩:=h;exact hQ σ' w' a' r' hxt hw' hf' hE'
  |loop x=>
   exact Zxb (loop _ _ _ _ _ _ _ _ _ h σ w a r Q hw hf hE hQ)
  |_=>simp only[ev] at h;cases h
end
end Go.Ev
/- A verified evaluator for closed calls, last part: its word on a call. No program in sight. -/
namespace Go.Ev
open Go Go.Vc
noncomputable section
variable {P:Program}
def s0G (G:List (Nat × List X)):St:=⟨.e,0,1,.e,G⟩
def s0:St:=s0G []
def bsW (w:World):Bs:=⟨λc=>c < w.heap.size,λ_=>False,λc=>c < w.heap.size,λ_ h=>h⟩
def isTrue:Option (X × St)->Bool
 |some (.b true,_)=>true
 |_=>false
def GOk (G:List (Nat × List X)) (w:World):Prop:=∀ g xs,lkG G g=some xs->∃ e fz vs,vls (λ_=>none) xs=some vs/\w.heap[g]?=some (.cells vs.toArray e fz)
theorem startG {G:List (Nat × List X)}{w:World}(hG:GOk G w):Wo P (bsW w) w (λ_=>none) (s0G G) w:=by
 refine⟨⟨λb e cs h=>?_,λb c x y r r' h=>?_,λb o h=>?_,λb c x y r r' h=>?_,λg xs h=>?_⟩,⟨rfl,Nat.lt_succ_self 0,λ_ _=>rfl,λ_ h=>h.elim⟩,⟨.refl w,λc h=>h,λc _=>rfl⟩⟩
 ·simp[St.blk,s0G,T.get_e,jn] at h
 ·simp[St.blk,s0G,T.get_e,jn] at h
 ·simp[St.mo,s0G,T.get_e,jn] at h
 ·simp[St.mo,s0G,T.get_e,jn] at h
 ·obtain⟨e,fz,vs,h1,h2⟩:=hG g xs h;exact⟨(Array.getElem?_eq_some_iff.1 h2).1,e,fz,vs,h1,h2⟩
theorem start (w:World):Wo P (bsW w) w (λ_=>none) s0 w:=startG λg xs h=>by cases h
theorem Zr0 {w w':World}{L:List HProp}(h:Fram (bsW w) w w') (H:Holds w L):Holds w' L:=by
 refine Sat.mono H λc o hc=>?_;show w'.heap[c]?=some o;have hc':w.heap[c]?=some o:=hc;have hlt:c < w.heap.size:=(Array.getElem?_eq_some_iff.1 hc').1;rw[h.old c hlt,hc']
theorem Zzh (hm:P.follows .mixedOrders=true){f:FuncId}{k:Nat}{M:List Ent}(hM:OraOk P M) (h:isTrue (callX P M (ev P M k) f [] s0)=true){w:World}{L:List HProp}{K:KT}(H:Holds w L)
  (post:∀ w',Same w w'->Holds w' L->K (.bool true) w'):Cl P f #[] w K:=by
 have hc:CallOk P (bsW w) w (callX P M (ev P M k)):=Zjl hM (ev_ok hm hM k).1
 cases hx:callX P M (ev P M k) f [] s0 with
 |none=>rw[hx] at h;cases h
 |some q=>
  obtain⟨x,s'⟩:=q;rw[hx] at h
  cases x with
  |b c=>
   cases c with
   |false=>cases h
   |true=>
    refine (hc f [] s0 _ s' hx _ w [] (start w) rfl K λσ' w' v _ hw hv=>?_).2;simp only[vl,Option.some.injEq] at hv;subst hv;exact post w' hw.fram.same (Zr0 hw.fram H)
  |_=>cases h
end
end Go.Ev
