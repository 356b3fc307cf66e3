/- Several texts in one: E1, E2, E3, F1, F0, Kc, Rx, U38, Rj, Jg, Rl. -/
import Derived.Test.YtieneaffjelhhaaGreatMG1
import Derived.Test.YtieneaffjelhhaaGreatMG0
import Derived.ChangeKeysEq
import Derived.MapKept
import Derived.Lib.UnsafeStr
import Derived.Test.YtieneaffjelhhaaGreatMG2
import Derived.Lib.LaidU8T
import Derived.LaidMore
import Derived.Deep.Slices
import Derived.WideShapes
import Derived.Test.YtieneaffjelhhaaGreatRows
import Derived.Lib.SmallJoins
set_option linter.unusedVariables false
set_option linter.unusedSimpArgs false
set_option linter.unusedSectionVars false
open Go.RowKit (intOf)
open List (foldl_cons length_nil toList_toArray)
namespace Go.Ev
open Go Go.Vc
inductive X where
 |b (v:Bool)
 |i (k:IntKind) (n:Int)
 |s (l:List Nat)
 |p (a:Option (Nat × Nat))
 |l (a:Option (Nat × Nat)) (n c:Nat)
 |ni
 |nf
 |fc (t:TypeId) (x:X)
 |g (xs:List X)
 |t (xs:List X)
 |f (fn:Fn) (a c:List X)
 |m (a:Option Nat)
 |e0 (b o q:Nat)
abbrev Sg:=Nat->Option (Nat × Nat × Nat)
def str (l:List Nat):ByteArray:=⟨(l.map UInt8.ofNat).toArray⟩
mutual
def vl (σ:Sg):X->Option Value
 |.b v=>some (.bool v)
 |.i k n=>some (.int k n)
 |.s l=>some (.string (str l))
 |.p none=>some (.pointer none)
 |.p (some a)=>match σ a.1 with
  |some r=>some (.pointer (some ⟨r.1,r.2.1+a.2,none⟩))
  |none=>none
 |.l none n c=>some (.slice none n c)
 |.l (some a) n c=>match σ a.1 with
  |some r=>some (.slice (some ⟨r.1,r.2.1+a.2,none⟩) n (c+r.2.2))
  |none=>none
 |.ni=>some .nilIface
 |.nf=>some .nilFunc
 |.fc t x=>match vl σ x with
  |some v=>some (.iface t v)
  |none=>none
 |.g xs=>match vls σ xs with
  |some vs=>some (.agg vs.toArray)
  |none=>none
 |.t xs=>match vls σ xs with
  |some vs=>some (.tuple vs.toArray)
  |none=>none
 |.f fn a c=>match vls σ a,vls σ c with
  |some us,some vs=>some (.func fn us.toArray vs.toArray)
  |_,_=>none
 |.m none=>some (.map none)
 |.m (some b)=>match σ b with
  |some r=>some (.map (some r.1))
  |none=>none
 |.e0 b o q=>match σ b with
  |some r=>some (.slice (some ⟨r.1,r.2.1+(if r.2.2=0 then o else q),none⟩) 0 r.2.2)
  |none=>none
def vls (σ:Sg):List X->Option (List Value)
 |[]=>some []
 |x::r=>match vl σ x,vls σ r with
  |some v,some vs=>some (v::vs)
  |_,_=>none
end
def Ext (σ σ':Sg):Prop:=∀ n r,σ n=some r->σ' n=some r
theorem Ext.refl (σ:Sg):Ext σ σ:=λ_ _ h=>h
theorem Ext.trans {a b c:Sg}(h:Ext a b) (k:Ext b c):Ext a c:=λn r e=>k n r (h n r e)
mutual
theorem Zfo {σ σ':Sg}(h:Ext σ σ'):∀ (x:X) (v:Value),vl σ x=some v->vl σ' x=some v
 |.b _,_,e=>e
 |.i _ _,_,e=>e
 |.s _,_,e=>e
 |.p none,_,e=>e
 |.p (some a),v,e=>by
  simp only[vl] at e ⊢
  cases hs:σ a.1 with
  |none=>rw[hs] at e;cases e
  |some r=>rw[hs] at e;rw[h _ _ hs];exact e
 |.l none _ _,_,e=>e
 |.l (some a) n c,v,e=>by
  simp only[vl] at e ⊢
  cases hs:σ a.1 with
  |none=>rw[hs] at e;cases e
  |some r=>rw[hs] at e;rw[h _ _ hs];exact e
 |.ni,_,e=>e
 |.nf,_,e=>e
 |.fc t x,v,e=>by
  simp only[vl] at e ⊢
  cases hs:vl σ x with
  |none=>rw[hs] at e;cases e
  |some u=>rw[hs] at e;rw[Zfo h x u hs];exact e
 |.g xs,v,e=>by
  simp only[vl] at e ⊢
  cases hs:vls σ xs with
  |none=>rw[hs] at e;cases e
  |some u=>rw[hs] at e;rw[Zd7 h xs u hs];exact e
 |.t xs,v,e=>by
  simp only[vl] at e ⊢
  cases hs:vls σ xs with
  |none=>rw[hs] at e;cases e
  |some u=>rw[hs] at e;rw[Zd7 h xs u hs];exact e
 |.f fn a c,v,e=>by
  simp only[vl] at e ⊢
  cases hs:vls σ a with
  |none=>rw[hs] at e;cases e
  |some u=>
   cases hc:vls σ c with
   |none=>rw[hs,hc] at e;cases e
   |some u'=>rw[hs,hc] at e;rw[Zd7 h a u hs,Zd7 h c u' hc];exact e
 |.m none,_,e=>e
 |.m (some b),v,e=>by
  simp only[vl] at e ⊢
  cases hs:σ b with
  |none=>rw[hs] at e;cases e
  |some r=>rw[hs] at e;rw[h _ _ hs];exact e
 |.e0 b o q,v,e=>by
  simp only[vl] at e ⊢
  cases hs:σ b with
  |none=>rw[hs] at e;cases e
  |some r=>rw[hs] at e;rw[h _ _ hs];exact e
theorem Zd7 {σ σ':Sg}(h:Ext σ σ'):∀ (xs:List X) (vs:List Value),vls σ xs=some vs->vls σ' xs=some vs
 |[],_,e=>e
 |x::r,vs,e=>by
  simp only[vls] at e ⊢
  cases hx:vl σ x with
  |none=>rw[hx] at e;cases e
  |some u=>
   cases hr:vls σ r with
   |none=>rw[hx,hr] at e;cases e
   |some us=>rw[hx,hr] at e;rw[Zfo h x u hx,Zd7 h r us hr];exact e
end
theorem Za6 {σ:Sg}{x:X}{r:List X}{vs:List Value}(h:vls σ (x::r)=some vs):∃ v us,vl σ x=some v/\vls σ r=some us/\vs=v::us:=by
 simp only[vls] at h
 cases hx:vl σ x with
 |none=>rw[hx] at h;cases h
 |some u=>
  cases hr:vls σ r with
  |none=>rw[hx,hr] at h;cases h
  |some us=>rw[hx,hr] at h;exact⟨u,us,rfl,rfl,(Option.some.inj h).symm⟩
theorem Zbo {σ:Sg}{x:X}{r:List X}{v:Value}{us:List Value}(h1:vl σ x=some v) (h2:vls σ r=some us):vls σ (x::r)=some (v::us):=by
 simp only[vls,h1,h2]
theorem Zas {σ:Sg}:∀ {xs:List X}{vs:List Value},vls σ xs=some vs->xs.length=vs.length
 |[],vs,h=>by simp only[vls,Option.some.injEq] at h;subst h;rfl
 |x::r,vs,h=>by
  obtain⟨v,us,_,h2,rfl⟩:=Za6 h;simp[Zas h2]
theorem Zfg {σ:Sg}:∀ {xs ys:List X}{us vs:List Value},vls σ xs=some us->vls σ ys=some vs->vls σ (xs++ys)=some (us++vs)
 |[],ys,us,vs,h,k=>by simp only[vls,Option.some.injEq] at h;subst h;exact k
 |x::r,ys,us,vs,h,k=>by
  obtain⟨v,us',h1,h2,rfl⟩:=Za6 h;exact Zbo h1 (Zfg h2 k)
theorem Zeb {σ:Sg}:∀ {xs:List X}{vs:List Value}{i:Nat}{x:X},vls σ xs=some vs->xs[i]?=some x->∃ v,vs[i]?=some v/\vl σ x=some v
 |y::r,vs,0,x,h,e=>by
  obtain⟨v,us,h1,h2,rfl⟩:=Za6 h;simp at e;subst e;exact⟨v,rfl,h1⟩
 |y::r,vs,i+1,x,h,e=>by
  obtain⟨v,us,h1,h2,rfl⟩:=Za6 h;obtain⟨u,e1,e2⟩:=Zeb h2 (by simpa using e);exact⟨u,by simpa using e1,e2⟩
theorem Zrz {σ:Sg}:∀ {xs:List X}{vs:List Value}(i:Nat){x:X}{v:Value},vls σ xs=some vs->vl σ x=some v->vls σ (xs.set i x)=some (vs.set i v)
 |[],vs,i,x,v,h,k=>by simp only[vls,Option.some.injEq] at h;subst h;rfl
 |y::r,vs,0,x,v,h,k=>by
  obtain⟨u,us,h1,h2,rfl⟩:=Za6 h;exact Zbo k h2
 |y::r,vs,i+1,x,v,h,k=>by
  obtain⟨u,us,h1,h2,rfl⟩:=Za6 h;exact Zbo h1 (Zrz i h2 k)
theorem Zb7 {σ:Sg}:∀ {xs:List X}{vs:List Value}(n:Nat),vls σ xs=some vs->vls σ (xs.drop n)=some (vs.drop n)
 |xs,vs,0,h=>by simpa using h
 |[],vs,n+1,h=>by simp only[vls,Option.some.injEq] at h;subst h;rfl
 |y::r,vs,n+1,h=>by
  obtain⟨u,us,h1,h2,rfl⟩:=Za6 h;simpa using Zb7 n h2
theorem Zbd {σ:Sg}:∀ {xs:List X}{vs:List Value}(n:Nat),vls σ xs=some vs->vls σ (xs.take n)=some (vs.take n)
 |xs,vs,0,h=>by simp[vls]
 |[],vs,n+1,h=>by simp only[vls,Option.some.injEq] at h;subst h;rfl
 |y::r,vs,n+1,h=>by
  obtain⟨u,us,h1,h2,rfl⟩:=Za6 h;simpa using Zbo h1 (Zbd n h2)
noncomputable section
inductive T (α:Type) where
 |e
 |lf (k:Nat) (v:α)
 |nd (a b:T α)
def T.get {α:Type}(t:T α):Nat->Nat->Option α:=
 @T.rec α (λ_=>Nat->Nat->Option α) (λ_ _=>none) (λk v _ q=>@Bool.rec (λ_=>Option α) none (some v) (Nat.beq k q))
  (λ_ _ ga gb i q=>@Nat.rec (λ_=>Option α) (ga (Nat.div i 2) q) (λ_ _=>gb (Nat.div i 2) q) (Nat.mod i 2)) t
def T.set {α:Type}(d:Nat):T α->Nat->Nat->α->T α:=
 @Nat.rec (λ_=>T α->Nat->Nat->α->T α) (λ_ _ k v=>.lf k v)
  (λ_ ih t i k v=>@T.rec α (λ_=>T α) (@Nat.rec (λ_=>T α) (.nd (ih .e (Nat.div i 2) k v) .e) (λ_ _=>.nd .e (ih .e (Nat.div i 2) k v)) (Nat.mod i 2))
   (λ_ _=>@Nat.rec (λ_=>T α) (.nd (ih .e (Nat.div i 2) k v) .e) (λ_ _=>.nd .e (ih .e (Nat.div i 2) k v)) (Nat.mod i 2))
   (λa b _ _=>@Nat.rec (λ_=>T α) (.nd (ih a (Nat.div i 2) k v) b) (λ_ _=>.nd a (ih b (Nat.div i 2) k v)) (Nat.mod i 2)) t) d
theorem T.get_e {α:Type}(i q:Nat):(T.e:T α).get i q=none:=rfl
theorem T.get_lf {α:Type}(k:Nat) (v:α) (i q:Nat):(T.lf k v).get i q=match Nat.beq k q with|true=>some v|false=>none:=by
 show @Bool.rec (λ_=>Option α) none (some v) (Nat.beq k q)=_
 cases Nat.beq k q <;> rfl
theorem T.get_nd {α:Type}(a b:T α) (i q:Nat):(T.nd a b).get i q=match i%2 with|0=>a.get (i/2) q|_+1=>b.get (i/2) q:=by
 show @Nat.rec (λ_=>Option α) (a.get (i/2) q) (λ_ _=>b.get (i/2) q) (i%2)=_
 cases i%2 <;> rfl
theorem T.set_0 {α:Type}(t:T α) (i k:Nat) (v:α):T.set 0 t i k v=.lf k v:=rfl
theorem T.set_nd {α:Type}(d:Nat) (a b:T α) (i k:Nat) (v:α):T.set (d+1) (.nd a b) i k v=match i%2 with|0=>.nd (T.set d a (i/2) k v) b|_+1=>.nd a (T.set d b (i/2) k v):=by
 show @Nat.rec (λ_=>T α) (.nd (T.set d a (i/2) k v) b) (λ_ _=>.nd a (T.set d b (i/2) k v)) (i%2)=_
 cases i%2 <;> rfl
theorem T.set_e {α:Type}(d:Nat) (i k:Nat) (v:α):T.set (d+1) .e i k v=match i%2 with|0=>.nd (T.set d .e (i/2) k v) .e|_+1=>.nd .e (T.set d .e (i/2) k v):=by
 show @Nat.rec (λ_=>T α) (.nd (T.set d .e (i/2) k v) .e) (λ_ _=>.nd .e (T.set d .e (i/2) k v)) (i%2)=_
 cases i%2 <;> rfl
theorem T.set_lf {α:Type}(d:Nat) (k':Nat) (v':α) (i k:Nat) (v:α):T.set (d+1) (.lf k' v') i k v=match i%2 with|0=>.nd (T.set d .e (i/2) k v) .e|_+1=>.nd .e (T.set d .e (i/2) k v):=by
 show @Nat.rec (λ_=>T α) (.nd (T.set d .e (i/2) k v) .e) (λ_ _=>.nd .e (T.set d .e (i/2) k v)) (i%2)=_
 cases i%2 <;> rfl
theorem T.get_set {α:Type}:∀ (d:Nat) (t:T α) (i k:Nat) (v:α) (j q:Nat) (x:α),(q=k->j=i)->(T.set d t i k v).get j q=some x->(q=k/\x=v)\/(q≠k/\t.get j q=some x)
 |0,t,i,k,v,j,q,x,hj,h=>by
  rw[T.set_0,T.get_lf] at h
  cases hb:Nat.beq k q with
  |true=>rw[hb] at h;exact .inl ⟨(Nat.eq_of_beq_eq_true hb).symm,(Option.some.inj h).symm⟩
  |false=>rw[hb] at h;cases h
 |d+1,.nd a b,i,k,v,j,q,x,hj,h=>by
  rw[T.set_nd] at h
  have hj2:q=k->j/2=i/2:=λe=>by rw[hj e]
  cases hi:i%2 with
  |zero=>
   rw[hi] at h;simp only[T.get_nd] at h ⊢
   cases hm:j%2 with
   |zero=>
    rw[hm] at h;exact T.get_set d a _ k v _ q x hj2 h
   |succ m=>
    rw[hm] at h;exact .inr ⟨λe=>by have:=hj e;subst this;omega,h⟩
  |succ n=>
   rw[hi] at h;simp only[T.get_nd] at h ⊢
   cases hm:j%2 with
   |zero=>
    rw[hm] at h;exact .inr ⟨λe=>by have:=hj e;subst this;omega,h⟩
   |succ m=>
    rw[hm] at h;exact T.get_set d b _ k v _ q x hj2 h
 |d+1,.e,i,k,v,j,q,x,hj,h=>by
  rw[T.set_e] at h
  have hj2:q=k->j/2=i/2:=λe=>by rw[hj e]
  cases hi:i%2 with
  |zero=>
   rw[hi] at h;simp only[T.get_nd] at h
   cases hm:j%2 with
   |zero=>
    rw[hm] at h;rcases T.get_set d .e _ k v _ q x hj2 h with h1|⟨h1,h2⟩
    ·exact .inl h1
    ·cases h2
   |succ m=>rw[hm] at h;cases h
  |succ n=>
   rw[hi] at h;simp only[T.get_nd] at h
   cases hm:j%2 with
   |zero=>rw[hm] at h;cases h
   |succ m=>
    rw[hm] at h;rcases T.get_set d .e _ k v _ q x hj2 h with h1|⟨h1,h2⟩
    ·exact .inl h1
    ·cases h2
 |d+1,.lf k' v',i,k,v,j,q,x,hj,h=>by
  rw[T.set_lf] at h
  have hj2:q=k->j/2=i/2:=λe=>by rw[hj e]
  cases hi:i%2 with
  |zero=>
   rw[hi] at h;simp only[T.get_nd] at h
   cases hm:j%2 with
   |zero=>
    rw[hm] at h;rcases T.get_set d .e _ k v _ q x hj2 h with h1|⟨h1,h2⟩
    ·exact .inl h1
    ·cases h2
   |succ m=>rw[hm] at h;cases h
  |succ n=>
   rw[hi] at h;simp only[T.get_nd] at h
   cases hm:j%2 with
   |zero=>rw[hm] at h;cases h
   |succ m=>
    rw[hm] at h;rcases T.get_set d .e _ k v _ q x hj2 h with h1|⟨h1,h2⟩
    ·exact .inl h1
    ·cases h2
abbrev Blk:=TypeId × List X
inductive M where
 |mp (es:List (X × X))
 |it (s:List Nat) (pos:Nat)
structure St where
 h:T (Option Blk)
 n:Nat
 k:Nat
 m:T (Option M)
 g:List (Nat × List X)
def jn {α:Type}:Option (Option α)->Option α
 |some (some c)=>some c
 |_=>none
def St.blk (s:St) (b:Nat):Option Blk:=jn (s.h.get b b)
def St.mo (s:St) (b:Nat):Option M:=jn (s.m.get b b)
def St.put (s:St) (b:Nat) (c:Option Blk):St:=⟨T.set 14 s.h b b c,s.n,s.k,s.m,s.g⟩
def St.mput (s:St) (b:Nat) (c:Option M):St:=⟨s.h,s.n,s.k,T.set 14 s.m b b c,s.g⟩
theorem Zoe {α:Type}{t:T (Option α)}{b q:Nat}{c:Option α}{x:α}(h:jn ((T.set 14 t b b c).get q q)=some x):(q=b/\c=some x)\/(q≠b/\jn (t.get q q)=some x):=by
 cases hg:T.get (T.set 14 t b b c) q q with
 |none=>rw[hg] at h;cases h
 |some y=>
  rw[hg] at h
  cases y with
  |none=>cases h
  |some z=>
   obtain rfl:z=x:=Option.some.inj h;rcases T.get_set 14 t b b c q q _ (λe=>e) hg with⟨h1,h2⟩|⟨h1,h2⟩
   ·exact .inl ⟨h1,h2.symm⟩
   ·refine .inr ⟨h1,?_⟩;rw[h2];rfl
theorem Zd0 {s:St}{b q:Nat}{c:Option Blk}{x:Blk}(h:(s.put b c).blk q=some x):(q=b/\c=some x)\/(q≠b/\s.blk q=some x):=Zoe h
theorem Zff {s:St}{b q:Nat}{c:Option M}{x:M}(h:(s.mput b c).mo q=some x):(q=b/\c=some x)\/(q≠b/\s.mo q=some x):=Zoe h
def szOf (P:Program) (e:TypeId):Nat:=match P.info? e with
 |some i=>i.size
 |none=>0
def isArrB (P:Program) (e:TypeId):Bool:=match P.underlying e with
 |some (.array _ _)=>true
 |_=>false
structure Bs where
 pr:Nat->Prop
 res:Nat->Prop
 gp:Nat->Prop
 gpr:∀ a,gp a->pr a
def lkG:List (Nat × List X)->Nat->Option (List X)
 |[],_=>none
 |p::l,g=>match Nat.beq p.1 g with
  |true=>some p.2
  |false=>lkG l g
structure Own (P:Program) (base:Bs) (σ:Sg) (w:World) (b e:Nat) (cs:List X) (rb off k:Nat) (pre vs sp post:List Value):Prop where
 sg_:σ b=some (rb,off,k)
 val:vls σ cs=some vs
 pre_:pre.length=off
 sp_:sp.length=k*szOf P e
 heap:∃ fz:Nat × Nat,w.heap[rb]?=some (.cells (pre++vs++sp++post).toArray e fz)/\∀ o,o < (pre++vs++sp++post).length->¬ (fz.1<=o/\o < fz.2)
 low:¬ base.pr rb
 flat:vs.all sg=true
 mul_:∃ q,off=q*szOf P e
 nsp:isArrB P e=true->k=0
def EsR (σ:Sg):List (X × X)->List MapEntry->Prop
 |[],[]=>True
 |(k,v)::l,e::l'=>vl σ k=some e.key/\vl σ v=some e.val/\EsR σ l l'
 |_,_=>False
theorem EsR.ext {σ σ':Sg}(hx:Ext σ σ'):∀ {l:List (X × X)}{l':List MapEntry},EsR σ l l'->EsR σ' l l'
 |[],[],_=>trivial
 |(k,v)::l,e::l',⟨h1,h2,h3⟩=>⟨Zfo hx _ _ h1,Zfo hx _ _ h2,EsR.ext hx h3⟩
def MOk (σ:Sg) (w:World) (rb:Nat):M->Prop
 |.mp es=>∃ (l:List MapEntry) (clock:Nat),w.heap[rb]?=some (.map l.toArray clock)/\EsR σ es l
 |.it s p=>w.heap[rb]?=some (.stringIter (str s) p)
theorem MOk.ext {σ σ':Sg}{w:World}{rb:Nat}(hx:Ext σ σ'):∀ {o:M},MOk σ w rb o->MOk σ' w rb o
 |.mp es,⟨l,c,h1,h2⟩=>⟨l,c,h1,h2.ext hx⟩
 |.it s p,h=>h
def NoC (w:World) (rb:Nat):Prop:=∀ c e z,w.heap[rb]?≠some (.cells c e z)
theorem MOk.noC {σ:Sg}{w:World}{rb:Nat}:∀ {o:M},MOk σ w rb o->NoC w rb/\(w.heap[rb]?).isSome=true
 |.mp es,⟨l,c,h1,_⟩=>⟨(λ_ _ _ h=>by rw[h1] at h;cases h),(by rw[h1];rfl)⟩
 |.it s p,h=>⟨(λ_ _ _ h'=>by rw[show w.heap[rb]?=_ from h] at h';cases h'),(by rw[show w.heap[rb]?=_ from h];rfl)⟩
theorem MOk.keep {σ:Sg}{w w':World}{rb:Nat}(hk:∀ o,w.heap[rb]?=some o->w'.heap[rb]?=some o):∀ {o:M},MOk σ w rb o->MOk σ w' rb o
 |.mp es,⟨l,c,h1,h2⟩=>⟨l,c,hk _ h1,h2⟩
 |.it s p,h=>hk _ h
structure Mem (P:Program) (base:Bs) (σ:Sg) (s:St) (w:World):Prop where
 own:∀ b e cs,s.blk b=some (e,cs)->∃ rb off k pre vs sp post,Own P base σ w b e cs rb off k pre vs sp post
 apart:∀ b c x y r r',s.blk b=some x->s.blk c=some y->b≠c->σ b=some r->σ c=some r'->r.1≠r'.1
 mown:∀ b o,s.mo b=some o->∃ rb,σ b=some (rb,0,0)/\¬ base.pr rb/\MOk σ w rb o
 mapart:∀ b c x y r r',s.mo b=some x->s.mo c=some y->b≠c->σ b=some r->σ c=some r'->r.1≠r'.1
 glb:∀ g xs,lkG s.g g=some xs->base.gp g/\∃ e fz vs,vls (λ_=>none) xs=some vs/\w.heap[g]?=some (.cells vs.toArray e fz)
theorem Mem.keepG {P:Program}{base:Bs}{σ:Sg}{s:St}{w w':World}(h:Mem P base σ s w) (ho:∀ (c:Nat) (o:Obj),base.pr c->w.heap[c]?=some o->w'.heap[c]?=some o) :
  ∀ g xs,lkG s.g g=some xs->base.gp g/\∃ e fz vs,vls (λ_=>none) xs=some vs/\w'.heap[g]?=some (.cells vs.toArray e fz):=λg xs hg=>by
 obtain⟨h1,e,fz,vs,h2,h3⟩:=h.glb g xs hg;exact⟨h1,e,fz,vs,h2,ho g _ (base.gpr g h1) h3⟩
theorem Own.ext {P:Program}{base:Bs}{σ σ':Sg}{w:World}{b e:Nat}{cs:List X}{rb off k:Nat}{pre vs sp post:List Value}(h:Own P base σ w b e cs rb off k pre vs sp post) (hx:Ext σ σ'):Own P base σ' w b e cs rb off k pre vs sp post:=
 ⟨hx _ _ h.sg_,Zd7 hx _ _ h.val,h.pre_,h.sp_,h.heap,h.low,h.flat,h.mul_,h.nsp⟩
theorem Mem.ext {P:Program}{base:Bs}{σ σ':Sg}{s:St}{w:World}(h:Mem P base σ s w) (hx:Ext σ σ'):Mem P base σ' s w:=by
 refine⟨λb e cs hb=>?_,λb c x y r r' hb hc hne h1 h2=>?_,λb o hb=>?_,λb c x y r r' hb hc hne h1 h2=>?_,h.glb⟩
 ·obtain⟨rb,off,k,pre,vs,sp,post,h1⟩:=h.own b e cs hb;exact⟨rb,off,k,pre,vs,sp,post,h1.ext hx⟩
 ·obtain⟨e,cs⟩:=x;obtain⟨e',cs'⟩:=y;obtain⟨_,_,_,_,_,_,_,g1⟩:=h.own b e cs hb;obtain⟨_,_,_,_,_,_,_,g2⟩:=h.own c e' cs' hc;have e1:=hx _ _ g1.sg_;have e2:=hx _ _ g2.sg_;rw[h1] at e1;rw[h2] at e2;have f1:=g1.sg_;have f2:=g2.sg_;rw[<-e1] at f1;rw[<-e2] at f2;exact h.apart b c _ _ _ _ hb hc hne f1 f2
 ·obtain⟨rb,h1,h2,h3⟩:=h.mown b o hb;exact⟨rb,hx _ _ h1,h2,h3.ext hx⟩
 ·obtain⟨_,g1,_⟩:=h.mown b x hb;obtain⟨_,g2,_⟩:=h.mown c y hc;have e1:=hx _ _ g1;have e2:=hx _ _ g2;rw[h1] at e1;rw[h2] at e2;rw[<-e1] at g1;rw[<-e2] at g2;exact h.mapart b c _ _ _ _ hb hc hne g1 g2
structure Fram (base:Bs) (w0 w:World):Prop where
 same:Same w0 w
 low:∀ c,base.pr c->c < w.heap.size
 old:∀ c,base.pr c->w.heap[c]?=w0.heap[c]?
structure FreshN (base:Bs) (σ:Sg) (n k:Nat):Prop where
 nx:σ n=none
 lt:n < k
 ge:∀ m,k<=m->σ m=none
 rs:∀ m,base.res m->σ m=none/\m≠n/\m < k
abbrev Fresh (base:Bs) (σ:Sg) (s:St):Prop:=FreshN base σ s.n s.k
end
end Go.Ev
namespace Go.Ev
open Go Go.Vc
noncomputable section
variable {P:Program}{base:Bs}{σ:Sg}{s:St}{w w':World}
theorem Own.keep {b e:Nat}{cs:List X}{rb off k:Nat}{pre vs sp post:List Value}(g:Own P base σ w b e cs rb off k pre vs sp post) (ho:∀ o,w.heap[rb]?=some o->w'.heap[rb]?=some o):Own P base σ w' b e cs rb off k pre vs sp post:=by
 obtain⟨fz,h1,h2⟩:=g.heap;exact⟨g.sg_,g.val,g.pre_,g.sp_,⟨fz,ho _ h1,h2⟩,g.low,g.flat,g.mul_,g.nsp⟩
theorem Mem.sep (h:Mem P base σ s w){q rb:Nat}{o:M}(hq:s.mo q=some o) (hc:∃ c e z,w.heap[rb]?=some (.cells c e z)):∀ {r:Nat × Nat × Nat},σ q=some r->r.1≠rb:=by
 intro r hr he;obtain⟨rb',h1,_,h3⟩:=h.mown q o hq;rw[h1] at hr;obtain rfl:=Option.some.inj hr;obtain⟨c,e,z,hh⟩:=hc;replace he:rb'=rb:=he;rw[he] at h3;exact h3.noC.1 c e z hh
theorem Mem.upd (h:Mem P base σ s w){b e:Nat}{cs cs':List X}{rb off k:Nat}{pre vs' sp post:List Value}(hb:s.blk b=some (e,cs)) (hn:Own P base σ w' b e cs' rb off k pre vs' sp post)
  (ho:∀ c o,c≠rb->w.heap[c]?=some o->w'.heap[c]?=some o):Mem P base σ (s.put b (some (e,cs'))) w':=by
 have key:∀ q x,(s.put b (some (e,cs'))).blk q=some x->∃ y,s.blk q=some y:=by
  intro q x hq;rcases Zd0 hq with⟨rfl,_⟩|⟨_,h2⟩
  ·exact⟨_,hb⟩
  ·exact⟨_,h2⟩
 refine⟨λq e' cs'' hq=>?_,λq c x y r r' hq hc hne h1 h2=>?_,λq o hq=>?_,λq c x y r r' hq hc hne h1 h2=>h.mapart q c x y r r' hq hc hne h1 h2,h.keepG λc o hc=>ho c o λe=>hn.low (e▸hc)⟩
 ·rcases Zd0 hq with⟨rfl,h2⟩|⟨hne,h2⟩
  ·simp only[Option.some.injEq,Prod.mk.injEq] at h2;obtain⟨rfl,rfl⟩:=h2;exact⟨rb,off,k,pre,vs',sp,post,hn⟩
  ·obtain⟨rb',off',k',pre',vs,sp',post',g⟩:=h.own q e' cs'' h2;exact⟨rb',off',k',pre',vs,sp',post',g.keep (ho _ · (h.apart q b _ _ _ _ h2 hb hne g.sg_ hn.sg_))⟩
 ·obtain⟨x',hx'⟩:=key q x hq;obtain⟨y',hy'⟩:=key c y hc;exact h.apart q c x' y' r r' hx' hy' hne h1 h2
 ·replace hq:s.mo q=some o:=hq;obtain⟨rb',h1,h2,h3⟩:=h.mown q o hq;obtain⟨rb0,off0,k0,pre0,vs0,sp0,post0,g0⟩:=h.own b e cs hb;obtain⟨fz,hh,_⟩:=g0.heap
  have hrb:rb0=rb:=by have:=g0.sg_;rw[hn.sg_] at this;cases this;rfl
  subst hrb;exact⟨rb',h1,h2,h3.keep λo'=>ho rb' o' (h.sep hq ⟨_,_,_,hh⟩ h1)⟩
theorem Mem.del (h:Mem P base σ s w) (b:Nat):Mem P base σ (s.put b none) w:=by
 have key:∀ q x,(s.put b none).blk q=some x->q≠b/\s.blk q=some x:=by
  intro q x hq;rcases Zd0 hq with⟨_,h2⟩|h2
  ·cases h2
  ·exact h2
 exact⟨λq e cs hq=>h.own q e cs (key q _ hq).2,λq c x y r r' hq hc hne h1 h2=>h.apart q c x y r r' (key q x hq).2 (key c y hc).2 hne h1 h2,h.mown,h.mapart,h.glb⟩
theorem Mem.lose (h:Mem P base σ s w){b:Nat}{x:Blk}{r:Nat × Nat × Nat}(hb:s.blk b=some x) (hr:σ b=some r) (ho:∀ c o,c≠r.1->w.heap[c]?=some o->w'.heap[c]?=some o):Mem P base σ (s.put b none) w':=by
 have key:∀ q x,(s.put b none).blk q=some x->q≠b/\s.blk q=some x:=by
  intro q x hq;rcases Zd0 hq with⟨_,h2⟩|h2
  ·cases h2
  ·exact h2
 have hlow:¬ base.pr r.1:=by
  obtain⟨e,cs⟩:=x;obtain⟨rb0,off0,k0,pre0,vs0,sp0,post0,g0⟩:=h.own b e cs hb;have:=g0.sg_;rw[hr] at this;obtain rfl:=Option.some.inj this;exact g0.low
 refine⟨λq e cs hq=>?_,λq c x y r r' hq hc hne h1 h2=>h.apart q c x y r r' (key q x hq).2 (key c y hc).2 hne h1 h2,λq o hq=>?_,h.mapart,h.keepG λc o hc=>ho c o λe=>hlow (e▸hc)⟩
 ·obtain⟨hne,hq⟩:=key q _ hq;obtain⟨rb',off',k',pre',vs,sp',post',g⟩:=h.own q e cs hq;exact⟨rb',off',k',pre',vs,sp',post',g.keep (ho _ · (h.apart q b _ _ _ _ hq hb hne g.sg_ hr))⟩
 ·replace hq:s.mo q=some o:=hq;obtain⟨rb',h1,h2,h3⟩:=h.mown q o hq;obtain⟨e,cs⟩:=x;obtain⟨rb0,off0,k0,pre0,vs0,sp0,post0,g0⟩:=h.own b e cs hb;obtain⟨fz,hh,_⟩:=g0.heap;have:=g0.sg_;rw[hr] at this;obtain rfl:=Option.some.inj this;exact⟨rb',h1,h2,h3.keep λo'=>ho rb' o' (h.sep hq ⟨_,_,_,hh⟩ h1)⟩
theorem Mem.mupd (h:Mem P base σ s w){b rb:Nat}{o o':M}(hb:s.mo b=some o) (hr:σ b=some (rb,0,0)) (hn:MOk σ w' rb o') (ho:∀ c x,c≠rb->w.heap[c]?=some x->w'.heap[c]?=some x):Mem P base σ (s.mput b (some o')) w':=by
 have key:∀ q x,(s.mput b (some o')).mo q=some x->∃ y,s.mo q=some y:=by
  intro q x hq;rcases Zff hq with⟨rfl,_⟩|⟨_,h2⟩
  ·exact⟨_,hb⟩
  ·exact⟨_,h2⟩
 obtain⟨rb0,g1,g2,g3⟩:=h.mown b o hb;rw[hr] at g1;cases g1;refine⟨λq e cs hq=>?_,h.apart,λq x hq=>?_,λq c x y r r' hq hc hne h1 h2=>?_,h.keepG λc o hc=>ho c o λe=>g2 (e▸hc)⟩
 ·obtain⟨rb',off',k',pre',vs,sp',post',g⟩:=h.own q e cs hq;refine⟨rb',off',k',pre',vs,sp',post',g.keep λx=>ho _ x λhe=>?_⟩;obtain⟨fz,hh,_⟩:=g.heap;exact g3.noC.1 _ _ _ (he▸hh)
 ·rcases Zff hq with⟨rfl,h2⟩|⟨hne,h2⟩
  ·obtain rfl:=Option.some.inj h2;exact⟨rb,hr,g2,hn⟩
  ·obtain⟨rb',h1,h3,h4⟩:=h.mown q x h2;exact⟨rb',h1,h3,h4.keep λx=>ho _ x (h.mapart q b _ _ _ _ h2 hb hne h1 hr)⟩
 ·obtain⟨x',hx'⟩:=key q x hq;obtain⟨y',hy'⟩:=key c y hc;exact h.mapart q c x' y' r r' hx' hy' hne h1 h2
def sgPut (σ:Sg) (n:Nat) (r:Nat × Nat × Nat):Sg:=λm=>match Nat.beq m n with
 |true=>some r
 |false=>σ m
theorem Zaj (σ:Sg) (n:Nat) (r:Nat × Nat × Nat):sgPut σ n r n=some r:=by unfold sgPut;rw[Nat.beq_refl]
theorem Zdw {σ:Sg}{n m:Nat}{r:Nat × Nat × Nat}(h:m≠n):sgPut σ n r m=σ m:=by
 unfold sgPut
 cases hb:Nat.beq m n with
 |true=>exact absurd (Nat.eq_of_beq_eq_true hb) h
 |false=>rfl
theorem Zl9 {σ:Sg}{n:Nat}{r:Nat × Nat × Nat}(h:σ n=none):Ext σ (sgPut σ n r):=by
 intro m q hm;rw[Zdw]
 ·exact hm
 ·rintro rfl;rw[h] at hm;cases hm
def St.new (s:St) (c:Blk):St:=⟨(s.put s.n (some c)).h,s.k,s.k+1,s.m,s.g⟩
def St.mnew (s:St) (c:M):St:=⟨s.h,s.k,s.k+1,(s.mput s.n (some c)).m,s.g⟩
theorem Fresh.next {s':St}(hf:Fresh base σ s) (r:Nat × Nat × Nat) (h1:s'.n=s.k) (h2:s'.k=s.k+1):Fresh base (sgPut σ s.n r) s':=by
 have hl:=hf.lt;refine⟨?_,by omega,λm hm=>?_,λm hm=>?_⟩
 ·rw[h1,Zdw (by omega)];exact hf.ge _ (Nat.le_refl _)
 ·rw[Zdw (by omega)];exact hf.ge _ (by omega)
 ·obtain⟨a,b,c⟩:=hf.rs m hm;rw[Zdw b];exact⟨a,by omega,by omega⟩
theorem Zmy {s:St}{c x:M}{q:Nat}(h:(s.mnew c).mo q=some x):(q=s.n/\c=x)\/(q≠s.n/\s.mo q=some x):=by
 have:(s.mput s.n (some c)).mo q=some x:=h;rcases Zff this with⟨h1,h2⟩|h2
 ·exact .inl ⟨h1,Option.some.inj h2⟩
 ·exact .inr h2
theorem Znc {c x:Blk}{q:Nat}(h:(s.new c).blk q=some x):(q=s.n/\c=x)\/(q≠s.n/\s.blk q=some x):=by
 have:(s.put s.n (some c)).blk q=some x:=h;rcases Zd0 this with⟨h1,h2⟩|h2
 ·exact .inl ⟨h1,Option.some.inj h2⟩
 ·exact .inr h2
theorem Mem.fresh (h:Mem P base σ s w) (hf:Fresh base σ s){e:TypeId}{cs:List X}{pre vs sp post:List Value}{rb k:Nat}(hv:vls σ cs=some vs) (hsp:sp.length=k*szOf P e) (hbase:¬ base.pr rb) (hg:vs.all sg=true)
  (hh:∃ fz:Nat × Nat,w'.heap[rb]?=some (.cells (pre++vs++sp++post).toArray e fz)/\∀ o,o < (pre++vs++sp++post).length->¬ (fz.1<=o/\o < fz.2)) (hno:∀ b x r,s.blk b=some x->σ b=some r->r.1≠rb)
  (hnm:∀ b x r,s.mo b=some x->σ b=some r->r.1≠rb) (hml:∃ q,pre.length=q*szOf P e) (hns:isArrB P e=true->k=0) (ho:∀ c o,c≠rb->w.heap[c]?=some o->w'.heap[c]?=some o) :
  Mem P base (sgPut σ s.n (rb,pre.length,k)) (s.new (e,cs)) w'/\Ext σ (sgPut σ s.n (rb,pre.length,k))/\Fresh base (sgPut σ s.n (rb,pre.length,k)) (s.new (e,cs)):=by
 have hx:Ext σ (sgPut σ s.n (rb,pre.length,k)):=Zl9 hf.nx;refine⟨⟨λq e' cs' hq=>?_,λq c x y r r' hq hc hne h1 h2=>?_,λq o hq=>?_,λq c x y r r' hq hc hne h1 h2=>?_,h.keepG λc o hc=>ho c o λe=>hbase (e▸hc)⟩,hx,hf.next _ rfl rfl⟩
 ·rcases Znc hq with⟨rfl,h2⟩|⟨hne,h2⟩
  ·simp only[Prod.mk.injEq] at h2;obtain⟨rfl,rfl⟩:=h2;exact⟨rb,pre.length,k,pre,vs,sp,post,⟨Zaj _ _ _,Zd7 hx _ _ hv,rfl,hsp,hh,hbase,hg,hml,hns⟩⟩
  ·obtain⟨rb',off',k',pre',vs',sp',post',g⟩:=h.own q e' cs' h2;exact⟨rb',off',k',pre',vs',sp',post',(g.keep (ho _ · (hno q _ _ h2 g.sg_))).ext hx⟩
 ·have old:∀ q x r,s.blk q=some x->sgPut σ s.n (rb,pre.length,k) q=some r->q≠s.n->σ q=some r:=λq x r _ h1 hne=>by rw[Zdw hne] at h1;exact h1
  rcases Znc hq with⟨rfl,h3⟩|⟨hn1,h3⟩ <;> rcases Znc hc with⟨rfl,h4⟩|⟨hn2,h4⟩
  ·exact absurd rfl hne
  ·rw[Zaj] at h1;cases h1;exact λe=>hno c y r' h4 (old c y r' h4 h2 hn2) e.symm
  ·rw[Zaj] at h2;cases h2;exact hno q x r h3 (old q x r h3 h1 hn1)
  ·exact h.apart q c x y r r' h3 h4 hne (old q x r h3 h1 hn1) (old c y r' h4 h2 hn2)
 ·replace hq:s.mo q=some o:=hq;obtain⟨rb',h1,h2,h3⟩:=h.mown q o hq;exact⟨rb',hx _ _ h1,h2,(h3.keep (ho _ · (hnm q o _ hq h1))).ext hx⟩
 ·replace hq:s.mo q=some x:=hq;replace hc:s.mo c=some y:=hc;obtain⟨_,g1,_⟩:=h.mown q x hq;obtain⟨_,g2,_⟩:=h.mown c y hc;have e1:=hx _ _ g1;have e2:=hx _ _ g2;rw[h1] at e1;rw[h2] at e2;rw[<-e1] at g1;rw[<-e2] at g2;exact h.mapart q c x y _ _ hq hc hne g1 g2
theorem Mem.mbelow (h:Mem P base σ s w){b:Nat}{x:M}{r:Nat × Nat × Nat}(hb:s.mo b=some x) (hr:σ b=some r):r.1 < w.heap.size:=by
 obtain⟨rb,h1,_,h3⟩:=h.mown b x hb;rw[h1] at hr;obtain rfl:=Option.some.inj hr;show rb < w.heap.size;rcases hU_ rb w.heap.size with h4|h4
 ·exact h4
 ·have:=h3.noC.2;rw[Array.getElem?_eq_none h4] at this;cases this
theorem Mem.below (h:Mem P base σ s w){b:Nat}{x:Blk}{r:Nat × Nat × Nat}(hb:s.blk b=some x) (hr:σ b=some r):r.1 < w.heap.size:=by
 obtain⟨e',cs'⟩:=x;obtain⟨rb,off,k,pre,vs,sp,post,g⟩:=h.own b e' cs' hb;have:=g.sg_;rw[hr] at this;obtain rfl:=Option.some.inj this;show rb < w.heap.size;rcases hU_ rb w.heap.size with h1|h1
 ·exact h1
 ·obtain⟨fz,this,_⟩:=g.heap;rw[Array.getElem?_eq_none h1] at this;cases this
theorem Zdo {o':Obj}:∀ c o,c≠w.heap.size->w.heap[c]?=some o->(w.alloc o').heap[c]?=some o:=by
 intro c o hc hco;show (w.heap.push _)[c]?=_;rw[Array.getElem?_push,if_neg hc];exact hco
theorem Fram.alloc {w0:World}(hF:Fram base w0 w) (o:Obj):Fram base w0 (w.alloc o):=by
 refine⟨hF.same.trans (.alloc _ _),?_,λc hc=>?_⟩
 ·intro c hc;show c < (w.heap.push _).size;have:=hF.low c hc;simp only[Array.size_push];omega
 ·have:=hF.low c hc;show (w.heap.push _)[c]?=_;rw[Array.getElem?_push,if_neg (by omega)];exact hF.old c hc
theorem Fram.top {w0:World}(hF:Fram base w0 w):¬ base.pr w.heap.size:=λh=>Nat.lt_irrefl _ (hF.low _ h)
theorem Mem.alloc (h:Mem P base σ s w) (hf:Fresh base σ s){w0:World}(hF:Fram base w0 w){e:TypeId}{cs:List X}{vs sp:List Value}{k:Nat}(hv:vls σ cs=some vs) (hsp:sp.length=k*szOf P e) (hg:vs.all sg=true) (hns:isArrB P e=true->k=0) :
  Mem P base (sgPut σ s.n (w.heap.size,0,k)) (s.new (e,cs)) (w.alloc (.cells (vs++sp).toArray e))/\Ext σ (sgPut σ s.n (w.heap.size,0,k))/\Fresh base (sgPut σ s.n (w.heap.size,0,k)) (s.new (e,cs)):=
 h.fresh (w':=w.alloc (.cells (vs++sp).toArray e)) (e:=e) (pre:=[]) (post:=[]) (sp:=sp) (rb:=w.heap.size) (k:=k) hf hv hsp hF.top hg ⟨(0,0),by show (w.heap.push _)[w.heap.size]?=_;simp,λo _ hz=>by have:=hz.2;exact absurd this (Nat.not_lt_zero _)⟩
  (λb x r hb hr he=>by have:=h.below hb hr;omega) (λb x r hb hr he=>by have:=h.mbelow hb hr;omega) ⟨0,by simp⟩ hns Zdo
theorem Zo2 (o:Obj):(w.alloc o).heap[w.heap.size]?=some o:=by show (w.heap.push _)[w.heap.size]?=_;simp
theorem Mem.mnew (h:Mem P base σ s w) (hf:Fresh base σ s){w0:World}(hF:Fram base w0 w){o:M}{ob:Obj}(hn:∀ w',w'.heap[w.heap.size]?=some ob->MOk σ w' w.heap.size o) :
  Mem P base (sgPut σ s.n (w.heap.size,0,0)) (s.mnew o) (w.alloc ob)/\Ext σ (sgPut σ s.n (w.heap.size,0,0))/\Fresh base (sgPut σ s.n (w.heap.size,0,0)) (s.mnew o):=by
 have hx:Ext σ (sgPut σ s.n (w.heap.size,0,0)):=Zl9 hf.nx
 have low:∀ {b:Nat} {x:Obj},w.heap[b]?=some x->b≠w.heap.size:=λ{b x} hb he=>by
  rw[Array.getElem?_eq_none (by omega)] at hb;cases hb
 refine⟨⟨λq e cs hq=>?_,λq c x y r r' hq hc hne h1 h2=>?_,λq x hq=>?_,λq c x y r r' hq hc hne h1 h2=>?_,h.keepG λc o _ hco=>Zdo c o (low hco) hco⟩,hx,hf.next _ rfl rfl⟩
 ·replace hq:s.blk q=some (e,cs):=hq;obtain⟨rb',off',k',pre',vs',sp',post',g⟩:=h.own q e cs hq;exact⟨rb',off',k',pre',vs',sp',post',(g.keep λo ho=>Zdo _ _ (low ho) ho).ext hx⟩
 ·replace hq:s.blk q=some x:=hq;replace hc:s.blk c=some y:=hc;exact (h.ext hx).apart q c x y r r' hq hc hne h1 h2
 ·rcases Zmy hq with⟨rfl,rfl⟩|⟨hne,h2⟩
  ·exact⟨w.heap.size,Zaj _ _ _,hF.top,(hn _ (Zo2 ob)).ext hx⟩
  ·obtain⟨rb',h1,h3,h4⟩:=h.mown q x h2;exact⟨rb',hx _ _ h1,h3,(h4.keep λo ho=>Zdo _ _ (low ho) ho).ext hx⟩
 ·have old:∀ q x r,s.mo q=some x->sgPut σ s.n (w.heap.size,0,0) q=some r->q≠s.n->σ q=some r:=λq x r _ h1 hne=>by rw[Zdw hne] at h1;exact h1
  rcases Zmy hq with⟨rfl,h3⟩|⟨hn1,h3⟩ <;> rcases Zmy hc with⟨rfl,h4⟩|⟨hn2,h4⟩
  ·exact absurd rfl hne
  ·rw[Zaj] at h1;cases h1
   exact λe=>by have:=h.mbelow h4 (old c y r' h4 h2 hn2);omega
  ·rw[Zaj] at h2;cases h2
   exact λe=>by have:=h.mbelow h3 (old q x r h3 h1 hn1);omega
  ·exact h.mapart q c x y r r' h3 h4 hne (old q x r h3 h1 hn1) (old c y r' h4 h2 hn2)
theorem Fram.upd {w0:World}{rb:Nat}(hF:Fram base w0 w) (hS:Same w w') (hb:¬ base.pr rb) (ho:∀ c o,c≠rb->w.heap[c]?=some o->w'.heap[c]?=some o):Fram base w0 w':=by
 refine⟨hF.same.trans hS,λc hc=>Nat.lt_of_lt_of_le (hF.low c hc) hS.size,λc hc=>?_⟩;have h1:c < w.heap.size:=hF.low c hc;rw[<-hF.old c hc];have h2:w.heap[c]?=some w.heap[c]:=Array.getElem?_eq_getElem h1;rw[h2];exact ho c _ (λe=>hb (e▸hc)) h2
theorem Fram.drew {w0:World}(hF:Fram base w0 w):Fram base w0 w.drew:=⟨hF.same.trans (.drew _),hF.low,hF.old⟩
theorem Mem.drew (h:Mem P base σ s w):Mem P base σ s w.drew:=
 ⟨λb e cs hb=>let ⟨rb,off,k,pre,vs,sp,post,g⟩:=h.own b e cs hb;⟨rb,off,k,pre,vs,sp,post,g.keep λ_ ho=>ho⟩,h.apart,λb o hb=>let ⟨rb,h1,h2,h3⟩:=h.mown b o hb;⟨rb,h1,h2,h3.keep λ_ ho=>ho⟩,h.mapart,h.glb⟩
def ofV:Value->Option X
 |.bool b=>some (.b b)
 |.int k n=>some (.i k n)
 |.string s=>some (.s (s.data.toList.map UInt8.toNat))
 |.pointer none=>some (.p none)
 |.slice none n c=>some (.l none n c)
 |.nilIface=>some .ni
 |.nilFunc=>some .nf
 |.map none=>some (.m none)
 |_=>none
theorem Zt0 (s:ByteArray):str (s.data.toList.map UInt8.toNat)=s:=by
 apply Ze4;simp only[str,List.map_map];rw[show (UInt8.ofNat ∘ UInt8.toNat)=id by funext x;simp,List.map_id]
theorem Zi8 {v:Value}{x:X}(h:ofV v=some x):vl σ x=some v:=by
 cases v with
 |bool b=>simp only[ofV,Option.some.injEq] at h;subst h;rfl
 |int k n=>simp only[ofV,Option.some.injEq] at h;subst h;rfl
 |string s=>simp only[ofV,Option.some.injEq] at h;subst h;simp only[vl,Zt0]
 |pointer a=>
  cases a with
  |none=>simp only[ofV,Option.some.injEq] at h;subst h;rfl
  |some a=>cases h
 |slice a n c=>
  cases a with
  |none=>simp only[ofV,Option.some.injEq] at h;subst h;rfl
  |some a=>cases h
 |nilIface=>simp only[ofV,Option.some.injEq] at h;subst h;rfl
 |nilFunc=>simp only[ofV,Option.some.injEq] at h;subst h;rfl
 |map a=>
  cases a with
  |none=>simp only[ofV,Option.some.injEq] at h;subst h;rfl
  |some a=>cases h
 |_=>cases h
def ofVs:List Value->Option (List X)
 |[]=>some []
 |v::r=>match ofV v,ofVs r with
  |some x,some xs=>some (x::xs)
  |_,_=>none
theorem Zjt:∀ {vs:List Value}{xs:List X},ofVs vs=some xs->vls σ xs=some vs
 |[],xs,h=>by simp only[ofVs,Option.some.injEq] at h;subst h;rfl
 |v::r,xs,h=>by
  simp only[ofVs] at h
  cases hx:ofV v with
  |none=>rw[hx] at h;cases h
  |some x=>
   cases hr:ofVs r with
   |none=>rw[hx,hr] at h;cases h
   |some ys=>
    rw[hx,hr] at h;obtain rfl:=Option.some.inj h;exact Zbo (Zi8 hx) (Zjt hr)
def eqN:List Nat->List Nat->Bool
 |[],[]=>true
 |x::a,y::b=>match Nat.beq (x%256) (y%256) with
  |true=>eqN a b
  |false=>false
 |_,_=>false
theorem Ze2:∀ (a b:List Nat),eqN a b=decide (str a=str b)
 |[],[]=>by simp[eqN]
 |[],y::b=>by
  have:¬ str []=str (y::b):=by intro h;have:=congrArg ByteArray.size h;simp[str,ByteArray.size] at this
  simp[eqN,this]
 |x::a,[]=>by
  have:¬ str (x::a)=str []:=by intro h;have:=congrArg ByteArray.size h;simp[str,ByteArray.size] at this
  simp[eqN,this]
 |x::a,y::b=>by
  have h1:str (x::a)=str (y::b)↔x%256=y%256/\str a=str b:=by
   constructor
   ·intro h;have:=congrArg (λs:ByteArray=>s.data.toList) h;simp only[str,hR_,List.cons.injEq] at this;refine⟨?_,Ze4 (by simpa [str] using this.2)⟩;have:=congrArg UInt8.toNat this.1;simpa using this
   ·rintro⟨h1,h2⟩;have h3:=congrArg (λs:ByteArray=>s.data.toList) h2;apply Ze4;simp only[str,hR_] at h3 ⊢;rw[h3]
    congr 1
    apply UInt8.toNat_inj.1;simpa using h1
  simp only[eqN]
  cases hb:Nat.beq (x%256) (y%256) with
  |true=>
   have:=Nat.eq_of_beq_eq_true hb;simp only;rw[Ze2 a b,decide_eq_decide,h1];simp[this]
  |false=>
   have:=Nat.ne_of_beq_eq_false hb
   symm
   rw[decide_eq_false_iff_not,h1];exact λe=>this e.1
theorem Yb8 (a b:List Nat):str (a++b)=str a++str b:=by
 apply Ze4;simp[str]
theorem Zbe (a:List Nat):(str a).size=a.length:=by simp[str,ByteArray.size]
def bpV (op:BinOp) (u v:Value):Option X:=match bp op u v with
 |some r=>ofV r
 |none=>none
theorem Zct {op:BinOp}{u v:Value}{z:X}(h:bpV op u v=some z):∃ r,bp op u v=some r/\vl σ z=some r:=by
 unfold bpV at h
 cases hr:bp op u v with
 |none=>rw[hr] at h;cases h
 |some r=>rw[hr] at h;exact⟨r,rfl,Zi8 h⟩
def bpS (op:BinOp) (a b:List Nat):Option X:=match op with
 |.add=>(match Nat.ble (a.length+b.length) 9223372036854775807 with
  |true=>some (.s (a++b))
  |false=>none)
 |.eql=>some (.b (eqN a b))
 |.neq=>some (.b !(eqN a b))
 |op=>bpV op (.string (str a)) (.string (str b))
theorem Zxs {op:BinOp}{a b:List Nat}{z:X}(h:bpS op a b=some z):∃ r,bp op (.string (str a)) (.string (str b))=some r/\vl σ z=some r:=by
 unfold bpS at h;split at h
 ·split at h
  ·rename_i hl;obtain rfl:=Option.some.inj h;have hl2:=Nat.le_of_ble_eq_true hl;refine⟨.string (str a++str b),?_,by simp only[vl,Yb8]⟩;simp only[bp];rw[if_neg];rw[Zbe,Zbe];show ¬ _ > (9223372036854775807:Int);omega
  ·cases h
 ·obtain rfl:=Option.some.inj h;exact⟨_,rfl,by simp only[vl,Ze2,Zfp]⟩
 ·obtain rfl:=Option.some.inj h;exact⟨_,rfl,by simp only[vl,Ze2,Zfp]⟩
 ·exact Zct h
def bp64 (op:BinOp) (m n:Nat):Option X:=match op with
 |.add=>@Bool.rec (λ_=>Option X) (bpV .add (.int .i64 (.ofNat m)) (.int .i64 (.ofNat n))) (some (.i .i64 (.ofNat (Nat.add m n)))) (Nat.blt (Nat.add m n) 9223372036854775808)
 |.sub=>@Bool.rec (λ_=>Option X) (bpV .sub (.int .i64 (.ofNat m)) (.int .i64 (.ofNat n))) (@Bool.rec (λ_=>Option X) (bpV .sub (.int .i64 (.ofNat m)) (.int .i64 (.ofNat n))) (some (.i .i64 (.ofNat (Nat.sub m n)))) (Nat.blt m 9223372036854775808)) (Nat.ble n m)
 |.mul=>@Bool.rec (λ_=>Option X) (bpV .mul (.int .i64 (.ofNat m)) (.int .i64 (.ofNat n))) (some (.i .i64 (.ofNat (Nat.mul m n)))) (Nat.blt (Nat.mul m n) 9223372036854775808)
 |.lss=>some (.b (Nat.blt m n))
 |.leq=>some (.b (Nat.ble m n))
 |.gtr=>some (.b (Nat.blt n m))
 |.geq=>some (.b (Nat.ble n m))
 |.eql=>some (.b (Nat.beq m n))
 |.neq=>some (.b (Bool.not (Nat.beq m n)))
 |op=>bpV op (.int .i64 (.ofNat m)) (.int .i64 (.ofNat n))
theorem Zg7 {α:Type}(a b:α) (c:Bool):@Bool.rec (λ_=>α) a b c=if c=true then b else a:=by cases c <;> rfl
theorem Zru {op:BinOp}{m n:Nat}{z:X}(h:bp64 op m n=some z):∃ r,bp op (.int .i64 (m:Int)) (.int .i64 (n:Int))=some r/\vl σ z=some r:=by
 have w:∀ k:Int,0<=k->k < 9223372036854775808->IntKind.i64.wrap k=k:=λk h1 h2=>wrap64 (by omega) (by omega);unfold bp64 at h;split at h
 ·rw[Zg7] at h;split at h
  ·rename_i hb;have hb:=Nat.le_of_ble_eq_true hb;obtain rfl:=Option.some.inj h;refine⟨_,rfl,?_⟩;simp only[vl];rw[w _ (by omega) (by have:Nat.add m n=m+n:=rfl;omega)];rfl
  ·exact Zct h
 ·rw[Zg7] at h;split at h
  ·rename_i hb;rw[Zg7] at h;split at h
   ·rename_i hb2;have hb:=Nat.le_of_ble_eq_true hb;have hb2:=Nat.le_of_ble_eq_true hb2;obtain rfl:=Option.some.inj h;refine⟨_,rfl,?_⟩;simp only[vl];rw[w _ (by omega) (by omega)]
    congr 2
    show ((m - n:Nat):Int)=(m:Int) - (n:Int);omega
   ·exact Zct h
  ·exact Zct h
 ·rw[Zg7] at h;split at h
  ·rename_i hb;have hb:=Nat.le_of_ble_eq_true hb;obtain rfl:=Option.some.inj h;refine⟨_,rfl,?_⟩;simp only[vl]
   have e:(m:Int)*(n:Int)=((m*n:Nat):Int):=by simp
   have e2:Nat.mul m n=m*n:=rfl;rw[e,w _ (by omega) (by omega)];rfl
  ·exact Zct h
 ·obtain rfl:=Option.some.inj h;refine⟨_,rfl,?_⟩;simp only[vl]
  congr 2
  rw[Bool.eq_iff_iff,decide_eq_true_iff];exact⟨λh=>by have:=Nat.le_of_ble_eq_true h;show (m:Int) < n;omega,λh=>Nat.ble_eq_true_of_le (by have:(m:Int) < n:=h;omega)⟩
 ·obtain rfl:=Option.some.inj h;refine⟨_,rfl,?_⟩;simp only[vl]
  congr 2
  rw[Bool.eq_iff_iff,decide_eq_true_iff];exact⟨λh=>by have:=Nat.le_of_ble_eq_true h;show (m:Int)<=n;omega,λh=>Nat.ble_eq_true_of_le (by have:(m:Int)<=n:=h;omega)⟩
 ·obtain rfl:=Option.some.inj h;refine⟨_,rfl,?_⟩;simp only[vl]
  congr 2
  rw[Bool.eq_iff_iff,decide_eq_true_iff];exact⟨λh=>by have:=Nat.le_of_ble_eq_true h;show (n:Int) < m;omega,λh=>Nat.ble_eq_true_of_le (by have:(n:Int) < m:=h;omega)⟩
 ·obtain rfl:=Option.some.inj h;refine⟨_,rfl,?_⟩;simp only[vl]
  congr 2
  rw[Bool.eq_iff_iff,decide_eq_true_iff];exact⟨λh=>by have:=Nat.le_of_ble_eq_true h;show (n:Int)<=m;omega,λh=>Nat.ble_eq_true_of_le (by have:(n:Int)<=m:=h;omega)⟩
 ·obtain rfl:=Option.some.inj h;refine⟨_,rfl,?_⟩;simp only[vl]
  congr 2
  rw[Bool.eq_iff_iff,beq_iff_eq]
  constructor
  ·intro h;rw[Nat.eq_of_beq_eq_true h]
  ·intro h
   have:m=n:=by omega
   subst this;exact Nat.beq_refl _
 ·obtain rfl:=Option.some.inj h;refine⟨_,rfl,?_⟩;simp only[vl]
  congr 2
  have:Nat.beq m n=((m:Int)==(n:Int)):=by
   rw[Bool.eq_iff_iff,beq_iff_eq]
   constructor
   ·intro h;rw[Nat.eq_of_beq_eq_true h]
   ·intro h
    have:m=n:=by omega
    subst this;exact Nat.beq_refl _
  rw[this];rfl
 ·exact Zct h
def bpI (op:BinOp) (k:IntKind) (a:Int) (k':IntKind) (b:Int):Option X:=match k,k',a,b with
 |.i64,.i64,.ofNat m,.ofNat n=>bp64 op m n
 |k,k',a,b=>bpV op (.int k a) (.int k' b)
theorem Zxt {op:BinOp}{k k':IntKind}{a b:Int}{z:X}(h:bpI op k a k' b=some z):∃ r,bp op (.int k a) (.int k' b)=some r/\vl σ z=some r:=by
 unfold bpI at h;split at h
 ·exact Zru h
 ·exact Zct h
def bpX (op:BinOp) (x y:X):Option X:=match x,y with
 |.i k a,.i k' b=>bpI op k a k' b
 |.s a,.s b=>bpS op a b
 |_,_=>none
theorem Zy2 {op:BinOp}{x y z:X}{u v:Value}(h:bpX op x y=some z) (hx:vl σ x=some u) (hy:vl σ y=some v):∃ r,bp op u v=some r/\vl σ z=some r:=by
 unfold bpX at h;split at h
 ·simp only[vl,Option.some.injEq] at hx hy;subst hx;subst hy;exact Zxt h
 ·simp only[vl,Option.some.injEq] at hx hy;subst hx;subst hy;exact Zxs h
 ·cases h
def evX (ρ:T X):Operand->Option X
 |.tmp t=>ρ.get t t
 |.const v=>ofV v
 |.func f=>some (.f (.func f) [] [])
 |_=>none
def EnvR (σ:Sg) (ρ:T X) (r:Env):Prop:=∀ t x,ρ.get t t=some x->vl σ x=some (r.get t)
theorem Za3 {ρ:T X}{r:Env}(h:EnvR σ ρ r){o:Operand}{x:X}(hx:evX ρ o=some x):vl σ x=some (r.ev o):=by
 cases o with
 |tmp t=>exact h t x hx
 |const v=>exact Zi8 hx
 |global g=>cases hx
 |func f=>obtain rfl:=Option.some.inj hx;rfl
def ldX (s:St) (b o:Nat):Option X:=match s.blk b with
 |some c=>c.2[o]?
 |none=>none
def ldAX (s:St) (b o n:Nat):Option X:=match s.blk b with
 |some c=>match Nat.beq ((c.2.drop o).take n).length n with
  |true=>some (.g ((c.2.drop o).take n))
  |false=>none
 |none=>none
theorem Own.cell {b e:Nat}{cs:List X}{rb off k:Nat}{pre vs sp post:List Value}(h:Own P base σ w b e cs rb off k pre vs sp post){o:Nat}(ho:o < vs.length):w.cell? ⟨rb,off+o,none⟩=vs[o]?:=by
 obtain⟨fz,hh,_⟩:=h.heap
 have:w.cell? ⟨rb,off+o,none⟩=(pre++vs++sp++post)[off+o]?:=by simp[World.cell?,hh]
 have hp:=h.pre_;rw[this,gI,gI,gT (by omega),gM (by omega)]
 congr 1
 omega
theorem Own.any {b e:Nat}{cs:List X}{rb off k:Nat}{pre vs sp post:List Value}(h:Own P base σ w b e cs rb off k pre vs sp post) (o:Nat):w.cell? ⟨rb,o,none⟩=(pre++vs++sp++post)[o]?:=by
 obtain⟨fz,hh,_⟩:=h.heap;simp[World.cell?,hh]
theorem Own.nofz {b e:Nat}{cs:List X}{rb off k:Nat}{pre vs sp post:List Value}(h:Own P base σ w b e cs rb off k pre vs sp post){o:Nat}(ho:o < (pre++vs++sp++post).length):w.frozen? ⟨rb,o,none⟩=false:=by
 obtain⟨fz,hh,hz⟩:=h.heap;have:=hz o ho;obtain⟨lo,hi⟩:=fz;simp only[World.frozen?,hh];simp only at this;rw[Bool.and_eq_false_iff,decide_eq_false_iff_not,decide_eq_false_iff_not];omega
theorem Zvt (h:Mem P base σ s w){b o:Nat}{x:X}(hx:ldX s b o=some x):∃ r v,σ b=some r/\vl σ x=some v/\w.cell? ⟨r.1,r.2.1+o,none⟩=some v:=by
 unfold ldX at hx
 cases hb:s.blk b with
 |none=>rw[hb] at hx;cases hx
 |some c=>
  rw[hb] at hx;obtain⟨e,cs⟩:=c;obtain⟨rb,off,k,pre,vs,sp,post,g⟩:=h.own b e cs hb;obtain⟨v,g1,g2⟩:=Zeb g.val hx;exact⟨_,v,g.sg_,g2,by rw[g.cell (gH.1 g1).1,g1]⟩
theorem Zu1 (h:Mem P base σ s w){b o n:Nat}{x:X}(hx:ldAX s b o n=some x):∃ (r:Nat × Nat × Nat) (vs:List Value),σ b=some r/\vl σ x=some (.agg vs.toArray)/\vs.length=n/\∀ i v,vs[i]?=some v->w.cell? ((⟨r.1,r.2.1+o,none⟩:Addr).add i)=some v:=by
 unfold ldAX at hx
 cases hb:s.blk b with
 |none=>rw[hb] at hx;cases hx
 |some c=>
  rw[hb] at hx;obtain⟨e,cs⟩:=c;simp only at hx
  cases hl:Nat.beq ((cs.drop o).take n).length n with
  |false=>rw[hl] at hx;cases hx
  |true=>
   rw[hl] at hx;obtain rfl:=Option.some.inj hx;obtain⟨rb,off,k,pre,vs,sp,post,g⟩:=h.own b e cs hb;have h3:=Zbd n (Zb7 o g.val);have h5:=Nat.eq_of_beq_eq_true hl;rw[Zas h3] at h5;refine⟨_,_,g.sg_,by simp only[vl,h3],h5,λi v hi=>?_⟩;rw[Zam];have hi2:=hi;rw[hI_ (by have:=(gH.1 hi).1;omega),hH_] at hi2;rw[show off+o+i=off+(o+i) by omega,g.cell (gH.1 hi2).1,hi2]
end
end Go.Ev
namespace Go.Ev
open Go Go.Vc
noncomputable section
variable {P:Program}{base:Bs}{σ:Sg}{s:St}{w w':World}
def cellsX:X->List X
 |.g xs=>xs
 |x=>[x]
theorem Zh0 {x:X}{v:Value}(h:vl σ x=some v):vls σ (cellsX x)=some v.cells.toList:=by
 have one:∀ (x:X),cellsX x=[x]->v.cells=#[v]->vl σ x=some v->vls σ (cellsX x)=some v.cells.toList:=by
  intro x h1 h2 h3;rw[h1,h2];exact Zbo h3 rfl
 cases x with
 |g xs=>
  simp only[vl] at h
  cases hs:vls σ xs with
  |none=>rw[hs] at h;cases h
  |some us=>
   rw[hs] at h;obtain rfl:=Option.some.inj h;simpa [cellsX,Value.cells] using hs
 |b c=>exact one _ rfl (by simp only[vl,Option.some.injEq] at h;subst h;rfl) h
 |i k n=>exact one _ rfl (by simp only[vl,Option.some.injEq] at h;subst h;rfl) h
 |s l=>exact one _ rfl (by simp only[vl,Option.some.injEq] at h;subst h;rfl) h
 |ni=>exact one _ rfl (by simp only[vl,Option.some.injEq] at h;subst h;rfl) h
 |nf=>exact one _ rfl (by simp only[vl,Option.some.injEq] at h;subst h;rfl) h
 |p a=>
  refine one _ rfl ?_ h
  cases a with
  |none=>simp only[vl,Option.some.injEq] at h;subst h;rfl
  |some a=>
   simp only[vl] at h
   cases hs:σ a.1 with
   |none=>rw[hs] at h;cases h
   |some r=>rw[hs] at h;obtain rfl:=Option.some.inj h;rfl
 |l a n c=>
  refine one _ rfl ?_ h
  cases a with
  |none=>simp only[vl,Option.some.injEq] at h;subst h;rfl
  |some a=>
   simp only[vl] at h
   cases hs:σ a.1 with
   |none=>rw[hs] at h;cases h
   |some r=>rw[hs] at h;obtain rfl:=Option.some.inj h;rfl
 |fc t x=>
  refine one _ rfl ?_ h;simp only[vl] at h
  cases hs:vl σ x with
  |none=>rw[hs] at h;cases h
  |some r=>rw[hs] at h;obtain rfl:=Option.some.inj h;rfl
 |t xs=>
  refine one _ rfl ?_ h;simp only[vl] at h
  cases hs:vls σ xs with
  |none=>rw[hs] at h;cases h
  |some r=>rw[hs] at h;obtain rfl:=Option.some.inj h;rfl
 |f fn a c=>
  refine one _ rfl ?_ h;simp only[vl] at h
  cases hs:vls σ a with
  |none=>rw[hs] at h;cases h
  |some r=>
   cases hc:vls σ c with
   |none=>rw[hs,hc] at h;cases h
   |some r'=>rw[hs,hc] at h;obtain rfl:=Option.some.inj h;rfl
 |m a=>
  refine one _ rfl ?_ h
  cases a with
  |none=>simp only[vl,Option.some.injEq] at h;subst h;rfl
  |some a=>
   simp only[vl] at h
   cases hs:σ a with
   |none=>rw[hs] at h;cases h
   |some r=>rw[hs] at h;obtain rfl:=Option.some.inj h;rfl
 |e0 b o q=>
  refine one _ rfl ?_ h;simp only[vl] at h
  cases hs:σ b with
  |none=>rw[hs] at h;cases h
  |some r=>rw[hs] at h;obtain rfl:=Option.some.inj h;rfl
def setLX:List X->Nat->List X->List X
 |cs,_,[]=>cs
 |cs,o,x::r=>setLX (cs.set o x) (o+1) r
theorem Zfj:∀ {xs cs:List X}{us vs:List Value}(o:Nat),vls σ cs=some vs->vls σ xs=some us->vls σ (setLX cs o xs)=some (setL vs o us)
 |[],cs,us,vs,o,h,k=>by simp only[vls,Option.some.injEq] at k;subst k;exact h
 |x::r,cs,us,vs,o,h,k=>by
  obtain⟨v,us',h1,h2,rfl⟩:=Za6 k;exact Zfj (o+1) (Zrz o h h1) h2
theorem Zkz:∀ (us vs:List Value) (off j:Nat),(us.zipIdx j).foldl (λ(cs:Array Value) x=>cs.setIfInBounds (off+x.2) x.1) vs.toArray=(setL vs (off+j) us).toArray
 |[],vs,off,j=>rfl
 |u::us,vs,off,j=>by
  rw[List.zipIdx_cons,foldl_cons,List.setIfInBounds_toArray,Zkz us _ off (j+1),setL];rfl
def xfill (place:Nat->Option (Nat × Nat)):List X->List (Nat × X)->Option (List X)
 |cells,[]=>some cells
 |cells,(i,x)::rest=>match place i with
  |none=>none
  |some q=>match Nat.beq (cellsX x).length q.2,Nat.ble (q.1+(cellsX x).length) cells.length with
   |true,true=>xfill place (setLX cells q.1 (cellsX x)) rest
   |_,_=>none
def pvl (σ:Sg):List (Nat × X)->Option (List (Nat × Value))
 |[]=>some []
 |(i,x)::r=>match vl σ x,pvl σ r with
  |some v,some vs=>some ((i,v)::vs)
  |_,_=>none
theorem Zdz {place:Nat->Option (Nat × Nat)}:∀ {ps:List (Nat × X)}{cs cs':List X}{vs:List Value}{qs:List (Nat × Value)},xfill place cs ps=some cs'->vls σ cs=some vs->pvl σ ps=some qs->
  ∃ vs',Instr.fill place vs.toArray qs=some vs'.toArray/\vls σ cs'=some vs'
 |[],cs,cs',vs,qs,h,h1,h2=>by
  simp only[pvl,Option.some.injEq] at h2;subst h2;obtain rfl:=Option.some.inj h;exact⟨vs,rfl,h1⟩
 |(i,x)::r,cs,cs',vs,qs,h,h1,h2=>by
  simp only[pvl] at h2
  cases hx:vl σ x with
  |none=>rw[hx] at h2;cases h2
  |some v=>
   cases hr:pvl σ r with
   |none=>rw[hx,hr] at h2;cases h2
   |some vs2=>
    rw[hx,hr] at h2;obtain rfl:=Option.some.inj h2;simp only[xfill] at h
    cases hp:place i with
    |none=>rw[hp] at h;cases h
    |some q=>
     obtain⟨off,size⟩:=q;rw[hp] at h;simp only at h;have hcx:=Zh0 hx;have hl1:=Zas hcx;have hl2:=Zas h1
     cases hb:Nat.beq (cellsX x).length size with
     |false=>rw[hb] at h;cases h
     |true=>
      cases hb2:Nat.ble (off+(cellsX x).length) cs.length with
      |false=>rw[hb,hb2] at h;cases h
      |true=>
       rw[hb,hb2] at h;have e1:=Nat.eq_of_beq_eq_true hb;have e2:=Nat.le_of_ble_eq_true hb2;obtain⟨vs',g1,g2⟩:=Zdz h (Zfj off h1 hcx) hr;refine⟨vs',?_,g2⟩;rw[Instr.fill];simp only[hp];rw[if_neg]
       ·rw[<-g1]
        congr 1
        have hz:v.cells.zipIdx=(v.cells.toList.zipIdx 0).toArray:=by apply Array.ext';simp
        have:=Zkz v.cells.toList vs off 0;rw[hz,List.foldl_toArray];simpa using this
       ·have hsz:v.cells.toList.length=v.cells.size:=Array.length_toList;simp;omega
def xparts (ρ:T X):List (Nat × Operand)->Option (List (Nat × X))
 |[]=>some []
 |(i,o)::r=>match evX ρ o,xparts ρ r with
  |some x,some xs=>some ((i,x)::xs)
  |_,_=>none
theorem Zcy {ρ:T X}{r:Env}(hE:EnvR σ ρ r):∀ {ps:List (Nat × Operand)}{xs:List (Nat × X)},xparts ρ ps=some xs->pvl σ xs=some (pmap r.ev ps)
 |[],xs,h=>by simp only[xparts,Option.some.injEq] at h;subst h;rfl
 |(i,o)::q,xs,h=>by
  simp only[xparts] at h
  cases hx:evX ρ o with
  |none=>rw[hx] at h;cases h
  |some x=>
   cases hr:xparts ρ q with
   |none=>rw[hx,hr] at h;cases h
   |some ys=>
    rw[hx,hr] at h;obtain rfl:=Option.some.inj h;simp only[pvl,Za3 hE hx,Zcy hE hr,pmap]
def xargs (ρ:T X):List Operand->Option (List X)
 |[]=>some []
 |o::r=>match evX ρ o,xargs ρ r with
  |some x,some xs=>some (x::xs)
  |_,_=>none
theorem Zaf {ρ:T X}{r:Env}(hE:EnvR σ ρ r):∀ {ps:List Operand}{xs:List X},xargs ρ ps=some xs->vls σ xs=some (lmap r.ev ps)
 |[],xs,h=>by simp only[xargs,Option.some.injEq] at h;subst h;rfl
 |o::q,xs,h=>by
  simp only[xargs] at h
  cases hx:evX ρ o with
  |none=>rw[hx] at h;cases h
  |some x=>
   cases hr:xargs ρ q with
   |none=>rw[hx,hr] at h;cases h
   |some ys=>
    rw[hx,hr] at h;obtain rfl:=Option.some.inj h;exact Zbo (Za3 hE hx) (Zaf hE hr)
def zeroX (P:Program) (t:TypeId):Option (List X):=match P.info? t with
 |some i=>match i.zero with
  |some z=>ofVs z.cells.toList
  |none=>none
 |none=>none
def bdX (P:Program) (t:TypeId) (ps:List (Nat × X)):Option X:=match P.underlying t with
 |some (.struct fields)=>match zeroX P t,fields.toList.mapM (λf=>(P.info? f.type).map λi=>(f.offset,i.size)) with
  |some z,some places=>match xfill (places.toArray[·]?) z ps with
   |some cs=>some (.g cs)
   |none=>none
  |_,_=>none
 |some (.array _ e)=>match zeroX P t,P.info? e with
  |some z,some ie=>match xfill (λi=>some (i*ie.size,ie.size)) z ps with
   |some cs=>some (.g cs)
   |none=>none
  |_,_=>none
 |_=>none
theorem Zbw {t:TypeId}{xs:List X}(h:zeroX P t=some xs):∃ i z,P.info? t=some i/\i.zero=some z/\vls σ xs=some z.cells.toList:=by
 unfold zeroX at h
 cases hi:P.info? t with
 |none=>rw[hi] at h;cases h
 |some i=>
  rw[hi] at h;simp only at h
  cases hz:i.zero with
  |none=>rw[hz] at h;cases h
  |some z=>rw[hz] at h;exact⟨i,z,rfl,hz,Zjt h⟩
theorem Zwq {t:TypeId}{ps:List (Nat × X)}{x:X}{qs:Array (Nat × Value)}(h:bdX P t ps=some x) (hp:pvl σ ps=some qs.toList):∃ v,vl σ x=some v/\(Instr.build t qs).run P w=.ok v w:=by
 unfold bdX at h;split at h
 ·rename_i fields hu;split at h
  ·rename_i z places hz hpl;split at h
   ·rename_i cs hf;obtain rfl:=Option.some.inj h;obtain⟨i,zv,h1,h2,h3⟩:=Zbw (σ:=σ) hz;obtain⟨vs',g1,g2⟩:=Zdz hf h3 hp;refine⟨.agg vs'.toArray,by simp only[vl,g2],run_build w t qs _ ?_⟩;unfold Program.built;rw[h1,hu];simp only[h2,hpl];simpa using g1
   ·cases h
  ·cases h
 ·rename_i n e hu;split at h
  ·rename_i z ie hz hie;split at h
   ·rename_i cs hf;obtain rfl:=Option.some.inj h;obtain⟨i,zv,h1,h2,h3⟩:=Zbw (σ:=σ) hz;obtain⟨vs',g1,g2⟩:=Zdz hf h3 hp;refine⟨.agg vs'.toArray,by simp only[vl,g2],run_build w t qs _ ?_⟩;unfold Program.built;rw[h1,hu];simp only[h2,hie];simpa using g1
   ·cases h
  ·cases h
 ·cases h
def inX (n:Int) (l:Nat):Option Nat:=match n with
 |.ofNat m=>match Nat.blt m l with
  |true=>some m
  |false=>none
 |_=>none
theorem Zg8 {n:Int}{l m:Nat}(h:inX n l=some m):n=(m:Int)/\m < l:=by
 unfold inX at h;split at h
 ·rename_i k;split at h
  ·rename_i hb;obtain rfl:=Option.some.inj h;exact⟨rfl,Nat.le_of_ble_eq_true hb⟩
  ·cases h
 ·cases h
def natX:X->Option Nat
 |.i _ (.ofNat m)=>some m
 |_=>none
theorem Zrs {x:X}{m:Nat}{v:Value}(h:natX x=some m) (hv:vl σ x=some v):∃ k,v=.int k (m:Int):=by
 unfold natX at h;split at h
 ·rename_i k m';obtain rfl:=Option.some.inj h;simp only[vl,Option.some.injEq] at hv;exact⟨k,hv.symm⟩
 ·cases h
def bndX (ρ:T X) (d:Nat):Option Operand->Option Nat
 |none=>some d
 |some o=>match evX ρ o with
  |some x=>natX x
  |none=>none
theorem Zap {ρ:T X}{r:Env}(hE:EnvR σ ρ r){d l:Nat}{o:Option Operand}(h:bndX ρ d o=some l):bnd (o.map r.ev) d l:=by
 cases o with
 |none=>simp only[bndX,Option.some.injEq] at h;exact h.symm
 |some o=>
  simp only[bndX] at h
  cases hx:evX ρ o with
  |none=>rw[hx] at h;cases h
  |some x=>
   rw[hx] at h;obtain⟨k,hk⟩:=Zrs h (Za3 hE hx);exact⟨k,hk⟩
theorem Yap {l:List Nat}{m:Nat}(h:m < l.length):((str l).data.toList.getD m 0).toNat=l.getD m 0%256:=by
 simp only[str];rw[gB,gB,hV_,gA h];simp
theorem Yb0 {l:List Nat}{a b:Nat}:(str l).extract a b=str ((l.take b).drop a):=by
 apply ByteArray.ext;apply Array.ext';rw[ByteArray.data_extract,Array.toList_extract,List.extract_eq_take_drop];simp[str,List.drop_take]
def bytesX:List X->Option (List Nat)
 |[]=>some []
 |.i .u8 (.ofNat m)::r=>match bytesX r with
  |some l=>some (m::l)
  |none=>none
 |_=>none
theorem Ze8:∀ {xs:List X}{l:List Nat},bytesX xs=some l->vls σ xs=some ((l.map λ(m:Nat)=>(m:Int)).map (Value.int .u8))
 |[],l,h=>by simp only[bytesX,Option.some.injEq] at h;subst h;rfl
 |x::r,l,h=>by
  unfold bytesX at h;split at h
  ·rename_i heq;cases heq
  ·rename_i m r' heq;cases heq
   cases hr:bytesX r with
   |none=>rw[hr] at h;cases h
   |some l'=>
    rw[hr] at h;obtain rfl:=Option.some.inj h;exact Zbo rfl (Ze8 hr)
  ·cases h
theorem Zxv (l:List Nat):∀ (a:List Nat),(l.map λ(m:Nat)=>(m:Int)).foldl (λr n=>r.push (UInt8.ofNat n.toNat)) (str a)=str (a++l):=by
 induction l with
 |nil=>intro a;simp
 |cons c l ih=>
  intro a;rw[hR_,foldl_cons]
  have:(str a).push (UInt8.ofNat (c:Int).toNat)=str (a++[c]):=by
   apply Ze4;simp[str,ByteArray.push]
  rw[this,ih,gI];rfl
def strX (s:St):X->Option X
 |.l none _ _=>some (.s [])
 |.l (some a) n _=>match s.blk a.1 with
  |some c=>match Nat.beq ((c.2.drop a.2).take n).length n,bytesX ((c.2.drop a.2).take n) with
   |true,some l=>some (.s l)
   |_,_=>none
  |none=>none
 |_=>none
theorem Zsi (h:Mem P base σ s w){t d e:TypeId}(h1:P.underlying t=some (.slice e)) (h2:P.underlying e=some (.int .u8)) (h3:P.underlying d=some .string){x y:X}{v:Value}(hx:vl σ x=some v) (hy:strX s x=some y) :
  ∃ u,vl σ y=some u/\(convert t d v).run P w=.ok u w:=by
 unfold strX at hy;split at hy
 ·rename_i n c;obtain rfl:=Option.some.inj hy;simp only[vl,Option.some.injEq] at hx;subst hx;refine⟨.string (str []),rfl,?_⟩;rw[run_convert_bytes_string (P:=P) w t d e none _ c h1 h2 h3];rfl
 ·rename_i a n c;simp only[vl] at hx;split at hy
  ·rename_i cb hb;obtain⟨be,cs⟩:=cb;split at hy
   ·rename_i l hl hby
    obtain rfl:=Option.some.inj hy;obtain⟨rb,off,k,pre,vs,sp,post,g⟩:=h.own a.1 be cs hb;rw[g.sg_] at hx;obtain rfl:=Option.some.inj hx;simp only at hl hby ⊢;refine⟨.string (str l),rfl,?_⟩;have hv:=Zbd n (Zb7 a.2 g.val);have hlen:=Nat.eq_of_beq_eq_true hl;rw[Zas hv] at hlen
    have hvb:=Ze8 (σ:=σ) hby
    rw[hv] at hvb;have hvs:=Option.some.inj hvb;rw[run_convert_bytes_string (P:=P) w t d e _ _ _ h1 h2 h3]
    have hload:(loadCells (⟨rb,off+a.2,none⟩:Addr) n).run P w=.ok ((l.map λ(m:Nat)=>(m:Int)).map (Value.int .u8)).toArray w:=by
     have:=Vc.Zbq (P:=P) (w:=w) (a:=⟨rb,off+a.2,none⟩) (cs:=((vs.drop a.2).take n).toArray) (λj v hj=>by
      have hj2:((vs.drop a.2).take n)[j]?=some v:=by simpa using hj
      rw[Zam];have hjn:=(gH.1 hj2).1;rw[hI_ (by omega),hH_] at hj2
      rw[show off+a.2+j=off+(a.2+j) by omega,g.cell (gH.1 hj2).1,hj2])
     rw[<-hvs]
     have hsz:((vs.drop a.2).take n).toArray.size=n:=by simpa using hlen
     rw[hsz] at this;exact this
    rw[run_bytesToString (P:=P) w _ n _ _ hload];have:=Zxv l [];rw[show str []=ByteArray.empty from rfl] at this;rw[this];rfl
   ·cases hy
  ·cases hy
 ·cases hy
end
end Go.Ev
namespace Go.Ev
open Go Go.Vc
noncomputable section
variable {P:Program}{base:Bs}{σ:Sg}{s:St}{w w':World}
def partX (P:Program) (e:TypeId) (xs:List X) (off:Nat):Option X:=match P.underlying e with
 |some (.struct _)|some (.array _ _)=>(match P.info? e with
  |some i=>some (.g ((xs.drop off).take i.size))
  |none=>none)
 |some _=>xs[off]?
 |none=>none
theorem Ya4 (vs:List Value) (a n:Nat):vs.toArray.extract a (a+n)=((vs.drop a).take n).toArray:=by
 apply Array.ext';rw[Array.toList_extract,List.extract_eq_take_drop];simp
theorem Zg1 {e:TypeId}{xs:List X}{off:Nat}{x:X}{vs:List Value}(h:partX P e xs off=some x) (hv:vls σ xs=some vs):∃ v,vl σ x=some v/\∀ w,(part e vs.toArray off).run P w=.ok v w:=by
 unfold partX at h
 have big:∀ d,P.underlying e=some d->((∃ fs,d=.struct fs)\/∃ n e,d=.array n e)->(match P.info? e with
  |some i=>some (X.g ((xs.drop off).take i.size))
  |none=>none)=some x->∃ v,vl σ x=some v/\∀ w,(part e vs.toArray off).run P w=.ok v w:=by
  intro d hu hd h
  cases hi:P.info? e with
  |none=>rw[hi] at h;cases h
  |some i=>
   rw[hi] at h;obtain rfl:=Option.some.inj h;refine⟨.agg ((vs.drop off).take i.size).toArray,?_,λw=>?_⟩
   ·simp only[vl,Zbd i.size (Zb7 off hv)]
   ·simp only[part,Sem.run_bind,Zb1 hu hd,Result.andThen_ok,if_true,Zaw hi,Sem.run_pure,Ya4]
 cases hu:P.underlying e with
 |none=>rw[hu] at h;cases h
 |some d=>
  rw[hu] at h
  cases d with
  |struct fs=>exact big _ hu (.inl ⟨_,rfl⟩) h
  |array n a=>exact big _ hu (.inr ⟨_,_,rfl⟩) h
  |_=>
   obtain⟨v,g1,g2⟩:=Zeb hv h;refine⟨v,g2,λw=>?_⟩
   have g1':vs.toArray[off]?=some v:=by simpa using g1
   simp only[part,Sem.run_bind,Zdx hu (λfs h=>by cases h) (λn e h=>by cases h),Result.andThen_ok,Bool.false_eq_true,if_false,g1',Sem.run_pure]
def eq1:TypeDesc->X->X->Option Bool
 |.bool,.b a,.b b=>some (a==b)
 |.int _,.i k a,.i k' b=>(match decide (k=k') with
  |true=>some (a==b)
  |false=>none)
 |.string,.s a,.s b=>some (eqN a b)
 |.pointer _,.p none,.p b=>some b.isNone
 |.pointer _,.p (some _),.p none=>some false
 |.interface _,.ni,.ni=>some true
 |.interface _,.ni,.fc _ _=>some false
 |.interface _,.fc _ _,.ni=>some false
 |.slice _,.l none _ _,.l b _ _=>some b.isNone
 |.slice _,.l (some _) _ _,.l none _ _=>some false
 |.slice _,.e0 _ _ _,.l none _ _=>some false
 |.slice _,.l none _ _,.e0 _ _ _=>some false
 |.map _ _,.m none,.m b=>some b.isNone
 |.map _ _,.m (some _),.m none=>some false
 |.func _ _ _,.nf,.nf=>some true
 |.func _ _ _,.nf,.f _ _ _=>some false
 |.func _ _ _,.f _ _ _,.nf=>some false
 |_,_,_=>none
theorem vl_ps {a:Nat × Nat}{v:Value}(h:vl σ (.p (some a))=some v):∃ q,v=.pointer (some q):=by
 simp only[vl] at h
 cases hs:σ a.1 with
 |none=>rw[hs] at h;cases h
 |some r=>rw[hs] at h;exact⟨_,(Option.some.inj h).symm⟩
theorem vl_ls {a:Nat × Nat}{n c:Nat}{v:Value}(h:vl σ (.l (some a) n c)=some v):∃ q m d,v=.slice (some q) m d:=by
 simp only[vl] at h
 cases hs:σ a.1 with
 |none=>rw[hs] at h;cases h
 |some r=>rw[hs] at h;exact⟨_,_,_,(Option.some.inj h).symm⟩
theorem vl_es {b o q:Nat}{v:Value}(h:vl σ (.e0 b o q)=some v):∃ p m,v=.slice (some p) 0 m:=by
 simp only[vl] at h
 cases hs:σ b with
 |none=>rw[hs] at h;cases h
 |some r=>rw[hs] at h;exact⟨_,_,(Option.some.inj h).symm⟩
theorem vl_ms {a:Nat}{v:Value}(h:vl σ (.m (some a))=some v):∃ q,v=.map (some q):=by
 simp only[vl] at h
 cases hs:σ a with
 |none=>rw[hs] at h;cases h
 |some r=>rw[hs] at h;exact⟨_,(Option.some.inj h).symm⟩
theorem vl_fs {fn:Fn}{a c:List X}{v:Value}(h:vl σ (.f fn a c)=some v):∃ us vs,v=.func fn us.toArray vs.toArray/\vls σ a=some us/\vls σ c=some vs:=by
 simp only[vl] at h
 cases hs:vls σ a with
 |none=>rw[hs] at h;cases h
 |some r=>
  cases hc:vls σ c with
  |none=>rw[hs,hc] at h;cases h
  |some r'=>rw[hs,hc] at h;exact⟨_,_,(Option.some.inj h).symm,rfl,rfl⟩
theorem Zfr {t:TypeId}{x:X}{v:Value}(h:vl σ (.fc t x)=some v):∃ u,v=.iface t u/\vl σ x=some u:=by
 simp only[vl] at h
 cases hs:vl σ x with
 |none=>rw[hs] at h;cases h
 |some r=>rw[hs] at h;exact⟨_,(Option.some.inj h).symm,rfl⟩
theorem Ybo {t:TypeId}{d:TypeDesc}{x y:X}{u v:Value}{b:Bool}(hu:P.underlying t=some d) (h:eq1 d x y=some b) (hx:vl σ x=some u) (hy:vl σ y=some v) (D:Nat) (w:World):(Op.equalIn (D+1) t u v).run P w=.ok b w:=by
 unfold eq1 at h;split at h
 ·simp only[vl,Option.some.injEq] at hx hy h;subst hx;subst hy;subst h;exact run_equalIn_bool' w D t _ _ hu
 ·split at h
  ·rename_i hk;have hk:=of_decide_eq_true hk;subst hk;simp only[vl,Option.some.injEq] at hx hy h;subst hx;subst hy;subst h;exact run_equalIn_int w D t _ _ _ _ hu
  ·cases h
 ·simp only[vl,Option.some.injEq] at hx hy h;subst hx;subst hy;subst h;rw[run_equalIn_string w D t _ _ hu,Ze2,Zfp]
 ·rename_i q;simp only[vl,Option.some.injEq] at hx h;subst hx;subst h
  cases q with
  |none=>simp only[vl,Option.some.injEq] at hy;subst hy;simp[Op.equalIn,run_underlying hu]
  |some q=>obtain⟨q',rfl⟩:=vl_ps hy;simp[Op.equalIn,run_underlying hu]
 ·simp only[vl,Option.some.injEq] at hy h;subst hy;subst h;obtain⟨q',rfl⟩:=vl_ps hx;simp[Op.equalIn,run_underlying hu]
 ·simp only[vl,Option.some.injEq] at hx hy h;subst hx;subst hy;subst h;simp[Op.equalIn,run_underlying hu]
 ·simp only[vl,Option.some.injEq] at hx h;subst hx;subst h;obtain⟨q',rfl,_⟩:=Zfr hy;simp[Op.equalIn,run_underlying hu]
 ·simp only[vl,Option.some.injEq] at hy h;subst hy;subst h;obtain⟨q',rfl,_⟩:=Zfr hx;simp[Op.equalIn,run_underlying hu]
 ·rename_i q _ _;simp only[vl,Option.some.injEq] at hx h;subst hx;subst h
  cases q with
  |none=>simp only[vl,Option.some.injEq] at hy;subst hy;simp[Op.equalIn,run_underlying hu]
  |some q=>obtain⟨q',_,_,rfl⟩:=vl_ls hy;simp[Op.equalIn,run_underlying hu]
 ·simp only[vl,Option.some.injEq] at hy h;subst hy;subst h;obtain⟨q',_,_,rfl⟩:=vl_ls hx;simp[Op.equalIn,run_underlying hu]
 ·simp only[vl,Option.some.injEq] at hy h;subst hy;subst h;obtain⟨q',_,rfl⟩:=vl_es hx;simp[Op.equalIn,run_underlying hu]
 ·simp only[vl,Option.some.injEq] at hx h;subst hx;subst h;obtain⟨q',_,rfl⟩:=vl_es hy;simp[Op.equalIn,run_underlying hu]
 ·rename_i q;simp only[vl,Option.some.injEq] at hx h;subst hx;subst h
  cases q with
  |none=>simp only[vl,Option.some.injEq] at hy;subst hy;simp[Op.equalIn,run_underlying hu]
  |some q=>obtain⟨q',rfl⟩:=vl_ms hy;simp[Op.equalIn,run_underlying hu]
 ·simp only[vl,Option.some.injEq] at hy h;subst hy;subst h;obtain⟨q',rfl⟩:=vl_ms hx;simp[Op.equalIn,run_underlying hu]
 ·simp only[vl,Option.some.injEq] at hx hy h;subst hx;subst hy;subst h;simp[Op.equalIn,run_underlying hu]
 ·simp only[vl,Option.some.injEq] at hx h;subst hx;subst h;obtain⟨_,_,rfl,_⟩:=vl_fs hy;simp[Op.equalIn,run_underlying hu]
 ·simp only[vl,Option.some.injEq] at hy h;subst hy;subst h;obtain⟨_,_,rfl,_⟩:=vl_fs hx;simp[Op.equalIn,run_underlying hu]
 ·cases h
def eqFs (P:Program) (eq:TypeId->X->X->Option Bool) (xs ys:List X):List Field->Option Bool
 |[]=>some true
 | f :: fs => match f.name == "_" with
  |true=>eqFs P eq xs ys fs
  |false=>(match partX P f.type xs f.offset,partX P f.type ys f.offset with
   |some a,some b=>(match eq f.type a b with
    |some true=>eqFs P eq xs ys fs
    |some false=>some false
    |none=>none)
   |_,_=>none)
def eqIs (P:Program) (eq:TypeId->X->X->Option Bool) (e:TypeId) (c:Nat) (xs ys:List X):List Nat->Option Bool
 |[]=>some true
 |i::is=>(match partX P e xs (i*c),partX P e ys (i*c) with
  |some a,some b=>(match eq e a b with
   |some true=>eqIs P eq e c xs ys is
   |some false=>some false
   |none=>none)
  |_,_=>none)
def eqT (P:Program):Nat->TypeId->X->X->Option Bool
 |0,_,_,_=>none
 |d+1,t,x,y=>match P.underlying t with
  |some (.struct fs)=>(match P.stoodInHeld t,x,y with
   |false,.g xs,.g ys=>eqFs P (eqT P d) xs ys fs.toList
   |_,_,_=>none)
  |some (.array n e)=>(match P.info? e,x,y with
   |some i,.g xs,.g ys=>eqIs P (eqT P d) e i.size xs ys (List.range n)
   |_,_,_=>none)
  |some k=>eq1 k x y
  |none=>none
def EqOk (P:Program) (σ:Sg) (D:Nat) (eq:TypeId->X->X->Option Bool):Prop:=∀ t x y u v b,eq t x y=some b->vl σ x=some u->vl σ y=some v->∀ w,(Op.equalIn D t u v).run P w=.ok b w
theorem Zns {D:Nat}{eq:TypeId->X->X->Option Bool}(he:EqOk P σ D eq){xs ys:List X}{us vs:List Value}(hx:vls σ xs=some us) (hy:vls σ ys=some vs):∀ {fs:List Field}{b:Bool},eqFs P eq xs ys fs=some b->∀ w,(Op.eqFields D us.toArray vs.toArray fs).run P w=.ok b w
 |[],b,h,w=>by obtain rfl:=Option.some.inj h;rfl
 |f::fs,b,h,w=>by
  simp only[eqFs] at h;unfold Op.eqFields
  cases hn : f.name == "_" with
  |true=>
   rw[hn] at h
   have hn' : f.name = "_" := by simpa using hn
   rw[if_neg (by simp[hn'])];exact Zns he hx hy h w
  |false=>
   rw[hn] at h
   have hn' : f.name ≠ "_" := by simpa using hn
   rw[if_pos hn'];simp only at h;split at h
   ·rename_i a c ha hc;obtain⟨v1,g1,g2⟩:=Zg1 ha hx;obtain⟨v2,g3,g4⟩:=Zg1 hc hy;split at h
    ·rename_i hb;simp only[Sem.run_bind,g2,g4,Result.andThen_ok,he _ _ _ _ _ _ hb g1 g3,Bool.not_true,Bool.false_eq_true,if_false];exact Zns he hx hy h w
    ·rename_i hb;obtain rfl:=Option.some.inj h;simp only[Sem.run_bind,g2,g4,Result.andThen_ok,he _ _ _ _ _ _ hb g1 g3,Bool.not_false,if_true,Sem.run_pure]
    ·cases h
   ·cases h
theorem Zue {D:Nat}{eq:TypeId->X->X->Option Bool}(he:EqOk P σ D eq){e:TypeId}{xs ys:List X}{us vs:List Value}{c:Nat}(hx:vls σ xs=some us) (hy:vls σ ys=some vs):∀ {is:List Nat}{b:Bool},eqIs P eq e c xs ys is=some b->∀ w,(Op.eqItems D e c us.toArray vs.toArray is).run P w=.ok b w
 |[],b,h,w=>by obtain rfl:=Option.some.inj h;rfl
 |i::is,b,h,w=>by
  simp only[eqIs] at h;unfold Op.eqItems;split at h
  ·rename_i a q ha hc;obtain⟨v1,g1,g2⟩:=Zg1 ha hx;obtain⟨v2,g3,g4⟩:=Zg1 hc hy;split at h
   ·rename_i hb;simp only[Sem.run_bind,g2,g4,Result.andThen_ok,he _ _ _ _ _ _ hb g1 g3,Bool.not_true,Bool.false_eq_true,if_false];exact Zue he hx hy h w
   ·rename_i hb;obtain rfl:=Option.some.inj h;simp only[Sem.run_bind,g2,g4,Result.andThen_ok,he _ _ _ _ _ _ hb g1 g3,Bool.not_false,if_true,Sem.run_pure]
   ·cases h
  ·cases h
theorem Zt5 (k:Nat):∀ d,EqOk P σ (d+k) (eqT P d)
 |0=>λt x y u v b h=>by simp only[eqT] at h;cases h
 |d+1=>λt x y u v b h hx hy w=>by
  simp only[eqT] at h
  have hd:d+1+k=d+k+1:=by omega
  rw[hd]
  cases hu:P.underlying t with
  |none=>rw[hu] at h;cases h
  |some q=>
   rw[hu] at h
   cases q with
   |struct fs=>
    simp only at h;split at h
    ·rename_i xs ys hp;simp only[vl] at hx hy
     cases h1:vls σ xs with
     |none=>rw[h1] at hx;cases hx
     |some us=>
      cases h2:vls σ ys with
      |none=>rw[h2] at hy;cases hy
      |some vs=>
       rw[h1] at hx;rw[h2] at hy;obtain rfl:=Option.some.inj hx;obtain rfl:=Option.some.inj hy
       have hf:P.fieldsOf t=fs:=by unfold Program.fieldsOf;rw[hu]
       rw[run_equalIn_struct w (d+k) t _ _ (by rw[hf];exact hu) hp,hf];exact Zns (Zt5 k d) h1 h2 h w
    ·cases h
   |array n e=>
    simp only at h;split at h
    ·rename_i i xs ys hi;simp only[vl] at hx hy
     cases h1:vls σ xs with
     |none=>rw[h1] at hx;cases hx
     |some us=>
      cases h2:vls σ ys with
      |none=>rw[h2] at hy;cases hy
      |some vs=>
       rw[h1] at hx;rw[h2] at hy;obtain rfl:=Option.some.inj hx;obtain rfl:=Option.some.inj hy;rw[run_equalIn_array w (d+k) _ _ hu hi,show P.cellsOf e=i.size by unfold Program.cellsOf;rw[hi];rfl];exact Zue (Zt5 k d) h1 h2 h w
    ·cases h
   |_=>exact Ybo hu h hx hy (d+k) w
def isC:Operand->Bool
 |.const _=>true
 |_=>false
def gdE (P:Program) (t:TypeId) (A B:Operand):X->X->Bool
 |.ni,.ni=>(match isC A with
  |true=>true
  |false=>isC B)
 |.g _,.g _=>(match P.eqGuardType P.depth t with
  |true=>false
  |false=>true)
 |_,_=>true
theorem Zz1 {A:Operand}(h:isC A=true):∃ v,A=.const v:=by
 cases A with
 |const v=>exact⟨v,rfl⟩
 |_=>cases h
theorem Zzf {x:X}(h:vl σ x=some .nilIface):x=.ni:=by
 cases x with
 |ni=>rfl
 |p a=>cases a with
  |none=>simp[vl] at h
  |some a=>obtain⟨_,h⟩:=vl_ps h;cases h
 |l a n c=>cases a with
  |none=>simp[vl] at h
  |some a=>obtain⟨_,_,_,h⟩:=vl_ls h;cases h
 |m a=>cases a with
  |none=>simp[vl] at h
  |some a=>obtain⟨_,h⟩:=vl_ms h;cases h
 |f fn a c=>obtain⟨_,_,h,_⟩:=vl_fs h;cases h
 |e0 b o q=>obtain⟨_,_,h⟩:=vl_es h;cases h
 |fc t x=>obtain⟨_,h,_⟩:=Zfr h;cases h
 |g xs=>simp only[vl] at h;cases hs:vls σ xs <;> rw[hs] at h <;> cases h
 |t xs=>simp only[vl] at h;cases hs:vls σ xs <;> rw[hs] at h <;> cases h
 |_=>simp[vl] at h
theorem Zyq {x:X}{cs:Array Value}(h:vl σ x=some (.agg cs)):∃ xs vs,x=.g xs/\vls σ xs=some vs/\cs=vs.toArray:=by
 cases x with
 |g xs=>
  simp only[vl] at h
  cases hs:vls σ xs with
  |none=>rw[hs] at h;cases h
  |some vs=>rw[hs] at h;exact⟨xs,vs,rfl,hs,by have:=Option.some.inj h;cases this;rfl⟩
 |p a=>cases a with
  |none=>simp[vl] at h
  |some a=>obtain⟨_,h⟩:=vl_ps h;cases h
 |l a n c=>cases a with
  |none=>simp[vl] at h
  |some a=>obtain⟨_,_,_,h⟩:=vl_ls h;cases h
 |m a=>cases a with
  |none=>simp[vl] at h
  |some a=>obtain⟨_,h⟩:=vl_ms h;cases h
 |f fn a c=>obtain⟨_,_,h,_⟩:=vl_fs h;cases h
 |e0 b o q=>obtain⟨_,_,h⟩:=vl_es h;cases h
 |fc t x=>obtain⟨_,h,_⟩:=Zfr h;cases h
 |t xs=>simp only[vl] at h;cases hs:vls σ xs <;> rw[hs] at h <;> cases h
 |_=>simp[vl] at h
theorem Ya2 {t:TypeId}{A B:Operand}{u v:Value}{op:BinOp}(w:World) (hn:u=.nilIface->v=.nilIface->isC A=true\/isC B=true) (ha:∀ cs ds,u=.agg cs->v=.agg ds->P.eqGuardType P.depth t=false):(eqGuard op t A B u v).run P w=.ok () w:=by
 have key:∀ q:BinOp,(q=.eql\/q=.neq)->(eqGuard q t A B u v).run P w=.ok () w:=by
  intro q hq;unfold eqGuard;rw[if_neg (by rcases hq with rfl|rfl <;> decide)];split
  ·rcases hn rfl rfl with h|h
   ·obtain⟨v,rfl⟩:=Zz1 h;rfl
   ·obtain⟨v,rfl⟩:=Zz1 h;simp
  ·simp[run_program,ha _ _ rfl rfl]
  ·rfl
 cases op with
 |eql=>exact key _ (.inl rfl)
 |neq=>exact key _ (.inr rfl)
 |_=>rfl
theorem Yc2 {t:TypeId}{A B:Operand}{x y:X}{u v:Value}{op:BinOp}(h:gdE P t A B x y=true) (hx:vl σ x=some u) (hy:vl σ y=some v) (w:World):(eqGuard op t A B u v).run P w=.ok () w:=by
 refine Ya2 w (λh1 h2=>?_) λcs ds h1 h2=>?_
 ·subst h1;subst h2;have h1:=Zzf hx;have h2:=Zzf hy;subst h1;subst h2;simp only[gdE] at h
  cases hA:isC A with
  |true=>exact .inl rfl
  |false=>rw[hA] at h;exact .inr h
 ·subst h1;subst h2;obtain⟨xs,us,rfl,_⟩:=Zyq hx;obtain⟨ys,vs,rfl,_⟩:=Zyq hy;simp only[gdE] at h
  cases hg:P.eqGuardType P.depth t with
  |true=>rw[hg] at h;cases h
  |false=>rfl
def beX (P:Program) (op:BinOp) (t:TypeId) (A B:Operand) (x y:Option X):Option X:=match x,y with
 |some x,some y=>(match gdE P t A B x y with
  |true=>(match op with
   |.eql=>(match eqT P 20 t x y with
    |some b=>some (.b b)
    |none=>none)
   |.neq=>(match eqT P 20 t x y with
    |some b=>some (.b (!b))
    |none=>none)
   |_=>none)
  |false=>none)
 |_,_=>none
def oddV:Value->Bool
 |.agg _|.slice _ _ _|.map _|.func _ _ _|.nilFunc|.iface _ _|.nilIface=>true
 |_=>false
theorem Yad {d:TypeDesc}{x y:X}{u v:Value}{b:Bool}(h1:∀ k,d≠.int k) (h2:d≠.string) (h3:d≠.bool) (h4:∀ e,d≠.pointer e) (h:eq1 d x y=some b) (hx:vl σ x=some u) (hy:vl σ y=some v):oddV u=true:=by
 unfold eq1 at h;split at h
 ·exact absurd rfl h3
 ·exact absurd rfl (h1 _)
 ·exact absurd rfl h2
 ·exact absurd rfl (h4 _)
 ·exact absurd rfl (h4 _)
 ·simp only[vl,Option.some.injEq] at hx;subst hx;rfl
 ·simp only[vl,Option.some.injEq] at hx;subst hx;rfl
 ·obtain⟨_,rfl,_⟩:=Zfr hx;rfl
 ·simp only[vl,Option.some.injEq] at hx;subst hx;rfl
 ·obtain⟨_,_,_,rfl⟩:=vl_ls hx;rfl
 ·obtain⟨_,_,rfl⟩:=vl_es hx;rfl
 ·simp only[vl,Option.some.injEq] at hx;subst hx;rfl
 ·simp only[vl,Option.some.injEq] at hx;subst hx;rfl
 ·obtain⟨_,rfl⟩:=vl_ms hx;rfl
 ·simp only[vl,Option.some.injEq] at hx;subst hx;rfl
 ·simp only[vl,Option.some.injEq] at hx;subst hx;rfl
 ·obtain⟨_,_,rfl,_⟩:=vl_fs hx;rfl
 ·cases h
theorem Ybd {t:TypeId}{d:TypeDesc}{n:Nat}{x y:X}{u v:Value}{b:Bool}(hd:P.underlying t=some d) (h1:∀ k,d≠.int k) (h2:d≠.string) (h3:d≠.bool) (h4:∀ e,d≠.pointer e) (h:eqT P n t x y=some b) (hx:vl σ x=some u) (hy:vl σ y=some v):oddV u=true:=by
 cases n with
 |zero=>simp only[eqT] at h;cases h
 |succ n=>
  simp only[eqT,hd] at h
  cases d with
  |struct fs=>
   simp only at h;split at h
   ·simp only[vl] at hx;rename_i xs ys hp
    cases hs:vls σ xs <;> rw[hs] at hx
    ·cases hx
    ·obtain rfl:=Option.some.inj hx;rfl
   ·cases h
  |array n e=>
   simp only at h;split at h
   ·simp only[vl] at hx;rename_i i xs ys hp
    cases hs:vls σ xs <;> rw[hs] at hx
    ·cases hx
    ·obtain rfl:=Option.some.inj hx;rfl
   ·cases h
  |_=>exact Yad h1 h2 h3 h4 h hx hy
theorem Yc3 {t:TypeId}{d:TypeDesc}{op:BinOp}{A B:Operand}{x y:Option X}{z:X}{f:Operand->Value}(hd:P.underlying t=some d) (h1:∀ k,d≠.int k) (h2:d≠.string) (h3:d≠.bool) (h4:∀ e,d≠.pointer e)
  (h:beX P op t A B x y=some z) (hx:∀ a,x=some a->vl σ a=some (f A)) (hy:∀ a,y=some a->vl σ a=some (f B)) {w:World} {K:Value->Prop} (hK:∀ v,vl σ z=some v->K v):Be P op t A B (f A) (f B) w K:=by
 unfold beX at h;split at h
 ·rename_i x y;have hx:=hx _ rfl;have hy:=hy _ rfl;split at h
  ·rename_i hg;have gd:=λw=>Yc2 (op:=op) hg hx hy w;have fin:∀ b:Bool,eqT P 20 t x y=some b->(Op.equal t (f A) (f B)).run P w=.ok b w/\oddV (f A)=true:=λb hb=>⟨Zt5 9980 20 t x y _ _ b hb hx hy w,Ybd hd h1 h2 h3 h4 hb hx hy⟩;split at h
   ·split at h
    ·rename_i b hb;obtain rfl:=Option.some.inj h;obtain⟨g1,g2⟩:=fin b hb;refine⟨.bool b,?_,hK _ rfl⟩;rw[Sem.run_bind,gd w];simp only[Result.andThen_ok];clear fin gd hK hx hy;generalize f A=p at g1 g2 ⊢;generalize f B=q at g1 ⊢
     cases p <;> first|exact Bool.noConfusion g2|(cases q <;> simp only[binOp,Sem.run_bind,g1,Result.andThen_ok,Sem.run_pure])
    ·cases h
   ·split at h
    ·rename_i b hb;obtain rfl:=Option.some.inj h;obtain⟨g1,g2⟩:=fin b hb;refine⟨.bool (!b),?_,hK _ rfl⟩;rw[Sem.run_bind,gd w];simp only[Result.andThen_ok];clear fin gd hK hx hy;generalize f A=p at g1 g2 ⊢;generalize f B=q at g1 ⊢
     cases p <;> first|exact Bool.noConfusion g2|(cases q <;> simp only[binOp,Sem.run_bind,g1,Result.andThen_ok,Sem.run_pure])
    ·cases h
   ·cases h
  ·cases h
 ·cases h
theorem mgetObj {r:Nat}{es:Array MapEntry}{clock:Nat}(hb:w.heap[r]?=some (.map es clock)):(getObj r).run P w=.ok (.map es clock) w:=by
 simp[getObj,Sem.run,hb]
theorem msetObj {r:Nat}{es:Array MapEntry}{clock:Nat}(o:Obj) (hb:w.heap[r]?=some (.map es clock)):(setObj r o).run P w=.ok () { w with heap:=w.heap.setIfInBounds r o }:=by
 simp[setObj,Sem.run,hb]
theorem mfindKey {kt:TypeId}{d:TypeDesc}{k:Value}{l:List MapEntry}{a:Option (Nat × Value)}(hd:P.underlying kt=some d) (h:Instr.findNow d k l 0=some a):(Instr.findKey kt k l).run P w=.ok a w:=by
 simp[Instr.findKey,run_underlying hd,Result.andThen,h]
def keyOk:TypeDesc->X->Bool
 |.int _,.i _ _=>true
 |.string,.s _=>true
 |_,_=>false
def keyEq:X->X->Option Bool
 |.i k a,.i k' b=>(match decide (k=k') with
  |true=>some (a==b)
  |false=>none)
 |.s a,.s b=>some (eqN a b)
 |_,_=>none
def findX (k:X):List (X × X)->Nat->Option (Option (Nat × X))
 |[],_=>some none
 |e::es,i=>match keyEq k e.1 with
  |some true=>some (some (i,e.2))
  |some false=>findX k es (i+1)
  |none=>none
theorem Zxe {d:TypeDesc}{x y:X}{u v:Value}{b:Bool}(hk:keyOk d x=true) (h:keyEq x y=some b) (hx:vl σ x=some u) (hy:vl σ y=some v):Instr.sameNow d u v=some b:=by
 unfold keyEq at h;split at h
 ·split at h
  ·rename_i hk';have hk':=of_decide_eq_true hk';subst hk';simp only[vl,Option.some.injEq] at hx hy h;subst hx;subst hy;subst h
   cases d <;> simp[keyOk] at hk
   simp[Instr.sameNow]
  ·cases h
 ·simp only[vl,Option.some.injEq] at hx hy h;subst hx;subst hy;subst h
  cases d <;> simp[keyOk] at hk
  simp only[Instr.sameNow];rw[beq_toListBytes,Zfp,Ze2]
 ·cases h
def FX (σ:Sg) (k:X) (es:List (X × X)) (i:Nat):Option (Nat × X)->Option (Nat × Value)->Prop
 |none,none=>True
 |some r,some q=>r.1=q.1/\vl σ r.2=some q.2/\i<=r.1/\(∃ e,es[r.1 - i]?=some e/\keyEq k e.1=some true)
 |_,_=>False
theorem Zd9 {d:TypeDesc}{k:X}{kv:Value}(hk:keyOk d k=true) (hv:vl σ k=some kv):∀ {es:List (X × X)}{l:List MapEntry}{i:Nat}{r:Option (Nat × X)},EsR σ es l->findX k es i=some r->
  ∃ q,Instr.findNow d kv l i=some q/\FX σ k es i r q
 |[],[],i,r,_,h=>by
  obtain rfl:=Option.some.inj h;exact⟨none,rfl,trivial⟩
 |(a,b)::es,e::l,i,r,⟨h1,h2,h3⟩,h=>by
  simp only[findX] at h
  cases hq:keyEq k a with
  |none=>rw[hq] at h;cases h
  |some c=>
   have hs:=Zxe hk hq hv h1;rw[hq] at h
   cases c with
   |true=>
    obtain rfl:=Option.some.inj h;exact⟨some (i,e.val),by simp[Instr.findNow,hs],rfl,h2,Nat.le_refl _,(a,b),by simp,hq⟩
   |false=>
    obtain⟨q,g1,g2⟩:=Zd9 hk hv (i:=i+1) h3 h;refine⟨q,by simp[Instr.findNow,hs,g1],?_⟩
    cases r with
    |none=>
     cases q with
     |none=>trivial
     |some q=>exact g2.elim
    |some r=>
     obtain⟨j,x⟩:=r
     cases q with
     |none=>exact g2.elim
     |some q=>
      obtain⟨j',v⟩:=q;obtain⟨e1,e2,e3,e',e4,e5⟩:=g2;refine⟨e1,e2,Nat.le_of_succ_le e3,e',?_,e5⟩;show ((a,b)::es)[j - i]?=_;have e3':i+1<=j:=e3;rw[show j - i=(j - (i+1))+1 by omega,gF];exact e4
 |[],_::_,_,_,h,_=>h.elim
 |_::_,[],_,_,h,_=>h.elim
theorem Zdb {d:TypeDesc}{kt:TypeId}{k:X}{kv:Value}(hd:P.underlying kt=some d) (hk:keyOk d k=true) (hv:vl σ k=some kv) (e:Bool) (n:Nat) (w:World):(Instr.checkKey e (n+1) kt kv).run P w=.ok () w:=by
 unfold Instr.checkKey;simp only[Sem.run_bind,run_underlying hd,Result.andThen]
 cases d <;> cases k <;> simp[keyOk] at hk
 all_goals (simp only[vl,Option.some.injEq] at hv;subst hv;rfl)
def zeroVX (P:Program) (t:TypeId):Option X:=match P.info? t with
 |some i=>(match i.zero with
  |some (.agg cs)=>(match ofVs cs.toList with
   |some xs=>some (.g xs)
   |none=>none)
  |some z=>ofV z
  |none=>none)
 |none=>none
theorem Zhn {t:TypeId}{x:X}(h:zeroVX P t=some x):∃ z,vl σ x=some z/\∀ w,(zeroValue t).run P w=.ok z w:=by
 unfold zeroVX at h;split at h
 ·rename_i i hi
  have run:∀ z,i.zero=some z->∀ w,(zeroValue t).run P w=.ok z w:=λz hz w=>by simp[zeroValue,typeInfo,hi,hz]
  split at h
  ·rename_i cs hz;split at h
   ·rename_i xs hxs;obtain rfl:=Option.some.inj h;refine⟨_,?_,run _ hz⟩;simp only[vl,Zjt hxs]
   ·cases h
  ·rename_i z _ hz;exact⟨_,Zi8 h,run _ hz⟩
  ·cases h
 ·cases h
def esX (s:St):Option Nat->Option (List (X × X))
 |none=>some []
 |some b=>(match s.mo b with
  |some (.mp es)=>some es
  |_=>none)
def lkR (ok:Bool) (v:X) (b:Bool):X:=match ok with
 |true=>.t [v,.b b]
 |false=>v
def lkX (P:Program) (s:St) (t:TypeId) (x i:Option X) (ok:Bool):Option X:=match P.underlying t,x,i with
 |some (.map k e),some (.m b),some i=>(match P.underlying k,esX s b with
  |some d,some es=>(match keyOk d i,findX i es 0 with
   |true,some (some q)=>some (lkR ok q.2 true)
   |true,some none=>(match zeroVX P e with
    |some z=>some (lkR ok z false)
    |none=>none)
   |_,_=>none)
  |_,_=>none)
 |_,_,_=>none
theorem Ycg {ok b:Bool}{x:X}{v:Value}(h:vl σ x=some v):vl σ (lkR ok x b)=some (if ok then .tuple #[v,.bool b] else v):=by
 cases ok with
 |true=>simp only[lkR,vl,vls,h];rfl
 |false=>exact h
theorem Ybt (hM:Mem P base σ s w){t:TypeId}{x i:Option X}{ok:Bool}{z:X}{u v:Value}(h:lkX P s t x i ok=some z) (hx:∀ a,x=some a->vl σ a=some u) (hi:∀ a,i=some a->vl σ a=some v){K:Value->Prop}(hK:∀ v,vl σ z=some v->K v):Lk P t u v ok w K:=by
 unfold lkX at h;split at h
 ·rename_i k e b i ht;have hx:=hx _ rfl;have hi:=hi _ rfl;split at h
  ·rename_i d es hd hes
   have hent:∃ l:List MapEntry,EsR σ es l/\((u=.map none/\l=[])\/∃ rb clock,u=.map (some rb)/\w.heap[rb]?=some (.map l.toArray clock)):=by
    cases b with
    |none=>
     simp only[vl,Option.some.injEq] at hx;obtain rfl:=Option.some.inj hes;exact⟨[],trivial,.inl ⟨hx.symm,rfl⟩⟩
    |some b=>
     simp only[esX] at hes;split at hes
     ·rename_i es' hb;obtain rfl:=Option.some.inj hes;obtain⟨rb,g1,g2,l,clock,g3,g4⟩:=hM.mown b _ hb;simp only[vl,g1,Option.some.injEq] at hx;exact⟨l,g4,.inr ⟨rb,clock,hx.symm,g3⟩⟩
     ·cases hes
   obtain⟨l,hE,hu⟩:=hent
   have fin:∀ r,keyOk d i=true->findX i es 0=some r->∀ (z':X) (zv:Value),(match r with
     |some q=>z'=q.2/\vl σ z'=some zv
     |none=>zeroVX P e=some z'/\vl σ z'=some zv)->z=lkR ok z' r.isSome->Lk P t u v ok w K:=by
    intro r hk hf z' zv hz hzz;obtain⟨q,g1,g2⟩:=Zd9 hk hi hE hf;have hfk:=mfindKey (P:=P) (w:=w) hd g1;have hck:∀ b,(Instr.checkKey b 10000 k v).run P w=.ok () w:=λb=>Zdb hd hk hi b 9999 w
    refine⟨if ok then .tuple #[zv,.bool r.isSome] else zv,?_,hK _ (by rw[hzz];exact Ycg (by
     cases r with
     |none=>exact hz.2
     |some r=>exact hz.2))⟩
    unfold Instr.lookup;rw[Sem.run_bind,run_underlying ht]
    cases r with
    |none=>
     cases q with
     |some q=>exact g2.elim
     |none=>
      obtain⟨zv',e1,e2⟩:=Zhn (σ:=σ) hz.1;rw[hz.2] at e1;obtain rfl:=Option.some.inj e1;rcases hu with⟨rfl,rfl⟩|⟨rb,clock,rfl,g3⟩
      ·simp only[Result.andThen_ok,Sem.run_bind,Sem.run_pure,hck,toList_toArray,hfk,e2,Option.isSome_none]
      ·simp only[Result.andThen_ok,Sem.run_bind,Sem.run_pure,mgetObj g3,hck,toList_toArray,hfk,e2,Option.isSome_none]
    |some r=>
     obtain⟨j,x'⟩:=r
     cases q with
     |none=>exact g2.elim
     |some q=>
      obtain⟨j',v'⟩:=q;obtain⟨_,e2,_⟩:=g2;obtain⟨rfl,e3⟩:=hz;simp only at e2 e3;rw[e2] at e3;obtain rfl:=Option.some.inj e3;rcases hu with⟨rfl,rfl⟩|⟨rb,clock,rfl,g3⟩
      ·simp only[Result.andThen_ok,Sem.run_bind,Sem.run_pure,hck,toList_toArray,hfk,Option.isSome_some]
      ·simp only[Result.andThen_ok,Sem.run_bind,Sem.run_pure,mgetObj g3,hck,toList_toArray,hfk,Option.isSome_some]
   split at h
   ·rename_i q hk hf;obtain rfl:=Option.some.inj h;obtain⟨q',g1,g2⟩:=Zd9 hk hi hE hf
    cases q' with
    |none=>exact g2.elim
    |some q'=>exact fin (some q) hk hf q.2 q'.2 ⟨rfl,g2.2.1⟩ rfl
   ·rename_i hk hf;split at h
    ·rename_i z' hz;obtain rfl:=Option.some.inj h;obtain⟨zv,e1,_⟩:=Zhn (σ:=σ) hz;exact fin none hk hf z' zv ⟨hz,e1⟩ rfl
    ·cases h
   ·cases h
  ·cases h
 ·cases h
def methX (P:Program) (t:TypeId) (name:String):Option FuncId:=match P.info? t,P.underlying t with
 |some i,some (.pointer _)=>(match i.methods.toList.find? (·.name==name) with
  |some m=>(match m.path.isEmpty,m.func with
   |true,some (f,true)=>some f
   |_,_=>none)
  |none=>none)
 |_,_=>none
theorem Zvc {t:TypeId}{name:String}{f:FuncId}{v:Value}(h:methX P t name=some f) (n:Nat) (w:World):(method (n+1) t v name).run P w=.ok (f,v) w:=by
 unfold methX at h;split at h
 ·rename_i i e hi hu;split at h
  ·rename_i m hm;split at h
   ·rename_i f' hp hf;obtain rfl:=Option.some.inj h
    have hm':i.methods.find? (·.name==name)=some m:=by rw[<-hm,Array.find?_toList]
    have hpath:m.path.toList=[]:=by
     have:=Array.isEmpty_iff.1 hp;rw[this]
    unfold method;rw[Sem.run_bind,show (typeInfo t).run P w=.ok i w by simp[typeInfo,hi]];simp only[Result.andThen_ok,hm',hpath,follow,Sem.run_bind,Sem.run_pure,hf];simp only[receiverAt,Sem.run_bind,run_underlying hu,Result.andThen_ok,Place.get,Sem.run_pure]
   ·cases h
  ·cases h
 ·cases h
def taR (ok:Bool) (x:X):Option X:=some (match ok with
 |true=>.t [x,.b true]
 |false=>x)
def taF (P:Program) (a:TypeId) (ok:Bool):Option X:=match ok,zeroVX P a with
 |true,some z=>some (.t [z,.b false])
 |_,_=>none
def missB (want:Array (String × TypeId)) (got:Array Method):Bool:=(want.toList.filter λx=>!got.any λm=>m.name==x.1&&m.sig==x.2).isEmpty
def taI (P:Program) (a:TypeId) (ok:Bool) (want:Array (String × TypeId)):X->Option X
 |.ni=>taF P a ok
 |.fc t x=>(match P.info? t with
  |some i=>(match missB want i.methods with
   |true=>taR ok (.fc t x)
   |false=>taF P a ok)
  |none=>none)
 |_=>none
def taC (P:Program) (a:TypeId) (ok:Bool):X->Option X
 |.ni=>taF P a ok
 |.fc t x=>(match Nat.beq t a with
  |true=>taR ok x
  |false=>taF P a ok)
 |_=>none
def taX (P:Program) (a:TypeId) (ok:Bool) (x:Option X):Option X:=match P.underlying a,x with
 |some (.interface want),some x=>taI P a ok want x
 |some _,some x=>taC P a ok x
 |_,_=>none
theorem Zy6 {ok:Bool}{x z:X}{v:Value}(h:taR ok x=some z) (hx:vl σ x=some v):vl σ z=some (if ok then .tuple #[v,.bool true] else v):=by
 obtain rfl:=Option.some.inj h
 cases ok with
 |true=>simp only[vl,vls,hx];rfl
 |false=>exact hx
theorem Zoz {a:TypeId}{ok:Bool}{z:X}(h:taF P a ok=some z):∃ v,ok=true/\vl σ z=some (.tuple #[v,.bool false])/\∀ w,(zeroValue a).run P w=.ok v w:=by
 unfold taF at h;split at h
 ·rename_i y hy;obtain rfl:=Option.some.inj h;obtain⟨v,h1,h2⟩:=Zhn (σ:=σ) hy;refine⟨v,rfl,?_,h2⟩;simp only[vl,vls,h1]
 ·cases h
theorem Yci {a xt:TypeId}{ok:Bool}{x:Option X}{z:X}{u:Value}(h:taX P a ok x=some z) (hx:∀ b,x=some b->vl σ b=some u){K:Value->Prop}(hK:∀ v,vl σ z=some v->K v):Ta P u xt a ok w K:=by
 unfold taX at h;split at h
 ·rename_i want x hu;have hx:=hx _ rfl;unfold taI at h;split at h
  ·simp only[vl,Option.some.injEq] at hx;subst hx;obtain⟨v,rfl,h1,h2⟩:=Zoz (σ:=σ) h;refine⟨_,?_,hK _ h1⟩;simp[Instr.typeAssert,run_underlying hu,h2]
  ·rename_i t y;obtain⟨v,rfl,hv⟩:=Zfr hx;split at h
   ·rename_i i hi;split at h
    ·rename_i hm;refine⟨_,?_,hK _ (Zy6 h hx)⟩;have hm':(want.toList.filter λx=>!i.methods.any λm=>m.name==x.1&&m.sig==x.2)=[]:=List.isEmpty_iff.1 hm
     have hmm:Instr.missingMethod want i.methods=none:=by
      unfold Instr.missingMethod;rw[hm'];rfl
     simp[Instr.typeAssert,run_underlying hu,typeInfo,hi,hmm]
    ·rename_i hm;obtain⟨v',rfl,h1,h2⟩:=Zoz (σ:=σ) h;exact Zz5 hu hi (λe=>by unfold missB at hm;rw[e] at hm;exact Bool.noConfusion hm) h2 (hK _ h1)
   ·cases h
  ·cases h
 ·rename_i d x hni hu;have hx:=hx _ rfl;unfold taC at h;split at h
  ·simp only[vl,Option.some.injEq] at hx;subst hx;obtain⟨v,rfl,h1,h2⟩:=Zoz (σ:=σ) h;refine⟨_,?_,hK _ h1⟩;simp only[Instr.typeAssert,run_underlying hu,Sem.run_bind,Result.andThen_ok]
   cases d <;> first|exact absurd rfl (hni _)|simp[h2]
  ·rename_i t y;obtain⟨v,rfl,hv⟩:=Zfr hx;split at h
   ·rename_i ht;obtain rfl:=Nat.eq_of_beq_eq_true ht;refine⟨_,?_,hK _ (Zy6 h hv)⟩;simp only[Instr.typeAssert,run_underlying hu,Sem.run_bind,Result.andThen_ok]
    cases d <;> first|exact absurd rfl (hni _)|simp
   ·rename_i ht;have ht:=Nat.ne_of_beq_eq_false ht;obtain⟨v',rfl,h1,h2⟩:=Zoz (σ:=σ) h;refine⟨_,?_,hK _ h1⟩;simp only[Instr.typeAssert,run_underlying hu,Sem.run_bind,Result.andThen_ok]
    cases d <;> first|exact absurd rfl (hni _)|simp[h2,ht]
  ·cases h
 ·cases h
end
end Go.Ev
namespace Go.Ev
open Go Go.Vc
noncomputable section
variable {P:Program}{base:Bs}{w0:World}{σ:Sg}{s:St}{w w':World}
theorem Zv4 {p:Program}{fits:TypeId->Bool}{d:Nat}{e:TypeId}{c c' o q n:Nat}(h:rowAt p fits d e c o n=true) (hc:c+q<=c'):rowAt p fits d e c' (q*p.cellsOf e+o) n=true:=by
 cases d with
 |zero=>simp[rowAt] at h
 |succ d=>
  unfold rowAt at h ⊢
  by_cases hs:p.cellsOf e=0
  ·simp[hs] at h
  ·simp only[hs,if_false] at h ⊢
   have h1:(q*p.cellsOf e+o)/p.cellsOf e=q+o/p.cellsOf e:=by
    rw[Nat.add_comm,Nat.add_mul_div_right _ _ (Nat.pos_of_ne_zero hs),Nat.add_comm]
   have h2:(q*p.cellsOf e+o)%p.cellsOf e=o%p.cellsOf e:=by rw[Nat.add_comm,Nat.add_mul_mod_self_right]
   rw[h1,h2];rw[Bool.or_eq_true] at h ⊢;rcases h with h|h
   ·left;simp only[Bool.and_eq_true,decide_eq_true_eq] at h ⊢;exact⟨⟨h.1.1,by have:=h.1.2;omega⟩,h.2⟩
   ·right;simp only[Bool.and_eq_true,decide_eq_true_eq] at h ⊢;exact⟨by have:=h.1;omega,h.2⟩
theorem Zhb {p:Program}{e:TypeId}{c c' o q:Nat}(hc:c+q<=c'):∀ {d:Nat}{u:TypeId}{n:Nat},liesAt p d e c o u n=true->liesAt p d e c' (q*p.cellsOf e+o) u n=true
 |0,u,n,h=>by simp[liesAt] at h
 |d+1,u,n,h=>by
  unfold liesAt at h ⊢;rw[Bool.or_eq_true] at h ⊢;rcases h with h|h
  ·exact .inl (Zv4 h hc)
  ·right;split at h
   ·rename_i m u' hu;exact Zhb hc h
   ·cases h
theorem Own.shape {b e:Nat}{cs:List X}{rb off k:Nat}{pre vs sp post:List Value}(g:Own P base σ w b e cs rb off k pre vs sp post):w.shape? rb=some (e,(pre++vs++sp++post).length):=by
 obtain⟨fz,hh,_⟩:=g.heap;simp[World.shape?,hh]
def cpX (P:Program) (s:St) (q d:TypeId) (x:Option X):Option X:=match P.underlying q,P.underlying d,x with
 |some (.pointer _),some .unsafePointer,some (.p none)=>some (.p none)
 |some (.pointer t),some .unsafePointer,some (.p (some a))=>(match s.blk a.1,P.info? t with
  |some cb,some i=>(match Nat.blt a.2 cb.2.length,Nat.beq i.size 0 with
   |true,false=>some (.p (some a))
   |_,_=>none)
  |_,_=>none)
 |some .unsafePointer,some (.pointer _),some (.p none)=>some (.p none)
 |some .unsafePointer,some (.pointer u),some (.p (some a))=>(match s.blk a.1,P.info? u with
  |some cb,some i=>(match Nat.blt 0 (szOf P cb.1),liesAt P P.depth cb.1 (cb.2.length/szOf P cb.1) a.2 u 1 with
   |true,true=>some (.p (some a))
   |_,_=>none)
  |_,_=>none)
 |_,_,_=>none
theorem Zft {e:TypeId}(h:0 < szOf P e):P.cellsOf e=szOf P e:=by
 unfold szOf at h ⊢;unfold Program.cellsOf
 cases hi:P.info? e with
 |none=>rw[hi] at h;exact absurd h (Nat.lt_irrefl _)
 |some i=>rfl
theorem Ycv (hM:Mem P base σ s w){q d:TypeId}{x:Option X}{z:X}{u:Value}(h:cpX P s q d x=some z) (hx:∀ a,x=some a->vl σ a=some u):vl σ z=some u/\(convert q d u).run P w=.ok u w:=by
 unfold cpX at h;split at h
 ·rename_i t hq hd;obtain rfl:=Option.some.inj h;have hx:=hx _ rfl;simp only[vl,Option.some.injEq] at hx;subst hx;exact⟨rfl,by simp[convert,run_underlying hq,run_underlying hd,Conv.unsafePointer]⟩
 ·rename_i t a hq hd;have hx:=hx _ rfl;split at h
  ·rename_i cb i hb hi;split at h
   ·rename_i h1 h2;obtain rfl:=Option.some.inj h;refine⟨hx,?_⟩;obtain⟨e,cs⟩:=cb;obtain⟨rb,off,k,pre,vs,sp,post,g⟩:=hM.own a.1 e cs hb;have hx2:=hx;simp only[vl,g.sg_,Option.some.injEq] at hx2;subst hx2;have hsh:=g.shape;have hl:=Zas g.val;have hp:=g.pre_;have h1:=Nat.le_of_ble_eq_true h1
    have h2:i.size≠0:=λe=>by rw[e] at h2;cases h2
    simp only at h1
    have hlt:¬ ((pre++vs++sp++post).length<=off+a.2):=by simp only[gD];omega
    simp only[gD] at hlt hsh;simp[convert,run_underlying hq,run_underlying hd,Conv.unsafePointer,Conv.seenAt,viewAt,cellsIn,hsh,Zaw hi,h2,hlt]
   ·cases h
  ·cases h
 ·rename_i t hq hd;obtain rfl:=Option.some.inj h;have hx:=hx _ rfl;simp only[vl,Option.some.injEq] at hx;subst hx;exact⟨rfl,by simp[convert,run_underlying hq,run_underlying hd,Conv.unsafePointer]⟩
 ·rename_i t a hq hd;have hx:=hx _ rfl;split at h
  ·rename_i cb i hb hi;split at h
   ·rename_i h1 h2;obtain rfl:=Option.some.inj h;refine⟨hx,?_⟩;obtain⟨e,cs⟩:=cb;obtain⟨rb,off,k,pre,vs,sp,post,g⟩:=hM.own a.1 e cs hb;have hx2:=hx;simp only[vl,g.sg_,Option.some.injEq] at hx2;subst hx2;have hsh:=g.shape;have hl:=Zas g.val;have hp:=g.pre_;have h1:=Nat.le_of_ble_eq_true h1;simp only at h1 h2;obtain⟨qq,hqq⟩:=g.mul_;have hc:=Zft h1
    have hlies:liesAt P P.depth e ((pre++vs++sp++post).length/P.cellsOf e) (off+a.2) t 1=true:=by
     rw[hqq,<-hc];refine Zhb ?_ h2;rw[hc,Nat.le_div_iff_mul_le h1,Nat.add_mul];have:=Nat.div_mul_le_self cs.length (szOf P e);simp only[gD];omega
    simp only[gD] at hlies hsh;simp[convert,run_underlying hq,run_underlying hd,Conv.unsafePointer,Conv.seenAt,viewAt,hsh,Zaw hi,variablesAt,hlies]
   ·cases h
  ·cases h
 ·cases h
def capX (P:Program):List TypeId->Option (List X)->Option X
 |t::_,some (.l none _ c::_)=>(match P.underlying t with
  |some (.slice _)=>some (.i .i64 (c:Int))
  |_=>none)
 |_,_=>none
theorem Yb9 {ats:Array TypeId}{ty:TypeId}{xs:Option (List X)}{vs:List Value}{z:X}(h:capX P ats.toList xs=some z) (hv:∀ l,xs=some l->vls σ l=some vs){K:Value->Prop}(hK:∀ v,vl σ z=some v->K v):Bc P ats ty vs.toArray w K:=by
 unfold capX at h;split at h
 ·rename_i t ts n c r hats;obtain⟨v1,vs1,e1,e2,rfl⟩:=Za6 (hv _ rfl);simp only[vl,Option.some.injEq] at e1;subst e1
  have hat:ats=(t::ts).toArray:=by rw[<-hats]
  subst hat;split at h
  ·rename_i e ht;obtain rfl:=Option.some.inj h;exact⟨.int .i64 (c:Int),by simp[Builtin.cap_,run_underlying ht,goInt],hK _ rfl⟩
  ·cases h
 ·cases h
end
end Go.Ev
namespace Go.Proofs.YtieneaffjelhhaaGreat
open Go Go.Vc Go.Proofs.Tryz
attribute [local irreducible] Vc.Nc Vc.Ld Vc.LdA Vc.St Vc.StA Vc.Fo Vc.Iaa Vc.Ias Vc.Ixs Vc.Ixa Vc.Fd Vc.FdA Vc.Bp Vc.Bb Vc.Bn Vc.Up Vc.Ci Vc.Lns Vc.Lnl Vc.Ex Vc.Sst Vc.Ssl Vc.New Vc.Vif Vc.VJoin Vc.VLoop Vc.KE Vc.Dr Vc.Rk Vc.Cl Vc.Cx Vc.Inv Vc.Be Vc.Cv Vc.Cw Vc.Mf Vc.Sl Vc.Lk Vc.Bd Vc.Bs Vc.Ms Vc.Mm Vc.Mu Vc.Me Vc.Es Vc.Rg Vc.Nx Vc.Ta Vc.Ap Vc.Usd Vc.Ust Vc.Cp Vc.Ln Vc.Bc Vc.Bmin Vc.Bmax Vc.Bdel Vc.Bclr Vc.Pk
namespace P23
open Go.M01 Go.Mb Go.Me Go.M02 Go.M03 Go.M18 P20 S17
variable {w:World}{L:List HProp}{K:KT}{b:Nat}
abbrev tPr:Nat:=109
abbrev tSt:Nat:=142
abbrev stC (wb tot:Nat) (en:Bool):List Value:=[pt wb,uv tot,.bool en]
structure Pz where
 win:Nat
 inp:List UInt8
 en:Bool
 room:Nat
 fl:Bool
 bls:List Bl
 tu:Option Tun
 paid:Nat
 tot:Nat
 bits:List Bool
 tk:Nat
 out:List UInt8
 dn:Bool
 st:Nat
 cnt:Nat
 k:Nat
 c:Nat
def MM (room:Nat):Nat:=M45.mostS room+room+room
def cur (z:Pz):Nat:=match z.tu with
 |none=>0
 |some t=>t.cnt
structure PzOk (z:Pz) (g:Nat):Prop where
 wi:z.win<=1048576
 ip:z.inp.length<=z.win
 rm:5<=z.room/\z.room<=3000
 bl:∀ x∈z.bls,P20.BlOk z.room x
 ln:z.bls.length<=3/\(z.fl=false->z.bls.length<=1)
 tn:z.tu≠none->z.bls≠[]
 pd:∀ x r,z.bls=x::r->z.paid < x.1.length
 p0:z.bls=[]->z.paid=0
 tt:z.tot < 4294967296
 bi:z.bits.length<=1000+300000*z.cnt+(if z.dn=true then 100 else 0)
 tk:z.tk=z.bits.length/8
 fe:z.fl=true->z.inp=[]/\z.en=true
 db:z.dn=true->z.fl=true/\z.bls=[]
 ou:z.out.length<=40000
 ck:z.cnt+z.bls.length<=z.k+(if z.fl=true then 1 else 0)
 gl:z.st<=g
 gs:g<=z.c+z.cnt*MM z.room+(cur z+z.paid)+(if z.dn=true then 1 else 0)
def cellsPz (z:Pz) (sp:Nat) (bv tv:Value) (wt:Nat):List Value:=[nv z.win,S_ z.inp,.bool z.en,pt sp,.bool z.fl,bv,tv,nv z.paid,pt wt,S_ z.out,.bool z.dn,nv z.st]
def hd1 (z:Pz):List UInt8:=match z.bls with
 |[]=>[]
 |x::_=>x.1
def tuV (tb:Nat):Option Tun->Value
 |none=>.pointer none
 |some _=>pt tb
def tuH (tb:Nat) (s:List UInt8):Option Tun->List HProp
 |none=>[]
 |some t=>[TuR tb s t]
def PzL (b:Nat) (z:Pz) (sp:Nat) (bv:Value) (tb wt wb:Nat):List HProp:=
 [blk b tPr (cellsPz z sp bv (tuV tb z.tu) wt),SpR sp z.room z.k z.c,RO Fsb 3 tSb bv z.bls,blk wt tSt (stC wb z.tot z.dn),W01.WrR wb z.bits z.tk]++tuH tb (hd1 z) z.tu
def PzR (b:Nat) (z:Pz):HProp:=λh=>∃ sp bv tb wt wb,Sat (PzL b z sp bv tb wt wb) h
theorem Zet {z:Pz}(H:Holds w (PzR b z::L)):∃ sp bv tb wt wb,Holds w (PzL b z sp bv tb wt wb++L):=by
 obtain⟨sp,H⟩:=Holds.ex H;obtain⟨bv,H⟩:=Holds.ex H;obtain⟨tb,H⟩:=Holds.ex H;obtain⟨wt,H⟩:=Holds.ex H;obtain⟨wb,H⟩:=Holds.ex H;exact⟨sp,bv,tb,wt,wb,Holds.unpack H⟩
theorem Zky {z:Pz}{sp:Nat}{bv:Value}{tb wt wb:Nat}(H:Holds w (PzL b z sp bv tb wt wb++L)):Holds w (PzR b z::L):=
 Holds.imp (Holds.pack H) λg hg=>⟨sp,bv,tb,wt,wb,hg⟩
theorem whole_spec {z:Pz}(H:Holds w (PzR b z::L)) (k:K (.bool (decide (z.bls≠[]))) w):Cl prog 134 #[pt b] w K:=by
 refine Tz134 ?_;unfold Vz134;obtain⟨sp,bv,tb,wt,wb,H⟩:=Zet H;refine r_nc (r_fo0 (r_ld 0 H rfl rfl (r_lnO 2 H rfl (r_gtr ?_))));rw[show decide ((0:Int) < ((z.bls.length:Nat):Int))=decide (z.bls≠[]) from decide_eq_decide.2 ⟨λh e=>by rw[e] at h;simp at h,λh=>by have:=gZ.2 h;omega⟩];exact k
theorem Done_spec {z:Pz}(H:Holds w (PzR b z::L)) (k:K (.bool z.dn) w):Cl prog 122 #[pt b] w K:=by
 refine Tz122 ?_;unfold Vz122;obtain⟨sp,bv,tb,wt,wb,H⟩:=Zet H;exact Zca (r_vt (r_nc (r_fo0 (r_ld 0 H rfl rfl k))))
theorem Zku {z:Pz}(H:Holds w (PzR b z::L)) (k:K (nv z.out.length) w):Cl prog 130 #[pt b] w K:=by
 refine Tz130 ?_;unfold Vz130;obtain⟨sp,bv,tb,wt,wb,H⟩:=Zet H;exact Zab (r_vf (r_nc (r_fo0 (r_ld 0 H rfl rfl (q_len k)))))
theorem q_sne {a b:List UInt8}{K:Value->Prop}(h:K (.bool (decide (¬ a=b)))):Bp .neq (S_ a) (S_ b) K:=by
 refine r_sne ?_;rw[show (!decide ((⟨a.toArray⟩:ByteArray)=⟨b.toArray⟩))=decide (¬ a=b) from by rw[<-decide_not];exact decide_eq_decide.2 (not_congr Zzc)];exact h
def PzB (b:Nat) (z:Pz) (sp:Nat) (bv tv:Value) (wt wb:Nat):List HProp:=
 [blk b tPr (cellsPz z sp bv tv wt),SpR sp z.room z.k z.c,RO Fsb 3 tSb bv z.bls,blk wt tSt (stC wb z.tot z.dn),W01.WrR wb z.bits z.tk]
theorem Zf7 {z:Pz}(ht:z.tu=none) (H:Holds w (PzR b z::L)):∃ sp bv wt wb,Holds w (PzB b z sp bv (.pointer none) wt wb++L):=by
 obtain⟨sp,bv,tb,wt,wb,H⟩:=Zet H;unfold PzL at H;rw[ht] at H;exact⟨sp,bv,wt,wb,H⟩
theorem Zez {z:Pz}{t:Tun}(ht:z.tu=some t) (H:Holds w (PzR b z::L)):∃ sp bv tb wt wb,Holds w (PzB b z sp bv (pt tb) wt wb++(TuR tb (hd1 z) t::L)):=by
 obtain⟨sp,bv,tb,wt,wb,H⟩:=Zet H;unfold PzL at H;rw[ht] at H;exact⟨sp,bv,tb,wt,wb,H⟩
theorem Zcm {z:Pz}{sp wt wb:Nat}{bv:Value}(ht:z.tu=none) (H:Holds w (PzB b z sp bv (.pointer none) wt wb++L)):Holds w (PzR b z::L):=by
 refine Zky (sp:=sp) (bv:=bv) (tb:=0) (wt:=wt) (wb:=wb) ?_;unfold PzL;rw[ht];exact H
theorem Zcg {z:Pz}{t:Tun}{sp tb wt wb:Nat}{bv:Value}(ht:z.tu=some t) (H:Holds w (PzB b z sp bv (pt tb) wt wb++(TuR tb (hd1 z) t::L))):Holds w (PzR b z::L):=by
 refine Zky (sp:=sp) (bv:=bv) (tb:=tb) (wt:=wt) (wb:=wb) ?_;unfold PzL;rw[ht];exact H
theorem Zbb {z:Pz}(H:Holds w (PzR b z::L)):∃ sp bv tv wt wb L',Holds w (PzB b z sp bv tv wt wb++L')/\∀ (z':Pz) w' bv',z'.tu=z.tu->(z.tu≠none->hd1 z'=hd1 z)->Holds w' (PzB b z' sp bv' tv wt wb++L')->Holds w' (PzR b z'::L):=by
 cases ht:z.tu with
 |none=>
  obtain⟨sp,bv,wt,wb,H⟩:=Zf7 ht H;exact⟨sp,bv,_,wt,wb,L,H,λz' w' bv' h1 _ H'=>Zcm h1 H'⟩
 |some t=>
  obtain⟨sp,bv,tb,wt,wb,H⟩:=Zez ht H;exact⟨sp,bv,_,wt,wb,_,H,λz' w' bv' h1 h2 H'=>Zcg h1 (by rw[h2 (by simp)];exact H')⟩
def Ef (z:Pz):Prop:=z.en=true->z.inp=[]->z.fl=true
theorem PzOk.app {z:Pz}{g g':Nat}(h:PzOk z g){rs:List Bl}{f:Bool}{k c:Nat}(hd:z.dn=false) (hr:∀ x∈rs,P20.BlOk z.room x) (hl:(z.bls++rs).length<=3/\(f=false->(z.bls++rs).length<=1)) (hf:f=true->z.inp=[]/\z.en=true)
  (hk:z.cnt+(z.bls++rs).length<=k+(if f=true then 1 else 0)) (hst:z.st<=g') (hc:g'+z.c<=g+c):PzOk { z with bls:=z.bls++rs,fl:=f,k:=k,c:=c } g':=by
 refine⟨h.wi,h.ip,h.rm,?_,hl,?_,?_,?_,h.tt,h.bi,h.tk,hf,(λe=>?_),h.ou,hk,hst,?_⟩
 ·intro x hx;rcases hT_.1 hx with hx|hx
  ·exact h.bl x hx
  ·exact hr x hx
 ·intro ht e;exact h.tn ht (List.append_eq_nil_iff.1 e).1
 ·intro x r e
  cases hb:z.bls with
  |nil=>
   rw[show ({ z with bls:=z.bls++rs,fl:=f,k:=k,c:=c }:Pz).bls=z.bls++rs from rfl,hb,hO_] at e;have:=(hr x (by rw[e];exact hJ_ ..)).1;show z.paid < _;rw[h.p0 hb];exact gZ.2 this
  |cons y r'=>
   rw[show ({ z with bls:=z.bls++rs,fl:=f,k:=k,c:=c }:Pz).bls=z.bls++rs from rfl,hb,List.cons_append] at e;cases e;exact h.pd x r' hb
 ·intro e;exact h.p0 (List.append_eq_nil_iff.1 e).1
 ·rw[show ({ z with bls:=z.bls++rs,fl:=f,k:=k,c:=c }:Pz).dn=z.dn from rfl,hd] at e;cases e
 ·have:=h.gs;show g'<=c+z.cnt*MM z.room+(cur z+z.paid)+(if z.dn=true then 1 else 0);omega
theorem Yam {z:Pz}{rs:List Bl}{f:Bool}{k c:Nat}(h:z.bls≠[]):hd1 { z with bls:=z.bls++rs,fl:=f,k:=k,c:=c }=hd1 z:=by
 unfold hd1
 cases hb:z.bls with
 |nil=>exact absurd hb h
 |cons y r=>rfl
def fed (z:Pz):Nat:=z.c+z.inp.length
def Kp (z z':Pz):Prop:=z'.out=z.out/\z'.dn=z.dn/\z'.st=z.st/\fed z'=fed z/\z'.room=z.room/\z'.win=z.win/\z'.cnt=z.cnt/\z'.en=z.en
theorem Kp.refl (z:Pz):Kp z z:=⟨rfl,rfl,rfl,rfl,rfl,rfl,rfl,rfl⟩
theorem Zfi {z:Pz}{g:Nat}(H:Holds w (PzR b z::L)) (hz:PzOk z g)
  (k:∀ z' w',PzOk z' g->Ef z'->Kp z z'->(z.fl=true->z'=z)->Same w w'->Holds w' (PzR b z'::L)->K (.tuple #[]) w'):Cl prog 131 #[pt b] w K:=by
 refine Tz131 ?_;unfold Vz131;obtain⟨sp,bv,tv,wt,wb,L',H1,back⟩:=Zbb H;refine Za2 (λx w'=>w=w'/\x=.bool (decide (z.en=true/\z.inp=[]/\z.fl=false))) ?_ ?_
 rotate_left
 ·refine r_nc (r_fo0 (r_ld 0 H1 rfl rfl ?_))
  cases he:z.en with
  |false=>exact r_vf (r_ke ⟨rfl,by rw[decide_eq_false (by simp)]⟩)
  |true=>
   refine r_vt (r_nc (r_fo0 (r_ld 0 H1 rfl rfl (Zyk (r_ifD (λh=>?_) λh=>?_)))))
   ·refine r_nc (r_fo0 (r_ld 0 H1 rfl rfl (r_not (r_ke ⟨rfl,?_⟩))))
    cases hf:z.fl with
    |false=>rw[decide_eq_true ⟨rfl,h,rfl⟩];rfl
    |true=>rw[decide_eq_false (by simp)];rfl
   ·exact r_ke ⟨rfl,by rw[decide_eq_false (λe=>h e.2.1)]⟩
 rintro _ _ _ ⟨rfl,rfl⟩;refine r_ifD (λh=>?_) λh=>k z w hz (λe1 e2=>by cases hf:z.fl with|true=>rfl|false=>exact absurd ⟨e1,e2,hf⟩ h) (.refl z) (λ_=>rfl) (.refl _) H;obtain⟨he,hi,hf⟩:=h;refine r_dr H1 λw2 S2 H2=>?_;refine r_nc (r_fo0 (r_ld 0 H2 rfl rfl (r_nc (r_fo0 (r_ld 0 H2 rfl rfl ?_)))));refine Zpr P20.Zut (by have h_:=Holds.front H2 1 rfl;exact h_) hz.rm λv rs kk w3 hl hkk hrs S3 H3=>?_
 have H4:Holds w3 (RW Fsb 3 tSb v rs::(PzB b { z with k:=kk } sp bv tv wt wb++L')):=by have h_:=Holds.ord 6 [0,2,1,3,4,5] H3 rfl;exact h_
 clear H1 H3;refine r_rk (r_ld 1 H4 rfl rfl rfl) ?_;have hb1:=hz.ln.2 hf;have hck:=hz.ck
 have hdn:z.dn=false:=by
  cases hd:z.dn with
  |false=>rfl
  |true=>rw[(hz.db hd).1] at hf;cases hf
 rw[if_neg (by rw[hf];decide)] at hck
 have fin:∀ v' w4,Same w3 w4->Holds w4 ([blk b tPr (cellsPz z sp bv tv wt),SpR sp z.room kk z.c,RO Fsb 3 tSb v' (z.bls++rs),blk wt tSt (stC wb z.tot z.dn),W01.WrR wb z.bits z.tk]++L')->
   (Nc (pt b) <| Fo 5 (pt b) λx_10=>St x_10 v' w4 λw5=>Nc (pt b) <| Fo 4 (pt b) λx_11=>St x_11 (.bool true) w5 λw6=>K (.tuple #[]) w6):=by
  intro v' w4 S4 H5;refine r_nc (r_fo0 (r_st 0 H5 rfl (by simp[cellsPz]) (H5.sgRO 2 rfl) λw5 S5 H6=>?_));refine r_nc (r_fo0 (r_st 0 H6 rfl (by simp[cellsPz]) rfl λw6 S6 H7=>?_));refine k { z with bls:=z.bls++rs,fl:=true,k:=kk,c:=z.c } w6 (hz.app hdn hrs ⟨by rw[gD];omega,λe=>by cases e⟩ (λ_=>⟨hi,he⟩) (by rw[if_pos rfl,gD];omega) hz.gl (Nat.le_refl _)) (λ_ _=>rfl) ⟨rfl,rfl,rfl,rfl,rfl,rfl,rfl,rfl⟩ (λe=>by rw[hf] at e;cases e) (S2.trans (S3.trans (S4.trans (S5.trans S6)))) ?_;exact back { z with bls:=z.bls++rs,fl:=true,k:=kk,c:=z.c } w6 v' rfl (λht=>Yam (hz.tn ht)) H7
 cases hrz:rs with
 |nil=>
  subst hrz;obtain⟨oa,m,spc,rfl,H5⟩:=Holds.openRW H4 0 rfl;refine Ztk H4 3 rfl ?_;refine fin bv w3 (.refl _) ?_;rw[gU];exact H4.drop
 |cons x r=>
  obtain⟨oa,m,spc,rfl,H5⟩:=Holds.openRW H4 0 rfl;obtain⟨b2,rfl,hsp,H6⟩:=Holds.rwb H5 0 rfl (.inl (by rw[hrz];exact Nat.succ_pos _));replace H6:Holds w3 (blk b2 tSb (flatL Fsb rs++spc)::(PzB b { z with k:=kk } sp bv tv wt wb++L')):=H6;refine Zyw (ys:=rs) H6 3 0 rfl rfl (by decide) (List.take_left' (Zck (k:=3) (λ_=>rfl) rs)) rfl (λy=>rfl) Zo3 (by show z.bls.length+rs.length<=_;omega) (by rw[hrz];exact Nat.succ_pos _) λv' w4 S4 H7=>?_;exact fin v' w4 S4 H7.drop
theorem Ztz {z:Pz}{g:Nat}{s:List UInt8}(H:Holds w (PzR b z::L)) (hz:PzOk z g) (hs:s.length<=1000000000)
  (k:∀ n z' w',n=(if z.en=true then 0 else min s.length (z.win - z.inp.length))->z'={ z with inp:=z.inp++s.take n }->PzOk z' g->Same w w'->Holds w' (PzR b z'::L)->K (nv n) w'):Cl prog 124 #[pt b,S_ s] w K:=by
 refine Tz124 ?_;unfold Vz124;obtain⟨sp,bv,tv,wt,wb,L',H1,back⟩:=Zbb H;have hip:=hz.ip;have hwi:=hz.wi;refine Za2 (λx w'=>w=w'/\x=.bool z.en) ?_ ?_
 rotate_left
 ·exact Zab (r_vf (r_nc (r_fo0 (r_ld 0 H1 rfl rfl (r_ke ⟨rfl,rfl⟩)))))
 rintro _ _ _ ⟨rfl,rfl⟩
 cases he:z.en with
 |true=>exact r_vt (k 0 z w (by rw[if_pos he]) (by rw[List.take_zero,gU]) hz (.refl _) H)
 |false=>
  refine r_vf (r_dr H1 λw2 S2 H2=>?_);refine q_len (r_nc (r_fo0 (r_ld 0 H2 rfl rfl (r_nc (r_fo0 (r_ld 0 H2 rfl rfl (q_len ?_)))))));refine r_sub (by omega) (by omega) (r_min ?_);rw[show min (s.length:Int) ((z.win:Int) - (z.inp.length:Int))=((min s.length (z.win - z.inp.length):Nat):Int) by omega];generalize hn:min s.length (z.win - z.inp.length)=n;refine r_dr H2 λw3 S3 H3=>?_;refine r_nc (r_fo0 (r_ld 0 H3 rfl rfl (q_T (by omega) ?_)));refine Zgn (by rw[gN];omega) ?_;refine r_nc (r_fo0 (r_st 0 H3 rfl (by simp[cellsPz]) rfl λw4 S4 H4=>?_));refine k n { z with inp:=z.inp++s.take n } w4 (by rw[if_neg (by rw[he];decide)];exact hn.symm) rfl ⟨hz.wi,?_,hz.rm,hz.bl,hz.ln,hz.tn,hz.pd,hz.p0,hz.tt,hz.bi,hz.tk,λe=>?_,hz.db,hz.ou,hz.ck,hz.gl,hz.gs⟩ (S2.trans (S3.trans S4)) ?_
  ·show (z.inp++s.take n).length<=z.win;rw[gD,gN];omega
  ·rw[(hz.fe e).2] at he;cases he
  ·exact back { z with inp:=z.inp++s.take n } w4 bv rfl (λ_=>rfl) H4
theorem End_spec {z:Pz}{g:Nat}(H:Holds w (PzR b z::L)) (hz:PzOk z g) (hef:Ef z)
  (k:∀ v z' w',PzOk z' g->Ef z'->z'.en=true->(z.en=true->z'=z)->(z.fl=true->z'=z)->Kp { z with en:=true } z'->Same w w'->Holds w' (PzR b z'::L)->K v w'):Cl prog 123 #[pt b] w K:=by
 refine Tz123 ?_;unfold Vz123;obtain⟨sp,bv,tv,wt,wb,L',H1,back⟩:=Zbb H;refine Za2 (λx w'=>w=w'/\x=.bool z.en) ?_ ?_
 rotate_left
 ·exact Zab (r_vf (r_nc (r_fo0 (r_ld 0 H1 rfl rfl (r_ke ⟨rfl,rfl⟩)))))
 rintro _ _ _ ⟨rfl,rfl⟩
 cases he:z.en with
 |true=>
  have e:({ z with en:=true }:Pz)=z:=by rw[<-he]
  exact r_vt (k _ z w hz hef he (λ_=>rfl) (λ_=>rfl) (by rw[e];exact .refl z) (.refl _) H)
 |false=>
  refine r_vf (r_nc (r_fo0 (r_st 0 H1 rfl (by simp[cellsPz]) rfl λw2 S2 H2=>?_)));have H3:=back { z with en:=true } w2 bv rfl (λ_=>rfl) H2;have hz2:PzOk { z with en:=true } g:=⟨hz.wi,hz.ip,hz.rm,hz.bl,hz.ln,hz.tn,hz.pd,hz.p0,hz.tt,hz.bi,hz.tk,λe=>⟨(hz.fe e).1,rfl⟩,hz.db,hz.ou,hz.ck,hz.gl,hz.gs⟩;refine Zfi H3 hz2 λz' w3 hz' hf' h1 _ S3 H4=>k _ z' w3 hz' hf' h1.2.2.2.2.2.2.2 (λe=>by rw[he] at e;cases e) (λe=>?_) h1 (S2.trans S3) H4;rw[(hz.fe e).2] at he;cases he
def tuD (z:Pz):Bool:=match z.tu with
 |none=>false
 |some t=>t.done (hd1 z)
def wrt (z:Pz):Bool:=if z.bls=[] then z.fl else tuD z&&decide (z.paid+1=(hd1 z).length)
def stp (z:Pz):Bool:=z.dn||(if wrt z=true then decide (z.out≠[]) else decide (z.bls=[]/\z.inp=[]))
theorem Zrp {z:Pz}(h:z.bls≠[]):∃ x r,z.bls=x::r/\hd1 z=x.1:=by
 unfold hd1
 cases hb:z.bls with
 |nil=>exact absurd hb h
 |cons y r=>exact⟨y,r,rfl,rfl⟩
theorem Zoa {z:Pz}{g:Nat}(hz:PzOk z g) (h:z.bls≠[]):hd1 z≠[]/\(hd1 z).length<=3000/\z.paid < (hd1 z).length:=by
 obtain⟨x,r,hx,e⟩:=Zrp h;have h1:=hz.bl x (by rw[hx];exact hJ_ ..);have h2:=hz.rm.2;rw[e];exact⟨h1.1,by have:=h1.2;omega,hz.pd x r hx⟩
theorem Zeu {z:Pz}{sp wt wb:Nat}{bv tv:Value}{K:Value->Prop}(h:z.bls≠[]) (H:Holds w (PzB b z sp bv tv wt wb++L)) (k:K (S_ (hd1 z))):Ias 3 bv (.int .i64 0) λx=>Fo 0 x λy=>Ld y w K:=by
 obtain⟨x,r,hx,e⟩:=Zrp h;refine Zyb (xs:=z.bls) (F:=Fsb) (e:=tSb) 2 H rfl (λ_=>rfl) (q:=0) (x:=x) (u:=S_ x.1) (by rw[hx];rfl) rfl ?_;rw[<-e];exact k
theorem Znh {z:Pz}{g:Nat}(H:Holds w (PzR b z::L)) (hz:PzOk z g) (k:∀ w',Same w w'->Holds w' (PzR b z::L)->K (.bool (wrt z)) w'):Cl prog 133 #[pt b] w K:=by
 refine Tz133 ?_;unfold Vz133;refine whole_spec H ?_
 by_cases hb:z.bls=[]
 ·refine r_vfD (λh=>h hb) ?_;obtain⟨sp,bv,tv,wt,wb,L',H1,back⟩:=Zbb H;refine r_nc (r_fo0 (r_ld 0 H1 rfl rfl ?_));have:=k w (.refl _) H;unfold wrt at this;rw[if_pos hb] at this;exact this
 ·refine r_vtD hb ?_;obtain⟨h0,h3,hp⟩:=Zoa hz hb;unfold wrt at k;rw[if_neg hb] at k;unfold tuD at k;refine r_dr H λw2 S2 H2=>?_
  cases ht:z.tu with
  |none=>
   rw[ht] at k;obtain⟨sp,bv,wt,wb,H3⟩:=Zf7 ht H2;refine r_nc (r_fo0 (r_ld 0 H3 rfl rfl (Zuf (r_vf ?_))));exact k w2 S2 H2
  |some t=>
   rw[ht] at k;obtain⟨sp,bv,tb,wt,wb,H3⟩:=Zez ht H2;refine r_nc (r_fo0 (r_ld 0 H3 rfl rfl (Zca (r_vt ?_))));refine r_nc (r_fo0 (r_ld 0 H3 rfl rfl ?_));refine Ze9 h0 (by have h_:=Holds.front H3 5 rfl;exact h_) λw3 S3 H4=>?_
   have H5:Holds w3 (PzB b z sp bv (pt tb) wt wb++(TuR tb (hd1 z) t::L)):=by have h_:=Holds.ord 6 [1,2,3,4,5,0] H4 rfl;exact h_
   have k3:=k w3 (S2.trans S3) (Zcg ht H5)
   cases hd:t.done (hd1 z) with
   |false=>
    simp only[hd,Bool.false_and] at k3;exact r_vf k3
   |true=>
    simp only[hd,Bool.true_and] at k3;refine r_vt (r_nc (r_fo0 (r_ld 0 H5 rfl rfl (r_nc (r_fo0 (r_ld 0 H5 rfl rfl ?_))))));refine Zeu hb H5 (q_len ?_);refine r_sub (by omega) (by omega) (r_eql ?_);rw[show ((z.paid:Int)==(((hd1 z).length:Nat):Int) - 1)=decide (z.paid+1=(hd1 z).length) from by rw[Bool.eq_iff_iff,beq_iff_eq,decide_eq_true_iff];omega];exact k3
theorem Zl3 {z:Pz}{g:Nat}(H:Holds w (PzR b z::L)) (hz:PzOk z g) (k:∀ w',Same w w'->Holds w' (PzR b z::L)->K (.bool (stp z)) w'):Cl prog 128 #[pt b] w K:=by
 refine Tz128 ?_;unfold Vz128;unfold stp at k;obtain⟨sp,bv,tv,wt,wb,L',H1,back⟩:=Zbb H;refine Za2 (λx w'=>w=w'/\x=.bool z.dn) ?_ ?_
 rotate_left
 ·exact Zab (r_vf (r_nc (r_fo0 (r_ld 0 H1 rfl rfl (r_ke ⟨rfl,rfl⟩)))))
 rintro _ _ _ ⟨rfl,rfl⟩
 cases hd:z.dn with
 |true=>
  rw[hd] at k;exact r_vt (k w (.refl _) H)
 |false=>
  rw[hd] at k;simp only[Bool.false_or] at k;refine r_vf ?_;refine Znh H hz λw2 S2 H2=>?_;obtain⟨sp2,bv2,tv2,wt2,wb2,L2,H3,_⟩:=Zbb H2
  cases hw:wrt z with
  |true=>
   rw[if_pos hw] at k;refine r_vt (r_nc (r_fo0 (r_ld 0 H3 rfl rfl ?_)));exact q_sne (k w2 S2 H2)
  |false=>
   rw[if_neg (by rw[hw];decide)] at k;refine r_vf ?_;refine whole_spec H2 (r_not ?_)
   by_cases hb:z.bls=[]
   ·rw[decide_eq_false (λh=>h hb)];refine r_vt (r_nc (r_fo0 (r_ld 0 H3 rfl rfl (Zyk ?_))));have:=k w2 S2 H2;rw[show decide (z.bls=[]/\z.inp=[])=decide (z.inp=[]) from decide_eq_decide.2 ⟨λh=>h.2,λh=>⟨hb,h⟩⟩] at this;exact this
   ·rw[decide_eq_true hb];refine r_vf ?_;have:=k w2 S2 H2;rw[decide_eq_false (λh=>hb h.1)] at this;exact this
theorem nd_of {z:Pz}{g:Nat}(hz:PzOk z g) (hf:z.fl=false):z.dn=false:=by
 cases hd:z.dn with
 |false=>rfl
 |true=>rw[(hz.db hd).1] at hf;cases hf
theorem take_spec {z:Pz}{g:Nat}(H:Holds w (PzR b z::L)) (hz:PzOk z g) (hb:z.bls=[]) (hi:z.inp≠[]) (hf:z.fl=false)
  (k:∀ z' w',PzOk z' (g+1)->Ef z'->Kp z z'->Same w w'->Holds w' (PzR b z'::L)->K (.tuple #[]) w'):Cl prog 140 #[pt b] w K:=by
 refine Tz140 ?_;unfold Vz140
 have ht:z.tu=none:=by
  cases ht:z.tu with
  |none=>rfl
  |some t=>exact absurd hb (hz.tn (by rw[ht];simp))
 obtain⟨sp,bv,wt,wb,H1⟩:=Zf7 ht H;have hpos:=gZ.2 hi;have hdn:=nd_of hz hf;have hgl:=hz.gl;have hgs:=hz.gs;have hck:=hz.ck;rw[hb,length_nil] at hck
 have hz1:PzOk { z with inp:=z.inp.drop 1,c:=z.c+1 } (g+1):=⟨hz.wi,by show (z.inp.drop 1).length<=z.win;rw[gS];have:=hz.ip;omega,hz.rm,hz.bl,hz.ln,hz.tn,hz.pd,hz.p0,hz.tt,hz.bi,hz.tk,(λe=>by rw[show ({ z with inp:=z.inp.drop 1,c:=z.c+1 }:Pz).fl=z.fl from rfl,hf] at e;cases e),hz.db,hz.ou,hz.ck,Nat.le_succ_of_le hz.gl,by
  show g+1<=z.c+1+z.cnt*MM z.room+(cur z+z.paid)+(if z.dn=true then 1 else 0)
  omega⟩
 have hfd:z.c+1+(z.inp.drop 1).length=fed z:=by unfold fed;rw[gS];omega
 refine Zmu (λx y w'=>∃ (q:Nat) (c:Bool) (vs:List Value) (kk:Nat),x=pt q/\y=.bool c/\Same w w'/\Holds w' (PzB b { z with k:=kk,c:=z.c+1 } sp bv (.pointer none) wt wb++(blk q tSb vs::L))/\(c=true->kk=z.k+1/\∃ x:Bl,P20.BlOk z.room x/\vs=Fsb x)/\(c=false->kk=z.k)) ?_ ?_
 ·rintro _ _ _ w2 ⟨q,c,vs,kk,rfl,rfl,S2,H2,hc,hc0⟩;refine r_nc (r_fo0 (r_ld 0 H2 rfl rfl (q_D (m:=1) (by show 1<=z.inp.length;omega) ?_)));refine r_nc (r_fo0 (r_st 0 H2 rfl (by simp[cellsPz]) rfl λw3 S3 H3=>?_));replace H3:Holds w3 (PzB b { z with inp:=z.inp.drop 1,k:=kk,c:=z.c+1 } sp bv (.pointer none) wt wb++(blk q tSb vs::L)):=H3
  cases c with
  |false=>
   obtain rfl:=hc0 rfl;refine r_vf ?_;refine Zfi (Zcm (z:={ z with inp:=z.inp.drop 1,c:=z.c+1 }) (bv:=bv) ht (Holds.dropAt H3 5)) hz1 λz' w4 h1 h2 h3 _ S4 H4=>?_;exact k z' w4 h1 h2 ⟨h3.1,h3.2.1,h3.2.2.1,h3.2.2.2.1.trans hfd,h3.2.2.2.2⟩ (S2.trans (S3.trans S4)) H4
  |true=>
   obtain⟨rfl,x,hx,rfl⟩:=hc rfl;refine r_vt (r_dr H3 λw4 S4 H4=>?_);refine r_nc (r_fo0 (r_ld 0 H4 rfl rfl ?_));refine r_ldA 5 H4 (Fsb x) rfl rfl rfl ?_;refine r_bsK (e:=tSb) (Fsb x) H4 (by kernel_rfl) λb2 w5 S5 H5=>?_;refine r_rk (r_ld 1 H5 rfl rfl rfl) ?_;refine Zyw (ys:=[x]) H5 3 0 rfl rfl (by decide) rfl rfl (λy=>rfl) Zo3 (by show z.bls.length+1<=_;rw[hb];decide) (Nat.succ_pos _) λv' w6 S6 H6=>?_;replace H6:=Holds.dropAt H6.drop 5;refine r_nc (r_fo0 (r_st 0 H6 rfl (by simp[cellsPz]) (H6.sgRO 2 rfl) λw7 S7 H7=>?_))
   have hz2:=hz1.app (rs:=[x]) (f:=false) (k:=z.k+1) (c:=z.c+1) (g':=g+1) hdn (λy hy=>by rw[List.mem_singleton.1 hy];exact hx) (by show (z.bls++[x]).length<=3/\_;rw[hb];exact⟨by simp,λ_=>by simp⟩) (λe=>by cases e)
    (by show z.cnt+(z.bls++[x]).length<=z.k+1+0;rw[hb];simp;rw[hf,if_neg (by decide)] at hck;omega) (Nat.le_succ_of_le hgl) (Nat.le_refl _)
   have H8:Holds w7 (PzB b { { z with inp:=z.inp.drop 1,c:=z.c+1 } with bls:=z.bls++[x],fl:=false,k:=z.k+1,c:=z.c+1 } sp v' (.pointer none) wt wb++L):=by
    have h_:=H7;unfold PzB cellsPz;rw[<-hf];exact h_
   refine Zfi (Zcm (bv:=v') (by exact ht) H8) hz2 λz' w8 h1 h2 h3 _ S8 H9=>?_;exact k z' w8 h1 h2 ⟨h3.1,h3.2.1,h3.2.2.1,h3.2.2.2.1.trans hfd,h3.2.2.2.2⟩ (S2.trans (S3.trans (S4.trans (S5.trans (S6.trans (S7.trans S8)))))) H9
 ·refine r_dr H1 λw2 S2 H2=>⟨?_,?_⟩
  ·refine r_nc (r_fo0 (r_ld 0 H2 rfl rfl (r_nc (r_fo0 (r_ld 0 H2 rfl rfl ?_)))));refine q_ix (m:=0) hpos ?_;refine Ziv P20.Zut (by have h_:=Holds.front H2 1 rfl;exact h_) hz.rm (λw3 S3 H3=>?_) λx w3 hx S3 H3=>?_
   ·refine Za8 (Za9 ?_);refine r_new H3 λq w4 S4 H4=>?_;rw[Zbf] at H4;refine r_rk (r_ld 2 H4 rfl rfl rfl) (r_rk (r_ld 2 H4 rfl rfl rfl) ?_);refine r_stA 0 H4 (vs:=Zsb) rfl (Nat.le_refl 3) rfl rfl λw5 S5 H5=>?_;refine r_ke ⟨q,false,Zsb,z.k,rfl,rfl,S2.trans (S3.trans (S4.trans S5)),?_,(λe=>by cases e),λ_=>rfl⟩;have h_:=Holds.ord 6 [2,1,3,4,5,0] H5 rfl;exact h_
   ·refine Za8 (Za9 ?_);refine r_new H3 λq w4 S4 H4=>?_;rw[Zbf] at H4;refine r_rk (r_ld 2 H4 rfl rfl rfl) (r_rk (r_ld 2 H4 rfl rfl rfl) ?_);refine r_stA 0 H4 (vs:=Fsb x) rfl (Nat.le_refl 3) rfl rfl λw5 S5 H5=>?_;refine r_ke ⟨q,true,Fsb x,z.k+1,rfl,rfl,S2.trans (S3.trans (S4.trans S5)),?_,(λ_=>⟨rfl,x,hx,rfl⟩),λe=>by cases e⟩;have h_:=Holds.ord 6 [2,1,3,4,5,0] H5 rfl;exact h_
  ·refine r_nc (r_fo0 (r_ld 0 H2 rfl rfl (r_nc (r_fo0 (r_ld 0 H2 rfl rfl ?_)))));refine q_ix (m:=0) hpos ?_;refine r_new H2 λq w3 S3 H3=>?_;rw[Zbf] at H3;refine r_rk (r_ld 1 H3 rfl rfl rfl) (r_rk (r_ld 1 H3 rfl rfl rfl) ?_);refine Ziv P20.Zut (by have h_:=Holds.front H3 2 rfl;exact h_) hz.rm (λw4 S4 H4=>?_) λx w4 hx S4 H4=>?_
   ·refine Za8 (Za9 ?_);refine r_stA 1 H4 (vs:=Zsb) rfl (Nat.le_refl 3) rfl rfl λw5 S5 H5=>?_;refine r_ke ⟨q,false,Zsb,z.k,rfl,rfl,S2.trans (S3.trans (S4.trans S5)),?_,(λe=>by cases e),λ_=>rfl⟩;have h_:=Holds.ord 6 [2,0,3,4,5,1] H5 rfl;exact h_
   ·refine Za8 (Za9 ?_);refine r_stA 1 H4 (vs:=Fsb x) rfl (Nat.le_refl 3) rfl rfl λw5 S5 H5=>?_;refine r_ke ⟨q,true,Fsb x,z.k+1,rfl,rfl,S2.trans (S3.trans (S4.trans S5)),?_,(λ_=>⟨rfl,x,hx,rfl⟩),λe=>by cases e⟩;have h_:=Holds.ord 6 [2,0,3,4,5,1] H5 rfl;exact h_
theorem Zx0 {z:Pz}{g:Nat}(H:Holds w (PzR b z::L)) (hz:PzOk z g) (hb:z.bls≠[]) (hp:z.paid+1 < (hd1 z).length)
  (k:∀ w',PzOk { z with paid:=z.paid+1 } (g+1)->Same w w'->Holds w' (PzR b { z with paid:=z.paid+1 }::L)->K (.tuple #[]) w'):Cl prog 139 #[pt b] w K:=by
 refine Tz139 ?_;unfold Vz139;obtain⟨h0,h3,_⟩:=Zoa hz hb;obtain⟨sp,bv,tv,wt,wb,L',H1,back⟩:=Zbb H;refine r_nc (r_fo0 (r_ld 0 H1 rfl rfl (Za0 (by omega) ?_)));refine r_nc (r_fo0 (r_st 0 H1 rfl (by simp[cellsPz]) rfl λw2 S2 H2=>?_));replace H2:Holds w2 (PzB b { z with paid:=z.paid+1 } sp bv tv wt wb++L'):=H2;refine r_dr H2 λw3 S3 H3=>?_;refine r_nc (r_fo0 (r_ld 0 H3 rfl rfl (r_nc (r_fo0 (r_ld 0 H3 rfl rfl ?_)))));refine Zeu (z:={ z with paid:=z.paid+1 }) hb H3 (q_len (r_lss (r_vtD ?_ ?_)))
 ·show ((z.paid+1:Nat):Int) < (((hd1 z).length:Nat):Int);omega
 ·refine k w3 ⟨hz.wi,hz.ip,hz.rm,hz.bl,hz.ln,hz.tn,λx r e=>?_,λe=>absurd e hb,hz.tt,hz.bi,hz.tk,hz.fe,hz.db,hz.ou,hz.ck,Nat.le_succ_of_le hz.gl,?_⟩ (S2.trans S3) (back _ w3 bv rfl (λ_=>rfl) H3)
  ·have e':z.bls=x::r:=e;show z.paid+1 < x.1.length
   have:hd1 z=x.1:=by unfold hd1;rw[e']
   rw[<-this];exact hp
  ·have:=hz.gs;show g+1<=z.c+z.cnt*MM z.room+(cur z+(z.paid+1))+(if z.dn=true then 1 else 0);omega
theorem Zpw {m n:Nat}(h:m<=n):M45.mostS m<=M45.mostS n:=by
 have h1:M45.lg m<=M45.lg n:=M45.lg_le m _ (Nat.le_trans h (M45.Zgm n).2);unfold M45.mostS M45.each;exact Nat.mul_le_mul h (Nat.mul_le_mul (by omega) (by omega))
section
variable [T12.Bnds]
theorem Zro {z:Pz}{g n:Nat}(H:Holds w (PzR b z::L)) (hz:PzOk z g) (hb:z.bls≠[]) (ht:z.tu=some (.takes n (hd1 z).length)) (hp:z.paid+1=(hd1 z).length) (ho:z.out=[]) (hB:T12.BndOk L) (hc:z.cnt<=20000)
  (k:∀ z' w',PzOk z' (g+1)->(Ef z->Ef z')->z'.dn=z.dn->z'.st=z.st->fed z'=fed z->z'.room=z.room->z'.win=z.win->z'.en=z.en->z'.cnt=z.cnt+1->Same w w'->Holds w' (PzR b z'::L)->K (.tuple #[]) w'):Cl prog 139 #[pt b] w K:=by
 refine Tz139 ?_;unfold Vz139;obtain⟨h0,h3,_⟩:=Zoa hz hb;obtain⟨x,r,hx,hx1⟩:=Zrp hb
 have hdn:z.dn=false:=by
  cases hd:z.dn with
  |false=>rfl
  |true=>exact absurd (hz.db hd).2 hb
 have hbi:=hz.bi;have htk:=hz.tk;have hgl:=hz.gl;have hgs:=hz.gs;have hck:=hz.ck;have hrm:=hz.rm;obtain⟨sp,bv,tb,wt,wb,H1⟩:=Zez ht H;refine r_nc (r_fo0 (r_ld 0 H1 rfl rfl (Za0 (by omega) ?_)));refine r_nc (r_fo0 (r_st 0 H1 rfl (by simp[cellsPz]) rfl λw2 S2 H2=>?_));replace H2:Holds w2 (PzB b { z with paid:=z.paid+1 } sp bv (pt tb) wt wb++(TuR tb (hd1 z) (.takes n (hd1 z).length)::L)):=H2;refine r_dr H2 λw3 S3 H3=>?_;refine r_nc (r_fo0 (r_ld 0 H3 rfl rfl (r_nc (r_fo0 (r_ld 0 H3 rfl rfl ?_)))));refine Zeu (z:={ z with paid:=z.paid+1 }) hb H3 (q_len (r_lss (r_vfD ?_ ?_)))
 ·show ¬ ((z.paid+1:Nat):Int) < (((hd1 z).length:Nat):Int);omega
 have hTu:(n+(hd1 z).length)<=M45.mostS (hd1 z).length+(hd1 z).length:=Yby (b:=tb) (s:=hd1 z) (t:=.takes n (hd1 z).length) (by have h_:=Holds.front H3 5 rfl;exact h_);refine r_nc (r_fo0 (r_ld 0 H3 rfl rfl ?_));refine Zjv (by have h_:=Holds.front H3 5 rfl;exact h_) h0 λo w4 hoz S4 H4=>?_
 have hol:o < (lastL (hd1 z)).length:=by
  rw[Zlc];have:=(gH.1 hoz).1;rw[Zc4] at this;exact this
 have hll:(lastL (hd1 z)).length=(hd1 z).length:=Zlc _
 have hl0:lastL (hd1 z)≠[]:=λe=>by rw[e] at hol;cases hol
 have H5:Holds w4 (PzB b { z with paid:=z.paid+1 } sp bv (pt tb) wt wb++(TuR tb (hd1 z) (.takes n (hd1 z).length)::L)):=by have h_:=Holds.ord 6 [1,2,3,4,5,0] H4 rfl;exact h_
 refine Za8 (Za9 (r_dr H5 λw5 S5 H6=>?_));refine r_nc (r_fo0 (r_ld 0 H6 rfl rfl (r_nc (r_fo0 (r_ld 0 H6 rfl rfl ?_)))));refine Zyb (xs:=z.bls) (F:=Fsb) (e:=tSb) 2 H6 rfl (λ_=>rfl) (q:=0) (j:=1) (x:=x) (u:=uv (crcOf x.2)) (by rw[hx];rfl) rfl ?_
 have H7:Holds w5 (blk wt tSt (stC wb z.tot false)::W01.WrR wb z.bits z.tk::blk b tPr (cellsPz { z with paid:=z.paid+1 } sp bv (pt tb) wt)::SpR sp z.room z.k z.c::RO Fsb 3 tSb bv z.bls::TuR tb (hd1 z) (.takes n (hd1 z).length)::L):=by
  have h_:=Holds.ord 6 [3,4,0,1,2,5] H6 rfl;rw[<-hdn];exact h_
 refine W2s.Turned_spec (s:=lastL (hd1 z)) H7 (((hB.up).up).up.up) hl0 (by omega) hol (Zpj _) hz.tt (by rw[hdn,if_neg (by decide)] at hbi;omega) (by omega) λpicks ts w6 hC S6 H8=>?_;have hbl:=W20.Zju (origin:=o) (sum:=crcOf x.2) hl0 (by omega) hC;generalize hbs:z.bits++(Go.Qs.magW++W20.blockBits (lastL (hd1 z)) o (crcOf x.2) picks ts)=bs' at H8
 have hbl2:bs'.length<=z.bits.length+300000 - 100:=by
  rw[<-hbs,gD,gD]
  have:Go.Qs.magW.length=48:=by unfold Go.Qs.magW;rw[Za4]
  omega
 have hbl3:z.bits.length<=bs'.length:=by rw[<-hbs,gD];omega
 refine r_dr H8 λw7 S7 H9=>?_;refine r_nc (r_fo0 (r_ld 2 H9 rfl rfl (r_nc (r_fo0 (r_ld 2 H9 rfl rfl ?_)))));refine W2s.Take_spec H9 λw8 S8 H10=>?_;refine r_rk (r_ld 2 H10 rfl rfl rfl) ?_;generalize hot:(wholeB bs').drop z.tk=ot
 have hotl:ot.length<=40000:=by rw[<-hot,gS,Zcr];omega
 rw[show ({ z with paid:=z.paid+1 }:Pz).out=z.out from rfl,ho];refine Zgn (by rw[length_nil];omega) ?_;rw[hO_];refine r_nc (r_fo0 (r_st 2 H10 rfl (by simp[cellsPz]) rfl λw9 S9 H11=>?_));refine r_nc (r_fo0 (r_ld 2 H11 rfl rfl ?_));rw[hx] at H11;refine Yba (F:=Fsb) (e:=tSb) (x:=x) (r:=r) 4 H11 rfl (λ_=>rfl) λv' H12=>?_;refine r_nc (r_fo0 (r_st 2 H12 rfl (by simp[cellsPz]) (H12.sgRO 4 rfl) λw10 S10 H13=>?_));refine r_nc (r_fo0 (r_st 2 H13 rfl (by simp[cellsPz]) rfl λw11 S11 H14=>?_));refine r_nc (r_fo0 (r_st 2 H14 rfl (by simp[cellsPz]) rfl λw12 S12 H15=>?_));have hxl:=hz.bl x (by rw[hx];exact hJ_ ..);have hln:=hz.ln;rw[hx,List.length_cons] at hln hck;have hmm:M45.mostS (hd1 z).length<=M45.mostS z.room:=Zpw (by rw[hx1];exact hxl.2)
 have hlr:(hd1 z).length<=z.room:=by rw[hx1];exact hxl.2
 have hcur:cur z=n+(hd1 z).length:=by unfold cur;rw[ht];rfl
 refine k { z with bls:=r,tu:=none,paid:=0,tot:=comb z.tot (crcOf x.2),bits:=bs',tk:=bs'.length/8,out:=ot,cnt:=z.cnt+1 } w12 ⟨hz.wi,hz.ip,hz.rm,(λy hy=>hz.bl y (by rw[hx];exact hK_ _ hy)),⟨by show r.length<=3;omega,λe=>by show r.length<=1;have:=hln.2 e;omega⟩,(λe=>absurd rfl e),
  (λy r' e=>?_),λ_=>rfl,comb_lt hz.tt (Zpj _),?_,rfl,hz.fe,(λe=>by rw[show ({ z with bls:=r,tu:=none,paid:=0,tot:=comb z.tot (crcOf x.2),bits:=bs',tk:=bs'.length/8,out:=ot,cnt:=z.cnt+1 }:Pz).dn=z.dn from rfl,hdn] at e;cases e),hotl,?_,Nat.le_succ_of_le hgl,?_⟩ (λhe=>he) rfl rfl rfl rfl rfl rfl rfl
  (S2.trans (S3.trans (S4.trans (S5.trans (S6.trans (S7.trans (S8.trans (S9.trans (S10.trans (S11.trans S12)))))))))) (Zcm (sp:=sp) (bv:=v') (wt:=wt) (wb:=wb) rfl ?_)
 ·have e':r=y::r':=e;have:=(hz.bl y (by rw[hx,e'];exact hK_ _ (hJ_ ..))).1;exact gZ.2 this
 ·show bs'.length<=1000+300000*(z.cnt+1)+(if z.dn=true then 100 else 0);rw[hdn,if_neg (by decide)] at hbi ⊢;omega
 ·show z.cnt+1+r.length<=z.k+(if z.fl=true then 1 else 0);omega
 ·show g+1<=z.c+(z.cnt+1)*MM z.room+(0+0)+(if z.dn=true then 1 else 0);rw[Nat.add_mul,Nat.one_mul];rw[hcur] at hgs;unfold MM at hgs ⊢;omega
 ·have h_:=Holds.dropAt (Holds.ord 6 [2,3,4,0,1,5] H15 rfl) 5
  have e:W2s.stC wb (comb z.tot (crcOf x.2)) false=W2s.stC wb (comb z.tot (crcOf x.2)) z.dn:=by rw[hdn]
  rw[e] at h_;exact h_
end
def Wr (z:Pz):Nat:=z.cnt+(if z.dn=true then 1 else 0)
structure Wk (z z':Pz):Prop where
 st:z'.st=z.st
 fd:fed z'=fed z
 rm:z'.room=z.room
 wn:z'.win=z.win
 en:z'.en=z.en
 wr:Wr z<=Wr z'
theorem Wk.refl (z:Pz):Wk z z:=⟨rfl,rfl,rfl,rfl,rfl,Nat.le_refl _⟩
theorem Wk.trans {x y z:Pz}(h:Wk x y) (h2:Wk y z):Wk x z:=⟨h2.st.trans h.st,h2.fd.trans h.fd,h2.rm.trans h.rm,h2.wn.trans h.wn,h2.en.trans h.en,Nat.le_trans h.wr h2.wr⟩
theorem cnt_le {z:Pz}{g:Nat}(H:Holds w (PzR b z::L)) (hz:PzOk z g):2*(z.k*(z.room+1))<=5*z.c:=by
 obtain⟨sp,bv,tv,wt,wb,L',H1,back⟩:=Zbb H;exact Ycc (by have h_:=Holds.front H1 1 rfl;exact h_)
theorem Zzr {z:Pz}{g:Nat}(H:Holds w (PzR b z::L)) (hz:PzOk z g) (hf:fed z<=10000):z.cnt<=20000:=by
 have h1:=cnt_le H hz;have h2:=hz.ck;have h3:z.k*6<=z.k*(z.room+1):=Nat.mul_le_mul_left _ (by have:=hz.rm.1;omega);have h4:z.c<=fed z:=Nat.le_add_right _ _
 have h5:(if z.fl=true then 1 else 0)<=1:=by split <;> omega
 omega
section
variable [T12.Bnds]
theorem Ztn {z:Pz}{g q:Nat}(H:Holds w (PzR b z::L)) (hz:PzOk z g) (hef:Ef z) (hs:stp z=false) (hB:T12.BndOk L) (hfd:fed z<=10000) (hq1:1<=q) (hq:q<=1099511627776)
  (k:∀ z' r w',1<=r->r<=q->PzOk z' (g+r)->Ef z'->Wk z z'->(wrt z=true->Wr z < Wr z')->Same w w'->Holds w' (PzR b z'::L)->K (nv r) w'):Cl prog 132 #[pt b,nv q] w K:=by
 refine Tz132 ?_;unfold Vz132;have hcnt:=Zzr H hz hfd
 have hdn:z.dn=false:=by
  unfold stp at hs;exact (Bool.or_eq_false_iff.1 hs).1
 have ho:wrt z=true->z.out=[]:=by
  intro hw;unfold stp at hs;have:=(Bool.or_eq_false_iff.1 hs).2;rw[if_pos hw] at this;exact Classical.not_not.1 (of_decide_eq_false this)
 have hn:wrt z=false->¬ (z.bls=[]/\z.inp=[]):=by
  intro hw;unfold stp at hs;have:=(Bool.or_eq_false_iff.1 hs).2;rw[if_neg (by rw[hw];decide)] at this;exact of_decide_eq_false this
 refine whole_spec H ?_
 by_cases hb:z.bls=[]
 ·refine r_vfD (λh=>h hb) ?_
  have hwf:wrt z=z.fl:=by unfold wrt;rw[if_pos hb]
  obtain⟨sp,bv,tv,wt,wb,L',H1,back⟩:=Zbb H
  by_cases hi:z.inp=[]
  ·have hw:wrt z=true:=by
    cases hw:wrt z with
    |true=>rfl
    |false=>exact absurd ⟨hb,hi⟩ (hn hw)
   have ho:=ho hw
   have ht:z.tu=none:=by
    cases ht:z.tu with
    |none=>rfl
    |some t=>exact absurd hb (hz.tn (by rw[ht];simp))
   obtain⟨sp,bv,wt,wb,H1⟩:=Zf7 ht H;have hbi:=hz.bi;have htk:=hz.tk;have hgs:=hz.gs;refine r_nc (r_fo0 (r_ld 0 H1 rfl rfl (q_sne (r_vfD (λh=>h hi) ?_))));refine r_nc (r_fo0 (r_ld 0 H1 rfl rfl ?_))
   have H7:Holds w (blk wt tSt (stC wb z.tot false)::W01.WrR wb z.bits z.tk::blk b tPr (cellsPz z sp bv (.pointer none) wt)::SpR sp z.room z.k z.c::RO Fsb 3 tSb bv z.bls::L):=by
    have h_:=Holds.ord 5 [3,4,0,1,2] H1 rfl;rw[<-hdn];exact h_
   rw[hdn,if_neg (by decide)] at hbi;refine W2s.End_spec H7 hz.tt (by omega) (by omega) λw6 S6 H8=>?_;generalize hbs:W20.padB (z.bits++(Go.Qs.endW++bitsOf z.tot 32))=bs' at H8
   have hbl2:bs'.length<=z.bits.length+87:=by
    rw[<-hbs];have:=(W20.Zvi (z.bits++(Go.Qs.endW++bitsOf z.tot 32))).2;rw[gD,gD,Za4] at this
    have e:Go.Qs.endW.length=48:=by unfold Go.Qs.endW;rw[Za4]
    omega
   refine r_dr H8 λw7 S7 H9=>?_;refine r_nc (r_fo0 (r_ld 2 H9 rfl rfl (r_nc (r_fo0 (r_ld 2 H9 rfl rfl ?_)))));refine W2s.Take_spec H9 λw8 S8 H10=>?_;refine r_rk (r_ld 2 H10 rfl rfl rfl) ?_;generalize hot:(wholeB bs').drop z.tk=ot
   have hotl:ot.length<=40000:=by rw[<-hot,gS,Zcr];omega
   rw[ho];refine Zgn (by rw[length_nil];omega) ?_;rw[hO_];refine r_nc (r_fo0 (r_st 2 H10 rfl (by simp[cellsPz]) rfl λw9 S9 H11=>?_));refine r_nc (r_fo0 (r_st 2 H11 rfl (by simp[cellsPz]) rfl λw10 S10 H12=>?_))
   refine k { z with bits:=bs',tk:=bs'.length/8,out:=ot,dn:=true } 1 w10 (Nat.le_refl 1) hq1 ⟨hz.wi,hz.ip,hz.rm,hz.bl,hz.ln,hz.tn,hz.pd,hz.p0,hz.tt,?_,rfl,hz.fe,λ_=>⟨hwf.symm.trans hw,hb⟩,hotl,hz.ck,Nat.le_succ_of_le hz.gl,?_⟩ hef ⟨rfl,rfl,rfl,rfl,rfl,?_⟩ (λ_=>?_)
    (S6.trans (S7.trans (S8.trans (S9.trans S10)))) (Zcm (sp:=sp) (bv:=bv) (wt:=wt) (wb:=wb) ht ?_)
   ·show bs'.length<=1000+300000*z.cnt+100;omega
   ·show g+1<=z.c+z.cnt*MM z.room+(cur z+z.paid)+1;rw[hdn,if_neg (by decide)] at hgs;omega
   ·show z.cnt+(if z.dn=true then 1 else 0)<=z.cnt+1;rw[hdn,if_neg (by decide)];omega
   ·show z.cnt+(if z.dn=true then 1 else 0) < z.cnt+1;rw[hdn,if_neg (by decide)];omega
   ·have h_:=Holds.ord 5 [2,3,4,0,1] H12 rfl;exact h_
  ·have hf:z.fl=false:=by
    cases hf:z.fl with
    |false=>rfl
    |true=>exact absurd (hz.fe hf).1 hi
   refine r_nc (r_fo0 (r_ld 0 H1 rfl rfl (q_sne (r_vtD hi ?_))));refine take_spec H hz hb hi hf λz' w2 h1 h2 h3 S2 H2=>?_;refine k z' 1 w2 (Nat.le_refl 1) hq1 h1 h2 ⟨h3.2.2.1,h3.2.2.2.1,h3.2.2.2.2.1,h3.2.2.2.2.2.1,h3.2.2.2.2.2.2.2,?_⟩ (λe=>by rw[hwf,hf] at e;cases e) S2 H2;unfold Wr;rw[h3.2.1,h3.2.2.2.2.2.2.1];exact Nat.le_refl _
 ·refine r_vtD hb ?_;obtain⟨h0,h3,hp⟩:=Zoa hz hb;refine Zbh (λw'=>∃ z' t,z'.tu=some t/\(z.tu=some t/\z'=z\/z.tu=none/\t=.sorts 0/\z'={ z with tu:=some (.sorts 0) })/\Same w w'/\Holds w' (PzR b z'::L)) ?_ ?_
  rotate_left
  ·cases ht:z.tu with
   |none=>
    obtain⟨sp,bv,wt,wb,H1⟩:=Zf7 ht H;refine r_nc (r_fo0 (r_ld 0 H1 rfl rfl (Zll (r_vt ?_))));refine r_nc (r_fo0 (r_ld 0 H1 rfl rfl ?_));refine Zeu hb H1 ?_;refine Zr3 H1 h0 (by omega) λtb w2 S2 H2=>?_;refine Za8 (Za9 ?_);refine r_nc (r_fo0 (r_st 1 H2 rfl (by simp[cellsPz]) rfl λw3 S3 H3=>?_));refine r_ke ⟨{ z with tu:=some (.sorts 0) },.sorts 0,rfl,.inr ⟨rfl,rfl,rfl⟩,S2.trans S3,?_⟩;refine Zcg (z:={ z with tu:=some (.sorts 0) }) (t:=.sorts 0) (sp:=sp) (tb:=tb) (wt:=wt) (wb:=wb) (bv:=bv) rfl ?_;have h_:=Holds.ord 6 [1,2,3,4,5,0] H3 rfl;exact h_
   |some t=>
    obtain⟨sp,bv,tb,wt,wb,H1⟩:=Zez ht H;refine r_nc (r_fo0 (r_ld 0 H1 rfl rfl (Zab (r_vf ?_))));exact r_ke ⟨z,t,ht,.inl ⟨rfl,rfl⟩,.refl _,H⟩
  rintro _ w2 ⟨z',t,ht,hzt,S2,H2⟩;obtain⟨sp,bv,tb,wt,wb,H3⟩:=Zez ht H2
  have hh:hd1 z'=hd1 z:=by rcases hzt with⟨_,rfl⟩|⟨_,_,rfl⟩ <;> rfl
  rw[hh] at H3;refine r_nc (r_fo0 (r_ld 0 H3 rfl rfl ?_));refine Ze9 h0 (by have h_:=Holds.front H3 5 rfl;exact h_) λw3 S3 H4=>?_
  have H5:Holds w3 (PzB b z' sp bv (pt tb) wt wb++(TuR tb (hd1 z) t::L)):=by have h_:=Holds.ord 6 [1,2,3,4,5,0] H4 rfl;exact h_
  cases hd:t.done (hd1 z) with
  |false=>
   have hwn:wrt z=false:=by
    unfold wrt tuD;rw[if_neg hb];rcases hzt with⟨h,_⟩|⟨h,_⟩
    ·rw[h];simp only[hd,Bool.false_and]
    ·rw[h];rfl
   refine Zci (r_vt (r_nc (r_fo0 (r_ld 0 H5 rfl rfl ?_))));refine Znd H4 h0 (by omega) hd hq1 hq λt' r w4 hr1 hr2 hrc S4 H6=>?_
   have hcu:cur z=t.cnt:=by
    unfold cur;rcases hzt with⟨h,_⟩|⟨h,rfl,_⟩
    ·rw[h]
    ·rw[h];rfl
   have hgs:=hz.gs
   have h1:PzOk { z with tu:=some t' } (g+r):=⟨hz.wi,hz.ip,hz.rm,hz.bl,hz.ln,λ_=>hb,hz.pd,hz.p0,hz.tt,hz.bi,hz.tk,hz.fe,hz.db,hz.ou,hz.ck,Nat.le_trans hz.gl (Nat.le_add_right _ _),by
    show g+r<=z.c+z.cnt*MM z.room+(t'.cnt+z.paid)+(if z.dn=true then 1 else 0);rw[hrc,<-hcu]
    omega⟩
   have ez:{ z' with tu:=some t' }={ z with tu:=some t' }:=by rcases hzt with⟨_,rfl⟩|⟨_,_,rfl⟩ <;> rfl
   refine k { z with tu:=some t' } r w4 hr1 hr2 h1 hef ⟨rfl,rfl,rfl,rfl,rfl,Nat.le_refl _⟩ (λe=>by rw[hwn] at e;cases e) (S2.trans (S3.trans S4)) ?_;rw[<-ez];refine Zcg (z:={ z' with tu:=some t' }) (t:=t') (sp:=sp) (tb:=tb) (wt:=wt) (wb:=wb) (bv:=bv) rfl ?_;have e:hd1 { z' with tu:=some t' }=hd1 z:=hh;rw[e];have h_:=Holds.ord 6 [1,2,3,4,5,0] H6 rfl;exact h_
  |true=>
   have hz':z'=z/\z.tu=some t:=by
    rcases hzt with⟨h1,h2⟩|⟨_,rfl,_⟩
    ·exact⟨h2,h1⟩
    ·cases hd
   obtain⟨rfl,ht'⟩:=hz';refine Zal (r_vf ?_)
   have hwd:wrt z'=decide (z'.paid+1=(hd1 z').length):=by
    unfold wrt tuD;rw[if_neg hb,ht'];simp only[hd,Bool.true_and]
   by_cases hp1:z'.paid+1=(hd1 z').length
   ·have hw:wrt z'=true:=by rw[hwd];exact decide_eq_true hp1
    obtain⟨n,rfl⟩:∃ n,t=.takes n (hd1 z').length:=by
     cases t with
     |sorts n=>cases hd
     |takes n u=>exact⟨n,by rw[show u=(hd1 z').length from of_decide_eq_true hd]⟩
    refine Zro (Zcg ht H5) hz hb ht' hp1 (ho hw) hB hcnt λz2 w4 h1 h2 h4 h5 h6 h7 h8 h9 h10 S4 H6=>?_;refine k z2 1 w4 (Nat.le_refl 1) hq1 h1 (h2 hef) ⟨h5,h6,h7,h8,h9,?_⟩ (λ_=>?_) (S2.trans (S3.trans S4)) H6
    ·unfold Wr;rw[h4,h10];omega
    ·unfold Wr;rw[h4,h10];omega
   ·have hw:wrt z'=false:=by rw[hwd];exact decide_eq_false hp1
    refine Zx0 (Zcg ht H5) hz hb (by omega) λw4 h1 S4 H6=>?_;exact k { z' with paid:=z'.paid+1 } 1 w4 (Nat.le_refl 1) hq1 h1 hef ⟨rfl,rfl,rfl,rfl,rfl,Nat.le_refl _⟩ (λe=>by rw[hw] at e;cases e) (S2.trans (S3.trans S4)) H6
theorem Step_spec {z:Pz}{g q:Nat}(H:Holds w (PzR b z::L)) (hz:PzOk z g) (hef:Ef z) (hB:T12.BndOk L) (hfd:fed z<=10000) (hq:q<=1000000) (hg:g<=1000000000000)
  (k:∀ z' m w',m<=q->PzOk z' (g+m)->Ef z'->z'.st=z.st+m->fed z'=fed z->z'.room=z.room->z'.win=z.win->z'.en=z.en->Wr z<=Wr z'->(wrt z=true->stp z=false->1<=q->Wr z < Wr z')->(m=q\/stp z'=true)->Same w w'->Holds w' (PzR b z'::L)->K (nv m) w'):Cl prog 126 #[pt b,nv q] w K:=by
 refine Tz126 ?_;unfold Vz126;have hgl:=hz.gl;refine Zdq (λj x w'=>∃ m z',j=q - m/\m<=q/\x=nv m/\PzOk z' (g+m)/\Ef z'/\Wk z z'/\(m=0->z'=z)/\(0 < m->wrt z=true->stp z=false->Wr z < Wr z')/\Same w w'/\Holds w' (PzR b z'::L)) q ⟨0,z,rfl,Nat.zero_le _,rfl,hz,hef,.refl z,λ_=>rfl,(λe=>absurd e (Nat.lt_irrefl 0)),.refl _,H⟩ ?_;clear H hz hef;rintro _ j _ w1 _ ⟨m,z1,rfl,hm,rfl,hz,hef,hk,h0,h1w,S1,H1⟩ hgo;refine Za2 (λx w'=>∃ c:Bool,x=.bool c/\(c=decide (m < q/\stp z1=false))/\Same w w'/\Holds w' (PzR b z1::L)) ?_ ?_
 ·rintro _ _ w2 ⟨c,rfl,hc,S2,H2⟩
  cases c with
  |true=>
   obtain⟨hlt,hst⟩:=of_decide_eq_true hc.symm;refine r_vt (r_sub (by omega) (by omega) ?_);rw[show (q:Int) - (m:Int)=((q - m:Nat):Int) by omega];refine Ztn H2 hz hef hst hB (by rw[hk.fd];exact hfd) (by omega) (by omega) λz' r w3 h1 h2 h3 h4 h5 h6 S3 H3=>?_;refine Zad (by omega) (r_ke (hgo (q - (m+r)) _ _ (by omega) ⟨m+r,z',rfl,by omega,rfl,?_,h4,hk.trans h5,(λe=>by omega),(λ_ e1 e2=>?_),S2.trans S3,H3⟩))
   ·rw[<-hG_];exact h3
   ·rcases Nat.eq_zero_or_pos m with e|e
    ·obtain rfl:=h0 e;exact h6 e1
    ·exact Nat.lt_of_lt_of_le (h1w e e1 e2) h5.wr
  |false=>
   have hnc:=of_decide_eq_false hc.symm;refine r_vf (Zca (r_vt ?_));obtain⟨sp,bv,tv,wt,wb,L',H3,back⟩:=Zbb H2;have hst:=hk.st;refine r_nc (r_fo0 (r_ld 0 H3 rfl rfl (Zad (by omega) ?_)));refine r_nc (r_fo0 (r_st 0 H3 rfl (by simp[cellsPz]) rfl λw4 S4 H4=>?_))
   have hfin:m=q\/stp z1=true:=by
    cases hs:stp z1 with
    |true=>exact .inr rfl
    |false=>exact .inl (by have:¬ m < q:=λe=>hnc ⟨e,hs⟩;omega)
   refine k { z1 with st:=z1.st+m } m w4 hm ⟨hz.wi,hz.ip,hz.rm,hz.bl,hz.ln,hz.tn,hz.pd,hz.p0,hz.tt,hz.bi,hz.tk,hz.fe,hz.db,hz.ou,hz.ck,?_,hz.gs⟩ hef (by show z1.st+m=_;rw[hst]) hk.fd hk.rm hk.wn hk.en hk.wr (λe1 e2 e3=>?_) hfin (S2.trans S4) (back { z1 with st:=z1.st+m } w4 bv rfl (λ_=>rfl) H4)
   ·show z1.st+m<=g+m;omega
   ·rcases Nat.eq_zero_or_pos m with e|e
    ·have hz1:=h0 e;subst e;rw[hz1] at hnc;exact absurd ⟨by omega,e2⟩ hnc
    ·exact h1w e e1 e2
 ·refine r_lss (r_ifD (λh=>?_) λh=>?_)
  ·refine Zl3 H1 hz λw2 S2 H2=>r_not (r_ke ⟨!stp z1,rfl,?_,S1.trans S2,H2⟩)
   cases stp z1 with
   |true=>rw[decide_eq_false (λe=>by cases e.2)];rfl
   |false=>rw[decide_eq_true ⟨by omega,rfl⟩];rfl
  ·exact r_ke ⟨false,rfl,by rw[decide_eq_false (λe=>h (by omega))],S1,H1⟩
end
end P23
namespace X14
open Go.M01 Go.Mb P20
variable {w:World}{L:List HProp}{K:KT}{b r un win k st:Nat}{B:List UInt8}{en:Bool}
abbrev tUs:Nat:=148
abbrev tX:Nat:=118
abbrev tTs:Nat:=122
def E:List UInt8:=[66,90,104,49,23,114,69,56,80,144,0,0,0,0]
def pl (k:Nat):Nat:=if k<=4 then 8*k else if k=5 then 80 else 112
def du (k:Nat):Nat:=if k<=3 then 0 else if k=4 then 1 else if k=5 then 3 else 0
def al (k:Nat):Nat:=if k<=3 then k else 0
def lv (k:Nat):Nat:=if k<=3 then 0 else 1
def usC (un k:Nat):List Value:=[nv un,nv (du k),nv (al k),nv (lv k),.pointer none,S_ [],nv 0,uv 0,uv 0,.bool (decide (6<=k)),nv 0]
theorem Zne (hk:k<=3){d:Nat}(H:Holds w (blk b tUs (usC un k)::Rb.RdR r E d (8*k)::L)) (post:∀ w',Same w w'->Holds w' (blk b tUs (usC un (k+1))::Rb.RdR r E d (8*k+8)::L)->K (iv 0) w') :
  Cl prog 306 #[pt b,pt r] w K:=by
 refine Tz306 ?_;unfold Vz306;refine Rb.Zgc (n:=8) H.swap (by omega) (λh w2 S2 H2=>?_) λh w2 S2 H2=>?_
 ·exfalso
  rcases (show k=0\/k=1\/k=2\/k=3 by omega) with rfl|rfl|rfl|rfl <;> revert h <;> decide
 refine Za8 (Za9 (r_neq (r_vfN rfl ?_)));rcases (show k=0\/k=1\/k=2\/k=3 by omega) with rfl|rfl|rfl|rfl
 ·refine r_nc (r_fo0 (r_ld 1 H2 rfl rfl (r_lss (r_vtD (by decide) ?_))));refine r_nc (r_fo0 (r_ld 1 H2 rfl rfl (r_ixs (n:=0) (by decide) (by decide) ?_)));refine Zav (n:=66) (by decide) (by decide) ?_;refine r_neq (r_vfN (by decide) ?_);refine r_nc (r_fo0 (r_ld 1 H2 rfl rfl (Za0 (by decide) (r_nc (r_fo0 (r_st 1 H2 rfl (by simp[usC]) rfl λw3 S3 H3=>?_))))));exact post w3 (S2.trans S3) H3.swap
 ·refine r_nc (r_fo0 (r_ld 1 H2 rfl rfl (r_lss (r_vtD (by decide) ?_))));refine r_nc (r_fo0 (r_ld 1 H2 rfl rfl (r_ixs (n:=1) (by decide) (by decide) ?_)));refine Zav (n:=90) (by decide) (by decide) ?_;refine r_neq (r_vfN (by decide) ?_);refine r_nc (r_fo0 (r_ld 1 H2 rfl rfl (Za0 (by decide) (r_nc (r_fo0 (r_st 1 H2 rfl (by simp[usC]) rfl λw3 S3 H3=>?_))))));exact post w3 (S2.trans S3) H3.swap
 ·refine r_nc (r_fo0 (r_ld 1 H2 rfl rfl (r_lss (r_vtD (by decide) ?_))));refine r_nc (r_fo0 (r_ld 1 H2 rfl rfl (r_ixs (n:=2) (by decide) (by decide) ?_)));refine Zav (n:=104) (by decide) (by decide) ?_;refine r_neq (r_vfN (by decide) ?_);refine r_nc (r_fo0 (r_ld 1 H2 rfl rfl (Za0 (by decide) (r_nc (r_fo0 (r_st 1 H2 rfl (by simp[usC]) rfl λw3 S3 H3=>?_))))));exact post w3 (S2.trans S3) H3.swap
 ·refine r_nc (r_fo0 (r_ld 1 H2 rfl rfl (r_lss (r_vfD (by decide) ?_))));refine Za2 (λx w'=>w2=w'/\x=.bool false) ?_ ?_
  rotate_left
  ·exact r_lss (r_vfD (by decide) (r_gtr (r_ke ⟨rfl,by rw[decide_eq_false (by decide)]⟩)))
  rintro _ _ _ ⟨rfl,rfl⟩;refine r_vf ?_;refine Zoo (s:=49) (t:=48) (by decide) (by decide) (Zsp (by decide) (by decide) ?_);refine r_nc (r_fo0 (r_st 1 H2 rfl (by simp[usC]) rfl λw3 S3 H3=>?_));refine r_nc (r_fo0 (r_st 1 H3 rfl (by simp[usC]) rfl λw4 S4 H4=>?_));refine r_nc (r_fo0 (r_st 1 H4 rfl (by simp[usC]) rfl λw5 S5 H5=>?_));refine r_nc (r_fo0 (r_st 1 H5 rfl (by simp[usC]) rfl λw6 S6 H6=>?_));exact post w6 (S2.trans (S3.trans (S4.trans (S5.trans S6)))) H6.swap
theorem magic_spec {d:Nat}(H:Holds w (blk b tUs (usC un 4)::Rb.RdR r E d 32::L)) (post:∀ w',Same w w'->Holds w' (blk b tUs (usC un 5)::Rb.RdR r E d 80::L)->K (iv 0) w') :
  Cl prog 307 #[pt b,pt r] w K:=by
 refine Tz307 ?_;unfold Vz307;refine Rb.Zhh H.swap λw2 S2 H2=>?_;refine r_lss (r_vfD (by decide) ?_);refine Rb.Zgc (n:=24) H2 (by omega) (λh w3 S3 H3=>absurd h (by decide)) λh w3 S3 H3=>?_;refine Za8 (Za9 ?_);refine Rb.Zgc (n:=24) H3 (by omega) (λh w4 S4 H4=>absurd h (by decide)) λh w4 S4 H4=>?_;refine Za8 (Za9 ?_);rw[show valB ((rest E 32).take 24)=1536581 by decide,show valB ((rest E (32+24)).take 24)=3690640 by decide];refine Zka (by decide) (by decide) ?_;refine r_bpK (.int .u64 25779551338496) (by kernel_rfl) ?_;refine Zka (by decide) (by decide) ?_;refine r_bpK (.int .u64 25779555029136) (by kernel_rfl) ?_;refine r_eql (r_vfE (by decide) (r_eql (r_vtE rfl ?_)));refine r_nc (r_fo0 (r_st 1 H4 rfl (by simp[usC]) rfl λw5 S5 H5=>?_));exact post w5 (S2.trans (S3.trans (S4.trans S5))) H5.swap
theorem Zva {d:Nat}(H:Holds w (blk b tUs (usC un 5)::Rb.RdR r E d 80::L)) (post:∀ w',Same w w'->Holds w' (blk b tUs (usC un 6)::Rb.RdR r E d 112::L)->K (.tuple #[iv 2,iv 0]) w') :
  Cl prog 309 #[pt b,pt r] w K:=by
 refine Tz309 ?_;unfold Vz309;refine Rb.Zgc (n:=32) H.swap (by omega) (λh w3 S3 H3=>absurd h (by decide)) λh w2 S2 H2=>?_;refine Za8 (Za9 (r_neq (r_vfN rfl ?_)));rw[show valB ((rest E 80).take 32)=0 by decide];refine r_nc (r_fo0 (r_ld 1 H2 rfl rfl (r_neq (r_vfN (by decide) ?_))));refine Rb.Zr1 H2 λw3 S3 H3=>?_;refine r_nc (r_fo0 (r_st 1 H3 rfl (by simp[usC]) rfl λw4 S4 H4=>?_));refine r_nc (r_fo0 (r_st 1 H4 rfl (by simp[usC]) rfl λw5 S5 H5=>?_));exact post w5 (S2.trans (S3.trans (S4.trans S5))) H5.swap
theorem step_spec (hk:k<=5){d:Nat}(H:Holds w (blk b tUs (usC un k)::Rb.RdR r E d (pl k)::L)) (post:∀ wt w',wt≠1->Same w w'->Holds w' (blk b tUs (usC un (k+1))::Rb.RdR r E d (pl (k+1))::L)->K (.tuple #[iv wt,iv 0]) w') :
  Cl prog 300 #[pt b,pt r] w K:=by
 refine Tz300 ?_;unfold Vz300;refine r_nc (r_fo0 (r_ld 0 H rfl rfl ?_));rcases (show k<=3\/k=4\/k=5 by omega) with h|rfl|rfl
 ·have hd:du k=0:=by unfold du;rw[if_pos h]
  have h1:pl k=8*k:=by unfold pl;rw[if_pos (by omega)]
  have h2:pl (k+1)=8*k+8:=by unfold pl;rw[if_pos (by omega)];omega
  rw[hd];rw[h1] at H;rw[h2] at post;refine r_eql (r_vtE rfl ?_);exact Zne h H λw' S' H'=>post 0 w' (by decide) S' H'
 ·refine r_eql (r_vfE (by decide) (r_eql (r_vtE rfl ?_)));exact magic_spec H λw' S' H'=>post 0 w' (by decide) S' H'
 ·refine r_eql (r_vfE (by decide) (r_eql (r_vfE (by decide) (r_eql (r_vfE (by decide) ?_)))));refine Zva H λw' S' H'=>?_;exact Za8 (Za9 (post 2 w' (by decide) S' H'))
theorem Step_spec (hk:k<=5){d:Nat}(H:Holds w (blk b tUs (usC un k)::Rb.RdR r E d (pl k)::L)) (post:∀ wt w',wt≠1->Same w w'->Holds w' (blk b tUs (usC un (k+1))::Rb.RdR r E d (pl (k+1))::L)->K (.tuple #[iv wt,iv 0]) w') :
  Cl prog 290 #[pt b,pt r] w K:=by
 refine Tz290 ?_;unfold Vz290;refine Za2 (λx w'=>w=w'/\x=.bool false) ?_ ?_
 rotate_left
 ·exact Zab (r_vf (Zab (r_ke ⟨rfl,rfl⟩)))
 rintro _ _ _ ⟨rfl,rfl⟩;refine r_vf (r_nc (r_fo0 (r_ld 0 H rfl rfl (r_neq (r_vfN rfl ?_)))));refine step_spec hk H λwt w2 hw S2 H2=>?_;refine Za8 (Za9 (r_neq (r_vtN (by decide) ?_)));refine r_nc (r_fo0 (r_st 0 H2 rfl (by simp[usC]) rfl λw3 S3 H3=>?_));exact post wt w3 hw (S2.trans S3) H3
theorem Zmr (H:Holds w (blk b tUs (usC un k)::L)) (post:K (.bool (decide (6<=k))) w):Cl prog 288 #[pt b] w K:=by
 refine Tz288 ?_;unfold Vz288;refine Zca (r_vt (r_nc (r_fo0 (r_ld 0 H rfl rfl (r_ifD (λh=>?_) λh=>?_)))))
 ·have h1:du k=0:=by unfold du;rw[if_neg (by omega),if_neg (by omega),if_neg (by omega)]
  have h2:al k=0:=by unfold al;rw[if_neg (by omega)]
  rw[decide_eq_true h] at post;refine r_nc (r_fo0 (r_ld 0 H rfl rfl (r_eql (r_vtE (by rw[h1];rfl) ?_))));refine r_nc (r_fo0 (r_ld 0 H rfl rfl (r_eql (r_vtE (by rw[h2];rfl) ?_))));exact r_nc (r_fo0 (r_ld 0 H rfl rfl (r_eql post)))
 ·rw[decide_eq_false h] at post;exact post
def xC (win:Nat) (en:Bool) (rb ub k st:Nat):List Value:=[nv win,nv 4096,.bool en,pt rb,pt ub,.pointer none,.bool false,.slice none 0 0,.bool (decide (k=7)),iv 0,nv st]
def XR (b win:Nat) (B:List UInt8) (en:Bool) (k st:Nat):HProp:=λh=>∃ rb ub un,Sat [blk b tX (xC win en rb ub k st),Rb.RdR rb B (pl k/8) (pl k),blk ub tUs (usC un k)] h
theorem Zda (H:Holds w (XR b win B en k st::L)):∃ rb ub un,Holds w (blk b tX (xC win en rb ub k st)::Rb.RdR rb B (pl k/8) (pl k)::blk ub tUs (usC un k)::L):=by
 obtain⟨rb,H⟩:=Holds.ex H;obtain⟨ub,H⟩:=Holds.ex H;obtain⟨un,H⟩:=Holds.ex H;exact⟨rb,ub,un,Holds.unpack (A:=[_,_,_]) H⟩
theorem Zdr {rb ub un:Nat}(H:Holds w (blk b tX (xC win en rb ub k st)::Rb.RdR rb B (pl k/8) (pl k)::blk ub tUs (usC un k)::L)):Holds w (XR b win B en k st::L):=
 Holds.imp (Holds.pack (A:=[_,_,_]) H) λh hh=>⟨rb,ub,un,hh⟩
theorem Ya3 {n:Int}(h1:24<=n) (h2:n<=100000) (k:∀ v,K (.tuple #[v,iv 0]) w):Cl prog 50 #[iv 1,iv n] w K:=by
 refine Tz50 ?_;unfold Vz50;refine Za2 (λx w'=>w=w'/\x=.bool false) ?_ ?_
 rotate_left
 ·exact r_lss (r_vfD (by omega) (r_gtr (r_vfD (by omega) (r_lss (r_vfD (by omega) (r_gtr (r_ke ⟨rfl,by rw[decide_eq_false (by omega)]⟩)))))))
 rintro _ _ _ ⟨rfl,rfl⟩;exact r_vf (Zdi n (by omega) (by omega) (by omega) (r_sub (by omega) (by omega) (k _)))
theorem Zmf {l:List UInt8}{r:List Value}(H:Holds w (blk b Rb.tR (S_ l::r)::L)) (k:K (nv l.length) w):Cl prog 282 #[pt b] w K:=by
 refine Tz282 ?_;unfold Vz282;exact Zab (r_vf (r_nc (r_fo0 (r_ld 0 H rfl rfl (q_len k)))))
theorem Zlu {unit:Nat}(H:Holds w L) (h3:24<=unit) (h4:unit<=200) (h5:64<=win) (h6:win<=1048576) (post:∀ b w',Same w w'->Holds w' (XR b win [] false 0 0::L)->K (.tuple #[pt b,iv 0]) w'):Cl prog 38 #[nv unit,nv win,iv 4096] w K:=by
 refine Tz38 ?_;unfold Vz38;refine Tz55 ?_;unfold Vz55;refine Ya3 (by omega) (by omega) λv=>?_;refine Za8 (Za9 (r_neq (r_vfN rfl ?_)));refine r_bd (v:=.agg (usC unit 0).toArray) (by kernel_rfl) ?_;refine r_new H λub w1 S1 H1=>?_;refine Za8 (Za9 ?_);refine Za2 (λx w'=>w1=w'/\x=.bool false) ?_ ?_
 rotate_left
 ·repeat (first|refine r_neq ?_|((with_reducible refine r_vfN ?h ?_);(case h=>omega)))
  refine Tz56 ?_;unfold Vz56
  repeat (first|refine r_ke ?_|refine r_leq ?_|refine r_geq ?_|refine r_not ?_|((with_reducible refine r_vtD ?h ?_);(case h=>omega)))
  exact⟨rfl,rfl⟩
 rintro _ _ _ ⟨rfl,rfl⟩;refine r_vf ?_;refine Rb.NewReader_spec (B:=[]) H1 (Nat.zero_le _) λrb w2 S2 H2=>?_;refine r_bd (v:=.agg (xC win false rb ub 0 0).toArray) (by kernel_rfl) ?_;refine r_new H2 λb w3 S3 H3=>?_;exact post b w3 (S1.trans (S2.trans S3)) (Zdr (k:=0) (rb:=rb) (ub:=ub) (un:=unit) H3)
theorem Ziu (H:Holds w (XR b win [] false 0 0::L)) (h5:64<=win) (h6:win<=1048576) (post:∀ w',Same w w'->Holds w' (XR b win E false 0 0::L)->K (nv 14) w'):Cl prog 274 #[pt b,S_ E] w K:=by
 refine Tz274 ?_;unfold Vz274;obtain⟨rb,ub,un,H1⟩:=Zda H;refine Za2 (λx w'=>w=w'/\x=.bool false) ?_ ?_
 rotate_left
 ·exact Zab (r_vf (r_nc (r_fo0 (r_ld 0 H1 rfl rfl (r_vf (r_nc (r_fo0 (r_ld 0 H1 rfl rfl (r_ke ⟨rfl,rfl⟩)))))))))
 rintro _ _ _ ⟨rfl,rfl⟩;refine r_vf (r_dr H1 λw2 S2 H2=>?_);refine q_len (r_nc (r_fo0 (r_ld 0 H2 rfl rfl (r_nc (r_fo0 (r_ld 0 H2 rfl rfl ?_))))));obtain⟨hrd,H3⟩:=Rb.Zay (by have h_:=Holds.front H2 1 rfl;exact h_);refine Zmf H3 ?_;refine r_rk (r_ld 0 H2 rfl rfl rfl) (r_rk (q_len rfl) ?_);refine r_sub (by show _<=(win:Int) - ((0:Nat):Int);omega) (by show (win:Int) - ((0:Nat):Int)<=_;omega) (r_min ?_);rw[show min ((E.length:Nat):Int) ((win:Int) - ((([]:List UInt8).drop (pl 0/8)).length:Nat))=((14:Nat):Int) from by show min (14:Int) ((win:Int) - ((0:Nat):Int))=14;omega];refine r_dr H2 λw3 S3 H4=>?_;refine r_nc (r_fo0 (r_ld 0 H4 rfl rfl (q_T (by decide) ?_)));refine Rb.Zuk (B:=[]) (S2:=E) (by have h_:=Holds.front H4 1 rfl;exact h_) (by decide) λw4 S4 H5=>?_;refine r_gtr (r_vtD (by decide) ?_);refine r_nc (r_fo0 (r_st 1 H5 rfl (by simp[xC]) rfl λw5 S5 H6=>?_));refine post w5 (S2.trans (S3.trans (S4.trans S5))) (Zdr (k:=0) (rb:=rb) (ub:=ub) (un:=un) ?_);have h_:=Holds.ord 3 [1,0,2] H6 rfl;exact h_
theorem Zl4 (H:Holds w (XR b win E false 0 0::L)) (post:∀ v w',Same w w'->Holds w' (XR b win E true 0 0::L)->K v w'):Cl prog 272 #[pt b] w K:=by
 refine Tz272 ?_;unfold Vz272;obtain⟨rb,ub,un,H1⟩:=Zda H;refine Za2 (λy w'=>w=w'/\y=.bool false) ?_ ?_
 rotate_left
 ·exact Zab (r_vf (r_nc (r_fo0 (r_ld 0 H1 rfl rfl (r_ke ⟨rfl,rfl⟩)))))
 rintro _ _ _ ⟨rfl,rfl⟩;refine r_vf (r_nc (r_fo0 (r_st 0 H1 rfl (by simp[xC]) rfl λw2 S2 H2=>?_)));refine r_nc (r_fo0 (r_st 0 H2 rfl (by simp[xC]) rfl λw3 S3 H3=>?_));exact post _ w3 (S2.trans S3) (Zdr H3)
theorem Ze1 (H:Holds w (XR b win B en k st::L)) (post:K (.bool (decide (k=7))) w):Cl prog 271 #[pt b] w K:=by
 refine Tz271 ?_;unfold Vz271;obtain⟨rb,ub,un,H1⟩:=Zda H;exact Zca (r_vt (r_nc (r_fo0 (r_ld 0 H1 rfl rfl post))))
theorem Zh5 (H:Holds w (XR b win B en k st::L)) (post:K (iv 0) w):Cl prog 273 #[pt b] w K:=by
 refine Tz273 ?_;unfold Vz273;obtain⟨rb,ub,un,H1⟩:=Zda H;exact Zab (r_vf (r_nc (r_fo0 (r_ld 0 H1 rfl rfl post))))
theorem Zd5 (H:Holds w (XR b win B en k st::L)) (post:K (iv 0) w):Cl prog 280 #[pt b] w K:=by
 refine Tz280 ?_;unfold Vz280;obtain⟨rb,ub,un,H1⟩:=Zda H;exact Zab (r_vf (r_nc (r_fo0 (r_ld 0 H1 rfl rfl (r_lnl post)))))
theorem Zf4 (H:Holds w (XR b win B en k st::L)) (post:K (.bool (decide (k=7))) w):Cl prog 278 #[pt b] w K:=by
 refine Tz278 ?_;unfold Vz278;obtain⟨rb,ub,un,H1⟩:=Zda H;refine Za2 (λy w'=>w=w'/\y=.bool (decide (k=7))) ?_ ?_
 rotate_left
 ·exact Zab (r_vf (r_nc (r_fo0 (r_ld 0 H1 rfl rfl (r_ke ⟨rfl,rfl⟩)))))
 rintro _ _ _ ⟨rfl,rfl⟩;refine r_ifD (λh=>?_) λh=>?_
 ·rw[decide_eq_true h] at post;exact post
 ·rw[decide_eq_false h] at post;refine r_nc (r_fo0 (r_ld 0 H1 rfl rfl (Zuf (r_vf (r_nc (r_fo0 (r_ld 0 H1 rfl rfl post)))))))
theorem Zm9 (H:Holds w (XR b win B en k st::L)) (post:K (S_ []) w):Cl prog 279 #[pt b,iv 0] w K:=by
 refine Tz279 ?_;unfold Vz279;refine Za2 (λy w'=>w=w'/\y=.bool true) ?_ ?_
 rotate_left
 ·exact Zab (r_vf (r_lss (r_ke ⟨rfl,rfl⟩)))
 rintro _ _ _ ⟨rfl,rfl⟩;exact r_vt post
theorem Zrq (hk:k<=6) (H:Holds w (XR b win E true k st::L)) (post:∀ w',Same w w'->Holds w' (XR b win E true (k+1) st::L)->K (.bool true) w'):Cl prog 284 #[pt b] w K:=by
 refine Tz284 ?_;unfold Vz284;obtain⟨rb,ub,un,H1⟩:=Zda H
 have hk7:k≠7:=by omega
 refine Za2 (λy w'=>y=.bool (decide (6<=k))/\Same w w'/\Holds w' (blk b tX (xC win true rb ub k st)::Rb.RdR rb E (pl k/8) (pl k)::blk ub tUs (usC un k)::L)) ?_ ?_
 rotate_left
 ·refine r_nc (r_fo0 (r_ld 0 H1 rfl rfl (r_vt (r_nc (r_fo0 (r_ld 0 H1 rfl rfl ?_))))));refine Zmr (by have h_:=Holds.front H1 2 rfl;exact h_) (r_ifD (λh=>?_) λh=>?_)
  ·obtain rfl:k=6:=by omega
   refine r_nc (r_fo0 (r_ld 0 H1 rfl rfl ?_));refine Rb.Zhh (by have h_:=Holds.front H1 1 rfl;exact h_) λw2 S2 H2=>?_;refine r_eql (r_ke ⟨rfl,S2,?_⟩);have h_:=Holds.ord 3 [1,0,2] H2 rfl;exact h_
  ·exact r_ke ⟨by rw[decide_eq_false h],.refl _,H1⟩
 rintro _ _ w1 ⟨rfl,S1,H2⟩;refine r_ifD (λh=>?_) λh=>?_
 ·obtain rfl:k=6:=by omega
  refine Tz286 ?_;unfold Vz286;refine r_nc (r_fo0 (r_st 0 H2 rfl (by simp[xC]) rfl λw3 S3 H3=>?_));refine r_nc (r_fo0 (r_st 0 H3 rfl (by simp[xC]) rfl λw4 S4 H4=>?_));refine r_nc (r_fo0 (r_st 0 H4 rfl (by simp[xC]) rfl λw5 S5 H5=>?_));exact post w5 (S1.trans (S3.trans (S4.trans S5))) (Zdr (k:=7) (rb:=rb) (ub:=ub) (un:=un) H5)
 ·refine r_dr H2 λw2 S2 H3=>?_;refine r_nc (r_fo0 (r_ld 0 H3 rfl rfl (r_nc (r_fo0 (r_ld 0 H3 rfl rfl ?_)))))
  have H4:Holds w2 (blk ub tUs (usC un k)::Rb.RdR rb E (pl k/8) (pl k)::blk b tX (xC win true rb ub k st)::L):=by
   have h_:=Holds.ord 3 [2,1,0] H3 rfl;exact h_
  refine Step_spec (by omega) H4 λwt w3 hw S3 H5=>?_;refine Za8 (Za9 ?_);refine r_nc (r_fo0 (r_ld 2 H5 rfl rfl ?_));refine Rb.Zto H5.swap λw4 v S4 H6=>?_
  have H7:Holds w4 (blk b tX (xC win true rb ub (k+1) st)::Rb.RdR rb E (pl (k+1)/8) (pl (k+1))::blk ub tUs (usC un (k+1))::L):=by
   have e:xC win true rb ub (k+1) st=xC win true rb ub k st:=by
    unfold xC;rw[decide_eq_false (show ¬ k+1=7 by omega),decide_eq_false hk7]
   rw[e];have h_:=Holds.ord 3 [2,0,1] H6 rfl;exact h_
  refine Za2 (λy w'=>w4=w'/\y=.bool false) ?_ ?_
  rotate_left
  ·exact r_eql (r_vfE (by decide) (r_ke ⟨rfl,rfl⟩))
  rintro _ _ _ ⟨rfl,rfl⟩;refine r_vf (r_eql (r_vfE (by decide) (r_neq (r_vfN rfl (r_eql (r_vfE hw ?_))))));exact post w4 (S1.trans (S2.trans (S3.trans S4))) (Zdr H7)
theorem Zil {q:Nat}(hk:k<=7) (hs:st<=7) (hq:q<=1000) (H:Holds w (XR b win E true k st::L)) (post:∀ m w',m<=q->k+m<=7->(m=q\/k+m=7)->Same w w'->Holds w' (XR b win E true (k+m) (st+m)::L)->K (nv m) w'):Cl prog 276 #[pt b,nv q] w K:=by
 refine Tz276 ?_;unfold Vz276;refine Zdq (λj y w'=>∃ m,j=q - m/\m<=q/\k+m<=7/\y=nv m/\Same w w'/\Holds w' (XR b win E true (k+m) st::L)) q ⟨0,rfl,Nat.zero_le _,hk,rfl,.refl _,H⟩ ?_;clear H;rintro _ j _ w1 _ ⟨m,rfl,hm,hkm,rfl,S1,H1⟩ hgo;refine Za2 (λy w'=>w1=w'/\y=.bool (decide (m < q/\k+m < 7))) ?_ ?_
 rotate_left
 ·refine r_lss (r_ifD (λh=>?_) λh=>?_)
  ·refine Zf4 H1 (r_not (r_ke ⟨rfl,?_⟩));rw[<-decide_not,decide_eq_decide.2 (show ¬ k+m=7↔m < q/\k+m < 7 by omega)]
  ·exact r_ke ⟨rfl,by rw[decide_eq_false (by omega)]⟩
 rintro _ _ _ ⟨rfl,rfl⟩;refine r_ifD (λh=>?_) λh=>?_
 ·obtain⟨rb,ub,un,H2⟩:=Zda H1;refine r_nc (r_fo0 (r_ld 0 H2 rfl rfl (Zuf (r_vf ?_))));refine Zrq (by omega) H1 λw2 S2 H3=>?_;refine Zal (r_vf (Za0 (by omega) (r_ke (hgo (q - (m+1)) _ _ (by omega) ⟨m+1,rfl,by omega,by omega,rfl,S1.trans S2,H3⟩))))
 ·obtain⟨rb,ub,un,H2⟩:=Zda H1;refine Zca (r_vt (r_nc (r_fo0 (r_ld 0 H2 rfl rfl (Zad (by omega) ?_)))));refine r_nc (r_fo0 (r_st 0 H2 rfl (by simp[xC]) rfl λw2 S2 H3=>?_));exact post m w2 hm hkm (by omega) (S1.trans S2) (Zdr H3)
def tC (bx:Nat) (ans:List UInt8) (td:Bool):List Value:=[pt bx,nv 0,S_ ans,.bool td]
def TR (b win:Nat) (B:List UInt8) (en:Bool) (k st:Nat) (ans:List UInt8) (td:Bool):HProp:=λh=>∃ bx,Sat [blk b tTs (tC bx ans td),XR bx win B en k st] h
variable {ans:List UInt8}{td:Bool}
theorem Zc3 (H:Holds w (TR b win B en k st ans td::L)):∃ bx,Holds w (XR bx win B en k st::blk b tTs (tC bx ans td)::L):=by
 obtain⟨bx,H⟩:=Holds.ex H;exact⟨bx,(Holds.unpack (A:=[_,_]) H).swap⟩
theorem Zcv {bx:Nat}(H:Holds w (XR bx win B en k st::blk b tTs (tC bx ans td)::L)):Holds w (TR b win B en k st ans td::L):=
 Holds.imp (Holds.pack (A:=[_,_]) H.swap) λh hh=>⟨bx,hh⟩
theorem Zs2 {unit:Nat}(H:Holds w L) (h3:24<=unit) (h4:unit<=200) (h5:64<=win) (h6:win<=1048576) (post:∀ b w',Same w w'->Holds w' (TR b win [] false 0 0 [] false::L)->K (.tuple #[pt b,iv 0]) w'):Cl prog 39 #[nv unit,nv win] w K:=by
 refine Tz39 ?_;unfold Vz39;refine Zlu H h3 h4 h5 h6 λbx w1 S1 H1=>?_;refine Za8 (Za9 (r_neq (r_vfN rfl ?_)));refine r_bd (v:=.agg #[pt bx,iv 0]) (by kernel_rfl) ?_;refine r_bd (v:=.agg (tC bx [] false).toArray) (by kernel_rfl) ?_;refine r_new H1 λb w3 S3 H3=>?_;exact post b w3 (S1.trans S3) (Zcv H3.swap)
theorem Zrc (H:Holds w (TR b win [] false 0 0 ans td::L)) (h5:64<=win) (h6:win<=1048576) (post:∀ w',Same w w'->Holds w' (TR b win E false 0 0 ans td::L)->K (nv 14) w'):Cl prog 362 #[pt b,S_ E] w K:=by
 refine Tz362 ?_;unfold Vz362;obtain⟨bx,H1⟩:=Zc3 H;refine Zab (r_vf (r_nc (r_fo0 (r_fo0 (r_ld 1 H1 rfl rfl ?_)))));exact Ziu H1 h5 h6 λw2 S2 H2=>post w2 S2 (Zcv H2)
theorem Zuy (H:Holds w (TR b win E false 0 0 ans td::L)) (post:∀ v w',Same w w'->Holds w' (TR b win E true 0 0 ans td::L)->K v w'):Cl prog 360 #[pt b] w K:=by
 refine Tz360 ?_;unfold Vz360;obtain⟨bx,H1⟩:=Zc3 H;refine Zab (r_vf (r_nc (r_fo0 (r_fo0 (r_ld 1 H1 rfl rfl ?_)))));exact Zl4 H1 λv w2 S2 H2=>post v w2 S2 (Zcv H2)
theorem TDone_spec (H:Holds w (TR b win B en k st ans td::L)) (post:K (.bool (decide (k=7))) w):Cl prog 359 #[pt b] w K:=by
 refine Tz359 ?_;unfold Vz359;obtain⟨bx,H1⟩:=Zc3 H;exact Zca (r_vt (r_nc (r_fo0 (r_fo0 (r_ld 1 H1 rfl rfl (Ze1 H1 post))))))
theorem Zth (H:Holds w (TR b win B en k st ans td::L)) (post:K (iv 0) w):Cl prog 361 #[pt b] w K:=by
 refine Tz361 ?_;unfold Vz361;obtain⟨bx,H1⟩:=Zc3 H;exact Zab (r_vf (r_nc (r_fo0 (r_fo0 (r_ld 1 H1 rfl rfl (Zh5 H1 post))))))
theorem Zjd (H:Holds w (TR b win B en k st ans td::L)) (post:K (nv ans.length) w):Cl prog 368 #[pt b] w K:=by
 refine Tz368 ?_;unfold Vz368;obtain⟨bx,H1⟩:=Zc3 H;exact Zab (r_vf (r_nc (r_fo0 (r_ld 1 H1 rfl rfl (q_len post)))))
theorem Zqu {q:Nat}(H:Holds w (TR b win B en k st ans td::L)) (h1:1<=q) (h2:q<=ans.length) (post:∀ w',Same w w'->Holds w' (TR b win B en k st (ans.drop q) td::L)->K (S_ (ans.take q)) w'):Cl prog 367 #[pt b,nv q] w K:=by
 refine Tz367 ?_;unfold Vz367;obtain⟨bx,H1⟩:=Zc3 H;refine Za2 (λy w'=>w=w'/\y=.bool false) ?_ ?_
 rotate_left
 ·refine Zab (r_vf (r_lss (r_ke ⟨rfl,?_⟩)));rw[decide_eq_false (by omega)]
 rintro _ _ _ ⟨rfl,rfl⟩;refine r_vf (r_nc (r_fo0 (r_ld 1 H1 rfl rfl (q_len (r_min ?_)))));rw[show min ((q:Nat):Int) ((ans.length:Nat):Int)=((q:Nat):Int) by omega];refine r_nc (r_fo0 (r_ld 1 H1 rfl rfl (q_T h2 ?_)));refine r_nc (r_fo0 (r_ld 1 H1 rfl rfl (q_D h2 ?_)));refine r_nc (r_fo0 (r_st 1 H1 rfl (by simp[tC]) rfl λw2 S2 H2=>?_));exact post w2 S2 (Zcv H2)
theorem Zje (H:Holds w (TR b win B en k st ans td::L)) (post:K (.bool (decide (k=7))) w):Cl prog 366 #[pt b] w K:=by
 refine Tz366 ?_;unfold Vz366;obtain⟨bx,H1⟩:=Zc3 H;exact Zab (r_vf (r_nc (r_fo0 (r_fo0 (r_ld 1 H1 rfl rfl (Zf4 H1 post))))))
theorem Zn7 (H:Holds w (TR b win B en k st ans td::L)) (post:∀ w',Same w w'->Holds w' (TR b win B en k st ans td::L)->K (.tuple #[]) w'):Cl prog 370 #[pt b] w K:=by
 refine Tz370 ?_;unfold Vz370;obtain⟨bx,H1⟩:=Zc3 H;refine r_dr H1 λw2 S2 H2=>?_;refine r_nc (r_fo0 (r_ld 1 H2 rfl rfl (r_nc (r_fo0 (r_ld 1 H2 rfl rfl (r_nc (r_fo0 (r_ld 1 H2 rfl rfl ?_))))))));refine Zd5 H2 ?_;refine r_rk (r_ld 1 H2 rfl rfl rfl) (r_rk (r_ld 1 H2 rfl rfl rfl) ?_);refine Zm9 H2 ?_;refine r_rk (r_ld 1 H2 rfl rfl rfl) (q_len (Zad (a:=0) (b:=0) (by decide) ?_));refine r_nc (r_fo0 (r_st 1 H2 rfl (by simp[tC]) rfl λw4 S4 H4=>?_));exact post w4 (S2.trans S4) (Zcv H4)
def TOk (k:Nat) (ans:List UInt8) (td:Bool):Prop:=ans.length<=1/\(td=true->k=7)
theorem Zts (h:TOk k ans td) (H:Holds w (TR b win B en k st ans td::L)) (post:∀ ans' td' w',TOk k ans' td'->Same w w'->Holds w' (TR b win B en k st ans' td'::L)->K (.tuple #[]) w'):Cl prog 369 #[pt b] w K:=by
 refine Tz369 ?_;unfold Vz369;obtain⟨bx,H1⟩:=Zc3 H;refine Za2 (λy w'=>w=w'/\y=.bool (decide (k=7)&&!td)) ?_ ?_
 rotate_left
 ·refine r_nc (r_fo0 (r_fo0 (r_ld 1 H1 rfl rfl ?_)));refine Ze1 H1 ?_
  cases decide (k=7) with
  |false=>exact r_vf (r_ke ⟨rfl,rfl⟩)
  |true=>
   refine r_vt (r_nc (r_fo0 (r_fo0 (r_ld 1 H1 rfl rfl ?_))));refine Zh5 H1 (r_eql (r_vtE rfl ?_));exact r_nc (r_fo0 (r_ld 1 H1 rfl rfl (r_not (r_ke ⟨rfl,rfl⟩))))
 rintro _ _ _ ⟨rfl,rfl⟩
 cases hc:(decide (k=7)&&!td) with
 |false=>exact r_vf (post ans td w h (.refl _) H)
 |true=>
  have hk:k=7:=of_decide_eq_true (Bool.and_eq_true_iff.1 hc).1;refine r_vt (r_nc (r_fo0 (r_st 1 H1 rfl (by simp[tC]) rfl λw2 S2 H2=>?_)));refine r_nc (r_fo0 (r_fo0 (r_ld 1 H2 rfl rfl ?_)));refine Tz371 ?_;unfold Vz371;refine r_lss (r_vtD (by decide) (r_max ?_));refine Zad (a:=48) (b:=0) (by decide) (Zld (n:=48) (by decide) (by decide) ?_);refine q_str H2 48 λw3 S3 H3=>?_;refine r_nc (r_fo0 (r_st 1 H3 rfl (by simp[tC]) rfl λw4 S4 H4=>?_));exact post [48] true w4 ⟨Nat.le_refl _,λ_=>hk⟩ (S2.trans (S3.trans S4)) (Zcv H4)
theorem TStep_spec {q:Nat}(hk:k<=7) (hq:q<=1000) (h:TOk k ans td) (H:Holds w (TR b win E true k k ans td::L)) (post:∀ v k' ans' td' w',k'<=7->TOk k' ans' td'->Same w w'->Holds w' (TR b win E true k' k' ans' td'::L)->K v w'):Cl prog 364 #[pt b,nv q] w K:=by
 refine Tz364 ?_;unfold Vz364;refine Zab (r_vf ?_);refine Zdq (λj y w'=>∃ m,j=q - m/\m<=q/\k+m<=7/\y=nv m/\Same w w'/\Holds w' (TR b win E true (k+m) (k+m) ans td::L)) q ⟨0,rfl,Nat.zero_le _,hk,rfl,.refl _,H⟩ ?_;clear H;rintro _ j _ w1 _ ⟨m,rfl,hm,hkm,rfl,S1,H1⟩ hgo;refine Za2 (λy w'=>w1=w'/\y=.bool (decide (m < q/\k+m < 7))) ?_ ?_
 rotate_left
 ·refine r_lss (r_ifD (λh=>?_) λh=>?_)
  ·refine Zje H1 (r_not (r_ke ⟨rfl,?_⟩));rw[<-decide_not,decide_eq_decide.2 (show ¬ k+m=7↔m < q/\k+m < 7 by omega)]
  ·exact r_ke ⟨rfl,by rw[decide_eq_false (by omega)]⟩
 rintro _ _ _ ⟨rfl,rfl⟩;refine r_ifD (λhc=>?_) λhc=>?_
 ·obtain⟨bx,H2⟩:=Zc3 H1;refine r_nc (r_fo0 (r_fo0 (r_ld 1 H2 rfl rfl (r_sub (by omega) (by omega) ?_))));rw[show (q:Int) - (m:Int)=((q - m:Nat):Int) by omega];refine Zil hkm hkm (by omega) H2 λr w2 hr hkr hfin S2 H3=>?_;refine Zad (by omega) ?_
  have hr0:r≠0:=by omega
  rw[hG_ k] at H3 hkr;have H4:Holds w2 (TR b win E true (k+(m+r)) (k+(m+r)) ans td::L):=Zcv H3;refine Za2 (λy w'=>w2=w'/\∃ c:Bool,y=.bool c) ?_ ?_
  ·rintro _ _ _ ⟨rfl,c,rfl⟩
   cases c with
   |false=>exact r_vf (r_ke (hgo (q - (m+r)) _ _ (by omega) ⟨m+r,rfl,by omega,hkr,rfl,S1.trans S2,H4⟩))
   |true=>
    refine r_vt (r_nc (r_fo0 ?_));refine Zn7 H4 λw3 S3 H5=>?_;exact r_ke (hgo (q - (m+r)) _ _ (by omega) ⟨m+r,rfl,by omega,hkr,rfl,S1.trans (S2.trans S3),H5⟩)
  ·obtain⟨bx2,H6⟩:=Zc3 H4;refine r_nc (r_fo0 (r_fo0 (r_ld 1 H6 rfl rfl ?_)));refine Zd5 H6 (r_geq (r_vfD (by decide) ?_));refine r_nc (r_fo0 (r_fo0 (r_ld 1 H6 rfl rfl ?_)));exact Ze1 H6 (r_ke ⟨rfl,_,rfl⟩)
 ·refine Zts (k:=k+m) ⟨h.1,λe=>by have:=h.2 e;omega⟩ H1 λans' td' w2 h2 S2 H2=>?_;exact post _ (k+m) ans' td' w2 hkm h2 (S1.trans S2) H2
end X14
namespace U38
open Go.M01 Go.M02 W01 W02
variable {w:World}{L:List HProp}{K:KT}{b:Nat}
theorem Zsr {level unit:Int}(h1:1<=level) (h2:level<=9) (h3:24<=unit) (h4:unit<=100000) (post:∀ r:Nat,5<=r->r<=900000->(r:Int)=level*unit - 19->K (.tuple #[nv r,iv 0]) w) :
  Cl prog 50 #[iv level,iv unit] w K:=by
 refine Tz50 ?_;unfold Vz50;refine Za2 (λx w'=>w=w'/\x=.bool false) ?_ ?_
 ·rintro _ _ _ ⟨rfl,rfl⟩;have h5:1*24<=level*unit:=Int.mul_le_mul h1 h3 (by omega) (by omega);have h6:level*unit<=9*100000:=Int.mul_le_mul h2 h4 (by omega) (by omega);refine r_vf ?_;refine r_mul (by omega) (by omega) ?_;refine r_sub (by omega) (by omega) ?_;have:=post (level*unit - 19).toNat (by omega) (by omega) (by omega);rw[show nv (level*unit - 19).toNat=iv (level*unit - 19) by unfold nv iv;congr 1;omega] at this;exact this
 ·repeat (first|refine r_ke ?_|refine r_lss ?_|refine r_gtr ?_|((with_reducible refine r_vfD ?h ?_);(case h=>omega)))
  exact⟨rfl,by rw[decide_eq_false (by omega)]⟩
abbrev tPress:Nat:=109
abbrev tSplit:Nat:=138
abbrev tSum:Nat:=169
abbrev tPack:Nat:=171
abbrev tStream:Nat:=142
theorem Zmv (H:Holds w L) (post:∀ b w',Same w w'->Holds w' (blk b tSum (tabL.map uv++[uv 4294967295])::L)->K (.pointer (some ⟨b,0,none⟩)) w'):Cl prog 69 #[] w K:=by
 refine Tz69 ?_;unfold Vz69;refine Zf9 H λw2 S2 H2=>?_;refine r_bd (v:=.agg (tabL.map uv++[uv 4294967295]).toArray) (by kernel_rfl) ?_;refine r_new H2 λb w3 S3 H3=>?_;exact post b _ (S2.trans S3) H3
theorem Zn3 (H:Holds w L) (post:∀ b w',Same w w'->Holds w' (blk b tPack [.int .u8 0,nv 0]::L)->K (.pointer (some ⟨b,0,none⟩)) w'):Cl prog 70 #[] w K:=by
 refine Tz70 ?_;unfold Vz70;refine r_bd (v:=.agg #[.int .u8 0,nv 0]) (by kernel_rfl) ?_;refine r_new H λb w3 S3 H3=>?_;exact post b _ S3 H3
def SplR0 (b:Nat) (room:Nat):HProp:=λh=>∃ b1 b2,Sat [blk b tSplit [.slice none 0 0,.pointer (some ⟨b1,0,none⟩),nv 0,nv room,.pointer (some ⟨b2,0,none⟩)],blk b1 tSum (tabL.map uv++[uv 4294967295]),blk b2 tPack [.int .u8 0,nv 0]] h
theorem Zqo {r:Nat}(H:Holds w (SplR0 b r::L)):∃ b1 b2,Holds w (blk b tSplit [.slice none 0 0,.pointer (some ⟨b1,0,none⟩),nv 0,nv r,.pointer (some ⟨b2,0,none⟩)]::blk b1 tSum (tabL.map uv++[uv 4294967295])::blk b2 tPack [.int .u8 0,nv 0]::L):=by
 obtain⟨b1,H⟩:=Holds.ex H;obtain⟨b2,H⟩:=Holds.ex H;exact⟨b1,b2,Holds.unpack H⟩
theorem Zmj {r b1 b2:Nat}(H:Holds w (blk b tSplit [.slice none 0 0,.pointer (some ⟨b1,0,none⟩),nv 0,nv r,.pointer (some ⟨b2,0,none⟩)]::blk b1 tSum (tabL.map uv++[uv 4294967295])::blk b2 tPack [.int .u8 0,nv 0]::L)):Holds w (SplR0 b r::L):=
 Holds.imp (Holds.pack (A:=[_,_,_]) H) λh hh=>⟨b1,b2,hh⟩
theorem Zjz {r:Nat}(H:Holds w L) (h1:5<=r) (h2:r<=900000) (post:∀ b w',Same w w'->Holds w' (SplR0 b r::L)->K (.tuple #[.pointer (some ⟨b,0,none⟩),iv 0]) w') :
  Cl prog 52 #[nv r] w K:=by
 refine Tz52 ?_;unfold Vz52;refine Za2 (λx w'=>w=w'/\x=.bool false) ?_ ?_
 ·rintro _ _ _ ⟨rfl,rfl⟩;refine r_vf ?_;refine Zmv H λb1 w1 S1 H1=>?_;refine r_bd (v:=.agg #[.slice none 0 0,.pointer (some ⟨b1,0,none⟩),nv 0]) (by kernel_rfl) ?_;refine Zn3 H1 λb2 w2 S2 H2=>?_;refine r_bd (v:=.agg #[.slice none 0 0,.pointer (some ⟨b1,0,none⟩),nv 0,nv r,.pointer (some ⟨b2,0,none⟩)]) (by kernel_rfl) ?_;refine r_new H2 λb w3 S3 H3=>?_;replace H3:Holds w3 (blk b tSplit [.slice none 0 0,.pointer (some ⟨b1,0,none⟩),nv 0,nv r,.pointer (some ⟨b2,0,none⟩)]::blk b2 tPack [.int .u8 0,nv 0]::blk b1 tSum (tabL.map uv++[uv 4294967295])::L):=H3;exact post b _ ((S1.trans S2).trans S3) (Zmj ((H3.front 2 rfl).swap))
 ·repeat (first|refine r_ke ?_|refine r_lss ?_|refine r_gtr ?_|((with_reducible refine r_vfD ?h ?_);(case h=>omega)))
  exact⟨rfl,by rw[decide_eq_false (by omega)]⟩
def bzh:ByteArray:=⟨#[66,90,104]⟩
def hdB:Nat->List Bool
 |0=>[]
 |i+1=>hdB i++bitsOf (bzh.data.toList.getD i 0).toNat 8
theorem Zn2:∀ i,(hdB i).length=8*i
 |0=>rfl
 |i+1=>by rw[hdB,gD,Zn2 i,Za4];omega
def headB (level:Nat):List Bool:=hdB 3++bitsOf (48+level) 8
theorem headB_len (l:Nat):(headB l).length=32:=by rw[headB,gD,Zn2,Za4]
theorem Zhs {level:Nat}(H:Holds w L) (h1:1<=level) (h2:level<=9) (post:∀ b bw w',Same w w'->Holds w' (blk b tStream [.pointer (some ⟨bw,0,none⟩),.int .u32 0,.bool false]::WrR bw (headB level) 0::L)->K (.tuple #[.pointer (some ⟨b,0,none⟩),iv 0]) w') :
  Cl prog 53 #[nv level] w K:=by
 refine Tz53 ?_;unfold Vz53;refine Za2 (λx w'=>w=w'/\x=.bool false) ?_ ?_
 ·rintro _ _ _ ⟨rfl,rfl⟩;refine r_vf ?_;refine Ze7 H λbw w1 S1 H1=>?_;refine r_bd (v:=.agg #[.pointer (some ⟨bw,0,none⟩),.int .u32 0,.bool false]) (by kernel_rfl) ?_;refine r_new H1 λb w2 S2 H2=>?_;replace H2:Holds w2 (blk b tStream [.pointer (some ⟨bw,0,none⟩),.int .u32 0,.bool false]::WrR bw (hdB 0) 0::L):=H2;refine Zac (λx w'=>∃ i:Nat,i<=3/\x=nv i/\Same w w'/\Holds w' (blk b tStream [.pointer (some ⟨bw,0,none⟩),.int .u32 0,.bool false]::WrR bw (hdB i) 0::L)) (λx _=>3 - (intOf x).toNat) ⟨0,by omega,rfl,S1.trans S2,H2⟩ ?_;clear H H1 H2 S1 S2;rintro _ _ w3 ⟨i,hi,rfl,S,H⟩;have hhl:=Zn2 i
  repeat (refine r_lss ?_)
  refine r_ifD (λh=>?_) λh=>?_
  ·have hsz:bzh.size=3:=rfl;have hby:(bzh.data.toList.getD i 0).toNat < 256:=UInt8.toNat_lt _
   repeat (first|refine Ze6 (s:=bzh) (by omega) ?_|refine r_nc ?_|refine r_fo0 ?_|(refine Zav (by omega) (by omega) ?_)|(refine r_dr H ?_;clear H;intro _ S_ H;replace S:=S.trans S_;clear S_)|refine r_ld 0 H rfl rfl ?_)
   refine Put_spec (n:=8) H.swap (by omega) (by omega) (by omega) (by omega) λw4 S4 H4=>?_
   repeat (first|refine r_ke ?_|(refine Za0 (by omega) ?_))
   refine⟨⟨i+1,by omega,rfl,S.trans S4,H4.swap⟩,?_⟩;simp[nv,intOf];omega
  ·obtain rfl:i=3:=by omega
   repeat (first|refine r_nc ?_|refine r_fo0 ?_|(refine Zav (by omega) (by omega) ?_)|(refine r_add (by omega) (by omega) ?_)|refine r_ld 0 H rfl rfl ?_)
   rw[show (48:Int)+(level:Int)=((48+level:Nat):Int) by omega];refine Put_spec (n:=8) H.swap (by omega) (by omega) (by omega) (by omega) λw4 S4 H4=>?_;exact post b bw _ (S.trans S4) H4.swap
 ·repeat (first|refine r_ke ?_|refine r_lss ?_|refine r_gtr ?_|((with_reducible refine r_vfD ?h ?_);(case h=>omega)))
  exact⟨rfl,by rw[decide_eq_false (by omega)]⟩
theorem Zhg {bw k:Nat}{bs:List Bool}{r:List Value}(H:Holds w (blk b tStream (.pointer (some ⟨bw,0,none⟩)::r)::WrR bw bs k::L))
  (post:∀ w',Same w w'->Holds w' (blk b tStream (.pointer (some ⟨bw,0,none⟩)::r)::WrR bw bs (bs.length/8)::L)->K (.string ⟨((wholeB bs).drop k).toArray⟩) w') :
  Cl prog 54 #[.pointer (some ⟨b,0,none⟩)] w K:=by
 refine Tz54 ?_;unfold Vz54
 repeat (first|refine r_nc ?_|refine r_fo0 ?_|(with_reducible first|refine Zab ?_|refine r_vf ?_)|refine r_ld 0 H rfl rfl ?_)
 refine W01.Take_spec H.swap λw2 S2 H2=>?_;exact post _ S2 H2.swap
def PrR0 (b:Nat) (window room level:Nat) (inp:ByteArray):HProp:=λh=>∃ bs bt bw,Sat [blk b tPress [nv window,.string inp,.bool false,.pointer (some ⟨bs,0,none⟩),.bool false,.slice none 0 0,.pointer none,nv 0,.pointer (some ⟨bt,0,none⟩),.string ⟨(wholeB (headB level)).toArray⟩,.bool false,nv 0],
 SplR0 bs room,blk bt tStream [.pointer (some ⟨bw,0,none⟩),.int .u32 0,.bool false],WrR bw (headB level) 4] h
theorem Zsf {window room level:Nat}{inp:ByteArray}(H:Holds w (PrR0 b window room level inp::L)):∃ bs bt bw,Holds w (blk b tPress [nv window,.string inp,.bool false,.pointer (some ⟨bs,0,none⟩),.bool false,.slice none 0 0,.pointer none,nv 0,.pointer (some ⟨bt,0,none⟩),.string ⟨(wholeB (headB level)).toArray⟩,.bool false,nv 0] ::
 SplR0 bs room::blk bt tStream [.pointer (some ⟨bw,0,none⟩),.int .u32 0,.bool false]::WrR bw (headB level) 4::L):=by
 obtain⟨bs,H⟩:=Holds.ex H;obtain⟨bt,H⟩:=Holds.ex H;obtain⟨bw,H⟩:=Holds.ex H;exact⟨bs,bt,bw,Holds.unpack H⟩
theorem Zq0 {window room level bs bt bw:Nat}{inp:ByteArray}(H:Holds w (blk b tPress [nv window,.string inp,.bool false,.pointer (some ⟨bs,0,none⟩),.bool false,.slice none 0 0,.pointer none,nv 0,.pointer (some ⟨bt,0,none⟩),.string ⟨(wholeB (headB level)).toArray⟩,.bool false,nv 0] ::
 SplR0 bs room::blk bt tStream [.pointer (some ⟨bw,0,none⟩),.int .u32 0,.bool false]::WrR bw (headB level) 4::L)):Holds w (PrR0 b window room level inp::L):=
 Holds.imp (Holds.pack (A:=[_,_,_,_]) H) λh hh=>⟨bs,bt,bw,hh⟩
theorem Zkc {level unit window:Nat}(H:Holds w L) (h1:1<=level) (h2:level<=9) (h3:24<=unit) (h4:unit<=100000) (h5:64<=window) (h6:window<=1048576)
  (post:∀ b w',Same w w'->Holds w' (PrR0 b window (level*unit - 19) level ⟨#[]⟩::L)->K (.tuple #[.pointer (some ⟨b,0,none⟩),iv 0]) w') :
  Cl prog 37 #[nv level,nv unit,nv window] w K:=by
 refine Tz37 ?_;unfold Vz37;refine Zsr (by omega) (by omega) (by omega) (by omega) λr g1 g2 g3=>?_
 have hr:r=level*unit - 19:=by
  have:((level*unit:Nat):Int)=(level:Int)*(unit:Int):=by simp
  omega
 repeat (first|(with_reducible first|refine Za8 ?_|refine Za9 ?_))
 refine Za2 (λx w'=>w=w'/\x=.bool false) ?_ ?_
 ·rintro _ _ _ ⟨rfl,rfl⟩;refine r_vf ?_;refine Zjz H g1 g2 λbs w1 S1 H1=>?_
  repeat (first|(with_reducible first|refine Za8 ?_|refine Za9 ?_))
  refine Zhs H1 h1 h2 λbt bw w2 S2 H2=>?_
  repeat (first|(with_reducible first|refine Za8 ?_|refine Za9 ?_))
  refine Zhg H2 λw3 S3 H3=>?_;rw[headB_len,List.drop_zero] at *;refine r_bd (v:=.agg #[nv window,.string ⟨#[]⟩,.bool false,.pointer (some ⟨bs,0,none⟩),.bool false,.slice none 0 0,.pointer none,nv 0,.pointer (some ⟨bt,0,none⟩),.string ⟨(wholeB (headB level)).toArray⟩,.bool false,nv 0]) (by kernel_rfl) ?_;refine r_new H3 λb w4 S4 H4=>?_;replace H4:Holds w4 (blk b tPress [nv window,.string ⟨#[]⟩,.bool false,.pointer (some ⟨bs,0,none⟩),.bool false,.slice none 0 0,.pointer none,nv 0,.pointer (some ⟨bt,0,none⟩),.string ⟨(wholeB (headB level)).toArray⟩,.bool false,nv 0]::blk bt tStream [.pointer (some ⟨bw,0,none⟩),.int .u32 0,.bool false]::WrR bw (headB level) 4::SplR0 bs r::L):=H4;rw[hr] at H4;exact post b _ (((S1.trans S2).trans S3).trans S4) (Zq0 ((H4.front 3 rfl).swap))
 ·repeat (first|refine r_neq ?_|((with_reducible refine r_vfN ?h ?_);(case h=>omega)))
  refine Tz51 ?_;unfold Vz51
  repeat (first|refine r_ke ?_|refine r_leq ?_|refine r_geq ?_|refine r_not ?_|((with_reducible refine r_vtD ?h ?_);(case h=>omega)))
  exact⟨rfl,by rw[decide_eq_true (by omega)];rfl⟩
end U38
namespace R39
open Go.M01 Go.Mb Go.M02 Go.M03 P20 X14
variable {w:World}{L:List HProp}{K:KT}{b j k win g wt:Nat}
abbrev tPp:Nat:=70
abbrev tXp:Nat:=73
abbrev tTp:Nat:=76
abbrev tJob:Nat:=53
abbrev tStr:Nat:=49
theorem Zr7 {z:P23.Pz}{q:Nat}(H:Holds w (P23.PzR b z::L)) (h1:1<=q) (h2:q<=z.out.length) (post:∀ w',Same w w'->Holds w' (P23.PzR b { z with out:=z.out.drop q }::L)->K (S_ (z.out.take q)) w'):Cl prog 129 #[pt b,nv q] w K:=by
 refine Tz129 ?_;unfold Vz129;obtain⟨sp,bv,tv,wt,wb,L',H1,back⟩:=P23.Zbb H;refine Za2 (λy w'=>w=w'/\y=.bool false) ?_ ?_
 rotate_left
 ·refine Zab (r_vf (r_lss (r_ke ⟨rfl,?_⟩)));rw[decide_eq_false (by omega)]
 rintro _ _ _ ⟨rfl,rfl⟩;refine r_vf (r_nc (r_fo0 (r_ld 0 H1 rfl rfl (q_len (r_min ?_)))));rw[show min ((q:Nat):Int) ((z.out.length:Nat):Int)=((q:Nat):Int) by omega];refine r_nc (r_fo0 (r_ld 0 H1 rfl rfl (q_T h2 ?_)));refine r_nc (r_fo0 (r_ld 0 H1 rfl rfl (q_D h2 ?_)));refine r_nc (r_fo0 (r_st 0 H1 rfl (by simp[P23.cellsPz]) rfl λw2 S2 H2=>?_));exact post w2 S2 (back { z with out:=z.out.drop q } w2 bv rfl (λ_=>rfl) H2)
def MF (k win b:Nat):HProp:=if k=1 then (λh=>∃ z:P23.Pz,(P23.PzOk z 0/\z.en=false/\z.dn=false/\P23.fed z=0)/\P23.PzR b z h) else if k=2 then XR b win [] false 0 0 else TR b win [] false 0 0 [] false
def MB (k win b:Nat):HProp:=if k=1 then (λh=>∃ z:P23.Pz,(P23.PzOk z 0/\z.en=false/\P23.fed z<=14)/\P23.PzR b z h) else if k=2 then XR b win E false 0 0 else TR b win E false 0 0 [] false
def MRX (win wt b:Nat):HProp:=λh=>∃ p,(p<=7/\wt=0)/\XR b win E true p p h
def MRT (win wt b:Nat):HProp:=λh=>∃ p ans td,(p<=7/\TOk p ans td/\wt=ans.length)/\TR b win E true p p ans td h
def MRP (g wt b:Nat):HProp:=λh=>∃ (z:P23.Pz) (g':Nat),(g'<=g/\P23.PzOk z g'/\P23.Ef z/\P23.fed z<=14/\wt=z.out.length)/\P23.PzR b z h
def MR (k win g wt b:Nat):HProp:=if k=1 then MRP g wt b else if k=2 then MRX win wt b else MRT win wt b
def tM (k:Nat):Nat:=if k=1 then tPp else if k=2 then tXp else tTp
def Kd (k:Nat):Prop:=k=1\/k=2\/k=3
def Jb (k j:Nat) (X:Nat->HProp):HProp:=λh=>∃ bm,Sat [blk j tJob [nv k,.iface (tM k) (pt bm)],X bm] h
theorem Zec {X:Nat->HProp}(H:Holds w (Jb k j X::L)):∃ bm,Holds w (X bm::blk j tJob [nv k,.iface (tM k) (pt bm)]::L):=by
 obtain⟨bm,H⟩:=Holds.ex H;exact⟨bm,(Holds.unpack (A:=[_,_]) H).swap⟩
theorem Zax {X:Nat->HProp}{bm:Nat}(H:Holds w (X bm::blk j tJob [nv k,.iface (tM k) (pt bm)]::L)):Holds w (Jb k j X::L):=
 Holds.imp (Holds.pack (A:=[_,_]) H.swap) λh hh=>⟨bm,hh⟩
theorem Zjx (H:Holds w (MRP g wt b::L)):∃ (z:P23.Pz) (g':Nat),g'<=g/\P23.PzOk z g'/\P23.Ef z/\P23.fed z<=14/\wt=z.out.length/\Holds w (P23.PzR b z::L):=by
 obtain⟨z,H⟩:=Holds.ex H;obtain⟨g',H⟩:=Holds.ex H;obtain⟨h,H⟩:=Holds.pure H;exact⟨z,g',h.1,h.2.1,h.2.2.1,h.2.2.2.1,h.2.2.2.2,H⟩
theorem Zg6 (H:Holds w (MRX win wt b::L)):∃ p,p<=7/\wt=0/\Holds w (XR b win E true p p::L):=by
 obtain⟨p,H⟩:=Holds.ex H;obtain⟨h,H⟩:=Holds.pure H;exact⟨p,h.1,h.2,H⟩
theorem Zfy (H:Holds w (MRT win wt b::L)):∃ p ans td,p<=7/\TOk p ans td/\wt=ans.length/\Holds w (TR b win E true p p ans td::L):=by
 obtain⟨p,H⟩:=Holds.ex H;obtain⟨ans,H⟩:=Holds.ex H;obtain⟨td,H⟩:=Holds.ex H;obtain⟨h,H⟩:=Holds.pure H;exact⟨p,ans,td,h.1,h.2.1,h.2.2,H⟩
theorem Zre (hk:Kd k) (H:Holds w (Jb k j (MF k win)::L)) (post:K (.bool false) w):Cl prog 20 #[pt j] w K:=by
 refine Tz20 ?_;unfold Vz20;obtain⟨bm,H0⟩:=Zec H;refine Zca (r_vt (r_nc (r_fo0 (r_ld 1 H0 rfl rfl ?_))));rcases hk with rfl|rfl|rfl
 ·refine r_inv (f:=122) (args:=#[pt bm]) (by kernel_rfl) ?_;obtain⟨z,H1⟩:=Holds.ex H0;obtain⟨h,H1⟩:=Holds.pure H1;refine P23.Done_spec H1 ?_;rw[h.2.2.1];exact post
 ·refine r_inv (f:=271) (args:=#[pt bm]) (by kernel_rfl) ?_;exact Ze1 H0 post
 ·refine r_inv (f:=359) (args:=#[pt bm]) (by kernel_rfl) ?_;exact TDone_spec H0 post
theorem Zq1 (hk:Kd k) (h5:64<=win) (h6:win<=1048576) (H:Holds w (Jb k j (MF k win)::L)) (post:∀ v w',Same w w'->Holds w' (Jb k j (MB k win)::L)->K v w'):Cl prog 8 #[pt j,S_ E] w K:=by
 refine Tz8 ?_;unfold Vz8;refine Za2 (λx w'=>w=w'/\x=.bool false) ?_ ?_
 rotate_left
 ·exact Zab (r_vf (Zre hk H (r_ke ⟨rfl,rfl⟩)))
 rintro _ _ _ ⟨rfl,rfl⟩;obtain⟨bm,H0⟩:=Zec H;refine r_vf (r_nc (r_fo0 (r_ld 1 H0 rfl rfl ?_)));rcases hk with rfl|rfl|rfl
 ·refine r_inv (f:=124) (args:=#[pt bm,S_ E]) (by kernel_rfl) ?_;obtain⟨z,H1⟩:=Holds.ex H0;obtain⟨h,H1⟩:=Holds.pure H1;refine P23.Ztz H1 h.1 (by decide) λn z' w2 hn hz hok S2 H2=>?_;refine post _ w2 S2 (Zax (X:=MB 1 win) (Holds.imp H2 λ_ hh=>⟨z',⟨hok,by rw[hz];exact h.2.1,?_⟩,hh⟩));have hf:=h.2.2.2;rw[hz];unfold P23.fed at hf ⊢;show z.c+(z.inp++E.take n).length<=14;have:(E.take n).length<=14:=Nat.le_trans (List.length_take_le' ..) (by decide);rw[gD];omega
 ·refine r_inv (f:=274) (args:=#[pt bm,S_ E]) (by kernel_rfl) ?_;exact Ziu H0 h5 h6 λw2 S2 H2=>post _ w2 S2 (Zax (X:=MB 2 win) H2)
 ·refine r_inv (f:=362) (args:=#[pt bm,S_ E]) (by kernel_rfl) ?_;exact Zrc H0 h5 h6 λw2 S2 H2=>post _ w2 S2 (Zax (X:=MB 3 win) H2)
theorem Zry (hk:Kd k) (H:Holds w (Jb k j (MB k win)::L)) (post:∀ v wt w',Same w w'->Holds w' (Jb k j (MR k win 0 wt)::L)->K v w'):Cl prog 9 #[pt j] w K:=by
 refine Tz9 ?_;unfold Vz9;obtain⟨bm,H0⟩:=Zec H;refine Zab (r_vf (r_nc (r_fo0 (r_ld 1 H0 rfl rfl ?_))));rcases hk with rfl|rfl|rfl
 ·refine r_inv (f:=123) (args:=#[pt bm]) (by kernel_rfl) ?_;obtain⟨z,H1⟩:=Holds.ex H0;obtain⟨h,H1⟩:=Holds.pure H1;refine P23.End_spec H1 h.1 (λe=>by rw[h.2.1] at e;cases e) λv z' w2 hok hef _ _ _ hk S2 H2=>?_;refine post v _ w2 S2 (Zax (X:=MR 1 win 0 _) (Holds.imp H2 λ_ hh=>⟨z',0,⟨Nat.le_refl _,hok,hef,?_,rfl⟩,hh⟩));rw[hk.2.2.2.1];exact h.2.2
 ·refine r_inv (f:=272) (args:=#[pt bm]) (by kernel_rfl) ?_;exact Zl4 H0 λv w2 S2 H2=>post v 0 w2 S2 (Zax (X:=MR 2 win 0 0) (Holds.imp H2 λ_ hh=>⟨0,⟨by decide,rfl⟩,hh⟩))
 ·refine r_inv (f:=360) (args:=#[pt bm]) (by kernel_rfl) ?_;exact Zuy H0 λv w2 S2 H2=>post v 0 w2 S2 (Zax (X:=MR 3 win 0 0) (Holds.imp H2 λ_ hh=>⟨0,[],false,⟨by decide,⟨by decide,λe=>by cases e⟩,rfl⟩,hh⟩))
theorem Zqq [T12.Bnds] {q:Nat}(hk:Kd k) (hB:T12.BndOk L) (hq:q<=1000) (hg:g<=1000000) (H:Holds w (Jb k j (MR k win g wt)::L)) (post:∀ v wt' w',Same w w'->Holds w' (Jb k j (MR k win (g+q) wt')::L)->K v w'):Cl prog 14 #[pt j,nv q] w K:=by
 refine Tz14 ?_;unfold Vz14;obtain⟨bm,H0⟩:=Zec H;refine Zab (r_vf (r_nc (r_fo0 (r_ld 1 H0 rfl rfl ?_))));rcases hk with rfl|rfl|rfl
 ·refine r_inv (f:=126) (args:=#[pt bm,nv q]) (by kernel_rfl) ?_;obtain⟨z,g',h0,h1,h2,h3,_,H1⟩:=Zjx H0;refine P23.Step_spec H1 h1 h2 hB.up (by omega) (by omega) (by omega) λz' m w2 hm hok hef _ hfd _ _ _ _ _ _ S2 H2=>?_;refine post _ _ w2 S2 (Zax (X:=MR 1 win (g+q) _) (Holds.imp H2 λ_ hh=>⟨z',g'+m,⟨by omega,hok,hef,by rw[hfd];exact h3,rfl⟩,hh⟩))
 ·refine r_inv (f:=276) (args:=#[pt bm,nv q]) (by kernel_rfl) ?_;obtain⟨p,h1,_,H1⟩:=Zg6 H0;refine Zil h1 h1 hq H1 λm w2 _ hm _ S2 H2=>?_;exact post _ 0 w2 S2 (Zax (X:=MR 2 win (g+q) 0) (Holds.imp H2 λ_ hh=>⟨p+m,⟨hm,rfl⟩,hh⟩))
 ·refine r_inv (f:=364) (args:=#[pt bm,nv q]) (by kernel_rfl) ?_;obtain⟨p,ans,td,h1,h2,_,H1⟩:=Zfy H0;refine TStep_spec h1 hq h2 H1 λv p' ans' td' w2 hp' ht' S2 H2=>?_;exact post v _ w2 S2 (Zax (X:=MR 3 win (g+q) ans'.length) (Holds.imp H2 λ_ hh=>⟨p',ans',td',⟨hp',ht',rfl⟩,hh⟩))
theorem Zm1 (hk:Kd k) (H:Holds w (Jb k j (MR k win g wt)::L)) (post:K (.bool false) w):Cl prog 21 #[pt j] w K:=by
 refine Tz21 ?_;unfold Vz21;refine Tz34 ?_;unfold Vz34;obtain⟨bm,H0⟩:=Zec H;refine Zab (r_vf (r_nc (r_fo0 (r_ld 1 H0 rfl rfl ?_))));rcases hk with rfl|rfl|rfl
 ·refine Zz5 (z:=.nilIface) (i:=t70) underlying95 (by kernel_rfl) (by decide +kernel) (λw=>by kernel_rfl) ?_;exact Za8 (Za9 (r_vf (r_neq post)))
 ·refine r_ta (.tuple #[.iface tXp (pt bm),.bool true]) (by kernel_rfl) ?_;refine Za8 (Za9 (r_vt ?_));refine r_inv (f:=273) (args:=#[pt bm]) (by kernel_rfl) ?_;obtain⟨p,_,_,H1⟩:=Zg6 H0;exact Zh5 H1 (r_neq post)
 ·refine r_ta (.tuple #[.iface tTp (pt bm),.bool true]) (by kernel_rfl) ?_;refine Za8 (Za9 (r_vt ?_));refine r_inv (f:=361) (args:=#[pt bm]) (by kernel_rfl) ?_;obtain⟨p,ans,td,_,_,_,H1⟩:=Zfy H0;exact Zth H1 (r_neq post)
theorem Zbr (hk:Kd k) (H:Holds w (Jb k j (MR k win g wt)::L)) (post:wt<=40000->K (nv wt) w):Cl prog 10 #[pt j] w K:=by
 refine Tz10 ?_;unfold Vz10;refine Za2 (λx w'=>w=w'/\x=.bool false) ?_ ?_
 rotate_left
 ·exact Zab (r_vf (Zm1 hk H (r_ke ⟨rfl,rfl⟩)))
 rintro _ _ _ ⟨rfl,rfl⟩;obtain⟨bm,H0⟩:=Zec H;refine r_vf (r_nc (r_fo0 (r_ld 1 H0 rfl rfl ?_)));rcases hk with rfl|rfl|rfl
 ·refine r_inv (f:=130) (args:=#[pt bm]) (by kernel_rfl) ?_;obtain⟨z,_,_,hz,_,_,rfl,H1⟩:=Zjx H0;exact P23.Zku H1 (post hz.ou)
 ·refine r_inv (f:=280) (args:=#[pt bm]) (by kernel_rfl) ?_;obtain⟨p,_,rfl,H1⟩:=Zg6 H0;exact Zd5 H1 (post (by decide))
 ·refine r_inv (f:=368) (args:=#[pt bm]) (by kernel_rfl) ?_;obtain⟨p,ans,td,_,h2,rfl,H1⟩:=Zfy H0;exact Zjd H1 (post (Nat.le_trans h2.1 (by decide)))
theorem Zqi {q:Nat}(hk:Kd k) (h1:1<=q) (h2:q<=wt) (H:Holds w (Jb k j (MR k win g wt)::L)) (post:∀ (t:List UInt8) w',t.length=q->Same w w'->Holds w' (Jb k j (MR k win g (wt - q))::L)->K (S_ t) w'):Cl prog 24 #[pt j,nv q] w K:=by
 refine Tz24 ?_;unfold Vz24;refine Za2 (λx w'=>w=w'/\x=.bool false) ?_ ?_
 rotate_left
 ·exact Zab (r_vf (Zm1 hk H (r_ke ⟨rfl,rfl⟩)))
 rintro _ _ _ ⟨rfl,rfl⟩;obtain⟨bm,H0⟩:=Zec H;refine r_vf (r_nc (r_fo0 (r_ld 1 H0 rfl rfl ?_)));rcases hk with rfl|rfl|rfl
 ·refine r_inv (f:=129) (args:=#[pt bm,nv q]) (by kernel_rfl) ?_;obtain⟨z,g',hg,hz,hef,hfd,rfl,H1⟩:=Zjx H0;refine Zr7 H1 h1 h2 λw2 S2 H2=>?_;refine post _ w2 (by rw[gN];omega) S2 (Zax (X:=MR 1 win g _) (Holds.imp H2 λ_ hh=>⟨{ z with out:=z.out.drop q },g',⟨hg,⟨hz.wi,hz.ip,hz.rm,hz.bl,hz.ln,hz.tn,hz.pd,hz.p0,hz.tt,hz.bi,hz.tk,hz.fe,hz.db,?_,hz.ck,hz.gl,hz.gs⟩,hef,hfd,(gS ..).symm⟩,hh⟩));have:=hz.ou;show (z.out.drop q).length<=40000;rw[gS];omega
 ·obtain⟨p,_,rfl,H1⟩:=Zg6 H0;omega
 ·refine r_inv (f:=367) (args:=#[pt bm,nv q]) (by kernel_rfl) ?_;obtain⟨p,ans,td,hp,ht,rfl,H1⟩:=Zfy H0;refine Zqu H1 h1 h2 λw2 S2 H2=>?_;refine post _ w2 (by rw[gN];omega) S2 (Zax (X:=MR 3 win g _) (Holds.imp H2 λ_ hh=>⟨p,ans.drop q,td,⟨hp,⟨?_,ht.2⟩,(gS ..).symm⟩,hh⟩));have:=ht.1;rw[gS];omega
theorem Zsg {lv unit:Nat}(H:Holds w L) (h1:1<=lv) (h2:lv<=9) (h3:24<=unit) (h4:unit<=200) (h5:64<=win) (h6:win<=1048576)
  (post:∀ b w',Same w w'->Holds w' (MF 1 win b::L)->K (.tuple #[pt b,iv 0]) w'):Cl prog 37 #[nv lv,nv unit,nv win] w K:=by
 refine U38.Zkc H h1 h2 h3 (by omega) h5 h6 λb w1 S1 H1=>?_;obtain⟨bs,bt,bw,H2⟩:=U38.Zsf H1;obtain⟨b1,b2,H3⟩:=U38.Zqo (Holds.front H2 1 rfl);have hm1:1*24<=lv*unit:=Nat.mul_le_mul h1 h3;have hm2:lv*unit<=9*200:=Nat.mul_le_mul h2 h4
 have H4:Holds w1 (R3b.SumR b1 (crcF 4294967295 [])::blk bs tSp (spC (.slice none 0 0) b1 0 (lv*unit - 19) b2)::blk b2 tPk (Fpc (0,0))::(blk b P23.tPr (P23.cellsPz ⟨win,[],false,lv*unit - 19,false,[],none,0,0,U38.headB lv,4,wholeB (U38.headB lv),false,0,0,0,0⟩ bs (.slice none 0 0) (.pointer none) bt)::blk bt P23.tSt (P23.stC bw 0 false)::W01.WrR bw (U38.headB lv) 4::L)):=
  R3b.Zdy (by decide) (by have h_:=Holds.ord 6 [1,0,2,3,4,5] H3 rfl;exact h_)
 have H5:Holds w1 (SpL bs (.slice none 0 0) b1 b2 (lv*unit - 19) [] [] (0,0) (blk b P23.tPr (P23.cellsPz ⟨win,[],false,lv*unit - 19,false,[],none,0,0,U38.headB lv,4,wholeB (U38.headB lv),false,0,0,0,0⟩ bs (.slice none 0 0) (.pointer none) bt)::blk bt P23.tSt (P23.stC bw 0 false)::W01.WrR bw (U38.headB lv) 4::L)):=by
  have h_:=Holds.ord 4 [2,0,1,3] (H4.nilSL bv tB) rfl;exact h_
 have H6:=Zce (kk:=0) (c:=0) (x:=(0,0)) ⟨Nat.zero_le _,Nat.zero_le _,by decide,0,by show 0*_+0<=2*0;omega,by decide⟩ H5;have H7:=H6.nilRO Fsb 3 tSb;have hl8:(U38.headB lv).length=32:=U38.headB_len _
 have hz:P23.PzOk ⟨win,[],false,lv*unit - 19,false,[],none,0,0,U38.headB lv,4,wholeB (U38.headB lv),false,0,0,0,0⟩ 0:=by
  refine⟨h6,Nat.zero_le _,⟨by show 5<=lv*unit - 19;omega,by show lv*unit - 19<=3000;omega⟩,(λx hx=>by cases hx),⟨Nat.zero_le _,λ_=>Nat.zero_le _⟩,(λh=>absurd rfl h),(λx r h=>by cases h),λ_=>rfl,by show 0 < 4294967296;decide,?_,?_,(λh=>by cases h),(λh=>by cases h),?_,Nat.zero_le _,Nat.zero_le _,Nat.zero_le _⟩
  ·show (U38.headB lv).length<=1000+300000*0+0;omega
  ·show 4=(U38.headB lv).length/8;omega
  ·show (wholeB (U38.headB lv)).length<=40000;rw[Zcr];omega
 refine post b w1 S1 (Holds.imp (P23.Zcm (z:=⟨win,[],false,lv*unit - 19,false,[],none,0,0,U38.headB lv,4,wholeB (U38.headB lv),false,0,0,0,0⟩) (sp:=bs) (bv:=.slice none 0 0) (wt:=bt) (wb:=bw) rfl ?_) λ_ hh=>⟨_,⟨hz,rfl,rfl,rfl⟩,hh⟩);have h_:=Holds.ord 5 [2,1,0,3,4] H7 rfl;exact h_
theorem Zuv {lv unit:Nat}(H:Holds w L) (hk:k=1/\1<=lv/\lv<=9\/k=2\/k=3) (h3:24<=unit) (h4:unit<=200) (h5:64<=win) (h6:win<=1048576){lvv:Value}(hl:k=1->lvv=nv lv)
  (post:∀ j w',Same w w'->Holds w' (Jb k j (MF k win)::L)->K (.tuple #[pt j,iv 0]) w'):Cl prog 18 #[nv k,lvv,nv unit,nv win] w K:=by
 refine Tz18 ?_;unfold Vz18
 have fin:∀ bm w',Same w w'->Holds w' (MF k win bm::L)->Bd prog tJob #[(0,nv k),(1,.iface (tM k) (pt bm))] w' λx_5=>New x_5 tJob w' λx_6 w2=>K (.tuple #[x_6,iv 0]) w2:=by
  intro bm w' S' H';refine r_bd (v:=.agg #[nv k,.iface (tM k) (pt bm)]) (by kernel_rfl) ?_;refine r_new H' λb w2 S2 H2=>?_;exact post b _ (S'.trans S2) (Zax (X:=MF k win) H2.swap)
 refine Tz27 ?_;unfold Vz27;rcases hk with⟨rfl,h1,h2⟩|rfl|rfl
 ·obtain rfl:=hl rfl;refine r_eql (r_vtE rfl ?_);refine Zsg H h1 h2 h3 h4 h5 h6 λbm w1 S1 H1=>?_;refine Za8 (Za9 (Za8 (Za9 (r_neq (r_vfN rfl ?_)))));exact fin bm w1 S1 H1
 ·refine r_eql (r_vfE (by decide) (r_eql (r_vtE rfl ?_)));refine Zlu H h3 h4 h5 h6 λbm w1 S1 H1=>?_;refine Za8 (Za9 (Za8 (Za9 (r_neq (r_vfN rfl ?_)))));exact fin bm w1 S1 H1
 ·refine r_eql (r_vfE (by decide) (r_eql (r_vfE (by decide) (r_eql (r_vtE rfl ?_)))));refine Zs2 H h3 h4 h5 h6 λbm w1 S1 H1=>?_;refine Za8 (Za9 (Za8 (Za9 (r_neq (r_vfN rfl ?_)))));exact fin bm w1 S1 H1
variable {st ch cr td n:Nat}
def cellsR (j ch cr td:Nat):List Value:=[pt j,nv ch,nv cr,nv td]
theorem Zki {n:Int}(post:K (.tuple #[.pointer none,iv 7]) w):Cl prog 6 #[.pointer none,iv n] w K:=by
 refine Tz6 ?_;unfold Vz6;exact Zll (r_vt post)
theorem Zrw {n:Int}(H:Holds w L) (kb:¬ (1<=n/\n<=4096)->K (.tuple #[.pointer none,iv 1]) w) (post:1<=n->n<=4096->∀ st w',Same w w'->Holds w' (blk st tStr (cellsR j n.toNat 0 0)::L)->K (.tuple #[pt st,iv 0]) w'):Cl prog 6 #[pt j,iv n] w K:=by
 refine Tz6 ?_;unfold Vz6;refine Zab (r_vf ?_);refine Za2 (λx w'=>w=w'/\x=.bool (decide (¬ (1<=n/\n<=4096)))) ?_ ?_
 rotate_left
 ·refine r_lss (r_ifD (λh=>r_ke ⟨rfl,by rw[decide_eq_true (by omega)]⟩) λh=>r_gtr (r_ke ⟨rfl,?_⟩));rw[decide_eq_decide.2 (show n > 4096↔¬ (1<=n/\n<=4096) by omega)]
 rintro _ _ _ ⟨rfl,rfl⟩;refine r_ifD (λh=>kb h) λh=>?_
 have e:iv n=nv n.toNat:=by
  show Value.int .i64 n=.int .i64 ((n.toNat:Nat):Int)
  congr 1
  omega
 refine r_bd (v:=.agg #[pt j,iv n,iv 0,iv 0]) (by kernel_rfl) ?_;rw[e];exact r_new H λb w2 S2 H2=>post (by omega) (by omega) b w2 S2 H2
abbrev tI1:Nat:=3
theorem least_spec {b x c i:Nat}{ys:List Nat}(H:Holds w L) (hi:L[i]?=some (blk b tI1 (ys.map nv))) (hl:ys.length<=10) (post:K (nv (ys.foldl min x)) w):Cl prog 23 #[nv x,.slice (some ⟨b,0,none⟩) ys.length c] w K:=by
 refine Tz23 ?_;unfold Vz23;refine r_lnl ?_;refine Zag (λm y w'=>∃ p q:Nat,q<=ys.length/\m=nv p/\y=nv q/\ys.foldl min x=(ys.drop q).foldl min p/\w=w') (λ_ y _=>ys.length - (intOf y).toNat) ⟨x,0,by omega,rfl,rfl,rfl,rfl⟩ ?_;rintro _ _ _ _ ⟨p,q,hq,rfl,rfl,he,rfl⟩;refine r_lss (r_ifD (λh=>?_) λh=>?_)
 ·have hlt:q < ys.length:=by omega
  have hy:ys[q]?=some ys[q]:=gA hlt;refine Zpk (by omega) ?_;rw[Nat.mul_one];refine r_ld i H hi (v:=nv ys[q]) (by rw[hV_,hy];rfl) ?_;refine r_min ?_;rw[show min (p:Int) (ys[q]:Int)=((min p ys[q]:Nat):Int) by omega];refine Za0 (by omega) (r_ke ⟨⟨_,q+1,by omega,rfl,rfl,?_,rfl⟩,?_⟩)
  ·rw[he,List.drop_eq_getElem_cons hlt,foldl_cons]
  ·simp only[intOf,gC];omega
 ·obtain rfl:q=ys.length:=by omega
  rw[List.drop_length] at he;rw[he] at post;exact post
theorem Zmn {n:Int}(H:Holds w (blk st tStr (cellsR j ch cr td)::L)) (hc:cr<=1099511627776) (kb:¬ (0<=n/\n<=1099511627776)->K (iv 1) w) (post:0<=n->n<=1099511627776->∀ w',Same w w'->Holds w' (blk st tStr (cellsR j ch (min (cr+n.toNat) 1099511627776) td)::L)->K (iv 0) w'):Cl prog 12 #[pt st,iv n] w K:=by
 refine Tz12 ?_;unfold Vz12;refine Zab (r_vf ?_);refine Za2 (λx w'=>w=w'/\x=.bool (decide (¬ (0<=n/\n<=1099511627776)))) ?_ ?_
 rotate_left
 ·refine r_lss (r_ifD (λh=>r_ke ⟨rfl,by rw[decide_eq_true (by omega)]⟩) λh=>r_gtr (r_ke ⟨rfl,?_⟩));rw[decide_eq_decide.2 (show n > 1099511627776↔¬ (0<=n/\n<=1099511627776) by omega)]
 rintro _ _ _ ⟨rfl,rfl⟩;refine r_ifD (λh=>kb h) λh=>?_
 have e:iv n=nv n.toNat:=by
  show Value.int .i64 n=.int .i64 ((n.toNat:Nat):Int)
  congr 1
  omega
 rw[e];refine r_nc (r_fo0 (r_ld 0 H rfl rfl (Zad (a:=cr) (b:=n.toNat) (by omega) ?_)));refine r_bsK (e:=tI1) [iv 1099511627776] H (by kernel_rfl) λb w2 S2 H2=>?_;refine least_spec (ys:=[1099511627776]) (i:=0) H2 rfl (by show 1<=10;decide) ?_;refine r_nc (r_fo0 (r_st 1 H2 rfl (by simp[cellsR]) rfl λw3 S3 H3=>?_));exact post (by omega) (by omega) w3 (S2.trans S3) H3.drop
theorem Zis (hk:Kd k) (H:Holds w (blk st tStr (cellsR j ch cr td)::Jb k j (MR k win g wt)::L)) (post:∀ w',Same w w'->Holds w' (blk st tStr (cellsR j ch cr td)::Jb k j (MR k win g wt)::L)->K (nv (min (min wt cr) ch)) w'):Cl prog 22 #[pt st] w K:=by
 refine Tz22 ?_;unfold Vz22;refine Zab (r_vf (r_dr H λw1 S1 H1=>⟨?_,?_⟩))
 ·refine r_nc (r_fo0 (r_ld 0 H1 rfl rfl ?_));refine Zbr hk H1.swap λ_=>?_;refine r_nc (r_fo0 (r_ld 0 H1 rfl rfl (r_rk (r_ld 0 H1 rfl rfl rfl) ?_)));refine r_nc (r_fo0 (r_ld 0 H1 rfl rfl (r_rk (r_ld 0 H1 rfl rfl rfl) ?_)));refine r_bsK (e:=tI1) [nv cr,nv ch] H1 (by kernel_rfl) λb w2 S2 H2=>?_;refine r_rk (r_ld 1 H2 rfl rfl rfl) ?_;refine least_spec (ys:=[cr,ch]) (i:=0) H2 rfl (by show 2<=10;decide) ?_;exact post w2 (S1.trans S2) H2.drop
 ·refine r_nc (r_fo0 (r_ld 0 H1 rfl rfl (r_nc (r_fo0 (r_ld 0 H1 rfl rfl (r_nc (r_fo0 (r_ld 0 H1 rfl rfl ?_))))))));refine r_bsK (e:=tI1) [nv cr,nv ch] H1 (by kernel_rfl) λb w2 S2 H2=>?_;refine r_rk (r_ld 1 H2 rfl rfl rfl) ?_;refine Zbr hk (Holds.front H2 2 rfl) λ_=>?_;refine r_rk (r_ld 1 H2 rfl rfl rfl) (r_rk (r_ld 1 H2 rfl rfl rfl) ?_);refine least_spec (ys:=[cr,ch]) (i:=0) H2 rfl (by show 2<=10;decide) ?_;exact post w2 (S1.trans S2) H2.drop
theorem Zml (hk:Kd k) (H:Holds w (blk st tStr (cellsR j ch cr td)::Jb k j (MR k win g wt)::L)) (post:∀ w',Same w w'->Holds w' (blk st tStr (cellsR j ch cr td)::Jb k j (MR k win g wt)::L)->K (.bool (decide (0 < min (min wt cr) ch))) w'):Cl prog 11 #[pt st] w K:=by
 refine Tz11 ?_;unfold Vz11;refine Zis hk H λw1 S1 H1=>r_gtr ?_;rw[show decide (((min (min wt cr) ch:Nat):Int) > 0)=decide (0 < min (min wt cr) ch) from decide_eq_decide.2 ⟨λh=>by omega,λh=>by omega⟩];exact post w1 S1 H1
theorem Zq8 (hk:Kd k) (H:Holds w (blk st tStr (cellsR j ch cr td)::Jb k j (MR k win g wt)::L)) (hn:n=min (min wt cr) ch) (hc:cr<=1099511627776) (hch:ch<=4096) (ht:td<=1000000)
  (post:∀ (t:List UInt8) w',t.length=n->Same w w'->Holds w' (blk st tStr (cellsR j ch (cr - n) (td+n))::Jb k j (MR k win g (wt - n))::L)->K (.tuple #[S_ t,.bool (decide (0 < n))]) w'):Cl prog 13 #[pt st] w K:=by
 refine Tz13 ?_;unfold Vz13;refine Zis hk H λw1 S1 H1=>?_;rw[<-hn];refine r_eql (r_ifE (λh=>?_) λh=>?_)
 ·obtain rfl:n=0:=by omega
  exact post [] w1 rfl S1 H1
 ·rw[decide_eq_true (show 0 < n by omega)] at post;refine r_nc (r_fo0 (r_ld 0 H1 rfl rfl (r_sub (by omega) (by omega) ?_)));rw[show (cr:Int) - (n:Int)=((cr - n:Nat):Int) by omega];refine r_nc (r_fo0 (r_st 0 H1 rfl (by simp[cellsR]) rfl λw2 S2 H2=>?_));refine r_nc (r_fo0 (r_ld 0 H2 rfl rfl (Zad (a:=td) (b:=n) (by omega) ?_)));refine r_nc (r_fo0 (r_st 0 H2 rfl (by simp[cellsR]) rfl λw3 S3 H3=>?_));replace H3:Holds w3 (blk st tStr (cellsR j ch (cr - n) (td+n))::Jb k j (MR k win g wt)::L):=H3;refine r_nc (r_fo0 (r_ld 0 H3 rfl rfl ?_));refine Zqi hk (q:=n) (by omega) (by omega) H3.swap λt w4 ht S4 H4=>?_;exact post t w4 ht (S1.trans (S2.trans (S3.trans S4))) H4.swap
theorem Zko (H:Holds w (blk st tStr (cellsR j ch cr td)::L)) (post:K (nv cr) w):Cl prog 15 #[pt st] w K:=by
 refine Tz15 ?_;unfold Vz15;exact Zab (r_vf (r_nc (r_fo0 (r_ld 0 H rfl rfl post))))
theorem Zii (H:Holds w (blk st tStr (cellsR j ch cr td)::L)) (post:K (nv td) w):Cl prog 16 #[pt st] w K:=by
 refine Tz16 ?_;unfold Vz16;exact Zab (r_vf (r_nc (r_fo0 (r_ld 0 H rfl rfl post))))
end R39
end Go.Proofs.YtieneaffjelhhaaGreat
set_option maxRecDepth 1000000
namespace Go.Proofs.YtieneaffjelhhaaGreat
open Go Go.Vc Go.Proofs.Tryz
attribute [local irreducible] Vc.Nc Vc.Ld Vc.LdA Vc.St Vc.StA Vc.Fo Vc.Iaa Vc.Ias Vc.Ixs Vc.Ixa Vc.Fd Vc.FdA Vc.Bp Vc.Bb Vc.Bn Vc.Up Vc.Ci Vc.Lns Vc.Lnl Vc.Ex Vc.Sst Vc.Ssl Vc.New Vc.Vif Vc.VJoin Vc.VLoop Vc.KE Vc.Dr Vc.Rk Vc.Cl Vc.Cx Vc.Inv Vc.Be Vc.Cv Vc.Cw Vc.Mf Vc.Sl Vc.Lk Vc.Bd Vc.Bs Vc.Ms Vc.Mm Vc.Mu Vc.Me Vc.Es Vc.Rg Vc.Nx Vc.Ta Vc.Ap Vc.Usd Vc.Ust Vc.Cp Vc.Ln Vc.Bc Vc.Bmin Vc.Bmax Vc.Bdel Vc.Bclr Vc.Pk
namespace Jg
open S4r
theorem Ybl {H:Type}{enc:TypeId × Value->H}{P:Program}{w:World}{base:Nat}{spare:Nat->Bool}{held:Bool}{t:TypeId}{fs:Array Field}{fuel:Nat}{cs:List Value}{x:DataW H × List MemPlace}
  (ht:P.underlying t=some (.struct fs)) (h:DataW.trod enc P w base spare held fuel t cs=some x) (i:Nat) (f:Field) (hi:fs[i]?=some f) :
  ∃ y n,DataW.trod enc P w base spare held n f.type ((cs.drop f.offset).take (P.cellsOf f.type))=some y:=by
 obtain⟨xs,n,_,_,hlen,hxl,hf⟩:=DataW.trod_struct ht h;have h1:=hf i f hi
 have hlt:i < xs.length:=by
  rw[hxl];exact (Array.getElem?_eq_some_iff.1 hi).1
 rw[gA hlt] at h1;exact⟨_,_,h1⟩
theorem Ztt {H:Type}{enc:TypeId × Value->H}{P:Program}{w:World}{base:Nat}{spare:Nat->Bool}{held:Bool}{t:TypeId}{fs:Array Field}{fuel:Nat}{cs:List Value}{x:DataW H × List MemPlace}
  (ht:P.underlying t=some (.struct fs)) (h:DataW.trod enc P w base spare held fuel t cs=some x) (i:Nat) (f:Field) (hi:fs[i]?=some f) (o:Nat) (ho:f.offset=o) (hc:P.cellsOf f.type=1) (hl:o < P.cellsOf t) :
  ∃ c y n,cs[o]?=some c/\DataW.trod enc P w base spare held n f.type [c]=some y:=by
 obtain⟨xs,n,_,_,hlen,hxl,hf⟩:=DataW.trod_struct ht h;obtain⟨y,n',h1⟩:=Ybl ht h i f hi;rw[ho,hc] at h1
 have hcl:o < cs.length:=by omega
 refine⟨cs[o],y,n',gA hcl,?_⟩;rw[<-h1]
 congr 1
 rw[List.drop_eq_getElem_cons hcl];rfl
theorem Zqz {α:Type} [Inhabited α] (F:α->List Value) (k:Nat){H:Type}{enc:TypeId × Value->H}{P:Program}{W:World}{tS tE:TypeId}(hu:P.underlying tS=some (.slice tE)) (hk:P.cellsOf tE=k) (hF:∀ x,(F x).length=k)
  (el:∀ {spare:Nat->Bool} {held:Bool} {fuel:Nat} {cs:List Value} {x:DataW H × List MemPlace},DataW.trod enc P W 0 spare held fuel tE cs=some x->∃ a,cs=F a)
  {n0:Nat} {c0:Value} {y:DataW H × List MemPlace} (h0:DataW.trod enc P W 0 (λ_=>true) true n0 tS [c0]=some y) :
  ∃ (a:Option Addr) (xs:List α) (c:Nat),c0=.slice a xs.length c/\xs.length<=c/\InG F k [whole W] a xs:=by
 rcases Deep.open_slice hu h0 with⟨g0,_⟩|⟨a,len,cap,m,n,D,Pl,g0,_,hlc,_,hm,_,hall⟩
 ·simp only[List.cons.injEq,and_true] at g0;refine⟨none,[],0,g0,Nat.le_refl _,?_⟩;intro w' H' i t hi;simp at hi
 ·simp only[List.cons.injEq,and_true] at g0
  have hlm:len<=m:=by rw[hm];split <;> omega
  have each:∀ i,i < m->∃ t:α,∀ j v,(F t)[j]?=some v->W.cell? ((a.add (i*k)).add j)=some v:=by
   intro i hi;obtain⟨cs',hc1,hc2⟩:=hall i hi;obtain⟨t,rfl⟩:=el hc2;rw[hk] at hc1;obtain⟨_,_,hc3⟩:=World.cells?_some hc1;refine⟨t,λj v hj=>?_⟩
   have hj5:j < k:=by have:=(gH.1 hj).1;rw[hF] at this;exact this
   rw[hc3 j hj5,hj]
  obtain⟨f,hf⟩:=Deep.choose_lt each;refine⟨some a,(List.range len).map f,cap,by rw[g0];simp,by simpa using hlc,?_⟩;intro w' H' i t hi;rw[hV_] at hi
  by_cases hil:i < len
  ·rw[List.getElem?_range hil] at hi;simp only[Option.map_some,Option.some.injEq] at hi;subst hi;refine⟨a,rfl,λj v hj=>?_⟩;have h7:=hf i (by omega) j v hj;obtain⟨g,hg,hgs,_⟩:=H';unfold World.cell? at h7 ⊢
   cases hb:W.heap[((a.add (i*k)).add j).block]? with
   |none=>rw[hb] at h7;cases h7
   |some o=>
    rw[hb] at h7;have:=hgs _ _ (hg _ _ hb);rw[show w'.heap[((a.add (i*k)).add j).block]?=some o from this];exact h7
  ·rw[List.getElem?_eq_none (by simpa using hil)] at hi;cases hi
end Jg
end Go.Proofs.YtieneaffjelhhaaGreat
set_option maxRecDepth 1000000
namespace Go.Proofs.YtieneaffjelhhaaGreat
open Go Go.Vc Go.Proofs.Tryz
namespace R39
theorem Ycq {P:Program}{w:World}{ats:Array TypeId}{t:TypeId}{a b c:Nat}{K:Value->Prop}(h:K (nv (min (min a b) c))):Bmin P ats t #[nv a,nv b,nv c] w K:=by
 refine⟨.int .i64 (if (c:Int) < (if (b:Int) < a then (b:Int) else a) then (c:Int) else (if (b:Int) < a then (b:Int) else a)),by simp[nv,Builtin.min_,Builtin.min2,Sem.run_pure,List.foldlM],?_⟩
 have:(if (c:Int) < (if (b:Int) < a then (b:Int) else a) then (c:Int) else (if (b:Int) < a then (b:Int) else a))=((min (min a b) c:Nat):Int):=by split <;> split at*<;> omega
 rw[this];exact h
end R39
attribute [local irreducible] Vc.Nc Vc.Ld Vc.LdA Vc.St Vc.StA Vc.Fo Vc.Iaa Vc.Ias Vc.Ixs Vc.Ixa Vc.Fd Vc.FdA Vc.Bp Vc.Bb Vc.Bn Vc.Up Vc.Ci Vc.Lns Vc.Lnl Vc.Ex Vc.Sst Vc.Ssl Vc.New Vc.Vif Vc.VJoin Vc.VLoop Vc.KE Vc.Dr Vc.Rk Vc.Cl Vc.Cx Vc.Inv Vc.Be Vc.Cv Vc.Cw Vc.Mf Vc.Sl Vc.Lk Vc.Bd Vc.Bs Vc.Ms Vc.Mm Vc.Mu Vc.Me Vc.Es Vc.Rg Vc.Nx Vc.Ta Vc.Ap Vc.Usd Vc.Ust Vc.Cp Vc.Ln Vc.Bc Vc.Bmin Vc.Bmax Vc.Bdel Vc.Bclr Vc.Pk
namespace R39
open P20
variable {w:World}{L:List HProp}{K:KT}{b j:Nat}
abbrev tSe:Nat:=24
abbrev tAc:Nat:=37
theorem i_nat {k:Int}(h:0<=k):iv k=nv k.toNat:=by
 show Value.int .i64 k=.int .i64 ((k.toNat:Nat):Int)
 congr 1
 omega
structure Ac where
 k:Int
 n:Int
instance:Inhabited Ac:=⟨⟨0,0⟩⟩
def cellsAc (a:Ac):List Value:=[iv a.k,iv a.n]
theorem Zuw {k l u n:Int}(H:Holds w L) (kN:∀ w',Same w w'->Holds w' L->K (.pointer none) w') (kJ:∀ kk win j w',Kd kk->64<=win->win<=1048576->Same w w'->Holds w' (Jb kk j (MF kk win)::L)->K (pt j) w') :
  Cl prog 4 #[.agg #[iv k,iv l,iv u,iv n]] w K:=by
 refine Tz4 ?_;unfold Vz4;refine r_new H λs w1 S1 H1=>?_;replace H1:Holds w1 (blk s tSe [iv k,iv l,iv u,iv n]::L):=H1;refine Za2 (λx w'=>w1=w'/\∃ c:Bool,x=.bool c/\(c=false->K38.MayP k l u n/\u<=200)) ?_ ?_
 rotate_left
 ·refine r_fo0 (r_ld 0 H1 rfl rfl (r_fo0 (r_ld 0 H1 rfl rfl (r_fo0 (r_ld 0 H1 rfl rfl (r_fo0 (r_ld 0 H1 rfl rfl ?_)))))));refine K38.Zwf λc hc=>?_
  cases c with
  |false=>exact Zci (r_vt (r_ke ⟨rfl,true,rfl,λe=>by cases e⟩))
  |true=>
   refine Zal (r_vf (r_fo0 (r_ld 0 H1 rfl rfl (r_gtr (r_ke ⟨rfl,_,rfl,λe=>⟨hc rfl,?_⟩⟩)))));have:=of_decide_eq_false e;omega
 rintro _ _ _ ⟨rfl,c,rfl,hc⟩
 cases c with
 |true=>exact r_vt (kN w1 S1 H1.drop)
 |false=>
  obtain⟨⟨hk,⟨h3,_⟩,h5,h6⟩,h4⟩:=hc rfl;refine r_vf (r_fo0 (r_ld 0 H1 rfl rfl (r_fo0 (r_ld 0 H1 rfl rfl (r_fo0 (r_ld 0 H1 rfl rfl (r_fo0 (r_ld 0 H1 rfl rfl ?_))))))));show Cl prog 18 #[iv k,iv l,iv u,iv n] w1 _;rw[i_nat (k:=k) (by omega),i_nat (k:=u) (by omega),i_nat (k:=n) (by omega)];refine Zuv (k:=k.toNat) (lv:=l.toNat) (unit:=u.toNat) (win:=n.toNat) H1.drop (by omega) (by omega) (by omega) (by omega) (by omega) (λe=>i_nat (by omega)) λj w2 S2 H2=>?_;refine Za8 (Za9 ?_);exact kJ k.toNat n.toNat j w2 (by unfold Kd;omega) (by omega) (by omega) (S1.trans S2) H2
theorem Zij {n:Int}(post:K (.bool (decide (1<=n/\n<=4096))) w):Cl prog 7 #[iv n] w K:=by
 refine Tz7 ?_;unfold Vz7;refine r_geq (r_ifD (λh=>r_leq ?_) λh=>?_)
 ·rw[decide_eq_decide.2 (show n<=4096↔1<=n/\n<=4096 by omega)];exact post
 ·rw[decide_eq_false (by omega)] at post;exact post
def Three:Prop:=∀ {w:World}{L:List HProp}{K:KT},Holds w L->(∀ w',Same w w'->Holds w' L->K (.bool true) w')->Cl prog 5 #[] w K
abbrev AcIn:=S4r.InG cellsAc 2
theorem Zhr (h3:Three) (H:Holds w L) (k l u m n:Int) (a:Option Addr) (us:List Ac) (c:Nat) (h1:AcIn L a us/\us.length<=c) (hU:Kw.BndG L) (post:∀ w',Same w w'->Holds w' L->K (.bool true) w') :
  Cl prog 3 #[.agg #[iv k,iv l,iv u,iv m],iv n,.slice a us.length c] w K:=by
 refine Tz3 ?_;unfold Vz3;obtain⟨bl,hbl,hbw⟩:=hU
 letI:T12.Bnds:=⟨bl,hbl⟩
 have hB:T12.BndOk L:=hbw;refine r_new H λs w1 S1 H1=>?_;replace H1:Holds w1 (blk s tSe [iv k,iv l,iv u,iv m]::L):=H1;refine r_ldA 0 H1 [iv k,iv l,iv u,iv m] rfl rfl rfl ?_;refine Zuw H1 (λw2 S2 H2=>?_) λkk win j w2 hk hw1 hw2 S2 H2=>?_
 ·refine r_lnl (r_gtr (r_ifD (λh=>?_) λh=>?_))
  ·exact h3 H2 λw3 S3 H3=>post w3 (S1.trans (S2.trans S3)) H3.drop
  ·refine Zki (Za8 (Za9 (Zll (r_vt (r_eql (r_vtE rfl (Zll (r_vt ?_))))))));exact h3 H2 λw3 S3 H3=>post w3 (S1.trans (S2.trans S3)) H3.drop
 refine r_lnl (r_gtr (r_ifD (λh=>?_) λh=>?_))
 ·exact h3 H2 λw3 S3 H3=>post w3 (S1.trans (S2.trans S3)) H3.drop.drop
 have h40:us.length<=40:=by omega
 replace H2:Holds w2 (Jb kk j (MF kk win)::L):=Holds.dropAt H2 1;refine Zrw H2 (λhb=>?_) λhn1 hn2 st w3 S3 H3=>?_
 ·refine Za8 (Za9 (Zab (r_vf ?_)));refine Zij ?_;rw[decide_eq_false hb];refine Zci (r_vt (r_eql (r_vtE rfl (Zll (r_vt ?_)))));exact h3 H2 λw3 S3 H3=>post w3 (S1.trans (S2.trans S3)) H3.drop
 refine Za8 (Za9 (Zab (r_vf ?_)));refine Zij ?_;rw[decide_eq_true ⟨hn1,hn2⟩];refine Zal (r_vf ?_);obtain⟨ch,hch⟩:∃ ch:Nat,n=ch:=⟨n.toNat,by omega⟩;subst hch;rw[gC] at H3;refine Zq1 hk hw1 hw2 H3.swap λv1 w4 S4 H4=>?_;refine Zry hk H4 λv2 wt w5 S5 H5=>?_;refine r_lnl ?_;have S:=S1.trans (S2.trans (S3.trans (S4.trans S5)))
 refine Znp (λx y z w'=>∃ (i cr td wt g:Nat),x=nv cr/\y=nv td/\z=nv i/\i<=us.length/\cr<=1099511627776/\td<=4096*i/\g<=1000*i/\Same w w'/\Holds w' (blk st tStr (cellsR j ch cr td)::Jb kk j (MR kk win g wt)::L))
  (λ_ _ z _=>us.length - (intOf z).toNat) ⟨0,0,0,wt,0,rfl,rfl,rfl,Nat.zero_le _,Nat.zero_le _,Nat.zero_le _,Nat.zero_le _,S,H5.swap⟩ ?_
 clear H H1 H2 H3 H4 H5 S1 S2 S3 S4 S5 S wt;rintro _ _ _ _ w6 ⟨i,cr,td,wt,g,rfl,rfl,rfl,hi,hcr,htd,hg,S6,H6⟩;refine r_lss (r_ifD (λhlt=>?_) λhlt=>?_)
 rotate_left
 ·refine r_eql (r_vtE rfl ?_);refine Zii H6 (r_eql (r_vtE rfl ?_));exact h3 H6 λw9 S9 H9=>post w9 (S6.trans S9) H9.drop.drop
 have hil:i < us.length:=by omega
 have hx:us[i]?=some us[i]:=gA hil;generalize us[i]=ac at hx;refine S4r.r_ldG (h1.1.up.up) H6 hx rfl hil ?_;refine r_new H6 λy w7 S7 H7=>?_;refine r_stA 0 H7 (vs:=cellsAc ac) rfl (by show 0+2<=_;decide) rfl rfl λw8 S8 H8=>?_
 have H9:Holds w8 (blk st tStr (cellsR j ch cr td)::Jb kk j (MR kk win g wt)::blk y tAc (cellsAc ac)::L):=by
  have h_:=Holds.ord 3 [1,2,0] H8 rfl;exact h_
 refine Zbr hk H9.swap λhw4=>?_;refine Ycq (a:=wt) (b:=cr) (c:=ch) ?_;generalize hwant:min (min wt cr) ch=want;refine Zml hk H9 λw10 S10 H10=>?_;rw[hwant];refine r_gtr ?_;rw[show decide (((want:Nat):Int) > 0)=decide (0 < want) from decide_eq_decide.2 ⟨λh=>by omega,λh=>by omega⟩];refine r_bb ?_;rw[show (if true=true then !(decide (0 < want)==decide (0 < want)) else (decide (0 < want)==decide (0 < want)))=false from by rw[if_pos rfl];cases decide (0 < want) <;> rfl];refine r_vf ?_;have S:=S6.trans (S7.trans (S8.trans S10));clear H6 H7 H8 H9 S6 S7 S8 S10;refine Zmu (λx y' w'=>∃ (cr' td' wt' g':Nat),x=nv cr'/\y'=nv td'/\cr'<=1099511627776/\td'<=4096*(i+1)/\g'<=1000*(i+1)/\Same w w'/\Holds w' (blk st tStr (cellsR j ch cr' td')::Jb kk j (MR kk win g' wt')::L)) ?_ ?_
 ·rintro _ _ _ w11 ⟨cr',td',wt',g',rfl,rfl,hcr',htd',hg',S11,H11⟩;refine Za2 (λx w'=>w11=w'/\x=.bool false) ?_ ?_
  rotate_left
  ·refine Zko H11 (r_neq (r_vfN rfl ?_));exact Zii H11 (r_neq (r_ke ⟨rfl,by rw[bne_self_eq_false]⟩))
  rintro _ _ _ ⟨rfl,rfl⟩;refine r_vf (Za0 (by omega) (r_ke ⟨⟨i+1,cr',td',wt',g',rfl,rfl,rfl,hil,hcr',htd',hg',S11,H11⟩,?_⟩));simp only[nv,intOf,gC];omega
 refine r_fo0 (r_ld 2 H10 rfl rfl (r_eql (r_ifE (λh0=>?_) λh0=>?_)))
 ·refine r_fo0 (r_ld 2 H10 rfl rfl ?_);refine Zmn H10 hcr (λhb=>?_) λhn1 hn2 w11 S11 H11=>?_
  ·refine Za2 (λx w'=>w10=w'/\x=.bool false) ?_ ?_
   rotate_left
   ·refine r_eql (r_fo0 (r_ld 2 H10 rfl rfl (r_geq (r_ifD (λh4=>?_) λh4=>?_))))
    ·refine r_fo0 (r_ld 2 H10 rfl rfl (r_leq (r_bb ?_)));rw[decide_eq_false (show ¬ ac.n<=1099511627776 by omega)];exact r_vf (r_neq (r_vtN (by decide) (r_neq (r_ke ⟨rfl,rfl⟩))))
    ·refine r_bb (r_vf (r_neq (r_vtN (by decide) (r_neq (r_ke ⟨rfl,rfl⟩)))))
   rintro _ _ _ ⟨rfl,rfl⟩;refine r_vf (r_eql (r_vfE (by decide) (r_ke ⟨cr,td,wt,g,rfl,rfl,hcr,by omega,by omega,S,Holds.dropAt H10 2⟩)))
  ·refine Za2 (λx w'=>w11=w'/\x=.bool false) ?_ ?_
   rotate_left
   ·refine r_eql (r_fo0 (r_ld 2 H11 rfl rfl (r_geq (r_vtD hn1 ?_))));refine r_fo0 (r_ld 2 H11 rfl rfl (r_leq (r_bb ?_)));rw[decide_eq_true hn2];exact r_vf (r_neq (r_vfN rfl (r_ke ⟨rfl,rfl⟩)))
   rintro _ _ _ ⟨rfl,rfl⟩;refine r_vf (r_eql (r_vtE rfl (r_fo0 (r_ld 2 H11 rfl rfl ?_))));have e:iv ac.n=nv ac.n.toNat:=i_nat hn1;show Bp .add (nv cr) (iv ac.n) _;rw[e];refine Zad (by omega) (r_min ?_);rw[show min ((cr+ac.n.toNat:Nat):Int) 1099511627776=((min (cr+ac.n.toNat) 1099511627776:Nat):Int) by omega];exact r_ke ⟨min (cr+ac.n.toNat) 1099511627776,td,wt,g,rfl,rfl,Nat.min_le_right _ _,by omega,by omega,S.trans S11,Holds.dropAt H11 2⟩
 refine r_eql (r_ifE (λh5=>?_) λh5=>?_)
 ·refine Zq8 hk H10 hwant.symm hcr (by omega) (by omega) λt w11 ht S11 H11=>?_;refine Za8 (Za9 ?_);refine Za2 (λx w'=>w11=w'/\x=.bool false) ?_ ?_
  rotate_left
  ·refine r_gtr ?_;rw[show decide (((want:Nat):Int) > 0)=decide (0 < want) from decide_eq_decide.2 ⟨λh=>by omega,λh=>by omega⟩];refine r_bb ?_;rw[show (if true=true then !(decide (0 < want)==decide (0 < want)) else (decide (0 < want)==decide (0 < want)))=false from by rw[if_pos rfl];cases decide (0 < want) <;> rfl];refine r_vf (q_len (r_neq (r_vfN (by rw[ht]) ?_)));refine Zbr hk H11.swap λ_=>(r_sub (by omega) (by omega) (r_neq (r_ke ⟨rfl,?_⟩)))
   congr 1
   rw[bne_eq_false_iff_eq];omega
  rintro _ _ _ ⟨rfl,rfl⟩;refine r_vf (r_sub (by omega) (by omega) (Zad (by omega) ?_));rw[show (cr:Int) - (want:Int)=((cr - want:Nat):Int) by omega];exact r_ke ⟨cr - want,td+want,wt - want,g,rfl,rfl,by omega,by omega,by omega,S.trans S11,Holds.dropAt H11 2⟩
 ·refine r_fo0 (r_ld 2 H10 rfl rfl (r_max (r_min ?_)));have e:iv (min (max ac.n 0) 1000)=nv (min (max ac.n 0) 1000).toNat:=i_nat (by omega);show Cl prog 14 #[pt j,iv (min (max ac.n 0) 1000)] w10 _;rw[e];have H11:Holds w10 (Jb kk j (MR kk win g wt)::blk st tStr (cellsR j ch cr td)::L):=(Holds.dropAt H10 2).swap;refine Zqq hk hB.up (by omega) (by omega) H11 λv wt' w11 S11 H12=>?_;exact r_ke ⟨cr,td,wt',g+(min (max ac.n 0) 1000).toNat,rfl,rfl,hcr,by omega,by omega,S.trans S11,H12.swap⟩
theorem setup_open {H:Type}{enc:TypeId × Value->H}{W:World}{base:Nat}{v:Value}{d:DataW H}{ps:List MemPlace}(hval:Value.okWide prog W .any base 24 v)
  (h:DataW.Trod enc prog W 0 (λ_=>true) true 24 v d ps):∃ k l u n:Int,v=.agg #[iv k,iv l,iv u,iv n]/\True:=by
 obtain⟨v0,v1,v2,v3,y0,y1,y2,y3,n,rfl,_,_,h0,h1,h2,h3⟩:=Joins.open_agg4 underlying24 (by kernel_rfl) (by kernel_rfl) hval h;obtain⟨n0,e0,_⟩:=DataW.trod_int underlying22 h0;obtain⟨n1,e1,_⟩:=DataW.trod_int underlying3 h1;obtain⟨n2,e2,_⟩:=DataW.trod_int underlying3 h2;obtain⟨n3,e3,_⟩:=DataW.trod_int underlying3 h3
 have f0:v0=iv n0:=by simpa using e0
 have f1:v1=iv n1:=by simpa using e1
 have f2:v2=iv n2:=by simpa using e2
 have f3:v3=iv n3:=by simpa using e3
 exact⟨n0,n1,n2,n3,by rw[f0,f1,f2,f3],trivial⟩
theorem list2 {α:Type}{l:List α}{a b:α}(hl:l.length=2) (h0:l[0]?=some a) (h1:l[1]?=some b):l=[a,b]:=by
 match l,hl with
 |[x0,x1],_=>simp at h0 h1;simp[h0,h1]
theorem Zwv {H:Type}{enc:TypeId × Value->H}{W:World}{base:Nat}{spare:Nat->Bool}{held:Bool}{fuel:Nat}{cs:List Value}{x:DataW H × List MemPlace}(h:DataW.trod enc prog W base spare held fuel tAc cs=some x):∃ u:Ac,cs=cellsAc u:=by
 have hu:=underlying37;obtain⟨_,_,_,_,hlen,_,_⟩:=DataW.trod_struct hu h;obtain⟨c0,y0,n0,e0,h0⟩:=Jg.Ztt hu h 0 _ rfl 0 rfl (by kernel_rfl) (of_decide_eq_true (by kernel_rfl));obtain⟨c1,y1,n1,e1,h1⟩:=Jg.Ztt hu h 1 _ rfl 1 rfl (by kernel_rfl) (of_decide_eq_true (by kernel_rfl));obtain⟨z0,g0,_⟩:=DataW.trod_int underlying3 h0;obtain⟨z1,g1,_⟩:=DataW.trod_int underlying3 h1;simp only[List.cons.injEq,and_true] at g0 g1;subst g0 g1;exact⟨⟨z0,z1⟩,list2 (hlen.trans (by kernel_rfl)) e0 e1⟩
theorem acts_open {H:Type}{enc:TypeId × Value->H}{W:World}{base:Nat}{v:Value}{d:DataW H}{ps:List MemPlace}(hval:Value.okWide prog W .any base 25 v)
  (h:DataW.Trod enc prog W 0 (λ_=>true) true 25 v d ps):∃ (a:Option Addr) (us:List Ac) (c:Nat),v=.slice a us.length c/\AcIn [whole W] a us/\us.length<=c:=by
 obtain⟨a,l,c,rfl⟩:=WideShapes.okWide_slice underlying25 hval;obtain⟨fuel,hf⟩:=h;obtain⟨a',us,c',g0,hc,hin⟩:=Jg.Zqz cellsAc 2 underlying25 (by kernel_rfl) (λ_=>rfl) (λh=>Zwv h) hf;exact⟨a',us,c',g0,hin,hc⟩
end R39
end Go.Proofs.YtieneaffjelhhaaGreat
