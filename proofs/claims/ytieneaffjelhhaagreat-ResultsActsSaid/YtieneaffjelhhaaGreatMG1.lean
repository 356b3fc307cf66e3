/- Several texts in one: Mz2, Mi, Lp, Mx, Mv, So, Ms, Ex, W6b, W6c, W01, W10, W13, W08, W8c, W12, W8g, Rw, W2f, W09, W9t, W9o, W2r. -/
import Derived.Test.YtieneaffjelhhaaGreatMG0
import Derived.WalkKit
import Derived.Lib.UnsafeStr
import Derived.Lib.Bytealg
import Derived.Lib.MakeNoZero
import Derived.Test.YtieneaffjelhhaaGreatFm
set_option linter.unusedVariables false
set_option linter.unusedSimpArgs false
set_option linter.unusedSectionVars false
open Go.RowKit (intOf)
open List (cons_append eq_nil_of_length_eq_zero eraseIdx_cons_succ eraseIdx_set_eq ext_getElem? getElem?_eq_none getElem?_range getElem?_replicate getElem?_set getElem_mem getElem_of_mem getElem_take length_cons length_nil length_range' length_reverse map_append map_congr_left map_nil mem_cons mem_map mem_of_mem_take mem_range mem_range'_1 mem_singleton pairwise_append pairwise_iff_getElem replicate_succ replicate_zero set_append_right set_getElem_self set_set take_zero)
namespace Go.Mr
open Go.M18
variable {s:List UInt8}{x:SS}{k:Key}{n:Nat}
theorem Zim (x:SS):(joinS x).reach=x.reach:=by
 unfold joinS;split
 ·rfl
 ·split <;> rfl
theorem Zqw (k:Key) (n:Nat) (x:SS):(stepS k n x).reach=x.reach\/((stepS k n x).stack=[⟨0,0,n⟩]/\(stepS k n x).merge.hi=0/\(stepS k n x).ranked=0/\x.reach < n/\(stepS k n x).reach=max 1 (2*x.reach)):=by
 unfold stepS;rw[<-Zim x];generalize joinS x=y;unfold restS;split
 ·exact .inl rfl
 ·split
  ·refine .inl ?_;unfold putS moveS;split
   ·split <;> rfl
   ·split <;> rfl
  ·rename_i h2;split
   ·refine .inl ?_;unfold beginS;split
    ·rfl
    ·split <;> rfl
   ·rename_i h3;have hs:y.stack=[]:=Classical.byContradiction h3;unfold rankS;split
    ·unfold passS;split
     ·exact .inl rfl
     ·rename_i h4;refine .inr ⟨?_,?_,rfl,?_,rfl⟩
      ·show _::y.stack=_;rw[hs]
      ·show y.merge.hi=0;omega
      ·rcases hU_ y.reach n with g|g
       ·exact g
       ·exact absurd (.inr g) h4
    ·exact .inl rfl
def ldS (n:Nat) (x:SS):Nat:=costs x.stack+mCost x+(n - x.ranked)
theorem Zkh (h:Inv s x) (hl:ldS s.length x<=4*(s.length*s.length)+s.length) (hr:x.reach<=2*s.length) (hd:(stepS (keyS s x) s.length x).done=false) :
  ldS s.length (stepS (keyS s x) s.length x)<=4*(s.length*s.length)+s.length/\(stepS (keyS s x) s.length x).reach<=2*s.length:=by
 have h1:=(step_ok h).1;have h2:=h.bs.two;rw[mu_eq h.bs.nd,mu_eq hd] at h1;rcases Zqw (keyS s x) s.length x with e|⟨e1,e2,e3,e4,e5⟩
 ·rw[e] at h1 ⊢;unfold ldS at *;exact⟨by omega,hr⟩
 ·refine⟨?_,by rw[e5];omega⟩;unfold ldS;rw[Zb9 e2,e1,e3]
  have:costs [⟨0,0,s.length⟩]=4*(s.length*s.length):=by
   show cost ⟨0,0,s.length⟩+0=_;unfold cost;rw[if_pos rfl];rfl
  omega
theorem Zse:∀ {st:List Pt}{R:List Nat},WF k n st R->∀ p∈st,p.lo < p.hi/\p.hi<=n
 |[],_,_,p,hp=>by cases hp
 |q::st,R,h,p,hp=>by
  rcases mem_cons.1 hp with rfl|hp
  ·exact h.1
  ·exact Zse h.2.2 p hp
theorem Zkt:∀ {st:List Pt},(∀ p∈st,p.lo < p.hi/\p.hi<=n)->st.length<=costs st
 |[],_=>Nat.le_refl _
 |p::st,h=>by
  have h1:=h p (hJ_ ..);have h2:=Zkt (st:=st) λq hq=>h q (hK_ _ hq)
  have h3:1<=cost p:=by
   unfold cost;split
   ·have:1<=(p.hi - p.lo)*(p.hi - p.lo):=Nat.mul_pos (by omega) (by omega);omega
   ·omega
  show st.length+1<=cost p+costs st;omega
theorem Znz (h:PhC k n x):∀ p∈x.stack,p.lo < p.hi/\p.hi<=n:=by
 rcases h with h|⟨R,h⟩
 ·exact Zse h.wf
 ·exact λp hp=>Zse h.wf p (hK_ _ hp)
theorem Ztx (h:PhC k n x) (hl:ldS n x<=4*(n*n)+n) (hn:n<=4000):x.stack.length<=64004000:=by
 have h1:=Zkt (Znz h);have h2:n*n<=4000*4000:=Nat.mul_le_mul hn hn;unfold ldS at hl;omega
theorem Zqy:ldS n (start n)=4*(n*n)+n:=by
 show cost ⟨0,0,n⟩+0+0+(n - 0)=_;unfold cost;rw[if_pos rfl];show 4*((n - 0)*(n - 0))+0+0+(n - 0)=_;rw[Nat.sub_zero];rfl
end Go.Mr
namespace Go.Mh
def fib:Nat->Nat
 |0=>0
 |1=>1
 |n+2=>fib (n+1)+fib n
theorem Zvd:∀ n,fib n<=fib (n+1)
 |0=>by decide
 |n+1=>by show fib (n+1)<=fib (n+1)+fib n;omega
theorem Zvk {m n:Nat}(h:m<=n):fib m<=fib n:=by
 induction h with
 |refl=>exact Nat.le_refl _
 |step _ ih=>exact Nat.le_trans ih (Zvd _)
theorem Zv9 {s s':HS}{a b x p:Nat}(hg:Good s) (j:Join s s' a b) (h:s'.I[x]?=some (some p)):((x=a\/x=b)/\p=s.W.length)\/(s.I[x]?=some (some p)/\p < s.W.length):=by
 have hl:((s.I.set a (some s.W.length)).set b (some s.W.length)).length=s.W.length:=by rw[hX_,hX_,hg.len]
 rw[j.I] at h
 have hx:x < s.W.length:=by
  rcases hU_ x s.W.length with q|q
  ·exact q
  ·rw[gT (by rw[hl];exact q),hl] at h
   cases hxx:x - s.W.length with
   |zero=>rw[hxx] at h;cases h
   |succ n=>rw[hxx] at h;simp at h
 rw[gM (by rw[hl];exact hx),getElem?_set,getElem?_set] at h
 by_cases h1:b=x
 ·rw[if_pos h1,if_pos (by rw[hX_,hg.len];omega)] at h;cases h;exact .inl ⟨.inr h1.symm,rfl⟩
 ·rw[if_neg h1] at h
  by_cases h2:a=x
  ·rw[if_pos h2,if_pos (by rw[hg.len];omega)] at h;cases h;exact .inl ⟨.inl h2.symm,rfl⟩
  ·rw[if_neg h2] at h
   have hn:x∉s.V:=λe=>by rw[hg.live x e] at h;cases h
   obtain⟨p',h3,h4,h5⟩:=hg.dead x hx hn;rw[h] at h3;cases h3;exact .inr ⟨h,h5⟩
theorem no_up {s:HS}{k y:Nat}(hg:Good s) (hy:y < s.W.length):¬ Up s.I s.W.length k y:=by
 intro h
 cases h with
 |here=>exact Nat.lt_irrefl _ hy
 |up h u=>
  have:=(gH.1 h).1;rw[hg.len] at this;exact Nat.lt_irrefl _ this
theorem Yal {s s':HS}{a b i k x:Nat}(hg:Good s) (j:Join s s' a b) (h:Up s'.I i k x) :
  (x≠s.W.length->x < s.W.length->Up s.I i k x)/\(x=s.W.length->(k=0/\i=s.W.length)\/∃ q,k=q+1/\(Up s.I i q a\/Up s.I i q b)):=by
 have ha:=hg.lt a j.la.1;have hb:=hg.lt b (List.mem_of_mem_erase j.lb.1)
 induction h with
 |here x=>exact⟨λ_ _=>.here x,λe=>.inl ⟨rfl,e⟩⟩
 |up h u ih=>
  rename_i x p k y;obtain⟨i1,i2⟩:=ih;have hc:=Zv9 hg j h
  constructor
  ·intro h1 h2;have u1:=i1 h1 h2;rcases hc with⟨_,rfl⟩|⟨h3,_⟩
   ·exact absurd u1 (no_up hg h2)
   ·exact .up h3 u1
  ·intro h1;right;rcases i2 h1 with⟨rfl,rfl⟩|⟨q,rfl,hq⟩
   ·rcases hc with⟨h3|h3,_⟩|⟨_,h4⟩
    ·exact⟨0,rfl,.inl (h3▸.here _)⟩
    ·exact⟨0,rfl,.inr (h3▸.here _)⟩
    ·exact absurd h4 (Nat.lt_irrefl _)
   ·rcases hc with⟨_,rfl⟩|⟨h3,_⟩
    ·rcases hq with hq|hq
     ·exact absurd hq (no_up hg ha)
     ·exact absurd hq (no_up hg hb)
    ·exact⟨q+1,rfl,hq.imp (Up.up h3) (Up.up h3)⟩
structure Hts (s:HS) (h:Nat->Nat):Prop where
 up:∀ x∈s.V,∀ i k,Up s.I i k x->k<=h x
 wt:∀ x∈s.V,fib (h x+1)<=s.W.getD x 0
 lo:∀ x∈s.V,∀ y∈s.V,1<=h x->fib (h x)<=s.W.getD y 0
theorem hts0 {w:List Nat}(hw:∀ x∈w,1<=x):Hts (h0 w) (λ_=>0):=by
 refine⟨λx hx i k u=>?_,λx hx=>?_,λx _ y _ h=>absurd h (by decide)⟩
 ·cases u with
  |here=>exact Nat.le_refl _
  |up h u=>
   exfalso;unfold h0 at h;simp only[getElem?_replicate] at h
   split at h <;> cases h
 ·have hx:x < w.length:=mem_range.1 hx;show 1<=w.getD x 0;rw[gB,gA hx];exact hw _ (getElem_mem hx)
theorem Zx5 {s s':HS}{a b:Nat}{h:Nat->Nat}(hg:Good s) (j:Join s s' a b) (H:Hts s h):∃ h',Hts s' h':=by
 have ha:=j.la.1;have hb:b∈s.V:=List.mem_of_mem_erase j.lb.1;have hal:=hg.lt a ha;have hbl:=hg.lt b hb;have hne:=Zj2 hg j
 have hV:∀ x,x∈s'.V->x=s.W.length\/(x∈s.V/\x≠s.W.length/\x < s.W.length):=by
  intro x hx;rcases mem_cons.1 (j.V.mem_iff.1 hx) with h1|h1
  ·exact .inl h1
  ·have h2:=List.mem_of_mem_erase (List.mem_of_mem_erase h1);have:=hg.lt x h2;exact .inr ⟨h2,by omega,this⟩
 have hT:s'.W.getD s.W.length 0=s.W.getD a 0+s.W.getD b 0:=by rw[j.W,Zcz]
 have hW:∀ x,x < s.W.length->s'.W.getD x 0=s.W.getD x 0:=λx hx=>by rw[j.W,Zbj hx]
 have ab:s.W.getD a 0<=s.W.getD b 0:=by
  have:=j.la.2 b hb λe=>hne e.symm;unfold lt at this;omega
 have least:∀ y∈s.V,s.W.getD a 0<=s.W.getD y 0:=by
  intro y hy
  by_cases e:y=a
  ·rw[e];exact Nat.le_refl _
  ·have:=j.la.2 y hy e;unfold lt at this;omega
 have least2:∀ y∈s'.V,y≠s.W.length->s.W.getD b 0<=s.W.getD y 0:=by
  intro y hy hyl;rcases mem_cons.1 (j.V.mem_iff.1 hy) with h1|h1
  ·exact absurd h1 hyl
  ·have h2:=((hg.nodup.erase a).mem_erase_iff).1 h1;have:=j.lb.2 y h2.2 h2.1;unfold lt at this;omega
 have wa:=H.wt a ha;have wb:=H.wt b hb
 have lab:∀ x∈s.V,∀ y∈s.V,fib (h x)<=s.W.getD y 0:=by
  intro x hx y hy
  cases e:h x with
  |zero=>exact Nat.zero_le _
  |succ n=>rw[<-e];exact H.lo x hx y hy (by omega)
 have f2:∀ n,fib (n+2)=fib (n+1)+fib n:=λ_=>rfl;have hA:=lab a ha b hb;have hB:=lab b hb a ha;refine⟨λx=>if x=s.W.length then max (h a) (h b)+1 else h x,?_,?_,?_⟩
 ·intro x hx i k u;obtain⟨u1,u2⟩:=Yal hg j u;rcases hV x hx with e|⟨h1,h2,h3⟩
  ·simp only[if_pos e];rcases u2 e with⟨rfl,_⟩|⟨q,rfl,hq|hq⟩
   ·exact Nat.zero_le _
   ·have:=H.up a ha i q hq;omega
   ·have:=H.up b hb i q hq;omega
  ·simp only[if_neg h2];exact H.up x h1 i k (u1 h2 h3)
 ·intro x hx;rcases hV x hx with e|⟨h1,h2,h3⟩
  ·simp only[if_pos e];rw[e,hT];rcases Nat.le_total (h a) (h b) with q|q
   ·rw[Nat.max_eq_right q,f2];omega
   ·rw[Nat.max_eq_left q,f2];omega
  ·simp only[if_neg h2];rw[hW x h3];exact H.wt x h1
 ·intro x hx y hy hx1
  have wy:∀ z,fib (h z+1)<=s.W.getD z 0->(z=a\/z=b)->fib (h z+1)<=s'.W.getD y 0:=by
   intro z hz hzab;rcases hV y hy with e|⟨h1,h2,h3⟩
   ·rw[e,hT]
    rcases hzab with rfl|rfl <;> omega
   ·rw[hW y h3];have:=least2 y hy h2
    rcases hzab with rfl|rfl <;> omega
  rcases hV x hx with e|⟨h1,h2,h3⟩
  ·simp only[if_pos e];rcases Nat.le_total (h a) (h b) with q|q
   ·rw[Nat.max_eq_right q];exact wy b wb (.inr rfl)
   ·rw[Nat.max_eq_left q];exact wy a wa (.inl rfl)
  ·simp only[if_neg h2] at hx1 ⊢;rcases hV y hy with e|⟨h4,h5,h6⟩
   ·rw[e,hT];have:=H.lo x h1 a ha hx1;omega
   ·rw[hW y h6];exact H.lo x h1 y h4 hx1
theorem Ztu {w:List Nat}(hw:∀ x∈w,1<=x){k:Nat}{s:HS}(h:Joins (h0 w) k s):(∃ f,Hts s f)/\Tot s=Tot (h0 w):=by
 induction h with
 |start=>exact⟨⟨_,hts0 hw⟩,rfl⟩
 |next h j ih=>
  obtain⟨⟨f,hf⟩,ht⟩:=ih;have hg:=(Zbz h).1;exact⟨Zx5 hg j hf,(Zp9 hg j).trans ht⟩
theorem Zkm {w out:List Nat}(hw:∀ x∈w,1<=x/\x<=2) (hl:w.length<=258) (h:Depths w out):∀ x∈out,x<=20:=by
 obtain⟨s,r,hj,hr,hlen,hu⟩:=h;obtain⟨⟨f,hf⟩,ht⟩:=Ztu (λx hx=>(hw x hx).1) hj;intro x hx;obtain⟨i,hi,rfl⟩:=getElem_of_mem hx;have h1:=hu i (by omega);rw[gB,gA hi] at h1
 have hrm:r∈s.V:=by rw[hr];exact mem_singleton.2 rfl
 have h2:=hf.up r hrm i _ h1;have h3:=hf.wt r hrm
 have h4:s.W.getD r 0=Tot s:=by unfold Tot;rw[hr];simp
 have h5:=tot0 (m:=2) λx hx=>(hw x hx).2
 have h6:f r+1 < 15:=by
  rcases hU_ (f r+1) 15 with q|q
  ·exact q
  ·have h7:=Zvk q
   have h8:fib 15=610:=by decide
   omega
 have h9:out[i]<=f r:=h2;omega
def halved (w:List Nat):List Nat:=w.map λx=>x/2+1
inductive LensOf:List Nat->List Nat->Prop
 |fit {w out:List Nat} (h:Depths w out) (hl:∀ x∈out,x<=20):LensOf w out
 |more {w l out:List Nat} (h:Depths w l) (hl:¬ ∀ x∈l,x<=20) (r:LensOf (halved w) out):LensOf w out
theorem LensOf.uniq {w o:List Nat}(h:LensOf w o):∀ {o2:List Nat},LensOf w o2->o=o2:=by
 induction h with
 |fit h hl=>
  intro o2 h2
  cases h2 with
  |fit h' hl'=>exact h.uniq h'
  |more h' hl' r=>exact absurd (h.uniq h'▸hl) hl'
 |more h hl r ih=>
  intro o2 h2
  cases h2 with
  |fit h' hl'=>exact absurd (h.uniq h'▸hl') hl
  |more h' hl' r'=>exact ih r'
theorem Zlw:∀ (w:List Nat),(∀ x∈w,1<=x)->(halved w).sum<=w.sum
 |[],_=>Nat.le_refl _
 |x::w,h=>by
  have h1:=Zlw w λy hy=>h y (hK_ _ hy);have h2:=h x (hJ_ ..);show ((x/2+1)::halved w:List Nat).sum<=_;rw[hQ_,hQ_];omega
theorem Zls:∀ (w:List Nat),(∀ x∈w,1<=x)->(¬ ∀ x∈w,x<=2)->(halved w).sum < w.sum
 |[],_,h=>absurd (by simp) h
 |x::w,h,hn=>by
  have h2:=h x (hJ_ ..);have h3:∀ y∈w,1<=y:=λy hy=>h y (hK_ _ hy);show ((x/2+1)::halved w:List Nat).sum < _;rw[hQ_,hQ_]
  by_cases hx:x<=2
  ·have:=Zls w h3 λe=>hn λy hy=>by
    rcases mem_cons.1 hy with rfl|hy
    ·exact hx
    ·exact e y hy
   omega
  ·have:=Zlw w h3;omega
theorem Zuo {w:List Nat}{m:Nat}(hm:1<=m) (h:∀ x∈w,1<=x/\x<=m):∀ x∈halved w,1<=x/\x<=m:=by
 intro x hx;obtain⟨y,hy,rfl⟩:=mem_map.1 hx;have:=h y hy;omega
theorem Zb5 {p:Nat->Prop}(h:∃ n,p n):∃ n,p n/\∀ m,p m->n<=m:=by
 obtain⟨n,hn⟩:=h
 induction n using Nat.strongRecOn with
 |ind n ih=>
  by_cases q:∃ m,m < n/\p m
  ·obtain⟨m,h1,h2⟩:=q;exact ih m h1 h2
  ·exact⟨n,hn,λm hm=>Nat.le_of_not_lt λh=>q ⟨m,h,hm⟩⟩
theorem Zq2 {w out:List Nat}(hw:2<=w.length) (h:Depths w out):∀ x∈out,1<=x:=by
 obtain⟨s,r,hj,hr,hlen,hu⟩:=h;intro x hx;obtain⟨i,hi,rfl⟩:=getElem_of_mem hx;have h1:=hu i (by omega);rw[gB,gA hi] at h1
 have h2:w.length<=r:=by
  obtain⟨k,hk⟩:∃ k,w.length - 1=k+1:=⟨w.length - 2,by omega⟩;rw[hk] at hj
  cases hj with
  |next h j=>
   have h3:=j.V.mem_iff.2 (hJ_ ..);rw[hr] at h3;have h4:=mem_singleton.1 h3;have:=(Zbz h).2.2;omega
 have h3:Up s.I i out[i] r:=h1;generalize out[i]=y at *
 cases h3 with
 |here=>omega
 |up _ _=>omega
end Go.Mh
namespace Go.Proofs.YtieneaffjelhhaaGreat
open Go Go.Vc Go.Proofs.Tryz
open Classical in
theorem Zjr {w:World}{body:(Nat->Value)->Cur 0->Cur 0}(I:Nat->World->Prop) (n0:Nat) (h0:I n0 w)
  (h:∀ jb n w (k:Cur 0),I n w->(∀ m w',m < n->I m w'->k w')->body jb k w):VLoop 0 [] w body:=by
 refine Zu7 (λw'=>∃ n,I n w') (λw'=>if h:∃ n,I n w' then Classical.choose (Mh.Zb5 h) else 0) ⟨n0,h0⟩ ?_;intro jb w1 hx;have e1:=Classical.choose_spec (Mh.Zb5 hx);refine h jb _ w1 _ e1.1 λm w' hm hI=>⟨⟨m,hI⟩,?_⟩;have hx':∃ n,I n w':=⟨m,hI⟩;have e2:=Classical.choose_spec (Mh.Zb5 hx');show dite _ _ _ < dite _ _ _;rw[dif_pos hx,dif_pos hx'];exact Nat.lt_of_le_of_lt (e2.2 m hI) hm
end Go.Proofs.YtieneaffjelhhaaGreat
namespace Go.Mx
open Go.M01 Go.Mb Go.Mz
def bitR (T:Nat->Bool) (i:Nat):List Bool:=(List.range 16).map λk=>T (16*i+k)
def someB (T:Nat->Bool) (i:Nat):Bool:=(List.range 16).any λk=>T (16*i+k)
def whichB (T:Nat->Bool) (j:Nat):List Bool:=(List.range 16).map λi=>decide (i < j)&&someB T i
def rowsB (T:Nat->Bool):Nat->List Bool
 |0=>[]
 |j+1=>rowsB T j++if someB T j then bitR T j else []
def usedB (T:Nat->Bool):List Bool:=whichB T 16++rowsB T 16
theorem Zdv (T:Nat->Bool) (i:Nat):(bitR T i).length=16:=by simp[bitR]
theorem Zby (T:Nat->Bool) (j:Nat):(whichB T j).length=16:=by simp[whichB]
theorem Zk5 (T:Nat->Bool) (i k:Nat) (h:k < 16):(bitR T i).getD k false=T (16*i+k):=by
 rw[gB,bitR,hV_,getElem?_range h];rfl
theorem Zin (T:Nat->Bool) (j i:Nat) (h:i < 16):(whichB T j).getD i false=(decide (i < j)&&someB T i):=by
 rw[gB,whichB,hV_,getElem?_range h];rfl
theorem Zej:∀ {q:List Bool}{i:Nat},i < q.length->(valB q).testBit (q.length - 1 - i)=q.getD i false:=by
 intro q
 induction q with
 |nil=>intro i h;simp at h
 |cons x l ih=>
  intro i h
  have hc:valB (x::l)=2^l.length*x.toNat+valB l:=by
   have key:∀ (l:List Bool) (a:Nat),l.foldl (λa b=>2*a+b.toNat) a=a*2^l.length+valB l:=by
    intro l
    induction l with
    |nil=>intro a;simp[valB]
    |cons y l ih2=>
     intro a
     have e:valB (y::l)=y.toNat*2^l.length+valB l:=by
      have:=ih2 y.toNat;rw[<-this];simp[valB]
     rw[e,List.foldl_cons,ih2,length_cons,Nat.pow_succ,Nat.add_mul,Nat.mul_comm 2 a,Nat.mul_assoc,Nat.mul_comm 2];omega
   have:=key l x.toNat;rw[Nat.mul_comm,<-this];simp[valB]
  rw[hc,Nat.testBit_two_pow_mul_add _ (Zd1 l)];simp only[length_cons] at h ⊢
  cases i with
  |zero=>
   rw[if_neg (by omega),show l.length+1 - 1 - 0 - l.length=0 by omega]
   cases x <;> rfl
  |succ i=>
   rw[if_pos (by omega),show l.length+1 - 1 - (i+1)=l.length - 1 - i by omega,ih (by omega)];rfl
theorem Zt7 {a b:List Bool}{n k:Nat}(ha:a.length=n) (hb:b.length=n) (hk:k < n) (h:∀ i,i < n->b.getD i false=(a.getD i false||decide (i=k))):valB a ||| 2^(n - 1 - k)=valB b:=by
 apply Nat.eq_of_testBit_eq;intro j;rw[Nat.testBit_or,Nat.testBit_two_pow]
 by_cases hj:j < n
 ·have h1:=Zej (q:=a) (i:=n - 1 - j) (by omega);have h2:=Zej (q:=b) (i:=n - 1 - j) (by omega);rw[ha,show n - 1 - (n - 1 - j)=j by omega] at h1;rw[hb,show n - 1 - (n - 1 - j)=j by omega] at h2;rw[h1,h2,h _ (by omega)]
  congr 1
  rw[Bool.eq_iff_iff,decide_eq_true_iff,decide_eq_true_iff];omega
 ·have h1:(valB a).testBit j=false:=Nat.testBit_lt_two_pow (Nat.lt_of_lt_of_le (by have:=Zd1 a;rwa [ha] at this) (Nat.pow_le_pow_right (by decide) (by omega)));have h2:(valB b).testBit j=false:=Nat.testBit_lt_two_pow (Nat.lt_of_lt_of_le (by have:=Zd1 b;rwa [hb] at this) (Nat.pow_le_pow_right (by decide) (by omega)));rw[h1,h2,Bool.false_or,decide_eq_false (by omega)]
theorem Zoj (l:List Bool):bitsOf (valB l) l.length=l:=by
 apply List.ext_getElem (by rw[Za4]);intro i h1 h2;have hg:=Go.M01.bitsOf_get (valB l) l.length i h2;rw[gA h1] at hg;have:=Zej h2;rw[gB,gA h2] at this;rw[Option.some.inj hg,this];rfl
theorem Zg4 {T:Nat->Bool}{i:Nat}:valB (bitR T i)=0↔someB T i=false:=by
 constructor
 ·intro h;unfold someB;rw[List.any_eq_false];intro k hk;have hk:=mem_range.1 hk;have:=Zej (q:=bitR T i) (i:=k) (by rw[Zdv];exact hk);rw[h,Nat.zero_testBit,Zk5 T i k hk] at this;rw[<-this];simp
 ·intro h;unfold someB at h;rw[List.any_eq_false] at h
  have e:bitR T i=List.replicate 16 false:=by
   unfold bitR;rw[List.eq_replicate_iff];refine⟨by simp,λb hb=>?_⟩;obtain⟨k,hk,rfl⟩:=mem_map.1 hb;simpa using h k hk
  rw[e];decide
def upT (s:List UInt8):Nat->Bool:=λb=>decide (UInt8.ofNat b∈s)
theorem Zk7 {s:List UInt8}{c:UInt8}{b:Nat}(hb:b < 256):upT (s++[c]) b=(upT s b||decide (b=c.toNat)):=by
 unfold upT;rw[Bool.eq_iff_iff,decide_eq_true_iff,Bool.or_eq_true,decide_eq_true_iff,decide_eq_true_iff,hT_,mem_singleton]
 have:UInt8.ofNat b=c↔b=c.toNat:=by
  constructor
  ·intro h;rw[<-h,UInt8.toNat_ofNat_of_lt' hb]
  ·rintro rfl;simp
 rw[this]
theorem Zlh {A B:Nat->Bool}(h:∀ x,x < 256->A x=B x):boolsT A=boolsT B:=by
 unfold boolsT;exact map_congr_left λx hx=>h x (mem_range.1 hx)
theorem Ycw {s:List UInt8}{c:UInt8}:valB (bitR (upT s) (c.toNat/16)) ||| 2^(15 - c.toNat%16)=valB (bitR (upT (s++[c])) (c.toNat/16)):=by
 have hc:=c.toNat_lt;refine Zt7 (n:=16) (Zdv _ _) (Zdv _ _) (Nat.mod_lt _ (by decide)) λk hk=>?_;rw[Zk5 _ _ _ hk,Zk5 _ _ _ hk,Zk7 (by omega)]
 congr 1
 rw[Bool.eq_iff_iff,decide_eq_true_iff,decide_eq_true_iff];omega
theorem Zvy {s:List UInt8}{c:UInt8}{i:Nat}(hi:i < 16) (h:i≠c.toNat/16):bitR (upT (s++[c])) i=bitR (upT s) i:=by
 have hc:=c.toNat_lt;unfold bitR;apply map_congr_left;intro k hk;have hk:=mem_range.1 hk;rw[Zk7 (by omega),decide_eq_false (by omega),Bool.or_false]
theorem Zt2 {T:Nat->Bool}{b:Nat}(hb:b < 256):upT (listed T) b=T b:=by
 unfold upT;rw[Bool.eq_iff_iff,decide_eq_true_iff];unfold listed;rw[mem_map]
 constructor
 ·rintro⟨a,ha,hab⟩;obtain⟨h1,h2⟩:=List.mem_filter.1 ha;have h1:=mem_range.1 h1
  have:a=b:=by
   have:=congrArg UInt8.toNat hab
   rwa [UInt8.toNat_ofNat_of_lt' h1,UInt8.toNat_ofNat_of_lt' hb] at this
  rw[<-this];exact h2
 ·intro h;exact⟨b,List.mem_filter.2 ⟨mem_range.2 hb,h⟩,rfl⟩
theorem Ycb {T:Nat->Bool}{i:Nat}(hi:i < 16):bitR (upT (listed T)) i=bitR T i:=by
 unfold bitR;apply map_congr_left;intro k hk;have hk:=mem_range.1 hk;exact Zt2 (by omega)
theorem Zwm {T:Nat->Bool}{j:Nat}(hj:j < 16) (hs:someB T j=true):valB (whichB T j) ||| 2^(15 - j)=valB (whichB T (j+1)):=by
 refine Zt7 (n:=16) (Zby _ _) (Zby _ _) hj λi hi=>?_;rw[Zin _ _ _ hi,Zin _ _ _ hi]
 by_cases h1:i=j
 ·subst h1;rw[hs,decide_eq_true (show i < i+1 by omega),decide_eq_false (Nat.lt_irrefl i)];simp
 ·by_cases h2:i < j
  ·rw[decide_eq_true (show i < j+1 by omega),decide_eq_true h2,decide_eq_false h1,Bool.or_false]
  ·rw[decide_eq_false (show ¬ i < j+1 by omega),decide_eq_false h2,decide_eq_false h1];rfl
theorem Zql {T:Nat->Bool}{j:Nat}(hs:someB T j=false):whichB T (j+1)=whichB T j:=by
 unfold whichB;apply map_congr_left;intro i hi
 by_cases h1:i=j
 ·subst h1;rw[hs,Bool.and_false,Bool.and_false]
 ·congr 1
  rw[Bool.eq_iff_iff,decide_eq_true_iff,decide_eq_true_iff];omega
theorem Zh3 (T:Nat->Bool):∀ j,(rowsB T j).length<=16*j
 |0=>Nat.le_refl _
 |j+1=>by
  have:=Zh3 T j;rw[rowsB,gD];split
  ·rw[Zdv];omega
  ·simp;omega
end Go.Mx
namespace Go.Mv
open Go.M01 Go.Mb Go.Mp Go.M10 Go.Mx
def moves (a b:Nat):List Bool:=(List.replicate (b - a) [true,false]).flatten++(List.replicate (a - b) [true,true]).flatten
def stepsB:Nat->List Nat->List Bool
 |_,[]=>[]
 |a,b::l=>moves a b++[false]++stepsB b l
def lensB (l:List Nat):List Bool:=bitsOf (l.getD 0 0) 5++stepsB (l.getD 0 0) l
def lastB (a:Nat) (l:List Nat):Nat:=l.getLastD a
theorem Zd2:∀ (l:List Nat) (a b:Nat),stepsB a (l++[b])=stepsB a l++(moves (lastB a l) b++[false])
 |[],a,b=>by simp[stepsB,lastB]
 |c::l,a,b=>by
  rw[cons_append,stepsB,stepsB,Zd2 l c b]
  have:lastB a (c::l)=lastB c l:=by
   unfold lastB
   cases l with
   |nil=>rfl
   |cons d l=>simp[List.getLastD]
  rw[this];simp only[gI]
theorem lastB_snoc (a b:Nat) (l:List Nat):lastB a (l++[b])=b:=by simp[lastB]
theorem Zlb (a b:Nat) (ha:a<=20) (hb:b<=20):(moves a b).length<=40:=by
 unfold moves;simp;omega
def pE (x:List Nat × List Nat) (p:Nat):List Nat × List Nat:=(front x.1 (x.1.idxOf p),x.2++[x.1.idxOf p])
def pickE (o l:List Nat):List Nat × List Nat:=l.foldl pE (o,[])
theorem Zfa (o l:List Nat) (p:Nat):pickE o (l++[p])=pE (pickE o l) p:=by simp[pickE]
def onesB (l:List Nat):List Bool:=l.flatMap λat_=>List.replicate at_ true++[false]
theorem Zqv (l:List Nat) (a:Nat):onesB (l++[a])=onesB l++(List.replicate a true++[false]):=by simp[onesB]
def picksB (l:List Nat) (t:Nat):List Bool:=bitsOf t 3++bitsOf l.length 15++onesB (pickE [0,1,2,3,4,5] l).2
theorem Zra {o:List Nat}{i:Nat}(hi:i < o.length) (x:Nat):x∈front o i↔x∈o:=by
 unfold front
 have e:o=o.take i++o.getD i 0::o.drop (i+1):=by
  conv=>lhs;rw[<-hN_ i o]
  rw[List.drop_eq_getElem_cons hi,gB,gA hi];rfl
 conv=>rhs;rw[e]
 simp only[mem_cons,hT_]
 constructor
 ·rintro (h|h|h)
  ·exact .inr (.inl h)
  ·exact .inl h
  ·exact .inr (.inr h)
 ·rintro (h|h|h)
  ·exact .inr (.inl h)
  ·exact .inl h
  ·exact .inr (.inr h)
theorem Znv {o:List Nat}{c:Nat}(h:c∈o):o.idxOf c < o.length:=List.idxOf_lt_length_of_mem h
theorem Zzu {o:List Nat}{c:Nat}(h:c∈o):o.getD (o.idxOf c) 0=c:=by
 rw[gB,gA (Znv h)];simp
theorem Zf3 {o l:List Nat}(h:∀ c∈l,c∈o):(∀ x,x∈(pickE o l).1↔x∈o)/\(pickE o l).1.length=o.length/\(pickE o l).2.length=l.length/\∀ p∈(pickE o l).2,p < o.length:=by
 have key:∀ i,i<=l.length->(∀ x,x∈(pickE o (l.take i)).1↔x∈o)/\(pickE o (l.take i)).1.length=o.length/\(pickE o (l.take i)).2.length=i/\∀ p∈(pickE o (l.take i)).2,p < o.length:=by
  intro i
  induction i with
  |zero=>intro _;exact⟨λx=>Iff.rfl,rfl,rfl,λp hp=>by simp[pickE] at hp⟩
  |succ i ih=>
   intro hi;obtain⟨h1,h2,h3,h4⟩:=ih (by omega)
   have hg:l.take (i+1)=l.take i++[l[i]]:=by rw[gO,gA (by omega)];rfl
   have hm:l[i]∈(pickE o (l.take i)).1:=(h1 _).2 (h _ (getElem_mem _));have hlt:=Znv hm;rw[hg,Zfa];unfold pE;refine⟨λx=>by rw[Zra hlt];exact h1 x,by rw[Zu4 hlt];exact h2,by rw[gD,h3];rfl,λp hp=>?_⟩;rcases hT_.1 hp with hp|hp
   ·exact h4 p hp
   ·rw[mem_singleton.1 hp];omega
 have:=key l.length (Nat.le_refl _)
 rwa [hF_] at this
theorem Zgu:∀ {l:List Nat}{m:Nat},(∀ p∈l,p < m)->(onesB l).length<=m*l.length
 |[],m,h=>by simp[onesB]
 |a::l,m,h=>by
  have h1:=Zgu (l:=l) (m:=m) λp hp=>h p (hK_ _ hp);have h2:=h a (hJ_ ..);unfold onesB at h1 ⊢;rw[List.flatMap_cons,gD,gD,gP,gQ,length_cons,Nat.mul_add];omega
theorem Zub (a:Nat):bitsOf (2^(a+1) - 2) (a+1)=List.replicate a true++[false]:=by
 apply List.ext_getElem (by rw[Za4];simp);intro i h1 h2;rw[Za4] at h1;have hg:=Go.M01.bitsOf_get (2^(a+1) - 2) (a+1) i h1;rw[gA (by rw[Za4];exact h1)] at hg;rw[Option.some.inj hg]
 have e:2^(a+1) - 2=2*(2^a - 1):=by rw[Nat.pow_succ];omega
 rw[e]
 by_cases hi:i < a
 ·rw[List.getElem_append_left (by simpa using hi),List.getElem_replicate];rw[show a+1 - 1 - i=(a - 1 - i)+1 by omega,Nat.testBit_succ,Nat.mul_div_cancel_left _ (by decide),Nat.testBit_two_pow_sub_one];simp;omega
 ·have:i=a:=by omega
  subst this;rw[show i+1 - 1 - i=0 by omega,Nat.testBit_zero,Nat.mul_mod_right];simp
end Go.Mv
namespace Go.Vc
section
variable {α:Type}{P:Program}{w:World}{L:List HProp}
theorem r_apO {t e:TypeId}{z:Value} [hr:Row P t e z] (H:Holds w L) (i j:Nat){f:α->Value}{oa:Option Addr}{xs ys:List α}{sp:List Value}{l c m c' b2 o2:Nat}{cs:List Value}{ty:TypeId}{K:KT}
  (hi:L[i]?=some (slb f e oa xs sp)) (hj:L[j]?=some (blk b2 e cs)) (hcs:(cs.drop o2).take m=ys.map f) (hm:m=ys.length) (hl:l=xs.length) (hc:c=xs.length+sp.length) (hs:∀ y,sg (f y)=true)
  (hn:xs.length+ys.length<=1099511627776) (hne:0 < ys.length)
  (h:∀ oa' sp' w',Same w w'->Holds w' (L.set i (slb f e oa' (xs++ys) sp'))->K (.slice oa' (xs.length+ys.length) (xs.length+ys.length+sp'.length)) w') :
  Ap P #[t,t] ty #[.slice oa l c,.slice (some ⟨b2,o2,none⟩) m c'] w K:=by
 subst hl hc hm;obtain⟨inf,hinf,hsz,hby,hzz⟩:=hr.inf
 have hnews:∀ k u,(ys.map f)[k]?=some u->w.cell? ((⟨b2,o2,none⟩:Addr).add k)=some u:=by
  intro k u hu
  have e1:(⟨b2,o2,none⟩:Addr).add k=⟨b2,o2+k,none⟩:=by
   unfold Addr.add;split
   ·rename_i h;rw[h];rfl
   ·rfl
  rw[e1,H.cell j hj (o2+k)]
  have hk:k < ys.length:=by have:=(gH.1 hu).1;simpa using this
  rw[<-hu,<-hcs,hI_ hk,hH_]
 have hmul:(xs.length+ys.length)*inf.bytes<=140737488355328:=
  Nat.le_trans (Nat.mul_le_mul_left _ hby) (by omega)
 have grow:∀ (b:Addr) (olds:List Value),olds=xs.map f->(∀ k v,olds[k]?=some v->w.cell? (b.add k)=some v)->sp.length < ys.length->
   (∃ o,L[i]?=some o)->Ap P #[t,t] ty #[.slice (some b) xs.length (xs.length+sp.length),.slice (some ⟨b2,o2,none⟩) ys.length c'] w K:=by
  intro b olds ho hold hg _;subst ho
  have hrun:=run_append_grow (P:=P) w t ty e inf z hr.und hinf hzz b xs.length (xs.length+sp.length) (xs.map f) (by simp[hsz]) hold
   ⟨b2,o2,none⟩ ys.length c' (ys.map f) (by simp[hsz]) hnews (by omega) (by omega) (growslice_fits (by omega) hmul)
  refine⟨_,_,hrun,?_⟩;have hcap:=grownCap_ge w (xs.length+ys.length) (xs.length+sp.length) e;generalize grownCap w (xs.length+ys.length) (xs.length+sp.length) e=cap at hcap ⊢
  have hz2:Builtin.zeroCells z.cells (cap - (xs.length+ys.length))=(List.replicate (cap - (xs.length+ys.length)) z).toArray:=by
   rw[hr.one];apply Array.ext
   ·simp[Builtin.zeroCells]
   ·intro j h1 h2;simp[Builtin.zeroCells,Nat.mod_one]
  have hcells:((xs.map f).toArray++(ys.map f).toArray++Builtin.zeroCells z.cells (cap - (xs.length+ys.length)))=((xs++ys).map f++List.replicate (cap - (xs.length+ys.length)) z).toArray:=by
   rw[hz2];simp
  rw[hcells];have H1:Holds w.drew L:=H.same rfl;have H2:=H1.alloc (.cells ((xs++ys).map f++List.replicate (cap - (xs.length+ys.length)) z).toArray e)
  have H3:Holds (w.drew.alloc (.cells ((xs++ys).map f++List.replicate (cap - (xs.length+ys.length)) z).toArray e)) (L.set i (slb f e (some ⟨w.heap.size,0,none⟩) (xs++ys) (List.replicate (cap - (xs.length+ys.length)) z))):=by
   have H4:=(Holds.imp H2 (Q:=slb f e (some ⟨w.heap.size,0,none⟩) (xs++ys) (List.replicate (cap - (xs.length+ys.length)) z)) λg hg=>⟨rfl,rfl,hg⟩);have H5:=H4.dropAt (i+1);rw[eraseIdx_cons_succ] at H5;exact Sat.push i hi H5
  have:=h (some ⟨w.heap.size,0,none⟩) (List.replicate (cap - (xs.length+ys.length)) z) _ ((Same.drew w).trans (.alloc _ _)) H3
  have hc2:xs.length+ys.length+(List.replicate (cap - (xs.length+ys.length)) z).length=cap:=by simp;omega
  rw[hc2] at this;exact this
 cases oa with
 |none=>
  obtain⟨g,⟨h2,h3⟩,_⟩:=H.front i hi;subst h2;subst h3;simp only[length_nil,Nat.zero_add,hO_] at hn hmul h ⊢;have hrun:=run_append_nil (P:=P) w t ty e inf z hr.und hinf hzz ⟨b2,o2,none⟩ ys.length c' (ys.map f) (by simp[hsz]) hnews (by omega) (by omega) (by omega);refine⟨_,_,hrun,?_⟩;have hcap:=grownCap_ge w ys.length 0 e;generalize grownCap w ys.length 0 e=cap at hcap ⊢
  have hz2:Builtin.zeroCells z.cells (cap - ys.length)=(List.replicate (cap - ys.length) z).toArray:=by
   rw[hr.one];apply Array.ext
   ·simp[Builtin.zeroCells]
   ·intro j h1 h2;simp[Builtin.zeroCells,Nat.mod_one]
  have hcells:((ys.map f).toArray++Builtin.zeroCells z.cells (cap - ys.length))=(ys.map f++List.replicate (cap - ys.length) z).toArray:=by
   rw[hz2];simp
  rw[hcells];have H2:=(H.same (w':=w.drew) rfl).alloc (.cells (ys.map f++List.replicate (cap - ys.length) z).toArray e);have H4:=(Holds.imp H2 (Q:=slb f e (some ⟨w.heap.size,0,none⟩) ys (List.replicate (cap - ys.length) z)) λg hg=>⟨rfl,rfl,hg⟩);have H5:=H4.dropAt (i+1);rw[eraseIdx_cons_succ] at H5;have:=h (some ⟨w.heap.size,0,none⟩) (List.replicate (cap - ys.length) z) _ ((Same.drew w).trans (.alloc _ _)) (Sat.push i hi H5)
  have hc2:ys.length+(List.replicate (cap - ys.length) z).length=cap:=by simp;omega
  rw[hc2] at this;exact this
 |some a=>
  obtain⟨g,⟨h2,h3,_⟩,_⟩:=H.front i hi;obtain⟨b,o,s⟩:=a;simp only at h2 h3;subst h2;subst h3;have Hb:=H.slb i hi;have hgi:(L.set i (blk b e (xs.map f++sp)))[i]?=some (blk b e (xs.map f++sp)):=Za1 hi
  have hold:∀ k v,(xs.map f)[k]?=some v->w.cell? ((⟨b,0,none⟩:Addr).add k)=some v:=by
   intro k v hv
   have e1:(⟨b,0,none⟩:Addr).add k=⟨b,k,none⟩:=by
    unfold Addr.add;split
    ·rename_i h;rw[h]
    ·simp
   rw[e1,Hb.cell i hgi k,gM (by simpa using (gH.1 hv).1)];exact hv
  rcases hU_ sp.length ys.length with hg|hg
  ·exact grow ⟨b,0,none⟩ _ rfl hold hg ⟨_,hi⟩
  ·have hobj:=Hb.obj i hgi
   have hrun:=run_append_room (P:=P) w t ty e inf hr.und hinf b xs.length (xs.length+sp.length) (xs.map f++sp).toArray hobj
    ⟨b2,o2,none⟩ ys.length c' (ys.map f) (by simp[hsz]) hnews (by simpa using λy _=>Zib (hs y)) (by omega) (by simp[hsz];omega)
   refine⟨_,_,hrun,?_⟩
   have hcells:(((xs.map f++sp).toArray.toList.take (xs.length*inf.size)++ys.map f++(xs.map f++sp).toArray.toList.drop (xs.length*inf.size+(ys.map f).length)).toArray)=((xs++ys).map f++sp.drop ys.length).toArray:=by
    rw[hsz];simp[List.take_append,List.drop_append]
   rw[hcells]
   have H3:Holds (w.setRow b ((xs++ys).map f++sp.drop ys.length).toArray) (L.set i (slb f e (some ⟨b,0,none⟩) (xs++ys) (sp.drop ys.length))):=by
    have:=Hb.upd (w':=w.setRow b ((xs++ys).map f++sp.drop ys.length).toArray) i hgi (o':=.cells ((xs++ys).map f++sp.drop ys.length).toArray e) (setRow_heap w b _ _ e _ hobj) λc hc=>setRow_other w b c _ hc;have h4:=Holds.slb' (f:=f) (e:=e) (b:=b) (xs:=xs++ys) (sp:=sp.drop ys.length) this i (by rw[set_set];exact Za1 hi);simpa [set_set] using h4
   have hlen:xs.length+sp.length=xs.length+ys.length+(sp.drop ys.length).length:=by simp;omega
   rw[hlen];exact h _ _ _ ⟨rfl,rfl,rfl,by simp⟩ H3
end
end Go.Vc
namespace Go.Ms
open Go.Mh
theorem sw {α:Type}{P Q R:List α}{x y:α}{p q:Nat}(hp:P.length=p) (hq:p+1+Q.length=q) :
  (P++x::(Q++y::R))[p]?=some x/\(P++x::(Q++y::R))[q]?=some y/\((P++x::(Q++y::R)).set p y).set q x=P++y::(Q++x::R)/\
   p < (P++x::(Q++y::R)).length/\q < ((P++x::(Q++y::R)).set p y).length:=by
 subst hp;subst hq
 have e:P.length+1+Q.length - P.length=(Q.length+1):=by omega
 refine⟨?_,?_,?_,?_,?_⟩
 ·rw[gT (Nat.le_refl _),Nat.sub_self];rfl
 ·rw[gT (by omega),e,gF,gT (Nat.le_refl _),Nat.sub_self];rfl
 ·rw[set_append_right _ _ (Nat.le_refl _),Nat.sub_self,gJ,set_append_right _ _ (by omega),e,gW,set_append_right _ _ (Nat.le_refl _),Nat.sub_self,gJ]
 ·simp
 ·simp;omega
theorem Zh2 {α:Type}{U:List α}{i:Nat}(h:i < U.length):U.drop i=U[i]::U.drop (i+1):=List.drop_eq_getElem_cons h
theorem Zgj {α:Type}{U:List α}{i:Nat}(h:i < U.length):U.take (i+1)=U.take i++[U[i]]:=by
 rw[gO,gA h];rfl
theorem Zoy {α:Type}{A B:List α}{x:α}{i:Nat}(h:A.length=i):(A++x::B)[i]?=some x:=by
 subst h;rw[gT (Nat.le_refl _),Nat.sub_self];rfl
theorem Zpf {α:Type}{A X B:List α}{a c:Nat}(ha:A.length=a) (h:c < X.length):(A++(X++B))[a+c]?=some X[c]:=by
 subst ha;rw[gT (by omega),show A.length+c - A.length=c by omega,gM h,gA h]
theorem Zzg {α:Type}{D:List α}{i:Nat}(h:i<=D.length):∃ A B,D=A++B/\A.length=i/\B.length=D.length - i:=⟨D.take i,D.drop i,(hN_ _ _).symm,by rw[gN];omega,by rw[gS]⟩
def Srt (W X:List Nat):Prop:=X.Pairwise (lt W)
theorem Srt.app {W X Y:List Nat}(hx:Srt W X) (hy:Srt W Y) (h:∀ x∈X,∀ y∈Y,lt W x y):Srt W (X++Y):=pairwise_append.2 ⟨hx,hy,h⟩
theorem Zmx {W Z1 Z2:List Nat}{x:Nat}(hs:Srt W (Z1++Z2)) (h1:∀ z∈Z1,lt W z x) (h2:∀ z∈Z2,lt W x z):Srt W (Z1++x::Z2):=by
 obtain⟨a,b,c⟩:=pairwise_append.1 hs;refine pairwise_append.2 ⟨a,List.pairwise_cons.2 ⟨h2,b⟩,λz hz y hy=>?_⟩;rcases mem_cons.1 hy with rfl|hy
 ·exact h1 z hz
 ·exact c z hz y hy
theorem Zig {W Z:List Nat}{x:Nat}(hs:Srt W Z){k:Nat}(h:∀ y,Z[k]?=some y->lt W y x) (hk:k < Z.length):∀ z∈Z.take (k+1),lt W z x:=by
 intro z hz;obtain⟨i,hi,rfl⟩:=getElem_of_mem hz;rw[gN] at hi;rw[getElem_take];have hx:=h _ (gA hk)
 by_cases e:i=k
 ·subst e;exact hx
 ·exact Zc7 (pairwise_iff_getElem.1 hs i k (by omega) hk (by omega)) hx
theorem Ziw {W Z:List Nat}{x:Nat}(hs:Srt W Z){k:Nat}(h:∀ y,Z[k]?=some y->lt W x y):∀ z∈Z.drop k,lt W x z:=by
 intro z hz;obtain⟨i,hi,rfl⟩:=getElem_of_mem hz;rw[gS] at hi;rw[List.getElem_drop]
 have hk:k < Z.length:=by omega
 have hx:=h _ (gA hk)
 by_cases e:i=0
 ·subst e;exact hx
 ·exact Zc7 hx (pairwise_iff_getElem.1 hs k (k+i) hk (by omega) (by omega))
def Seg (W:List Nat) (lo:Nat) (X:List Nat):Prop:=X.Perm (List.range' lo X.length)/\Srt W X
inductive Runs (W:List Nat) (s:Nat):Nat->List Nat->Prop
 |last {lo:Nat} {X:List Nat} (h:Seg W lo X) (hl:X.length<=s):Runs W s lo X
 |cons {lo:Nat} {X L:List Nat} (h:Seg W lo X) (hl:X.length=s) (r:Runs W s (lo+s) L):Runs W s lo (X++L)
theorem Seg.join {W X Y Z:List Nat}{lo s:Nat}(hx:Seg W lo X) (hl:X.length=s) (hy:Seg W (lo+s) Y) (hz:Z.Perm (X++Y)) (hs:Srt W Z):Seg W lo Z:=by
 refine⟨?_,hs⟩;refine hz.trans ((hx.1.append hy.1).trans ?_);rw[hz.length_eq,gD,hl,<-List.range'_append_1]
theorem Zp3 {W X Y:List Nat}{lo s:Nat}(hx:Seg W lo X) (hl:X.length=s) (hy:Seg W (lo+s) Y):∀ x∈X,∀ y∈Y,x < y:=by
 intro x h1 y h2;have h1:=mem_range'_1.1 (hx.1.mem_iff.1 h1);have h2:=mem_range'_1.1 (hy.1.mem_iff.1 h2);omega
theorem Zf8 {W D:List Nat}{s lo:Nat}(h:Runs W s lo D) (hs:0 < s) (hl:D.length<=s):Seg W lo D:=by
 cases h with
 |last h _=>exact h
 |cons h hl2 r=>
  rename_i X L;rw[gD] at hl;have:L=[]:=eq_nil_of_length_eq_zero (by omega);subst this;rw[gU];exact h
theorem halves {W X1 X2 Y1 Y2 Z1 Z2:List Nat}(hx:Srt W (X1++X2)) (hy:Srt W (Y1++Y2)) (h1:∀ x∈X1,∀ y∈Y2,lt W x y) (h2:∀ y∈Y1,∀ x∈X2,lt W y x)
  (p1:Z1.Perm (X1++Y1)) (p2:Z2.Perm (X2++Y2)) (s1:Srt W Z1) (s2:Srt W Z2):(Z1++Z2).Perm (X1++X2++(Y1++Y2))/\Srt W (Z1++Z2):=by
 obtain⟨_,_,cx⟩:=pairwise_append.1 hx;obtain⟨_,_,cy⟩:=pairwise_append.1 hy;refine⟨?_,s1.app s2 λx hx1 y hy1=>?_⟩
 ·refine (p1.append p2).trans ?_;rw[gI,gI];refine .append_left _ ?_;rw[<-gI,<-gI];exact .append_right _ List.perm_append_comm
 ·rcases hT_.1 (p1.mem_iff.1 hx1) with h|h <;> rcases hT_.1 (p2.mem_iff.1 hy1) with h'|h'
  ·exact cx x h y h'
  ·exact h1 x h y h'
  ·exact h2 x h y h'
  ·exact cy x h y h'
theorem sw' {α:Type}{P Q R:List α}{x y:α}{p q:Nat}(hp:P.length=p) (hq:p+1+Q.length=q) :
  ((P++x::(Q++y::R)).set q x).set p y=P++y::(Q++x::R)/\q < (P++x::(Q++y::R)).length/\p < ((P++x::(Q++y::R)).set q x).length:=by
 obtain⟨_,_,e,h1,h2⟩:=sw (P:=P) (Q:=Q) (R:=R) (x:=x) (y:=y) hp hq;refine⟨by rw[List.set_comm _ _ (by omega)];exact e,?_,?_⟩
 ·rw[hX_] at h2;exact h2
 ·rw[hX_];exact h1
theorem Ybg {W X Y:List Nat}{h lo hi s:Nat}(hx:Srt W X) (hy:Srt W Y) (hc:(lo=h - Y.length/\Y.length<=h/\hi=h)\/(lo=0/\hi=X.length)) (h0:lo<=s) (h1:s<=hi) (hh:s<=h)
  (h2:lo < s->lt W (X.getD (s - 1) 0) (Y.getD (h - s) 0)) (h3:s < hi->lt W (Y.getD (h - 1 - s) 0) (X.getD s 0)) (hX:s<=X.length) (hY:h - s<=Y.length) :
  (∀ x∈X.take s,∀ y∈Y.drop (h - s),lt W x y)/\(∀ y∈Y.take (h - s),∀ x∈X.drop s,lt W y x):=by
 have gX:∀ i (hi:i < X.length),X.getD i 0=X[i]:=λi hi=>by rw[gB,gA hi];rfl
 have gY:∀ i (hi:i < Y.length),Y.getD i 0=Y[i]:=λi hi=>by rw[gB,gA hi];rfl
 have mX:∀ i j (hi:i < X.length) (hj:j < X.length),i < j->lt W X[i] X[j]:=λi j hi hj hij=>pairwise_iff_getElem.1 hx i j hi hj hij;have mY:∀ i j (hi:i < Y.length) (hj:j < Y.length),i < j->lt W Y[i] Y[j]:=λi j hi hj hij=>pairwise_iff_getElem.1 hy i j hi hj hij
 constructor
 ·intro x hxm y hym;obtain⟨i,hi1,rfl⟩:=getElem_of_mem hxm;obtain⟨j,hj1,rfl⟩:=getElem_of_mem hym;rw[gN] at hi1;rw[gS] at hj1;rw[getElem_take,List.getElem_drop]
  have hls:lo < s:=by
   rcases hc with⟨a,b,c⟩|⟨a,b⟩ <;> omega
  have e:=h2 hls;rw[gX _ (by omega),gY _ (by omega)] at e
  have e1:lt W X[i] Y[h - s]:=by
   by_cases q:i=s - 1
   ·subst q;exact e
   ·exact Zc7 (mX i (s - 1) (by omega) (by omega) (by omega)) e
  by_cases q:j=0
  ·subst q;exact e1
  ·exact Zc7 e1 (mY (h - s) (h - s+j) (by omega) (by omega) (by omega))
 ·intro y hym x hxm;obtain⟨i,hi1,rfl⟩:=getElem_of_mem hxm;obtain⟨j,hj1,rfl⟩:=getElem_of_mem hym;rw[gN] at hj1;rw[gS] at hi1;rw[getElem_take,List.getElem_drop]
  have hls:s < hi:=by
   rcases hc with⟨a,b,c⟩|⟨a,b⟩ <;> omega
  have e:=h3 hls;rw[gX _ (by omega),gY _ (by omega)] at e
  have e1:lt W Y[j] X[s]:=by
   by_cases q:j=h - 1 - s
   ·subst q;exact e
   ·exact Zc7 (mY j (h - 1 - s) (by omega) (by omega) (by omega)) e
  by_cases q:i=0
  ·subst q;exact e1
  ·exact Zc7 e1 (mX s (s+i) (by omega) (by omega) (by omega))
theorem seg_nil (W:List Nat) (lo:Nat):Seg W lo []:=⟨.refl _,List.Pairwise.nil⟩
theorem Zhp {W D:List Nat}{s lo:Nat}(h:Runs W s lo D) (hl:s<=D.length):∃ X R,D=X++R/\Seg W lo X/\X.length=s/\Runs W s (lo+s) R:=by
 cases h with
 |last h h2=>exact⟨D,[],(gU _).symm,h,by omega,.last (seg_nil _ _) (Nat.zero_le _)⟩
 |cons h h2 r=>exact⟨_,_,rfl,h,h2,r⟩
theorem Zp6 {W X:List Nat}{lo n:Nat}(h:Seg W lo X) (hn:lo+X.length<=n):∀ x∈X,x < n:=by
 intro x hx;have:=mem_range'_1.1 (h.1.mem_iff.1 hx);omega
theorem Zrv (lo n s:Nat) (h:s<=n):List.range' lo n=List.range' lo s++List.range' (lo+s) (n - s):=by
 rw[List.range'_append_1,show s+(n - s)=n by omega]
end Go.Ms
namespace Go.Ev
open Go Go.Vc
variable {P:Program}{w w':World}
theorem Zam {b o n:Nat}:(⟨b,o,none⟩:Addr).add n=⟨b,o+n,none⟩:=by
 unfold Addr.add;split
 ·rename_i h;rw[h];rfl
 ·rfl
inductive Xt where
 |idx|cnt|noEsc|mkNo|idxB
def nmX:Xt->String
 | .idx => "internal/bytealg.IndexByteString"
 | .cnt => "internal/bytealg.CountString"
 | .noEsc => "internal/abi.NoEscape"
 | .mkNo => "internal/bytealg.MakeNoZero"
 | .idxB => "internal/bytealg.IndexByte"
def extF (fn:Func) (k:Xt):Bool:=match fn.name==nmX k with
 | true => (match fn.origin == "" with
  |true=>true
  |false=>fn.origin==nmX k)
 |false=>false
def extK (P:Program) (f:FuncId):Option (Func × Xt):=match P.funcs[f]? with
 |some fn=>(match fn.body with
  |some _=>none
  |none=>(match extF fn .idx,extF fn .cnt,extF fn .noEsc,extF fn .mkNo,extF fn .idxB with
   |true,_,_,_,_=>some (fn,.idx)
   |_,true,_,_,_=>some (fn,.cnt)
   |_,_,true,_,_=>some (fn,.noEsc)
   |_,_,_,true,_=>some (fn,.mkNo)
   |_,_,_,_,true=>some (fn,.idxB)
   |_,_,_,_,_=>none))
 |none=>none
theorem Zdp {f:FuncId}{fn:Func}{k:Xt}(h:extK P f=some (fn,k)):P.funcs[f]?=some fn/\fn.body=none/\extF fn k=true:=by
 unfold extK at h;split at h
 ·rename_i fn' hf;split at h
  ·cases h
  ·rename_i hb
   split at h <;> first|(simp only[Option.some.injEq,Prod.mk.injEq] at h;obtain⟨rfl,rfl⟩:=h;exact⟨hf,hb,by assumption⟩)|cases h
 ·cases h
theorem Zc1 {fn : Func} {k : Xt} (h : extF fn k = true) : fn.name = nmX k ∧ (fn.origin = "" ∨ fn.origin = nmX k) := by
 unfold extF at h;split at h
 ·rename_i h1;split at h
  ·rename_i h2;exact⟨by simpa using h1,.inl (by simpa using h2)⟩
  ·exact⟨by simpa using h1,.inr (by simpa using h)⟩
 ·cases h
theorem Zs7 (k:Xt){fn:Func}(h:extF fn k=true):Extern.findNext fn=none:=by
 obtain⟨h1,h2⟩:=Zc1 h;unfold Extern.findNext
 rcases h2 with h2|h2 <;> rw[h1,h2] <;> cases k <;> rfl
theorem Zvb {fn:Func}(h:extF fn .idx=true):Extern.find fn=some Extern.BytealgIndexByte.indexByte:=by
 unfold Extern.find;rw[(Zc1 h).1];rfl
theorem Zh4 {fn:Func}(h:extF fn .idxB=true):Extern.find fn=some Extern.BytealgIndexByte.indexByte:=by
 unfold Extern.find;rw[(Zc1 h).1];rfl
theorem Zws {fn:Func}(h:extF fn .cnt=true):Extern.find fn=some Extern.BytealgCount.count:=by
 unfold Extern.find;rw[(Zc1 h).1];rfl
theorem Zpz {fn:Func}(h:extF fn .noEsc=true):Extern.find fn=some Extern.AbiNoEscape.same:=by
 unfold Extern.find;rw[(Zc1 h).1];rfl
theorem Zrj {fn:Func}(h:extF fn .mkNo=true):Extern.find fn=some (Extern.BytealgMakeNoZero.makeNoZero fn.params fn.resultTypes):=by
 unfold Extern.find;rw[(Zc1 h).1];rfl
theorem callExt {f:FuncId}{fn:Func}{k:Xt}{args:Array Value}{e:Array Value->Sem Value}{v:Value}(h:extK P f=some (fn,k)) (he:Extern.find fn=some e) (hr:(e args).run P w=.ok v w'):isExt P f=true/\(callFunc f args).run P w=.ok (.value v) w':=by
 obtain⟨h1,h2,h3⟩:=Zdp h;refine⟨by simp only[isExt,h1,h2];rfl,?_⟩
 have hn : (fn.name == "runtime.NumGoroutine") = false := by rw [(Zc1 h3).1]; cases k <;> rfl
 rw[run_callFunc_extern h1 hn (by rw[h2];rfl) (Zs7 k h3) he,hr];rfl
theorem run_loadBytes {b:Nat}:∀ (l:List Nat) (o:Nat) (acc:ByteArray),(∀ (i:Nat) (n:Nat),l[i]?=some n->w.cell? ⟨b,o+i,none⟩=some (.int .u8 (n:Int)))->
  (Extern.Bytes.loadBytes ⟨b,o,none⟩ l.length acc).run P w=.ok ⟨acc.data++(l.map UInt8.ofNat).toArray⟩ w
 |[],o,acc,h=>by
  show Result.ok acc w=_;simp
 |n::l,o,acc,h=>by
  show (Extern.Bytes.loadBytes ⟨b,o,none⟩ (l.length+1) acc).run P w=_;unfold Extern.Bytes.loadBytes;rw[Sem.run_bind,Zkq (show w.cell? ⟨b,o,none⟩=_ from h 0 n rfl)];simp only[Result.andThen_ok];rw[Zam]
  have:=run_loadBytes l (o+1) (acc.push ((n:Int).toNat.toUInt8)) λi m hi=>by
   rw[show o+1+i=o+(i+1) by omega];exact h (i+1) m hi
  rw[this]
  congr 1
  apply Ze4;simp
theorem Zrt {x y c:Value}{s:ByteArray}(h1:(Extern.Bytes.bytesOf x).run P w=.ok s w) (h2:(Extern.Bytes.bytesOf y).run P w=.ok s w):(Extern.BytealgIndexByte.indexByte #[x,c]).run P w=(Extern.BytealgIndexByte.indexByte #[y,c]).run P w:=by
 change ((Extern.Bytes.bytesOf x >>= _):Sem Value).run P w=((Extern.Bytes.bytesOf y >>= _):Sem Value).run P w;rw[Sem.run_bind,Sem.run_bind,h1,h2];rfl
end Go.Ev
namespace Go.Proofs.YtieneaffjelhhaaGreat
open Go Go.Vc Go.Proofs.Tryz
attribute [local irreducible] Vc.Nc Vc.Ld Vc.LdA Vc.St Vc.StA Vc.Fo Vc.Iaa Vc.Ias Vc.Ixs Vc.Ixa Vc.Fd Vc.FdA Vc.Bp Vc.Bb Vc.Bn Vc.Up Vc.Ci Vc.Lns Vc.Lnl Vc.Ex Vc.Sst Vc.Ssl Vc.New Vc.Vif Vc.VJoin Vc.VLoop Vc.KE Vc.Dr Vc.Rk Vc.Cl Vc.Cx Vc.Inv Vc.Be Vc.Cv Vc.Cw Vc.Mf Vc.Sl Vc.Lk Vc.Bd Vc.Bs Vc.Ms Vc.Mm Vc.Mu Vc.Me Vc.Es Vc.Rg Vc.Nx Vc.Ta Vc.Ap Vc.Usd Vc.Ust Vc.Cp Vc.Ln Vc.Bc Vc.Bmin Vc.Bmax Vc.Bdel Vc.Bclr Vc.Pk
namespace S16
open Go.Mr Go.M18
variable {w:World}{L:List HProp}{K:KT}{b n:Nat}{s:List UInt8}{x:SS}
theorem Zqt (H:Holds w (SoR b s x n::L)) (hz:Sz s x) (hne:x.stack≠[]) (hst:x.stack.length<=100000000) (hp:∀ p∈x.stack,p.lo<=p.hi/\p.hi<=4000)
  (k:∀ w',Same w w'->Holds w' (SoR b s (beginS x) n::L)->K (.tuple #[]) w'):Cl prog 171 #[pt b] w K:=by
 refine Tz171 ?_;unfold Vz171
 have hzp:(zeroP prog tPt).cells.toList=[iv 0,iv 0,iv 0]:=by kernel_rfl
 obtain⟨ov,cv,av,kv,H⟩:=Zan H
 cases hs:x.stack with
 |nil=>exact absurd hs hne
 |cons p st=>
  rw[hs] at hst;simp only[length_cons] at hst;have hpb:=hp p (by rw[hs];exact hJ_ ..)
  have ej:beginS x=if p.hi - p.lo < 2 then { x with stack:=st } else { x with stack:=⟨p.lo,0,(p.lo+p.hi)/2⟩::⟨(p.lo+p.hi)/2,0,p.hi⟩::⟨p.lo,(p.lo+p.hi)/2,p.hi⟩::st }:=by unfold beginS;rw[hs]
  have hrev:x.stack.reverse=st.reverse++[p]:=by rw[hs,List.reverse_cons]
  have H0:Holds w (blk b tSo (soC s ov cv av kv x n)::SL nv tI ov x.order::SL nv tI cv x.cls::SL nv tI av x.aside::RW Fp 3 tPt kv (st.reverse++[p])::L):=by rw[<-hrev];exact H
  have hget:(st.reverse++[p])[st.length]?=some p:=by rw[gT (by simp),length_reverse,Nat.sub_self];rfl
  have hll:(st.reverse++[p]).length=st.length+1:=by simp
  clear H;refine r_dr H0 λw1 S1 H1=>?_;refine r_nc (r_fo0 (r_ld 0 H1 rfl rfl ?_));refine r_nc (r_fo0 (r_ld 0 H1 rfl rfl ?_));refine P35.r_lnN 4 H1 rfl ?_;rw[hll];refine Zah (by omega) (by omega) ?_;rw[Nat.add_sub_cancel]
  obtain⟨oa,m,sp,rfl,Ho⟩:=H1.openRW 4 rfl;obtain⟨sb,rfl,hsp,Hb⟩:=Ho.rwb 4 rfl (.inl (by rw[hll];omega));have Hb':Holds w1 (blk b tSo (soC s ov cv av (.slice (some ⟨sb,0,none⟩) (st.reverse++[p]).length ((st.reverse++[p]).length+m)) x n)::SL nv tI ov x.order::SL nv tI cv x.cls::SL nv tI av x.aside::blk sb tPt (flatL Fp (st.reverse++[p])++sp)::L):=Hb
  have hcell:((flatL Fp (st.reverse++[p])++sp).drop (st.length*3)).take 3=Fp p:=by
   have h1:=Zcj (F:=Fp) (k:=3) (λ_=>rfl) _ _ _ hget;have hlen:=Zck (F:=Fp) (k:=3) (λ_=>rfl) (st.reverse++[p]);rw[hll] at hlen;rw[List.drop_append_of_le_length (by omega),List.take_append_of_le_length (by rw[gS];omega)];exact h1
  refine Zpk (by rw[hll];omega) ?_;refine r_ldA 4 Hb' (Fp p) rfl hcell rfl ?_;refine r_new Hb' λpb w2 S2 H2=>?_;rw[hzp] at H2;refine r_rk (r_ldA 5 H2 (Fp p) rfl hcell rfl rfl) (r_rk (r_lnl (by rw[hll])) (r_rk (r_ld 1 H2 rfl rfl rfl) (r_rk (r_ld 1 H2 rfl rfl rfl) ?_)));refine r_stA 0 H2 (vs:=Fp p) rfl (by decide) rfl rfl λw3 S3 H3=>?_
  have H3':Holds w3 (blk pb tPt (Fp p)::blk b tSo (soC s ov cv av (.slice (some ⟨sb,0,none⟩) (st.length+1) (st.length+1+m)) x n)::SL nv tI ov x.order::SL nv tI cv x.cls::SL nv tI av x.aside::blk sb tPt (flatL Fp (st.reverse++[p])++sp)::L):=by
   have h:Holds w3 (blk pb tPt (Fp p)::blk b tSo (soC s ov cv av (.slice (some ⟨sb,0,none⟩) (st.reverse++[p]).length ((st.reverse++[p]).length+m)) x n)::SL nv tI ov x.order::SL nv tI cv x.cls::SL nv tI av x.aside::blk sb tPt (flatL Fp (st.reverse++[p])++sp)::L):=H3;rw[hll] at h;exact h
  refine r_dr H3' λw4 S4 H4=>?_;have S:=S1.trans (S2.trans (S3.trans S4));clear H0 H1 Ho Hb Hb' H2 H3 H3' S1 S2 S3 S4;refine r_nc (r_fo0 (r_ld 1 H4 rfl rfl ?_));refine r_nc (r_fo0 (r_ld 1 H4 rfl rfl ?_));refine r_lnl ?_;refine Zah (a:=st.length+1) (by omega) (by omega) ?_;rw[Nat.add_sub_cancel];refine Zp2 (by omega) ?_;refine r_nc (r_fo0 ?_);refine r_st 1 H4 rfl (by simp[soC]) rfl λw5 S5 H5=>?_
  have H6:Holds w5 (blk pb tPt (Fp p)::blk b tSo (soC s ov cv av (.slice (some ⟨sb,0,none⟩) st.length (st.length+1+m)) x n)::SL nv tI ov x.order::SL nv tI cv x.cls::SL nv tI av x.aside::RW Fp 3 tPt (.slice (some ⟨sb,0,none⟩) st.length (st.length+1+m)) st.reverse::L):=by
   have h:=H5.at 5 rfl (Q:=RW Fp 3 tPt (.slice (some ⟨sb,0,none⟩) st.length (st.length+1+m)) st.reverse) λg hg=>by
    refine⟨some ⟨sb,0,none⟩,m+1,Fp p++sp,by rw[length_reverse,show st.length+1+m=st.length+(m+1) by omega],rfl,rfl,by rw[gD,hsp];show 3+m*3=_;omega,?_⟩;have hg':blk sb tPt (flatL Fp (st.reverse++[p])++sp) g:=hg;rw[Zcf,gI] at hg'
    have e1:flatL Fp [p]=Fp p:=by simp[flatL]
    rw[e1] at hg';exact hg'
   exact h
  clear H4 H5;replace S:=S.trans S5;refine r_fo0 (r_ld 0 H6 rfl rfl ?_);refine r_fo0 (r_ld 0 H6 rfl rfl ?_);refine r_sub (by omega) (by omega) ?_;refine r_lss (r_ifD (λh=>?_) λh=>?_)
  ·rw[if_pos (by omega)] at ej;rw[ej] at k;exact k _ S (Zak (ov:=ov) (cv:=cv) (av:=av) H6.drop)
  rw[if_neg (by omega)] at ej;rw[ej] at k;refine r_fo0 (r_ld 0 H6 rfl rfl ?_);refine r_fo0 (r_ld 0 H6 rfl rfl ?_);refine Zad (by omega) ?_;refine r_quo (by omega) (by omega) (by omega) ?_;rw[show ((p.lo+p.hi:Nat):Int)/2=(((p.lo+p.hi)/2:Nat):Int) by omega];generalize (p.lo+p.hi)/2=mid at *;refine r_dr H6 λw7 S7 H7=>?_;refine r_nc (r_fo0 (r_ld 1 H7 rfl rfl ?_));refine r_fo0 (r_ld 0 H7 rfl rfl ?_);refine r_fo0 (r_ld 0 H7 rfl rfl ?_);refine r_bd (v:=.agg (Fp ⟨p.lo,mid,p.hi⟩).toArray) (by kernel_rfl) ?_;refine r_fo0 (r_ld 0 H7 rfl rfl ?_);refine r_bd (v:=.agg (Fp ⟨mid,0,p.hi⟩).toArray) (by kernel_rfl) ?_;refine r_fo0 (r_ld 0 H7 rfl rfl ?_);refine r_bd (v:=.agg (Fp ⟨p.lo,0,mid⟩).toArray) (by kernel_rfl) ?_;refine r_bsK (e:=tPt) (Fp ⟨p.lo,mid,p.hi⟩++Fp ⟨mid,0,p.hi⟩++Fp ⟨p.lo,0,mid⟩) H7 (by kernel_rfl) λnb w8 S8 H8=>?_;refine r_rk (r_ld 2 H8 rfl rfl rfl) ?_;refine r_apN (F:=Fp) (xs:=st.reverse) (ys:=[⟨p.lo,mid,p.hi⟩,⟨mid,0,p.hi⟩,⟨p.lo,0,mid⟩]) H8 6 0 rfl rfl (by omega) rfl rfl (λ_=>rfl) Fp_sg (by simp;omega) (by simp) (by decide) λkv2 w9 S9 H9=>?_;refine r_nc (r_fo0 ?_)
  have hsg:sg kv2=true:=by
   obtain⟨oa2,m2,sp2,rfl,_⟩:=H9.openRW 6 rfl;rfl
  refine r_st 2 H9 rfl (by simp[soC]) hsg λw10 S10 H10=>?_
  have H11:Holds w10 (soL b s ov cv av kv2 { x with stack:=⟨p.lo,0,mid⟩::⟨mid,0,p.hi⟩::⟨p.lo,mid,p.hi⟩::st } n++L):=by
   have h:=H10.drop.drop;unfold soL;simp only[List.reverse_cons,gI];exact h
  exact k _ (S.trans (S7.trans (S8.trans (S9.trans S10)))) (Zak H11)
theorem Ztw (H:Holds w (SoR b s x n::L)) (hz:Sz s x) (hst:x.stack.length<=100000000) (h0:0 < s.length)
  (k:∀ w',Same w w'->Holds w' (SoR b s (passS s.length x) n::L)->K (.tuple #[]) w'):Cl prog 182 #[pt b] w K:=by
 refine Tz182 ?_;unfold Vz182;have hlen:=hz.len;have hol:=hz.ol;have hre:=hz.reach;obtain⟨ov,cv,av,kv,H⟩:=Zan H;refine r_nc (r_fo0 (r_ld 0 H rfl rfl ?_));refine r_nc (r_fo0 (r_ld 0 H rfl rfl ?_))
 have hsg:∀ {v:Value} {l:List Nat} {i:Nat},(soL b s ov cv av kv x n++L)[i]?=some (SL nv tI v l)->sg v=true:=λhi=>by
  obtain⟨oa,sp,rfl,_⟩:=H.open _ hi;rfl
 refine r_nc (r_fo0 ?_);refine r_st 0 H rfl (by simp[soC]) (hsg (i:=3) rfl) λw1 S1 H1=>?_;refine r_nc (r_fo0 ?_);refine r_st 0 H1 rfl (by simp[soC]) (hsg (i:=2) rfl) λw2 S2 H2=>?_;refine r_nc (r_fo0 ?_);refine r_st 0 H2 rfl (by simp[soC]) rfl λw3 S3 H3=>?_
 have H4:Holds w3 (soL b s ov av cv kv { x with cls:=x.aside,aside:=x.cls,ranked:=0 } n++L):=by
  have h_:=Holds.ord 5 [0,1,3,2,4] H3 rfl;exact h_
 have S:=S1.trans (S2.trans S3);clear H H1 H2 H3 S1 S2 S3 hsg;refine Za2 (λt w'=>Same w w'/\Holds w' (soL b s ov av cv kv { x with cls:=x.aside,aside:=x.cls,ranked:=0 } n++L)/\t=.bool (decide (x.last=s.length - 1\/s.length<=x.reach))) ?_ ?_
 rotate_left
 ·refine r_dr H4 λw4 S4 H5=>?_;refine r_nc (r_fo0 (r_ld 0 H5 rfl rfl ?_));refine r_nc (r_fo0 (r_ld 0 H5 rfl rfl ?_));refine r_lnS 1 H5 rfl ?_;rw[hol];refine Zah (by omega) (by omega) ?_;refine r_eql (r_ifE (λh=>?_) λh=>?_)
  ·have h':((x.last:Nat):Int)=((s.length - 1:Nat):Int):=h;exact r_ke ⟨S.trans S4,H5,by rw[decide_eq_true (.inl (by omega))]⟩
  ·have h':¬ ((x.last:Nat):Int)=((s.length - 1:Nat):Int):=h;refine r_nc (r_fo0 (r_ld 0 H5 rfl rfl ?_));refine r_nc (r_fo0 (r_ld 0 H5 rfl rfl ?_));refine r_lnS 1 H5 rfl ?_;rw[hol];refine r_geq (r_ke ⟨S.trans S4,H5,?_⟩);rw[show decide (((s.length:Nat):Int)<=((x.reach:Nat):Int))=decide (x.last=s.length - 1\/s.length<=x.reach) from decide_eq_decide.2 (by omega)]
 rintro _ _ w4 ⟨S4,H5,rfl⟩;refine r_ifD (λh=>?_) λh=>?_
 ·refine r_nc (r_fo0 ?_);refine r_st 0 H5 rfl (by simp[soC]) rfl λw5 S5 H6=>?_
  have e:passS s.length x={ x with cls:=x.aside,aside:=x.cls,ranked:=0,done:=true }:=by unfold passS;rw[if_pos h]
  rw[e] at k;exact k _ (S4.trans S5) (Zak (ov:=ov) (cv:=av) (av:=cv) (kv:=kv) H6)
 ·have e:passS s.length x={ x with cls:=x.aside,aside:=x.cls,ranked:=0,reach:=max 1 (2*x.reach),stack:=⟨0,0,s.length⟩::x.stack }:=by unfold passS;rw[if_neg h]
  rw[e] at k;refine r_nc (r_fo0 (r_ld 0 H5 rfl rfl ?_));refine Zdi (((2*x.reach:Nat)):Int) (by show 2*((x.reach:Nat):Int)=_;omega) (by omega) (by omega) ?_;refine r_max ?_;rw[show max (1:Int) ((2*x.reach:Nat):Int)=((max 1 (2*x.reach):Nat):Int) by omega];refine r_nc (r_fo0 ?_);refine r_st 0 H5 rfl (by simp[soC]) rfl λw5 S5 H6=>?_;replace H6:Holds w5 (soL b s ov av cv kv { x with cls:=x.aside,aside:=x.cls,ranked:=0,reach:=max 1 (2*x.reach) } n++L):=H6;refine r_dr H6 λw6 S6 H7=>?_;refine r_nc (r_fo0 (r_ld 0 H7 rfl rfl ?_));refine r_nc (r_fo0 (r_ld 0 H7 rfl rfl ?_));refine r_lnS 1 H7 rfl ?_;rw[hol];refine r_bd (v:=.agg (Fp ⟨0,0,s.length⟩).toArray) (by kernel_rfl) ?_;refine r_bsK (e:=tPt) (Fp ⟨0,0,s.length⟩) H7 (by kernel_rfl) λnb w8 S8 H8=>?_;refine r_rk (r_ld 1 H8 rfl rfl rfl) ?_;refine r_apN (F:=Fp) (xs:=x.stack.reverse) (ys:=[⟨0,0,s.length⟩]) H8 5 0 rfl rfl (by omega) rfl rfl (λ_=>rfl) Fp_sg (by rw[length_reverse];simp;omega) (by simp) (by decide) λkv2 w9 S9 H9=>?_;refine r_nc (r_fo0 ?_)
  have hsg:sg kv2=true:=by
   obtain⟨oa2,m2,sp2,rfl,_⟩:=H9.openRW 5 rfl;rfl
  refine r_st 1 H9 rfl (by simp[soC]) hsg λw10 S10 H10=>?_
  have H11:Holds w10 (soL b s ov av cv kv2 { x with cls:=x.aside,aside:=x.cls,ranked:=0,reach:=max 1 (2*x.reach),stack:=⟨0,0,s.length⟩::x.stack } n++L):=by
   have h:=H10.drop;unfold soL;simp only[List.reverse_cons];exact h
  exact k _ (S4.trans (S5.trans (S6.trans (S8.trans (S9.trans S10))))) (Zak H11)
theorem Zsu (H:Holds w (SoR b s x n::L)) (hz:Sz s x) (hst:x.stack.length<=100000000) (hr:x.ranked < s.length) (hl:0 < x.ranked->x.last<=8000) (hO:∀ a∈x.order,a < s.length)
  (k:∀ w',Same w w'->Holds w' (SoR b s (rankS (keyS s x) s.length x) n::L)->K (.tuple #[]) w'):Cl prog 172 #[pt b] w K:=by
 refine Tz172 ?_;unfold Vz172;have hlen:=hz.len;have hol:=hz.ol;have hal:=hz.al;obtain⟨ov,cv,av,kv,H⟩:=Zan H;refine r_nc (r_fo0 (r_ld 0 H rfl rfl ?_));refine Zbh (λw'=>Same w w'/\Holds w' (soL b s ov cv av kv { x with last:=lastN (keyS s x) x } n++L)) ?_ ?_
 ·rintro _ w1 ⟨S1,H1⟩;refine r_dr H1 λw2 S2 H2=>?_;refine r_nc (r_fo0 (r_ld 0 H2 rfl rfl ?_));refine r_nc (r_fo0 (r_ld 0 H2 rfl rfl ?_));refine Zaa 1 H2 rfl (Zau (l:=x.order) (i:=x.ranked) (by omega)) ?_;refine r_nc (r_fo0 (r_ld 0 H2 rfl rfl ?_));have hm:=hO _ (Zaz (l:=x.order) (i:=x.ranked) (by omega));refine Zao (j:=x.order.getD x.ranked 0) 3 H2 (lastN (keyS s x) x) rfl (by show _ < x.aside.length;omega) rfl λw3 S3 H3=>?_;refine r_nc (r_fo0 (r_ld 0 H3 rfl rfl ?_));refine Za0 (a:=x.ranked) (by omega) ?_;refine r_nc (r_fo0 ?_);refine r_st 0 H3 rfl (by simp[soC]) rfl λw4 S4 H4=>?_;replace H4:Holds w4 (soL b s ov cv av kv (rank1 (keyS s x) x) n++L):=H4;refine r_dr H4 λw5 S5 H5=>?_;refine r_nc (r_fo0 (r_ld 0 H5 rfl rfl ?_));refine r_nc (r_fo0 (r_ld 0 H5 rfl rfl ?_));refine r_lnS 1 H5 rfl ?_;refine r_eql (r_ifE (λh=>?_) λh=>?_)
  ·have hq:x.ranked+1=s.length:=by
    have h':((x.ranked+1:Nat):Int)=((x.order.length:Nat):Int):=h;omega
   refine Ztw (Zak H5) ⟨hlen,hz.cl,by show (List.set _ _ _).length=_;rw[hX_];exact hal,hol,hz.reach⟩ hst (by omega) λw6 S6 H6=>?_
   have e:rankS (keyS s x) s.length x=passS s.length (rank1 (keyS s x) x):=by unfold rankS;rw[if_pos hq]
   rw[e] at k;exact k _ (S1.trans (S2.trans (S3.trans (S4.trans (S5.trans S6))))) H6
  ·have hq:¬ x.ranked+1=s.length:=by
    have h':¬ ((x.ranked+1:Nat):Int)=((x.order.length:Nat):Int):=h;omega
   have e:rankS (keyS s x) s.length x=rank1 (keyS s x) x:=by unfold rankS;rw[if_neg hq]
   rw[e] at k;exact k _ (S1.trans (S2.trans (S3.trans (S4.trans S5)))) (Zak H5)
 ·refine r_eql (r_ifE (λh=>?_) λh=>?_)
  ·refine r_nc (r_fo0 ?_);refine r_st 0 H rfl (by simp[soC]) rfl λw1 S1 H1=>?_;refine r_ke ⟨S1,?_⟩
   have e:lastN (keyS s x) x=0:=by unfold lastN;rw[if_pos (by omega)]
   rw[e];exact H1
  ·refine r_dr H λw1 S1 H1=>?_;refine r_nc (r_fo0 (r_ld 0 H1 rfl rfl ?_));refine Zaa 1 H1 rfl (Zau (by omega)) ?_;refine r_nc (r_fo0 (r_ld 0 H1 rfl rfl ?_));refine Zah (by omega) (by omega) ?_;refine Zaa 1 H1 rfl (Zau (by omega)) ?_;refine Zht H1 hz (hO _ (Zaz (by omega))) (hO _ (Zaz (by omega))) λw2 S2 H2=>?_;refine r_ifD (λh2=>?_) λh2=>?_
   ·have hl':=hl (by omega);refine r_nc (r_fo0 (r_ld 0 H2 rfl rfl ?_));refine Za0 (by omega) ?_;refine r_nc (r_fo0 ?_);refine r_st 0 H2 rfl (by simp[soC]) rfl λw3 S3 H3=>?_;refine r_ke ⟨S1.trans (S2.trans S3),?_⟩
    have e:lastN (keyS s x) x=x.last+1:=by unfold lastN;rw[if_neg (by omega),if_pos h2]
    rw[e];exact H3
   ·refine r_ke ⟨S1.trans S2,?_⟩
    have e:lastN (keyS s x) x=x.last:=by unfold lastN;rw[if_neg (by omega),if_neg h2]
    rw[e];exact H2
end S16
namespace S16
open Go.Mr Go.M18
variable {w:World}{L:List HProp}{K:KT}{b n:Nat}{s:List UInt8}{x:SS}
theorem step_spec (H:Holds w (SoR b s x n::L)) (hI:Inv s x) (hlen:s.length<=4000) (hr:x.reach<=2*s.length) (hl:ldS s.length x<=4*(s.length*s.length)+s.length) (hn:n<=1000000000000)
  (k:∀ w',Same w w'->Holds w' (SoR b s (stepS (keyS s x) s.length x) (n+1)::L)->K (.tuple #[]) w'):Cl prog 160 #[pt b] w K:=by
 refine Tz160 ?_;unfold Vz160;have hsl:=Ztx hI.ph hl hlen;refine join_spec H (by omega) λw1 S1 H1=>?_;have hj:=Znr hI.bs hI.ph
 have hjk:keyS s (joinS x)=keyS s x:=by
  unfold joinS;split
  ·rfl
  ·split <;> rfl
 have hjs:(joinS x).stack.length<=x.stack.length:=by
  unfold joinS;split
  ·exact Nat.le_refl _
  ·rename_i e;split
   ·rw[e];simp
   ·exact Nat.le_refl _
 have hjr:=Zim x;unfold stepS at k;generalize joinS x=y at *;obtain⟨hb,hp,hm⟩:=hj;rw[<-hjk] at hp k;have hz:Sz s y:=⟨hlen,hb.cl,hb.al,hb.ol,by omega⟩;have hol:=hb.ol;have hal:=hb.al;have hwf:=Znz hp;refine Zbh (λw'=>Same w w'/\Holds w' (SoR b s (restS (keyS s y) s.length y) n::L)) ?_ ?_
 ·rintro _ w2 ⟨S2,H2⟩;obtain⟨ov,cv,av,kv,H3⟩:=Zan H2;refine r_nc (r_fo0 (r_ld 0 H3 rfl rfl ?_));refine Za0 (by omega) ?_;refine r_nc (r_fo0 ?_);refine r_st 0 H3 rfl (by simp[soC]) rfl λw3 S3 H4=>?_;exact k _ (S2.trans S3) (Zak (ov:=ov) (cv:=cv) (av:=av) (kv:=kv) H4)
 refine Za2 (λt w'=>Same w w'/\Holds w' (SoR b s y n::L)/\t=.bool (decide (0 < y.merge.hi/\y.laid < y.merge.mid - y.merge.lo))) ?_ ?_
 ·rintro _ _ w2 ⟨S2,H2,rfl⟩;refine r_ifD (λh=>?_) λh=>?_
  ·have e:restS (keyS s y) s.length y=layS y:=by unfold restS;rw[if_pos h]
   rw[e];rcases hp with hp|⟨R,hp⟩
   ·have:=hp.none;omega
   have m3:=hp.m3;have m2:=hp.m2;refine Zxl H2 hz (by omega) (by omega) λw3 S3 H3=>?_;exact r_ke ⟨S2.trans S3,H3⟩
  obtain⟨ov,cv,av,kv,H3⟩:=Zan H2;refine r_nc (r_fo (r_fo (r_ld 0 H3 rfl rfl ?_)));refine r_gtr (r_ifD (λh2=>?_) λh2=>?_)
  ·have e:restS (keyS s y) s.length y=putS (keyS s y) y:=by unfold restS;rw[if_neg h,if_pos (by omega)]
   rw[e];rcases hp with hp|⟨R,hp⟩
   ·have:=hp.none;omega
   have m3:=hp.m3;have m2:=hp.m2;have m1:=hp.m1;have hlay:=hp.lay
   have hla:y.laid=y.merge.mid - y.merge.lo:=by omega
   obtain⟨l1,l2,l3,l4,_⟩:=hp.late hla;have hto:toS y=y.merge.lo+y.first+y.second - y.merge.mid:=rfl;refine put_spec H2 hz ⟨m3,by omega,by omega,by omega⟩ (by omega) l2 l3 l1 (by omega) (λ_=>by omega) (λhf=>?_) (λhs=>hb.om _ (Zaz (by omega))) λw3 S3 H4=>?_
   ·refine hp.asm _ ?_
    rw[show y.aside.getD y.first 0=(seg y.aside 0 y.laid).getD y.first 0 from by
     unfold seg
     rw[List.drop_zero,Nat.sub_zero,gB,gB,hI_ hf]]
    exact Zaz (by rw[Zdm (by omega)];omega)
   ·exact r_ke ⟨S2.trans S3,H4⟩
  refine r_nc (r_fo0 (r_ld 0 H3 rfl rfl ?_));refine P35.r_lnN 4 H3 rfl ?_;rw[length_reverse]
  have hph:PhA (keyS s y) s.length y:=by
   rcases hp with hp|⟨R,hp⟩
   ·exact hp
   ·have:=hp.m2;omega
  refine r_gtr (r_ifD (λh3=>?_) λh3=>?_)
  ·have hne:y.stack≠[]:=λe=>by rw[e] at h3;simp at h3
   have e:restS (keyS s y) s.length y=beginS y:=by unfold restS;rw[if_neg h,if_neg (by omega),if_pos hne]
   rw[e];refine Zqt H2 hz hne (by omega) (λp hpp=>by have:=hwf p hpp;omega) λw3 S3 H4=>?_;exact r_ke ⟨S2.trans S3,H4⟩
  ·have he:y.stack=[]:=eq_nil_of_length_eq_zero (by omega)
   have e:restS (keyS s y) s.length y=rankS (keyS s y) s.length y:=by unfold restS;rw[if_neg h,if_neg (by omega),if_neg (by simpa using he)]
   rw[e];have hkn:=hph.rkn;refine Zsu H2 hz (by omega) hkn (λhr0=>?_) hb.om λw3 S3 H4=>?_
   ·rw[hph.lst hr0];have:=Zjs (k:=keyS s y) (o:=y.order) (y.ranked - 1);omega
   ·exact r_ke ⟨S2.trans S3,H4⟩
 ·refine r_dr H1 λw2 S2 H2=>?_;obtain⟨ov,cv,av,kv,H3⟩:=Zan H2;have close:Holds w2 (SoR b s y n::L):=H2;refine r_nc (r_fo (r_fo (r_ld 0 H3 rfl rfl ?_)));refine r_gtr (r_ifD (λh=>?_) λh=>?_)
  ·have hm12:y.merge.lo<=y.merge.mid/\y.merge.mid<=s.length:=by
    rcases hp with hp|⟨R,hp⟩
    ·have:=hp.none;omega
    ·have:=hp.m1;have:=hp.m2;have:=hp.m3;omega
   refine r_nc (r_fo0 (r_ld 0 H3 rfl rfl ?_));refine r_nc (r_fo (r_fo (r_ld 0 H3 rfl rfl ?_)));refine r_nc (r_fo (r_fo (r_ld 0 H3 rfl rfl ?_)));refine r_sub (by omega) (by omega) ?_;refine r_lss (r_ke ⟨S1.trans S2,H2,?_⟩);rw[show decide (((y.laid:Nat):Int) < ((y.merge.mid:Nat):Int) - ((y.merge.lo:Nat):Int))=decide (0 < y.merge.hi/\y.laid < y.merge.mid - y.merge.lo) from decide_eq_decide.2 (by omega)]
  ·refine r_ke ⟨S1.trans S2,H2,?_⟩;rw[decide_eq_false (show ¬ (0 < y.merge.hi/\y.laid < y.merge.mid - y.merge.lo) from λe=>by omega)]
def Fini (s:List UInt8) (x:SS):Prop:=x.done=true/\x.order=sortP s s.length
theorem Done_spec (H:Holds w (SoR b s x n::L)) (k:K (.bool x.done) w):Cl prog 148 #[pt b] w K:=by
 refine Tz148 ?_;unfold Vz148;obtain⟨ov,cv,av,kv,H⟩:=Zan H;exact Zca (r_vt (r_nc (r_fo0 (r_ld 0 H rfl rfl k))))
theorem Zie (H:Holds w (SoR b s x n::L)) (hf:Fini s x) (hlen:s.length<=4000) (k:∀ v w',Same w w'->Holds w' (SL nv tI v (sortP s s.length)::SoR b s x n::L)->K v w'):Cl prog 149 #[pt b] w K:=by
 refine Tz149 ?_;unfold Vz149;refine Done_spec H ?_;rw[hf.1];refine Zal (r_vf ?_);obtain⟨ov,cv,av,kv,H⟩:=Zan H;refine r_nc (r_fo0 (r_ld 0 H rfl rfl ?_));refine Zcd H 1 rfl (by rw[hf.2,Zc4];omega) λv w1 S1 H1=>?_;rw[hf.2] at H1;refine k v w1 S1 ?_
 have h2:Holds w1 ((soL b s ov cv av kv x n++SL nv tI v (sortP s s.length)::L)):=by
  have h_:=Holds.ord 6 [1,2,3,4,5,0] H1 rfl;exact h_
 exact (Zak h2).swap
theorem Step_spec (H:Holds w (SoR b s x 0::L)) (hx:Fini s x\/(Inv s x/\x.reach<=2*s.length/\ldS s.length x<=4*(s.length*s.length)+s.length/\mu s.length x<=300000000000)) (hlen:s.length<=4000)
  (k:∀ y m w',Fini s y->m<=300000000000->Same w w'->Holds w' (SoR b s y m::L)->K (nv m) w'):Cl prog 147 #[pt b,iv 1099511627776] w K:=by
 refine Tz147 ?_;unfold Vz147;refine Zab (r_vf ?_);obtain⟨ov,cv,av,kv,H0⟩:=Zan H;refine r_nc (r_fo0 (r_ld 0 H0 rfl rfl ?_));clear H0 ov cv av kv
 refine Zjr (λj w'=>∃ (y:SS) (m:Nat),m+j<=300000000000/\Same w w'/\Holds w' (SoR b s y m::L)/\(Fini s y\/(j=mu s.length y/\Inv s y/\y.reach<=2*s.length/\ldS s.length y<=4*(s.length*s.length)+s.length)))
  (if x.done=true then 0 else mu s.length x) ?_ ?_
 ·rcases hx with hx|⟨h1,h2,h3,h4⟩
  ·rw[if_pos hx.1];exact⟨x,0,by omega,.refl _,H,.inl hx⟩
  ·rw[if_neg (by rw[h1.bs.nd];exact Bool.false_ne_true)];exact⟨x,0,by omega,.refl _,H,.inr ⟨rfl,h1,h2,h3⟩⟩
 clear H hx;rintro _ j w1 _ ⟨y,m,hm,S1,H1,hy⟩ hgo;obtain⟨ov,cv,av,kv,H2⟩:=Zan H1
 have hd:y.done=true->Fini s y:=λe=>by
  rcases hy with hy|⟨_,hy,_⟩
  ·exact hy
  ·rw[hy.bs.nd] at e;cases e
 refine Za2 (λt w'=>w1=w'/\t=.bool (!y.done)) ?_ ?_
 ·rintro _ _ _ ⟨rfl,rfl⟩
  cases hdn:y.done with
  |true=>
   refine r_vf ?_;refine r_nc (r_fo0 (r_ld 0 H2 rfl rfl ?_));refine r_sub (by omega) (by omega) ?_;rw[show ((m:Nat):Int) - ((0:Nat):Int)=((m:Nat):Int) by omega];exact k y m _ (hd hdn) (by omega) S1 H1
  |false=>
   refine r_vt ?_;rcases hy with hy|⟨hj,hI,hr,hl⟩
   ·rw[hy.1] at hdn;cases hdn
   refine step_spec H1 hI hlen hr hl (by omega) λw2 S2 H3=>?_;obtain⟨h5,h6⟩:=step_ok hI;refine r_ke ?_;rcases h6 with h6|h6
   ·refine hgo 0 _ ?_ ⟨_,m+1,?_,S1.trans S2,H3,.inl h6⟩
    ·omega
    ·omega
   ·obtain⟨h7,h8⟩:=Zkh hI hl hr h6.bs.nd;refine hgo (mu s.length (stepS (keyS s y) s.length y)) _ (by omega) ⟨_,m+1,by omega,S1.trans S2,H3,.inr ⟨rfl,h6,h8,h7⟩⟩
 ·refine r_nc (r_fo0 (r_ld 0 H2 rfl rfl ?_))
  cases hdn:y.done with
  |true=>exact Zal (r_vf (r_ke ⟨rfl,rfl⟩))
  |false=>
   refine Zci (r_vt ?_);refine r_nc (r_fo0 (r_ld 0 H2 rfl rfl ?_));refine r_sub (by omega) (by omega) ?_;exact r_lss (r_ke ⟨rfl,by rw[decide_eq_true (by omega)];rfl⟩)
def startD (n:Nat):SS:={ Go.Mr.start n with done:=decide (n < 2) }
theorem Zks (h0:s≠[]) (hlen:s.length<=4000):Fini s (startD s.length)\/(Inv s (startD s.length)/\(startD s.length).reach<=2*s.length/\ldS s.length (startD s.length)<=4*(s.length*s.length)+s.length/\mu s.length (startD s.length)<=300000000000):=by
 have hpos:=gZ.2 h0;rcases hU_ s.length 2 with h|h
 ·refine .inl ⟨decide_eq_true h,?_⟩;show List.range s.length=_;rw[show s.length=1 by omega];rfl
 ·refine .inr ?_
  have e:startD s.length=Go.Mr.start s.length:=by unfold startD;rw[decide_eq_false (by omega)];rfl
  rw[e];exact⟨Zv0 h,Nat.zero_le _,Nat.le_of_eq Zqy,mu_start hlen⟩
theorem New_spec (H:Holds w L) (h0:s≠[]) (hlen:s.length<=4000) (k:∀ b w',Same w w'->Holds w' (SoR b s (startD s.length) 0::L)->K (.tuple #[pt b,iv 0]) w'):Cl prog 146 #[St_ s] w K:=by
 refine Tz146 ?_;unfold Vz146;have hpos:=gZ.2 h0
 have hsz:(⟨s.toArray⟩:ByteArray).size=s.length:=by simp[ByteArray.size]
 refine r_lns ?_;rw[hsz];refine r_gtr (r_vfD (by omega) ?_)
 refine Za2 (λx w'=>∃ (b b1 b2 b3:Nat),x=pt b/\Same w w'/\Holds w' (blk b tSo [St_ s,.slice (some ⟨b1,0,none⟩) s.length s.length,.slice (some ⟨b2,0,none⟩) s.length s.length,.slice (some ⟨b3,0,none⟩) s.length s.length,nv 0,.slice none 0 0,nv 0,nv 0,nv 0,nv 0,nv 0,nv 0,nv 0,nv 0,nv 0,.bool (decide (s.length < 2))] ::
   SL nv tI (.slice (some ⟨b1,0,none⟩) s.length s.length) (List.replicate s.length 0)::SL nv tI (.slice (some ⟨b2,0,none⟩) s.length s.length) (List.replicate s.length 0)::SL nv tI (.slice (some ⟨b3,0,none⟩) s.length s.length) (List.replicate s.length 0)::L)) ?_ ?_
 ·rintro _ _ w1 ⟨b,b1,b2,b3,rfl,S1,H1⟩;refine r_nc (r_fo0 (r_ld 0 H1 rfl rfl ?_));refine r_lnl ?_
  refine Zac (λq w'=>∃ u:Nat,q=nv u/\u<=s.length/\Same w w'/\Holds w' (blk b tSo [St_ s,.slice (some ⟨b1,0,none⟩) s.length s.length,.slice (some ⟨b2,0,none⟩) s.length s.length,.slice (some ⟨b3,0,none⟩) s.length s.length,nv 0,.slice none 0 0,nv 0,nv 0,nv 0,nv 0,nv 0,nv 0,nv 0,nv 0,nv 0,.bool (decide (s.length < 2))] ::
   SL nv tI (.slice (some ⟨b1,0,none⟩) s.length s.length) (filled (List.range s.length) 0 s.length u)::SL nv tI (.slice (some ⟨b2,0,none⟩) s.length s.length) (List.replicate s.length 0)::SL nv tI (.slice (some ⟨b3,0,none⟩) s.length s.length) (List.replicate s.length 0)::L)) (λq _=>s.length - (intOf q).toNat)
   ⟨0,rfl,Nat.zero_le _,S1,by rw[Zed];exact H1⟩ ?_
  clear H1 S1;rintro _ _ w2 ⟨u,rfl,hu,S2,H2⟩;refine r_lss (r_ifD (λh=>?_) λh=>?_)
  ·have hlt:u < s.length:=by omega
   refine r_nc (r_fo0 (r_ld 0 H2 rfl rfl ?_));refine Zao (j:=u) 1 H2 u rfl (by rw[Zb3 (by omega) (by simp)];exact hlt) rfl λw3 S3 H3=>?_;refine Za0 (by omega) (r_ke ⟨⟨u+1,rfl,hlt,S2.trans S3,?_⟩,?_⟩)
   ·have e:=Zb6 (xs:=List.range s.length) (z:=0) (x:=u) hlt (by simp) (by simp[hlt])
    have h3:Holds w3 (blk b tSo [St_ s,.slice (some ⟨b1,0,none⟩) s.length s.length,.slice (some ⟨b2,0,none⟩) s.length s.length,.slice (some ⟨b3,0,none⟩) s.length s.length,nv 0,.slice none 0 0,nv 0,nv 0,nv 0,nv 0,nv 0,nv 0,nv 0,nv 0,nv 0,.bool (decide (s.length < 2))] ::
     SL nv tI (.slice (some ⟨b1,0,none⟩) s.length s.length) ((filled (List.range s.length) 0 s.length u).set u u)::SL nv tI (.slice (some ⟨b2,0,none⟩) s.length s.length) (List.replicate s.length 0)::SL nv tI (.slice (some ⟨b3,0,none⟩) s.length s.length) (List.replicate s.length 0)::L):=H3
    rw[e] at h3;exact h3
   ·simp only[nv,intOf,gC];omega
  ·obtain rfl:u=s.length:=by omega
   rw[Zcp (by simp)] at H2;refine r_bd (v:=.agg (Fp ⟨0,0,s.length⟩).toArray) (by kernel_rfl) ?_;refine r_bsK (e:=tPt) (Fp ⟨0,0,s.length⟩) H2 (by kernel_rfl) λnb w3 S3 H3=>?_;refine r_nc (r_fo0 ?_);refine r_st 1 H3 rfl (by simp) rfl λw4 S4 H4=>?_;have H5:=Zt8 (F:=Fp) (k:=3) 0 [⟨0,0,s.length⟩] H4 rfl;refine k b w4 (S2.trans (S3.trans S4)) (Zak (ov:=.slice (some ⟨b1,0,none⟩) s.length s.length) (cv:=.slice (some ⟨b2,0,none⟩) s.length s.length) (av:=.slice (some ⟨b3,0,none⟩) s.length s.length) (kv:=.slice (some ⟨nb,0,none⟩) 1 1) ?_);have h_:=Holds.ord 5 [1,2,3,4,0] H5 rfl;exact h_
 ·refine r_dr H λw1 S1 H1=>?_;refine r_lss ?_
  have mk:∀ {w2:World} {M:List HProp} {Q:KT},Holds w2 M->(∀ b w',Same w2 w'->Holds w' (SL nv tI (.slice (some ⟨b,0,none⟩) s.length s.length) (List.replicate s.length 0)::M)->Q (.slice (some ⟨b,0,none⟩) s.length s.length) w')->
    Ms prog 69 (nv s.length) (nv s.length) w2 Q:=λH2 hQ=>by
   refine r_ms (f:=nv) (x:=0) H2 rfl (by omega) (by omega) λb w' S' H3=>?_;rw[gC] at H3 ⊢;have H4:=H3.close 0 rfl;simp only[gJ,gP,length_nil,Nat.add_zero] at H4;exact hQ b w' S' H4
  have hdec:decide (((s.length:Nat):Int) < 2)=decide (s.length < 2):=decide_eq_decide.2 (by omega);rw[hdec]
  have fin:∀ {b1 b2 b3:Nat} {w2:World} {Q:KT},Same w w2->Holds w2 (SL nv tI (.slice (some ⟨b1,0,none⟩) s.length s.length) (List.replicate s.length 0)::SL nv tI (.slice (some ⟨b2,0,none⟩) s.length s.length) (List.replicate s.length 0)::SL nv tI (.slice (some ⟨b3,0,none⟩) s.length s.length) (List.replicate s.length 0)::L)->
    (∀ x w',(∃ (b b1 b2 b3:Nat),x=pt b/\Same w w'/\Holds w' (blk b tSo [St_ s,.slice (some ⟨b1,0,none⟩) s.length s.length,.slice (some ⟨b2,0,none⟩) s.length s.length,.slice (some ⟨b3,0,none⟩) s.length s.length,nv 0,.slice none 0 0,nv 0,nv 0,nv 0,nv 0,nv 0,nv 0,nv 0,nv 0,nv 0,.bool (decide (s.length < 2))] ::
     SL nv tI (.slice (some ⟨b1,0,none⟩) s.length s.length) (List.replicate s.length 0)::SL nv tI (.slice (some ⟨b2,0,none⟩) s.length s.length) (List.replicate s.length 0)::SL nv tI (.slice (some ⟨b3,0,none⟩) s.length s.length) (List.replicate s.length 0)::L))->Q x w')->
    Bd prog tSo #[(0,St_ s),(1,.slice (some ⟨b1,0,none⟩) s.length s.length),(2,.slice (some ⟨b2,0,none⟩) s.length s.length),(3,.slice (some ⟨b3,0,none⟩) s.length s.length),(13,.bool (decide (s.length < 2)))] w2 λx=>New x tSo w2 Q:=λ{b1 b2 b3 w2 Q} S2 H2 hQ=>by
   refine r_bd (v:=.agg #[St_ s,.slice (some ⟨b1,0,none⟩) s.length s.length,.slice (some ⟨b2,0,none⟩) s.length s.length,.slice (some ⟨b3,0,none⟩) s.length s.length,nv 0,.slice none 0 0,nv 0,nv 0,nv 0,nv 0,nv 0,nv 0,nv 0,nv 0,nv 0,.bool (decide (s.length < 2))]) (by kernel_rfl) ?_;refine r_new H2 λb w3 S3 H3=>?_;exact hQ _ _ ⟨b,b1,b2,b3,rfl,S2.trans S3,H3⟩
  refine⟨?_,?_,?_⟩
  ·refine mk H1 λb1 w2 S2 H2=>⟨mk H2 λb2 w3 S3 H3=>mk H3 λb3 w4 S4 H4=>fin (S1.trans (S2.trans (S3.trans S4))) (by have h_:=Holds.ord 3 [2,1,0] H4 rfl;exact h_) λx w' hx=>r_ke hx,mk H2 λb2 w3 S3 H3=>mk H3 λb3 w4 S4 H4=>fin (S1.trans (S2.trans (S3.trans S4))) (by have h_:=Holds.ord 3 [2,0,1] H4 rfl;exact h_) λx w' hx=>r_ke hx⟩
  ·refine mk H1 λb1 w2 S2 H2=>⟨mk H2 λb2 w3 S3 H3=>mk H3 λb3 w4 S4 H4=>fin (S1.trans (S2.trans (S3.trans S4))) (by have h_:=Holds.ord 3 [1,2,0] H4 rfl;exact h_) λx w' hx=>r_ke hx,mk H2 λb2 w3 S3 H3=>mk H3 λb3 w4 S4 H4=>fin (S1.trans (S2.trans (S3.trans S4))) (by have h_:=Holds.ord 3 [0,2,1] H4 rfl;exact h_) λx w' hx=>r_ke hx⟩
  ·refine mk H1 λb1 w2 S2 H2=>⟨mk H2 λb2 w3 S3 H3=>mk H3 λb3 w4 S4 H4=>fin (S1.trans (S2.trans (S3.trans S4))) (by have h_:=Holds.ord 3 [1,0,2] H4 rfl;exact h_) λx w' hx=>r_ke hx,mk H2 λb2 w3 S3 H3=>mk H3 λb3 w4 S4 H4=>fin (S1.trans (S2.trans (S3.trans S4))) (by have h_:=Holds.ord 3 [0,1,2] H4 rfl;exact h_) λx w' hx=>r_ke hx⟩
end S16
instance:Row prog 84 5 (.int .u8 0):=⟨by kernel_rfl,⟨t5,by kernel_rfl,by kernel_rfl,by decide,by kernel_rfl⟩,rfl⟩
instance:Bytes prog 84 5 9:=⟨by kernel_rfl,by kernel_rfl,by kernel_rfl⟩
namespace W01
open Go.M01
variable {w:World}{L:List HProp}{K:KT}{b:Nat}
abbrev tB:Nat:=5
abbrev tW:Nat:=173
def WrR (b:Nat) (bs:List Bool) (k:Nat):HProp:=λh=>∃ wv,Sat [blk b tW [wv,.int .u8 (restB bs:Nat),nv bs.length],SL bv tB wv ((wholeB bs).drop k)] h
theorem Zk3 {bs:List Bool}{k:Nat}(H:Holds w (WrR b bs k::L)):∃ wv,Holds w (blk b tW [wv,.int .u8 (restB bs:Nat),nv bs.length]::SL bv tB wv ((wholeB bs).drop k)::L):=by
 obtain⟨wv,H⟩:=Holds.ex H;exact⟨wv,Holds.unpack H⟩
theorem Zf1 {bs:List Bool}{k:Nat}{wv:Value}(H:Holds w (blk b tW [wv,.int .u8 (restB bs:Nat),nv bs.length]::SL bv tB wv ((wholeB bs).drop k)::L)):Holds w (WrR b bs k::L):=
 Holds.imp (Holds.pack (A:=[_,_]) H) λh hh=>⟨wv,hh⟩
theorem Ze7 (H:Holds w L) (post:∀ b w',Same w w'->Holds w' (WrR b [] 0::L)->K (.pointer (some ⟨b,0,none⟩)) w'):Cl prog 71 #[] w K:=by
 refine Tz71 ?_;unfold Vz71;refine r_bd (v:=.agg #[.slice none 0 0,.int .u8 0,nv 0]) (by kernel_rfl) ?_;refine r_new H λb w1 S1 H1=>?_;replace H1:Holds w1 (blk b tW [.slice none 0 0,.int .u8 0,nv 0]::L):=H1;exact post b _ S1 (Zf1 ((H1.nilSL bv tB).swap))
theorem bit_spec {bs:List Bool}{k:Nat}{c:Bool}(H:Holds w (WrR b bs k::L)) (hn:bs.length<=1000000000000) (hk:k<=bs.length/8)
  (post:∀ w',Same w w'->Holds w' (WrR b (bs++[c]) k::L)->K (.tuple #[]) w'):Cl prog 88 #[.pointer (some ⟨b,0,none⟩),.int .u8 (c.toNat:Int)] w K:=by
 refine Tz88 ?_;unfold Vz88;obtain⟨wv,H⟩:=Zk3 H;have S:=Same.refl w;have hc:=Bool.toNat_le c;have hr:=Zwk bs
 have hR:((bs.length:Int)).tmod 8=((bs.length%8:Nat):Int):=by
  rw[Int.tmod_eq_emod_of_nonneg (by omega)];simp
 have hm:bs.length%8 < 8:=Nat.mod_lt _ (by decide);have hsh:c.toNat*2^(7 - bs.length%8)%256 < 256:=Nat.mod_lt _ (by decide)
 have hls:(bs++[c]).length=bs.length+1:=by simp
 repeat (first|refine Zi6 hR (by omega) ?_|refine r_nc ?_|refine r_fo0 ?_|(refine r_sub (by omega) (by omega) ?_)|(refine r_dr H ?_;clear H;intro _ S_ H;replace S:=S.trans S_;clear S_)|refine r_ld 0 H rfl rfl ?_)
 rw[show (7:Int) - ((bs.length%8:Nat):Int)=((7 - bs.length%8:Nat):Int) by omega];refine Ya6 (by omega) ?_;refine Ybk hr hsh ?_
 repeat (first|refine r_nc ?_|refine r_fo0 ?_)
 refine r_st 0 H rfl (by simp) rfl λw2 S2 H2=>?_;replace H2:Holds w2 (blk b tW [wv,.int .u8 ((restB bs ||| (c.toNat*2^(7 - bs.length%8)%256):Nat):Int),nv bs.length]::SL bv tB wv ((wholeB bs).drop k)::L):=H2;replace S:=S.trans S2;clear H S2;have H:=H2;clear H2
 repeat (first|refine r_nc ?_|refine r_fo0 ?_|(refine Za0 (by omega) ?_)|refine r_ld 0 H rfl rfl ?_)
 refine r_st 0 H rfl (by simp) rfl λw2 S2 H2=>?_;replace H2:Holds w2 (blk b tW [wv,.int .u8 ((restB bs ||| (c.toNat*2^(7 - bs.length%8)%256):Nat):Int),nv (bs.length+1)]::SL bv tB wv ((wholeB bs).drop k)::L):=H2;replace S:=S.trans S2;clear H S2;have H:=H2;clear H2
 repeat (refine r_eql ?_)
 refine r_ifE (λh=>?_) λh=>?_
 ·obtain⟨p1,p2⟩:=Zwb bs c (by omega);have hx:restB bs ||| (c.toNat*2^(7 - bs.length%8)%256) < 2^8:=Nat.or_lt_two_pow (by simpa using hr) (by simpa using hsh);generalize restB bs ||| (c.toNat*2^(7 - bs.length%8)%256)=x at *
  have e:(Value.int .u8 (x:Int))=bv (UInt8.ofNat x):=by
   unfold bv;rw[UInt8.toNat_ofNat_of_lt' hx]
  rw[e] at H;obtain⟨oa,sp,rfl,H⟩:=H.open 1 rfl;rw[gW,gJ] at H
  repeat (first|refine r_nc ?_|refine r_fo0 ?_|(refine r_dr H ?_;clear H;intro _ S_ H;replace S:=S.trans S_;clear S_)|refine r_ld 0 H rfl rfl ?_)
  refine r_bs1 H rfl λb3 w3 S3 H3=>?_;replace S:=S.trans S3;refine r_rk (r_ld 1 H3 rfl rfl rfl) ?_;have hwl:=Zcr bs;refine r_ap (f:=bv) (ys:=[UInt8.ofNat x]) H3 2 0 rfl rfl rfl rfl rfl rfl (λ_=>rfl) (by rw[gS,gQ];omega) (by simp) λoa' sp' w4 S4 H4=>?_;replace S:=S.trans S4
  have hout:(wholeB bs).drop k++[UInt8.ofNat x]=(wholeB (bs++[c])).drop k:=by
   rw[p1,List.drop_append_of_le_length (by omega)]
  rw[hout,gW,gW,gJ] at H4
  have hlen:((wholeB bs).drop k).length+[UInt8.ofNat x].length=((wholeB (bs++[c])).drop k).length:=by
   rw[<-hout,gD]
  rw[hlen];clear H H3;have H:=H4.drop;clear H4
  repeat (first|refine r_nc ?_|refine r_fo0 ?_)
  refine r_st 0 H rfl (by simp) rfl λw5 S5 H5=>?_;replace S:=S.trans S5;clear H;have H:=H5;clear H5;rw[gJ,gJ] at H
  repeat (first|refine r_nc ?_|refine r_fo0 ?_)
  refine r_st 0 H rfl (by simp) rfl λw6 S6 H6=>?_;rw[gJ,gW,gJ] at H6;have H7:=H6.close 1 rfl;rw[gW,gJ] at H7;refine post _ (S.trans S6) (Zf1 (wv:=.slice oa' ((wholeB (bs++[c])).drop k).length (((wholeB (bs++[c])).drop k).length+sp'.length)) ?_);rw[p2,hls];exact H7
 ·obtain⟨p1,p2,p3⟩:=Yac bs c (by omega);rw[<-p2] at H;refine post _ S (Zf1 (wv:=wv) ?_);rw[p1,hls];exact H
theorem Put_spec {bs:List Bool}{k v n:Nat}(H:Holds w (WrR b bs k::L)) (hl:bs.length<=100000000000) (hk:k<=bs.length/8) (hn:n<=32) (hv:v < 2^n)
  (post:∀ w',Same w w'->Holds w' (WrR b (bs++bitsOf v n) k::L)->K (iv 0) w'):Cl prog 72 #[.pointer (some ⟨b,0,none⟩),uv v,nv n] w K:=by
 refine Tz72 ?_;unfold Vz72;have hp:(2:Nat)^n<=2^32:=Nat.pow_le_pow_right (by omega) hn
 repeat (first|(with_reducible first|refine Zab ?_|refine r_vf ?_))
 refine r_cl (K:=λx w'=>w=w'/\x=.bool true) ?_ ?_
 ·refine Tz87 ?_;unfold Vz87
  repeat (first|refine Zka (by omega) (by omega) ?_|refine Zfq (show n<=IntKind.u64.bits by show n<=64;omega) ?_|refine r_eql ?_|refine r_leq ?_|refine r_geq ?_|((with_reducible refine r_vtD ?h ?_);(case h=>omega)))
  exact⟨rfl,by rw[Nat.div_eq_of_lt hv];rfl⟩
 rintro _ _ ⟨rfl,rfl⟩
 repeat (first|(with_reducible first|refine Zal ?_|refine r_vf ?_))
 refine Zac (λx w'=>∃ i:Nat,i<=n/\x=nv i/\Same w w'/\Holds w' (WrR b (bs++(bitsOf v n).take i) k::L)) (λx _=>n - (intOf x).toNat) ⟨0,by omega,rfl,.refl w,by rw[take_zero,gU];exact H⟩ ?_;clear H;rintro _ _ w2 ⟨i,hi,rfl,S,H⟩
 repeat (refine r_lss ?_)
 refine r_ifD (λh=>?_) λh=>?_
 ·have hlt:i < n:=by omega
  repeat (first|(refine Zah (by omega) (by omega) ?_)|(refine r_sub (by omega) (by omega) ?_))
  rw[show ((n - 1:Nat):Int) - (i:Int)=((n - 1 - i:Nat):Int) by omega];refine Zfq (show n - 1 - i<=IntKind.u32.bits by show n - 1 - i<=32;omega) ?_;have hd:v/2^(n - 1 - i)<=v:=Nat.div_le_self _ _;refine Zx8 (t:=1) (by omega) (by omega) ?_;rw[Zrx];have hb:=Bool.toNat_le (v.testBit (n - 1 - i))
  repeat (refine Zld (by omega) (by omega) ?_)
  have hlen:(bs++(bitsOf v n).take i).length<=bs.length+32:=by
   rw[gD,gN,Za4];omega
  have hlen2:bs.length<=(bs++(bitsOf v n).take i).length:=by rw[gD];omega
  refine bit_spec H (by omega) (by omega) λw3 S3 H3=>?_;rw[gI,<-Zj8 v n i hlt] at H3
  repeat (first|refine r_ke ?_|(refine Za0 (by omega) ?_))
  refine⟨⟨i+1,by omega,rfl,S.trans S3,H3⟩,?_⟩;simp[nv,intOf];omega
 ·obtain rfl:i=n:=by omega
  rw[gK (by rw[Za4];omega)] at H;exact post _ S H
theorem Take_spec {bs:List Bool}{k:Nat}(H:Holds w (WrR b bs k::L)) (post:∀ w',Same w w'->Holds w' (WrR b bs (bs.length/8)::L)->K (.string ⟨((wholeB bs).drop k).toArray⟩) w') :
  Cl prog 73 #[.pointer (some ⟨b,0,none⟩)] w K:=by
 refine Tz73 ?_;unfold Vz73;obtain⟨wv,H⟩:=Zk3 H;have S:=Same.refl w;obtain⟨oa,sp,rfl,H⟩:=H.open 1 rfl;rw[gW,gJ] at H
 repeat (first|refine r_cbs H 1 rfl rfl ?_|refine r_nc ?_|refine r_fo0 ?_|(with_reducible first|refine Zab ?_|refine r_vf ?_)|refine r_ld 0 H rfl rfl ?_)
 refine r_st 0 H rfl (by simp) rfl λw2 S2 H2=>?_;rw[gJ,gJ] at H2;refine post w2 S2 (Zf1 (wv:=.slice none 0 0) ?_);rw[List.drop_of_length_le (Nat.le_of_eq (Zcr bs))];exact ((H2.dropAt 1).nilSL bv tB).swap
end W01
namespace C10
open Go.M01 Go.M10
variable {w:World}{L:List HProp}{K:KT}{b wb n:Nat}{lens:List Nat}{bs:List Bool}
theorem Zn8 (hs:Sized lens){i:Nat}(hi:i < lens.length):(codesAt lens 21 0)[i]?=some (codeN lens i):=by
 have h1:=Zbt hs hi;rw[codesAt,hV_,getElem?_range hi];show some (if _ then _ else _)=_;rw[if_pos (.inl (by omega))]
theorem Of_spec {i:Nat}(H:Holds w (CodeR b lens::L)) (hi:i < lens.length) (k:∀ w',Same w w'->Holds w' (CodeR b lens::L)->K (.tuple #[uv (codeN lens i),nv (lens.getD i 0),iv 0]) w'):Cl prog 214 #[pt b,nv i] w K:=by
 refine Tz214 ?_;unfold Vz214;obtain⟨hw,lv,cv,ov,H1⟩:=Zi2 H;refine Zab (r_vf ?_);refine Za2 (λx w'=>w=w'/\x=.bool false) ?_ ?_
 rotate_left
 ·refine r_lss (r_vfD (by omega) ?_);refine r_nc (r_fo0 (r_ld 0 H1 rfl rfl ?_));refine r_lnS 3 H1 rfl ?_;exact r_geq (r_ke ⟨rfl,by rw[decide_eq_false (by omega)]⟩)
 rintro _ _ _ ⟨rfl,rfl⟩;refine r_vf ?_;refine r_dr H1 λw2 S2 H2=>?_;refine r_nc (r_fo0 (r_ld 0 H2 rfl rfl ?_));refine Zaa 2 H2 rfl (Zn8 hw.1.sized hi) ?_;refine r_nc (r_fo0 (r_ld 0 H2 rfl rfl ?_));refine Zaa 3 H2 rfl (x:=lens.getD i 0) (by rw[gB,gA hi];rfl) ?_;exact k _ S2 (Zh8 hw H2)
theorem Put_spec {i:Nat}(H:Holds w (CodeR b lens::W01.WrR wb bs n::L)) (hi:i < lens.length) (hl:bs.length<=100000000000) (hn:n<=bs.length/8)
  (k:∀ w',Same w w'->Holds w' (CodeR b lens::W01.WrR wb (bs++codeB lens i) n::L)->K (iv 0) w'):Cl prog 197 #[pt b,pt wb,nv i] w K:=by
 refine Tz197 ?_;unfold Vz197;have hw:=(Zi2 H).1.1;have h1:=Zbt hw.sized hi;refine Zab (r_vf ?_);refine Of_spec H hi λw2 S2 H2=>?_;refine Ycn (Yd1 (Ycy ?_));refine r_neq (r_vfN rfl ?_);have hc:=Zx4 hi h1.1;have hx:=nx_le hw (lens.getD i 0) h1.2;refine W01.Put_spec H2.swap hl hn (by omega) (by omega) λw3 S3 H3=>?_;exact k _ (S2.trans S3) H3.swap
end C10
namespace D11
open Go.M01 Go.M10 Go.Mv
variable {w:World}{L:List HProp}{K:KT}{b wb n:Nat}{lens:List Nat}{bs:List Bool}
abbrev tWp:Nat:=139
def fnW (ab:Nat):Value:=.func (.func 212) #[] #[pt ab]
theorem put_spec {ab v m:Nat}(H:Holds w (W01.WrR wb bs n::blk ab tWp [pt wb]::L)) (hl:bs.length<=100000000000) (hn:n<=bs.length/8) (hm:m<=32) (hv:v < 2^m)
  (k:∀ w',Same w w'->Holds w' (W01.WrR wb (bs++bitsOf v m) n::blk ab tWp [pt wb]::L)->K (.tuple #[]) w'):Inv prog (do let d <-Deferred.ofValue (fnW ab) #[nv v,nv m];invoke d.target d.args) w K:=by
 refine r_inv (f:=212) (args:=#[nv v,nv m,pt ab]) (by kernel_rfl) ?_;refine Tz212 ?_;unfold Vz212;have hp:(2:Nat)^m<=2^32:=Nat.pow_le_pow_right (by omega) hm;refine r_ld 1 H rfl rfl ?_;refine Zav (by omega) (by omega) ?_;refine W01.Put_spec H hl hn hm hv λw2 S2 H2=>?_;exact k _ S2 H2
theorem Zpe (j:Nat) (x:List Bool):(List.replicate (j+1) x).flatten=(List.replicate j x).flatten++x:=by
 rw[List.replicate_succ',List.flatten_append];simp
theorem Zps {ab:Nat}{v:Value}(H:Holds w (W01.WrR wb bs n::blk ab tWp [pt wb]::SL nv tI v lens::L)) (hne:lens≠[]) (hll:lens.length<=258) (hs:Sized lens) (hl:bs.length<=10000000000) (hn:n<=bs.length/8)
  (k:∀ w',Same w w'->Holds w' (W01.WrR wb (bs++lensB lens) n::blk ab tWp [pt wb]::SL nv tI v lens::L)->K (.tuple #[]) w'):Cl prog 207 #[v,fnW ab] w K:=by
 refine Tz207 ?_;unfold Vz207;have h0:0 < lens.length:=gZ.2 hne;have hsz:∀ i,i < lens.length->1<=lens.getD i 0/\lens.getD i 0<=20:=λi hi=>C10.Zbt hs hi
 have hget:∀ i,i < lens.length->lens[i]?=some (lens.getD i 0):=λi hi=>by rw[gB,gA hi];rfl
 have hf0:=hsz 0 h0;refine Zaa 2 H (j:=0) rfl (hget 0 h0) ?_;refine put_spec (m:=5) H (by omega) hn (by omega) (by omega) λw1 S1 H1=>?_;refine r_lnS 2 H1 rfl ?_;generalize ha:lens.getD 0 0=a at *
 have hlast:∀ i,i<=lens.length->lastB a (lens.take i)<=20/\1<=lastB a (lens.take i):=by
  intro i hi
  cases i with
  |zero=>exact⟨by unfold lastB;simp;omega,by unfold lastB;simp;omega⟩
  |succ i=>
   have hg:lens.take (i+1)=lens.take i++[lens.getD i 0]:=by rw[gO,hget i (by omega)];rfl
   rw[hg,lastB_snoc];have:=hsz i (by omega);omega
 have hsl:∀ i,i<=lens.length->(stepsB a (lens.take i)).length<=41*i:=by
  intro i
  induction i with
  |zero=>intro _;simp[stepsB]
  |succ i ih=>
   intro hi
   have hg:lens.take (i+1)=lens.take i++[lens.getD i 0]:=by rw[gO,hget i (by omega)];rfl
   have h1:=Zlb (lastB a (lens.take i)) (lens.getD i 0) (hlast i (by omega)).1 (hsz i (by omega)).2;have h2:=ih (by omega);rw[hg,Zd2];simp only[gD,gQ];omega
 have hb5:(bitsOf a 5).length=5:=Za4 _ _
 refine Zag (λnw x w'=>∃ i:Nat,i<=lens.length/\x=nv i/\nw=nv (lastB a (lens.take i))/\Same w w'/\Holds w' (W01.WrR wb (bs++bitsOf a 5++stepsB a (lens.take i)) n::blk ab tWp [pt wb]::SL nv tI v lens::L)) (λ_ x _=>lens.length - (intOf x).toNat)
  ⟨0,by omega,rfl,rfl,S1,by rw[take_zero,stepsB,gU];exact H1⟩ ?_
 clear H H1 S1;rintro _ _ _ w2 ⟨i,hi,rfl,rfl,S,H⟩;have hsi:=hsl i hi;refine r_lss (r_ifD (λh=>?_) λh=>?_)
 rotate_left
 ·obtain rfl:i=lens.length:=by omega
  rw[hF_] at H;refine k _ S ?_;unfold lensB;rw[ha,<-gI];exact H
 have hlt:i < lens.length:=by omega
 have hl2:=hlast i hi;have hxi:=hsz i hlt
 have hg:lens.take (i+1)=lens.take i++[lens.getD i 0]:=by rw[gO,hget i hlt];rfl
 refine Zaa 2 H rfl (hget i hlt) ?_;generalize hx:lens.getD i 0=x at *;generalize hp:lastB a (lens.take i)=p at *;generalize hS0:bs++bitsOf a 5++stepsB a (lens.take i)=B0 at *
 have hB0:B0.length<=10000000000+5+41*258:=by rw[<-hS0,gD,gD];omega
 have hB1:bs.length<=B0.length:=by rw[<-hS0,gD,gD];omega
 refine Zac (λy w'=>∃ j:Nat,y=nv (p+j)/\j<=x - p/\Same w w'/\Holds w' (W01.WrR wb (B0++(List.replicate j [true,false]).flatten) n::blk ab tWp [pt wb]::SL nv tI v lens::L)) (λy _=>100 - (intOf y).toNat)
  ⟨0,rfl,Nat.zero_le _,S,by rw[replicate_zero,List.flatten_nil,gU];exact H⟩ ?_
 clear H S;rintro _ _ w3 ⟨j,rfl,hj,S,H⟩
 have hjl:(List.replicate j [true,false]).flatten.length=2*j:=by simp;omega
 have hjb:(B0++(List.replicate j [true,false]).flatten).length=B0.length+2*j:=by rw[gD,hjl]
 refine r_lss (r_ifD (λh2=>?_) λh2=>?_)
 ·refine put_spec (v:=2) (m:=2) H (by omega) (by omega) (by omega) (by decide) λw4 S4 H4=>?_;rw[show bitsOf 2 2=[true,false] by decide,gI,<-Zpe] at H4;refine Za0 (by omega) ?_;refine r_ke ⟨⟨j+1,rfl,by omega,S.trans S4,H4⟩,?_⟩;simp only[nv,intOf,gC];omega
 obtain rfl:j=x - p:=by omega
 generalize hS1:B0++(List.replicate (x - p) [true,false]).flatten=B2 at *
 refine Zac (λy w'=>∃ j:Nat,y=nv (max p x - j)/\j<=p - x/\Same w w'/\Holds w' (W01.WrR wb (B2++(List.replicate j [true,true]).flatten) n::blk ab tWp [pt wb]::SL nv tI v lens::L)) (λy _=>(intOf y).toNat)
  ⟨0,by rw[show max p x - 0=p+(x - p) by omega],Nat.zero_le _,S,by rw[replicate_zero,List.flatten_nil,gU];exact H⟩ ?_
 clear H S;rintro _ _ w4 ⟨j,rfl,hj2,S,H⟩
 have hjl2:(List.replicate j [true,true]).flatten.length=2*j:=by simp;omega
 have hjb2:(B2++(List.replicate j [true,true]).flatten).length=B2.length+2*j:=by rw[gD,hjl2]
 refine r_gtr (r_ifD (λh3=>?_) λh3=>?_)
 ·refine put_spec (v:=3) (m:=2) H (by omega) (by omega) (by omega) (by decide) λw5 S5 H5=>?_;rw[show bitsOf 3 2=[true,true] by decide,gI,<-Zpe] at H5;refine Zah (by omega) (by omega) ?_;refine r_ke ⟨⟨j+1,by rw[show max p x - j - 1=max p x - (j+1) by omega],by omega,S.trans S5,H5⟩,?_⟩;simp only[nv,intOf,gC];omega
 ·obtain rfl:j=p - x:=by omega
  refine put_spec (v:=0) (m:=1) H (by omega) (by omega) (by omega) (by decide) λw5 S5 H5=>?_;refine Za0 (by omega) ?_;refine r_ke ⟨⟨i+1,by omega,rfl,by rw[hg,lastB_snoc,show max p x - (p - x)=x by omega],S.trans S5,?_⟩,?_⟩
  ·rw[hg,Zd2,hp,<-gI,<-gI,hS0];unfold moves;rw[<-gI,hS1];exact H5
  ·simp only[nv,intOf,gC];omega
theorem Zdh {v:Value}{l:List Nat}{f:Value}(H:Holds w L) (j:Nat) (hj:L[j]?=some (SL nv tI v l)) (hl:l.length<=1000000)
  (hf:∀ x∈l,∀ {Q:KT},Q (.bool false) w->Inv prog (do let d <-Deferred.ofValue f #[nv x];invoke d.target d.args) w Q) (k:K (.bool false) w):Cl prog 227 #[v,f] w K:=by
 refine Tz227 ?_;unfold Vz227;refine r_cl (K:=λx w'=>w=w'/\x=iv (-1)) ?_ ?_
 ·refine Tz248 ?_;unfold Vz248;refine r_lnS j H hj ?_;refine Zac (λx w'=>∃ i:Nat,i<=l.length/\x=nv i/\w=w') (λx _=>l.length - (intOf x).toNat) ⟨0,Nat.zero_le _,rfl,rfl⟩ ?_;rintro _ _ _ ⟨i,hi,rfl,rfl⟩;refine r_lss (r_ifD (λh=>?_) λh=>?_)
  ·have hlt:i < l.length:=by omega
   refine Zaa j H hj (gA hlt) ?_;refine hf _ (getElem_mem hlt) ?_;refine r_vf ?_;refine Za0 (by omega) ?_;refine r_ke ⟨⟨i+1,by omega,rfl,rfl⟩,?_⟩;simp only[nv,intOf,gC];omega
  ·exact⟨rfl,rfl⟩
 rintro _ _ ⟨rfl,rfl⟩;exact r_geq k
theorem Zo8 (H:Holds w L) (j:Nat){v:Value}(hj:L[j]?=some (SL nv tI v lens)) (h3:3<=lens.length) (h258:lens.length<=258) (hs:Sized lens) (k:K (.bool true) w):Cl prog 206 #[v] w K:=by
 refine Tz206 ?_;unfold Vz206;refine r_lnS j H hj ?_;refine r_cl (K:=λx w'=>w=w'/\x=.bool true) ?_ ?_
 ·refine Tz231 ?_;unfold Vz231;refine r_geq (r_vtD (by omega) ?_);exact r_leq ⟨rfl,by rw[decide_eq_true (by omega)]⟩
 rintro _ _ ⟨rfl,rfl⟩;refine r_vt ?_;refine Zdh H j hj (by omega) (λx hx Q hQ=>?_) ?_
 ·have:=hs x hx;refine r_inv (f:=232) (args:=#[nv x]) (by kernel_rfl) ?_;refine Tz232 ?_;unfold Vz232;refine r_cl (K:=λx w'=>w=w'/\x=.bool true) ?_ ?_
  ·refine Tz233 ?_;unfold Vz233;refine r_geq (r_vtD (by omega) ?_);exact r_leq ⟨rfl,by rw[decide_eq_true (by omega)]⟩
  rintro _ _ ⟨rfl,rfl⟩;exact Zal hQ
 ·exact Zci k
theorem Write_spec {v:Value}(H:Holds w (W01.WrR wb bs n::SL nv tI v lens::L)) (h3:3<=lens.length) (h258:lens.length<=258) (hs:Sized lens) (hl:bs.length<=10000000000) (hn:n<=bs.length/8)
  (k:∀ w',Same w w'->Holds w' (W01.WrR wb (bs++lensB lens) n::SL nv tI v lens::L)->K (iv 0) w'):Cl prog 195 #[pt wb,v] w K:=by
 refine Tz195 ?_;unfold Vz195;refine r_new H λab w1 S1 H1=>?_;replace H1:Holds w1 (blk ab tWp [pt wb]::W01.WrR wb bs n::SL nv tI v lens::L):=H1;refine r_ld 0 H1 rfl rfl ?_;refine Zab (r_vf ?_);refine Zo8 H1 2 rfl h3 h258 hs ?_;refine Zal (r_vf ?_);refine r_mf (fnW ab) (by kernel_rfl) ?_;refine Zps H1.swap (λe=>by rw[e] at h3;simp at h3) h258 hs hl hn λw2 S2 H2=>?_;exact k _ (S1.trans S2) (Holds.dropAt H2 1)
end D11
namespace P13
open Go.M01 Go.Mb Go.Mp Go.Mv
variable {w:World}{L:List HProp}{K:KT}{b wb n:Nat}{bs:List Bool}
abbrev tOr:Nat:=296
theorem Zgt {o:List Nat}{j:Nat}(h6:o.length=6) (hj:j < 6):(o.map nv)[j]?=some (nv (o.getD j 0)):=by
 rw[hV_,gB,gA (by omega)];rfl
theorem Znn {i:Nat}{o:List Nat}(ho:o.length=6) (H:Holds w (blk b tOr (o.map nv)::L)) (hi:i < 6)
  (k:∀ w',Same w w'->Holds w' (blk b tOr ((front o i).map nv)::L)->K (nv (o.getD i 0)) w'):Cl prog 249 #[pt b,nv i] w K:=by
 refine Tz249 ?_;unfold Vz249;refine r_nc (Zb4 (by omega) (r_ld 0 H rfl (by rw[Nat.zero_add];exact Zgt ho hi) ?_))
 have hlen:∀ j,j<=i->(o.take (j+1)++((o.drop j).take (i - j)++o.drop (i+1))).length=6:=λj hj=>by
  simp;omega
 refine Zac (λx w'=>∃ j:Nat,j<=i/\x=nv j/\Same w w'/\Holds w' (blk b tOr ((o.take (j+1)++((o.drop j).take (i - j)++o.drop (i+1))).map nv)::L)) (λx _=>(intOf x).toNat) ⟨i,Nat.le_refl _,rfl,.refl w,?_⟩ ?_
 ·rw[Nat.sub_self,take_zero,hO_,hN_];exact H
 clear H;rintro _ _ w1 ⟨j,hj,rfl,S,H⟩;have h6:=hlen j hj;refine r_gtr (r_ifD (λh=>?_) λh=>?_)
 ·refine r_dr H λw2 S2 H2=>?_;refine Zah (by omega) (by omega) ?_;refine r_nc (Zb4 (by omega) (r_ld 0 H2 rfl (by rw[Nat.zero_add];exact Zgt h6 (by omega)) ?_));refine r_nc (Zb4 (by omega) ?_);refine r_st 0 H2 rfl (by rw[hS_];omega) rfl λw3 S3 H3=>?_;rw[gJ,Nat.zero_add,<-List.map_set] at H3
  have e:(o.take (j+1)++((o.drop j).take (i - j)++o.drop (i+1))).set j ((o.take (j+1)++((o.drop j).take (i - j)++o.drop (i+1))).getD (j - 1) 0)=o.take (j - 1+1)++((o.drop (j - 1)).take (i - (j - 1))++o.drop (i+1)):=by
   have hx:(o.take (j+1)++((o.drop j).take (i - j)++o.drop (i+1))).getD (j - 1) 0=o.getD (j - 1) 0:=by
    rw[gB,gB,gM (by simp;omega),hI_ (by omega)]
   rw[hx];obtain⟨m,rfl⟩:∃ m,j=m+1:=⟨j - 1,by omega⟩;rw[Nat.add_sub_cancel]
   have h1:o.drop m=o.getD m 0::o.drop (m+1):=by
    rw[gB,gA (by omega)];exact (List.getElem_cons_drop (by omega)).symm
   have h2:o.take (m+1+1)=o.take (m+1)++[o.getD (m+1) 0]:=by
    refine Zdg ?_;rw[gB,gA (by omega)];rfl
   rw[h1,show i - m=(i - (m+1))+1 by omega,List.take_succ_cons,h2,gI,set_append_right _ _ (by simp;omega)]
   have h3:(o.take (m+1)).length=m+1:=by simp;omega
   rw[h3,Nat.sub_self];rfl
  rw[e] at H3;refine Zah (by omega) (by omega) ?_;refine r_ke ⟨⟨j - 1,by omega,rfl,(S.trans S2).trans S3,H3⟩,?_⟩;simp only[nv,intOf,gC];omega
 ·obtain rfl:j=0:=by omega
  refine r_nc (Zb4 (m:=0) (by omega) ?_);refine r_st 0 H rfl (by rw[hS_];omega) rfl λw2 S2 H2=>?_;rw[gJ,Nat.zero_add,<-List.map_set] at H2
  have e:(o.take (0+1)++((o.drop 0).take (i - 0)++o.drop (i+1))).set 0 (o.getD i 0)=front o i:=by
   unfold front
   cases o with
   |nil=>simp at ho
   |cons x o=>rfl
  rw[e] at H2;exact k _ (S.trans S2) H2
theorem Zuc {t:Nat}{o:List Nat}(ho:o.length=6) (H:Holds w (blk b tOr (o.map nv)::L)) (ht:t∈o)
  (k:∀ w',Same w w'->Holds w' (blk b tOr ((front o (o.idxOf t)).map nv)::L)->K (nv (o.idxOf t)) w'):Cl prog 230 #[pt b,nv t] w K:=by
 refine Tz230 ?_;unfold Vz230;have hlt:=Znv ht;refine Zac (λx w'=>∃ i:Nat,i<=o.idxOf t/\x=nv i/\w=w') (λx _=>6 - (intOf x).toNat) ⟨0,Nat.zero_le _,rfl,rfl⟩ ?_;rintro _ _ _ ⟨i,hi,rfl,rfl⟩;refine r_nc (Zb4 (by omega) (r_ld 0 H rfl (by rw[Nat.zero_add];exact Zgt ho (by omega)) ?_));refine r_neq (r_ifN (λh=>?_) λh=>?_)
 ·have hne:i≠o.idxOf t:=by
   rintro rfl;rw[Zzu ht] at h;exact h rfl
  refine Za0 (by omega) ?_;refine r_ke ⟨⟨i+1,by omega,rfl,rfl⟩,?_⟩;simp only[nv,intOf,gC];omega
 ·have hx:o[i]=t:=by
   have:o.getD i 0=t:=by omega
   rw[gB,gA (by omega)] at this;exact this
  have hie:i=o.idxOf t:=by
   rcases hU_ i (o.idxOf t) with h1|h1
   ·exact absurd hx (by simpa using List.not_of_lt_findIdx (p:=(·==t)) h1)
   ·omega
  subst hie;exact Znn ho H (by omega) k
theorem Zx6 (A:List Nat) (m x:Nat):(A++List.replicate (m+1) 0).set A.length x=A++[x]++List.replicate m 0:=by
 rw[set_append_right _ _ (Nat.le_refl _),Nat.sub_self,replicate_succ,gJ];simp
abbrev ord0:List Nat:=[0,1,2,3,4,5]
theorem Zgp {v:Value}{l:List Nat}(H:Holds w (SL nv tI v l::L)) (hl:l.length<=1000000) (hp:∀ p∈l,p < 6)
  (k:∀ v' w',Same w w'->Holds w' (SL nv tI v' (pickE ord0 l).2::SL nv tI v l::L)->K v' w'):Cl prog 205 #[v] w K:=by
 refine Tz205 ?_;unfold Vz205
 have hmem:∀ p∈l,p∈ord0:=λp h=>by
  have:=hp p h
  rcases (show p=0\/p=1\/p=2\/p=3\/p=4\/p=5 by omega) with h|h|h|h|h|h <;> rw[h] <;> simp
 refine Ziq H λw1 S1 H1=>?_
 have hz:(zeroP prog tOr).cells.toList=[nv 0,nv 0,nv 0,nv 0,nv 0,nv 0]:=by kernel_rfl
 refine r_new H1 λob w2 S2 H2=>?_;rw[hz] at H2;refine r_stA 0 H2 (vs:=[nv 0,nv 1,nv 2,nv 3,nv 4,nv 5]) rfl (Nat.le_refl 6) rfl rfl λw3 S3 H3=>?_;replace H3:Holds w3 (blk ob tOr (ord0.map nv)::SL nv tI v l::L):=H3;refine r_lnS 1 H3 rfl ?_;refine r_ms (f:=nv) (x:=0) H3 rfl (by omega) (by omega) λq w4 S4 H4=>?_;rw[gC] at H4 ⊢;have H5:=H4.close 0 rfl;simp only[gJ,gP,length_nil,Nat.add_zero] at H5;generalize hv:Value.slice (some ⟨q,0,none⟩) l.length l.length=v2 at H5 ⊢;refine r_lnS 2 H5 rfl ?_
 have hinv:∀ i,i<=l.length->(∀ x,x∈(pickE ord0 (l.take i)).1↔x∈ord0)/\(pickE ord0 (l.take i)).1.length=6/\(pickE ord0 (l.take i)).2.length=i:=λi hi=>by
  have:=Zf3 (o:=ord0) (l:=l.take i) λc hc=>hmem c (mem_of_mem_take hc);exact⟨this.1,this.2.1,by rw[this.2.2.1,gN];omega⟩
 refine Zac (λx w'=>∃ i:Nat,i<=l.length/\x=nv i/\Same w w'/\Holds w' (blk ob tOr ((pickE ord0 (l.take i)).1.map nv)::SL nv tI v2 ((pickE ord0 (l.take i)).2++List.replicate (l.length - i) 0)::SL nv tI v l::L)) (λx _=>l.length - (intOf x).toNat)
  ⟨0,Nat.zero_le _,rfl,((S1.trans S2).trans S3).trans S4,by rw[take_zero,Nat.sub_zero];exact H5.swap⟩ ?_
 clear H H1 H2 H3 H4 H5 S1 S2 S3 S4;rintro _ _ w5 ⟨i,hi,rfl,S,H⟩;obtain⟨hm,h6,hln⟩:=hinv i hi;refine r_lss (r_ifD (λh=>?_) λh=>?_)
 ·have hlt:i < l.length:=by omega
  have hg:l.take (i+1)=l.take i++[l[i]]:=by rw[gO,gA hlt];rfl
  refine Zaa 2 H rfl (gA hlt) ?_;have hc:l[i]∈(pickE ord0 (l.take i)).1:=(hm _).2 (hmem _ (getElem_mem _));refine Zuc h6 H hc λw6 S6 H6=>?_;refine Zao 1 H6 (j:=i) ((pickE ord0 (l.take i)).1.idxOf l[i]) rfl (by rw[gD,hln,gP];omega) rfl λw7 S7 H7=>?_;refine Za0 (by omega) ?_
  have e1:((pickE ord0 (l.take i)).2++List.replicate (l.length - i) 0).set i ((pickE ord0 (l.take i)).1.idxOf l[i])=(pickE ord0 (l.take (i+1))).2++List.replicate (l.length - (i+1)) 0:=by
   rw[hg,Zfa];have:=Zx6 (pickE ord0 (l.take i)).2 (l.length - (i+1)) ((pickE ord0 (l.take i)).1.idxOf l[i]);rw[hln,show l.length - (i+1)+1=l.length - i by omega] at this;exact this
  have e2:front (pickE ord0 (l.take i)).1 ((pickE ord0 (l.take i)).1.idxOf l[i])=(pickE ord0 (l.take (i+1))).1:=by rw[hg,Zfa];rfl
  replace H7:Holds w7 (blk ob tOr ((front (pickE ord0 (l.take i)).1 ((pickE ord0 (l.take i)).1.idxOf l[i])).map nv)::SL nv tI v2 (((pickE ord0 (l.take i)).2++List.replicate (l.length - i) 0).set i ((pickE ord0 (l.take i)).1.idxOf l[i]))::SL nv tI v l::L):=H7;rw[e1,e2] at H7;refine r_ke ⟨⟨i+1,by omega,rfl,(S.trans S6).trans S7,H7⟩,?_⟩;simp only[nv,intOf,gC];omega
 ·obtain rfl:i=l.length:=by omega
  rw[hF_,Nat.sub_self,replicate_zero,gU] at H;exact k _ _ S H.drop
theorem Write_spec {v:Value}{l:List Nat}{t:Nat}(H:Holds w (W01.WrR wb bs n::SL nv tI v l::L)) (ht:2<=t/\t<=6) (hl0:l≠[]) (hll:l.length<=32767) (hp:∀ p∈l,p < t) (hl:bs.length<=10000000000) (hn:n<=bs.length/8)
  (k:∀ w',Same w w'->Holds w' (W01.WrR wb (bs++picksB l t) n::SL nv tI v l::L)->K (iv 0) w'):Cl prog 194 #[pt wb,v,nv t] w K:=by
 refine Tz194 ?_;unfold Vz194;have h0:0 < l.length:=gZ.2 hl0;refine Zab (r_vf ?_);refine r_cl (K:=λx w'=>x=.bool true/\Same w w'/\Holds w' (W01.WrR wb bs n::SL nv tI v l::L)) ?_ ?_
 ·refine Tz204 ?_;unfold Vz204;refine r_new H λtb w1 S1 H1=>?_;replace H1:Holds w1 (blk tb tI [nv t]::W01.WrR wb bs n::SL nv tI v l::L):=H1;refine Za2 (λx w'=>w1=w'/\x=.bool false) ?_ ?_
  rotate_left
  ·refine r_ld 0 H1 rfl rfl ?_;refine r_cl (K:=λx w'=>w1=w'/\x=.bool true) ?_ ?_
   ·refine Tz226 ?_;unfold Vz226;refine r_geq (r_vtD (by omega) ?_);exact r_leq ⟨rfl,by rw[decide_eq_true (by omega)]⟩
   rintro _ _ ⟨rfl,rfl⟩;refine Zal (r_vf ?_);refine r_lnS 2 H1 rfl ?_;refine r_eql (r_vfE (by omega) ?_);refine r_lnS 2 H1 rfl ?_;exact r_gtr (r_ke ⟨rfl,by rw[decide_eq_false (by omega)]⟩)
  rintro _ _ _ ⟨rfl,rfl⟩;refine r_vf ?_;refine r_mf (.func (.func 228) #[] #[pt tb]) (by kernel_rfl) ?_;refine D11.Zdh H1 2 rfl (by omega) (λx hx Q hQ=>?_) ?_
  ·have:=hp x hx;refine r_inv (f:=228) (args:=#[nv x,pt tb]) (by kernel_rfl) ?_;refine Tz228 ?_;unfold Vz228;refine r_lss (r_vfD (by omega) ?_);refine r_ld 0 H1 rfl rfl ?_;refine r_geq ?_;rw[decide_eq_false (by omega)];exact hQ
  ·exact Zci ⟨rfl,S1,H1.drop⟩
 clear H;rintro _ w1 ⟨rfl,S,H⟩;refine Zal (r_vf ?_);refine Zav (by omega) (by omega) ?_;refine W01.Put_spec (n:=3) H (by omega) hn (by omega) (by omega) λw2 S2 H2=>?_;refine r_lnS 1 H2 rfl ?_;refine Zav (by omega) (by omega) ?_;have h3:(bitsOf t 3).length=3:=Za4 _ _;have h15:(bitsOf l.length 15).length=15:=Za4 _ _;refine W01.Put_spec (n:=15) H2 (by rw[gD];omega) (by rw[gD];omega) (by omega) (by omega) λw3 S3 H3=>?_;refine Zgp H3.swap (by omega) (λp h=>by have:=hp p h;omega) λpv w4 S4 H4=>?_
 have hinv:=Zf3 (o:=ord0) (l:=l) λc hc=>by
  have:=hp c hc
  rcases (show c=0\/c=1\/c=2\/c=3\/c=4\/c=5 by omega) with h|h|h|h|h|h <;> rw[h] <;> simp
 obtain⟨_,_,hpl,hp6⟩:=hinv;generalize hP:(pickE ord0 l).2=P at *;replace H4:Holds w4 (W01.WrR wb (bs++bitsOf t 3++bitsOf l.length 15) n::SL nv tI pv P::SL nv tI v l::L):=(by have h_:=Holds.ord 3 [2,0,1] H4 rfl;exact h_);refine r_lnS 1 H4 rfl ?_
 refine Zac (λx w'=>∃ i:Nat,i<=P.length/\x=nv i/\Same w w'/\Holds w' (W01.WrR wb (bs++bitsOf t 3++bitsOf l.length 15++onesB (P.take i)) n::SL nv tI pv P::SL nv tI v l::L)) (λx _=>P.length - (intOf x).toNat)
  ⟨0,Nat.zero_le _,rfl,((S.trans S2).trans S3).trans S4,by rw[take_zero,onesB,List.flatMap_nil,gU];exact H4⟩ ?_
 clear H H2 H3 H4 S S2 S3 S4;rintro _ _ w5 ⟨i,hi,rfl,S,H⟩;refine r_lss (r_ifD (λh=>?_) λh=>?_)
 ·have hlt:i < P.length:=by omega
  have hg:P.take (i+1)=P.take i++[P[i]]:=by rw[gO,gA hlt];rfl
  have h6:=hp6 _ (getElem_mem hlt);have hol:=Zgu (l:=P.take i) (m:=6) λp h=>hp6 p (mem_of_mem_take h);rw[gN] at hol
  have hal:(bs++bitsOf t 3++bitsOf l.length 15++onesB (P.take i)).length<=bs.length+18+6*32767:=by rw[gD,gD,gD];omega
  have hal2:bs.length<=(bs++bitsOf t 3++bitsOf l.length 15++onesB (P.take i)).length:=by rw[gD,gD,gD];omega
  refine Zaa 1 H rfl (gA hlt) ?_;generalize P[i]=a at *;replace h6:a < 6:=h6;refine Za0 (by omega) ?_;have hpw:2^(a+1)<=2^6:=Nat.pow_le_pow_right (by decide) (by omega);have hpw2:2^1<=2^(a+1):=Nat.pow_le_pow_right (by decide) (by omega);refine Zc8 (s:=1) (n:=a+1) (by omega) ?_;rw[Nat.one_mul,Nat.mod_eq_of_lt (by omega)];refine Zoo (s:=2^(a+1)) (t:=2) (by omega) (by omega) ?_;refine Za0 (by omega) ?_;refine W01.Put_spec (n:=a+1) H (by omega) (by omega) (by omega) (by omega) λw6 S6 H6=>?_;rw[Zub,gI,<-Zqv,<-hg] at H6;refine Za0 (by omega) ?_;refine r_ke ⟨⟨i+1,by omega,rfl,S.trans S6,H6⟩,?_⟩;simp only[nv,intOf,gC];omega
 ·obtain rfl:i=P.length:=by omega
  rw[hF_] at H;refine k _ S ?_;unfold picksB;rw[hP,<-gI,<-gI];exact Holds.dropAt H 1
end P13
namespace F08
variable {w:World}{L:List HProp}{K:KT}
def cnt (l:List Nat) (size:Nat):List Nat:=(List.range size).map λx=>l.count x
theorem Zb8 (l:List Nat) (size:Nat):(cnt l size).length=size:=by unfold cnt;simp
theorem Zea {l:List Nat}{size x:Nat}(h:x < size):(cnt l size)[x]?=some (l.count x):=by
 unfold cnt;rw[hV_,getElem?_range h];rfl
theorem Zxh {l:List Nat}{size x:Nat}(h:x < size):(cnt l size).set x (l.count x+1)=cnt (l++[x]) size:=by
 apply ext_getElem?;intro i;rw[getElem?_set]
 by_cases e:x=i
 ·subst e;rw[if_pos rfl,if_pos (by rw[Zb8];exact h),Zea h,List.count_append];simp
 ·rw[if_neg e];rcases hU_ i size with q|q
  ·rw[Zea q,Zea q,List.count_append,List.count_singleton]
   have:(x==i)=false:=by simpa using e
   rw[this];rfl
  ·rw[getElem?_eq_none (by rw[Zb8];exact q),getElem?_eq_none (by rw[Zb8];exact q)]
theorem Zss (size:Nat):cnt [] size=List.replicate size 0:=by
 unfold cnt;apply ext_getElem?;intro i;rw[hV_,getElem?_replicate];split
 ·rename_i h;rw[getElem?_range h];rfl
 ·rename_i h;rw[getElem?_eq_none (by simp;omega)];rfl
theorem Zho {v:Value}{l:List Nat}{i n:Nat}(H:Holds w L) (hi:L[i]?=some (SL nv tI v l)) (h3:3<=n) (hn:n<=258) (hl:l.length<=1000000000) (hb:∀ x∈l,x < n)
  (k:∀ v' w',Same w w'->Holds w' (SL nv tI v' (cnt l n)::L)->K (.tuple #[v',iv 0]) w'):Cl prog 222 #[v,nv n] w K:=by
 refine Tz222 ?_;unfold Vz222;refine Za2 (λt w'=>w=w'/\t=.bool false) ?_ ?_
 rotate_left
 ·refine r_lss (r_vfD (by omega) ?_);refine r_gtr (r_ke ⟨rfl,by rw[decide_eq_false (by omega)]⟩)
 rintro _ _ _ ⟨rfl,rfl⟩;refine r_vf ?_;refine r_ms (f:=nv) (x:=0) H rfl (by omega) (by omega) λob w2 S2 H2=>?_;rw[gC] at H2 ⊢;have H3:=H2.close 0 rfl;simp only[gJ,gP,length_nil,Nat.add_zero] at H3;generalize hv:Value.slice (some ⟨ob,0,none⟩) n n=ov at H3 ⊢;refine r_lnS i H hi ?_;refine Zac (λq w'=>∃ (t:Nat),q=nv t/\t<=l.length/\Same w w'/\Holds w' (SL nv tI ov (cnt (l.take t) n)::L)) (λq _=>l.length - (intOf q).toNat) ⟨0,rfl,Nat.zero_le _,S2,by rw[take_zero,Zss];exact H3⟩ ?_;clear H H2 H3 S2;rintro _ _ w3 ⟨t,rfl,ht,S3,H3⟩;refine r_lss (r_ifD (λh=>?_) λh=>?_)
 ·have hlt:t < l.length:=by omega
  have hx:=hb _ (getElem_mem hlt)
  have e:l.take (t+1)=l.take t++[l[t]]:=by rw[gO,gA hlt];rfl
  have hc:(l.take t).count l[t]<=t:=Nat.le_trans List.count_le_length (by rw[gN];omega);refine Zaa (i+1) H3 (by rw[gF];exact hi) (gA hlt) ?_;generalize l[t]=x at *;refine Za2 (λz w'=>w3=w'/\z=.bool false) ?_ ?_
  rotate_left
  ·refine r_lss (r_vfD (by omega) ?_);exact r_geq (r_ke ⟨rfl,by rw[decide_eq_false (by omega)]⟩)
  rintro _ _ _ ⟨rfl,rfl⟩;refine r_vf ?_;refine Zaa 0 H3 rfl (Zea hx) ?_;refine Za0 (by omega) ?_;refine Zao 0 H3 ((l.take t).count x+1) rfl (by rw[Zb8];exact hx) rfl λw4 S4 H4=>?_;replace H4:Holds w4 (SL nv tI ov ((cnt (l.take t) n).set x ((l.take t).count x+1))::L):=H4;rw[Zxh hx,<-e] at H4;refine Za0 (by omega) (r_ke ⟨⟨t+1,rfl,by omega,S3.trans S4,H4⟩,?_⟩);simp only[nv,intOf,gC];omega
 ·rw[gK (by omega)] at H3;exact k ov w3 S3 H3
end F08
namespace F08
variable {w:World}{L:List HProp}{K:KT}
def cost (l lens:List Nat):Nat:=(l.map λx=>lens.getD x 0).sum
def costD (l lens:List Nat) (t:Nat):Nat:=((List.range t).map λx=>l.count x*lens.getD x 0).sum
theorem Zo5 (l:List Nat) (x:Nat):(l++[x]).sum=l.sum+x:=by simp
theorem Zfb (l lens:List Nat) (t:Nat):costD l lens (t+1)=costD l lens t+l.count t*lens.getD t 0:=by
 unfold costD;rw[List.range_succ,map_append,hR_,map_nil,Zo5]
theorem Zio (y:Nat) (l lens:List Nat):∀ t,costD (y::l) lens t=costD l lens t+if y < t then lens.getD y 0 else 0
 |0=>by simp[costD]
 |t+1=>by
  rw[Zfb,Zfb,Zio y l lens t,List.count_cons]
  by_cases e:y=t
  ·subst e;rw[if_neg (Nat.lt_irrefl _),if_pos (by simp),if_pos (by omega),Nat.add_mul,Nat.one_mul];omega
  ·have:(y==t)=false:=by simpa using e
   rw[this];simp only[Bool.false_eq_true,if_false,Nat.add_zero]
   by_cases q:y < t
   ·rw[if_pos q,if_pos (by omega)];omega
   ·rw[if_neg q,if_neg (by omega),Nat.add_zero,Nat.add_zero]
theorem Zjp {lens:List Nat}(h:∀ x∈lens,x<=20) (y:Nat):lens.getD y 0<=20:=by
 rw[gB];rcases hU_ y lens.length with q|q
 ·rw[gA q];exact h _ (getElem_mem q)
 ·rw[getElem?_eq_none q];exact Nat.zero_le _
theorem Zvs {lens:List Nat}(h:∀ x∈lens,x<=20) (t:Nat):∀ l:List Nat,costD l lens t<=l.length*20
 |[]=>by
  have:∀ t,costD [] lens t=0:=by
   intro t
   induction t with
   |zero=>rfl
   |succ t ih=>rw[Zfb,ih];simp
  rw[this];exact Nat.zero_le _
 |y::l=>by
  have h1:=Zvs h t l;have h2:=Zjp h y;rw[Zio,length_cons,Nat.add_mul]
  split <;> omega
theorem Zj9 {lens:List Nat}(h:∀ x∈lens,x<=20):∀ l:List Nat,cost l lens<=l.length*20
 |[]=>Nat.le_refl _
 |y::l=>by
  have h1:=Zj9 h l;have h2:=Zjp h y;show ((lens.getD y 0::l.map λx=>lens.getD x 0):List Nat).sum<=_;unfold cost at h1;rw[hQ_,length_cons,Nat.add_mul];omega
theorem Zjf {v:Value}{l:List Nat}{i:Nat}(H:Holds w L) (hi:L[i]?=some (SL nv tI v l)) (hl:l.length<=1000000) (hb:∀ x∈l,x<=1099511627776) (k:K (.bool true) w):Cl prog 235 #[v] w K:=by
 refine Tz235 ?_;unfold Vz235;refine D11.Zdh H i hi hl (λx hx Q hQ=>?_) (Zci k);have h1:=hb x hx;refine r_inv (f:=250) (args:=#[nv x]) (by kernel_rfl) ?_;refine Tz250 ?_;unfold Vz250;refine r_cl (K:=λz w'=>w=w'/\z=.bool true) ?_ ?_
 ·refine Tz251 ?_;unfold Vz251;refine r_geq (r_vtD (by omega) ?_);exact r_leq ⟨rfl,by rw[decide_eq_true (by omega)]⟩
 rintro _ _ ⟨rfl,rfl⟩;exact Zal hQ
theorem Zeo {a b:Nat}(h:a+b<=1099511627776) (k:K (nv (a+b)) w):Cl prog 236 #[nv a,nv b] w K:=by
 refine Tz236 ?_;unfold Vz236;refine Zad (by omega) (r_min ?_);rw[show min (((a+b:Nat):Int)) 1099511627776=((a+b:Nat):Int) by omega];exact k
theorem Zl0 {v v2:Value}{l lens:List Nat}{i j:Nat}(H:Holds w L) (hi:L[i]?=some (SL nv tI v l)) (hj:L[j]?=some (SL nv tI v2 lens)) (hl:l.length<=10000000) (hn:lens.length<=1000000) (h20:∀ x∈lens,x<=20) (hx:∀ x∈l,x < lens.length)
  (k:K (.tuple #[nv (cost l lens),iv 0]) w):Cl prog 211 #[v,v2] w K:=by
 refine Tz211 ?_;unfold Vz211;refine Zjf H hj hn (λx hx=>by have:=h20 x hx;omega) (Zal (r_vf ?_));refine r_lnS i H hi ?_;refine Zag (λp q w'=>∃ t:Nat,p=nv (cost (l.take t) lens)/\q=nv t/\t<=l.length/\w=w') (λ_ q _=>l.length - (intOf q).toNat) ⟨0,rfl,rfl,Nat.zero_le _,rfl⟩ ?_;rintro _ _ _ _ ⟨t,rfl,rfl,ht,rfl⟩;refine r_lss (r_ifD (λh=>?_) λh=>?_)
 ·have hlt:t < l.length:=by omega
  have e:l.take (t+1)=l.take t++[l[t]]:=by rw[gO,gA hlt];rfl
  have hxt:=hx _ (getElem_mem hlt);have hc:=Zj9 h20 (l.take t);rw[gN] at hc;refine Zaa i H hi (gA hlt) ?_;generalize l[t]=x at *;have hg:=Zjp h20 x
  have e2:cost (l.take (t+1)) lens=cost (l.take t) lens+lens.getD x 0:=by
   unfold cost;rw[e,map_append,hR_,map_nil,Zo5]
  refine Za2 (λz w'=>w=w'/\z=.bool false) ?_ ?_
  rotate_left
  ·refine r_lss (r_vfD (by omega) ?_);refine r_lnS j H hj (r_geq (r_ke ⟨rfl,by rw[decide_eq_false (by omega)]⟩))
  rintro _ _ _ ⟨rfl,rfl⟩;refine r_vf ?_;refine Zaa j H hj (x:=lens.getD x 0) (by rw[gB,gA hxt];rfl) ?_;refine Zeo (by omega) ?_;rw[<-e2];refine Za0 (by omega) (r_ke ⟨⟨t+1,rfl,rfl,by omega,rfl⟩,?_⟩);simp only[nv,intOf,gC];omega
 ·rw[gK (by omega)];exact k
theorem Zd8 {n:Nat}(hn:n<=1000000000) (k:K (nv ((n+49)/50)) w):Cl prog 209 #[nv n] w K:=by
 refine Tz209 ?_;unfold Vz209;refine r_leq (r_ifD (λh=>?_) λh=>?_)
 ·obtain rfl:n=0:=by omega
  exact k
 ·refine Zah (by omega) (by omega) ?_;refine r_quo (by omega) (by omega) (by omega) ?_;rw[show ((n - 1:Nat):Int)/50=(((n - 1)/50:Nat):Int) by omega];refine Za0 (by omega) ?_;rw[show (n - 1)/50+1=(n+49)/50 by omega];exact k
def addL (a b:List Nat):List Nat:=List.zipWith (·+·) a b
theorem Zvx {v v2:Value}{a b:List Nat}{i j:Nat}(H:Holds w L) (hi:L[i]?=some (SL nv tI v a)) (hj:L[j]?=some (SL nv tI v2 b)) (hl:a.length<=1000000) (hab:b.length=a.length) (ha:∀ x∈a,x<=500000000000) (hb:∀ x∈b,x<=500000000000)
  (k:∀ v' w',Same w w'->Holds w' (SL nv tI v' (addL a b)::L)->K (.tuple #[v',iv 0]) w'):Cl prog 246 #[v,v2] w K:=by
 refine Tz246 ?_;unfold Vz246;refine Za2 (λt w'=>w=w'/\t=.bool false) ?_ ?_
 rotate_left
 ·refine r_lnS i H hi (r_lnS j H hj (r_neq (r_vfN (by omega) ?_)));refine Zjf H hi hl (λx hx=>by have:=ha x hx;omega) (Zal (r_vf ?_));exact Zjf H hj (by omega) (λx hx=>by have:=hb x hx;omega) (Zal (r_ke ⟨rfl,rfl⟩))
 rintro _ _ _ ⟨rfl,rfl⟩;refine r_vf ?_;refine r_lnS i H hi ?_;refine r_ms (f:=nv) (x:=0) H rfl (by omega) (by omega) λob w2 S2 H2=>?_;rw[gC] at H2 ⊢;have H3:=H2.close 0 rfl;simp only[gJ,gP,length_nil,Nat.add_zero] at H3;generalize hv:Value.slice (some ⟨ob,0,none⟩) a.length a.length=ov at H3 ⊢;refine r_lnS 0 H3 rfl ?_;rw[gP];refine Zac (λq w'=>∃ (t:Nat),q=nv t/\t<=a.length/\Same w w'/\Holds w' (SL nv tI ov (addL (a.take t) (b.take t)++List.replicate (a.length - t) 0)::L)) (λq _=>a.length - (intOf q).toNat) ⟨0,rfl,Nat.zero_le _,S2,H3⟩ ?_;clear H H2 H3 S2;rintro _ _ w3 ⟨t,rfl,ht,S3,H3⟩;refine r_lss (r_ifD (λh=>?_) λh=>?_)
 ·have hlt:t < a.length:=by omega
  have hlt2:t < b.length:=by omega
  have h1:=ha _ (getElem_mem hlt);have h2:=hb _ (getElem_mem hlt2)
  have e1:a.take (t+1)=a.take t++[a[t]]:=by rw[gO,gA hlt];rfl
  have e2:b.take (t+1)=b.take t++[b[t]]:=by rw[gO,gA hlt2];rfl
  refine r_dr H3 λw4 S4 H4=>?_;refine Zaa (i+1) H4 (by rw[gF];exact hi) (gA hlt) ?_;refine Zaa (j+1) H4 (by rw[gF];exact hj) (gA hlt2) ?_;generalize a[t]=x at *;generalize b[t]=y at *
  have hlen:(addL (a.take t) (b.take t)).length=t:=by unfold addL;rw[List.length_zipWith,gN,gN];omega
  refine Zeo (by omega) ?_;refine Zao 0 H4 (x+y) rfl (by rw[gD,hlen,gP];omega) rfl λw5 S5 H5=>?_;refine Za0 (by omega) (r_ke ⟨⟨t+1,rfl,by omega,S3.trans (S4.trans S5),?_⟩,?_⟩)
  ·replace H5:Holds w5 (SL nv tI ov ((addL (a.take t) (b.take t)++List.replicate (a.length - t) 0).set t (x+y))::L):=H5;rw[set_append_right _ _ (by omega),hlen,Nat.sub_self,show a.length - t=(a.length - (t+1))+1 by omega,replicate_succ,gJ] at H5
   have e3:addL (a.take (t+1)) (b.take (t+1))=addL (a.take t) (b.take t)++[x+y]:=by
    unfold addL;rw[e1,e2,List.zipWith_append (by rw[gN,gN];omega)];rfl
   rw[e3,gI];exact H5
  ·simp only[nv,intOf,gC];omega
 ·obtain rfl:t=a.length:=by omega
  rw[hF_,gK (by omega),Nat.sub_self,replicate_zero,gU] at H3;exact k ov w3 S3 H3
end F08
namespace T12
variable {w:World}{L:List HProp}{K:KT}
class Bnds where
 l:List Int
 h:l.length=4
variable [Bnds]
def bnd:List Int:=Bnds.l
def numAt (n t:Nat):Nat:=2+((bnd.take t).filter λb=>decide (b<=(n:Int))).length
def num (n:Nat):Nat:=numAt n 4
theorem Zpt (n:Nat){t:Nat}(h:t < 4):numAt n (t+1)=numAt n t+if bnd.getD t 0<=(n:Int) then 1 else 0:=by
 unfold numAt
 have hl:t < bnd.length:=by unfold bnd;rw[Bnds.h];exact h
 rw[gO,gA hl,List.filter_append,gD,gB,gA hl];show 2+(_+(List.filter _ [bnd[t]]).length)=_
 by_cases e:bnd[t]<=(n:Int)
 ·rw[List.filter_cons_of_pos (by simpa using e)]
  show _=_+if bnd[t]<=(n:Int) then 1 else 0
  rw[if_pos e];simp;omega
 ·rw[List.filter_cons_of_neg (by simpa using e)]
  show _=_+if bnd[t]<=(n:Int) then 1 else 0
  rw[if_neg e];simp
def BndOk (L:List HProp):Prop:=∀ w',Holds w' L->∃ e z,w'.heap[1]?=some (.cells (bnd.map iv).toArray e z)
theorem BndOk.up {Q:HProp}(h:BndOk L):BndOk (Q::L):=λw' H=>h w' H.drop
theorem Znf {n:Nat}(H:Holds w L) (hb:BndOk L) (k:K (nv (num n)) w):Cl prog 244 #[nv n] w K:=by
 refine Tz244 ?_;unfold Vz244;obtain⟨e,z,hh⟩:=hb w H;refine Zyp (p:=⟨1,0,none⟩) (cs:=(bnd.map iv).toArray) (by simp[bnd,Bnds.h]) (λj v hv=>?_) ?_
 ·have e1:(⟨1,0,none⟩:Addr).add j=⟨1,j,none⟩:=by
   unfold Addr.add;split
   ·rename_i q;rw[q]
   ·simp
  rw[e1];simp only[World.cell?,hh];exact hv
 refine Zag (λp q w'=>∃ t:Nat,p=nv (numAt n t)/\q=nv t/\t<=4/\numAt n t<=2+t/\w=w') (λ_ q _=>4 - (intOf q).toNat) ⟨0,rfl,rfl,by omega,Nat.le_refl _,rfl⟩ ?_;rintro _ _ _ _ ⟨t,rfl,rfl,ht,hle,rfl⟩;refine r_lss (r_ifD (λh=>?_) λh=>?_)
 ·have hlt:t < 4:=by omega
  have hs:=Zpt n hlt
  have hl:t < bnd.length:=by unfold bnd;rw[Bnds.h];exact hlt
  refine Znw (iv (bnd.getD t 0)) (by omega) (by omega) (by
   rw[gC,hV_,gA hl,gB,gA hl];rfl) ?_
  refine r_geq (r_ifD (λq=>?_) λq=>?_)
  ·rw[if_pos (by omega)] at hs;refine Za0 (by omega) (Za0 (by omega) (r_ke ⟨⟨t+1,by rw[hs],rfl,by omega,by omega,rfl⟩,?_⟩));simp only[nv,intOf,gC];omega
  ·rw[if_neg (by omega)] at hs;refine Za0 (by omega) (r_ke ⟨⟨t+1,by rw[hs];rfl,rfl,by omega,by omega,rfl⟩,?_⟩);simp only[nv,intOf,gC];omega
 ·obtain rfl:t=4:=by omega
  exact k
end T12
namespace F08
variable {w:World}{L:List HProp}{K:KT}
theorem Zmz {b o m c j:Nat}{cs:List Value}{xs:List Nat}(H:Holds w L) (hj:L[j]?=some (blk b tI cs)) (hcs:(cs.drop o).take m=xs.map nv) (hm:m=xs.length) (hne:0 < xs.length) (hn:xs.length<=1000000000)
  (k:∀ v' w',Same w w'->Holds w' (SL nv tI v' xs::L)->K v' w'):Cl prog 161 #[.slice (some ⟨b,o,none⟩) m c] w K:=by
 refine Tz161 ?_;unfold Vz161;refine Zs9 _ _ _ (r_vf ?_);refine r_bsK (e:=tI) [] H (by kernel_rfl) λb0 w1 S1 H1=>?_;have H2:=Holds.slb' (f:=nv) (xs:=[]) (sp:=[]) H1 0 rfl;rw[gJ] at H2;refine r_apO (f:=nv) (xs:=[]) (ys:=xs) (sp:=[]) (l:=0) (c:=0) H2 0 (j+1) rfl (by rw[gF];exact hj) hcs hm rfl rfl sg_nv (by simp only[length_nil];omega) hne λoa' sp' w2 S2 H3=>?_;rw[gJ,hO_] at H3;have H4:=H3.close 0 rfl;rw[gJ] at H4;have:=k _ w2 (S1.trans S2) H4;simpa only[length_nil,Nat.zero_add] using this
theorem Zic {v:Value}{l:List Nat}{i g:Nat}(H:Holds w L) (hi:L[i]?=some (SL nv tI v l)) (hl:l.length<=100000000) (hg:g*50 < l.length)
  (k:∀ v' w',Same w w'->Holds w' (SL nv tI v' ((l.drop (g*50)).take 50)::L)->K (.tuple #[v',iv 0]) w'):Cl prog 210 #[v,nv g] w K:=by
 refine Tz210 ?_;unfold Vz210;refine Za2 (λt w'=>w=w'/\t=.bool false) ?_ ?_
 rotate_left
 ·refine r_lss (r_vfD (by omega) ?_);refine r_lnS i H hi (Zd8 (by omega) ?_);exact r_geq (r_ke ⟨rfl,by rw[decide_eq_false (by omega)]⟩)
 rintro _ _ _ ⟨rfl,rfl⟩;refine r_vf ?_;refine r_cl (K:=λz w'=>Same w w'/\Holds w' (SL nv tI z ((l.drop (g*50)).take 50)::L)) ?_ ?_
 ·refine Tz234 ?_;unfold Vz234;refine Zdi ((g*50:Nat):Int) (by omega) (by omega) (by omega) ?_;refine r_lnS i H hi (Za0 (by omega) ?_);refine Zdi (((g+1)*50:Nat):Int) (by omega) (by omega) (by omega) ?_;refine r_min ?_;obtain⟨h,hh⟩:∃ h,h=min l.length ((g+1)*50):=⟨_,rfl⟩;rw[show min (l.length:Int) (((g+1)*50:Nat):Int)=(h:Int) by omega];obtain⟨oa,sp,rfl,H1⟩:=H.open i hi
  cases oa with
  |none=>
   obtain⟨q,⟨h2,_⟩,_⟩:=H1.front i (Za1 hi);subst h2;simp at hg
  |some a=>
   obtain⟨q,⟨h2,h3,_⟩,_⟩:=H1.front i (Za1 hi);obtain⟨b,o,s⟩:=a;simp only at h2 h3;subst h2;subst h3;refine Zsn (by omega) (by omega) ?_;rw[if_neg (by omega)];have H2:=H1.slb i (Za1 hi);rw[set_set] at H2
   have e1:Option.map (λx:Addr=>x.add (g*50*1)) (some (⟨b,0,none⟩:Addr))=some (⟨b,g*50,none⟩:Addr):=by
    show some ((⟨b,0,none⟩:Addr).add (g*50*1))=_;rw[Nat.mul_one];unfold Addr.add;split
    ·rename_i e;rw[e]
    ·simp
   rw[e1]
   have hlen:((l.drop (g*50)).take 50).length=h - g*50:=by rw[gN,gS];omega
   refine Zmz (xs:=(l.drop (g*50)).take 50) H2 (j:=i) (Za1 hi) ?_ hlen.symm (by omega) (by omega) λv' w2 S2 H3=>⟨S2,?_⟩
   ·rw[List.drop_append_of_le_length (by rw[hS_];omega),List.take_append_of_le_length (by rw[gS,hS_];omega),<-List.map_drop,<-List.map_take]
    congr 1
    rcases Nat.le_total ((g+1)*50) l.length with q|q
    ·rw[show h - g*50=50 by omega]
    ·rw[gK (by rw[gS];omega),gK (by rw[gS];omega)]
   ·have H4:=(Holds.slb' (f:=nv) (xs:=l) (sp:=sp) H3 (i+1) (by rw[gF];exact Za1 hi));have H5:=H4.close (i+1) (by rw[gW,gF];exact Za1 (Za1 hi));rw[gW,gW,set_set,set_set] at H5
    have e2:L.set i (SL nv tI (.slice (some ⟨b,0,none⟩) l.length (l.length+sp.length)) l)=L:=by
     obtain⟨p1,p2⟩:=gH.1 hi;rw[<-p2,set_getElem_self]
    rw[e2] at H5;exact H5
 rintro v' w' ⟨S2,H2⟩;exact k v' w' S2 H2
theorem Zwy (a b:List Nat) (n:Nat):addL (cnt a n) (cnt b n)=cnt (a++b) n:=by
 unfold addL;apply ext_getElem?;intro i;rw[List.getElem?_zipWith];rcases hU_ i n with q|q
 ·rw[Zea q,Zea q,Zea q,List.count_append]
 ·have e:∀ z,(cnt z n)[i]?=none:=λz=>getElem?_eq_none (by rw[Zb8];exact q);rw[e,e,e]
theorem cnt_le (l:List Nat) (n:Nat):∀ x∈cnt l n,x<=l.length:=by
 intro x hx;unfold cnt at hx;obtain⟨y,_,rfl⟩:=mem_map.1 hx;exact List.count_le_length
end F08
namespace Rw
variable {w:World}{L:List HProp}{K:KT}
abbrev tIs:Nat:=69
instance rowIs:Row prog 157 tIs (.slice none 0 0):=⟨by kernel_rfl,⟨t69,by kernel_rfl,by kernel_rfl,by decide,by kernel_rfl⟩,rfl⟩
abbrev Sw:Type:=Option Addr × Nat × Nat
abbrev sw (x:Sw):Value:=.slice x.1 x.2.1 x.2.2
theorem sg_sw (x:Sw):sg (sw x)=true:=rfl
def RI (vs:List Sw) (rs:List (List Nat)):List HProp:=(vs.zip rs).map λx=>SL nv tI (sw x.1) x.2
def RR (v:Value) (rs:List (List Nat)):HProp:=λh=>∃ vs,vs.length=rs.length/\Sat (SL sw tIs v vs::RI vs rs) h
theorem Zza {vs:List Sw}{rs:List (List Nat)}{q:Nat}{x:Sw}{l:List Nat}(hx:vs[q]?=some x) (hl:rs[q]?=some l):(RI vs rs)[q]?=some (SL nv tI (sw x) l):=by
 unfold RI;rw[hV_,(List.getElem?_zip_eq_some (z:=(x,l))).2 ⟨hx,hl⟩];rfl
theorem Zon {vs:List Sw}{rs:List (List Nat)}(h:vs.length=rs.length):(RI vs rs).length=rs.length:=by unfold RI;simp[h]
theorem Zy7 {vs:List Sw}{rs:List (List Nat)}{q:Nat}(x:Sw) (l:List Nat) (h:vs.length=rs.length):(RI vs rs).set q (SL nv tI (sw x) l)=RI (vs.set q x) (rs.set q l):=by
 unfold RI;apply ext_getElem?;intro i;rw[getElem?_set,hV_,hV_,hS_,List.length_zip,h,Nat.min_self]
 by_cases e:q=i
 ·subst e;rw[if_pos rfl]
  by_cases hq:q < rs.length
  ·rw[if_pos hq,(List.getElem?_zip_eq_some (z:=(x,l))).2 ⟨by rw[List.getElem?_set_self (by omega)],by rw[List.getElem?_set_self hq]⟩];rfl
  ·rw[if_neg hq,getElem?_eq_none (by rw[List.length_zip,hX_,hX_];omega)];rfl
 ·rw[if_neg e]
  congr 1
  apply Option.ext;rintro⟨y,m⟩;rw[List.getElem?_zip_eq_some,List.getElem?_zip_eq_some,hY_ e,hY_ e]
theorem sl_sw {v:Value}{l:List Nat}{i:Nat}(H:Holds w L) (hi:L[i]?=some (SL nv tI v l)):∃ x,v=sw x:=by
 obtain⟨oa,sp,rfl,_⟩:=H.open i hi;exact⟨(oa,_,_),rfl⟩
theorem Zz6 (H:Holds w L):Holds w (RR (.slice none 0 0) []::L):=by
 have H1:=H.nilSL sw tIs;have H2:Holds w (Sat [SL sw tIs (.slice none 0 0) []]::L):=Holds.pack (A:=[_]) H1;exact Holds.imp H2 λh hh=>⟨[],rfl,hh⟩
theorem rr_ln (i:Nat) (H:Holds w L){v:Value}{rs:List (List Nat)}{K:Value->Prop}(hi:L[i]?=some (RR v rs)) (h:K (nv rs.length)):Lnl v K:=by
 obtain⟨vs,H1⟩:=H.atEx (α:=List Sw) (Q:=λvs h=>vs.length=rs.length/\Sat (SL sw tIs v vs::RI vs rs) h) i hi λg hg=>hg;obtain⟨hl,H2⟩:=H1.atPure (Q:=Sat (SL sw tIs v vs::RI vs rs)) i (Za1 hi) λg hg=>hg;rw[set_set] at H2;have H3:=H2.front i (Za1 hi);rw[eraseIdx_set_eq] at H3;have H4:Holds w (SL sw tIs v vs::(RI vs rs++L.eraseIdx i)):=Holds.unpack H3;refine r_lnS 0 H4 rfl ?_;rw[hl];exact h
theorem Yc0 {α:Type}(i:Nat) (H:Holds w L){f:α->Value}{e:TypeId}{v:Value}{xs:List α}{k:IntKind}{j:Nat}{x:α}{J:Value->Prop}(hi:L[i]?=some (SL f e v xs)) (hx:xs[j]?=some x)
  (h:∀ p,(∀ J':Value->Prop,J' (f x)->Ld p w J')->J p):Ias 1 v (.int k (j:Int)) J:=by
 obtain⟨oa,sp,rfl,H1⟩:=H.open i hi;have hj:j < xs.length:=(gH.1 hx).1;refine Zul i H1 (Za1 hi) hj (Nat.le_refl _) λb hb=>?_;subst hb;exact h _ λJ' hJ=>Zyn i H1 (Za1 hi) hx hJ
theorem Zmp {x:Sw}{R:HProp}{v:Value}{rs':List (List Nat)}{l':List Nat}(hR:∀ h,Sat [SL nv tI (sw x) l',R] h->RR v rs' h) (N:List HProp) (i:Nat){L':List HProp}(hi:L'[i]?=some R){w':World}
  (H:Holds w' (N++SL nv tI (sw x) l'::L')):Holds w' (N++L'.set i (RR v rs')):=by
 have key:∀ h,Sat (SL nv tI (sw x) l'::L') h->Sat (L'.set i (RR v rs')) h:=by
  intro h hh
  have h1:Sat (R::SL nv tI (sw x) l'::L'.eraseIdx i) h:=by
   have:=Sat.pull (i+1) hh (P:=R) (by rw[gF];exact hi);rw[eraseIdx_cons_succ] at this;exact this
  have h4:Sat ([SL nv tI (sw x) l',R]++L'.eraseIdx i) h:=Sat.swap h1;exact Sat.push i hi (Sat.imp (Sat.pack h4) λg hg=>hR g hg)
 have lift:∀ (N:List HProp) h,Sat (N++SL nv tI (sw x) l'::L') h->Sat (N++L'.set i (RR v rs')) h:=by
  intro N
  induction N with
  |nil=>exact key
  |cons P N ih=>exact λh hh=>Zcb ih hh
 exact lift N _ H
theorem rr_sw {v:Value}{rs:List (List Nat)}{i:Nat}(H:Holds w L) (hi:L[i]?=some (RR v rs)):∃ x,v=sw x:=by
 obtain⟨vs,H1⟩:=H.atEx (α:=List Sw) (Q:=λvs h=>vs.length=rs.length/\Sat (SL sw tIs v vs::RI vs rs) h) i hi λg hg=>hg;obtain⟨_,H2⟩:=H1.atPure (Q:=Sat (SL sw tIs v vs::RI vs rs)) i (Za1 hi) λg hg=>hg;rw[set_set] at H2;have H3:=H2.front i (Za1 hi);rw[eraseIdx_set_eq] at H3;have H4:Holds w (SL sw tIs v vs::(RI vs rs++L.eraseIdx i)):=Holds.unpack H3;obtain⟨oa,sp,rfl,_⟩:=H4.open 0 rfl;exact⟨(oa,_,_),rfl⟩
theorem Zdj (i:Nat) (H:Holds w L){v:Value}{rs:List (List Nat)}{q:Nat}{l:List Nat}(hi:L[i]?=some (RR v rs)) (hq:rs[q]?=some l) :
  ∃ (x:Sw) (R:HProp),(∀ (k:IntKind) (J:Value->Prop),(∀ p,(∀ J':Value->Prop,J' (sw x)->Ld p w J')->J p)->Ias 1 v (.int k (q:Int)) J)/\Holds w (SL nv tI (sw x) l::L.set i R)/\
   (∀ (N:List HProp) (w':World),Holds w' (N++SL nv tI (sw x) l::L.set i R)->Holds w' (N++L))/\
   (∀ (l':List Nat) (N:List HProp) (w':World),Holds w' (N++SL nv tI (sw x) l'::L.set i R)->Holds w' (N++L.set i (RR v (rs.set q l'))))/\
   (∀ l' h,Sat [SL nv tI (sw x) l',R] h->RR v (rs.set q l') h)/\∀ h,Sat [SL nv tI (sw x) l,R] h->RR v rs h:=by
 obtain⟨vs,H1⟩:=H.atEx (α:=List Sw) (Q:=λvs h=>vs.length=rs.length/\Sat (SL sw tIs v vs::RI vs rs) h) i hi λg hg=>hg;obtain⟨hl,H2⟩:=H1.atPure (Q:=Sat (SL sw tIs v vs::RI vs rs)) i (Za1 hi) λg hg=>hg;rw[set_set] at H2;have hqr:q < rs.length:=(gH.1 hq).1;have hx:vs[q]?=some vs[q]:=gA (by omega);generalize vs[q]=x at hx;have hri:=Zza hx hq
 have hA:(SL sw tIs v vs::RI vs rs)[q+1]?=some (SL nv tI (sw x) l):=by rw[gF];exact hri
 have hR:∀ l' h,Sat [SL nv tI (sw x) l',Sat ((SL sw tIs v vs::RI vs rs).eraseIdx (q+1))] h->RR v (rs.set q l') h:=by
  intro l' g hg;have h6:Sat (Sat ((SL sw tIs v vs::RI vs rs).eraseIdx (q+1))::[SL nv tI (sw x) l']) g:=Sat.swap hg;have h7:=Sat.unpack h6
  have h8:(((SL sw tIs v vs::RI vs rs).eraseIdx (q+1))++[SL nv tI (sw x) l'])[((SL sw tIs v vs::RI vs rs).eraseIdx (q+1)).length]?=some (SL nv tI (sw x) l'):=by simp
  have h9:=Sat.pull _ h7 h8;rw[List.eraseIdx_append_of_length_le (Nat.le_refl _),Nat.sub_self,List.eraseIdx_cons_zero,gU] at h9;refine⟨vs,by rw[hX_];exact hl,?_⟩;have:=Sat.push (q+1) hA h9;rw[gW,Zy7 x l' hl] at this
  have e:vs.set q x=vs:=by
   obtain⟨p1,p2⟩:=gH.1 hx;rw[<-p2,set_getElem_self]
  rw[e] at this;exact this
 have back:∀ (l':List Nat) (N:List HProp) (w':World),Holds w' (N++SL nv tI (sw x) l'::L.set i (Sat ((SL sw tIs v vs::RI vs rs).eraseIdx (q+1))))->Holds w' (N++L.set i (RR v (rs.set q l'))):=by
  intro l' N w' HN;have:=Zmp (hR l') N i (Za1 hi) HN;rw[set_set] at this;exact this
 have e1:rs.set q l=rs:=by
  obtain⟨p1,p2⟩:=gH.1 hq;rw[<-p2,set_getElem_self]
 refine⟨x,Sat ((SL sw tIs v vs::RI vs rs).eraseIdx (q+1)),?_,?_,?_,back,hR,λh hh=>by have:=hR l h hh;rw[e1] at this;exact this⟩
 ·intro k J hJ;have H3:=H2.front i (Za1 hi);rw[eraseIdx_set_eq] at H3;have H4:Holds w (SL sw tIs v vs::(RI vs rs++L.eraseIdx i)):=Holds.unpack H3;exact Yc0 0 H4 rfl hx hJ
 ·have H3:=H2.front i (Za1 hi);rw[eraseIdx_set_eq] at H3;have H4:Holds w (Sat (SL nv tI (sw x) l::(SL sw tIs v vs::RI vs rs).eraseIdx (q+1))::L.eraseIdx i):=Holds.imp H3 λg hg=>Sat.pull (q+1) hg hA;have H5:Holds w (SL nv tI (sw x) l::((SL sw tIs v vs::RI vs rs).eraseIdx (q+1)++L.eraseIdx i)):=Holds.unpack H4;have H6:Holds w (SL nv tI (sw x) l::Sat ((SL sw tIs v vs::RI vs rs).eraseIdx (q+1))::L.eraseIdx i):=Zcb (λh hh=>Sat.pack hh) H5;exact Zcb (λh hh=>Sat.push i hi hh) H6
 ·intro N w' HN;have:=back l N w' HN
  have e2:L.set i (RR v rs)=L:=by
   obtain⟨p1,p2⟩:=gH.1 hi;rw[<-p2,set_getElem_self]
  rw[e1,e2] at this;exact this
theorem Zta (i:Nat){v v':Value}{rs:List (List Nat)}{q:Nat}{l:List Nat}(H:Holds w (SL nv tI v' l::L)) (hi:L[i]?=some (RR v rs)) (hq:q < rs.length){k:IntKind}{J:World->Prop}
  (h:∀ w',Same w w'->Holds w' (L.set i (RR v (rs.set q l)))->J w'):Ias 1 v (.int k (q:Int)) λp=>St p v' w J:=by
 obtain⟨y,rfl⟩:=sl_sw H (i:=0) rfl
 have hi':(SL nv tI (sw y) l::L)[i+1]?=some (RR v rs):=by rw[gF];exact hi
 obtain⟨vs,H1⟩:=H.atEx (α:=List Sw) (Q:=λvs h=>vs.length=rs.length/\Sat (SL sw tIs v vs::RI vs rs) h) (i+1) hi' λg hg=>hg;obtain⟨hl,H2⟩:=H1.atPure (Q:=Sat (SL sw tIs v vs::RI vs rs)) (i+1) (Za1 hi') λg hg=>hg;rw[set_set] at H2;have H3:=H2.front (i+1) (Za1 hi');rw[eraseIdx_set_eq,eraseIdx_cons_succ] at H3;have H4:Holds w (SL sw tIs v vs::(RI vs rs++SL nv tI (sw y) l::L.eraseIdx i)):=Holds.unpack H3;refine Zao (f:=sw) 0 H4 y rfl (by omega) rfl λw' S' H5=>h w' S' ?_;rw[gJ] at H5
 have h6:((SL sw tIs v (vs.set q y)::RI vs rs)++SL nv tI (sw y) l::L.eraseIdx i)[rs.length+1]?=some (SL nv tI (sw y) l):=by
  rw[cons_append,gF,gT (by rw[Zon hl];omega),Zon hl,Nat.sub_self];rfl
 have H6:Holds w' (((SL sw tIs v (vs.set q y)::RI vs rs))++SL nv tI (sw y) l::L.eraseIdx i):=H5;have H7:=H6.front _ h6;rw[cons_append,eraseIdx_cons_succ,List.eraseIdx_append_of_length_le (by rw[Zon hl];omega),Zon hl,Nat.sub_self,List.eraseIdx_cons_zero] at H7;have H8:Holds w' (Sat (SL nv tI (sw y) l::SL sw tIs v (vs.set q y)::RI vs rs)::L.eraseIdx i):=Holds.pack H7
 have H9:Holds w' (RR v (rs.set q l)::L.eraseIdx i):=Holds.imp H8 λg hg=>⟨vs.set q y,by simp[hl],by
  have hA:(SL sw tIs v (vs.set q y)::RI vs rs)[q+1]?=some (SL nv tI (sw vs[q]) rs[q]):=by
   rw[gF];exact Zza (gA (by omega)) (gA hq)
  obtain⟨g1,hg1,hs1,hr⟩:=hg
  have h10:Sat (SL nv tI (sw y) l::(SL sw tIs v (vs.set q y)::RI vs rs).eraseIdx (q+1)) g:=by
   refine⟨g1,hg1,hs1,?_⟩;obtain⟨g2,_,_,hr2⟩:=Sat.pull (q+1) hr hA
   exact hr2.mono λb o hb=>by
    unfold Hp.minus at hb;split at hb
    ·cases hb
    ·exact hb
  have:=Sat.push (q+1) hA h10;rw[gW,Zy7 y l hl] at this
  exact this⟩
 exact Sat.push i hi H9
theorem Zyj (i:Nat){v v':Value}{rs:List (List Nat)}{l:List Nat}{ty:TypeId}(H:Holds w (SL nv tI v' l::L)) (hi:L[i]?=some (RR v rs)) (hn:rs.length+1<=1099511627776)
  (h:∀ v2 w',Same w w'->Holds w' (L.set i (RR v2 (rs++[l])))->K v2 w'):Bs prog 157 1 #[(0,v')] w λy w2=>Ap prog #[157,157] ty #[v,y] w2 K:=by
 obtain⟨y,rfl⟩:=sl_sw H (i:=0) rfl
 have hi':(SL nv tI (sw y) l::L)[i+1]?=some (RR v rs):=by rw[gF];exact hi
 obtain⟨vs,H1⟩:=H.atEx (α:=List Sw) (Q:=λvs h=>vs.length=rs.length/\Sat (SL sw tIs v vs::RI vs rs) h) (i+1) hi' λg hg=>hg;obtain⟨hl,H2⟩:=H1.atPure (Q:=Sat (SL sw tIs v vs::RI vs rs)) (i+1) (Za1 hi') λg hg=>hg;rw[set_set] at H2;have H3:=H2.front (i+1) (Za1 hi');rw[eraseIdx_set_eq,eraseIdx_cons_succ] at H3;have H4:Holds w (SL sw tIs v vs::(RI vs rs++SL nv tI (sw y) l::L.eraseIdx i)):=Holds.unpack H3;refine Zdc (f:=sw) H4 0 rfl y sg_sw (by omega) λv2 w' S' H5=>h v2 w' S' ?_;rw[gJ] at H5
 have e:RI (vs++[y]) (rs++[l])=RI vs rs++[SL nv tI (sw y) l]:=by
  unfold RI;rw[List.zip_append hl,map_append];rfl
 have H6:Holds w' ((SL sw tIs v2 (vs++[y])::RI (vs++[y]) (rs++[l]))++L.eraseIdx i):=by
  rw[e,cons_append,gI];exact H5
 have H7:Holds w' (RR v2 (rs++[l])::L.eraseIdx i):=Holds.imp (Holds.pack H6) λg hg=>⟨vs++[y],by simp[hl],hg⟩;exact Sat.push i hi H7
theorem Zuu:∀ (n:Nat){h:Hp},Sat L h->Sat (RI (List.replicate n (none,0,0)) (List.replicate n [])++L) h
 |0,_,H=>H
 |n+1,h,H=>by
  refine⟨λ_=>none,Zyf nv tI _,(λb o hb=>by cases hb),?_⟩
  have e:h.minus (λ_=>none)=h:=by funext b;simp[Hp.minus]
  rw[e];exact Zuu n H
theorem Zt9 (H:Holds w L){k k':IntKind}{n:Nat}{J:KT}(hn:n<=1000000)
  (h:∀ v w',Same w w'->Holds w' (RR v (List.replicate n [])::L)->J v w'):Ms prog 157 (.int k (n:Int)) (.int k' (n:Int)) w J:=by
 refine r_ms (f:=sw) (x:=(none,0,0)) H rfl (by omega) (by omega) λb w' S' H2=>?_;rw[gC] at H2 ⊢;have H3:=H2.close 0 rfl;simp only[gJ,gP,length_nil,Nat.add_zero] at H3;refine h _ w' S' ?_;have H4:Holds w' (SL sw tIs (.slice (some ⟨b,0,none⟩) n n) (List.replicate n (none,0,0))::(RI (List.replicate n (none,0,0)) (List.replicate n [])++L)):=Zcb (λh hh=>Zuu n hh) H3;exact Holds.imp (Holds.pack (A:=SL sw tIs (.slice (some ⟨b,0,none⟩) n n) (List.replicate n (none,0,0))::RI (List.replicate n (none,0,0)) (List.replicate n [])) H4) λg hg=>⟨List.replicate n (none,0,0),by simp,hg⟩
end Rw
namespace T12
open F08 Rw
variable {w:World}{L:List HProp}{K:KT}
variable [Bnds]
def blw (c:List Nat) (n v:Nat):Nat:=min ((c.take v).sum) (n - 1)
def firstV (c:List Nat) (n t p v:Nat):Nat:=if blw c n v*t/n=p then 0 else 15
def firstR (c:List Nat) (n t p:Nat):List Nat:=(List.range c.length).map (firstV c n t p)
def firstL (c:List Nat) (n t:Nat):List (List Nat):=(List.range t).map (firstR c n t)
theorem Zfk (c:List Nat) (n t p:Nat):(firstR c n t p).length=c.length:=by simp[firstR]
theorem Zpx {c:List Nat}{n t p v:Nat}(h:v < c.length):(firstR c n t p)[v]?=some (firstV c n t p v):=by simp[firstR,h]
theorem Zhz (c:List Nat) (n t:Nat):(firstL c n t).length=t:=by simp[firstL]
theorem Zy0 {c:List Nat}{n v:Nat}(h:v < c.length):min (blw c n v+c.getD v 0) (n - 1)=blw c n (v+1):=by
 unfold blw
 have e:c.take (v+1)=c.take v++[c.getD v 0]:=by rw[gO,gB,gA h];rfl
 rw[e,List.sum_append];simp;omega
theorem Zbu {α:Type}{t p:Nat}(g g':Nat->α) (hp:p < t) (h:∀ i,i < t->i≠p->g i=g' i):((List.range t).map g).set p (g' p)=(List.range t).map g':=by
 apply ext_getElem?;intro i;rw[getElem?_set,hS_,hW_]
 by_cases e:p=i
 ·subst e;rw[if_pos rfl,if_pos hp,hV_,getElem?_range hp];rfl
 ·rw[if_neg e,hV_,hV_];rcases hU_ i t with q|q
  ·rw[getElem?_range q];show some (g i)=some (g' i);rw[h i q (Ne.symm e)]
  ·rw[getElem?_eq_none (by simpa using q)];rfl
theorem Zba {α:Type}{t p:Nat}(g:Nat->α) (hp:p < t):((List.range t).map g)[p]?=some (g p):=by rw[hV_,getElem?_range hp];rfl
theorem Zaq {α:Type}{t:Nat}(g g':Nat->α) (h:∀ i,i < t->g i=g' i):(List.range t).map g=(List.range t).map g':=map_congr_left λi hi=>h i (mem_range.1 hi)
theorem Zmh {xs:List Nat}{n i:Nat}(hi:i < n) (hn:xs.length=n) (hx:xs[i]?=some 0):filled xs 0 n i=filled xs 0 n (i+1):=by
 rw[<-Zb6 hi hn hx]
 have e:(filled xs 0 n i)[i]?=some 0:=by
  unfold filled
  have hl:(xs.take i).length=i:=by rw[gN];omega
  rw[gT (by omega),hl,Nat.sub_self,getElem?_replicate,if_pos (by omega)]
 obtain⟨p1,p2⟩:=gH.1 e;have h:=set_getElem_self p1;rw[p2] at h;exact h.symm
theorem Zug (n:Nat):2<=num n/\num n<=6:=by
 unfold num numAt
 have h:(bnd.take 4).length=4:=by unfold bnd;rw[gN,Bnds.h];rfl
 have:=List.length_filter_le (λb=>decide (b<=(n:Int))) (bnd.take 4);omega
theorem Zte {c:List Nat}{n v t:Nat}(hn:1<=n) (hn2:n<=100000000) (ht:t<=6){K:Value->Prop}(h:K (nv (blw c n v*t/n))):Bp .mul (nv (blw c n v)) (nv t) λx=>Bp .quo x (nv n) K:=by
 have h1:blw c n v<=n:=by unfold blw;omega
 have h2:blw c n v*t<=n*6:=Nat.mul_le_mul h1 ht;refine Zdi ((blw c n v*t:Nat):Int) (Int.natCast_mul _ _).symm (by omega) (by omega) ?_;generalize blw c n v*t=z at *;have h3:z/n<=z:=Nat.div_le_self _ _;generalize hq:z/n=q at *;refine Zor (q:=(q:Int)) ?_ (by omega) (by omega) (by omega) h;rw[Int.tdiv_eq_ediv_of_nonneg (by omega),<-hq];rfl
theorem Zpy {v:Value}{c:List Nat}{n i:Nat}(H:Holds w L) (hb:BndOk L) (hi:L[i]?=some (SL nv tI v c)) (hc:c.length<=1000000) (hcx:∀ x∈c,x<=100000000) (hn:1<=n) (hn2:n<=100000000)
  (k:∀ v' w',Same w w'->Holds w' (RR v' (firstL c n (num n))::L)->K v' w'):Cl prog 224 #[v,nv n] w K:=by
 refine Tz224 ?_;unfold Vz224;refine Znf H hb ?_;have hnl:=Zug n;generalize hnt:num n=t at *;refine Zt9 H (by omega) λov w2 S2 H2=>?_;refine rr_ln 0 H2 rfl ?_;rw[gP]
 refine Zac (λq w'=>∃ p:Nat,q=nv p/\p<=t/\Same w w'/\Holds w' (RR ov ((List.range t).map λj=>if j < p then List.replicate c.length 0 else [])::L)) (λq _=>t - (intOf q).toNat)
  ⟨0,rfl,Nat.zero_le _,S2,by
   have e:(List.range t).map (λj=>if j < 0 then List.replicate c.length 0 else ([]:List Nat))=List.replicate t []:=by
    apply ext_getElem?;intro j;rw[getElem?_replicate];split
    ·rename_i q;rw[Zba _ q,if_neg (by omega)]
    ·rename_i q;rw[getElem?_eq_none (by simpa using q)]
   rw[e];exact H2⟩ ?_
 clear H H2 S2;rintro _ _ w3 ⟨p,rfl,hp,S3,H3⟩
 have hi3:(RR ov ((List.range t).map λj=>if j < p then List.replicate c.length 0 else [])::L)[i+1]?=some (SL nv tI v c):=by rw[gF];exact hi
 refine r_lss (r_ifD (λh=>?_) λh=>?_)
 ·have hlt:p < t:=by omega
  refine r_lnS (i+1) H3 hi3 ?_;refine r_ms (f:=nv) (x:=0) H3 rfl (by omega) (by omega) λnb w4 S4 H4=>?_;rw[gC] at H4 ⊢;have H5:=H4.close 0 rfl;simp only[gJ,gP,length_nil,Nat.add_zero] at H5;refine Zta 0 H5 rfl (by rw[hS_,hW_];exact hlt) λw5 S5 H6=>?_
  have e6:=Zbu (λj=>if j < p then List.replicate c.length 0 else ([]:List Nat)) (λj=>if j < p+1 then List.replicate c.length 0 else ([]:List Nat)) hlt (λj hj hjp=>by
   by_cases q:j < p
   ·rw[if_pos q,if_pos (by omega)]
   ·rw[if_neg q,if_neg (by omega)])
  simp only[Nat.lt_succ_self,if_true] at e6;rw[gJ,e6] at H6;refine Za0 (by omega) (r_ke ⟨⟨p+1,rfl,hlt,S3.trans (S4.trans S5),H6⟩,?_⟩);simp only[nv,intOf,gC];omega
 ·obtain rfl:p=t:=by omega
  have e0:(List.range p).map (λj=>if j < p then List.replicate c.length 0 else ([]:List Nat))=(List.range p).map λj=>filled (firstR c n p j) 0 c.length 0:=
   Zaq _ _ λj hj=>by rw[if_pos hj,Zed]
  rw[e0] at H3;refine r_lnS (i+1) H3 (by rw[gF];exact hi) ?_
  refine Zag (λx y w'=>∃ u:Nat,x=nv (blw c n u)/\y=nv u/\u<=c.length/\Same w w'/\Holds w' (RR ov ((List.range p).map λj=>filled (firstR c n p j) 0 c.length u)::L)) (λ_ y _=>c.length - (intOf y).toNat)
   ⟨0,by unfold blw;simp,rfl,Nat.zero_le _,S3,H3⟩ ?_
  clear H3 S3 hi3 h e0;rintro _ _ _ w4 ⟨u,rfl,rfl,hu,S4,H4⟩;refine r_lss (r_ifD (λh=>?_) λh=>?_)
  ·have hlt:u < c.length:=by omega
   have hcu:=hcx _ (getElem_mem hlt);refine Zaa (i+1) H4 (by rw[gF];exact hi) (x:=c.getD u 0) (by rw[gB,gA hlt];rfl) ?_;refine Zte hn hn2 hnl.2 ?_;refine rr_ln 0 H4 rfl ?_;rw[hS_,hW_]
   refine Zac (λx w'=>∃ j:Nat,x=nv j/\j<=p/\Same w w'/\Holds w' (RR ov ((List.range p).map λz=>filled (firstR c n p z) 0 c.length (if z < j then u+1 else u))::L)) (λx _=>p - (intOf x).toNat)
    ⟨0,rfl,Nat.zero_le _,S4,by simpa using H4⟩ ?_
   clear H4 S4;rintro _ _ w5 ⟨j,rfl,hj,S5,H5⟩;refine r_lss (r_ifD (λh2=>?_) λh2=>?_)
   ·have hjp:j < p:=by omega
    have hfg:=Zpx (n:=n) (t:=p) (p:=j) hlt;have hfl:=Zfk c n p j
    have hnext:∀ z,z < p->z≠j->filled (firstR c n p z) 0 c.length (if z < j then u+1 else u)=filled (firstR c n p z) 0 c.length (if z < j+1 then u+1 else u):=λz _ hz=>by
     by_cases q:z < j
     ·rw[if_pos q,if_pos (by omega)]
     ·rw[if_neg q,if_neg (by omega)]
    refine r_neq (r_ifN (λq=>?_) λq=>?_)
    ·have hfv:firstV c n p j u=15:=by unfold firstV;rw[if_neg (by omega)]
     rw[hfv] at hfg
     have hrow:((List.range p).map λz=>filled (firstR c n p z) 0 c.length (if z < j then u+1 else u))[j]?=some (filled (firstR c n p j) 0 c.length u):=by
      rw[Zba _ hjp,if_neg (by omega)]
     obtain⟨x,R,hld,H6,_,hback,_⟩:=Zdj 0 H5 rfl hrow;refine hld _ _ λ_ hp_=>hp_ _ ?_;refine Zao (xs:=filled (firstR c n p j) 0 c.length u) 0 H6 15 rfl (by rw[Zb3 (by omega) hfl];exact hlt) rfl λw6 S6 H7=>?_;rw[gJ,Zb6 hlt hfl hfg] at H7;have H8:=hback _ [] _ H7;rw[hO_,gJ] at H8;have e:=Zbu (λz=>filled (firstR c n p z) 0 c.length (if z < j then u+1 else u)) (λz=>filled (firstR c n p z) 0 c.length (if z < j+1 then u+1 else u)) hjp hnext;simp only[Nat.lt_succ_self,if_true] at e;rw[e] at H8;refine Za0 (by omega) (r_ke ⟨⟨j+1,rfl,hjp,S5.trans S6,H8⟩,?_⟩);simp only[nv,intOf,gC];omega
    ·have hfv:firstV c n p j u=0:=by unfold firstV;rw[if_pos (by omega)]
     rw[hfv] at hfg;have hs:=Zmh hlt hfl hfg;refine Za0 (by omega) (r_ke ⟨⟨j+1,rfl,hjp,S5,?_⟩,?_⟩)
     ·have e:((List.range p).map λz=>filled (firstR c n p z) 0 c.length (if z < j then u+1 else u))=(List.range p).map λz=>filled (firstR c n p z) 0 c.length (if z < j+1 then u+1 else u):=
       Zaq _ _ λz hz=>by
        by_cases g:z=j
        ·subst g;rw[if_neg (by omega),if_pos (by omega)];exact hs
        ·exact hnext z hz g
      rw[<-e];exact H5
     ·simp only[nv,intOf,gC];omega
   ·obtain rfl:j=p:=by omega
    have e:((List.range j).map λz=>filled (firstR c n j z) 0 c.length (if z < j then u+1 else u))=(List.range j).map λz=>filled (firstR c n j z) 0 c.length (u+1):=
     Zaq _ _ λz hz=>by rw[if_pos hz]
    rw[e] at H5
    have hbl:blw c n u<=n:=by unfold blw;omega
    have hcg:c.getD u 0<=100000000:=by rw[gB,gA hlt];exact hcu
    refine Zad (by omega) ?_;refine Zah (by omega) (by omega) (r_min ?_);rw[show min (((blw c n u+c.getD u 0:Nat)):Int) (((n - 1:Nat)):Int)=((min (blw c n u+c.getD u 0) (n - 1):Nat):Int) by omega,Zy0 hlt];refine Za0 (by omega) (r_ke ⟨⟨u+1,rfl,rfl,by omega,S5,H5⟩,?_⟩);simp only[nv,intOf,gC];omega
  ·obtain rfl:u=c.length:=by omega
   have e:((List.range p).map λj=>filled (firstR c n p j) 0 c.length c.length)=firstL c n p:=
    Zaq _ _ λz hz=>Zcp (Zfk c n p z)
   rw[e] at H4;exact k _ _ S4 H4
def bst (c:Nat->Nat):Nat->Nat
 |0=>0
 |p+1=>if c p < c (bst c p) then p else bst c p
def pk (g:List Nat) (ts:List (List Nat)):Nat:=bst (λp=>cost g (ts.getD p [])) ts.length
theorem Zu9 (c:Nat->Nat):∀ n,0 < n->bst c n < n
 |0,h=>by omega
 |n+1,_=>by
  rw[bst];split
  ·omega
  ·rcases Nat.eq_zero_or_pos n with q|q
   ·subst q;exact Nat.zero_lt_one
   ·have:=Zu9 c n q;omega
structure Tb (size:Nat) (ts:List (List Nat)):Prop where
 n2:2<=ts.length
 n6:ts.length<=6
 sz:∀ t∈ts,t.length=size
 le:∀ t∈ts,∀ x∈t,x<=20
theorem Zd4 {ts:List (List Nat)}{p:Nat}(h:p < ts.length):ts.getD p []∈ts:=by rw[gB,gA h];exact getElem_mem h
theorem Zes {ts:List (List Nat)}{p:Nat}(h:p < ts.length):ts[p]?=some (ts.getD p []):=by rw[gB,gA h];rfl
theorem Zum {v tv:Value}{g:List Nat}{ts:List (List Nat)}{size i j:Nat}(H:Holds w L) (hi:L[i]?=some (SL nv tI v g)) (hj:L[j]?=some (RR tv ts)) (hij:i≠j) (hT:Tb size ts) (hs:size<=258) (hg:g.length<=50) (hgx:∀ x∈g,x < size)
  (k:K (nv (pk g ts)) w):Cl prog 245 #[v,tv] w K:=by
 refine Tz245 ?_;unfold Vz245;have h6:=hT.n6;have h2:=hT.n2;refine rr_ln j H hj ?_
 have hcl:∀ p,p < ts.length->cost g (ts.getD p [])<=1000:=λp hp=>by
  have:=Zj9 (hT.le _ (Zd4 hp)) g;omega
 refine Znp (λb l x w'=>∃ (p m:Nat),b=nv (bst (λp=>cost g (ts.getD p [])) p)/\l=nv m/\x=nv p/\p<=ts.length/\(if p=0 then m=1099511627776 else m=cost g (ts.getD (bst (λp=>cost g (ts.getD p [])) p) []))/\w=w') (λ_ _ x _=>ts.length - (intOf x).toNat)
  ⟨0,1099511627776,rfl,rfl,rfl,Nat.zero_le _,by rw[if_pos rfl],rfl⟩ ?_
 rintro _ _ _ _ _ ⟨p,m,rfl,rfl,rfl,hp,hm,rfl⟩;refine r_lss (r_ifD (λh=>?_) λh=>?_)
 ·have hlt:p < ts.length:=by omega
  have hq:ts[p]?=some (ts.getD p []):=by rw[gB,gA hlt];rfl
  have hmem:ts.getD p []∈ts:=by rw[gB,gA hlt];exact getElem_mem hlt
  have htl:=hT.sz _ hmem;obtain⟨x,R,hld,H6,_,_⟩:=Zdj j H hj hq;refine hld _ _ λ_ hp_=>hp_ _ ?_;refine Zl0 H6 (i:=i+1) (j:=0) (by rw[gF,hY_ (Ne.symm hij)];exact hi) rfl (by omega) (by omega) (hT.le _ hmem) (λx hx=>by rw[htl];exact hgx x hx) ?_;refine Za8 (Za9 ?_)
  have hbs:bst (λp=>cost g (ts.getD p [])) (p+1)=if cost g (ts.getD p []) < cost g (ts.getD (bst (λp=>cost g (ts.getD p [])) p) []) then p else bst (λp=>cost g (ts.getD p [])) p:=rfl
  have hc1:=hcl p hlt;generalize hb:bst (λp=>cost g (ts.getD p [])) p=b at *;refine r_lss (r_ifD (λq=>?_) λq=>?_)
  ·refine Za0 (by omega) (r_ke ⟨⟨p+1,cost g (ts.getD p []),?_,rfl,rfl,by omega,?_,rfl⟩,?_⟩)
   ·rw[hbs];rcases Nat.eq_zero_or_pos p with e|e
    ·subst e;have:b=0:=hb.symm;subst this;rw[if_neg (Nat.lt_irrefl _)]
    ·rw[if_neg (by omega)] at hm;rw[if_pos (by omega)]
   ·rw[if_neg (by omega),hbs];rcases Nat.eq_zero_or_pos p with e|e
    ·subst e;have:b=0:=hb.symm;subst this;rw[if_neg (Nat.lt_irrefl _)]
    ·rw[if_neg (by omega)] at hm;rw[if_pos (by omega)]
   ·simp only[nv,intOf,gC];omega
  ·have hp0:p≠0:=λe=>by rw[if_pos e] at hm;omega
   rw[if_neg hp0] at hm;refine Za0 (by omega) (r_ke ⟨⟨p+1,m,?_,rfl,rfl,by omega,?_,rfl⟩,?_⟩)
   ·rw[hbs,if_neg (by omega)]
   ·rw[if_neg (by omega),hbs,if_neg (by omega)];exact hm
   ·simp only[nv,intOf,gC];omega
 ·obtain rfl:p=ts.length:=by omega
  exact k
end T12
namespace S09
open Go.Mh Go.Ms
variable {w:World}{L:List HProp}{K:KT}{v f:Value}{W:List Nat}
theorem Zbm {a b:Nat}{K:Value->Prop}(h1:b<=a) (h2:a<=1000000000000) (h:K (.int .i64 ((a - b:Nat):Int))):Bp .sub (.int .i64 (a:Int)) (.int .i64 (b:Int)) K:=
 r_sub (by omega) (by omega) (by rw[show (a:Int) - (b:Int)=((a - b:Nat):Int) by omega];exact h)
theorem Zcc {A U M V B:List Nat}{a b n:Nat}(H:Holds w (SL nv tI v (A++(U++(M++(V++B))))::L)) (ha:A.length=a) (hu:U.length=n) (hm:a+n+M.length=b) (hv:V.length=n) (hb:b+n<=1000000000)
  (k:∀ w',Same w w'->Holds w' (SL nv tI v (A++(V++(M++(U++B))))::L)->K (.tuple #[]) w'):Cl prog 270 #[v,nv a,nv b,nv n,f] w K:=by
 refine Tz270 ?_;unfold Vz270
 refine Zac (λx w'=>∃ i:Nat,i<=n/\x=nv i/\Same w w'/\Holds w' (SL nv tI v (A++(V.take i++(U.drop i++(M++(U.take i++(V.drop i++B))))))::L)) (λx _=>n - (intOf x).toNat)
  ⟨0,Nat.zero_le _,rfl,.refl _,by simpa using H⟩ ?_
 clear H;rintro _ _ w1 ⟨i,hi,rfl,S1,H1⟩;refine r_lss (r_ifD (λh=>?_) λh=>?_)
 rotate_left
 ·obtain rfl:i=n:=by omega
  refine k _ S1 ?_;rw[gK (by omega),List.drop_of_length_le (by omega),gK (by omega),List.drop_of_length_le (by omega)] at H1;simpa using H1
 have hU:i < U.length:=by omega
 have hV:i < V.length:=by omega
 rw[Zh2 hU,Zh2 hV,show A++(V.take i++(U[i]::U.drop (i+1)++(M++(U.take i++(V[i]::V.drop (i+1)++B)))))=(A++V.take i)++U[i]::((U.drop (i+1)++(M++U.take i))++V[i]::(V.drop (i+1)++B)) by simp only[gI,cons_append]] at H1;obtain⟨e1,e2,e3,e4,e5⟩:=sw (P:=A++V.take i) (Q:=U.drop (i+1)++(M++U.take i)) (R:=V.drop (i+1)++B) (x:=U[i]) (y:=V[i]) (p:=a+i) (q:=b+i) (by simp;omega) (by simp;omega);refine r_dr H1 λw2 S2 H2=>?_;refine Zad (by omega) (Zad (by omega) (Zad (by omega) ?_));refine Zaa 0 H2 rfl e2 ?_;refine Zad (by omega) ?_;refine Zaa 0 H2 rfl e1 ?_;refine Zao 0 H2 V[i] rfl e4 rfl λw3 S3 H3=>?_;refine Zao 0 H3 U[i] rfl e5 rfl λw4 S4 H4=>?_;refine Za0 (by omega) ?_;refine r_ke ⟨⟨i+1,by omega,rfl,S1.trans (S2.trans (S3.trans S4)),?_⟩,?_⟩
 ·replace H4:Holds w4 (SL nv tI v (((A++V.take i++U[i]::((U.drop (i+1)++(M++U.take i))++V[i]::(V.drop (i+1)++B))).set (a+i) V[i]).set (b+i) U[i])::L):=H4;rw[e3] at H4;rw[Zgj hU,Zgj hV];simpa only[gI,cons_append,hO_] using H4
 ·simp only[nv,intOf,gC];omega
theorem Znq {A U V B:List Nat}{a m b:Nat}(H:Holds w (SL nv tI v (A++(U++(V++B)))::L)) (ha:A.length=a) (hm:a+U.length=m) (hb:m+V.length=b) (hU:U≠[]) (hV:V≠[]) (hbb:b<=100000000)
  (k:∀ w',Same w w'->Holds w' (SL nv tI v (A++(V++(U++B)))::L)->K (.tuple #[]) w'):Cl prog 269 #[v,nv a,nv m,nv b,f] w K:=by
 refine Tz269 ?_;unfold Vz269;have hU0:=gZ.2 hU;have hV0:=gZ.2 hV;refine Zbm (by omega) (by omega) (Zbm (by omega) (by omega) ?_)
 refine Zag (λx y w'=>∃ P U' V' S:List Nat,x=nv U'.length/\y=nv V'.length/\0 < U'.length/\0 < V'.length/\P.length+U'.length=U.length/\V'.length+S.length=V.length/\P++(V'++(U'++S))=V++U/\Same w w'/\
   Holds w' (SL nv tI v (A++(P++(U'++(V'++(S++B)))))::L)) (λx y _=>(intOf x).toNat+(intOf y).toNat)
  ⟨[],U,V,[],by rw[show m - a=U.length by omega],by rw[show b - m=V.length by omega],hU0,hV0,by simp,by simp,by simp,.refl _,by simpa using H⟩ ?_
 clear H;rintro _ _ _ w1 ⟨P,U',V',S,rfl,rfl,h1,h2,h3,h4,h5,S1,H1⟩;refine r_neq (r_ifN (λh=>?_) λh=>?_)
 rotate_left
 ·refine Zbm (by omega) (by omega) ?_;refine Zcc (A:=A++P) (U:=U') (M:=[]) (V:=V') (B:=S++B) (by simpa using H1) (by simp;omega) rfl (by simp;omega) (by omega) (by omega) λw2 S2 H2=>?_;refine k _ (S1.trans S2) ?_;rw[show A++(V++(U++B))=A++((V++U)++B) by simp,<-h5];simpa using H2
 refine r_gtr (r_ifD (λhg=>?_) λhg=>?_)
 ·obtain⟨u1,u2,rfl,e1,e2⟩:=Zzg (D:=U') (i:=V'.length) (by omega);rw[gD] at *;refine Zbm (by omega) (by omega) ?_;refine Zcc (A:=A++P) (U:=u1) (M:=u2) (V:=V') (B:=S++B) (by simpa using H1) (by simp;omega) e1 (by omega) rfl (by omega) λw2 S2 H2=>?_;refine Zbm (by omega) (by omega) ?_;refine r_ke ⟨⟨P++V',u2,u1,S,by rw[show u1.length+u2.length - V'.length=u2.length by omega],by rw[e1],by omega,by omega,by rw[gD];omega,by omega,by rw[<-h5];simp,S1.trans S2,by simpa using H2⟩,?_⟩;simp only[nv,intOf,gC];omega
 ·obtain⟨v1,v2,rfl,e1,e2⟩:=Zzg (D:=V') (i:=V'.length - U'.length) (by omega);rw[gD] at *;refine Zbm (by omega) (by omega) (Zad (by omega) (Zbm (by omega) (by omega) ?_));refine Zcc (A:=A++P) (U:=U') (M:=v1) (V:=v2) (B:=S++B) (by simpa using H1) (by simp;omega) rfl (by omega) (by omega) (by omega) λw2 S2 H2=>?_;refine Zbm (by omega) (by omega) ?_;refine r_ke ⟨⟨P,v2,v1,U'++S,by rw[show v2.length=U'.length by omega],by rw[show v1.length+v2.length - U'.length=v1.length by omega],by omega,by omega,by omega,by rw[gD];omega,by rw[<-h5];simp,S1.trans S2,by simpa using H2⟩,?_⟩;simp only[nv,intOf,gC];omega
def CmpOk (W:List Nat) (v f:Value) (L:List HProp):Prop:=∀ {D:List Nat}{w:World}{x y:Nat}{Q:KT},Holds w (SL nv tI v D::L)->x < W.length->y < W.length->
 (∀ (z:Int) w',(z < 0↔W.getD x 0 < W.getD y 0)->Same w w'->Holds w' (SL nv tI v D::L)->Q (iv z) w')->Inv prog (do let d <-Deferred.ofValue f #[nv x,nv y];invoke d.target d.args) w Q
theorem Zjb {x y:Nat}(h:y < x):W.getD x 0 < W.getD y 0↔lt W x y:=by unfold lt;omega
theorem Zem {x y:Nat}(h:y < x) (hn:¬ W.getD x 0 < W.getD y 0):lt W y x:=by unfold lt;omega
theorem Ze5 {A X B:List Nat}{a b:Nat}(hc:CmpOk W v f L) (H:Holds w (SL nv tI v (A++(X++B))::L)) (ha:A.length=a) (hb:a+X.length=b) (hx:∀ x∈X,x < W.length) (hn:X.Pairwise (· < ·)) (hbb:b<=100000000)
  (k:∀ Z w',Z.Perm X->Srt W Z->Same w w'->Holds w' (SL nv tI v (A++(Z++B))::L)->K (.tuple #[]) w'):Cl prog 267 #[v,nv a,nv b,f] w K:=by
 refine Tz267 ?_;unfold Vz267;refine Za0 (by omega) ?_
 refine Zac (λx w'=>∃ (n:Nat) (Z:List Nat),x=nv (a+1+n)/\n<=X.length/\Z.Perm (X.take (n+1))/\Srt W Z/\Same w w'/\Holds w' (SL nv tI v (A++(Z++(X.drop (n+1)++B)))::L)) (λx _=>b - (intOf x).toNat)
  ⟨0,X.take 1,rfl,Nat.zero_le _,.refl _,by
   cases X with
   |nil=>exact List.Pairwise.nil
   |cons x l=>exact List.pairwise_singleton _ _,.refl _,by rw[<-gI (X.take 1),hN_];exact H⟩ ?_
 clear H;rintro _ _ w1 ⟨n,Z,rfl,hnX,hp,hs,S1,H1⟩;refine r_lss (r_ifD (λh=>?_) λh=>?_)
 rotate_left
 ·rw[gK (by omega)] at hp;rw[List.drop_of_length_le (by omega)] at H1;exact k Z _ hp hs S1 H1
 have hlt:n+1 < X.length:=by omega
 have hZl:Z.length=n+1:=by rw[hp.length_eq,gN];omega
 have hxW:X[n+1] < W.length:=hx _ (getElem_mem hlt)
 have hZx:∀ z∈Z,z < X[n+1]/\z < W.length:=by
  intro z hz;have:=hp.mem_iff.1 hz;refine⟨?_,hx _ (mem_of_mem_take this)⟩;obtain⟨i,hi,rfl⟩:=getElem_of_mem this;rw[gN] at hi;rw[getElem_take];exact pairwise_iff_getElem.1 hn i (n+1) (by omega) hlt (by omega)
 rw[Zh2 hlt] at H1
 have hpx:(X.take (n+1+1)).Perm (X[n+1]::Z):=by
  rw[Zgj hlt];exact (List.perm_append_singleton _ _).trans (hp.symm.cons _)
 generalize X[n+1]=x at *;generalize hT:X.drop (n+1+1)=T at *
 refine Zac (λy w'=>∃ Z1 Z2:List Nat,y=nv (a+Z1.length)/\Z=Z1++Z2/\(∀ z∈Z2,lt W x z)/\Same w w'/\Holds w' (SL nv tI v (A++(Z1++(x::(Z2++(T++B)))))::L)) (λy _=>(intOf y).toNat)
  ⟨Z,[],by rw[hZl,show a+1+n=a+(n+1) by omega],by simp,by simp,S1,by simpa using H1⟩ ?_
 clear H1 S1;rintro _ _ w2 ⟨Z1,Z2,rfl,rfl,hZ2,S2,H2⟩;rw[gD] at hZl;refine Za2 (λt w'=>Same w w'/\Holds w' (SL nv tI v (A++(Z1++(x::(Z2++(T++B)))))::L)/\((t=.bool false/\∀ z∈Z1,lt W z x)\/(t=.bool true/\∃ Z1' z,Z1=Z1'++[z]/\lt W x z))) ?_ ?_
 rotate_left
 ·refine r_dr H2 λw3 S3 H3=>?_;refine r_gtr (r_ifD (λh=>?_) λh=>?_)
  ·have hne:Z1≠[]:=λe=>by rw[e,length_nil] at h;omega
   obtain⟨Z1',z,rfl⟩:∃ Z1' z,Z1=Z1'++[z]:=⟨Z1.dropLast,Z1.getLast hne,(List.dropLast_concat_getLast hne).symm⟩;have hz:=hZx z (by simp);rw[gD,gQ] at *
   have e1:(A++(Z1'++[z]++(x::(Z2++(T++B)))))[a+(Z1'.length+1)]?=some x:=by
    rw[show A++(Z1'++[z]++(x::(Z2++(T++B))))=(A++Z1'++[z])++x::(Z2++(T++B)) by simp];exact Zoy (by simp;omega)
   have e2:(A++(Z1'++[z]++(x::(Z2++(T++B)))))[a+(Z1'.length+1) - 1]?=some z:=by
    rw[show A++(Z1'++[z]++(x::(Z2++(T++B))))=(A++Z1')++z::(x::(Z2++(T++B))) by simp];exact Zoy (by simp;omega)
   refine Zaa 0 H3 rfl e1 ?_;refine Zah (by omega) (by omega) ?_;refine Zaa 0 H3 rfl e2 ?_;refine hc H3 hxW hz.2 λc w4 hcc S4 H4=>?_;refine r_lss (r_ke ⟨S2.trans (S3.trans S4),H4,?_⟩)
   by_cases q:c < 0
   ·exact .inr ⟨by rw[decide_eq_true q],Z1',z,rfl,(Zjb hz.1).1 (hcc.1 q)⟩
   ·refine .inl ⟨by rw[decide_eq_false q],?_⟩;have hl:=Zem hz.1 λe=>q (hcc.2 e);have h5:=(pairwise_append.1 hs).1;intro u hu;rcases hT_.1 hu with hu|hu
    ·exact Zc7 ((pairwise_append.1 h5).2.2 u hu z (by simp)) hl
    ·rw[mem_singleton.1 hu];exact hl
  ·have:Z1=[]:=eq_nil_of_length_eq_zero (by omega);subst this;exact r_ke ⟨S2.trans S3,H3,.inl ⟨rfl,by simp⟩⟩
 rintro _ _ w3 ⟨S3,H3,⟨rfl,hz1⟩|⟨rfl,Z1',z,rfl,hxz⟩⟩
 ·refine r_vf ?_;refine Za0 (by omega) ?_;refine r_ke ⟨⟨n+1,Z1++x::Z2,by rw[show a+1+(n+1)=a+1+n+1 by omega],by omega,?_,Zmx hs hz1 hZ2,S3,?_⟩,?_⟩
  ·exact List.perm_middle.trans hpx.symm
  ·rw[hT];simpa using H3
  ·simp only[nv,intOf,gC];omega
 ·refine r_vt ?_;rw[gD,gQ] at *;rw[show A++(Z1'++[z]++(x::(Z2++(T++B))))=(A++Z1')++z::([]++x::(Z2++(T++B))) by simp] at H3;obtain⟨e1,e2,_,_,_⟩:=sw (P:=A++Z1') (Q:=[]) (R:=Z2++(T++B)) (x:=z) (y:=x) (p:=a+(Z1'.length+1) - 1) (q:=a+(Z1'.length+1)) (by simp;omega) (by rw[length_nil];omega);obtain⟨e3,e4,e5⟩:=sw' (P:=A++Z1') (Q:=[]) (R:=Z2++(T++B)) (x:=z) (y:=x) (p:=a+(Z1'.length+1) - 1) (q:=a+(Z1'.length+1)) (by simp;omega) (by rw[length_nil];omega);refine r_dr H3 λw4 S4 H4=>?_;refine Zah (by omega) (by omega) (Zah (by omega) (by omega) ?_);refine Zaa 0 H4 rfl e1 (Zaa 0 H4 rfl e2 ?_);refine Zao 0 H4 z rfl e4 rfl λw5 S5 H5=>?_;refine Zao 0 H5 x rfl e5 rfl λw6 S6 H6=>?_;refine Zah (by omega) (by omega) ?_;refine r_ke ⟨⟨Z1',z::Z2,by rw[show a+(Z1'.length+1) - 1=a+Z1'.length by omega],by simp,?_,S3.trans (S4.trans (S5.trans S6)),?_⟩,?_⟩
  ·intro u hu;rcases mem_cons.1 hu with rfl|hu
   ·exact hxz
   ·exact hZ2 u hu
  ·replace H6:Holds w6 (SL nv tI v (((A++Z1'++z::([]++x::(Z2++(T++B)))).set (a+(Z1'.length+1)) z).set (a+(Z1'.length+1) - 1) x)::L):=H6;rw[e3] at H6;simpa using H6
  ·simp only[nv,intOf,gC];omega
theorem Zen {s:Nat}{K:Value->Prop}(hs:s<=1000000000) (h:K (nv (s/2))):Ci .u64 (.int .i64 (s:Int)) λy=>Bp .shr y (.int .u64 1) λz=>Ci .i64 z K:=by
 refine Zka (by omega) (by omega) ?_;refine Zfq (n:=1) (by decide) ?_;exact Zsp (by omega) (by omega) h
theorem symX {x:Nat}{A Y B:List Nat}{a m b:Nat}(hc:CmpOk W v f L) (H:Holds w (SL nv tI v (A++([x]++(Y++B)))::L)) (ha:A.length=a) (hm:a+1=m) (hb:m+Y.length=b) (hs:Srt W Y) (hxW:x < W.length) (hY:∀ y∈Y,x < y/\y < W.length) (hbb:b<=100000000)
  (k:∀ Z w',Z.Perm (x::Y)->Srt W Z->Same w w'->Holds w' (SL nv tI v (A++(Z++B))::L)->K (.tuple #[]) w'):Cl prog 268 #[v,nv a,nv m,nv b,f] w K:=by
 refine Tz268 ?_;unfold Vz268;refine Zbm (by omega) (by omega) ?_;refine r_eql (r_vtE (by omega) ?_)
 refine Zag (λi j w'=>∃ p q:Nat,i=nv (m+p)/\j=nv (m+q)/\p<=q/\q<=Y.length/\(∀ y∈Y.take p,lt W y x)/\(∀ y∈Y.drop q,lt W x y)/\Same w w'/\Holds w' (SL nv tI v (A++([x]++(Y++B)))::L)) (λi j _=>(intOf j).toNat - (intOf i).toNat)
  ⟨0,Y.length,rfl,by rw[hb],Nat.zero_le _,Nat.le_refl _,by simp,by simp,.refl _,H⟩ ?_
 clear H;rintro _ _ _ w1 ⟨p,q,rfl,rfl,hpq,hq,h1,h2,S1,H1⟩;refine r_lss (r_ifD (λh=>?_) λh=>?_)
 ·have hlt:p < q:=by omega
  refine Zad (by omega) (Zen (by omega) ?_);rw[show (m+p+(m+q))/2=m+(p+q)/2 by omega]
  have hc1:p<=(p+q)/2:=by omega
  have hc2:(p+q)/2 < q:=by omega
  generalize (p+q)/2=c at *
  have hcY:c < Y.length:=by omega
  have hy:=hY _ (getElem_mem hcY)
  have e1:(A++([x]++(Y++B)))[m+c]?=some Y[c]:=by
   rw[<-gI A];exact Zpf (by simp;omega) hcY
  have e2:(A++([x]++(Y++B)))[a]?=some x:=Zoy ha;refine r_dr H1 λw2 S2 H2=>?_;refine Zaa 0 H2 rfl e1 (Zaa 0 H2 rfl e2 ?_);refine hc H2 hy.2 hxW λz w3 hz S3 H3=>?_;refine r_lss (r_ifD (λhl=>?_) λhl=>?_)
  ·refine Za0 (by omega) (r_ke ⟨⟨c+1,q,rfl,rfl,by omega,hq,Zig hs (λy e=>?_) hcY,h2,S1.trans (S2.trans S3),H3⟩,?_⟩)
   ·rw[gA hcY] at e;cases e;exact (Zjb hy.1).1 (hz.1 hl)
   ·simp only[nv,intOf,gC];omega
  ·refine r_ke ⟨⟨p,c,rfl,rfl,by omega,by omega,h1,Ziw hs λy e=>?_,S1.trans (S2.trans S3),H3⟩,?_⟩
   ·rw[gA hcY] at e;cases e;exact Zem hy.1 λe=>hl (hz.2 e)
   ·simp only[nv,intOf,gC];omega
 obtain rfl:p=q:=by omega
 refine Zac (λy w'=>∃ t:Nat,y=nv (a+t)/\t<=p/\Same w w'/\Holds w' (SL nv tI v (A++(Y.take t++(x::(Y.drop t++B))))::L)) (λy _=>b - (intOf y).toNat)
  ⟨0,rfl,Nat.zero_le _,S1,by simpa using H1⟩ ?_
 clear H1 S1;rintro _ _ w2 ⟨t,rfl,htp,S2,H2⟩;refine Zah (by omega) (by omega) (r_lss (r_ifD (λhl=>?_) λhl=>?_))
 ·have hlt:t < p:=by omega
  have htY:t < Y.length:=by omega
  rw[Zh2 htY,show A++(Y.take t++(x::(Y[t]::Y.drop (t+1)++B)))=(A++Y.take t)++x::([]++Y[t]::(Y.drop (t+1)++B)) by simp only[gI,cons_append,hO_]] at H2;obtain⟨e1,e2,e3,e4,e5⟩:=sw (P:=A++Y.take t) (Q:=[]) (R:=Y.drop (t+1)++B) (x:=x) (y:=Y[t]) (p:=a+t) (q:=a+t+1) (by simp;omega) (by rw[length_nil]);refine r_dr H2 λw3 S3 H3=>?_;refine Za0 (by omega) (Za0 (by omega) ?_);refine Zaa 0 H3 rfl e2 (Zaa 0 H3 rfl e1 ?_);refine Zao 0 H3 Y[t] rfl e4 rfl λw4 S4 H4=>?_;refine Zao 0 H4 x rfl e5 rfl λw5 S5 H5=>?_;refine Za0 (by omega) (r_ke ⟨⟨t+1,rfl,by omega,S2.trans (S3.trans (S4.trans S5)),?_⟩,?_⟩)
  ·replace H5:Holds w5 (SL nv tI v (((A++Y.take t++x::([]++Y[t]::(Y.drop (t+1)++B))).set (a+t) Y[t]).set (a+t+1) x)::L):=H5;rw[e3] at H5;rw[Zgj htY];simpa only[gI,cons_append,hO_] using H5
  ·simp only[nv,intOf,gC];omega
 ·obtain rfl:t=p:=by omega
  refine k (Y.take t++x::Y.drop t) _ ?_ (Zmx (by rw[hN_];exact hs) h1 h2) S2 (by simpa only[gI,cons_append] using H2);refine List.perm_middle.trans ?_;rw[hN_]
theorem symY {y:Nat}{A X B:List Nat}{a m b:Nat}(hc:CmpOk W v f L) (H:Holds w (SL nv tI v (A++(X++([y]++B)))::L)) (ha:A.length=a) (hm:a+X.length=m) (hb:m+1=b) (hX2:X.length≠1) (hs:Srt W X) (hyW:y < W.length) (hX:∀ x∈X,x < y/\x < W.length) (hbb:b<=100000000)
  (k:∀ Z w',Z.Perm (X++[y])->Srt W Z->Same w w'->Holds w' (SL nv tI v (A++(Z++B))::L)->K (.tuple #[]) w'):Cl prog 268 #[v,nv a,nv m,nv b,f] w K:=by
 refine Tz268 ?_;unfold Vz268;refine Zbm (by omega) (by omega) ?_;refine r_eql (r_vfE (by omega) ?_);refine Zbm (by omega) (by omega) ?_;refine r_eql (r_vtE (by omega) ?_)
 refine Zag (λi j w'=>∃ p q:Nat,i=nv (a+p)/\j=nv (a+q)/\p<=q/\q<=X.length/\(∀ x∈X.take p,lt W x y)/\(∀ x∈X.drop q,lt W y x)/\Same w w'/\Holds w' (SL nv tI v (A++(X++([y]++B)))::L)) (λi j _=>(intOf j).toNat - (intOf i).toNat)
  ⟨0,X.length,rfl,by rw[hm],Nat.zero_le _,Nat.le_refl _,by simp,by simp,.refl _,H⟩ ?_
 clear H;rintro _ _ _ w1 ⟨p,q,rfl,rfl,hpq,hq,h1,h2,S1,H1⟩;refine r_lss (r_ifD (λh=>?_) λh=>?_)
 ·have hlt:p < q:=by omega
  refine Zad (by omega) (Zen (by omega) ?_);rw[show (a+p+(a+q))/2=a+(p+q)/2 by omega]
  have hc1:p<=(p+q)/2:=by omega
  have hc2:(p+q)/2 < q:=by omega
  generalize (p+q)/2=c at *
  have hcX:c < X.length:=by omega
  have hx:=hX _ (getElem_mem hcX)
  have e1:(A++(X++([y]++B)))[a+c]?=some X[c]:=by
   exact Zpf ha hcX
  have e2:(A++(X++([y]++B)))[m]?=some y:=by
   rw[show A++(X++([y]++B))=(A++X)++y::B by simp];exact Zoy (by simp;omega)
  refine r_dr H1 λw2 S2 H2=>?_;refine Zaa 0 H2 rfl e2 (Zaa 0 H2 rfl e1 ?_);refine hc H2 hyW hx.2 λz w3 hz S3 H3=>?_;refine r_lss ?_
  by_cases hl:z < 0
  ·rw[decide_eq_true hl];refine Zal (r_vf ?_);refine r_ke ⟨⟨p,c,rfl,rfl,by omega,by omega,h1,Ziw hs λx e=>?_,S1.trans (S2.trans S3),H3⟩,?_⟩
   ·rw[gA hcX] at e;cases e;exact (Zjb hx.1).1 (hz.1 hl)
   ·simp only[nv,intOf,gC];omega
  ·rw[decide_eq_false hl];refine Zci (r_vt ?_);refine Za0 (by omega) (r_ke ⟨⟨c+1,q,rfl,rfl,by omega,hq,Zig hs (λx e=>?_) hcX,h2,S1.trans (S2.trans S3),H3⟩,?_⟩)
   ·rw[gA hcX] at e;cases e;exact Zem hx.1 λe=>hl (hz.2 e)
   ·simp only[nv,intOf,gC];omega
 obtain rfl:p=q:=by omega
 refine Zac (λx w'=>∃ t:Nat,x=nv (a+t)/\p<=t/\t<=X.length/\Same w w'/\Holds w' (SL nv tI v (A++(X.take t++(y::(X.drop t++B))))::L)) (λx _=>(intOf x).toNat)
  ⟨X.length,by rw[hm],hq,Nat.le_refl _,S1,by simpa using H1⟩ ?_
 clear H1 S1;rintro _ _ w2 ⟨t,rfl,htp,htX,S2,H2⟩;refine r_gtr (r_ifD (λhl=>?_) λhl=>?_)
 ·have hlt:p < t:=by omega
  obtain⟨u,rfl⟩:∃ u,t=u+1:=⟨t - 1,by omega⟩
  have hu:u < X.length:=by omega
  rw[Zgj hu,show A++(X.take u++[X[u]]++(y::(X.drop (u+1)++B)))=(A++X.take u)++X[u]::([]++y::(X.drop (u+1)++B)) by simp only[gI,cons_append,hO_]] at H2;obtain⟨e1,e2,_,_,_⟩:=sw (P:=A++X.take u) (Q:=[]) (R:=X.drop (u+1)++B) (x:=X[u]) (y:=y) (p:=a+(u+1) - 1) (q:=a+(u+1)) (by simp;omega) (by rw[length_nil];omega);obtain⟨e3,e4,e5⟩:=sw' (P:=A++X.take u) (Q:=[]) (R:=X.drop (u+1)++B) (x:=X[u]) (y:=y) (p:=a+(u+1) - 1) (q:=a+(u+1)) (by simp;omega) (by rw[length_nil];omega);refine r_dr H2 λw3 S3 H3=>?_;refine Zah (by omega) (by omega) (Zah (by omega) (by omega) ?_);refine Zaa 0 H3 rfl e1 (Zaa 0 H3 rfl e2 ?_);refine Zao 0 H3 X[u] rfl e4 rfl λw4 S4 H4=>?_;refine Zao 0 H4 y rfl e5 rfl λw5 S5 H5=>?_;refine Zah (by omega) (by omega) (r_ke ⟨⟨u,by rw[show a+(u+1) - 1=a+u by omega],by omega,by omega,S2.trans (S3.trans (S4.trans S5)),?_⟩,?_⟩)
  ·replace H5:Holds w5 (SL nv tI v (((A++X.take u++X[u]::([]++y::(X.drop (u+1)++B))).set (a+(u+1)) X[u]).set (a+(u+1) - 1) y)::L):=H5;rw[e3] at H5;rw[Zh2 hu];simpa only[gI,cons_append,hO_] using H5
  ·simp only[nv,intOf,gC];omega
 ·obtain rfl:t=p:=by omega
  refine k (X.take t++y::X.drop t) _ ?_ (Zmx (by rw[hN_];exact hs) h1 h2) S2 (by simpa only[gI,cons_append] using H2);refine List.perm_middle.trans ?_;rw[hN_];exact (List.perm_append_singleton _ _).symm
theorem Zpl:∀ (N:Nat){w:World}{K:KT}{A X Y B:List Nat}{a m b:Nat},X.length+Y.length<=N->CmpOk W v f L->Holds w (SL nv tI v (A++(X++(Y++B)))::L)->A.length=a->a+X.length=m->m+Y.length=b->X≠[]->Y≠[]->
  Srt W X->Srt W Y->(∀ x∈X,x < W.length)->(∀ y∈Y,y < W.length)->(∀ x∈X,∀ y∈Y,x < y)->b<=100000000->
  (∀ Z w',Z.Perm (X++Y)->Srt W Z->Same w w'->Holds w' (SL nv tI v (A++(Z++B))::L)->K (.tuple #[]) w')->Cl prog 268 #[v,nv a,nv m,nv b,f] w K:=by
 intro N
 induction N with
 |zero=>
  intro w K A X Y B a m b hN _ _ _ _ _ hX _ _ _ _ _ _ _ _;have:=gZ.2 hX;omega
 |succ N ih=>
  intro w K A X Y B a m b hN hc H ha hm hb hX hY hsX hsY hXW hYW hXY hbb k;have hX0:=gZ.2 hX;have hY0:=gZ.2 hY
  by_cases hX1:X.length=1
  ·obtain⟨x,rfl⟩:=List.length_eq_one_iff.1 hX1;exact symX hc H ha (by simpa using hm) hb hsY (hXW x (by simp)) (λy hy=>⟨hXY x (by simp) y hy,hYW y hy⟩) hbb k
  by_cases hY1:Y.length=1
  ·obtain⟨y,rfl⟩:=List.length_eq_one_iff.1 hY1;exact symY hc H ha hm (by simpa using hb) hX1 hsX (hYW y (by simp)) (λx hx=>⟨hXY x hx y (by simp),hXW x hx⟩) hbb k
  refine Tz268 ?_;unfold Vz268;refine Zbm (by omega) (by omega) ?_;refine r_eql (r_vfE (by omega) ?_);refine Zbm (by omega) (by omega) ?_;refine r_eql (r_vfE (by omega) ?_);refine Zad (by omega) (Zen (by omega) ?_);obtain⟨h,hh⟩:∃ h,h=(X.length+Y.length)/2:=⟨_,rfl⟩;rw[show (a+b)/2=a+h by omega];refine Zad (by omega) ?_;refine Zmu (λs r w'=>∃ lo hi:Nat,s=nv (a+lo)/\r=nv (a+hi)/\lo<=hi/\hi<=h/\hi<=X.length/\h - lo<=Y.length/\w=w'/\((lo=h - Y.length/\Y.length<=h/\hi=h)\/(lo=0/\hi=X.length))) ?_ ?_
  rotate_left
  ·refine r_gtr (r_ifD (λhg=>?_) λhg=>?_)
   ·refine Zbm (by omega) (by omega) ?_;exact r_ke ⟨h - Y.length,h,by rw[show a+h+m - b=a+(h - Y.length) by omega],rfl,by omega,by omega,by omega,by omega,rfl,.inl ⟨rfl,by omega,rfl⟩⟩
   ·exact r_ke ⟨0,X.length,rfl,by rw[hm],by omega,by omega,by omega,by omega,rfl,.inr ⟨rfl,rfl⟩⟩
  rintro _ _ _ _ ⟨lo,hi,rfl,rfl,hlh,hhh,hhX,hlY,rfl,hcase⟩;refine Zah (by omega) (by omega) ?_
  refine Zag (λs r w'=>∃ σ ρ:Nat,s=nv (a+σ)/\r=nv (a+ρ)/\lo<=σ/\σ<=ρ/\ρ<=hi/\(lo < σ->lt W (X.getD (σ - 1) 0) (Y.getD (h - σ) 0))/\(ρ < hi->lt W (Y.getD (h - 1 - ρ) 0) (X.getD ρ 0))/\Same w w'/\Holds w' (SL nv tI v (A++(X++(Y++B)))::L)) (λs r _=>(intOf r).toNat - (intOf s).toNat)
   ⟨lo,hi,rfl,rfl,Nat.le_refl _,hlh,Nat.le_refl _,λe=>absurd e (Nat.lt_irrefl _),λe=>absurd e (Nat.lt_irrefl _),.refl _,H⟩ ?_
  clear H;rintro _ _ _ w1 ⟨σ,ρ,rfl,rfl,b0,b1,b2,b3,b4,S1,H1⟩;refine r_lss (r_ifD (λhl=>?_) λhl=>?_)
  ·have hlt:σ < ρ:=by omega
   refine Zad (by omega) (Zen (by omega) ?_);rw[show (a+σ+(a+ρ))/2=a+(σ+ρ)/2 by omega]
   have hc1:σ<=(σ+ρ)/2:=by omega
   have hc2:(σ+ρ)/2 < ρ:=by omega
   generalize (σ+ρ)/2=c at *
   have hcX:c < X.length:=by omega
   have hcY:h - 1 - c < Y.length:=by omega
   have e1:(A++(X++(Y++B)))[a+c]?=some X[c]:=Zpf ha hcX
   have e2:(A++(X++(Y++B)))[a+h+m - 1 - (a+c)]?=some Y[h - 1 - c]:=by
    rw[show a+h+m - 1 - (a+c)=m+(h - 1 - c) by omega,<-gI A];exact Zpf (by simp;omega) hcY
   have gX:X.getD c 0=X[c]:=by rw[gB,gA hcX];rfl
   have gY:Y.getD (h - 1 - c) 0=Y[h - 1 - c]:=by rw[gB,gA hcY];rfl
   have hxy:=hXY _ (getElem_mem hcX) _ (getElem_mem hcY);refine r_dr H1 λw2 S2 H2=>?_;refine Zbm (by omega) (by omega) ?_;refine Zaa 0 H2 rfl e2 (Zaa 0 H2 rfl e1 ?_);refine hc H2 (hYW _ (getElem_mem hcY)) (hXW _ (getElem_mem hcX)) λz w3 hz S3 H3=>?_;refine r_lss ?_
   by_cases hz0:z < 0
   ·rw[decide_eq_true hz0];refine Zal (r_vf ?_);refine r_ke ⟨⟨σ,c,rfl,rfl,b0,by omega,by omega,b3,λ_=>?_,S1.trans (S2.trans S3),H3⟩,?_⟩
    ·rw[gX,gY];exact (Zjb hxy).1 (hz.1 hz0)
    ·simp only[nv,intOf,gC];omega
   ·rw[decide_eq_false hz0];refine Zci (r_vt ?_);refine Za0 (by omega) (r_ke ⟨⟨c+1,ρ,rfl,rfl,by omega,by omega,b2,λ_=>?_,b4,S1.trans (S2.trans S3),H3⟩,?_⟩)
    ·rw[show c+1 - 1=c by omega,show h - (c+1)=h - 1 - c by omega,gX,gY];exact Zem hxy λe=>hz0 (hz.2 e)
    ·simp only[nv,intOf,gC];omega
  obtain rfl:σ=ρ:=by omega
  obtain⟨c1,c2⟩:=Ybg hsX hsY hcase b0 b2 (by omega) b3 b4 (by omega) (by omega)
  have lX1:(X.take σ).length=σ:=by rw[gN];omega
  have lX2:(X.drop σ).length=X.length - σ:=gS ..
  have lY1:(Y.take (h - σ)).length=h - σ:=by rw[gN];omega
  have lY2:(Y.drop (h - σ)).length=Y.length - (h - σ):=gS ..;have eX:X=X.take σ++X.drop σ:=(hN_ _ _).symm;have eY:Y=Y.take (h - σ)++Y.drop (h - σ):=(hN_ _ _).symm;have oX1:∀ x∈X.take σ,x∈X:=λx hx=>mem_of_mem_take hx;have oX2:∀ x∈X.drop σ,x∈X:=λx hx=>List.mem_of_mem_drop hx;have oY1:∀ x∈Y.take (h - σ),x∈Y:=λx hx=>mem_of_mem_take hx;have oY2:∀ x∈Y.drop (h - σ),x∈Y:=λx hx=>List.mem_of_mem_drop hx;have sX1:Srt W (X.take σ):=hsX.sublist (List.take_sublist _ _);have sX2:Srt W (X.drop σ):=hsX.sublist (List.drop_sublist _ _);have sY1:Srt W (Y.take (h - σ)):=hsY.sublist (List.take_sublist _ _);have sY2:Srt W (Y.drop (h - σ)):=hsY.sublist (List.drop_sublist _ _);rw[eX] at hsX;rw[eY] at hsY;have fin:=λZ1 Z2 p1 p2 s1 s2=>halves (Z1:=Z1) (Z2:=Z2) hsX hsY c1 c2 p1 p2 s1 s2;rw[<-eX,<-eY] at fin
  have H1:Holds w1 (SL nv tI v (A++(X.take σ++(X.drop σ++(Y.take (h - σ)++(Y.drop (h - σ)++B)))))::L):=by
   rw[eX,eY] at H1;simpa only[gI] using H1
  generalize X.take σ=X1 at *;generalize X.drop σ=X2 at *;generalize Y.take (h - σ)=Y1 at *;generalize Y.drop (h - σ)=Y2 at *;refine Zbm (by omega) (by omega) ?_;rw[show a+h+m - (a+σ)=m+Y1.length by omega];refine Zbh (λw'=>Same w w'/\Holds w' (SL nv tI v (A++(X1++(Y1++(X2++(Y2++B)))))::L)) ?_ ?_
  rotate_left
  ·refine Za2 (λt w'=>w1=w'/\t=.bool (decide (0 < X2.length/\0 < Y1.length))) ?_ ?_
   rotate_left
   ·refine r_lss (r_ifD (λq=>?_) λq=>?_)
    ·refine r_lss (r_ke ⟨rfl,?_⟩)
     congr 1
     exact decide_eq_decide.2 (by omega)
    ·exact r_ke ⟨rfl,by rw[decide_eq_false (by omega)]⟩
   rintro _ _ _ ⟨rfl,rfl⟩;refine r_ifD (λq=>?_) λq=>?_
   ·refine Znq (A:=A++X1) (U:=X2) (V:=Y1) (B:=Y2++B) (by simpa only[gI] using H1) (by simp;omega) (by omega) rfl (gZ.1 q.1) (gZ.1 q.2) (by omega) λw2 S2 H2=>?_;exact r_ke ⟨S1.trans S2,by simpa only[gI] using H2⟩
   ·refine r_ke ⟨S1,?_⟩
    by_cases q1:X2.length=0
    ·rw[eq_nil_of_length_eq_zero q1] at H1 ⊢;exact H1
    ·rw[eq_nil_of_length_eq_zero (show Y1.length=0 by omega)] at H1 ⊢;exact H1
  clear H1 S1;rintro _ w2 ⟨S2,H2⟩;refine Zbh (λw'=>∃ Z1,Z1.Perm (X1++Y1)/\Srt W Z1/\Same w w'/\Holds w' (SL nv tI v (A++(Z1++(X2++(Y2++B))))::L)) ?_ ?_
  rotate_left
  ·refine Za2 (λt w'=>w2=w'/\t=.bool (decide (0 < X1.length/\0 < Y1.length))) ?_ ?_
   rotate_left
   ·refine r_lss (r_ifD (λq=>?_) λq=>?_)
    ·refine r_lss (r_ke ⟨rfl,?_⟩)
     congr 1
     exact decide_eq_decide.2 (by omega)
    ·exact r_ke ⟨rfl,by rw[decide_eq_false (by omega)]⟩
   rintro _ _ _ ⟨rfl,rfl⟩;refine r_ifD (λq=>?_) λq=>?_
   ·refine ih (X:=X1) (Y:=Y1) (B:=X2++(Y2++B)) (by omega) hc H2 ha (by omega) (by omega) (gZ.1 q.1) (gZ.1 q.2) sX1 sY1 (λx hx=>hXW x (oX1 x hx)) (λx hx=>hYW x (oY1 x hx)) (λx hx y hy=>hXY x (oX1 x hx) y (oY1 y hy)) (by omega) λZ w3 p3 s3 S3 H3=>?_;exact r_ke ⟨Z,p3,s3,S2.trans S3,H3⟩
   ·refine r_ke ⟨X1++Y1,.refl _,?_,S2,by simpa only[gI] using H2⟩
    by_cases q1:X1.length=0
    ·rw[eq_nil_of_length_eq_zero q1,hO_];exact sY1
    ·rw[eq_nil_of_length_eq_zero (show Y1.length=0 by omega),gU];exact sX1
  clear H2 S2;rintro _ w3 ⟨Z1,p1,s1,S3,H3⟩
  have lZ1:Z1.length=h:=by rw[p1.length_eq,gD];omega
  refine Za2 (λt w'=>w3=w'/\t=.bool (decide (0 < X2.length/\0 < Y2.length))) ?_ ?_
  rotate_left
  ·refine r_lss (r_ifD (λq=>?_) λq=>?_)
   ·refine r_lss (r_ke ⟨rfl,?_⟩)
    congr 1
    exact decide_eq_decide.2 (by omega)
   ·exact r_ke ⟨rfl,by rw[decide_eq_false (by omega)]⟩
  rintro _ _ _ ⟨rfl,rfl⟩;refine r_ifD (λq=>?_) λq=>?_
  ·refine ih (A:=A++Z1) (X:=X2) (Y:=Y2) (B:=B) (by omega) hc (by simpa only[gI] using H3) (by simp;omega) (by omega) (by omega) (gZ.1 q.1) (gZ.1 q.2) sX2 sY2 (λx hx=>hXW x (oX2 x hx)) (λx hx=>hYW x (oY2 x hx)) (λx hx y hy=>hXY x (oX2 x hx) y (oY2 y hy)) (by omega) λZ w4 p4 s4 S4 H4=>?_;obtain⟨f1,f2⟩:=fin Z1 Z p1 p4 s1 s4;exact k _ _ f1 f2 (S3.trans S4) (by simpa only[gI] using H4)
  ·obtain⟨f1,f2⟩:=fin Z1 (X2++Y2) p1 (.refl _) s1 (by
    by_cases q1:X2.length=0
    ·rw[eq_nil_of_length_eq_zero q1,hO_];exact sY2
    ·rw[eq_nil_of_length_eq_zero (show Y2.length=0 by omega),gU];exact sX2)
   exact k _ _ f1 f2 S3 (by simpa only[gI] using H3)
theorem Zn1 {n:Nat}(hc:CmpOk W v f L) (H:Holds w (SL nv tI v (List.range' 0 n)::L)) (hW:n<=W.length) (hn:n<=1000000)
  (k:∀ Z w',Seg W 0 Z->Z.length=n->Same w w'->Holds w' (SL nv tI v Z::L)->K (.tuple #[]) w'):Cl prog 265 #[v,nv n,f] w K:=by
 refine Tz265 ?_;unfold Vz265
 refine Zag (λx y w'=>∃ (a:Nat) (Dn:List Nat),x=nv a/\y=nv (a+20)/\a<=n/\Dn.length=a/\(∀ R,Runs W 20 a R->Runs W 20 0 (Dn++R))/\Same w w'/\Holds w' (SL nv tI v (Dn++List.range' a (n - a))::L)) (λx _ _=>n - (intOf x).toNat)
  ⟨0,[],rfl,rfl,Nat.zero_le _,rfl,λ_ r=>r,.refl _,H⟩ ?_
 clear H;rintro _ _ _ w1 ⟨a,Dn,rfl,rfl,ha,hl,hr,S1,H1⟩;have hinc:∀ lo m,(List.range' lo m).Pairwise (· < ·):=λlo m=>List.pairwise_lt_range'
 have hmem:∀ lo m,lo+m<=n->∀ x∈List.range' lo m,x < W.length:=λlo m h x hx=>by
  have:=mem_range'_1.1 hx;omega
 refine r_leq (r_ifD (λh=>?_) λh=>?_)
 ·rw[Zrv a (n - a) 20 (by omega)] at H1;refine Ze5 (A:=Dn) (X:=List.range' a 20) hc H1 hl (by simp) (hmem _ _ (by omega)) (hinc _ _) (by omega) λZ w2 p s S2 H2=>?_
  have hZ:Z.length=20:=by rw[p.length_eq];simp
  refine Zad (b:=20) (by omega) (r_ke ⟨⟨a+20,Dn++Z,rfl,rfl,by omega,by rw[gD];omega,λR r=>?_,S1.trans S2,?_⟩,?_⟩)
  ·rw[gI];exact hr _ (.cons ⟨by rw[hZ];exact p,s⟩ hZ r)
  ·rw[show n - (a+20)=n - a - 20 by omega,gI];exact H2
  ·simp only[nv,intOf,gC];omega
 rw[show Dn++List.range' a (n - a)=Dn++(List.range' a (n - a)++[]) by simp] at H1;refine Ze5 (A:=Dn) (X:=List.range' a (n - a)) hc H1 hl (by simp;omega) (hmem _ _ (by omega)) (hinc _ _) (by omega) λZ w2 p s S2 H2=>?_
 have hZ:Z.length=n - a:=by rw[p.length_eq];simp
 have hruns:=hr Z (.last ⟨by rw[hZ];exact p,s⟩ (by omega));rw[gU] at H2
 refine Zac (λx w'=>∃ (s:Nat) (D:List Nat),x=nv s/\20<=s/\s<=10000000/\Runs W s 0 D/\D.length=n/\Same w w'/\Holds w' (SL nv tI v D::L)) (λx _=>n - (intOf x).toNat)
  ⟨20,_,rfl,by omega,by omega,hruns,by rw[gD];omega,S1.trans S2,H2⟩ ?_
 clear H1 S1 H2 S2 hruns hr;rintro _ _ w3 ⟨bs,D,rfl,hs20,hsb,hru,hDl,S3,H3⟩;refine r_lss (r_ifD (λhlt=>?_) λhlt=>?_)
 rotate_left
 ·exact k D _ (Zf8 hru (by omega) (by omega)) hDl S3 H3
 have hbn:bs < n:=by omega
 refine Zdi ((2*bs:Nat):Int) (by omega) (by omega) (by omega) ?_
 refine Zag (λx y w'=>∃ (a:Nat) (Dn R:List Nat),x=nv a/\y=nv (a+2*bs)/\Dn.length=a/\a+R.length=n/\Runs W bs a R/\(∀ R,Runs W (2*bs) a R->Runs W (2*bs) 0 (Dn++R))/\Same w w'/\Holds w' (SL nv tI v (Dn++R)::L)) (λx _ _=>n - (intOf x).toNat)
  ⟨0,[],D,rfl,by rw[Nat.zero_add],rfl,by omega,hru,λ_ r=>r,S3,H3⟩ ?_
 clear H3 S3 hru hDl;rintro _ _ _ w4 ⟨a2,Dn2,R,rfl,rfl,hl2,hR,hru,hr2,S4,H4⟩;refine r_leq (r_ifD (λh2=>?_) λh2=>?_)
 ·obtain⟨X,R1,rfl,gX,lX,r1⟩:=Zhp hru (by omega);rw[gD] at hR;obtain⟨Y,R2,rfl,gY,lY,r2⟩:=Zhp r1 (by omega);rw[gD] at hR;refine Zad (by omega) ?_
  refine Zpl _ (A:=Dn2) (X:=X) (Y:=Y) (B:=R2) (Nat.le_refl _) hc H4 hl2 (by omega) (by omega) (λe=>by rw[e,length_nil] at lX;omega) (λe=>by rw[e,length_nil] at lY;omega) gX.2 gY.2
   (λx hx=>Nat.lt_of_lt_of_le (Zp6 gX (Nat.le_refl _) x hx) (by omega)) (λx hx=>Nat.lt_of_lt_of_le (Zp6 gY (Nat.le_refl _) x hx) (by omega)) (Zp3 gX lX gY) (by omega) λZ w5 p s S5 H5=>?_
  have lZ:Z.length=2*bs:=by rw[p.length_eq,gD];omega
  refine Zdi ((2*bs:Nat):Int) (by omega) (by omega) (by omega) ?_;refine Zad (by omega) (r_ke ⟨⟨a2+2*bs,Dn2++Z,R2,rfl,rfl,by rw[gD];omega,by omega,?_,λQ q=>?_,S4.trans S5,?_⟩,?_⟩)
  ·rw[show a2+2*bs=a2+bs+bs by omega];exact r2
  ·rw[gI];exact hr2 _ (.cons (gX.join lX gY p s) lZ q)
  ·rw[gI];exact H5
  ·simp only[nv,intOf,gC];omega
 refine Zad (by omega) (r_lss (r_ifD (λh3=>?_) λh3=>?_))
 ·obtain⟨X,Y,rfl,gX,lX,r1⟩:=Zhp hru (by omega);rw[gD] at hR;have gY:=Zf8 r1 (by omega) (by omega);rw[show Dn2++(X++Y)=Dn2++(X++(Y++[])) by rw[gU]] at H4
  refine Zpl _ (A:=Dn2) (X:=X) (Y:=Y) (B:=[]) (Nat.le_refl _) hc H4 hl2 (by omega) (by omega) (λe=>by rw[e,length_nil] at lX;omega) (λe=>by rw[e,length_nil] at hR;omega) gX.2 gY.2
   (λx hx=>Nat.lt_of_lt_of_le (Zp6 gX (Nat.le_refl _) x hx) (by omega)) (λx hx=>Nat.lt_of_lt_of_le (Zp6 gY (Nat.le_refl _) x hx) (by omega)) (Zp3 gX lX gY) (by omega) λZ w5 p s S5 H5=>?_
  have lZ:Z.length=bs+Y.length:=by rw[p.length_eq,gD];omega
  rw[gU] at H5;refine Zdi ((2*bs:Nat):Int) (by omega) (by omega) (by omega) ?_;refine r_ke ⟨⟨2*bs,Dn2++Z,rfl,by omega,by omega,hr2 Z (.last (gX.join lX gY p s) (by omega)),by rw[gD];omega,S4.trans S5,H5⟩,?_⟩;simp only[nv,intOf,gC];omega
 ·refine Zdi ((2*bs:Nat):Int) (by omega) (by omega) (by omega) ?_;refine r_ke ⟨⟨2*bs,Dn2++R,rfl,by omega,by omega,hr2 R (.last (Zf8 hru (by omega) (by omega)) (by omega)),by rw[gD];omega,S4,H4⟩,?_⟩;simp only[nv,intOf,gC];omega
theorem Zud {n:Nat}(hc:CmpOk W v f L) (H:Holds w (SL nv tI v (List.range' 0 n)::L)) (hW:n<=W.length) (hn:n<=1000000)
  (k:∀ Z w',Seg W 0 Z->Z.length=n->Same w w'->Holds w' (SL nv tI v Z::L)->K (.tuple #[]) w'):Cl prog 262 #[v,f] w K:=by
 refine Tz262 ?_;unfold Vz262;refine r_lnS 0 H rfl ?_;rw[length_range'];refine Zn1 hc H hW hn λZ w' g l S' H'=>?_;exact k Z w' g l S' H'
abbrev tIs:Nat:=69
def fnT (wb:Nat):Value:=.func (.func 263) #[] #[pt wb]
theorem Ybu {wb i j:Nat}{wv:Value}(hi:L[i]?=some (blk wb tIs [wv])) (hj:L[j]?=some (SL nv tI wv W)):CmpOk W v (fnT wb) L:=by
 intro D w x y Q H hx hy k
 have gx:W[x]?=some (W.getD x 0):=by rw[gB,gA hx];rfl
 have gy:W[y]?=some (W.getD y 0):=by rw[gB,gA hy];rfl
 refine r_inv (f:=263) (args:=#[nv x,nv y,pt wb]) (by kernel_rfl) ?_;refine Tz263 ?_;unfold Vz263;refine r_dr H λw1 S1 H1=>?_;refine r_ld (i+1) H1 (by rw[gF];exact hi) rfl ?_;refine Zaa (j+1) H1 (by rw[gF];exact hj) gx ?_;refine r_ld (i+1) H1 (by rw[gF];exact hi) rfl ?_;refine Zaa (j+1) H1 (by rw[gF];exact hj) gy ?_;generalize W.getD x 0=p at *;generalize W.getD y 0=q at *
 have nan:∀ (c:Nat) {K:KT},K (.bool false) w1->Cl prog 266 #[nv c] w1 K:=by
  intro c K h;refine Tz266 ?_;unfold Vz266;refine r_neq ?_;rw[show ((c:Int) != (c:Int))=false by simp];exact h
 refine r_cl (K:=λz w'=>w1=w'/\∃ c:Int,z=iv c/\(c < 0↔p < q)) ?_ ?_
 ·refine Tz264 ?_;unfold Vz264;refine nan p (nan q (r_vf (r_vf ?_)));refine r_lss (r_ifD (λh=>?_) λh=>?_)
  ·exact⟨rfl,-1,rfl,by omega⟩
  ·refine r_gtr (r_ifD (λh2=>?_) λh2=>?_)
   ·exact⟨rfl,1,rfl,by omega⟩
   ·exact⟨rfl,0,rfl,by omega⟩
 rintro _ _ ⟨rfl,c,rfl,hcc⟩;exact k c _ hcc S1 H1
end S09
end Go.Proofs.YtieneaffjelhhaaGreat
namespace Go.Proofs.YtieneaffjelhhaaGreat
open Go Go.Vc Go.Proofs.Tryz
theorem Ybq {size:Nat}{a:Option Addr}{n c l:Nat}{k:IntKind}{K:Value->Prop}(h1:l<=n) (h2:n<=c) (hK:K (.slice (if c=l then a else a.map (·.add (l*size))) (n - l) (c - l))) :
  Ssl size (.slice a n c) (some (.int k (l:Int))) none K:=⟨a,n,c,l,n,rfl,⟨k,rfl⟩,rfl,h1,h2,hK⟩
attribute [local irreducible] Vc.Nc Vc.Ld Vc.LdA Vc.St Vc.StA Vc.Fo Vc.Iaa Vc.Ias Vc.Ixs Vc.Ixa Vc.Fd Vc.FdA Vc.Bp Vc.Bb Vc.Bn Vc.Up Vc.Ci Vc.Lns Vc.Lnl Vc.Ex Vc.Sst Vc.Ssl Vc.New Vc.Vif Vc.VJoin Vc.VLoop Vc.KE Vc.Dr Vc.Rk Vc.Cl Vc.Cx Vc.Inv Vc.Be Vc.Cv Vc.Cw Vc.Mf Vc.Sl Vc.Lk Vc.Bd Vc.Bs Vc.Ms Vc.Mm Vc.Mu Vc.Me Vc.Es Vc.Rg Vc.Nx Vc.Ta Vc.Ap Vc.Usd Vc.Ust Vc.Cp Vc.Ln Vc.Bc Vc.Bmin Vc.Bmax Vc.Bdel Vc.Bclr Vc.Pk
namespace T09
open Go.Mh Go.Ms S09
variable {w:World}{L:List HProp}{K:KT}{W lf:List Nat}{tb j:Nat}{wv xv lv:Value}
abbrev tTr:Nat:=316
def fI:Option Nat->Value
 |none=>iv (-1)
 |some p=>nv p
theorem sg_fI (o:Option Nat):sg (fI o)=true:=by cases o <;> rfl
def LV (v:Value) (lf:List Nat):HProp:=λh=>∃ b o c cells,(v=.slice (some ⟨b,o,none⟩) lf.length c/\lf.length<=c/\(cells.drop o).take lf.length=lf.map nv)/\blk b tI cells h
theorem Ya8 (H:Holds w L) (i:Nat){v:Value}(hi:L[i]?=some (LV v lf)):∃ b o c cells,v=.slice (some ⟨b,o,none⟩) lf.length c/\lf.length<=c/\(cells.drop o).take lf.length=lf.map nv/\Holds w (L.set i (blk b tI cells)):=by
 obtain⟨g,⟨b,o,c,cells,⟨h1,h2,h3⟩,hg⟩,hs,hL⟩:=H.front i hi;exact⟨b,o,c,cells,h1,h2,h3,Sat.push i hi ⟨g,hg,hs,hL⟩⟩
theorem Zjm (H:Holds w L) (i:Nat){b o c:Nat}{cells:List Value}(hi:L[i]?=some (blk b tI cells)) (h2:lf.length<=c) (h3:(cells.drop o).take lf.length=lf.map nv) :
  Holds w (L.set i (LV (.slice (some ⟨b,o,none⟩) lf.length c) lf)):=H.at i hi λg hg=>⟨b,o,c,cells,⟨rfl,h2,h3⟩,hg⟩
theorem Zwe {v:Value}(H:Holds w L) (i:Nat) (hi:L[i]?=some (SL nv tI v lf)) (hne:lf≠[]):Holds w (L.set i (LV v lf)):=by
 obtain⟨oa,sp,rfl,H1⟩:=H.open i hi
 cases oa with
 |none=>
  obtain⟨g,⟨h2,_⟩,_⟩:=H1.front i (Za1 hi);exact absurd h2 hne
 |some a=>
  obtain⟨g,⟨h2,h3,_⟩,_⟩:=H1.front i (Za1 hi);obtain⟨b,o,s⟩:=a;simp only at h2 h3;subst h2;subst h3;have H2:=H1.slb i (Za1 hi);have H3:=Zjm (lf:=lf) (c:=lf.length+sp.length) (o:=0) H2 i (Za1 (Za1 hi)) (by omega) (by rw[List.drop_zero,List.take_left' (by simp)]);rw[set_set,set_set] at H3;exact H3
theorem least_spec (H:Holds w (blk tb tTr [wv,xv,lv,nv j]::SL nv tI wv W::LV lv lf::L)) (hj:j<=W.length) (hl:∀ x∈lf,x < W.length) (hne:lf≠[]\/j < W.length) (hW:W.length<=1000000)
  (k:∀ lv' w',Same w w'->Holds w' (blk tb tTr [wv,xv,lv',nv (tail2 W lf j)]::SL nv tI wv W::LV lv' (tail1 W lf j)::L)->K (nv (head W lf j)) w'):Cl prog 260 #[pt tb] w K:=by
 refine Tz260 ?_;unfold Vz260;obtain⟨b,o,c,cells,rfl,hc,hcells,H1⟩:=Ya8 H 2 rfl;replace H1:Holds w (blk tb tTr [wv,xv,.slice (some ⟨b,o,none⟩) lf.length c,nv j]::SL nv tI wv W::blk b tI cells::L):=H1
 have g:∀ x,x < W.length->W[x]?=some (W.getD x 0):=λx hx=>by rw[gB,gA hx];rfl
 have back:∀ {w':World} {K':KT},j < W.length->Same w w'->Holds w' (blk tb tTr [wv,xv,.slice (some ⟨b,o,none⟩) lf.length c,nv j]::SL nv tI wv W::blk b tI cells::L)->
   (∀ w2,Same w w2->Holds w2 (blk tb tTr [wv,xv,.slice (some ⟨b,o,none⟩) lf.length c,nv (j+1)]::SL nv tI wv W::LV (.slice (some ⟨b,o,none⟩) lf.length c) lf::L)->K' (nv j) w2)->
   Nc (pt tb) (Fo 3 (pt tb) λx_10=>Ld x_10 w' λx_11=>Bp .add x_11 (.int .i64 1) λx_12=>Nc (pt tb) (Fo 3 (pt tb) λx_13=>St x_13 x_12 w' λw3=>Nc (pt tb) (Fo 3 (pt tb) λx_14=>Ld x_14 w3 λx_15=>Bp .sub x_15 (.int .i64 1) λx_16=>K' x_16 w3))):=by
  intro w' K' hlt S' H' kk;refine r_nc (r_fo0 (r_ld 0 H' rfl rfl ?_));refine Za0 (by omega) ?_;refine r_nc (r_fo0 (r_st 0 H' rfl (by simp) rfl λw2 S2 H2=>?_));replace H2:Holds w2 (blk tb tTr [wv,xv,.slice (some ⟨b,o,none⟩) lf.length c,nv (j+1)]::SL nv tI wv W::blk b tI cells::L):=H2;refine r_nc (r_fo0 (r_ld 0 H2 rfl rfl ?_));refine Zah (by omega) (by omega) ?_;exact kk w2 (S'.trans S2) (Zjm H2 2 rfl hc hcells)
 cases lf with
 |nil=>
  have hlt:j < W.length:=by rcases hne with h|h;exact absurd rfl h;exact h
  refine Za2 (λt w'=>Same w w'/\Holds w' (blk tb tTr [wv,xv,.slice (some ⟨b,o,none⟩) ([]:List Nat).length c,nv j]::SL nv tI wv W::blk b tI cells::L)/\t=.bool false) ?_ ?_
  rotate_left
  ·refine r_dr H1 λw2 S2 H2=>?_;refine r_nc (r_fo0 (r_ld 0 H2 rfl rfl ?_));refine r_nc (r_fo0 (r_ld 0 H2 rfl rfl ?_));refine r_lnS 1 H2 rfl ?_;refine r_eql (r_vfE (by omega) ?_);refine r_nc (r_fo0 (r_ld 0 H2 rfl rfl ?_));refine r_lnl ?_;refine r_gtr (r_vfD (by simp) ?_);exact r_ke ⟨S2,H2,rfl⟩
  rintro _ _ w2 ⟨S2,H2,rfl⟩;refine r_vf (back hlt S2 H2 λw3 S3 H3=>?_);exact k _ _ S3 H3
 |cons x l=>
  have hxW:=hl x (hJ_ ..)
  have hc0:cells[o]?=some (nv x):=by
   have:=congrArg (·[0]?) hcells;simpa using this
  refine Za2 (λt w'=>Same w w'/\Holds w' (blk tb tTr [wv,xv,.slice (some ⟨b,o,none⟩) (x::l).length c,nv j]::SL nv tI wv W::blk b tI cells::L)/\t=.bool (decide (j=W.length\/W.getD x 0<=W.getD j 0))) ?_ ?_
  rotate_left
  ·refine r_dr H1 λw2 S2 H2=>?_;refine r_nc (r_fo0 (r_ld 0 H2 rfl rfl ?_));refine r_nc (r_fo0 (r_ld 0 H2 rfl rfl ?_));refine r_lnS 1 H2 rfl ?_;refine r_eql (r_ifE (λh=>?_) λh=>?_)
   ·exact r_ke ⟨S2,H2,by rw[decide_eq_true (.inl (by omega))]⟩
   refine r_nc (r_fo0 (r_ld 0 H2 rfl rfl ?_));refine r_lnl ?_;refine r_gtr (r_vtD (by rw[length_cons];omega) ?_);refine r_nc (r_fo0 (r_ld 0 H2 rfl rfl ?_));refine r_nc (r_fo0 (r_ld 0 H2 rfl rfl ?_));refine r_ias (n:=0) (by omega) (by rw[length_cons];omega) ?_;refine r_ld 2 H2 rfl (v:=nv x) (by simpa using hc0) ?_;refine Zaa 1 H2 rfl (g x hxW) ?_;refine r_nc (r_fo0 (r_ld 0 H2 rfl rfl ?_));refine r_nc (r_fo0 (r_ld 0 H2 rfl rfl ?_));refine Zaa 1 H2 rfl (g j (by omega)) ?_;refine r_leq (r_ke ⟨S2,H2,?_⟩)
   congr 1
   exact decide_eq_decide.2 (by omega)
  rintro _ _ w2 ⟨S2,H2,rfl⟩;refine r_ifD (λh=>?_) λh=>?_
  ·refine r_nc (r_fo0 (r_ld 0 H2 rfl rfl ?_));refine r_ias (n:=0) (by omega) (by rw[length_cons];omega) ?_;refine r_ld 2 H2 rfl (v:=nv x) (by simpa using hc0) ?_;refine r_nc (r_fo0 (r_ld 0 H2 rfl rfl ?_));rw[length_cons] at hc;refine Ybq (l:=1) (by rw[length_cons];omega) (by rw[length_cons];omega) ?_;refine r_nc (r_fo0 (r_st 0 H2 rfl (by simp) rfl λw3 S3 H3=>?_))
   obtain⟨o',ho',hcl⟩:∃ o',(if c=1 then some (⟨b,o,none⟩:Addr) else Option.map (λq:Addr=>q.add (1*1)) (some (⟨b,o,none⟩:Addr)))=some (⟨b,o',none⟩:Addr)/\(cells.drop o').take l.length=l.map nv:=by
    by_cases hc1:c=1
    ·have:l=[]:=eq_nil_of_length_eq_zero (by omega);subst this;exact⟨o,by rw[if_pos hc1],by simp⟩
    ·refine⟨o+1,by rw[if_neg hc1];rfl,?_⟩;have:=congrArg (·.drop 1) hcells;simpa [List.drop_take,List.drop_drop] using this
   rw[ho'] at H3;replace H3:Holds w3 (blk tb tTr [wv,xv,.slice (some ⟨b,o',none⟩) l.length (c - 1),nv j]::SL nv tI wv W::blk b tI cells::L):=H3;have H4:=Zjm (lf:=l) (c:=c - 1) (o:=o') H3 2 rfl (by omega) hcl;have e1:head W (x::l) j=x:=if_pos h;have e2:tail1 W (x::l) j=l:=if_pos h;have e3:tail2 W (x::l) j=j:=if_pos h;have:=k (.slice (some ⟨b,o',none⟩) l.length (c - 1)) w3 (S2.trans S3);rw[e1,e2,e3] at this;exact this H4
  ·have e1:head W (x::l) j=j:=if_neg h;have e2:tail1 W (x::l) j=x::l:=if_neg h;have e3:tail2 W (x::l) j=j+1:=if_neg h;refine back (by omega) S2 H2 λw3 S3 H3=>?_;have:=k (.slice (some ⟨b,o,none⟩) (x::l).length c) w3 S3;rw[e1,e2,e3] at this;exact this H3
theorem join_spec {I:List (Option Nat)}{a b:Nat}(H:Holds w (blk tb tTr [wv,xv,lv,nv j]::SL nv tI wv W::SL fI tI xv I::L)) (ha:a < W.length) (hb:b < W.length) (hI:I.length=W.length) (hW:W.length<=1000000)
  (hs:W.getD a 0+W.getD b 0 < 9223372036854775807)
  (k:∀ wv' xv' w',Same w w'->Holds w' (blk tb tTr [wv',xv',lv,nv j]::SL nv tI wv' (W++[W.getD a 0+W.getD b 0])::SL fI tI xv' (((I.set a (some W.length)).set b (some W.length))++[none])::L)->K (.tuple #[]) w'):Cl prog 261 #[pt tb,nv a,nv b] w K:=by
 refine Tz261 ?_;unfold Vz261
 have g:∀ x,x < W.length->W[x]?=some (W.getD x 0):=λx hx=>by rw[gB,gA hx];rfl
 refine r_dr H λw1 S1 H1=>?_;refine r_nc (r_fo0 (r_ld 0 H1 rfl rfl ?_));refine r_nc (r_fo0 (r_ld 0 H1 rfl rfl ?_));refine r_lnS 1 H1 rfl ?_;refine Zao 2 H1 (f:=fI) (some W.length) rfl (by omega) rfl λw2 S2 H2=>?_;replace H2:Holds w2 (blk tb tTr [wv,xv,lv,nv j]::SL nv tI wv W::SL fI tI xv (I.set a (some W.length))::L):=H2;refine r_dr H2 λw3 S3 H3=>?_;refine r_nc (r_fo0 (r_ld 0 H3 rfl rfl ?_));refine r_nc (r_fo0 (r_ld 0 H3 rfl rfl ?_));refine r_lnS 1 H3 rfl ?_;refine Zao 2 H3 (f:=fI) (some W.length) rfl (by rw[hX_];omega) rfl λw4 S4 H4=>?_;replace H4:Holds w4 (blk tb tTr [wv,xv,lv,nv j]::SL nv tI wv W::SL fI tI xv ((I.set a (some W.length)).set b (some W.length))::L):=H4;refine r_dr H4 λw5 S5 H5=>?_;refine r_nc (r_fo0 (r_ld 0 H5 rfl rfl ?_));refine r_nc (r_fo0 (r_ld 0 H5 rfl rfl ?_));refine Zaa 1 H5 rfl (g a ha) ?_;refine r_nc (r_fo0 (r_ld 0 H5 rfl rfl ?_));refine Zaa 1 H5 rfl (g b hb) ?_;refine Zad hs ?_;refine Yas (f:=nv) H5 1 (xs:=W) rfl (W.getD a 0+W.getD b 0) (λ_=>rfl) (by omega) (λw' H'=>r_ld 0 H' rfl rfl rfl) λwv' w6 S6 H6=>?_;replace H6:Holds w6 (blk tb tTr [wv,xv,lv,nv j]::SL nv tI wv' (W++[W.getD a 0+W.getD b 0])::SL fI tI xv ((I.set a (some W.length)).set b (some W.length))::L):=H6;refine r_nc (r_fo0 (r_st 0 H6 rfl (by simp) (SL_sg H6 1 rfl) λw7 S7 H7=>?_));replace H7:Holds w7 (blk tb tTr [wv',xv,lv,nv j]::SL nv tI wv' (W++[W.getD a 0+W.getD b 0])::SL fI tI xv ((I.set a (some W.length)).set b (some W.length))::L):=H7;refine r_nc (r_fo0 (r_ld 0 H7 rfl rfl ?_));refine Zdc (f:=fI) H7 2 (xs:=(I.set a (some W.length)).set b (some W.length)) rfl none sg_fI (by rw[hX_,hX_];omega) λxv' w8 S8 H8=>?_;replace H8:Holds w8 (blk tb tTr [wv',xv,lv,nv j]::SL nv tI wv' (W++[W.getD a 0+W.getD b 0])::SL fI tI xv' (((I.set a (some W.length)).set b (some W.length))++[none])::L):=H8;refine r_nc (r_fo0 (r_st 0 H8 rfl (by simp) (SL_sg H8 2 rfl) λw9 S9 H9=>?_));exact k wv' xv' w9 (S1.trans (S2.trans (S3.trans (S4.trans (S5.trans (S6.trans (S7.trans (S8.trans S9)))))))) H9
theorem Zlq {v:Value}{i:Nat}(H:Holds w L) (hi:L[i]?=some (SL nv tI v W)) (h0:0 < W.length) (hW:W.length<=100000)
  (k:∀ tb wv xv lv lf w',Seg W 0 lf->lf.length=W.length->Same w w'->Holds w' (blk tb tTr [wv,xv,lv,nv W.length]::SL nv tI wv W::SL fI tI xv (List.replicate W.length none)::LV lv lf::L)->K (pt tb) w'):Cl prog 259 #[v] w K:=by
 refine Tz259 ?_;unfold Vz259;obtain⟨oa,sp,rfl,_⟩:=H.open i hi;refine r_new H λwb w1 S1 H1=>?_;replace H1:Holds w1 (blk wb tIs [.slice oa W.length (W.length+sp.length)]::L):=H1;refine r_dr H1 λw2 S2 H2=>?_;refine r_ld 0 H2 rfl rfl ?_;refine Zcd H2 (i+1) (by rw[gF];exact hi) (by omega) λcv w3 S3 H3=>?_;refine r_ld 1 H3 rfl rfl ?_;refine r_rk (r_ld 0 H2 rfl rfl rfl) ?_;refine r_lnl (r_rk (r_lnl rfl) ?_);obtain⟨oa',sp',rfl,_⟩:=H3.open 0 rfl;refine r_bd (v:=.agg #[.slice oa' W.length (W.length+sp'.length),.slice none 0 0,.slice none 0 0,nv W.length]) (by kernel_rfl) ?_;refine r_new H3 λtb w4 S4 H4=>?_;generalize hcv:Value.slice oa' W.length (W.length+sp'.length)=cv at *;generalize hv:Value.slice oa W.length (W.length+sp.length)=v at *;replace H4:Holds w4 (blk tb tTr [cv,.slice none 0 0,.slice none 0 0,nv W.length]::SL nv tI cv W::blk wb tIs [v]::L):=H4;refine r_ld 2 H4 rfl rfl ?_;rw[<-hv];refine r_lnl ?_;have H5:=((H4.nilSL nv tI).nilSL fI tI).ord 5 [2,3,0,1,4] rfl
 refine Zac (λx w'=>∃ (n:Nat) (xv lv:Value),x=nv n/\n<=W.length/\Same w w'/\Holds w' (blk tb tTr [cv,xv,lv,nv W.length]::SL nv tI cv W::SL fI tI xv (List.replicate n none)::SL nv tI lv (List.range' 0 n)::blk wb tIs [v]::L)) (λx _=>W.length - (intOf x).toNat)
  ⟨0,.slice none 0 0,.slice none 0 0,rfl,Nat.zero_le _,S1.trans (S2.trans (S3.trans S4)),H5⟩ ?_
 clear H5 H4 H3 H2 H1 S1 S2 S3 S4;rintro _ _ w5 ⟨n,xv,lv,rfl,hn,S5,H5⟩;refine r_lss (r_ifD (λh=>?_) λh=>?_)
 ·refine r_nc (r_fo0 (r_ld 0 H5 rfl rfl ?_));refine Zdc (f:=nv) H5 3 (xs:=List.range' 0 n) rfl n (λ_=>rfl) (by simp;omega) λlv' w6 S6 H6=>?_;rw[show List.range' 0 n++[n]=List.range' 0 (n+1) by rw[List.range'_concat];simp] at H6;replace H6:Holds w6 (blk tb tTr [cv,xv,lv,nv W.length]::SL nv tI cv W::SL fI tI xv (List.replicate n none)::SL nv tI lv' (List.range' 0 (n+1))::blk wb tIs [v]::L):=H6;refine r_nc (r_fo0 (r_st 0 H6 rfl (by simp) (SL_sg H6 3 rfl) λw7 S7 H7=>?_));replace H7:Holds w7 (blk tb tTr [cv,xv,lv',nv W.length]::SL nv tI cv W::SL fI tI xv (List.replicate n none)::SL nv tI lv' (List.range' 0 (n+1))::blk wb tIs [v]::L):=H7;refine r_nc (r_fo0 (r_ld 0 H7 rfl rfl ?_));refine Zdc (f:=fI) H7 2 (xs:=List.replicate n none) rfl none sg_fI (by simp;omega) λxv' w8 S8 H8=>?_;rw[<-List.replicate_succ'] at H8;replace H8:Holds w8 (blk tb tTr [cv,xv,lv',nv W.length]::SL nv tI cv W::SL fI tI xv' (List.replicate (n+1) none)::SL nv tI lv' (List.range' 0 (n+1))::blk wb tIs [v]::L):=H8;refine r_nc (r_fo0 (r_st 0 H8 rfl (by simp) (SL_sg H8 2 rfl) λw9 S9 H9=>?_));replace H9:Holds w9 (blk tb tTr [cv,xv',lv',nv W.length]::SL nv tI cv W::SL fI tI xv' (List.replicate (n+1) none)::SL nv tI lv' (List.range' 0 (n+1))::blk wb tIs [v]::L):=H9;refine Za0 (by omega) (r_ke ⟨⟨n+1,xv',lv',rfl,by omega,S5.trans (S6.trans (S7.trans (S8.trans S9))),H9⟩,?_⟩);simp only[nv,intOf,gC];omega
 obtain rfl:n=W.length:=by omega
 refine r_nc (r_fo0 (r_ld 0 H5 rfl rfl ?_));refine r_mf (fnT wb) (by kernel_rfl) ?_;have H6:=H5.ord 5 [3,0,1,2,4] rfl;refine Zud (W:=W) (Ybu (i:=3) (j:=i+4) (wb:=wb) (wv:=v) rfl hi) H6 (Nat.le_refl _) (by omega) λZ w7 hZ lZ S7 H7=>?_;have H8:=Zwe H7 0 rfl (λe=>by rw[e,length_nil] at lZ;omega);have H9:=H8.ord 5 [1,2,3,0] rfl;exact k tb cv xv lv Z w7 hZ lZ (S5.trans S7) H9
theorem Yay {v:Value}{D:List Nat}{n i:Nat}{K:Value->Prop}(H:Holds w L) (hi:L[i]?=some (SL nv tI v D)) (hn:n<=D.length) (hD:D≠[])
  (k:∀ v',Holds w (L.set i (SL nv tI v' (D.take n)))->K v'):Ssl 1 v none (some (nv n)) K:=by
 obtain⟨oa,sp,rfl,H1⟩:=H.open i hi
 cases oa with
 |none=>
  obtain⟨g,⟨h2,_⟩,_⟩:=H1.front i (Za1 hi);exact absurd h2 hD
 |some a=>
  obtain⟨g,⟨h2,h3,_⟩,_⟩:=H1.front i (Za1 hi);obtain⟨b,o,s⟩:=a;simp only at h2 h3;subst h2;subst h3;refine Zp2 (by omega) (k _ ?_);have H2:=H1.slb i (Za1 hi);rw[set_set] at H2;rw[show D.map nv++sp=(D.take n).map nv++((D.drop n).map nv++sp) by rw[<-gI,<-map_append,hN_]] at H2;have H3:=H2.slb' (xs:=D.take n) (f:=nv) i (Za1 hi);rw[set_set] at H3;have H4:=H3.close i (Za1 hi);rw[set_set] at H4
  have e1:(D.take n).length=n:=by rw[gN];omega
  have e2:n+((D.drop n).map nv++sp).length=D.length+sp.length:=by simp;omega
  rw[e1,e2] at H4;exact H4
theorem Zmw {v:Value}{i:Nat}(H:Holds w L) (hi:L[i]?=some (SL nv tI v W)) (h2:2<=W.length) (hW:W.length<=258) (hw:∀ x∈W,x<=1099511627776)
  (k:∀ v' out w',Depths W out->Same w w'->Holds w' (SL nv tI v' out::L)->K v' w'):Cl prog 255 #[v] w K:=by
 refine Tz255 ?_;unfold Vz255;have hT:Tot (h0 W)<=258*1099511627776:=Nat.le_trans (tot0 hw) (Nat.mul_le_mul_right _ hW);refine Zlq H hi (by omega) (by omega) λtb wv0 xv0 lv0 lf0 w1 hS hl S1 H1=>?_;refine r_lnS i H hi ?_;refine Zah (by omega) (by omega) ?_
 refine Zac (λx w'=>∃ (q:Nat) (s:HS) (lf:List Nat) (j:Nat) (wv xv lv:Value),x=nv q/\q<=W.length - 1/\Joins (h0 W) q s/\Queue W.length s lf j/\Tot s=Tot (h0 W)/\(0 < q->s.W.length - 1∈s.V)/\Same w w'/\
   Holds w' (blk tb tTr [wv,xv,lv,nv j]::SL nv tI wv s.W::SL fI tI xv s.I::LV lv lf::L)) (λx _=>W.length - (intOf x).toNat)
  ⟨0,h0 W,lf0,W.length,wv0,xv0,lv0,rfl,Nat.zero_le _,.start,queue0 (by rw[List.range_eq_range',<-hl];exact hS.1) hS.2,rfl,λe=>absurd e (Nat.lt_irrefl _),S1,H1⟩ ?_
 clear H1 S1;rintro _ _ w2 ⟨q,s,lf,j,wv,xv,lv,rfl,hq,hJ,hQ,hTt,hlast,S2,H2⟩;obtain⟨hg,hVl,hWl⟩:=Zbz hJ;refine r_lss (r_ifD (λh=>?_) λh=>?_)
 ·have hV2:2<=s.V.length:=by omega
  obtain⟨s',a,b,ea,eb,jn,hQ',hal,hbl,hne⟩:=Zr8 hg hQ hV2;have hjn:=hQ.jn;have hlen:=hQ.perm.length_eq;rw[gD,length_range'] at hlen;obtain⟨a1,a2,a3,a4,a5⟩:=Zfl hQ.jn hQ.lfn hQ.sorted hQ.mono (by intro e;have:=congrArg List.length e;rw[gD,length_range',length_nil] at this;omega);have hlen2:=a2.length_eq;rw[List.length_erase_of_mem a1.1,gD,gD,length_range',length_range'] at hlen2;have tt:=Zti jn.la.1 jn.lb.1;have H3:Holds w2 (blk tb tTr [wv,xv,lv,nv j]::SL nv tI wv s.W::LV lv lf::SL fI tI xv s.I::L):=H2.ord 4 [0,1,3,2] rfl
  refine least_spec H3 hjn.2 (λx hx=>by have:=hQ.lfn x hx;omega) (by
   by_cases e:lf=[]
   ·right;rw[e,length_nil] at hlen;omega
   ·exact .inl e) (by omega) λlv1 w3 S3 H4=>?_
  refine least_spec H4 a3.2 (λx hx=>by have:=a4 x hx;omega) (by
   by_cases e:tail1 s.W lf j=[]
   ·right;rw[e,length_nil] at hlen2;omega
   ·exact .inl e) (by omega) λlv2 w4 S4 H5=>?_
  rw[<-ea,<-eb];generalize tail1 s.W (tail1 s.W lf j) (tail2 s.W lf j)=lf2 at *;generalize tail2 s.W (tail1 s.W lf j) (tail2 s.W lf j)=j2 at *;have H6:Holds w4 (blk tb tTr [wv,xv,lv2,nv j2]::SL nv tI wv s.W::SL fI tI xv s.I::LV lv2 lf2::L):=H5.ord 4 [0,1,3,2] rfl;refine join_spec H6 hal hbl hg.len (by omega) (by omega) λwv' xv' w5 S5 H7=>?_;rw[<-jn.W,<-jn.I] at H7;refine Za0 (by omega) (r_ke ⟨⟨q+1,s',lf2,j2,wv',xv',lv2,rfl,by omega,hJ.next jn,hQ',(Zp9 hg jn).trans hTt,λ_=>?_,S2.trans (S3.trans (S4.trans S5)),H7⟩,?_⟩)
  ·rw[jn.V.mem_iff,jn.W,gD,gQ,Nat.add_sub_cancel];exact hJ_ ..
  ·simp only[nv,intOf,gC];omega
 obtain rfl:q=W.length - 1:=by omega
 obtain⟨r,hr⟩:=List.length_eq_one_iff.1 (show s.V.length=1 by omega)
 have hrl:r=s.W.length - 1:=by
  have:=hlast (by omega);rw[hr] at this;exact (mem_singleton.1 this).symm
 have hup:∀ x p,s.I[x]?=some (some p)->x < p/\p < s.W.length:=by
  intro x p hx
  have h1:x < s.W.length:=by have:=(gH.1 hx).1;rw[hg.len] at this;exact this
  have h3:x∉s.V:=λe=>by rw[hg.live x e] at hx;cases hx
  obtain⟨p',h4,h5,h6⟩:=hg.dead x h1 h3;rw[hx] at h4;cases h4;exact⟨h5,h6⟩
 refine r_nc (r_fo0 (r_ld 0 H2 rfl rfl ?_));refine r_lnS 1 H2 rfl ?_;obtain⟨m,hm⟩:∃ m,m=s.W.length:=⟨_,rfl⟩;rw[<-hm];refine r_ms (f:=nv) (x:=0) H2 rfl (by omega) (by omega) λob w3 S3 H3=>?_;rw[gC] at H3 ⊢;have H4:=H3.close 0 rfl;simp only[gJ,gP,length_nil,Nat.add_zero] at H4;generalize hv:Value.slice (some ⟨ob,0,none⟩) m m=ov at H4 ⊢;refine r_lnS 0 H4 rfl ?_;rw[gP];refine Zbm (b:=2) (by omega) (by omega) ?_
 have hz:∀ x,(List.replicate m 0).getD x 0=0:=λx=>by
  rw[gB,getElem?_replicate]
  split <;> rfl
 refine Zac (λx w'=>∃ (t:Nat) (D:List Nat),x=iv ((t:Int) - 1)/\t<=m - 1/\D.length=m/\D.getD (m - 1) 0=0/\(∀ x p,t<=x->s.I[x]?=some (some p)->D.getD x 0=D.getD p 0+1)/\(∀ x,D.getD x 0<=m - x)/\Same w w'/\
   Holds w' (SL nv tI ov D::blk tb tTr [wv,xv,lv,nv j]::SL nv tI wv s.W::SL fI tI xv s.I::LV lv lf::L)) (λx _=>(intOf x+1).toNat)
  ⟨m - 1,List.replicate m 0,by rw[show ((m - 1:Nat):Int) - 1=((m - 2:Nat):Int) by omega],Nat.le_refl _,gP,hz _,λx p h1 h3=>by have:=hup x p h3;omega,λx=>by rw[hz];omega,S2.trans S3,H4⟩ ?_
 clear H4 H3 S3 S2 H2;rintro _ _ w4 ⟨t,D,rfl,ht,hDl,hD0,hD,hDb,S4,H4⟩;refine r_geq (r_ifD (λh=>?_) λh=>?_)
 ·obtain⟨x,rfl⟩:∃ x,t=x+1:=⟨t - 1,by omega⟩;rw[show ((x+1:Nat):Int) - 1=(x:Int) by omega];obtain⟨p,hp,hxp,hpm⟩:=hg.dead x (by omega) (by rw[hr];intro e;have:=mem_singleton.1 e;omega);refine r_nc (r_fo0 (r_ld 1 H4 rfl rfl ?_));refine Zaa 3 H4 (f:=fI) rfl hp ?_
  have hpD:D[p]?=some (D.getD p 0):=by rw[gB,gA (by omega)];rfl
  refine Zaa 0 H4 (j:=p) rfl hpD ?_;have hb:=hDb p;refine Za0 (by omega) ?_;refine Zao 0 H4 (D.getD p 0+1) rfl (by omega) rfl λw5 S5 H5=>?_;replace H5:Holds w5 (SL nv tI ov (D.set x (D.getD p 0+1))::blk tb tTr [wv,xv,lv,nv j]::SL nv tI wv s.W::SL fI tI xv s.I::LV lv lf::L):=H5;refine r_sub (by omega) (by omega) ?_
  have hset:∀ y,(D.set x (D.getD p 0+1)).getD y 0=if y=x then D.getD p 0+1 else D.getD y 0:=by
   intro y;rw[gB,getElem?_set]
   by_cases e:x=y
   ·subst e;rw[if_pos rfl,if_pos (by omega),if_pos rfl];rfl
   ·rw[if_neg e,if_neg (λe2=>e e2.symm),<-gB]
  refine r_ke ⟨⟨x,_,rfl,by omega,by rw[hX_];exact hDl,?_,?_,?_,S4.trans S5,H5⟩,?_⟩
  ·rw[hset,if_neg (by omega)];exact hD0
  ·intro y p' h1 h3;have h5:=hup y p' h3;rw[hset,hset]
   by_cases e:y=x
   ·subst e;rw[hp] at h3;cases h3;rw[if_pos rfl,if_neg (by omega)]
   ·rw[if_neg e,if_neg (by omega)];exact hD y p' (by omega) h3
  ·intro y;rw[hset];split
   ·rename_i e;omega
   ·exact hDb y
  ·simp only[iv,intOf];omega
 obtain rfl:t=0:=by omega
 refine r_lnS i H hi ?_
 have hDne:D≠[]:=λe=>by rw[e,length_nil] at hDl;omega
 refine Yay H4 (i:=0) rfl (by omega) hDne λv' H5=>?_;have H6:=H5.ord 5 [0] rfl;refine k v' (D.take W.length) w4 ⟨s,r,hJ,hr,by rw[gN];omega,λx hx=>?_⟩ S4 H6
 have e1:(D.take W.length).getD x 0=D.getD x 0:=by rw[gB,hI_ hx,<-gB]
 rw[e1];exact Zvo hg hr (by rw[hrl,<-hm];exact hD0) (λa p h=>hD a p (Nat.zero_le _) h) _ x (Nat.le_refl _) (by omega)
end T09
end Go.Proofs.YtieneaffjelhhaaGreat
namespace Go.Proofs.YtieneaffjelhhaaGreat
open Go Go.Vc Go.Proofs.Tryz
open Classical in
theorem Zdq {w:World}{a:Value}{body:(Nat->Value)->Cur 1->Cur 1}(I:Nat->Value->World->Prop) (n0:Nat) (h0:I n0 a w)
  (h:∀ jb n x w (k:Cur 1),I n x w->(∀ m x' w',m < n->I m x' w'->k x' w')->body jb k x w):VLoop 1 [a] w body:=by
 refine Zac (λx w'=>∃ n,I n x w') (λx w'=>if h:∃ n,I n x w' then Classical.choose (Mh.Zb5 h) else 0) ⟨n0,h0⟩ ?_;intro jb x w1 hx;have e1:=Classical.choose_spec (Mh.Zb5 hx);refine h jb _ x w1 _ e1.1 λm x' w' hm hI=>⟨⟨m,hI⟩,?_⟩;have hx':∃ n,I n x' w':=⟨m,hI⟩;have e2:=Classical.choose_spec (Mh.Zb5 hx');show dite _ _ _ < dite _ _ _;rw[dif_pos hx,dif_pos hx'];exact Nat.lt_of_le_of_lt (e2.2 m hI) hm
attribute [local irreducible] Vc.Nc Vc.Ld Vc.LdA Vc.St Vc.StA Vc.Fo Vc.Iaa Vc.Ias Vc.Ixs Vc.Ixa Vc.Fd Vc.FdA Vc.Bp Vc.Bb Vc.Bn Vc.Up Vc.Ci Vc.Lns Vc.Lnl Vc.Ex Vc.Sst Vc.Ssl Vc.New Vc.Vif Vc.VJoin Vc.VLoop Vc.KE Vc.Dr Vc.Rk Vc.Cl Vc.Cx Vc.Inv Vc.Be Vc.Cv Vc.Cw Vc.Mf Vc.Sl Vc.Lk Vc.Bd Vc.Bs Vc.Ms Vc.Mm Vc.Mu Vc.Me Vc.Es Vc.Rg Vc.Nx Vc.Ta Vc.Ap Vc.Usd Vc.Ust Vc.Cp Vc.Ln Vc.Bc Vc.Bmin Vc.Bmax Vc.Bdel Vc.Bclr Vc.Pk
namespace O09
open Go.Mh
variable {w:World}{L:List HProp}{K:KT}
theorem Zl8 {v:Value}{l:List Nat}{i:Nat}(H:Holds w L) (hi:L[i]?=some (SL nv tI v l)) (hl:l.length<=1000000) (k:∀ n:Nat,(n<=20↔∀ x∈l,x<=20)->K (nv n) w):Cl prog 256 #[v] w K:=by
 refine Tz256 ?_;unfold Vz256;refine r_lnS i H hi ?_;refine Zag (λp q w'=>∃ n t:Nat,p=nv n/\q=nv t/\t<=l.length/\(n<=20↔∀ x∈l.take t,x<=20)/\w=w') (λ_ q _=>l.length - (intOf q).toNat) ⟨0,0,rfl,rfl,Nat.zero_le _,by simp,rfl⟩ ?_;rintro _ _ _ _ ⟨n,t,rfl,rfl,ht,hn,rfl⟩;refine r_lss (r_ifD (λh=>?_) λh=>?_)
 ·have hlt:t < l.length:=by omega
  refine Zaa i H hi (gA hlt) ?_;refine r_max ?_;refine Za0 (by omega) (r_ke ⟨⟨max n l[t],t+1,by rw[show max (n:Int) (l[t]:Int)=((max n l[t]:Nat):Int) by omega],rfl,by omega,?_,rfl⟩,?_⟩)
  ·have e:l.take (t+1)=l.take t++[l[t]]:=by rw[gO,gA hlt];rfl
   rw[e]
   constructor
   ·intro h1 x hx;rcases hT_.1 hx with hx|hx
    ·exact hn.1 (by omega) x hx
    ·rw[mem_singleton.1 hx];omega
   ·intro h1;have h2:=hn.2 λx hx=>h1 x (List.mem_append_left _ hx);have h3:=h1 l[t] (List.mem_append_right _ (mem_singleton.2 rfl));omega
  ·simp only[nv,intOf,gC];omega
 ·rw[gK (by omega)] at hn;exact k n hn
theorem Zmi {v:Value}{l:List Nat}{i:Nat}(H:Holds w L) (hi:L[i]?=some (SL nv tI v l)) (hl:l.length<=1000000) (hb:∀ x∈l,x<=1099511627776) (k:∀ v' w',Same w w'->Holds w' (SL nv tI v' (halved l)::L)->K v' w'):Cl prog 257 #[v] w K:=by
 refine Tz257 ?_;unfold Vz257;refine r_lnS i H hi ?_;refine r_ms (f:=nv) (x:=0) H rfl (by omega) (by omega) λob w2 S2 H2=>?_;rw[gC] at H2 ⊢;have H3:=H2.close 0 rfl;simp only[gJ,gP,length_nil,Nat.add_zero] at H3;generalize hv:Value.slice (some ⟨ob,0,none⟩) l.length l.length=ov at H3 ⊢;refine r_lnS i H hi ?_;refine Zac (λq w'=>∃ (t:Nat),q=nv t/\t<=l.length/\Same w w'/\Holds w' (SL nv tI ov (halved (l.take t)++List.replicate (l.length - t) 0)::L)) (λq _=>l.length - (intOf q).toNat) ⟨0,rfl,Nat.zero_le _,S2,H3⟩ ?_;clear H H2 H3 S2;rintro _ _ w3 ⟨t,rfl,ht,S3,H3⟩;refine r_lss (r_ifD (λh=>?_) λh=>?_)
 ·have hlt:t < l.length:=by omega
  have hx:=hb _ (getElem_mem hlt)
  have e:l.take (t+1)=l.take t++[l[t]]:=by rw[gO,gA hlt];rfl
  refine Zaa (i+1) H3 (by rw[gF];exact hi) (gA hlt) ?_;generalize l[t]=x at *;refine r_max ?_;rw[show max (x:Int) 0=(x:Int) by omega];refine r_quo (by omega) (by omega) (by omega) ?_;rw[show (x:Int)/2=((x/2:Nat):Int) by omega];refine Za0 (by omega) ?_
  have hlen:(halved (l.take t)).length=t:=by unfold halved;rw[hS_,gN];omega
  refine Zao 0 H3 (x/2+1) rfl (by rw[gD,hlen,gP];omega) rfl λw4 S4 H4=>?_;refine Za0 (by omega) (r_ke ⟨⟨t+1,rfl,by omega,S3.trans S4,?_⟩,?_⟩)
  ·replace H4:Holds w4 (SL nv tI ov ((halved (l.take t)++List.replicate (l.length - t) 0).set t (x/2+1))::L):=H4;rw[set_append_right _ _ (by omega),hlen,Nat.sub_self,show l.length - t=(l.length - (t+1))+1 by omega,replicate_succ,gJ] at H4;rw[e];unfold halved at *;rw[map_append];simpa using H4
  ·simp only[nv,intOf,gC];omega
 ·obtain rfl:t=l.length:=by omega
  rw[hF_,Nat.sub_self,replicate_zero,gU] at H3;exact k ov w3 S3 H3
def ones (c:List Nat):List Nat:=c.map λx=>max x 1
theorem Of_spec {v:Value}{c:List Nat}{i:Nat}(H:Holds w L) (hi:L[i]?=some (SL nv tI v c)) (h3:3<=c.length) (hl:c.length<=258) (hb:∀ x∈c,x<=1099511627776)
  (k:∀ v' out w',LensOf (ones c) out->Same w w'->Holds w' (SL nv tI v' out::L)->K (.tuple #[v',iv 0]) w'):Cl prog 247 #[v] w K:=by
 refine Tz247 ?_;unfold Vz247;refine Za2 (λt w'=>Same w w'/\Holds w' L/\t=.bool false) ?_ ?_
 rotate_left
 ·refine r_lnS i H hi (r_lss (r_vfD (by omega) ?_));refine r_lnS i H hi (r_gtr (r_vfD (by omega) ?_));refine r_cl (K:=λt w'=>Same w w'/\Holds w' L/\t=.bool true) ?_ ?_
  ·refine Tz252 ?_;unfold Vz252;refine r_new H λlb w1 S1 H1=>?_;replace H1:Holds w1 (blk lb tI [iv 0]::L):=H1;refine r_new H1 λhb' w2 S2 H2=>?_;replace H2:Holds w2 (blk hb' tI [iv 1099511627776]::blk lb tI [iv 0]::L):=H2;refine r_mf (.func (.func 258) #[] #[pt lb,pt hb']) (by kernel_rfl) ?_;refine D11.Zdh H2 (i+2) hi (by omega) (λx hx Q hQ=>?_) ?_
   ·have hx1:=hb x hx;refine r_inv (f:=258) (args:=#[nv x,pt lb,pt hb']) (by kernel_rfl) ?_;refine Tz258 ?_;unfold Vz258;refine r_ld 1 H2 rfl rfl ?_;refine r_lss (r_vfD (by omega) ?_);refine r_ld 0 H2 rfl rfl ?_;refine r_gtr ?_;rw[decide_eq_false (by omega)];exact hQ
   ·exact Zci ⟨S1.trans S2,H2.drop.drop,rfl⟩
  rintro _ w1 ⟨S1,H1,rfl⟩;exact Zal (r_ke ⟨S1,H1,rfl⟩)
 rintro _ _ w1 ⟨S1,H1,rfl⟩;refine r_vf ?_;refine r_lnS i H hi ?_;refine r_ms (f:=nv) (x:=0) H1 rfl (by omega) (by omega) λob w2 S2 H2=>?_;rw[gC] at H2 ⊢;have H3:=H2.close 0 rfl;simp only[gJ,gP,length_nil,Nat.add_zero] at H3;generalize hv:Value.slice (some ⟨ob,0,none⟩) c.length c.length=ov at H3 ⊢;refine r_lnS i H hi ?_;refine Zac (λq w'=>∃ (t:Nat),q=nv t/\t<=c.length/\Same w w'/\Holds w' (SL nv tI ov (ones (c.take t)++List.replicate (c.length - t) 0)::L)) (λq _=>c.length - (intOf q).toNat) ⟨0,rfl,Nat.zero_le _,S1.trans S2,H3⟩ ?_;clear H1 H2 H3 S1 S2;rintro _ _ w3 ⟨t,rfl,ht,S3,H3⟩;refine r_lss (r_ifD (λh=>?_) λh=>?_)
 ·have hlt:t < c.length:=by omega
  have e:c.take (t+1)=c.take t++[c[t]]:=by rw[gO,gA hlt];rfl
  refine Zaa (i+1) H3 (by rw[gF];exact hi) (gA hlt) ?_;generalize c[t]=x at *;refine r_max ?_;rw[show max (x:Int) 1=((max x 1:Nat):Int) by omega]
  have hlen:(ones (c.take t)).length=t:=by unfold ones;rw[hS_,gN];omega
  refine Zao 0 H3 (max x 1) rfl (by rw[gD,hlen,gP];omega) rfl λw4 S4 H4=>?_;refine Za0 (by omega) (r_ke ⟨⟨t+1,rfl,by omega,S3.trans S4,?_⟩,?_⟩)
  ·replace H4:Holds w4 (SL nv tI ov ((ones (c.take t)++List.replicate (c.length - t) 0).set t (max x 1))::L):=H4;rw[set_append_right _ _ (by omega),hlen,Nat.sub_self,show c.length - t=(c.length - (t+1))+1 by omega,replicate_succ,gJ] at H4;rw[e];unfold ones at *;rw[map_append];simpa using H4
  ·simp only[nv,intOf,gC];omega
 obtain rfl:t=c.length:=by omega
 rw[hF_,Nat.sub_self,replicate_zero,gU] at H3
 refine Zdq (λn x w'=>∃ u:List Nat,n=u.sum/\u.length=c.length/\(∀ x∈u,1<=x/\x<=1099511627776)/\(∀ out,LensOf u out->LensOf (ones c) out)/\Same w w'/\Holds w' (SL nv tI x u::L)) (ones c).sum
  ⟨ones c,rfl,by unfold ones;rw[hS_],λx hx=>by
   obtain⟨y,hy,rfl⟩:=mem_map.1 hx;have:=hb y hy
   omega,λ_ h=>h,S3,H3⟩ ?_
 clear H3 S3;rintro _ _ x w4 kk ⟨u,rfl,hu,hur,hcont,S4,H4⟩ hkk;refine T09.Zmw H4 (i:=0) rfl (by omega) (by omega) (λx hx=>(hur x hx).2) λv' out w5 hD S5 H5=>?_
 have hol:out.length=c.length:=by
  obtain⟨_,_,_,_,h,_⟩:=hD;omega
 refine Zl8 H5 (i:=0) rfl (by omega) λm hm=>?_;refine r_leq (r_ifD (λh20=>?_) λh20=>?_)
 ·refine Zcd H5 0 rfl (by omega) λv2 w6 S6 H6=>?_;exact k v2 out w6 (hcont _ (.fit hD (hm.1 (by omega)))) (S4.trans (S5.trans S6)) (Holds.dropAt (Holds.dropAt H6 1) 1)
 ·have hn:¬ ∀ x∈out,x<=20:=λe=>h20 (by have:=hm.2 e;omega);refine Zmi H5 (i:=1) rfl (by omega) (λx hx=>(hur x hx).2) λv2 w6 S6 H6=>?_;refine r_ke (hkk (halved u).sum v2 w6 ?_ ⟨halved u,rfl,by unfold halved;rw[hS_];exact hu,Zuo (by omega) hur,λo ho=>hcont o (.more hD hn ho),S4.trans (S5.trans S6),Holds.dropAt (Holds.dropAt H6 1) 1⟩);refine Zls u (λx hx=>(hur x hx).1) λe=>hn ?_;exact Zkm (λx hx=>⟨(hur x hx).1,e x hx⟩) (by omega) hD
end O09
namespace T12
open F08 Rw Go.Mh
variable {w:World}{L:List HProp}{K:KT}
variable [Bnds]
theorem Zq3 {w out:List Nat}(h:LensOf w out):out.length=w.length/\∀ x∈out,x<=20:=by
 induction h with
 |fit h hl=>
  obtain⟨_,_,_,_,h,_⟩:=h;exact⟨by omega,hl⟩
 |more h hl r ih=>
  unfold halved at ih;rw[hS_] at ih;exact ih
def catP (ts:List (List Nat)) (p:Nat) (gs:List (List Nat)):List Nat:=(gs.filter λg=>decide (pk g ts=p)).flatten
theorem Zhi (ts:List (List Nat)) (p:Nat) (gs:List (List Nat)) (g:List Nat):catP ts p (gs++[g])=catP ts p gs++if pk g ts=p then g else []:=by
 unfold catP;rw[List.filter_append,List.flatten_append]
 congr 1
 by_cases q:pk g ts=p
 ·rw[if_pos q,List.filter_cons_of_pos (by simpa using q)];simp
 ·rw[if_neg q,List.filter_cons_of_neg (by simpa using q)];rfl
structure Gp (size:Nat) (gs:List (List Nat)):Prop where
 few:gs.length<=32767
 len:∀ g∈gs,g.length<=50
 lt:∀ g∈gs,∀ x∈g,x < size
theorem Zn0 {size:Nat}{ts gs:List (List Nat)}{p:Nat}(h:Gp size gs):∀ i,(catP ts p (gs.take i)).length<=i*50
 |0=>by simp[catP]
 |i+1=>by
  have ih:=Zn0 (ts:=ts) (p:=p) h i;rcases hU_ i gs.length with q|q
  ·have e:gs.take (i+1)=gs.take i++[gs[i]]:=by rw[gO,gA q];rfl
   rw[e,Zhi,gD];have:=h.len _ (getElem_mem q);split
   ·omega
   ·simp;omega
  ·rw[gK (by omega),<-gK (i:=i) q];omega
structure Rnd (gs:List (List Nat)) (size:Nat) (ts:List (List Nat)) (picks:List Nat) (ts':List (List Nat)):Prop where
 pk:picks=gs.map λg=>pk g ts
 len:ts'.length=ts.length
 lens:∀ p,p < ts.length->LensOf (O09.ones (cnt (catP ts p gs) size)) (ts'.getD p [])
theorem Rnd.uniq {gs ts ts1 ts2:List (List Nat)}{size:Nat}{p1 p2:List Nat}(h:Rnd gs size ts p1 ts1) (g:Rnd gs size ts p2 ts2):p1=p2/\ts1=ts2:=by
 refine⟨h.pk.trans g.pk.symm,?_⟩;apply ext_getElem?;intro i;rcases hU_ i ts.length with q|q
 ·rw[Zes (by rw[h.len];exact q),Zes (by rw[g.len];exact q),(h.lens i q).uniq (g.lens i q)]
 ·rw[getElem?_eq_none (by rw[h.len];exact q),getElem?_eq_none (by rw[g.len];exact q)]
theorem Rnd.tb {gs ts ts1:List (List Nat)}{size:Nat}{p1:List Nat}(h:Rnd gs size ts p1 ts1) (hT:Tb size ts):Tb size ts1:=by
 have hm:∀ t∈ts1,t.length=size/\∀ x∈t,x<=20:=by
  intro t ht;obtain⟨i,hi,rfl⟩:=getElem_of_mem ht;have h1:=Zq3 (h.lens i (by rw[<-h.len];exact hi));rw[gB,gA hi] at h1;unfold O09.ones at h1;rw[hS_,Zb8] at h1;exact h1
 exact⟨by rw[h.len];exact hT.n2,by rw[h.len];exact hT.n6,λt ht=>(hm t ht).1,λt ht=>(hm t ht).2⟩
theorem Rnd.lt {gs ts ts1:List (List Nat)}{size:Nat}{p1:List Nat}(h:Rnd gs size ts p1 ts1) (hT:Tb size ts):p1.length=gs.length/\∀ p∈p1,p < ts1.length:=by
 rw[h.pk];refine⟨by simp,λp hp=>?_⟩;obtain⟨g,_,rfl⟩:=mem_map.1 hp;have:=hT.n2;rw[h.len];exact Zu9 _ _ (by omega)
theorem Zpn {gv tv:Value}{gs ts:List (List Nat)}{size i j:Nat}(H:Holds w L) (hi:L[i]?=some (RR gv gs)) (hj:L[j]?=some (RR tv ts)) (hij:i≠j) (hT:Tb size ts) (hs3:3<=size) (hs:size<=258) (hG:Gp size gs)
  (k:∀ pv ov picks ts' w',Rnd gs size ts picks ts'->Same w w'->Holds w' (RR ov ts'::SL nv tI pv picks::L)->K (.tuple #[pv,ov]) w'):Cl prog 225 #[gv,tv,nv size] w K:=by
 refine Tz225 ?_;unfold Vz225;have hn2:=hT.n2;have hn6:=hT.n6;have hgl:=hG.few;refine rr_ln j H hj ?_;refine Zt9 H (by omega) λcv w2 S2 H2=>?_;refine rr_ln 0 H2 rfl ?_;rw[gP]
 refine Zac (λq w'=>∃ p:Nat,q=nv p/\p<=ts.length/\Same w w'/\Holds w' (RR cv ((List.range ts.length).map λj=>if j < p then List.replicate size 0 else [])::L)) (λq _=>ts.length - (intOf q).toNat)
  ⟨0,rfl,Nat.zero_le _,S2,by
   have e:(List.range ts.length).map (λj=>if j < 0 then List.replicate size 0 else ([]:List Nat))=List.replicate ts.length []:=by
    apply ext_getElem?;intro j;rw[getElem?_replicate];split
    ·rename_i q;rw[Zba _ q,if_neg (by omega)]
    ·rename_i q;rw[getElem?_eq_none (by simpa using q)]
   rw[e];exact H2⟩ ?_
 clear H H2 S2;rintro _ _ w3 ⟨p,rfl,hp,S3,H3⟩;refine r_lss (r_ifD (λh=>?_) λh=>?_)
 ·have hlt:p < ts.length:=by omega
  refine r_ms (f:=nv) (x:=0) H3 rfl (by omega) (by omega) λnb w4 S4 H4=>?_;rw[gC] at H4 ⊢;have H5:=H4.close 0 rfl;simp only[gJ,gP,length_nil,Nat.add_zero] at H5;refine Zta 0 H5 rfl (by rw[hS_,hW_];exact hlt) λw5 S5 H6=>?_
  have e6:=Zbu (λj=>if j < p then List.replicate size 0 else ([]:List Nat)) (λj=>if j < p+1 then List.replicate size 0 else ([]:List Nat)) hlt (λj hj hjp=>by
   by_cases q:j < p
   ·rw[if_pos q,if_pos (by omega)]
   ·rw[if_neg q,if_neg (by omega)])
  simp only[Nat.lt_succ_self,if_true] at e6;rw[gJ,e6] at H6;refine Za0 (by omega) (r_ke ⟨⟨p+1,rfl,hlt,S3.trans (S4.trans S5),H6⟩,?_⟩);simp only[nv,intOf,gC];omega
 obtain rfl:p=ts.length:=by omega
 have e0:(List.range ts.length).map (λj=>if j < ts.length then List.replicate size 0 else ([]:List Nat))=(List.range ts.length).map λp=>cnt (catP ts p (gs.take 0)) size:=
  Zaq _ _ λj hj=>by rw[if_pos hj,take_zero];show _=cnt [] size;rw[Zss]
 rw[e0] at H3;refine rr_ln (i+1) H3 (by rw[gF];exact hi) ?_
 refine Zag (λpv x w'=>∃ u:Nat,x=nv u/\u<=gs.length/\Same w w'/\Holds w' (SL nv tI pv ((gs.take u).map λg=>pk g ts)::RR cv ((List.range ts.length).map λp=>cnt (catP ts p (gs.take u)) size)::L)) (λ_ x _=>gs.length - (intOf x).toNat)
  ⟨0,rfl,Nat.zero_le _,S3,H3.nilSL nv tI⟩ ?_
 clear H3 S3 h e0;rintro _ pv _ w4 ⟨u,rfl,hu,S4,H4⟩;refine r_lss (r_ifD (λh=>?_) λh=>?_)
 ·have hlt:u < gs.length:=by omega
  have hq:=Zes hlt;have hmem:=Zd4 hlt
  have e:gs.take (u+1)=gs.take u++[gs.getD u []]:=by rw[gO,hq];rfl
  have hcl:=λp=>Zn0 (ts:=ts) (p:=p) hG u;generalize gs.getD u []=g at *;have hgl50:=hG.len g hmem;have hgx:=hG.lt g hmem;have hpk:pk g ts < ts.length:=Zu9 _ _ (by omega);obtain⟨x,R,hld,H5,_,_,_,hR⟩:=Zdj (i+2) H4 (by rw[gF,gF];exact hi) hq;refine hld _ _ λ_ hp_=>hp_ _ ?_;replace H5:Holds w4 (SL nv tI (sw x) g::SL nv tI pv ((gs.take u).map λg=>pk g ts)::RR cv ((List.range ts.length).map λp=>cnt (catP ts p (gs.take u)) size)::L.set i R):=H5;refine Zum H5 (i:=0) (j:=j+3) rfl (by rw[gF,gF,gF,hY_ hij];exact hj) (by omega) hT hs hgl50 hgx ?_;generalize hP:pk g ts=P at *;refine Zdc (f:=nv) H5 1 rfl P (λ_=>rfl) (by rw[hS_,gN];omega) λpv2 w5 S5 H6=>?_;replace H6:Holds w5 (SL nv tI (sw x) g::SL nv tI pv2 (((gs.take u).map λg=>T12.pk g ts)++[P])::RR cv ((List.range ts.length).map λp=>cnt (catP ts p (gs.take u)) size)::L.set i R):=H6;refine Zho H6 (i:=0) rfl hs3 hs (by omega) hgx λav w6 S6 H7=>?_;refine Za8 (Za9 ?_);have hrow:((List.range ts.length).map λp=>cnt (catP ts p (gs.take u)) size)[P]?=some (cnt (catP ts P (gs.take u)) size):=Zba _ hpk;obtain⟨y,R2,hld2,H8,hcl2,_,_,_⟩:=Zdj 3 H7 rfl hrow;refine hld2 _ _ λ_ hp_=>hp_ _ ?_;have hc1:=hcl P;refine Zvx H8 (i:=0) (j:=1) rfl rfl (by rw[Zb8];omega) (by rw[Zb8,Zb8]) (λx hx=>by have:=cnt_le _ _ x hx;omega) (λx hx=>by have:=cnt_le _ _ x hx;omega) λsv w7 S7 H9=>?_;refine Za8 (Za9 ?_);have H10:=hcl2 [_] _ H9;refine Zta 3 H10 rfl (by rw[hS_,hW_];exact hpk) λw8 S8 H11=>?_;have H12:=H11.drop;replace H12:Holds w8 (SL nv tI (sw x) g::SL nv tI pv2 (((gs.take u).map λg=>T12.pk g ts)++[P])::RR cv (((List.range ts.length).map λp=>cnt (catP ts p (gs.take u)) size).set P (addL (cnt (catP ts P (gs.take u)) size) (cnt g size)))::L.set i R):=H12;have H13:=Zmp hR [] (i+2) (by rw[gF,gF];exact Za1 hi) H12
  have eL:(L.set i R).set i (RR gv gs)=L:=by
   obtain⟨p1,p2⟩:=gH.1 hi;rw[set_set,<-p2,set_getElem_self]
  replace H13:Holds w8 (SL nv tI pv2 (((gs.take u).map λg=>T12.pk g ts)++[P])::RR cv (((List.range ts.length).map λp=>cnt (catP ts p (gs.take u)) size).set P (addL (cnt (catP ts P (gs.take u)) size) (cnt g size)))::(L.set i R).set i (RR gv gs)):=H13;rw[eL] at H13
  have e7:=Zbu (λp=>cnt (catP ts p (gs.take u)) size) (λp=>cnt (catP ts p (gs.take (u+1))) size) hpk (λp _ hpP=>by
   rw[e,Zhi,if_neg (by omega),gU])
  have e8:addL (cnt (catP ts P (gs.take u)) size) (cnt g size)=cnt (catP ts P (gs.take (u+1))) size:=by
   rw[Zwy,e,Zhi,if_pos hP]
  rw[e8,e7] at H13;refine Za0 (by omega) (r_ke ⟨⟨u+1,rfl,hlt,S4.trans (S5.trans (S6.trans (S7.trans S8))),?_⟩,?_⟩)
  ·rw[e,map_append,<-e];simp only[hR_,map_nil];rw[hP];exact H13
  ·simp only[nv,intOf,gC];omega
 obtain rfl:u=gs.length:=by omega
 rw[hF_] at H4;refine rr_ln 1 H4 rfl ?_;rw[hS_,hW_]
 refine Zag (λov x w'=>∃ (q:Nat) (ts':List (List Nat)),x=nv q/\q<=ts.length/\ts'.length=q/\(∀ p,p < q->LensOf (O09.ones (cnt (catP ts p gs) size)) (ts'.getD p []))/\Same w w'/\
   Holds w' (RR ov ts'::SL nv tI pv (gs.map λg=>pk g ts)::RR cv ((List.range ts.length).map λp=>cnt (catP ts p gs) size)::L)) (λ_ x _=>ts.length - (intOf x).toNat)
  ⟨0,[],rfl,Nat.zero_le _,rfl,λp hp=>absurd hp (Nat.not_lt_zero p),S4,Zz6 H4⟩ ?_
 clear H4 S4 h;rintro _ ov _ w5 ⟨q,ts',rfl,hq,hql,hqL,S5,H5⟩;refine r_lss (r_ifD (λh=>?_) λh=>?_)
 ·have hlt:q < ts.length:=by omega
  have hrow:((List.range ts.length).map λp=>cnt (catP ts p gs) size)[q]?=some (cnt (catP ts q gs) size):=Zba _ hlt;obtain⟨x,R,hld,H6,hcl,_,_,_⟩:=Zdj 2 H5 rfl hrow;refine hld _ _ λ_ hp_=>hp_ _ ?_;have hc1:=Zn0 (ts:=ts) (p:=q) hG gs.length;rw[hF_] at hc1;refine O09.Of_spec H6 (i:=0) rfl (by rw[Zb8];exact hs3) (by rw[Zb8];exact hs) (λx hx=>by have:=cnt_le _ _ x hx;omega) λlv out w6 hL S6 H7=>?_;refine Za8 (Za9 ?_);have H8:=hcl [_] _ H7;refine Zyj 0 H8 rfl (by omega) λov2 w7 S7 H9=>?_;replace H9:Holds w7 (RR ov2 (ts'++[out])::SL nv tI pv (gs.map λg=>T12.pk g ts)::RR cv ((List.range ts.length).map λp=>cnt (catP ts p gs) size)::L):=H9;refine Za0 (by omega) (r_ke ⟨⟨q+1,_,rfl,hlt,by rw[gD,hql];rfl,λp hp=>?_,S5.trans (S6.trans S7),H9⟩,?_⟩)
  ·rw[gB];rcases hU_ p q with z|z
   ·rw[gM (by omega),<-gB];exact hqL p z
   ·obtain rfl:p=q:=by omega
    rw[gT (by omega),hql,Nat.sub_self];exact hL
  ·simp only[nv,intOf,gC];omega
 ·obtain rfl:q=ts.length:=by omega
  have H6:=Holds.dropAt H5 2;exact k _ _ _ _ _ ⟨rfl,hql,hqL⟩ S5 H6
end T12
end Go.Proofs.YtieneaffjelhhaaGreat
