/- Several texts in one: Mh, Mi, Lp, Ms, M18, Mk, Q20, Sv, C14, P35, W09, W9t, W10, W9o, U18, L18. -/
import Derived.WalkKit
import Derived.Test.YtgaiocpkjaaphaaGreatDoorMG0
import Derived.Test.YtgaiocpkjaaphaaGreatDoorFm
import Derived.DataShut
set_option linter.unusedVariables false
set_option linter.unusedSimpArgs false
open Go.RowKit (intOf)
open List (cons_append drop_drop drop_of_length_le drop_zero eq_nil_of_length_eq_zero erase_cons_head getElem?_eq_none getElem?_set getElem_mem getElem_of_mem getElem_take length_cons length_erase_of_mem length_nil length_range' map_append mem_cons mem_flatMap mem_map mem_map_of_mem mem_of_mem_erase mem_range mem_range'_1 mem_singleton pairwise_append pairwise_iff_getElem perm_middle replicate_zero set_append set_append_right set_set take_zero)
namespace Go.Mh
def lt (W:List Nat) (x y:Nat):Prop:=W.getD x 0 < W.getD y 0\/(W.getD x 0=W.getD y 0/\x < y)
instance (W:List Nat) (x y:Nat):Decidable (lt W x y):=inferInstanceAs (Decidable (_\/_))
theorem Yav {W:List Nat}{x y:Nat}(h:lt W x y):¬ lt W y x:=by unfold lt at *;omega
theorem Zcx {W:List Nat}{x y z:Nat}(h:lt W x y) (h2:lt W y z):lt W x z:=by unfold lt at *;omega
theorem Yar {W:List Nat}{x y:Nat}(h:x≠y):lt W x y\/lt W y x:=by unfold lt;omega
def IsLeast (W V:List Nat) (x:Nat):Prop:=x∈V/\∀ y∈V,y≠x->lt W x y
theorem IsLeast.uniq {W V:List Nat}{x y:Nat}(h:IsLeast W V x) (h2:IsLeast W V y):x=y:=
 Classical.byContradiction λhne=>Yav (h.2 y h2.1 λe=>hne e.symm) (h2.2 x h.1 hne)
theorem IsLeast.perm {W V V':List Nat}{x:Nat}(h:IsLeast W V x) (p:V.Perm V'):IsLeast W V' x:=
 ⟨p.mem_iff.1 h.1,λy hy=>h.2 y (p.mem_iff.2 hy)⟩
structure HS where
 W:List Nat
 I:List (Option Nat)
 V:List Nat
def h0 (w:List Nat):HS:=⟨w,List.replicate w.length none,List.range w.length⟩
structure Join (s s':HS) (a b:Nat):Prop where
 la:IsLeast s.W s.V a
 lb:IsLeast s.W (s.V.erase a) b
 W:s'.W=s.W++[s.W.getD a 0+s.W.getD b 0]
 I:s'.I=((s.I.set a (some s.W.length)).set b (some s.W.length))++[none]
 V:s'.V.Perm (s.W.length::(s.V.erase a).erase b)
inductive Joins (s0:HS):Nat->HS->Prop
 |start:Joins s0 0 s0
 |next {k:Nat} {s s':HS} {a b:Nat} (h:Joins s0 k s) (j:Join s s' a b):Joins s0 (k+1) s'
theorem Joins.det {s0:HS}{k:Nat}{s:HS}(h:Joins s0 k s):∀ {s2:HS},Joins s0 k s2->s.W=s2.W/\s.I=s2.I/\s.V.Perm s2.V:=by
 induction h with
 |start=>intro s2 h2;cases h2;exact⟨rfl,rfl,.refl _⟩
 |next h j ih=>
  intro s2 h2
  cases h2 with
  |next h' j'=>
   obtain⟨hW,hI,hV⟩:=ih h';have ha:=(j.la.perm hV);rw[hW] at ha;obtain rfl:=ha.uniq j'.la;have hb:=(j.lb.perm (hV.erase _));rw[hW] at hb;obtain rfl:=hb.uniq j'.lb;refine⟨by rw[j.W,j'.W,hW],by rw[j.I,j'.I,hI,hW],?_⟩;refine j.V.trans (.trans ?_ j'.V.symm);rw[hW];exact .cons _ ((hV.erase _).erase _)
structure Good (s:HS):Prop where
 nodup:s.V.Nodup
 lt:∀ x∈s.V,x < s.W.length
 len:s.I.length=s.W.length
 live:∀ x∈s.V,s.I[x]?=some none
 dead:∀ x,x < s.W.length->x∉s.V->∃ p,s.I[x]?=some (some p)/\x < p/\p < s.W.length
theorem good0 (w:List Nat):Good (h0 w):=
 ⟨List.nodup_range,λx hx=>mem_range.1 hx,by simp[h0],λx hx=>by
  have:=mem_range.1 hx
  simp[h0,this],λx hx hn=>absurd (mem_range.2 hx) hn⟩
theorem Zid {s s':HS}{a b:Nat}(hg:Good s) (j:Join s s' a b):a≠b:=by
 rintro rfl;exact (List.Nodup.not_mem_erase hg.nodup) j.lb.1
theorem Zxz {s s':HS}{a b:Nat}(hg:Good s) (j:Join s s' a b):Good s'/\s'.V.length+1=s.V.length/\s'.W.length=s.W.length+1:=by
 have hne:=Zid hg j;have ha:=hg.lt a j.la.1;have hbm:b∈s.V:=mem_of_mem_erase j.lb.1;have hb:=hg.lt b hbm;have hn2:((s.V.erase a).erase b).Nodup:=(hg.nodup.erase a).erase b
 have hmem:∀ x,x∈(s.V.erase a).erase b↔x∈s.V/\x≠a/\x≠b:=by
  intro x;rw[(hg.nodup.erase a).mem_erase_iff,hg.nodup.mem_erase_iff]
  constructor
  ·rintro⟨h1,h2,h3⟩;exact⟨h3,h2,h1⟩
  ·rintro⟨h1,h2,h3⟩;exact⟨h3,h2,h1⟩
 have hWl:s'.W.length=s.W.length+1:=by rw[j.W];simp
 have hIl:((s.I.set a (some s.W.length)).set b (some s.W.length)).length=s.W.length:=by rw[hX_,hX_,hg.len]
 have hget:∀ x,x < s.W.length->s'.I[x]?=if x=b then some (some s.W.length) else if x=a then some (some s.W.length) else s.I[x]?:=by
  intro x hx;rw[j.I,gM (by rw[hIl];exact hx),getElem?_set,getElem?_set]
  by_cases h1:x=b
  ·subst h1;rw[if_pos rfl,if_pos rfl,if_pos (by rw[hX_,hg.len];exact hx)]
  ·rw[if_neg (λe:b=x=>h1 e.symm),if_neg h1]
   by_cases h2:x=a
   ·subst h2;rw[if_pos rfl,if_pos rfl,if_pos (by rw[hg.len];exact hx)]
   ·rw[if_neg (λe:a=x=>h2 e.symm),if_neg h2]
 have hV:∀ x,x∈s'.V↔x=s.W.length\/(x∈s.V/\x≠a/\x≠b):=by
  intro x;rw[j.V.mem_iff,mem_cons,hmem]
 refine⟨⟨?_,?_,?_,?_,?_⟩,?_,hWl⟩
 ·rw[j.V.nodup_iff,List.nodup_cons];exact⟨λh=>by have:=hg.lt _ ((hmem _).1 h).1;omega,hn2⟩
 ·intro x hx;rw[hWl];rcases (hV x).1 hx with h|h
  ·omega
  ·have:=hg.lt x h.1;omega
 ·rw[j.I,gD,hIl,hWl];rfl
 ·intro x hx;rcases (hV x).1 hx with h|⟨h,h1,h2⟩
  ·subst h;rw[j.I,gT (by rw[hIl];exact Nat.le_refl _),hIl,Nat.sub_self];rfl
  ·rw[hget x (hg.lt x h),if_neg h2,if_neg h1];exact hg.live x h
 ·intro x hx hn;rw[hWl] at hx ⊢;have hxn:x≠s.W.length:=λe=>hn ((hV x).2 (.inl e))
  have hx':x < s.W.length:=by omega
  rw[hget x hx']
  by_cases h1:x=b
  ·rw[if_pos h1];exact⟨_,rfl,by omega,by omega⟩
  ·rw[if_neg h1]
   by_cases h2:x=a
   ·rw[if_pos h2];exact⟨_,rfl,by omega,by omega⟩
   ·rw[if_neg h2];obtain⟨p,h3,h4,h5⟩:=hg.dead x hx' λh=>hn ((hV x).2 (.inr ⟨h,h2,h1⟩));exact⟨p,h3,h4,by omega⟩
 ·have:=j.V.length_eq;rw[this,length_cons,length_erase_of_mem j.lb.1,length_erase_of_mem j.la.1];have h1:=List.length_pos_of_mem j.la.1;have h2:=List.length_pos_of_mem j.lb.1;rw[length_erase_of_mem j.la.1] at h2;omega
theorem Zbu {w:List Nat}{k:Nat}{s:HS}(h:Joins (h0 w) k s):Good s/\s.V.length+k=w.length/\s.W.length=w.length+k:=by
 induction h with
 |start=>exact⟨good0 w,by simp[h0],rfl⟩
 |next h j ih=>
  obtain⟨h1,h2,h3⟩:=Zxz ih.1 j;exact⟨h1,by omega,by omega⟩
inductive Up (I:List (Option Nat)):Nat->Nat->Nat->Prop
 |here (x:Nat):Up I x 0 x
 |up {x p k y:Nat} (h:I[x]?=some (some p)) (u:Up I p k y):Up I x (k+1) y
theorem Up.uniq {I:List (Option Nat)}{x k y:Nat}(hy:∀ p,I[y]?≠some (some p)) (h:Up I x k y):∀ {k2:Nat},Up I x k2 y->k=k2:=by
 induction h with
 |here x=>
  intro k2 h2
  cases h2 with
  |here=>rfl
  |up h u=>exact absurd h (hy _)
 |up h u ih=>
  intro k2 h2
  cases h2 with
  |here=>exact absurd h (hy _)
  |up h' u'=>
   rw[h] at h';cases h';rw[ih hy u']
theorem Up.snoc {I:List (Option Nat)}{x k y p:Nat}(h:Up I x k y) (hp:I[y]?=some (some p)):Up I x (k+1) p:=by
 induction h with
 |here x=>exact .up hp (.here _)
 |up h u ih=>exact .up h (ih hp)
theorem Up.join {s s':HS}{a b x k y:Nat}(hg:Good s) (j:Join s s' a b) (h:Up s.I x k y):Up s'.I x k y:=by
 induction h with
 |here x=>exact .here x
 |up h u ih=>
  rename_i x p k y;refine .up ?_ ih
  have hx:x < s.W.length:=by
   have:=(gH.1 h).1;rw[hg.len] at this;exact this
  have h1:x≠a:=by
   rintro rfl;rw[hg.live _ j.la.1] at h;cases h
  have h2:x≠b:=by
   rintro rfl;rw[hg.live _ (mem_of_mem_erase j.lb.1)] at h;cases h
  rw[j.I,gM (by rw[hX_,hX_,hg.len];exact hx),getElem?_set,getElem?_set,if_neg (λe=>h2 e.symm),if_neg (λe=>h1 e.symm)];exact h
def Depths (w out:List Nat):Prop:=∃ s r,Joins (h0 w) (w.length - 1) s/\s.V=[r]/\out.length=w.length/\∀ i,i < w.length->Up s.I i (out.getD i 0) r
theorem Depths.uniq {w out out2:List Nat}(h:Depths w out) (h2:Depths w out2):out=out2:=by
 obtain⟨s,r,hj,hr,hl,hu⟩:=h;obtain⟨s2,r2,hj2,hr2,hl2,hu2⟩:=h2;obtain⟨hW,hI,hV⟩:=hj.det hj2;rw[hr,hr2] at hV
 have hrr:r=r2:=by have:=hV.mem_iff.1 (mem_singleton.2 rfl);exact mem_singleton.1 this
 subst hrr;have hg:=(Zbu hj).1
 have hroot:∀ p,s.I[r]?≠some (some p):=λp e=>by rw[hg.live r (by rw[hr];exact mem_singleton.2 rfl)] at e;cases e
 apply List.ext_getElem (by omega);intro i h3 h4;have h5:=hu i (by omega);have h6:=hu2 i (by omega);rw[<-hI] at h6;have:=h5.uniq hroot h6;rw[gB,gA h3,gB,gA h4] at this;exact this
structure Queue (n:Nat) (s:HS) (lf:List Nat) (j:Nat):Prop where
 perm:s.V.Perm (lf++List.range' j (s.W.length - j))
 jn:n<=j/\j<=s.W.length
 lfn:∀ x∈lf,x < n
 sorted:lf.Pairwise (lt s.W)
 mono:∀ x y,n<=x->x<=y->y < s.W.length->s.W.getD x 0<=s.W.getD y 0
 sum:∀ x∈s.V,∀ y∈s.V,x≠y->∀ c,n<=c->c < s.W.length->s.W.getD c 0<=s.W.getD x 0+s.W.getD y 0
def head (W lf:List Nat) (j:Nat):Nat:=match lf with
 |[]=>j
 |x::_=>if j=W.length\/W.getD x 0<=W.getD j 0 then x else j
def tail1 (W lf:List Nat) (j:Nat):List Nat:=match lf with
 |[]=>[]
 |x::l=>if j=W.length\/W.getD x 0<=W.getD j 0 then l else x::l
def tail2 (W lf:List Nat) (j:Nat):Nat:=match lf with
 |[]=>j+1
 |x::l=>if j=W.length\/W.getD x 0<=W.getD j 0 then j else j+1
theorem Zgz {W lf:List Nat}{n j:Nat}(hj:n<=j/\j<=W.length) (hl:∀ x∈lf,x < n) (hs:lf.Pairwise (lt W)) (hm:∀ x y,n<=x->x<=y->y < W.length->W.getD x 0<=W.getD y 0)
  (hne:lf++List.range' j (W.length - j)≠[]) :
  IsLeast W (lf++List.range' j (W.length - j)) (head W lf j)/\((lf++List.range' j (W.length - j)).erase (head W lf j)).Perm (tail1 W lf j++List.range' (tail2 W lf j) (W.length - tail2 W lf j))/\
   (n<=tail2 W lf j/\tail2 W lf j<=W.length)/\(∀ x∈tail1 W lf j,x < n)/\(tail1 W lf j).Pairwise (lt W):=by
 have hjl:∀ y,y∈List.range' j (W.length - j)->j<=y/\y < W.length:=λy hy=>by
  have:=mem_range'_1.1 hy;omega
 have jless:j < W.length->∀ y,y∈List.range' j (W.length - j)->y≠j->lt W j y:=λh y hy hyj=>by
  have h1:=hjl y hy;have h2:=hm j y hj.1 h1.1 h1.2;unfold lt;omega
 have split:j < W.length->List.range' j (W.length - j)=j::List.range' (j+1) (W.length - (j+1)):=λh=>by
  rw[show W.length - j=(W.length - (j+1))+1 by omega,List.range'_succ]
 cases lf with
 |nil=>
  have hlt:j < W.length:=by
   rcases hU_ j W.length with h|h
   ·exact h
   ·rw[show W.length - j=0 by omega] at hne;exact absurd rfl hne
  simp only[head,tail1,tail2,hO_];rw[split hlt];refine⟨⟨hJ_ ..,λy hy hyj=>?_⟩,?_,by omega,by simp,by simp⟩
  ·rw[<-split hlt] at hy;exact jless hlt y hy hyj
  ·rw[erase_cons_head]
 |cons x l=>
  have hx:=hl x (hJ_ ..);have hxl:=(List.pairwise_cons.1 hs);simp only[head,tail1,tail2]
  by_cases hc:j=W.length\/W.getD x 0<=W.getD j 0
  ·rw[if_pos hc,if_pos hc,if_pos hc];refine⟨⟨by simp,λy hy hyx=>?_⟩,?_,hj,λy hy=>hl y (hK_ _ hy),hxl.2⟩
   ·rcases hT_.1 hy with hy|hy
    ·rcases mem_cons.1 hy with hy|hy
     ·exact absurd hy hyx
     ·exact hxl.1 y hy
    ·have h1:=hjl y hy;have h2:=hm j y hj.1 h1.1 h1.2;unfold lt;omega
   ·rw[cons_append,erase_cons_head]
  ·rw[if_neg hc,if_neg hc,if_neg hc]
   have hlt:j < W.length:=by omega
   have hlj:lt W j x:=by unfold lt;omega
   have hnj:j∉x::l:=λh=>by have:=hl j h;omega
   refine⟨⟨?_,λy hy hyx=>?_⟩,?_,by omega,hl,hs⟩
   ·rw[split hlt];simp
   ·rcases hT_.1 hy with hy|hy
    ·rcases mem_cons.1 hy with hy|hy
     ·rw[hy];exact hlj
     ·exact Zcx hlj (hxl.1 y hy)
    ·exact jless hlt y hy hyx
   ·rw[List.erase_append_right _ hnj,split hlt,erase_cons_head]
theorem Zbk {W:List Nat}{v x:Nat}(h:x < W.length):(W++[v]).getD x 0=W.getD x 0:=by
 rw[gB,gB,gM h]
theorem Zcy {W:List Nat}{v:Nat}:(W++[v]).getD W.length 0=v:=by
 rw[gB,gT (Nat.le_refl _),Nat.sub_self];rfl
theorem Ydz {W:List Nat}{v x y:Nat}(hx:x < W.length) (hy:y < W.length):lt (W++[v]) x y↔lt W x y:=by
 unfold lt;rw[Zbk hx,Zbk hy]
theorem Zti {n:Nat}{s:HS}{lf:List Nat}{j:Nat}(hg:Good s) (hq:Queue n s lf j) (h2:2<=s.V.length) :
  ∃ s' a b,a=head s.W lf j/\b=head s.W (tail1 s.W lf j) (tail2 s.W lf j)/\Join s s' a b/\
   Queue n s' (tail1 s.W (tail1 s.W lf j) (tail2 s.W lf j)) (tail2 s.W (tail1 s.W lf j) (tail2 s.W lf j))/\a < s.W.length/\b < s.W.length/\a≠b:=by
 have hlen:=hq.perm.length_eq;obtain⟨a1,a2,a3,a4,a5⟩:=Zgz hq.jn hq.lfn hq.sorted hq.mono (by intro e;rw[e,length_nil] at hlen;omega);generalize ha:head s.W lf j=a at *;have hp1:(s.V.erase a).Perm (tail1 s.W lf j++List.range' (tail2 s.W lf j) (s.W.length - tail2 s.W lf j)):=(hq.perm.erase a).trans a2;have ham:a∈s.V:=hq.perm.mem_iff.2 a1.1;have hlen1:=hp1.length_eq;rw[length_erase_of_mem ham] at hlen1;generalize tail1 s.W lf j=lf1 at *;generalize tail2 s.W lf j=j1 at *;obtain⟨b1,b2,b3,b4,b5⟩:=Zgz a3 a4 a5 hq.mono (by intro e;rw[e,length_nil] at hlen1;omega);generalize hb:head s.W lf1 j1=b at *;generalize tail1 s.W lf1 j1=lf2 at *;generalize tail2 s.W lf1 j1=j2 at *;have hbm:b∈s.V.erase a:=hp1.mem_iff.2 b1.1;have hbv:b∈s.V:=mem_of_mem_erase hbm;have hal:=hg.lt a ham;have hbl:=hg.lt b hbv;have hlb:IsLeast s.W (s.V.erase a) b:=b1.perm hp1.symm;have hla:IsLeast s.W s.V a:=a1.perm hq.perm.symm
 have j0:Join s ⟨s.W++[s.W.getD a 0+s.W.getD b 0],((s.I.set a (some s.W.length)).set b (some s.W.length))++[none],s.W.length::(s.V.erase a).erase b⟩ a b:=
  ⟨hla,hlb,rfl,rfl,.refl _⟩
 have hne:=Zid hg j0
 have hnW:n<=s.W.length:=by have:=hq.jn;omega
 have hmem:∀ x,x∈(s.V.erase a).erase b↔x∈s.V/\x≠a/\x≠b:=by
  intro x;rw[(hg.nodup.erase a).mem_erase_iff,hg.nodup.mem_erase_iff]
  constructor
  ·rintro⟨h1,h2,h3⟩;exact⟨h3,h2,h1⟩
  ·rintro⟨h1,h2,h3⟩;exact⟨h3,h2,h1⟩
 have big:∀ x,x∈s.V->x≠a->x≠b->s.W.getD b 0<=s.W.getD x 0:=by
  intro x hx h1 h3;have:=hlb.2 x ((hg.nodup.mem_erase_iff).2 ⟨h1,hx⟩) h3;unfold lt at this;omega
 have hab:s.W.getD a 0<=s.W.getD b 0:=by
  have:=hla.2 b hbv λe=>hne e.symm;unfold lt at this;omega
 refine⟨_,a,b,rfl,rfl,j0,⟨?_,?_,b4,?_,?_,?_⟩,hal,hbl,hne⟩
 ·show (s.W.length::(s.V.erase a).erase b).Perm (lf2++List.range' j2 ((s.W++[_]).length - j2));have hp2:((s.V.erase a).erase b).Perm (lf2++List.range' j2 (s.W.length - j2)):=(hp1.erase b).trans b2;rw[gD,gQ,show s.W.length+1 - j2=(s.W.length - j2)+1 by omega,List.range'_concat,show j2+1*(s.W.length - j2)=s.W.length by omega,<-gI];exact (hp2.cons _).trans (List.perm_append_singleton _ _).symm
 ·show n<=j2/\j2<=(s.W++[_]).length;rw[gD];omega
 ·refine b5.imp_of_mem λ{x y} hx hy h=>?_;exact (Ydz (by have:=b4 x hx;omega) (by have:=b4 y hy;omega)).2 h
 ·intro x y hx hxy hy;rw[gD,gQ] at hy;rcases hU_ y s.W.length with h|h
  ·rw[Zbk (by omega),Zbk h];exact hq.mono x y hx hxy h
  ·have:y=s.W.length:=by omega
   subst this;rw[Zcy];rcases hU_ x s.W.length with h3|h3
   ·rw[Zbk h3];exact hq.sum a ham b hbv hne x hx h3
   ·rw[show x=s.W.length by omega,Zcy];exact Nat.le_refl _
 ·intro x hx y hy hxy c hc1 hc2;rw[gD,gQ] at hc2
  have hcw:(s.W++[s.W.getD a 0+s.W.getD b 0]).getD c 0<=s.W.getD a 0+s.W.getD b 0:=by
   rcases hU_ c s.W.length with h|h
   ·rw[Zbk h];exact hq.sum a ham b hbv hne c hc1 h
   ·rw[show c=s.W.length by omega,Zcy];exact Nat.le_refl _
  refine Nat.le_trans hcw ?_;rcases mem_cons.1 hx with hx|hx
  ·rw[hx,Zcy];exact Nat.le_add_right _ _
  ·rcases mem_cons.1 hy with hy|hy
   ·rw[hy,Zcy];exact Nat.le_add_left _ _
   ·obtain⟨x1,x2,x3⟩:=(hmem x).1 hx;obtain⟨y1,y2,y3⟩:=(hmem y).1 hy;rw[Zbk (hg.lt x x1),Zbk (hg.lt y y1)];have:=big x x1 x2 x3;have:=big y y1 y2 y3;omega
theorem Zzq {s:HS}{r:Nat}{D:List Nat}(hg:Good s) (hV:s.V=[r]) (hD0:D.getD r 0=0) (hD:∀ i p,s.I[i]?=some (some p)->D.getD i 0=D.getD p 0+1) :
  ∀ m i,s.W.length - i<=m->i < s.W.length->Up s.I i (D.getD i 0) r:=by
 intro m
 induction m with
 |zero=>intro i h1 h2;omega
 |succ m ih=>
  intro i h1 h2
  by_cases hi:i=r
  ·subst hi;rw[hD0];exact .here _
  ·obtain⟨p,h3,h4,h5⟩:=hg.dead i h2 (by rw[hV];simpa using hi);rw[hD i p h3];exact .up h3 (ih p (by omega) h5)
def incL (out ls:List Nat):List Nat:=ls.foldl (λo i=>o.set i (o.getD i 0+1)) out
theorem Zlc:∀ (ls out:List Nat),(incL out ls).length=out.length
 |[],out=>rfl
 |i::ls,out=>by
  show (incL (out.set i (out.getD i 0+1)) ls).length=_;rw[Zlc ls,hX_]
theorem Zr5:∀ (ls out:List Nat) (i:Nat),ls.Nodup->(∀ x∈ls,x < out.length)->(incL out ls).getD i 0=out.getD i 0+if i∈ls then 1 else 0
 |[],out,i,_,_=>by simp[incL]
 |x::ls,out,i,hn,hl=>by
  have hx:=hl x (hJ_ ..);obtain⟨h1,h2⟩:=List.nodup_cons.1 hn;show (incL (out.set x (out.getD x 0+1)) ls).getD i 0=_;rw[Zr5 ls _ i h2 (λy hy=>by rw[hX_];exact hl y (hK_ _ hy))]
  by_cases hi:i=x
  ·subst hi;rw[if_neg h1,if_pos (hJ_ ..),gB,List.getElem?_set_self hx];rfl
  ·have e:(out.set x (out.getD x 0+1)).getD i 0=out.getD i 0:=by
    rw[gB,hY_ (λe=>hi e.symm),<-gB]
   rw[e];simp[hi]
structure Forest (n:Nat) (s:HS) (l:List (Nat × List Nat)) (out:List Nat):Prop where
 perm:(l.map (·.1)).Perm s.V
 leaves:(l.flatMap (·.2)).Perm (List.range n)
 up:∀ t∈l,∀ i∈t.2,Up s.I i (out.getD i 0) t.1
 len:out.length=n
theorem forest0 (w:List Nat):Forest w.length (h0 w) ((List.range w.length).map λi=>(i,[i])) (List.replicate w.length 0):=by
 refine⟨?_,?_,?_,by simp⟩
 ·rw[List.map_map]
  have:(List.range w.length).map ((λt:Nat × List Nat=>t.1) ∘ λi=>(i,[i]))=List.range w.length:=by
   rw[show ((λt:Nat × List Nat=>t.1) ∘ λi=>(i,[i]))=id from rfl,List.map_id]
  rw[this];exact .refl _
 ·rw[List.flatMap_map];rw[show (λi:Nat=>((i,[i]):Nat × List Nat).2)=λi=>[i] from rfl,List.flatMap_singleton']
 ·intro t ht i hi;obtain⟨x,hx,rfl⟩:=mem_map.1 ht
  have:i=x:=by simpa using hi
  subst this;have hx:=mem_range.1 hx;rw[gB,List.getElem?_replicate,if_pos hx];exact .here _
theorem Zot {n:Nat}{s s':HS}{l l1 l2:List (Nat × List Nat)}{out:List Nat}{x y:Nat × List Nat}(hg:Good s) (hf:Forest n s l out) (h1:l.Perm (x::l1)) (h2:l1.Perm (y::l2)) (j:Join s s' x.1 y.1) :
  Forest n s' (l2++[(s.W.length,x.2++y.2)]) (incL out (x.2++y.2)):=by
 have hp:l.Perm (x::y::l2):=h1.trans (h2.cons _)
 have hfl:(x.2++(y.2++l2.flatMap (·.2))).Perm (List.range n):=by
  refine List.Perm.trans ?_ hf.leaves;have:=(hp.flatMap_right (·.2)).symm;simpa using this
 have hnd:(x.2++(y.2++l2.flatMap (·.2))).Nodup:=hfl.nodup_iff.2 List.nodup_range
 have hnd2:(x.2++y.2).Nodup:=by
  rw[<-gI] at hnd;exact (List.nodup_append.1 hnd).1
 have hlt:∀ i∈x.2++y.2,i < out.length:=λi hi=>by
  rw[hf.len]
  have:i∈List.range n:=hfl.mem_iff.1 (by
   rw[<-gI]
   exact List.mem_append_left _ hi)
  exact mem_range.1 this
 have hxm:x∈l:=hp.mem_iff.2 (hJ_ ..);have hym:y∈l:=hp.mem_iff.2 (hK_ _ (hJ_ ..));have hne:=Zid hg j;have hbm:=mem_of_mem_erase j.lb.1
 have hIx:s'.I[x.1]?=some (some s.W.length):=by
  have hx:=hg.lt _ j.la.1;rw[j.I,gM (by rw[hX_,hX_,hg.len];exact hx),hY_ (λe=>hne e.symm),List.getElem?_set_self (by rw[hg.len];exact hx)]
 have hIy:s'.I[y.1]?=some (some s.W.length):=by
  have hy:=hg.lt _ hbm;rw[j.I,gM (by rw[hX_,hX_,hg.len];exact hy),List.getElem?_set_self (by rw[hX_,hg.len];exact hy)]
 refine⟨?_,?_,?_,by rw[Zlc,hf.len]⟩
 ·rw[map_append,hR_,List.map_nil];refine List.Perm.trans (List.perm_append_singleton _ _) (List.Perm.trans ?_ j.V.symm);refine .cons _ ?_;have h3:(x.1::y.1::l2.map (·.1)).Perm s.V:=(by simpa using (hp.map (·.1)).symm:(x.1::y.1::l2.map (·.1)).Perm (l.map (·.1))).trans hf.perm;have h4:=(h3.erase x.1).erase y.1;rw[erase_cons_head,erase_cons_head] at h4;exact h4
 ·rw[hL_];simp only[hM_,List.flatMap_nil,gU];refine List.Perm.trans List.perm_append_comm ?_;rw[gI];exact hfl
 ·intro t ht i hi;rw[Zr5 _ _ _ hnd2 hlt];rcases hT_.1 ht with ht|ht
  ·have hni:i∉x.2++y.2:=by
    intro h;rw[<-gI] at hnd;exact (List.nodup_append.1 hnd).2.2 i h i (mem_flatMap.2 ⟨t,ht,hi⟩) rfl
   rw[if_neg hni,Nat.add_zero];have htl:t∈l:=hp.mem_iff.2 (hK_ _ (hK_ _ ht));exact (hf.up t htl i hi).join hg j
  ·have e:=mem_singleton.1 ht;subst e;rw[if_pos hi];rcases hT_.1 hi with h|h
   ·exact ((hf.up x hxm i h).join hg j).snoc hIx
   ·exact ((hf.up y hym i h).join hg j).snoc hIy
def Tot (s:HS):Nat:=(s.V.map λx=>s.W.getD x 0).sum
theorem Zl6 {l l2:List Nat}(p:l.Perm l2):l.sum=l2.sum:=by
 induction p with
 |nil=>rfl
 |cons x _ ih=>rw[hQ_,hQ_,ih]
 |swap x y l=>rw[hQ_,hQ_,hQ_,hQ_];omega
 |trans _ _ h1 h2=>rw[h1,h2]
theorem Zq7 {s:HS}{a b:Nat}(ha:a∈s.V) (hb:b∈s.V.erase a):Tot s=s.W.getD a 0+s.W.getD b 0+(((s.V.erase a).erase b).map λx=>s.W.getD x 0).sum:=by
 unfold Tot;rw[Zl6 ((List.perm_cons_erase ha).map _),hR_,hQ_,Zl6 ((List.perm_cons_erase hb).map _),hR_,hQ_];omega
theorem Zm9 {s s':HS}{a b:Nat}(hg:Good s) (j:Join s s' a b):Tot s'=Tot s:=by
 rw[Zq7 j.la.1 j.lb.1];unfold Tot;rw[Zl6 (j.V.map _),hR_,hQ_,j.W,Zcy]
 congr 1
 congr 1
 refine List.map_congr_left λx hx=>Zbk (hg.lt x ?_);exact mem_of_mem_erase (mem_of_mem_erase hx)
theorem tot0 {w:List Nat}{m:Nat}(h:∀ x∈w,x<=m):Tot (h0 w)<=w.length*m:=by
 have:∀ l:List Nat,(∀ x∈l,x < w.length)->(l.map λx=>w.getD x 0).sum<=l.length*m:=by
  intro l
  induction l with
  |nil=>intro _;simp
  |cons x l ih=>
   intro hl;have h1:=ih λy hy=>hl y (hK_ _ hy);have hx:=hl x (hJ_ ..)
   have h2:w.getD x 0<=m:=by
    rw[gB,gA hx];exact h _ (getElem_mem hx)
   rw[hR_,hQ_,length_cons,Nat.succ_mul];omega
 have:=this (List.range w.length) λx hx=>mem_range.1 hx;rw[hW_] at this;exact this
theorem queue0 {w lf:List Nat}(p:lf.Perm (List.range w.length)) (hs:lf.Pairwise (lt w)):Queue w.length (h0 w) lf w.length:=by
 refine⟨?_,⟨Nat.le_refl _,Nat.le_refl _⟩,λx hx=>mem_range.1 (p.mem_iff.1 hx),hs,λx y h1 h2 h3=>?_,λx _ y _ _ c h1 h2=>?_⟩
 ·show (List.range w.length).Perm (lf++List.range' w.length (w.length - w.length));rw[Nat.sub_self,List.range'_zero,gU];exact p.symm
 ·have:y < w.length:=h3;omega
 ·have:c < w.length:=h2;omega
theorem Zou:∀ (ls out:List Nat) (y:Nat),(incL out ls).getD y 0<=out.getD y 0+ls.length
 |[],out,y=>Nat.le_refl _
 |x::ls,out,y=>by
  have h:=Zou ls (out.set x (out.getD x 0+1)) y
  have h2:(out.set x (out.getD x 0+1)).getD y 0<=out.getD y 0+1:=by
   rw[gB,getElem?_set];split
   ·rename_i e;subst e;split
    ·exact Nat.le_refl _
    ·exact hE _
   ·rw[<-gB];exact Nat.le_succ _
  show (incL (out.set x (out.getD x 0+1)) ls).getD y 0<=_;rw[length_cons];omega
theorem Zuj (out ls:List Nat) (x:Nat):incL out (ls++[x])=(incL out ls).set x ((incL out ls).getD x 0+1):=by
 unfold incL;rw[List.foldl_append];rfl
end Go.Mh
namespace Go.Mh
def fib:Nat->Nat
 |0=>0
 |1=>1
 |n+2=>fib (n+1)+fib n
theorem Ya4:∀ n,fib n<=fib (n+1)
 |0=>by decide
 |n+1=>by show fib (n+1)<=fib (n+1)+fib n;omega
theorem Zz2 {m n:Nat}(h:m<=n):fib m<=fib n:=by
 induction h with
 |refl=>exact Nat.le_refl _
 |step _ ih=>exact Nat.le_trans ih (Ya4 _)
theorem Ya7 {s s':HS}{a b x p:Nat}(hg:Good s) (j:Join s s' a b) (h:s'.I[x]?=some (some p)):((x=a\/x=b)/\p=s.W.length)\/(s.I[x]?=some (some p)/\p < s.W.length):=by
 have hl:((s.I.set a (some s.W.length)).set b (some s.W.length)).length=s.W.length:=by rw[hX_,hX_,hg.len]
 rw[j.I] at h
 have hx:x < s.W.length:=by
  rcases hU_ x s.W.length with q|q
  ·exact q
  ·rw[gT (by rw[hl];exact q),hl] at h
   cases hxx:x - s.W.length with
   |zero=>rw[hxx] at h;cases h
   |succ n=>rw[hxx] at h;simp at h
 rw[gM (by rw[hl];exact hx),getElem?_set,getElem?_set] at h
 by_cases h1:b=x
 ·rw[if_pos h1,if_pos (by rw[hX_,hg.len];omega)] at h;cases h;exact .inl ⟨.inr h1.symm,rfl⟩
 ·rw[if_neg h1] at h
  by_cases h2:a=x
  ·rw[if_pos h2,if_pos (by rw[hg.len];omega)] at h;cases h;exact .inl ⟨.inl h2.symm,rfl⟩
  ·rw[if_neg h2] at h
   have hn:x∉s.V:=λe=>by rw[hg.live x e] at h;cases h
   obtain⟨p',h3,h4,h5⟩:=hg.dead x hx hn;rw[h] at h3;cases h3;exact .inr ⟨h,h5⟩
theorem no_up {s:HS}{k y:Nat}(hg:Good s) (hy:y < s.W.length):¬ Up s.I s.W.length k y:=by
 intro h
 cases h with
 |here=>exact Nat.lt_irrefl _ hy
 |up h u=>
  have:=(gH.1 h).1;rw[hg.len] at this;exact Nat.lt_irrefl _ this
theorem Yd7 {s s':HS}{a b i k x:Nat}(hg:Good s) (j:Join s s' a b) (h:Up s'.I i k x) :
  (x≠s.W.length->x < s.W.length->Up s.I i k x)/\(x=s.W.length->(k=0/\i=s.W.length)\/∃ q,k=q+1/\(Up s.I i q a\/Up s.I i q b)):=by
 have ha:=hg.lt a j.la.1;have hb:=hg.lt b (mem_of_mem_erase j.lb.1)
 induction h with
 |here x=>exact⟨λ_ _=>.here x,λe=>.inl ⟨rfl,e⟩⟩
 |up h u ih=>
  rename_i x p k y;obtain⟨i1,i2⟩:=ih;have hc:=Ya7 hg j h
  constructor
  ·intro h1 h2;have u1:=i1 h1 h2;rcases hc with⟨_,rfl⟩|⟨h3,_⟩
   ·exact absurd u1 (no_up hg h2)
   ·exact .up h3 u1
  ·intro h1;right;rcases i2 h1 with⟨rfl,rfl⟩|⟨q,rfl,hq⟩
   ·rcases hc with⟨h3|h3,_⟩|⟨_,h4⟩
    ·exact⟨0,rfl,.inl (h3▸.here _)⟩
    ·exact⟨0,rfl,.inr (h3▸.here _)⟩
    ·exact absurd h4 (Nat.lt_irrefl _)
   ·rcases hc with⟨_,rfl⟩|⟨h3,_⟩
    ·rcases hq with hq|hq
     ·exact absurd hq (no_up hg ha)
     ·exact absurd hq (no_up hg hb)
    ·exact⟨q+1,rfl,hq.imp (Up.up h3) (Up.up h3)⟩
structure Hts (s:HS) (h:Nat->Nat):Prop where
 up:∀ x∈s.V,∀ i k,Up s.I i k x->k<=h x
 wt:∀ x∈s.V,fib (h x+1)<=s.W.getD x 0
 lo:∀ x∈s.V,∀ y∈s.V,1<=h x->fib (h x)<=s.W.getD y 0
theorem hts0 {w:List Nat}(hw:∀ x∈w,1<=x):Hts (h0 w) (λ_=>0):=by
 refine⟨λx hx i k u=>?_,λx hx=>?_,λx _ y _ h=>absurd h (by decide)⟩
 ·cases u with
  |here=>exact Nat.le_refl _
  |up h u=>
   exfalso;unfold h0 at h;simp only[List.getElem?_replicate] at h
   split at h <;> cases h
 ·have hx:x < w.length:=mem_range.1 hx;show 1<=w.getD x 0;rw[gB,gA hx];exact hw _ (getElem_mem hx)
theorem Yau {s s':HS}{a b:Nat}{h:Nat->Nat}(hg:Good s) (j:Join s s' a b) (H:Hts s h):∃ h',Hts s' h':=by
 have ha:=j.la.1;have hb:b∈s.V:=mem_of_mem_erase j.lb.1;have hal:=hg.lt a ha;have hbl:=hg.lt b hb;have hne:=Zid hg j
 have hV:∀ x,x∈s'.V->x=s.W.length\/(x∈s.V/\x≠s.W.length/\x < s.W.length):=by
  intro x hx;rcases mem_cons.1 (j.V.mem_iff.1 hx) with h1|h1
  ·exact .inl h1
  ·have h2:=mem_of_mem_erase (mem_of_mem_erase h1);have:=hg.lt x h2;exact .inr ⟨h2,by omega,this⟩
 have hT:s'.W.getD s.W.length 0=s.W.getD a 0+s.W.getD b 0:=by rw[j.W,Zcy]
 have hW:∀ x,x < s.W.length->s'.W.getD x 0=s.W.getD x 0:=λx hx=>by rw[j.W,Zbk hx]
 have ab:s.W.getD a 0<=s.W.getD b 0:=by
  have:=j.la.2 b hb λe=>hne e.symm;unfold lt at this;omega
 have least:∀ y∈s.V,s.W.getD a 0<=s.W.getD y 0:=by
  intro y hy
  by_cases e:y=a
  ·rw[e];exact Nat.le_refl _
  ·have:=j.la.2 y hy e;unfold lt at this;omega
 have least2:∀ y∈s'.V,y≠s.W.length->s.W.getD b 0<=s.W.getD y 0:=by
  intro y hy hyl;rcases mem_cons.1 (j.V.mem_iff.1 hy) with h1|h1
  ·exact absurd h1 hyl
  ·have h2:=((hg.nodup.erase a).mem_erase_iff).1 h1;have:=j.lb.2 y h2.2 h2.1;unfold lt at this;omega
 have wa:=H.wt a ha;have wb:=H.wt b hb
 have lab:∀ x∈s.V,∀ y∈s.V,fib (h x)<=s.W.getD y 0:=by
  intro x hx y hy
  cases e:h x with
  |zero=>exact hE _
  |succ n=>rw[<-e];exact H.lo x hx y hy (by omega)
 have f2:∀ n,fib (n+2)=fib (n+1)+fib n:=λ_=>rfl;have hA:=lab a ha b hb;have hB:=lab b hb a ha;refine⟨λx=>if x=s.W.length then max (h a) (h b)+1 else h x,?_,?_,?_⟩
 ·intro x hx i k u;obtain⟨u1,u2⟩:=Yd7 hg j u;rcases hV x hx with e|⟨h1,h2,h3⟩
  ·simp only[if_pos e];rcases u2 e with⟨rfl,_⟩|⟨q,rfl,hq|hq⟩
   ·exact hE _
   ·have:=H.up a ha i q hq;omega
   ·have:=H.up b hb i q hq;omega
  ·simp only[if_neg h2];exact H.up x h1 i k (u1 h2 h3)
 ·intro x hx;rcases hV x hx with e|⟨h1,h2,h3⟩
  ·simp only[if_pos e];rw[e,hT];rcases Nat.le_total (h a) (h b) with q|q
   ·rw[Nat.max_eq_right q,f2];omega
   ·rw[Nat.max_eq_left q,f2];omega
  ·simp only[if_neg h2];rw[hW x h3];exact H.wt x h1
 ·intro x hx y hy hx1
  have wy:∀ z,fib (h z+1)<=s.W.getD z 0->(z=a\/z=b)->fib (h z+1)<=s'.W.getD y 0:=by
   intro z hz hzab;rcases hV y hy with e|⟨h1,h2,h3⟩
   ·rw[e,hT]
    rcases hzab with rfl|rfl <;> omega
   ·rw[hW y h3];have:=least2 y hy h2
    rcases hzab with rfl|rfl <;> omega
  rcases hV x hx with e|⟨h1,h2,h3⟩
  ·simp only[if_pos e];rcases Nat.le_total (h a) (h b) with q|q
   ·rw[Nat.max_eq_right q];exact wy b wb (.inr rfl)
   ·rw[Nat.max_eq_left q];exact wy a wa (.inl rfl)
  ·simp only[if_neg h2] at hx1 ⊢;rcases hV y hy with e|⟨h4,h5,h6⟩
   ·rw[e,hT];have:=H.lo x h1 a ha hx1;omega
   ·rw[hW y h6];exact H.lo x h1 y h4 hx1
theorem Zx5 {w:List Nat}(hw:∀ x∈w,1<=x){k:Nat}{s:HS}(h:Joins (h0 w) k s):(∃ f,Hts s f)/\Tot s=Tot (h0 w):=by
 induction h with
 |start=>exact⟨⟨_,hts0 hw⟩,rfl⟩
 |next h j ih=>
  obtain⟨⟨f,hf⟩,ht⟩:=ih;have hg:=(Zbu h).1;exact⟨Yau hg j hf,(Zm9 hg j).trans ht⟩
theorem Zh1 {w out:List Nat}(hw:∀ x∈w,1<=x/\x<=2) (hl:w.length<=258) (h:Depths w out):∀ x∈out,x<=20:=by
 obtain⟨s,r,hj,hr,hlen,hu⟩:=h;obtain⟨⟨f,hf⟩,ht⟩:=Zx5 (λx hx=>(hw x hx).1) hj;intro x hx;obtain⟨i,hi,rfl⟩:=getElem_of_mem hx;have h1:=hu i (by omega);rw[gB,gA hi] at h1
 have hrm:r∈s.V:=by rw[hr];exact mem_singleton.2 rfl
 have h2:=hf.up r hrm i _ h1;have h3:=hf.wt r hrm
 have h4:s.W.getD r 0=Tot s:=by unfold Tot;rw[hr];simp
 have h5:=tot0 (m:=2) λx hx=>(hw x hx).2
 have h6:f r+1 < 15:=by
  rcases hU_ (f r+1) 15 with q|q
  ·exact q
  ·have h7:=Zz2 q
   have h8:fib 15=610:=by decide
   omega
 have h9:out[i]<=f r:=h2;omega
def halved (w:List Nat):List Nat:=w.map λx=>x/2+1
inductive LensOf:List Nat->List Nat->Prop
 |fit {w out:List Nat} (h:Depths w out) (hl:∀ x∈out,x<=20):LensOf w out
 |more {w l out:List Nat} (h:Depths w l) (hl:¬ ∀ x∈l,x<=20) (r:LensOf (halved w) out):LensOf w out
theorem LensOf.uniq {w o:List Nat}(h:LensOf w o):∀ {o2:List Nat},LensOf w o2->o=o2:=by
 induction h with
 |fit h hl=>
  intro o2 h2
  cases h2 with
  |fit h' hl'=>exact h.uniq h'
  |more h' hl' r=>exact absurd (h.uniq h'▸hl) hl'
 |more h hl r ih=>
  intro o2 h2
  cases h2 with
  |fit h' hl'=>exact absurd (h.uniq h'▸hl') hl
  |more h' hl' r'=>exact ih r'
theorem Zoc:∀ (w:List Nat),(∀ x∈w,1<=x)->(halved w).sum<=w.sum
 |[],_=>Nat.le_refl _
 |x::w,h=>by
  have h1:=Zoc w λy hy=>h y (hK_ _ hy);have h2:=h x (hJ_ ..);show ((x/2+1)::halved w:List Nat).sum<=_;rw[hQ_,hQ_];omega
theorem Zns:∀ (w:List Nat),(∀ x∈w,1<=x)->(¬ ∀ x∈w,x<=2)->(halved w).sum < w.sum
 |[],_,h=>absurd (by simp) h
 |x::w,h,hn=>by
  have h2:=h x (hJ_ ..);have h3:∀ y∈w,1<=y:=λy hy=>h y (hK_ _ hy);show ((x/2+1)::halved w:List Nat).sum < _;rw[hQ_,hQ_]
  by_cases hx:x<=2
  ·have:=Zns w h3 λe=>hn λy hy=>by
    rcases mem_cons.1 hy with rfl|hy
    ·exact hx
    ·exact e y hy
   omega
  ·have:=Zoc w h3;omega
theorem Zuy {w:List Nat}{m:Nat}(hm:1<=m) (h:∀ x∈w,1<=x/\x<=m):∀ x∈halved w,1<=x/\x<=m:=by
 intro x hx;obtain⟨y,hy,rfl⟩:=mem_map.1 hx;have:=h y hy;omega
theorem Zar {p:Nat->Prop}(h:∃ n,p n):∃ n,p n/\∀ m,p m->n<=m:=by
 obtain⟨n,hn⟩:=h
 induction n using Nat.strongRecOn with
 |ind n ih=>
  by_cases q:∃ m,m < n/\p m
  ·obtain⟨m,h1,h2⟩:=q;exact ih m h1 h2
  ·exact⟨n,hn,λm hm=>Nat.le_of_not_lt λh=>q ⟨m,h,hm⟩⟩
theorem Zkj {w out:List Nat}(hw:2<=w.length) (h:Depths w out):∀ x∈out,1<=x:=by
 obtain⟨s,r,hj,hr,hlen,hu⟩:=h;intro x hx;obtain⟨i,hi,rfl⟩:=getElem_of_mem hx;have h1:=hu i (by omega);rw[gB,gA hi] at h1
 have h2:w.length<=r:=by
  obtain⟨k,hk⟩:∃ k,w.length - 1=k+1:=⟨w.length - 2,by omega⟩;rw[hk] at hj
  cases hj with
  |next h j=>
   have h3:=j.V.mem_iff.2 (hJ_ ..);rw[hr] at h3;have h4:=mem_singleton.1 h3;have:=(Zbu h).2.2;omega
 have h3:Up s.I i out[i] r:=h1;generalize out[i]=y at *
 cases h3 with
 |here=>omega
 |up _ _=>omega
end Go.Mh
namespace Go.Proofs.YtgaiocpkjaaphaaGreatDoor
open Go Go.Vc Go.Proofs.Tryz
open Classical in
theorem Zlq {w:World}{body:(Nat->Value)->Cur 0->Cur 0}(I:Nat->World->Prop) (n0:Nat) (h0:I n0 w)
  (h:∀ jb n w (k:Cur 0),I n w->(∀ m w',m < n->I m w'->k w')->body jb k w):VLoop 0 [] w body:=by
 refine Zjc (λw'=>∃ n,I n w') (λw'=>if h:∃ n,I n w' then Classical.choose (Mh.Zar h) else 0) ⟨n0,h0⟩ ?_;intro jb w1 hx;have e1:=Classical.choose_spec (Mh.Zar hx);refine h jb _ w1 _ e1.1 λm w' hm hI=>⟨⟨m,hI⟩,?_⟩;have hx':∃ n,I n w':=⟨m,hI⟩;have e2:=Classical.choose_spec (Mh.Zar hx');show dite _ _ _ < dite _ _ _;rw[dif_pos hx,dif_pos hx'];exact Nat.lt_of_le_of_lt (e2.2 m hI) hm
open Classical in
theorem Zeq {w:World}{a b:Value}{body:(Nat->Value)->Cur 2->Cur 2}(I:Nat->Value->Value->World->Prop) (n0:Nat) (h0:I n0 a b w)
  (h:∀ jb n x y w (k:Cur 2),I n x y w->(∀ m x' y' w',m < n->I m x' y' w'->k x' y' w')->body jb k x y w):VLoop 2 [a,b] w body:=by
 refine Za7 (λx y w'=>∃ n,I n x y w') (λx y w'=>if h:∃ n,I n x y w' then Classical.choose (Mh.Zar h) else 0) ⟨n0,h0⟩ ?_;intro jb x y w1 hx;have e1:=Classical.choose_spec (Mh.Zar hx);refine h jb _ x y w1 _ e1.1 λm x' y' w' hm hI=>⟨⟨m,hI⟩,?_⟩;have hx':∃ n,I n x' y' w':=⟨m,hI⟩;have e2:=Classical.choose_spec (Mh.Zar hx');show dite _ _ _ < dite _ _ _;rw[dif_pos hx,dif_pos hx'];exact Nat.lt_of_le_of_lt (e2.2 m hI) hm
end Go.Proofs.YtgaiocpkjaaphaaGreatDoor
namespace Go.Ms
open Go.Mh
theorem sw {α:Type}{P Q R:List α}{x y:α}{p q:Nat}(hp:P.length=p) (hq:p+1+Q.length=q) :
  (P++x::(Q++y::R))[p]?=some x/\(P++x::(Q++y::R))[q]?=some y/\((P++x::(Q++y::R)).set p y).set q x=P++y::(Q++x::R)/\
   p < (P++x::(Q++y::R)).length/\q < ((P++x::(Q++y::R)).set p y).length:=by
 subst hp;subst hq
 have e:P.length+1+Q.length - P.length=(Q.length+1):=by omega
 refine⟨?_,?_,?_,?_,?_⟩
 ·rw[gT (Nat.le_refl _),Nat.sub_self];rfl
 ·rw[gT (by omega),e,gF,gT (Nat.le_refl _),Nat.sub_self];rfl
 ·rw[set_append_right _ _ (Nat.le_refl _),Nat.sub_self,gJ,set_append_right _ _ (by omega),e,gW,set_append_right _ _ (Nat.le_refl _),Nat.sub_self,gJ]
 ·simp
 ·simp;omega
theorem Zj6 {α:Type}{U:List α}{i:Nat}(h:i < U.length):U.drop i=U[i]::U.drop (i+1):=List.drop_eq_getElem_cons h
theorem Zik {α:Type}{U:List α}{i:Nat}(h:i < U.length):U.take (i+1)=U.take i++[U[i]]:=by
 rw[gO,gA h];rfl
theorem Zse {α:Type}{A B:List α}{x:α}{i:Nat}(h:A.length=i):(A++x::B)[i]?=some x:=by
 subst h;rw[gT (Nat.le_refl _),Nat.sub_self];rfl
theorem Zrx {α:Type}{A X B:List α}{a c:Nat}(ha:A.length=a) (h:c < X.length):(A++(X++B))[a+c]?=some X[c]:=by
 subst ha;rw[gT (by omega),show A.length+c - A.length=c by omega,gM h,gA h]
theorem Ybw {α:Type}{D:List α}{i:Nat}(h:i<=D.length):∃ A B,D=A++B/\A.length=i/\B.length=D.length - i:=⟨D.take i,D.drop i,(hN_ _ _).symm,by rw[gN];omega,by rw[gS]⟩
def Srt (W X:List Nat):Prop:=X.Pairwise (lt W)
theorem Srt.app {W X Y:List Nat}(hx:Srt W X) (hy:Srt W Y) (h:∀ x∈X,∀ y∈Y,lt W x y):Srt W (X++Y):=pairwise_append.2 ⟨hx,hy,h⟩
theorem Zqe {W Z1 Z2:List Nat}{x:Nat}(hs:Srt W (Z1++Z2)) (h1:∀ z∈Z1,lt W z x) (h2:∀ z∈Z2,lt W x z):Srt W (Z1++x::Z2):=by
 obtain⟨a,b,c⟩:=pairwise_append.1 hs;refine pairwise_append.2 ⟨a,List.pairwise_cons.2 ⟨h2,b⟩,λz hz y hy=>?_⟩;rcases mem_cons.1 hy with rfl|hy
 ·exact h1 z hz
 ·exact c z hz y hy
theorem Zjx {W Z:List Nat}{x:Nat}(hs:Srt W Z){k:Nat}(h:∀ y,Z[k]?=some y->lt W y x) (hk:k < Z.length):∀ z∈Z.take (k+1),lt W z x:=by
 intro z hz;obtain⟨i,hi,rfl⟩:=getElem_of_mem hz;rw[gN] at hi;rw[getElem_take];have hx:=h _ (gA hk)
 by_cases e:i=k
 ·subst e;exact hx
 ·exact Zcx (pairwise_iff_getElem.1 hs i k (by omega) hk (by omega)) hx
theorem Zjz {W Z:List Nat}{x:Nat}(hs:Srt W Z){k:Nat}(h:∀ y,Z[k]?=some y->lt W x y):∀ z∈Z.drop k,lt W x z:=by
 intro z hz;obtain⟨i,hi,rfl⟩:=getElem_of_mem hz;rw[gS] at hi;rw[List.getElem_drop]
 have hk:k < Z.length:=by omega
 have hx:=h _ (gA hk)
 by_cases e:i=0
 ·subst e;exact hx
 ·exact Zcx hx (pairwise_iff_getElem.1 hs k (k+i) hk (by omega) (by omega))
def Seg (W:List Nat) (lo:Nat) (X:List Nat):Prop:=X.Perm (List.range' lo X.length)/\Srt W X
inductive Runs (W:List Nat) (s:Nat):Nat->List Nat->Prop
 |last {lo:Nat} {X:List Nat} (h:Seg W lo X) (hl:X.length<=s):Runs W s lo X
 |cons {lo:Nat} {X L:List Nat} (h:Seg W lo X) (hl:X.length=s) (r:Runs W s (lo+s) L):Runs W s lo (X++L)
theorem Seg.join {W X Y Z:List Nat}{lo s:Nat}(hx:Seg W lo X) (hl:X.length=s) (hy:Seg W (lo+s) Y) (hz:Z.Perm (X++Y)) (hs:Srt W Z):Seg W lo Z:=by
 refine⟨?_,hs⟩;refine hz.trans ((hx.1.append hy.1).trans ?_);rw[hz.length_eq,gD,hl,<-List.range'_append_1]
theorem Zrp {W X Y:List Nat}{lo s:Nat}(hx:Seg W lo X) (hl:X.length=s) (hy:Seg W (lo+s) Y):∀ x∈X,∀ y∈Y,x < y:=by
 intro x h1 y h2;have h1:=mem_range'_1.1 (hx.1.mem_iff.1 h1);have h2:=mem_range'_1.1 (hy.1.mem_iff.1 h2);omega
theorem Zgx {W D:List Nat}{s lo:Nat}(h:Runs W s lo D) (hs:0 < s) (hl:D.length<=s):Seg W lo D:=by
 cases h with
 |last h _=>exact h
 |cons h hl2 r=>
  rename_i X L;rw[gD] at hl;have:L=[]:=eq_nil_of_length_eq_zero (by omega);subst this;rw[gU];exact h
theorem halves {W X1 X2 Y1 Y2 Z1 Z2:List Nat}(hx:Srt W (X1++X2)) (hy:Srt W (Y1++Y2)) (h1:∀ x∈X1,∀ y∈Y2,lt W x y) (h2:∀ y∈Y1,∀ x∈X2,lt W y x)
  (p1:Z1.Perm (X1++Y1)) (p2:Z2.Perm (X2++Y2)) (s1:Srt W Z1) (s2:Srt W Z2):(Z1++Z2).Perm (X1++X2++(Y1++Y2))/\Srt W (Z1++Z2):=by
 obtain⟨_,_,cx⟩:=pairwise_append.1 hx;obtain⟨_,_,cy⟩:=pairwise_append.1 hy;refine⟨?_,s1.app s2 λx hx1 y hy1=>?_⟩
 ·refine (p1.append p2).trans ?_;rw[gI,gI];refine .append_left _ ?_;rw[<-gI,<-gI];exact .append_right _ List.perm_append_comm
 ·rcases hT_.1 (p1.mem_iff.1 hx1) with h|h <;> rcases hT_.1 (p2.mem_iff.1 hy1) with h'|h'
  ·exact cx x h y h'
  ·exact h1 x h y h'
  ·exact h2 x h y h'
  ·exact cy x h y h'
theorem sw' {α:Type}{P Q R:List α}{x y:α}{p q:Nat}(hp:P.length=p) (hq:p+1+Q.length=q) :
  ((P++x::(Q++y::R)).set q x).set p y=P++y::(Q++x::R)/\q < (P++x::(Q++y::R)).length/\p < ((P++x::(Q++y::R)).set q x).length:=by
 obtain⟨_,_,e,h1,h2⟩:=sw (P:=P) (Q:=Q) (R:=R) (x:=x) (y:=y) hp hq;refine⟨by rw[List.set_comm _ _ (by omega)];exact e,?_,?_⟩
 ·rw[hX_] at h2;exact h2
 ·rw[hX_];exact h1
theorem Ycg {W X Y:List Nat}{h lo hi s:Nat}(hx:Srt W X) (hy:Srt W Y) (hc:(lo=h - Y.length/\Y.length<=h/\hi=h)\/(lo=0/\hi=X.length)) (h0:lo<=s) (h1:s<=hi) (hh:s<=h)
  (h2:lo < s->lt W (X.getD (s - 1) 0) (Y.getD (h - s) 0)) (h3:s < hi->lt W (Y.getD (h - 1 - s) 0) (X.getD s 0)) (hX:s<=X.length) (hY:h - s<=Y.length) :
  (∀ x∈X.take s,∀ y∈Y.drop (h - s),lt W x y)/\(∀ y∈Y.take (h - s),∀ x∈X.drop s,lt W y x):=by
 have gX:∀ i (hi:i < X.length),X.getD i 0=X[i]:=λi hi=>by rw[gB,gA hi];rfl
 have gY:∀ i (hi:i < Y.length),Y.getD i 0=Y[i]:=λi hi=>by rw[gB,gA hi];rfl
 have mX:∀ i j (hi:i < X.length) (hj:j < X.length),i < j->lt W X[i] X[j]:=λi j hi hj hij=>pairwise_iff_getElem.1 hx i j hi hj hij;have mY:∀ i j (hi:i < Y.length) (hj:j < Y.length),i < j->lt W Y[i] Y[j]:=λi j hi hj hij=>pairwise_iff_getElem.1 hy i j hi hj hij
 constructor
 ·intro x hxm y hym;obtain⟨i,hi1,rfl⟩:=getElem_of_mem hxm;obtain⟨j,hj1,rfl⟩:=getElem_of_mem hym;rw[gN] at hi1;rw[gS] at hj1;rw[getElem_take,List.getElem_drop]
  have hls:lo < s:=by
   rcases hc with⟨a,b,c⟩|⟨a,b⟩ <;> omega
  have e:=h2 hls;rw[gX _ (by omega),gY _ (by omega)] at e
  have e1:lt W X[i] Y[h - s]:=by
   by_cases q:i=s - 1
   ·subst q;exact e
   ·exact Zcx (mX i (s - 1) (by omega) (by omega) (by omega)) e
  by_cases q:j=0
  ·subst q;exact e1
  ·exact Zcx e1 (mY (h - s) (h - s+j) (by omega) (by omega) (by omega))
 ·intro y hym x hxm;obtain⟨i,hi1,rfl⟩:=getElem_of_mem hxm;obtain⟨j,hj1,rfl⟩:=getElem_of_mem hym;rw[gN] at hj1;rw[gS] at hi1;rw[getElem_take,List.getElem_drop]
  have hls:s < hi:=by
   rcases hc with⟨a,b,c⟩|⟨a,b⟩ <;> omega
  have e:=h3 hls;rw[gX _ (by omega),gY _ (by omega)] at e
  have e1:lt W Y[j] X[s]:=by
   by_cases q:j=h - 1 - s
   ·subst q;exact e
   ·exact Zcx (mY j (h - 1 - s) (by omega) (by omega) (by omega)) e
  by_cases q:i=0
  ·subst q;exact e1
  ·exact Zcx e1 (mX s (s+i) (by omega) (by omega) (by omega))
theorem seg_nil (W:List Nat) (lo:Nat):Seg W lo []:=⟨.refl _,List.Pairwise.nil⟩
theorem Ziu {W D:List Nat}{s lo:Nat}(h:Runs W s lo D) (hl:s<=D.length):∃ X R,D=X++R/\Seg W lo X/\X.length=s/\Runs W s (lo+s) R:=by
 cases h with
 |last h h2=>exact⟨D,[],(gU _).symm,h,by omega,.last (seg_nil _ _) (hE _)⟩
 |cons h h2 r=>exact⟨_,_,rfl,h,h2,r⟩
theorem Zs3 {W X:List Nat}{lo n:Nat}(h:Seg W lo X) (hn:lo+X.length<=n):∀ x∈X,x < n:=by
 intro x hx;have:=mem_range'_1.1 (h.1.mem_iff.1 hx);omega
theorem Zw3 (lo n s:Nat) (h:s<=n):List.range' lo n=List.range' lo s++List.range' (lo+s) (n - s):=by
 rw[List.range'_append_1,show s+(n - s)=n by omega]
end Go.Ms
namespace Go.M18
def blw (l:List UInt8) (b:Nat):Nat:=l.countP λc=>decide (c.toNat < b)
def cntB (l:List UInt8) (b:Nat):Nat:=l.countP λc=>c.toNat==b
def nx (l:List UInt8) (s:Nat) (b:Nat):Nat:=if s < l.length then cntB (l.take s) b else blw l b+cntB (l.take (s - l.length)) b
def nxL (l:List UInt8) (s:Nat):List Nat:=(List.range 256).map (nx l s)
def pos (l:List UInt8) (j:Nat):Nat:=blw l (l.getD j 0).toNat+cntB (l.take j) (l.getD j 0).toNat
def lnk (l:List UInt8):Nat->List Nat
 |0=>List.replicate l.length 0
 |i+1=>(lnk l i).set (pos l i) i
def lnS (l:List UInt8) (s:Nat):List Nat:=lnk l (min (s - l.length) l.length)
def links (l:List UInt8):List Nat:=lnk l l.length
def atK (l:List UInt8) (o:Nat):Nat->Nat
 |0=>o
 |k+1=>(links l).getD (atK l o k) 0
def outK (l:List UInt8) (o:Nat):Nat->List UInt8
 |0=>[]
 |k+1=>outK l o k++[l.getD (atK l o (k+1)) 0]
def text (l:List UInt8) (o:Nat):List UInt8:=outK l o l.length
def exB (f:Nat->Nat):Nat->Nat
 |0=>0
 |b+1=>exB f b+f b
theorem Ybt (l:List UInt8) (b:Nat):blw l b<=l.length:=List.countP_le_length
theorem cnt_le (l:List UInt8) (b:Nat):cntB l b<=l.length:=List.countP_le_length
theorem blw_succ (l:List UInt8) (b:Nat):blw l (b+1)=blw l b+cntB l b:=by
 unfold blw cntB
 induction l with
 |nil=>rfl
 |cons c l ih=>
  simp only[List.countP_cons,ih]
  by_cases h1:c.toNat < b
  ·have h2:¬ c.toNat=b:=by omega
   have h3:c.toNat < b+1:=by omega
   simp[h1,h2,h3];omega
  ·by_cases h2:c.toNat=b
   ·have h3:c.toNat < b+1:=by omega
    simp[h1,h2,h3];omega
   ·have h3:¬ c.toNat < b+1:=by omega
    simp[h1,h2,h3]
theorem Zrf (l:List UInt8):blw l 0=0:=by
 unfold blw;rw[List.countP_eq_zero];intro c _;simp
theorem Zep (l:List UInt8) (i:Nat) (h:i < l.length):l.take (i+1)=l.take i++[l.getD i 0]:=by
 rw[gO,gA h];simp[List.getD,h]
theorem Zbi (l:List UInt8) (i b:Nat) (h:i < l.length):cntB (l.take (i+1)) b=cntB (l.take i) b+if (l.getD i 0).toNat=b then 1 else 0:=by
 rw[Zep l i h];unfold cntB;rw[List.countP_append]
 congr 1
 simp[List.countP_cons]
theorem Zq8 (l:List UInt8) (i b:Nat):cntB (l.take i) b<=cntB l b:=by
 unfold cntB;exact List.Sublist.countP_le (List.take_sublist i l)
theorem Zp5 (l:List UInt8) (i:Nat) (h:i < l.length):cntB (l.take i) (l.getD i 0).toNat < cntB l (l.getD i 0).toNat:=by
 have h1:=Zbi l i (l.getD i 0).toNat h;have h2:=Zq8 l (i+1) (l.getD i 0).toNat;simp at h1;simp at h2;simp only[List.getD] at *;omega
theorem Ybu (l:List UInt8) (i:Nat) (h:i < l.length):pos l i < l.length:=by
 unfold pos;have h1:=Zp5 l i h;have h2:=Ybt l ((l.getD i 0).toNat+1);rw[blw_succ] at h2;omega
theorem Zi9 (l:List UInt8) (i:Nat):(lnk l i).length=l.length:=by
 induction i with
 |zero=>simp[lnk]
 |succ i ih=>simp[lnk,ih]
theorem Ybb (l:List UInt8):∀ (i:Nat),i<=l.length->∀ x∈lnk l i,x < max l.length 1
 |0,_,x,hx=>by simp[lnk] at hx;omega
 |i+1,h,x,hx=>by
  rcases List.mem_or_eq_of_mem_set hx with h1|h1
  ·exact Ybb l i (by omega) x h1
  ·omega
theorem Zz6 (l:List UInt8) (a:Nat) (h:0 < l.length):(links l).getD a 0 < l.length:=by
 rcases hU_ a (links l).length with ha|ha
 ·have:=Ybb l l.length (Nat.le_refl _) ((links l)[a]) (getElem_mem ha);simp[List.getD,ha];omega
 ·simp[List.getD,getElem?_eq_none ha];exact h
theorem Zr7 (l:List UInt8) (o:Nat) (ho:o < l.length):∀ k,atK l o k < l.length
 |0=>ho
 |k+1=>Zz6 l _ (by omega)
theorem Zhi (l:List UInt8) (o:Nat) (k:Nat):(outK l o k).length=k:=by
 induction k with
 |zero=>rfl
 |succ k ih=>simp[outK,ih]
theorem Zbb (l:List UInt8) (s:Nat):(nxL l s).length=256:=by simp[nxL]
theorem Ze0 (l:List UInt8) (s b:Nat) (h:b < 256):(nxL l s)[b]?=some (nx l s b):=by simp[nxL,h]
theorem nx_le (l:List UInt8) (s b:Nat):nx l s b<=2*l.length:=by
 unfold nx;split
 ·have:=cnt_le (l.take s) b;simp at this;omega
 ·have:=Ybt l b;have:=cnt_le (l.take (s - l.length)) b;simp at this;omega
theorem Zi6 (l:List UInt8) (i:Nat):(l.getD i 0).toNat < 256:=UInt8.toNat_lt _
theorem nx_lo {l:List UInt8}{s b:Nat}(h:s < l.length):nx l s b=cntB (l.take s) b:=if_pos h
theorem nx_hi {l:List UInt8}{s b:Nat}(h:l.length<=s):nx l s b=blw l b+cntB (l.take (s - l.length)) b:=if_neg (by omega)
theorem Zv5 (l:List UInt8) (s:Nat) (h:s+1 < l.length):(nxL l s).set (l.getD s 0).toNat (nx l s (l.getD s 0).toNat+1)=nxL l (s+1):=by
 have hb:=Zi6 l s;apply List.ext_getElem?;intro j;rw[getElem?_set,Zbb]
 by_cases hj:j < 256
 ·rw[Ze0 _ _ _ hj,Ze0 _ _ _ hj,nx_lo (by omega),nx_lo (by omega),nx_lo (by omega),Zbi l s j (by omega)]
  by_cases e:(l.getD s 0).toNat=j
  ·rw[e,if_pos rfl,if_pos hj,if_pos rfl]
  ·rw[if_neg e,if_neg e,Nat.add_zero]
 ·have h1:(l.getD s 0).toNat≠j:=by omega
  rw[if_neg h1,getElem?_eq_none (by rw[Zbb];omega),getElem?_eq_none (by rw[Zbb];omega)]
theorem Zx3 (l:List UInt8) (s:Nat) (h:s+1=l.length) :
  (List.range 256).map (exB λb=>((nxL l s).set (l.getD s 0).toNat (nx l s (l.getD s 0).toNat+1)).getD b 0)=nxL l (s+1):=by
 have hc:∀ b,b < 256->((nxL l s).set (l.getD s 0).toNat (nx l s (l.getD s 0).toNat+1)).getD b 0=cntB l b:=by
  intro b hb
  have ht:cntB l b=cntB (l.take (s+1)) b:=by rw[h,hF_]
  have hg:((nxL l s).set (l.getD s 0).toNat (nx l s (l.getD s 0).toNat+1))[b]?=some (cntB (l.take (s+1)) b):=by
   rw[getElem?_set,Zbb,Ze0 _ _ _ hb,nx_lo (by omega),nx_lo (by omega),Zbi l s b (by omega)]
   by_cases e:(l.getD s 0).toNat=b
   ·rw[e,if_pos rfl,if_pos hb,if_pos rfl]
   ·rw[if_neg e,if_neg e,Nat.add_zero]
  rw[ht];rw[gB,hg];rfl
 have he:∀ b,b<=256->exB (λb=>((nxL l s).set (l.getD s 0).toNat (nx l s (l.getD s 0).toNat+1)).getD b 0) b=blw l b:=by
  intro b
  induction b with
  |zero=>intro _;exact (Zrf l).symm
  |succ b ih=>intro hb;rw[exB,ih (by omega),hc b (by omega),blw_succ]
 show _=(List.range 256).map (nx l (s+1));apply List.map_congr_left;intro b hb;rw[mem_range] at hb;rw[he b (by omega),nx_hi (by omega),show s+1 - l.length=0 by omega];simp[cntB]
theorem Zzd (l:List UInt8) (s:Nat) (h1:l.length<=s) (h2:s < 2*l.length) :
  (nxL l s).set (l.getD (s - l.length) 0).toNat (nx l s (l.getD (s - l.length) 0).toNat+1)=nxL l (s+1):=by
 apply List.ext_getElem?;intro j;rw[getElem?_set,Zbb]
 by_cases hj:j < 256
 ·rw[Ze0 _ _ _ hj,Ze0 _ _ _ hj,nx_hi (by omega),nx_hi (by omega),nx_hi (by omega),show s+1 - l.length=(s - l.length)+1 by omega,Zbi l _ j (by omega)]
  by_cases e:(l.getD (s - l.length) 0).toNat=j
  ·rw[e,if_pos rfl,if_pos hj,if_pos rfl,hG_]
  ·rw[if_neg e,if_neg e,Nat.add_zero]
 ·have h3:(l.getD (s - l.length) 0).toNat≠j:=by have:=Zi6 l (s - l.length);omega
  rw[if_neg h3,getElem?_eq_none (by rw[Zbb];omega),getElem?_eq_none (by rw[Zbb];omega)]
theorem Ydx (l:List UInt8) (s:Nat) (h1:l.length<=s):nx l s (l.getD (s - l.length) 0).toNat=pos l (s - l.length):=by
 rw[nx_hi h1];rfl
theorem Zyh (l:List UInt8) (s:Nat) (h1:l.length<=s) (h2:s < 2*l.length):(lnS l s).set (pos l (s - l.length)) (s - l.length)=lnS l (s+1):=by
 unfold lnS;rw[Nat.min_eq_left (by omega),Nat.min_eq_left (by omega),show s+1 - l.length=(s - l.length)+1 by omega];rfl
theorem Zw7 (l:List UInt8) (s:Nat) (h:s < l.length):lnS l s=lnS l (s+1):=by
 unfold lnS;rw[show s - l.length=0 by omega,show s+1 - l.length=0 by omega]
theorem Zrq (l:List UInt8) (s:Nat) (h:2*l.length<=s):lnS l s=links l:=by
 unfold lnS links;rw[Nat.min_eq_right (by omega)]
theorem Zzw (l:List UInt8) (s:Nat) (h:2*l.length<=s):nxL l s=nxL l (s+1):=by
 unfold nxL;apply List.map_congr_left;intro b _;rcases hU_ s l.length with h3|h3
 ·omega
 ·rw[nx_hi h3,nx_hi (by omega),gK (by omega),gK (by omega)]
theorem Zl3 (l:List UInt8) (s:Nat):(lnS l s).length=l.length:=Zi9 _ _
theorem set_mid {α:Type}(f:Nat->α) (l:List α) (j:Nat) (h:j < l.length):((List.range j).map f++l.drop j).set j (f j)=(List.range (j+1)).map f++l.drop (j+1):=by
 have hl0:((List.range j).map f).length=j:=by simp
 rw[set_append_right _ _ (by omega),hl0,Nat.sub_self,List.drop_eq_getElem_cons h,gJ,List.range_succ,map_append,gI];rfl
def cnL (l:List UInt8) (i:Nat):List Nat:=(List.range 256).map (cntB (l.take i))
end Go.M18
namespace Go.Mk
open Go.M01 Go.Mb Go.Mp Go.M10 Go.Mc Go.Mz
structure RS where
 code:CS
 zeros:ZS
 list:List UInt8
 due:Nat
 place:Nat
structure BS where
 room:Nat
 head:Bool
 sum:Nat
 frm:Nat
 row:Option RS
 last:List UInt8
 done:Bool
def b0 (room:Nat):BS:=⟨room,false,0,0,none,[],false⟩
def rowOf (T:Nat->Bool) (room:Nat):RS:=⟨c0 ((listed T).length+2),z0 (listed T).length room,listed T,0,0⟩
def RS.waits (r:RS):Bool:=decide (0 < r.due)||decide (0 < r.place)
def RS.at_ (r:RS):Nat:=if 0 < r.due then 0 else r.place
def RS.next (r:RS):RS:=⟨r.code,r.zeros,frontB r.list r.at_,r.due - 1,if 0 < r.due then r.place else 0⟩
def RS.byte (r:RS):UInt8:=r.list.getD r.at_ 0
def bend (b:BS) (k:Nat):Res BS:=
 match b.row with
 |none=>.ok b k
 |some r=>if r.code.done=false\/r.waits=true then .ok b k
  else if b.last.length<=b.frm then .bad 23
  else .ok ⟨b.room,b.head,b.sum,b.frm,b.row,b.last,true⟩ k
def btold (b:BS) (r:RS) (c:CS) (s k:Nat):Res BS:=
 match zput r.zeros s with
 |none=>.bad 25
 |some (z,d,p)=>bend ⟨b.room,b.head,b.sum,b.frm,some ⟨c,z,r.list,d,p.toNat⟩,b.last,b.done⟩ k
def bsym (b:BS) (r:RS):Res (CS × Option Nat)->Res BS
 |.short=>.short
 |.bad e=>.bad e
 |.ok (c,none) k=>bend ⟨b.room,b.head,b.sum,b.frm,some ⟨c,r.zeros,r.list,r.due,r.place⟩,b.last,b.done⟩ k
 |.ok (c,some s) k=>btold b r c s k
def buse (b:BS):Res (Nat->Bool)->Res BS
 |.short=>.short
 |.bad e=>.bad e
 |.ok T k=>bend ⟨b.room,b.head,b.sum,b.frm,some (rowOf T b.room),b.last,b.done⟩ k
def bhead (b:BS) (l:List Bool):Res BS:=
 if l.length < 57 then .short
 else if valB ((l.drop 32).take 1)=1 then .bad 25
 else bend ⟨b.room,true,valB (l.take 32),valB ((l.drop 33).take 24),b.row,b.last,b.done⟩ 57
def bnext (b:BS) (r:RS):Res BS:=bend ⟨b.room,b.head,b.sum,b.frm,some r.next,b.last++[r.byte],b.done⟩ 0
def bstep (b:BS) (l:List Bool):Res BS:=
 if b.head=false then bhead b l
 else match b.row with
  |none=>buse b (uread l)
  |some r=>if r.waits=true then bnext b r else bsym b r (cstep r.code l)
structure RS.Ok (r:RS):Prop where
 code:r.code.Ok
 zeros:r.zeros.Ok
 zd:r.zeros.done=r.code.done
 size:r.code.size=r.zeros.n+2
 list:r.list.length=r.zeros.n
 place:r.place < r.zeros.n
structure BS.Ok (b:BS):Prop where
 room:b.room<=900000
 sum:b.sum < 4294967296
 frm:b.frm < 16777216
 none_:b.row=none->b.last=[]/\b.done=false
 some_:∀ r,b.row=some r->b.head=true/\r.Ok/\r.zeros.most=b.room/\b.last.length+r.due+(if 0 < r.place then 1 else 0)=r.zeros.told/\(b.done=false->r.code.done=true->r.waits=true)
theorem b0_ok {n:Nat}(h:n<=900000):(b0 n).Ok:=⟨h,by simp[b0],by simp[b0],λ_=>⟨rfl,rfl⟩,λr h=>by simp[b0] at h⟩
theorem Zzo {T:Nat->Bool}{room:Nat}(hT:listed T≠[]) (hr:room<=900000):(rowOf T room).Ok:=by
 have h1:=Zbf T;have h2:0 < (listed T).length:=gZ.2 hT;exact⟨c0_ok (by omega) (by omega),z0_ok (by omega) h1 hr,rfl,rfl,rfl,h2⟩
structure Pre (b:BS):Prop where
 room:b.room<=900000
 sum:b.sum < 4294967296
 frm:b.frm < 16777216
 none_:b.row=none->b.last=[]
 some_:∀ r,b.row=some r->b.head=true/\r.Ok/\r.zeros.most=b.room/\b.last.length+r.due+(if 0 < r.place then 1 else 0)=r.zeros.told
 done:b.done=false
theorem Zgi {b b':BS}{k k':Nat}(hp:Pre b) (h:bend b k=.ok b' k'):b'.Ok/\k'=k:=by
 unfold bend at h;split at h
 ·rename_i hr;cases h;exact⟨⟨hp.room,hp.sum,hp.frm,λh=>⟨hp.none_ h,hp.done⟩,λr h=>(by rw[hr] at h;cases h)⟩,rfl⟩
 ·rename_i r hr;have hs:=hp.some_ r hr;split at h
  ·rename_i hc;cases h;refine⟨⟨hp.room,hp.sum,hp.frm,λh=>(by rw[hr] at h;cases h),λr' h=>?_⟩,rfl⟩;rw[hr] at h;cases h;refine⟨hs.1,hs.2.1,hs.2.2.1,hs.2.2.2,λ_ h2=>?_⟩;rcases hc with h3|h3
   ·rw[h2] at h3;cases h3
   ·exact h3
  ·split at h
   ·cases h
   ·cases h;refine⟨⟨hp.room,hp.sum,hp.frm,λh=>(by simp only[hr] at h;cases h),λr' h=>?_⟩,rfl⟩;simp only[hr] at h;cases h;exact⟨hs.1,hs.2.1,hs.2.2.1,hs.2.2.2,λh=>by cases h⟩
theorem Zs2 {b:BS}{r:RS}(hb:b.Ok) (hd:b.done=false) (hr:b.row=some r) (hw:r.waits=true):Pre ⟨b.room,b.head,b.sum,b.frm,some r.next,b.last++[r.byte],b.done⟩:=by
 obtain⟨h1,h2,h3,h4,h5⟩:=hb.some_ r hr;refine⟨hb.room,hb.sum,hb.frm,λh=>(by cases h),λr' h=>?_,hd⟩;cases h;have hp:=h2.place
 have hat:r.at_ < r.list.length:=by
  have:=h2.list;unfold RS.at_
  split <;> omega
 refine⟨h1,⟨h2.code,h2.zeros,h2.zd,h2.size,by rw[RS.next,Zgm hat];exact h2.list,?_⟩,h3,?_⟩
 ·simp only[RS.next];split <;> omega
 ·unfold RS.waits at hw;simp only[Bool.or_eq_true,decide_eq_true_iff] at hw;show (b.last++[r.byte]).length+(r.due - 1)+(if 0 < r.next.place then 1 else 0)=r.zeros.told;rw[gD,gQ]
  by_cases h0:0 < r.due
  ·have e:r.next.place=r.place:=by simp[RS.next,h0]
   simp only[e];omega
  ·have hpl:0 < r.place:=by omega
   have e:r.next.place=0:=by simp[RS.next,h0]
   rw[if_pos hpl] at h4;simp only[e,Nat.lt_irrefl,if_false];omega
theorem Zri {b:BS}{r:RS}{c:CS}{z:ZS}{s d k:Nat}{p:Int}{l:List Bool}(hb:b.Ok) (hd:b.done=false) (hr:b.row=some r) (hw:r.waits=false)
  (hc:cstep r.code l=.ok (c,some s) k) (hz:zput r.zeros s=some (z,d,p)):Pre ⟨b.room,b.head,b.sum,b.frm,some ⟨c,z,r.list,d,p.toNat⟩,b.last,b.done⟩:=by
 obtain⟨h1,h2,h3,h4,h5⟩:=hb.some_ r hr;have hco:=Zdr hc h2.code;have hzo:=Zyc h2.zeros hz;have hsz:=h2.size;have hs:=hco.2.2 s rfl
 have hcd:c.done=decide (s=r.code.size - 1):=by
  unfold cstep at hc;split at hc
  ·unfold withPicks at hc
   split at hc <;> cases hc
  ·split at hc
   ·unfold withLens at hc
    repeat' split at hc
    all_goals cases hc
   ·split at hc
    ·cases hc
    ·unfold withSymbol at hc;split at hc
     ·cases hc
     ·cases hc;rfl
 unfold RS.waits at hw;simp only[Bool.or_eq_false_iff,decide_eq_false_iff_not] at hw;rw[if_neg hw.2] at h4;refine⟨hb.room,hb.sum,hb.frm,λh=>(by cases h),λr' h=>?_,hd⟩;cases h;unfold zput at hz;have hn1:=h2.zeros.n1;split at hz
 ·rename_i hc1;split at hz
  ·cases hz
  ·cases hz;refine⟨h1,⟨hco.1,hzo,?_,by rw[hco.2.1];exact hsz,h2.list,by simp only;omega⟩,h3,?_⟩
   ·rw[hcd];simp only;exact (decide_eq_false (by omega)).symm
   ·simp only[show ((-1:Int)).toNat=0 from rfl,Nat.lt_irrefl,if_false];omega
 ·rename_i hc1;split at hz
  ·rename_i hc2;cases hz;refine⟨h1,⟨hco.1,hzo,?_,by rw[hco.2.1];exact hsz,h2.list,by simp only;omega⟩,h3,?_⟩
   ·rw[hcd];simp only;exact (decide_eq_true (by omega)).symm
   ·simp only[show ((-1:Int)).toNat=0 from rfl,Nat.lt_irrefl,if_false];omega
  ·rename_i hc2;split at hz
   ·cases hz
   ·cases hz;refine⟨h1,⟨hco.1,hzo,?_,by rw[hco.2.1];exact hsz,h2.list,by simp only;omega⟩,h3,?_⟩
    ·rw[hcd];simp only;exact (decide_eq_false (by omega)).symm
    ·simp only;rw[if_pos (by omega)];omega
theorem Zvo {c c':CS}{l:List Bool}{k:Nat}(h:cstep c l=.ok (c',none) k):c'.done=c.done:=by
 unfold cstep at h;split at h
 ·unfold withPicks at h
  split at h <;> cases h
  rfl
 ·split at h
  ·unfold withLens at h
   repeat' split at h
   all_goals cases h
   all_goals rfl
  ·split at h
   ·cases h
   ·unfold withSymbol at h
    split at h <;> cases h
theorem Zxr {b:BS}{r:RS}{c:CS}{k:Nat}{l:List Bool}(hb:b.Ok) (hd:b.done=false) (hr:b.row=some r) (hc:cstep r.code l=.ok (c,none) k) :
  Pre ⟨b.room,b.head,b.sum,b.frm,some ⟨c,r.zeros,r.list,r.due,r.place⟩,b.last,b.done⟩:=by
 obtain⟨h1,h2,h3,h4,h5⟩:=hb.some_ r hr;have hco:=Zdr hc h2.code;refine⟨hb.room,hb.sum,hb.frm,λh=>(by cases h),λr' h=>?_,hd⟩;cases h;exact⟨h1,⟨hco.1,h2.zeros,by rw[Zvo hc];exact h2.zd,by rw[hco.2.1];exact h2.size,h2.list,h2.place⟩,h3,h4⟩
theorem Zye {b:BS}{T:Nat->Bool}(hb:b.Ok) (hh:b.head=true) (hr:b.row=none) (hT:listed T≠[]):Pre ⟨b.room,b.head,b.sum,b.frm,some (rowOf T b.room),b.last,b.done⟩:=by
 have hn:=hb.none_ hr;refine⟨hb.room,hb.sum,hb.frm,λh=>(by cases h),λr' h=>?_,hn.2⟩;cases h;exact⟨hh,Zzo hT hb.room,rfl,by rw[hn.1];rfl⟩
theorem Zfo {b:BS}{s f:Nat}(hb:b.Ok) (hh:b.head=false) (hs:s < 4294967296) (hf:f < 16777216):b.row=none/\Pre ⟨b.room,true,s,f,b.row,b.last,b.done⟩:=by
 have hr:b.row=none:=by
  cases hr:b.row with
  |none=>rfl
  |some r=>have:=(hb.some_ r hr).1;rw[hh] at this;cases this
 have hn:=hb.none_ hr;exact⟨hr,hb.room,hs,hf,λ_=>hn.1,λr h=>(by simp only at h;rw[hr] at h;cases h),hn.2⟩
theorem Zzu {b:BS}{r:RS}(hb:b.Ok) (hd:b.done=false) (hr:b.row=some r) (hw:r.waits=false):r.code.done=false:=by
 cases hc:r.code.done with
 |false=>rfl
 |true=>
  have:=(hb.some_ r hr).2.2.2.2 hd hc;rw[hw] at this;cases this
theorem Zfs {b:BS}{k e:Nat}(h:bend b k=.bad e):e=23:=by
 unfold bend at h;split at h
 ·cases h
 ·split at h
  ·cases h
  ·split at h
   ·cases h;rfl
   ·cases h
theorem Zfv {b:BS}{l:List Bool}{e:Nat}(h:bstep b l=.bad e):e=22\/e=23\/e=25:=by
 unfold bstep at h;split at h
 ·unfold bhead at h;split at h
  ·cases h
  ·split at h
   ·cases h;exact .inr (.inr rfl)
   ·exact .inr (.inl (Zfs h))
 ·split at h
  ·unfold buse at h;split at h
   ·cases h
   ·rename_i hu;cases h;exact .inr (.inr (Zw2 hu))
   ·exact .inr (.inl (Zfs h))
  ·split at h
   ·exact .inr (.inl (Zfs h))
   ·unfold bsym at h;split at h
    ·cases h
    ·rename_i hu;cases h;rcases Zjd hu with h|h
     ·exact .inl h
     ·exact .inr (.inr h)
    ·exact .inr (.inl (Zfs h))
    ·unfold btold at h;split at h
     ·cases h;exact .inr (.inr rfl)
     ·exact .inr (.inl (Zfs h))
end Go.Mk
namespace Go.Q20
open Go.M01 Go.Mb Go.Mp Go.M10 Go.Mc Go.Mz Go.Mk
section
variable {σ:Type}{step:σ->List Bool->Res σ}{done:σ->Bool}{s0:σ}{l:List Bool}
inductive RunN (step:σ->List Bool->Res σ) (done:σ->Bool) (s0:σ) (l:List Bool):Nat->σ->Nat->Prop
 |start:RunN step done s0 l 0 s0 0
 |next {i:Nat} {s s':σ} {k n:Nat} (h:RunN step done s0 l i s k) (hd:done s=false) (hs:step s (l.drop k)=.ok s' n):RunN step done s0 l (i+1) s' (k+n)
def Run (step:σ->List Bool->Res σ) (done:σ->Bool) (s0:σ) (l:List Bool) (s:σ) (k:Nat):Prop:=∃ i,RunN step done s0 l i s k
theorem Run.start:Run step done s0 l s0 0:=⟨0,.start⟩
theorem Run.next {s s':σ}{k n:Nat}(h:Run step done s0 l s k) (hd:done s=false) (hs:step s (l.drop k)=.ok s' n):Run step done s0 l s' (k+n):=by
 obtain⟨i,h⟩:=h;exact⟨i+1,.next h hd hs⟩
def Stop (step:σ->List Bool->Res σ) (done:σ->Bool) (l:List Bool) (s:σ) (k:Nat):Prop:=done s=false->∀ s' n,step s (l.drop k)≠.ok s' n
theorem RunN.det {i:Nat}{s:σ}{k:Nat}(h:RunN step done s0 l i s k):∀ {s2:σ}{k2:Nat},RunN step done s0 l i s2 k2->s=s2/\k=k2:=by
 induction h with
 |start=>intro s2 k2 h2;cases h2;exact⟨rfl,rfl⟩
 |next h hd hs ih=>
  intro s2 k2 h2
  cases h2 with
  |next h' hd' hs'=>
   obtain⟨rfl,rfl⟩:=ih h';rw[hs] at hs';cases hs';exact⟨rfl,rfl⟩
theorem RunN.prefix_ {m:Nat}{s:σ}{k:Nat}(h:RunN step done s0 l m s k):∀ {i:Nat},i < m->∃ s1 k1,RunN step done s0 l i s1 k1/\¬ Stop step done l s1 k1:=by
 induction h with
 |start=>intro i hi;omega
 |next h hd hs ih=>
  rename_i j s s' k n;intro i hi;rcases hU_ i j with h1|h1
  ·exact ih h1
  ·have:i=j:=by omega
   subst this;exact⟨s,k,h,λhst=>hst hd _ _ hs⟩
theorem RunN.stop_eq {i m:Nat}{s s2:σ}{k k2:Nat}(h:RunN step done s0 l i s k) (hs:Stop step done l s k) (h2:RunN step done s0 l m s2 k2) (hs2:Stop step done l s2 k2):i=m/\s=s2/\k=k2:=by
 rcases Nat.lt_trichotomy i m with h1|h1|h1
 ·obtain⟨s1,k1,h3,h4⟩:=h2.prefix_ h1;obtain⟨rfl,rfl⟩:=h.det h3;exact absurd hs h4
 ·subst h1;exact⟨rfl,h.det h2⟩
 ·obtain⟨s1,k1,h3,h4⟩:=h.prefix_ h1;obtain⟨rfl,rfl⟩:=h2.det h3;exact absurd hs2 h4
theorem Run.stop_eq {s s2:σ}{k k2:Nat}(h:Run step done s0 l s k) (hs:Stop step done l s k) (h2:Run step done s0 l s2 k2) (hs2:Stop step done l s2 k2):s=s2/\k=k2:=by
 obtain⟨i,h⟩:=h;obtain⟨m,h2⟩:=h2;exact (h.stop_eq hs h2 hs2).2
theorem Zj2 {s:σ}{k:Nat}(h:done s=true):Stop step done l s k:=λh2=>by rw[h] at h2;cases h2
theorem Zen {s:σ}{k:Nat}(h:step s (l.drop k)=.short):Stop step done l s k:=λ_ s' n h2=>by rw[h] at h2;cases h2
theorem Zfu {s:σ}{k e:Nat}(h:step s (l.drop k)=.bad e):Stop step done l s k:=λ_ s' n h2=>by rw[h] at h2;cases h2
theorem Run.trans {s:σ}{k:Nat}(h:Run step done s0 l s k):∀ {s2:σ}{k2:Nat},Run step done s (l.drop k) s2 k2->Run step done s0 l s2 (k+k2):=by
 rintro s2 k2 ⟨i,h2⟩
 induction h2 with
 |start=>exact h
 |next h2 hd hs ih=>
  rw[drop_drop] at hs;have:=Run.next ih hd hs;rw[hG_] at this;exact this
end
inductive Out where
 |bad (e:Nat)
 |got (last:List UInt8) (origin sum bits held:Nat)
def BS.held (b:BS):Nat:=match b.row with
 |none=>b.last.length
 |some r=>r.code.picks.picks.length+r.code.size*r.code.codes.length+b.last.length
def Comes (room:Nat) (l:List Bool) (o:Out):Prop:=
 ∃ b k,Run bstep BS.done (b0 room) l b k/\
  ((b.done=true/\o=.got b.last b.frm b.sum k (BS.held b))\/(b.done=false/\bstep b (l.drop k)=.short/\o=.bad 3)\/∃ e,b.done=false/\bstep b (l.drop k)=.bad e/\o=.bad e)
theorem Comes.det {room:Nat}{l:List Bool}{o o2:Out}(h:Comes room l o) (h2:Comes room l o2):o=o2:=by
 obtain⟨b,k,hr,h⟩:=h;obtain⟨b2,k2,hr2,h2⟩:=h2
 have hs:Stop bstep BS.done l b k:=by
  rcases h with h|h|⟨e,h⟩
  ·exact Zj2 h.1
  ·exact Zen h.2.1
  ·exact Zfu h.2.1
 have hs2:Stop bstep BS.done l b2 k2:=by
  rcases h2 with h|h|⟨e,h⟩
  ·exact Zj2 h.1
  ·exact Zen h.2.1
  ·exact Zfu h.2.1
 obtain⟨rfl,rfl⟩:=hr.stop_eq hs hr2 hs2
 rcases h with⟨h1,rfl⟩|⟨h1,h3,rfl⟩|⟨e,h1,h3,rfl⟩ <;> rcases h2 with⟨h4,rfl⟩|⟨h4,h6,rfl⟩|⟨e2,h4,h6,rfl⟩
 ·rfl
 ·rw[h1] at h4;cases h4
 ·rw[h1] at h4;cases h4
 ·rw[h1] at h4;cases h4
 ·rfl
 ·rw[h3] at h6;cases h6
 ·rw[h1] at h4;cases h4
 ·rw[h3] at h6;cases h6
 ·rw[h3] at h6;cases h6;rfl
def cstepL (x:CS × List Nat) (l:List Bool):Res (CS × List Nat):=match cstep x.1 l with
 |.short=>.short
 |.bad e=>.bad e
 |.ok (c,o) n=>.ok (c,x.2++o.toList) n
def cdone (x:CS × List Nat):Bool:=x.1.done
abbrev CRun (size:Nat) (l:List Bool) (c:CS) (L:List Nat) (k:Nat):Prop:=Run cstepL cdone (c0 size,[]) l (c,L) k
def zone (d:Nat) (p:Int):List Nat:=List.replicate d 0++if 0 < p then [p.toNat] else []
def zstep:Option (ZS × List Nat)->Nat->Option (ZS × List Nat)
 |none,_=>none
 |some (z,pl),s=>match zput z s with
  |none=>none
  |some (z',d,p)=>some (z',pl++zone d p)
def zall (z:ZS) (L:List Nat):Option (ZS × List Nat):=L.foldl zstep (some (z,[]))
theorem Zmp (z:ZS) (L:List Nat) (s:Nat):zall z (L++[s])=zstep (zall z L) s:=by simp[zall]
def mstep (x:List UInt8 × List UInt8) (p:Nat):List UInt8 × List UInt8:=(frontB x.1 p,x.2++[x.1.getD p 0])
def mall (o:List UInt8) (pl:List Nat):List UInt8 × List UInt8:=pl.foldl mstep (o,[])
theorem Zvv (o:List UInt8) (pl:List Nat) (p:Nat):mall o (pl++[p])=mstep (mall o pl) p:=by simp[mall]
inductive Says (room:Nat) (l:List Bool):Out->Prop
 |few (h:l.length < 57):Says room l (.bad 3)
 |bit (h:¬ l.length < 57) (hb:l.getD 32 false=true):Says room l (.bad 25)
 |ushort (h:¬ l.length < 57) (hb:l.getD 32 false=false) (hu:uread (l.drop 57)=.short):Says room l (.bad 3)
 |ubad {e:Nat} (h:¬ l.length < 57) (hb:l.getD 32 false=false) (hu:uread (l.drop 57)=.bad e):Says room l (.bad e)
 |codes {T:Nat->Bool} {n k:Nat} {c:CS} {L:List Nat} (h:¬ l.length < 57) (hb:l.getD 32 false=false) (hu:uread (l.drop 57)=.ok T n)
   (hr:CRun ((listed T).length+2) (l.drop (57+n)) c L k) (hs:Stop cstepL cdone (l.drop (57+n)) (c,L) k) (hz:zall (z0 (listed T).length room) L=none):Says room l (.bad 25)
 |cshort {T:Nat->Bool} {n k:Nat} {c:CS} {L:List Nat} (h:¬ l.length < 57) (hb:l.getD 32 false=false) (hu:uread (l.drop 57)=.ok T n)
   (hr:CRun ((listed T).length+2) (l.drop (57+n)) c L k) (hd:c.done=false) (hs:cstep c ((l.drop (57+n)).drop k)=.short) (hz:zall (z0 (listed T).length room) L≠none):Says room l (.bad 3)
 |cbad {T:Nat->Bool} {n k e:Nat} {c:CS} {L:List Nat} (h:¬ l.length < 57) (hb:l.getD 32 false=false) (hu:uread (l.drop 57)=.ok T n)
   (hr:CRun ((listed T).length+2) (l.drop (57+n)) c L k) (hd:c.done=false) (hs:cstep c ((l.drop (57+n)).drop k)=.bad e) (hz:zall (z0 (listed T).length room) L≠none):Says room l (.bad e)
 |orig {T:Nat->Bool} {n k:Nat} {c:CS} {L:List Nat} {z:ZS} {pl:List Nat} (h:¬ l.length < 57) (hb:l.getD 32 false=false) (hu:uread (l.drop 57)=.ok T n)
   (hr:CRun ((listed T).length+2) (l.drop (57+n)) c L k) (hd:c.done=true) (hz:zall (z0 (listed T).length room) L=some (z,pl))
   (ho:(mall (listed T) pl).2.length<=valB ((l.drop 33).take 24)):Says room l (.bad 23)
 |got {T:Nat->Bool} {n k:Nat} {c:CS} {L:List Nat} {z:ZS} {pl:List Nat} (h:¬ l.length < 57) (hb:l.getD 32 false=false) (hu:uread (l.drop 57)=.ok T n)
   (hr:CRun ((listed T).length+2) (l.drop (57+n)) c L k) (hd:c.done=true) (hz:zall (z0 (listed T).length room) L=some (z,pl))
   (ho:¬ (mall (listed T) pl).2.length<=valB ((l.drop 33).take 24)) :
   Says room l (.got (mall (listed T) pl).2 (valB ((l.drop 33).take 24)) (valB (l.take 32)) (57+n+k) (c.picks.picks.length+c.size*c.codes.length+(mall (listed T) pl).2.length))
section
variable {room sum frm:Nat}{l:List Bool}
abbrev BRun (room:Nat) (l:List Bool) (b:BS) (k:Nat):Prop:=Run bstep BS.done (b0 room) l b k
def mid (room sum frm:Nat) (c:CS) (z:ZS) (ol:List UInt8 × List UInt8) (due place:Nat) (done:Bool):BS:=⟨room,true,sum,frm,some ⟨c,z,ol.1,due,place⟩,ol.2,done⟩
def Fin (room sum frm:Nat) (l:List Bool) (c:CS) (z:ZS) (ol:List UInt8 × List UInt8) (k:Nat):Prop:=
 if c.done=true then
  if ol.2.length<=frm then ∃ b k',BRun room l b k'/\b.done=false/\bstep b (l.drop k')=.bad 23
  else BRun room l (mid room sum frm c z ol 0 0 true) k
 else BRun room l (mid room sum frm c z ol 0 0 false) k
theorem Zl2 {b:BS}{c:CS}{z:ZS}{ol:List UInt8 × List UInt8}{k n:Nat}(hr:BRun room l b k) (hd:b.done=false) (he:bstep b (l.drop k)=bend (mid room sum frm c z ol 0 0 false) n) :
  Fin room sum frm l c z ol (k+n):=by
 have hw:RS.waits ⟨c,z,ol.1,0,0⟩=false:=rfl;unfold Fin;unfold bend mid at he;simp only[hw,Bool.false_eq_true,or_false] at he
 by_cases hc:c.done=true
 ·rw[if_pos hc];rw[if_neg (by simp[hc])] at he
  by_cases ho:ol.2.length<=frm
  ·rw[if_pos ho];rw[if_pos ho] at he;exact⟨b,k,hr,hd,he⟩
  ·rw[if_neg ho];rw[if_neg ho] at he;exact hr.next hd he
 ·rw[if_neg hc];rw[if_pos (by simpa using hc)] at he;exact hr.next hd he
theorem Zhg {b:BS}{c:CS}{z:ZS}{ol:List UInt8 × List UInt8}{k n d p:Nat}(hw:0 < d\/0 < p) (hr:BRun room l b k) (hd:b.done=false) (he:bstep b (l.drop k)=bend (mid room sum frm c z ol d p false) n) :
  BRun room l (mid room sum frm c z ol d p false) (k+n):=by
 refine hr.next hd ?_;rw[he];unfold bend mid
 have:RS.waits ⟨c,z,ol.1,d,p⟩=true:=by unfold RS.waits;simp;exact hw
 simp only[this,or_true,if_true]
theorem Zne {c:CS}{z:ZS}{ol:List UInt8 × List UInt8}{k p:Nat}(hp:0 < p) (hr:BRun room l (mid room sum frm c z ol 0 p false) k) :
  Fin room sum frm l c z (mstep ol p) k:=by
 refine Zl2 (n:=0) hr rfl ?_;unfold bstep mid
 have hw:RS.waits ⟨c,z,ol.1,0,p⟩=true:=by unfold RS.waits;simp;omega
 simp only[hw,if_true,bnext,RS.next,RS.byte,RS.at_,Nat.lt_irrefl,if_false,mstep,Bool.true_eq_false]
theorem Yde {c:CS}{z:ZS}{k d p:Nat}:∀ {ol:List UInt8 × List UInt8},BRun room l (mid room sum frm c z ol (d+1) p false) k->
  if 0 < p then BRun room l (mid room sum frm c z ((List.replicate (d+1) 0).foldl mstep ol) 0 p false) k else Fin room sum frm l c z ((List.replicate (d+1) 0).foldl mstep ol) k:=by
 induction d with
 |zero=>
  intro ol hr
  have hw:RS.waits ⟨c,z,ol.1,0+1,p⟩=true:=by unfold RS.waits;simp
  have he:bstep (mid room sum frm c z ol (0+1) p false) (l.drop k)=bend (mid room sum frm c z (mstep ol 0) 0 p false) 0:=by
   conv=>lhs;unfold bstep mid
   simp only[hw,if_true,bnext,RS.next,RS.byte,RS.at_,Nat.zero_add,Nat.lt_irrefl,if_false,mstep,Bool.true_eq_false,Nat.zero_lt_one,Nat.sub_self];rfl
  split
  ·rename_i hp;exact Zhg (.inr hp) hr rfl he
  ·rename_i hp
   have:p=0:=by omega
   subst this;exact Zl2 hr rfl he
 |succ d ih=>
  intro ol hr
  have hw:RS.waits ⟨c,z,ol.1,d+1+1,p⟩=true:=by unfold RS.waits;simp
  have he:bstep (mid room sum frm c z ol (d+1+1) p false) (l.drop k)=bend (mid room sum frm c z (mstep ol 0) (d+1) p false) 0:=by
   conv=>lhs;unfold bstep mid
   simp only[hw,if_true,bnext,RS.next,RS.byte,RS.at_,mstep,Bool.true_eq_false,if_false,Nat.zero_lt_succ,Nat.add_sub_cancel];rfl
  have:=ih (Zhg (.inl (Nat.succ_pos _)) hr rfl he);rw[List.replicate_succ,List.foldl_cons];exact this
theorem Zzb {b:BS}{c:CS}{z:ZS}{ol:List UInt8 × List UInt8}{k n d:Nat}{p:Int}(hr:BRun room l b k) (hd:b.done=false) (he:bstep b (l.drop k)=bend (mid room sum frm c z ol d p.toNat false) n) :
  Fin room sum frm l c z ((zone d p).foldl mstep ol) (k+n):=by
 unfold zone;rw[List.foldl_append]
 cases d with
 |zero=>
  rw[replicate_zero,List.foldl_nil]
  by_cases hp:0 < p
  ·rw[if_pos hp];have h:=Zhg (d:=0) (p:=p.toNat) (.inr (by omega)) hr hd he;exact Zne (by omega) h
  ·rw[if_neg hp]
   have:p.toNat=0:=by omega
   rw[this] at he;exact Zl2 hr hd he
 |succ d=>
  have h:=Zhg (.inl (Nat.succ_pos d)) hr hd he;have h2:=Yde h
  by_cases hp:0 < p
  ·rw[if_pos hp];rw[if_pos (by omega)] at h2;exact Zne (by omega) h2
  ·rw[if_neg hp];rw[if_neg (by omega)] at h2;exact h2
def Link (room sum frm:Nat) (l:List Bool) (syms:List UInt8) (at_:Nat) (c:CS) (L:List Nat) (k:Nat):Prop:=
 match zall (z0 syms.length room) L with
 |none=>∃ b k',BRun room l b k'/\b.done=false/\bstep b (l.drop k')=.bad 25
 |some (z,pl)=>Fin room sum frm l c z (mall syms pl) (at_+k)
theorem Zzs {syms:List UInt8}{at_ size:Nat}(h0:BRun room l (mid room sum frm (c0 size) (z0 syms.length room) (syms,[]) 0 0 false) at_) :
  ∀ {i:Nat} {x:CS × List Nat} {k:Nat},RunN cstepL cdone (c0 size,[]) (l.drop at_) i x k->Link room sum frm l syms at_ x.1 x.2 k:=by
 intro i x k h
 induction h with
 |start=>exact h0
 |next h hd hs ih=>
  rename_i j x x' k n;obtain⟨c,L⟩:=x;unfold Link at ih ⊢;simp only at ih ⊢;unfold cdone at hd;simp only at hd;unfold cstepL at hs;simp only at hs
  cases hc:cstep c ((l.drop at_).drop k) with
  |short=>rw[hc] at hs;cases hs
  |bad e=>rw[hc] at hs;cases hs
  |ok y n'=>
   obtain⟨c',o⟩:=y;rw[hc] at hs;cases hs
   cases hz:zall (z0 syms.length room) L with
   |none=>
    rw[hz] at ih;simp only at ih
    cases o with
    |none=>simp only[Option.toList_none,gU,hz];exact ih
    |some s=>simp only[Option.toList_some,Zmp,hz,zstep];exact ih
   |some zp=>
    obtain⟨z,pl⟩:=zp;rw[hz] at ih;simp only at ih;unfold Fin at ih;rw[if_neg (by rw[hd];simp)] at ih
    have hb:bstep (mid room sum frm c z (mall syms pl) 0 0 false) (l.drop (at_+k))=bsym (mid room sum frm c z (mall syms pl) 0 0 false) ⟨c,z,(mall syms pl).1,0,0⟩ (.ok (c',o) n):=by
     rw[<-hc,drop_drop]
     conv=>lhs;unfold bstep mid
     simp only[show RS.waits ⟨c,z,(mall syms pl).1,0,0⟩=false from rfl,Bool.true_eq_false,Bool.false_eq_true,if_false];rfl
    cases o with
    |none=>
     simp only[Option.toList_none,gU,hz];have:=Zl2 (n:=n) ih rfl hb;rw[hG_] at this;exact this
    |some s=>
     simp only[Option.toList_some,Zmp,hz,zstep]
     cases hp:zput z s with
     |none=>
      simp only;refine⟨_,_,ih,rfl,?_⟩;rw[hb];simp only[bsym,btold,hp]
     |some y=>
      obtain⟨z',d,p⟩:=y;simp only
      have he:bstep (mid room sum frm c z (mall syms pl) 0 0 false) (l.drop (at_+k))=bend (mid room sum frm c' z' (mall syms pl) d p.toNat false) n:=by
       rw[hb];simp only[bsym,btold,hp];rfl
      have:=Zzb ih rfl he;rw[hG_] at this;unfold mall;rw[List.foldl_append];exact this
theorem Zto {o:Out}(h:Says room l o):Comes room l o:=by
 have hb0:(b0 room).done=false:=rfl
 have few:∀ {n:Nat},¬ l.length < 57->l.getD 32 false=false->BRun room l ⟨room,true,valB (l.take 32),valB ((l.drop 33).take 24),none,[],false⟩ 57:=by
  intro n h hb
  have h1:bstep (b0 room) (l.drop 0)=.ok ⟨room,true,valB (l.take 32),valB ((l.drop 33).take 24),none,[],false⟩ 57:=by
   unfold bstep b0 bhead;rw[drop_zero];simp only[if_true];rw[if_neg h]
   have e:valB ((l.drop 32).take 1)=0:=by
    have hg:(l.drop 32)[0]?=some false:=by
     rw[hH_,Nat.add_zero,gA (by omega)];rw[gB,gA (by omega)] at hb;simpa using hb
    rw[Zai (n:=0) hg,take_zero,hO_,Zgb];rfl
   rw[e,if_neg (by decide)];rfl
  have:=Run.start.next (step:=bstep) (done:=BS.done) hb0 h1;simpa using this
 have uses:∀ {T:Nat->Bool} {n:Nat},¬ l.length < 57->l.getD 32 false=false->uread (l.drop 57)=.ok T n->
   BRun room l (mid room (valB (l.take 32)) (valB ((l.drop 33).take 24)) (c0 ((listed T).length+2)) (z0 (listed T).length room) (listed T,[]) 0 0 false) (57+n):=by
  intro T n h hb hu;refine (few (n:=n) h hb).next rfl ?_;unfold bstep;simp only[Bool.true_eq_false,if_false,hu,buse];rfl
 have linked:∀ {T:Nat->Bool} {n k:Nat} {c:CS} {L:List Nat},¬ l.length < 57->l.getD 32 false=false->uread (l.drop 57)=.ok T n->CRun ((listed T).length+2) (l.drop (57+n)) c L k->
   Link room (valB (l.take 32)) (valB ((l.drop 33).take 24)) l (listed T) (57+n) c L k:=by
  intro T n k c L h hb hu hr;obtain⟨i,hr⟩:=hr;exact Zzs (uses h hb hu) hr
 have waits:∀ {c:CS} {z:ZS} {ol:List UInt8 × List UInt8} {k sum frm:Nat},bstep (mid room sum frm c z ol 0 0 false) (l.drop k)=bsym (mid room sum frm c z ol 0 0 false) ⟨c,z,ol.1,0,0⟩ (cstep c (l.drop k)):=by
  intro c z ol k sum frm
  conv=>lhs;unfold bstep mid
  simp only[show RS.waits ⟨c,z,ol.1,0,0⟩=false from rfl,Bool.true_eq_false,Bool.false_eq_true,if_false];rfl
 cases h with
 |few h=>
  refine⟨b0 room,0,.start,.inr (.inl ⟨rfl,?_,rfl⟩)⟩;unfold bstep b0 bhead;simp only[drop_zero,if_true,if_pos h]
 |bit h hb=>
  refine⟨b0 room,0,.start,.inr (.inr ⟨25,rfl,?_,rfl⟩)⟩;unfold bstep b0 bhead;simp only[drop_zero,if_true,if_neg h]
  have e:valB ((l.drop 32).take 1)=1:=by
   have hg:(l.drop 32)[0]?=some true:=by
    rw[hH_,Nat.add_zero,gA (by omega)];rw[gB,gA (by omega)] at hb;simpa using hb
   rw[Zai (n:=0) hg,take_zero,hO_,Zgb];rfl
  rw[e,if_pos rfl]
 |ushort h hb hu=>
  refine⟨_,_,few (n:=0) h hb,.inr (.inl ⟨rfl,?_,rfl⟩)⟩;unfold bstep;simp only[Bool.true_eq_false,if_false,hu,buse]
 |ubad h hb hu=>
  refine⟨_,_,few (n:=0) h hb,.inr (.inr ⟨_,rfl,?_,rfl⟩)⟩;unfold bstep;simp only[Bool.true_eq_false,if_false,hu,buse]
 |codes h hb hu hr hs hz=>
  have:=linked h hb hu hr;unfold Link at this;rw[hz] at this;obtain⟨b,k',h1,h2,h3⟩:=this;exact⟨b,k',h1,.inr (.inr ⟨25,h2,h3,rfl⟩)⟩
 |cshort h hb hu hr hd hs hz=>
  have:=linked h hb hu hr;unfold Link at this
  revert this
  cases hq:zall _ _ with
  |none=>exact absurd hq hz
  |some y=>
   obtain⟨z,pl⟩:=y;simp only;intro this;unfold Fin at this;rw[if_neg (by rw[hd];simp)] at this;refine⟨_,_,this,.inr (.inl ⟨rfl,?_,rfl⟩)⟩;rw[waits,<-drop_drop,hs];rfl
 |cbad h hb hu hr hd hs hz=>
  have:=linked h hb hu hr;unfold Link at this
  revert this
  cases hq:zall _ _ with
  |none=>exact absurd hq hz
  |some y=>
   obtain⟨z,pl⟩:=y;simp only;intro this;unfold Fin at this;rw[if_neg (by rw[hd];simp)] at this;refine⟨_,_,this,.inr (.inr ⟨_,rfl,?_,rfl⟩)⟩;rw[waits,<-drop_drop,hs];rfl
 |orig h hb hu hr hd hz ho=>
  have:=linked h hb hu hr;unfold Link at this;rw[hz] at this;simp only at this;unfold Fin at this;rw[if_pos hd,if_pos ho] at this;obtain⟨b,k',h1,h2,h3⟩:=this;exact⟨b,k',h1,.inr (.inr ⟨23,h2,h3,rfl⟩)⟩
 |got h hb hu hr hd hz ho=>
  have:=linked h hb hu hr;unfold Link at this;rw[hz] at this;simp only at this;unfold Fin at this;rw[if_pos hd,if_neg ho] at this;exact⟨_,_,this,.inl ⟨rfl,rfl⟩⟩
end
end Go.Q20
namespace Go.Vc
variable {P:Program}{w:World}{L:List HProp}
def mk (b:Nat) (t:TypeId) (cs:List Value):HProp:=blkO b (.cells cs.toArray t (cs.length,cs.length+1))
theorem Zja (H:Holds w L) (i:Nat){b:Nat}{t:TypeId}{cs:List Value}(hi:L[i]?=some (mk b t cs)) (o:Nat):w.cell? ⟨b,o,none⟩=cs[o]?:=by
 have:=H.obj i hi;simp[World.cell?,this]
theorem Zmm (H:Holds w L) (i:Nat){b:Nat}{t:TypeId}{cs:List Value}(hi:L[i]?=some (mk b t cs)){o:Nat}(ho:o < cs.length):w.frozen? ⟨b,o,none⟩=false:=by
 have:=H.obj i hi;simp[World.frozen?,this];omega
theorem Ybp (H:Holds w L) (i:Nat){b:Nat}{t:TypeId}{cs:List Value}(hi:L[i]?=some (mk b t cs)) (o:Nat) (v:Value) :
  Holds (w.setCell ⟨b,o,none⟩ v) (L.set i (mk b t (cs.set o v))):=by
 have h:=H.obj i hi;refine H.upd i hi ?_ λc hc=>?_
 ·simp[World.setCell,Array.getElem?_modify,h]
 ·simp only[World.setCell,Array.getElem?_modify];rw[if_neg (by simpa using λh=>hc h.symm)]
theorem Zj9 (i:Nat){b:Nat}{t:TypeId}:∀ (vs:List Value) (o:Nat){w:World}{L:List HProp}{cs:List Value},Holds w L->L[i]?=some (mk b t cs)->o+vs.length<=cs.length->
  Same w (w.setCells b o vs)/\Holds (w.setCells b o vs) (L.set i (mk b t (cs.take o++(vs++cs.drop (o+vs.length)))))
 |[],o,w,L,cs,H,hi,hl=>by
  refine⟨Same.refl w,?_⟩;rw[hO_,length_nil,Nat.add_zero,hN_];have hl:i < L.length:=(gH.1 hi).1;have e1:L[i]=_:=(gH.1 hi).2;rw[<-e1,List.set_getElem_self];exact H
 |v::vs,o,w,L,cs,H,hi,hl=>by
  rw[length_cons] at hl;have h1:=Ybp H i hi o v;obtain⟨S2,h2⟩:=Zj9 i vs (o+1) h1 (Za5 hi) (by rw[hX_];omega);refine⟨(Same.setCell w _ v).trans S2,?_⟩;rw[set_set] at h2
  have e:(cs.set o v).take (o+1)++(vs++(cs.set o v).drop (o+1+vs.length))=cs.take o++(v::vs++cs.drop (o+(v::vs).length)):=by
   have h3:(cs.set o v)[o]?=some v:=by rw[List.getElem?_set_self (by omega)]
   rw[gO,h3,List.take_set_of_le (Nat.le_refl o),List.drop_set_of_lt (by omega),length_cons,show o+1+vs.length=o+(vs.length+1) by omega];simp
  rw[e] at h2;exact h2
def SM (e:TypeId) (v:Value) (xs:List UInt8):HProp:=λh=>∃ b sp,v=.slice (some ⟨b,0,none⟩) xs.length (xs.length+sp.length)/\mk b e (xs.map bv++sp) h
theorem Zgo (H:Holds w L) (i:Nat){e:TypeId}{v:Value}{xs:List UInt8}(hi:L[i]?=some (SM e v xs)):∃ b sp,v=.slice (some ⟨b,0,none⟩) xs.length (xs.length+sp.length)/\Holds w (L.set i (mk b e (xs.map bv++sp))):=by
 obtain⟨g,⟨b,sp,hv,hg⟩,hs,hL⟩:=H.front i hi;exact⟨b,sp,hv,Sat.push i hi ⟨g,hg,hs,hL⟩⟩
theorem Zrk (H:Holds w L) (i:Nat){e:TypeId}{b:Nat}{xs:List UInt8}{sp:List Value}(hi:L[i]?=some (mk b e (xs.map bv++sp))):Holds w (L.set i (SM e (.slice (some ⟨b,0,none⟩) xs.length (xs.length+sp.length)) xs)):=
 H.at i hi λg hg=>⟨b,sp,rfl,hg⟩
theorem r_lnM (i:Nat) (H:Holds w L){e:TypeId}{v:Value}{xs:List UInt8}{K:Value->Prop}(hi:L[i]?=some (SM e v xs)) (h:K (nv xs.length)):Lnl v K:=by
 obtain⟨b,sp,rfl,_⟩:=Zgo H i hi;exact r_lnl h
theorem Ye3 (i:Nat) (H:Holds w L){e:TypeId}{v:Value}{xs:List UInt8}{k:IntKind}{j:Nat}{x:UInt8}{K:Value->Prop}(hi:L[i]?=some (SM e v xs)) (hx:xs[j]?=some x) (h:K (bv x)) :
  Ias 1 v (.int k (j:Int)) λp=>Ld p w K:=by
 obtain⟨b,sp,rfl,H1⟩:=Zgo H i hi;have hj:j < xs.length:=(gH.1 hx).1;refine r_ias (by omega) (by omega) ?_;rw[gC,Nat.zero_add,Nat.mul_one];refine r_ldP ?_ h;rw[Zja H1 i (Za5 hi),gM (by simpa using hj),hV_,hx];rfl
theorem Yed (i:Nat) (H:Holds w L){e:TypeId}{v:Value}{xs:List UInt8}{k:IntKind}{j:Nat}(x:UInt8){K:World->Prop}(hi:L[i]?=some (SM e v xs)) (hj:j < xs.length)
  (h:∀ w',Same w w'->Holds w' (L.set i (SM e v (xs.set j x)))->K w'):Ias 1 v (.int k (j:Int)) λp=>St p (bv x) w K:=by
 obtain⟨b,sp,rfl,H1⟩:=Zgo H i hi;refine r_ias (by omega) (by omega) ?_;rw[gC,Nat.zero_add,Nat.mul_one]
 have hc:(xs.map bv++sp)[j]?=some (bv xs[j]):=by rw[gM (by simpa using hj),hV_,gA hj];rfl
 refine⟨_,bv xs[j],rfl,by rw[Zja H1 i (Za5 hi),hc],Zmm H1 i (Za5 hi) (by simp;omega),rfl,h _ (Same.setCell _ _ _) ?_⟩;have H2:=Ybp H1 i (Za5 hi) j (bv x);rw[set_set,List.set_append_left _ _ (by simpa using hj),<-List.map_set] at H2;have H3:=Zrk H2 i (Za5 hi);rw[set_set,hX_] at H3;exact H3
theorem r_cpM {t e:TypeId}{z:Value} [hr:Row P t e z] (H:Holds w L) (q:Nat){b:Nat}{xs:List UInt8}{sp:List Value}{i:Nat}{ty:TypeId}{K:KT}
  (hq:L[q]?=some (mk b e (xs.map bv++sp))) (hi:i < xs.length) (h:∀ v w',Same w w'->Holds w' (L.set q (mk b e ((xs.take 1++(xs.take i++xs.drop (i+1))).map bv++sp)))->K v w') :
  Cp P #[t,t] ty #[.slice (if xs.length+sp.length=1 then some ⟨b,0,none⟩ else (some (⟨b,0,none⟩:Addr)).map (·.add (1*1))) (i+1 - 1) (xs.length+sp.length - 1),.slice (some ⟨b,0,none⟩) i (xs.length+sp.length)] w K:=by
 obtain⟨inf,hinf,hsz,hby,hzz⟩:=hr.inf
 have hinf1:(P.info? e).map (·.size)=some 1:=by rw[hinf];simp[hsz]
 rcases Nat.eq_zero_or_pos i with h0|h0
 ·subst h0;refine r_cp (run_copy_none w t t ty e _ _ _ _ 0 _ hr.und hinf1 rfl) (h _ _ (.refl _) ?_)
  rw[take_zero,hO_,Nat.zero_add,hN_,show L.set q (mk b e (xs.map bv++sp))=L from by
   have hl:q < L.length:=(gH.1 hq).1;have e1:L[q]=_:=(gH.1 hq).2
   rw[<-e1,List.set_getElem_self]]
  exact H
 ·have hne:¬ xs.length+sp.length=1:=by omega
  rw[if_neg hne];have ea:(some (⟨b,0,none⟩:Addr)).map (·.add (1*1))=some ⟨b,1,none⟩:=rfl;rw[ea]
  have hcl:((xs.take i).map bv).length=i:=by simp;omega
  have hcs:(xs.map bv++sp).length=xs.length+sp.length:=by simp
  have hrun:=run_copy_cells (P:=P) w t t ty e b 1 (i+1 - 1) (xs.length+sp.length - 1) ⟨b,0,none⟩ i (xs.length+sp.length) ((xs.take i).map bv) hr.und hinf1
   (by rw[hcl,Nat.add_sub_cancel];exact (Nat.min_self i).symm) (λj v hv=>by
    have e1:(⟨b,0,none⟩:Addr).add j=⟨b,j,none⟩:=by
     unfold Addr.add;split
     ·rename_i h;rw[h]
     ·simp
    rw[e1,Zja H q hq j]
    have hj:j < i:=by have:=(gH.1 hv).1;rw[hcl] at this;exact this
    rw[gM (by simp;omega),<-hv,hV_,hV_,hI_ hj])
   (λj hj=>by rw[Zja H q hq,gA (by rw[hcs];omega)];rfl)
   (λj hj=>Zmm H q hq (by rw[hcs];omega)) (λv hv=>by
    obtain⟨y,_,rfl⟩:=mem_map.1 hv
    rfl)
  obtain⟨S2,H2⟩:=Zj9 q ((xs.take i).map bv) 1 H hq (by rw[hcl,hcs];omega);refine r_cp hrun (h _ _ S2 ?_)
  have e:(xs.map bv++sp).take 1++((xs.take i).map bv++(xs.map bv++sp).drop (1+((xs.take i).map bv).length))=(xs.take 1++(xs.take i++xs.drop (i+1))).map bv++sp:=by
   rw[hcl,List.take_append_of_le_length (by simp;omega),List.drop_append_of_le_length (by simp;omega)];simp[Nat.add_comm]
  rw[e] at H2;exact H2
theorem r_csb {t e d:TypeId} [hr:Bytes P t e d] (H:Holds w L){s:List UInt8}{K:KT}(h:∀ v w',Same w w'->Holds w' (SM e v s::L)->K v w'):Cw P d t (.string ⟨s.toArray⟩) w K:=by
 have hrun:=run_bytes_of_string (P:=P) w d t e ⟨s.toArray⟩ hr.str hr.und hr.el;refine⟨_,_,hrun,h _ _ ((Same.drew w).trans (.alloc _ _)) ?_⟩;have hcap:=grownCap_ge w (⟨s.toArray⟩:ByteArray).size 0 e
 have hsz:(⟨s.toArray⟩:ByteArray).size=s.length:=by show s.toArray.size=_;simp
 rw[hsz] at hcap ⊢;generalize grownCap w s.length 0 e=cap at hcap ⊢
 have hb:bytesRow ⟨s.toArray⟩ cap=(s.map bv++List.replicate (cap - s.length) (Value.int .u8 0)).toArray:=by
  unfold bytesRow;rw[hsz];apply Array.ext';simp
 have H2:=(H.same (w':=w.drew) rfl).alloc (.cells (bytesRow ⟨s.toArray⟩ cap) e ((bytesRow ⟨s.toArray⟩ cap).size,(bytesRow ⟨s.toArray⟩ cap).size+1));refine Holds.imp H2 λg hg=>⟨w.heap.size,List.replicate (cap - s.length) (Value.int .u8 0),?_,?_⟩
 ·rw[gP,show s.length+(cap - s.length)=cap by omega]
 ·unfold mk;rw[hb] at hg
  have e1:(s.map bv++List.replicate (cap - s.length) (Value.int .u8 0)).toArray.size=(s.map bv++List.replicate (cap - s.length) (Value.int .u8 0)).length:=by simp
  rw[e1] at hg;exact hg
end Go.Vc
namespace Go.Proofs.YtgaiocpkjaaphaaGreatDoor
open Go Go.Vc Go.Proofs.Tryz
attribute [local irreducible] Vc.Nc Vc.Ld Vc.LdA Vc.St Vc.StA Vc.Fo Vc.Iaa Vc.Ias Vc.Ixs Vc.Ixa Vc.Fd Vc.FdA Vc.Bp Vc.Bb Vc.Bn Vc.Up Vc.Ci Vc.Lns Vc.Lnl Vc.Ex Vc.Sst Vc.Ssl Vc.New Vc.Vif Vc.VJoin Vc.VLoop Vc.KE Vc.Dr Vc.Rk Vc.Cl Vc.Cx Vc.Inv Vc.Be Vc.Cv Vc.Cw Vc.Mf Vc.Sl Vc.Lk Vc.Bd Vc.Bs Vc.Ms Vc.Mm Vc.Mu Vc.Me Vc.Es Vc.Rg Vc.Nx Vc.Ta Vc.Ap Vc.Usd Vc.Ust Vc.Cp Vc.Ln Vc.Bc Vc.Bmin Vc.Bmax Vc.Bdel Vc.Bclr Vc.Pk
instance rowC:Row prog 157 159 (.pointer none):=⟨by kernel_rfl,⟨t159,by kernel_rfl,by kernel_rfl,by decide,by kernel_rfl⟩,rfl⟩
namespace C14
open Go.M01 Go.Mb Go.Mp Go.M10 Go.Mc Rb
variable {w:World}{L:List HProp}{K:KT}{b r:Nat}{B:List UInt8}{d at_ n:Nat}{c:CS}
abbrev tCd:Nat:=296
abbrev tCP:Nat:=159
def CodesS (bs:List Nat) (cs:List (List Nat)):HProp:=Sat ((bs.zip cs).map λx=>C10.CodeR x.1 x.2)
theorem Znj {bs:List Nat}{cs:List (List Nat)}{i:Nat}{l:List Nat}(hb:bs[i]?=some b) (hc:cs[i]?=some l):∃ A,(∀ h,Sat (CodesS bs cs::L) h->Sat (C10.CodeR b l::A) h)/\∀ h,Sat (C10.CodeR b l::A) h->Sat (CodesS bs cs::L) h:=by
 have hz:((bs.zip cs).map λx=>C10.CodeR x.1 x.2)[i]?=some (C10.CodeR b l):=by
  rw[hV_,(List.getElem?_zip_eq_some (z:=(b,l))).2 ⟨hb,hc⟩];rfl
 have hlt:i < ((bs.zip cs).map λx=>C10.CodeR x.1 x.2).length:=(gH.1 hz).1
 have hz2:(((bs.zip cs).map λx=>C10.CodeR x.1 x.2)++L)[i]?=some (C10.CodeR b l):=by rw[gM hlt];exact hz
 refine⟨(((bs.zip cs).map λx=>C10.CodeR x.1 x.2)++L).eraseIdx i,λh H=>Sat.pull i (Sat.unpack H) hz2,λh H=>?_⟩;have:=Sat.push i hz2 H
 have e:(((bs.zip cs).map λx=>C10.CodeR x.1 x.2)++L).set i (C10.CodeR b l)=((bs.zip cs).map λx=>C10.CodeR x.1 x.2)++L:=by
  have hl:i < (((bs.zip cs).map λx=>C10.CodeR x.1 x.2)++L).length:=(gH.1 hz2).1;have e1:(((bs.zip cs).map λx=>C10.CodeR x.1 x.2)++L)[i]=_:=(gH.1 hz2).2;rw[<-e1,List.set_getElem_self]
 rw[e] at this;exact Sat.pack this
theorem Zmv {bs:List Nat}{cs:List (List Nat)}{l:List Nat}(hl:bs.length=cs.length) (H:Holds w (C10.CodeR b l::CodesS bs cs::L)):Holds w (CodesS (bs++[b]) (cs++[l])::L):=by
 have H2:=Holds.unpack (A:=(bs.zip cs).map λx=>C10.CodeR x.1 x.2) H.swap;unfold CodesS;rw[List.zip_append hl,map_append];refine Holds.pack ?_;rw[gI];exact H2
def took (c:CS):List Nat:=if c.picks.done=true then c.picks.picks else []
def cdL (b:Nat) (c:CS) (pb db:Nat) (tv cv:Value) (bs:List Nat):List HProp:=
 [blk b tCd [nv c.size,pt pb,tv,pt db,cv,nv c.count,.bool c.done,iv 0],P13.PkR pb c.picks,SL nv tI tv (took c),D11.DlR db c.lens,SL pt tCP cv bs,CodesS bs c.codes]
def CdR (b:Nat) (c:CS):HProp:=λh=>c.Ok/\∃ pb db tv cv bs,bs.length=c.codes.length/\Sat (cdL b c pb db tv cv bs) h
theorem Zeo (H:Holds w (CdR b c::L)):c.Ok/\∃ pb db tv cv bs,bs.length=c.codes.length/\Holds w (cdL b c pb db tv cv bs++L):=by
 obtain⟨h,H⟩:=Holds.pure H;obtain⟨pb,H⟩:=Holds.ex H;obtain⟨db,H⟩:=Holds.ex H;obtain⟨tv,H⟩:=Holds.ex H;obtain⟨cv,H⟩:=Holds.ex H;obtain⟨bs,H⟩:=Holds.ex H;obtain⟨hb,H⟩:=Holds.pure H;exact⟨h,pb,db,tv,cv,bs,hb,Holds.unpack H⟩
theorem Zb5 {pb db:Nat}{tv cv:Value}{bs:List Nat}(h:c.Ok) (hb:bs.length=c.codes.length) (H:Holds w (cdL b c pb db tv cv bs++L)):Holds w (CdR b c::L):=
 Holds.imp (Holds.pack H) λ_ hh=>⟨h,pb,db,tv,cv,bs,hb,hh⟩
def AfterC (x:Res (CS × Option Nat)) (b:Nat) (c:CS) (r:Nat) (B:List UInt8) (d at_:Nat) (L:List HProp) (zero:Value) (v:Value) (w:World):Prop:=
 match x with
 |.short=>v=.tuple #[zero,iv 3]/\Holds w (CdR b c::RdR r B d at_::L)
 |.bad e=>v=.tuple #[zero,iv e]/\∃ q v1 v2 v3 v4 v5 v6 v7,Holds w (blk b tCd [v1,v2,v3,v4,v5,v6,v7,iv 0]::RdR r B d q::L)
 |.ok (s,o) n=>v=.tuple #[match o with|none=>iv (-1)|some s=>nv s,iv 0]/\Holds w (CdR b s::RdR r B d (at_+n)::L)
theorem NewReader_spec (H:Holds w L) (h1:3<=n) (h2:n<=258) (k:∀ b w',Same w w'->Holds w' (CdR b (c0 n)::L)->K (.tuple #[pt b,iv 0]) w'):Cl prog 241 #[nv n] w K:=by
 refine Tz241 ?_;unfold Vz241;refine D11.NewReader_spec H h1 h2 λdb w1 S1 H1=>?_
 repeat (first|refine r_neq ?_|(with_reducible first|refine Za4 ?_|refine Za3 ?_)|((with_reducible refine r_vfN ?h ?_);(case h=>omega)))
 refine P13.NewReader_spec H1 λpb w2 S2 H2=>?_;refine r_bd (v:=.agg #[nv n,pt pb,.slice none 0 0,pt db,.slice none 0 0,nv 0,.bool false,iv 0]) (by kernel_rfl) ?_;refine r_new H2 λb w3 S3 H3=>?_;refine k b _ ((S1.trans S2).trans S3) (Zb5 (pb:=pb) (db:=db) (tv:=.slice none 0 0) (cv:=.slice none 0 0) (bs:=[]) (c0_ok h1 h2) rfl ?_);replace H3:Holds w3 (blk b tCd [nv n,pt pb,.slice none 0 0,pt db,.slice none 0 0,nv 0,.bool false,iv 0]::P13.PkR pb p0::D11.DlR db (d0 n)::L):=H3;have H4:=(H3.nilSL nv tI);have H5:=H4.nilSL pt tCP;have H6:Holds w3 (Sat []::SL pt tCP (.slice none 0 0) []::SL nv tI (.slice none 0 0) []::blk b tCd [nv n,pt pb,.slice none 0 0,pt db,.slice none 0 0,nv 0,.bool false,iv 0]::P13.PkR pb p0::D11.DlR db (d0 n)::L):=Holds.pack (A:=[]) H5;exact (by have h_:=Holds.ord 6 [3,4,2,5,1,0] H6 rfl;exact h_)
theorem Done_spec (H:Holds w (CdR b c::L)) (k:K (.bool c.done) w):Cl prog 215 #[pt b] w K:=by
 refine Tz215 ?_;unfold Vz215;obtain⟨hc,pb,db,tv,cv,bs,hb,H⟩:=Zeo H
 repeat (first|refine r_nc ?_|refine r_fo0 ?_|(with_reducible first|refine Zc4 ?_|refine r_vt ?_)|refine r_ld 0 H rfl rfl ?_)
 exact k
theorem pick_spec (H:Holds w (CdR b c::RdR r B d at_::L)) (hp:c.picks.done=false) (post:∀ v w',Same w w'->AfterC (cstep c (rest B at_)) b c r B d at_ L (iv (-1)) v w'->K v w') :
  Cl prog 245 #[pt b,pt r] w K:=by
 refine Tz245 ?_;unfold Vz245;obtain⟨hc,pb,db,tv,cv,bs,hb,H⟩:=Zeo H;have hok:=λc' o k (h:cstep c (rest B at_)=.ok (c',o) k)=>(Zdr h hc).1
 have e0:cstep c (rest B at_)=withPicks c (pstep c.picks (rest B at_)):=by unfold cstep;rw[if_pos hp]
 rw[e0] at post hok;unfold cdL at H
 repeat (first|refine r_nc ?_|refine r_fo0 ?_|refine r_ld 0 H rfl rfl ?_)
 have H1:Holds w (P13.PkR pb c.picks::RdR r B d at_::blk b tCd [nv c.size,pt pb,tv,pt db,cv,nv c.count,.bool c.done,iv 0]::SL nv tI tv (took c)::D11.DlR db c.lens::SL pt tCP cv bs::CodesS bs c.codes::L):=(Holds.front H 6 rfl).front 2 rfl;clear H;refine P13.Step_spec H1 hp λe w2 S2 hA=>?_
 cases hx:pstep c.picks (rest B at_) with
 |short=>
  rw[hx] at hA post;obtain⟨rfl,H⟩:=hA
  repeat (first|refine r_ld 2 H rfl rfl ?_|refine r_nc ?_|refine r_fo0 ?_)
  refine P13.Done_spec H λw3 S3 H3=>?_;rw[hp];refine r_vf ?_;exact post _ _ (S2.trans S3) ⟨rfl,Zb5 (pb:=pb) (db:=db) (tv:=tv) (cv:=cv) hc hb (by have h_:=Holds.ord 7 [2,0,3,4,5,6,1] H3 rfl;exact h_)⟩
 |bad c0=>
  rw[hx] at hA post;obtain⟨rfl,q,H⟩:=hA
  repeat (first|refine r_ld 2 H rfl rfl ?_|refine r_nc ?_|refine r_fo0 ?_)
  refine P13.Ztc H hp λw3 S3 H3=>?_;refine r_vf ?_;exact post _ _ (S2.trans S3) ⟨rfl,q,_,_,_,_,_,_,_,(by have h_:=Holds.ord 7 [2,1] H3 rfl;exact h_)⟩
 |ok p k=>
  rw[hx] at hA post hok;obtain⟨rfl,H⟩:=hA;have hc':=hok _ _ _ rfl
  repeat (first|refine r_ld 2 H rfl rfl ?_|refine r_nc ?_|refine r_fo0 ?_)
  refine P13.Done_spec H λw3 S3 H3=>?_;have S:=S2.trans S3;clear H S2 S3;have H:=H3;clear H3
  cases hd:p.done with
  |false=>
   refine r_vf ?_;refine post _ _ S ⟨rfl,Zb5 (pb:=pb) (db:=db) (tv:=tv) (cv:=cv) (bs:=bs) hc' hb ?_⟩
   have et:took ⟨c.size,p,c.lens,c.codes,c.count,c.done⟩=took c:=by unfold took;rw[hp,hd];rfl
   unfold cdL;rw[et];exact (by have h_:=Holds.ord 7 [2,0,3,4,5,6,1] H rfl;exact h_)
  |true=>
   refine r_vt ?_
   repeat (first|refine r_ld 2 H rfl rfl ?_|refine r_nc ?_|refine r_fo0 ?_)
   refine P13.Zss H λv w3 S3 H3=>?_
   repeat (first|refine r_nc ?_|refine r_fo0 ?_)
   refine r_st 3 H3 rfl (by simp) (SL_sg H3 0 rfl) λw4 S4 H4=>?_;replace H4:Holds w4 (SL nv tI v p.picks::P13.PkR pb p::RdR r B d (at_+k)::blk b tCd [nv c.size,pt pb,v,pt db,cv,nv c.count,.bool c.done,iv 0]::SL nv tI tv (took c)::D11.DlR db c.lens::SL pt tCP cv bs::CodesS bs c.codes::L):=H4;refine post _ _ ((S.trans S3).trans S4) ⟨rfl,Zb5 (pb:=pb) (db:=db) (tv:=v) (cv:=cv) (bs:=bs) hc' hb ?_⟩
   have et:took ⟨c.size,p,c.lens,c.codes,c.count,c.done⟩=p.picks:=by unfold took;rw[hd];rfl
   unfold cdL;rw[et];exact (by have h_:=Holds.ord 8 [3,1,0,5,6,7,2] H4 rfl;exact h_)
theorem Zso (H:Holds w (CdR b c::RdR r B d at_::L)) (hp:c.picks.done=true) (hl:c.codes.length < c.picks.t) (post:∀ v w',Same w w'->AfterC (cstep c (rest B at_)) b c r B d at_ L (iv (-1)) v w'->K v w') :
  Cl prog 247 #[pt b,pt r] w K:=by
 refine Tz247 ?_;unfold Vz247;obtain⟨hc,pb,db,tv,cv,bs,hb,H⟩:=Zeo H;have hok:=λc' o k (h:cstep c (rest B at_)=.ok (c',o) k)=>(Zdr h hc).1
 have e0:cstep c (rest B at_)=withLens c (dstep c.lens (rest B at_)):=by unfold cstep;rw[if_neg (by rw[hp];decide),if_pos hl]
 rw[e0] at post hok;unfold cdL at H
 repeat (first|refine r_nc ?_|refine r_fo0 ?_|refine r_ld 0 H rfl rfl ?_)
 have H1:Holds w (D11.DlR db c.lens::RdR r B d at_::blk b tCd [nv c.size,pt pb,tv,pt db,cv,nv c.count,.bool c.done,iv 0]::P13.PkR pb c.picks::SL nv tI tv (took c)::SL pt tCP cv bs::CodesS bs c.codes::L):=(by have h_:=Holds.ord 7 [3,6,0,1,2,4,5] H rfl;exact h_);clear H;refine D11.Step_spec H1 hc.dd λe w2 S2 hA=>?_;clear H1
 cases hx:dstep c.lens (rest B at_) with
 |short=>
  rw[hx] at hA post;obtain⟨rfl,H⟩:=hA;refine Za2 (λx w'=>w2=w'/\x=.bool true) ?_ ?_
  ·rintro _ _ _ ⟨rfl,rfl⟩;refine r_vt ?_;exact post _ _ S2 ⟨rfl,Zb5 (pb:=pb) (db:=db) (tv:=tv) (cv:=cv) hc hb (by have h_:=Holds.ord 7 [2,3,4,0,5,6,1] H rfl;exact h_)⟩
  ·repeat (first|refine r_ke ?_|refine r_neq ?_|((with_reducible refine r_vtN ?h ?_);(case h=>omega)))
   exact⟨rfl,rfl⟩
 |bad c0=>
  have h22:=Zj3 hx;subst h22;rw[hx] at hA post;obtain⟨rfl,q,H⟩:=hA;refine Za2 (λx w'=>w2=w'/\x=.bool true) ?_ ?_
  ·rintro _ _ _ ⟨rfl,rfl⟩;refine r_vt ?_;exact post _ _ S2 ⟨rfl,q,_,_,_,_,_,_,_,(by have h_:=Holds.ord 6 [1,0] H rfl;exact h_)⟩
  ·repeat (first|refine r_ke ?_|refine r_neq ?_|((with_reducible refine r_vtN ?h ?_);(case h=>omega)))
   exact⟨rfl,rfl⟩
 |ok d' k=>
  have hdo:=Zfi hx hc.dl hc.dd;rw[hx] at hA post hok;obtain⟨rfl,H⟩:=hA;simp only[withLens] at post hok;refine Za2 (λx w'=>x=.bool (!d'.done)/\Same w w'/\Holds w' (D11.DlR db d'::RdR r B d (at_+k)::blk b tCd [nv c.size,pt pb,tv,pt db,cv,nv c.count,.bool c.done,iv 0]::P13.PkR pb c.picks::SL nv tI tv (took c)::SL pt tCP cv bs::CodesS bs c.codes::L)) ?_ ?_
  ·clear H S2;rintro _ _ w3 ⟨rfl,S,H⟩
   cases hd:d'.done with
   |false=>
    rw[hd] at post hok;simp only[Bool.false_eq_true,if_false] at post hok;refine r_vt ?_;exact post _ _ S ⟨rfl,Zb5 (pb:=pb) (db:=db) (tv:=tv) (cv:=cv) (hok _ _ _ rfl) hb (by have h_:=Holds.ord 7 [2,3,4,0,5,6,1] H rfl;exact h_)⟩
   |true=>
    rw[hd] at post hok;simp only[if_true] at post hok;refine r_vf ?_
    repeat (first|refine r_nc ?_|refine r_fo0 ?_|refine r_ld 2 H rfl rfl ?_)
    refine D11.Zuh H λv w4 S4 H4=>?_;replace S:=S.trans S4;clear H;have H:=H4;clear H4 S4;have hdn:=hd;unfold DS.done at hdn;rw[decide_eq_true_iff] at hdn;have hds:=(D11.Zcs (H.swap)).1.2
    have hsz:d'.size=c.size:=by
     rw[<-hc.ds];unfold dstep turn at hx
     repeat' split at hx
     all_goals first
      |(cases hx;rfl)
      |cases hx
    have h3:=hc.s1;have h258:=hc.s2;refine C10.New_spec (j:=0) H rfl (by omega) (by omega) (λx hx=>hdo.all x hx) (λhne w5 S5 H5=>?_) λhW b2 w5 S5 H5=>?_
    ·rw[if_neg hne] at post
     repeat (first|refine r_neq ?_|(with_reducible first|refine Za4 ?_|refine Za3 ?_)|((with_reducible refine r_vtN ?h ?_);(case h=>omega)))
     exact post _ _ (S.trans S5) ⟨rfl,_,_,_,_,_,_,_,_,(by have h_:=Holds.ord 8 [3,2] H5 rfl;exact h_)⟩
    ·rw[if_pos hW.share] at post hok;replace S:=S.trans S5;clear H;have H:=H5;clear H5 S5
     repeat (first|refine r_ld 4 H rfl rfl ?_|refine r_nc ?_|refine r_fo0 ?_|refine r_neq ?_|(with_reducible first|refine Za4 ?_|refine Za3 ?_)|((with_reducible refine r_vfN ?h ?_);(case h=>omega)))
     have hcl:=hc.cl;have htb:=hc.pk.tbl
     have hbl:bs.length<=6:=by
      rcases Nat.eq_zero_or_pos c.picks.count with h0|h0
      ·have:=(hc.pk.new h0).1;omega
      ·have:=htb h0;omega
     refine Zam H 7 rfl b2 (λ_=>rfl) (by omega) λv' w6 S6 H6=>?_;replace H6:Holds w6 (C10.CodeR b2 d'.lens::SL nv tI v d'.lens::D11.DlR db d'::RdR r B d (at_+k)::blk b tCd [nv c.size,pt pb,tv,pt db,cv,nv c.count,.bool c.done,iv 0]::P13.PkR pb c.picks::SL nv tI tv (took c)::SL pt tCP v' (bs++[b2])::CodesS bs c.codes::L):=H6;replace S:=S.trans S6;clear H;have H:=H6;clear H6 S6
     repeat (first|refine r_nc ?_|refine r_fo0 ?_)
     refine r_st 4 H rfl (by simp) (SL_sg H 7 rfl) λw6 S6 H6=>?_;replace H6:Holds w6 (C10.CodeR b2 d'.lens::SL nv tI v d'.lens::D11.DlR db d'::RdR r B d (at_+k)::blk b tCd [nv c.size,pt pb,tv,pt db,v',nv c.count,.bool c.done,iv 0]::P13.PkR pb c.picks::SL nv tI tv (took c)::SL pt tCP v' (bs++[b2])::CodesS bs c.codes::L):=H6;replace S:=S.trans S6;clear H;have H:=H6;clear H6 S6
     repeat (first|refine r_ld 4 H rfl rfl ?_|refine r_nc ?_|refine r_fo0 ?_)
     refine D11.NewReader_spec H (by omega) (by omega) λdb2 w6 S6 H6=>?_;replace S:=S.trans S6;clear H;have H:=H6;clear H6 S6
     repeat (first|refine r_nc ?_|refine r_fo0 ?_|(with_reducible first|refine Za4 ?_|refine Za3 ?_))
     refine r_st 5 H rfl (by simp) rfl λw6 S6 H6=>?_;replace H6:Holds w6 (D11.DlR db2 (d0 c.size)::C10.CodeR b2 d'.lens::SL nv tI v d'.lens::D11.DlR db d'::RdR r B d (at_+k)::blk b tCd [nv c.size,pt pb,tv,pt db2,v',nv c.count,.bool c.done,iv 0]::P13.PkR pb c.picks::SL nv tI tv (took c)::SL pt tCP v' (bs++[b2])::CodesS bs c.codes::L):=H6;replace S:=S.trans S6;clear H;have H:=H6;clear H6 S6;have H7:Holds w6 (C10.CodeR b2 d'.lens::CodesS bs c.codes::D11.DlR db2 (d0 c.size)::RdR r B d (at_+k)::blk b tCd [nv c.size,pt pb,tv,pt db2,v',nv c.count,.bool c.done,iv 0]::P13.PkR pb c.picks::SL nv tI tv (took c)::SL pt tCP v' (bs++[b2])::L):=(by have h_:=Holds.ord 10 [1,9,0,4,5,6,7,8] H rfl;exact h_);have H8:=Zmv hb H7;exact post _ _ S ⟨rfl,Zb5 (pb:=pb) (db:=db2) (tv:=tv) (cv:=v') (bs:=bs++[b2]) (hok _ _ _ rfl) (by simp[hb]) (by have h_:=Holds.ord 7 [3,4,5,1,6,0,2] H8 rfl;exact h_)⟩
  ·repeat (first|refine r_ld 2 H rfl rfl ?_|refine r_nc ?_|refine r_fo0 ?_|refine r_neq ?_|((with_reducible refine r_vfN ?h ?_);(case h=>omega)))
   refine D11.Done_spec H λw3 S3 H3=>?_
   repeat (first|refine r_ke ?_|refine r_not ?_)
   exact⟨rfl,S2.trans S3,H3⟩
theorem symbol_spec (H:Holds w (CdR b c::RdR r B d at_::L)) (hp:c.picks.done=true) (hl:¬ c.codes.length < c.picks.t) (post:∀ v w',Same w w'->AfterC (cstep c (rest B at_)) b c r B d at_ L (iv (-1)) v w'->K v w') :
  Cl prog 243 #[pt b,pt r] w K:=by
 refine Tz243 ?_;unfold Vz243;obtain⟨hc,pb,db,tv,cv,bs,hb,H⟩:=Zeo H;have hok:=λc' o k (h:cstep c (rest B at_)=.ok (c',o) k)=>(Zdr h hc).1
 have e0:cstep c (rest B at_)=if c.picks.picks.length<=c.count/50 then .bad 25 else withSymbol c (getC c.table (rest B at_)):=by unfold cstep;rw[if_neg (by rw[hp];decide),if_neg hl]
 rw[e0] at post hok;unfold cdL at H;have S:=Same.refl w;have hct:=hc.ct
 have et:took c=c.picks.picks:=by unfold took;rw[hp];rfl
 rw[et] at H
 have hq:((c.count:Nat):Int).tdiv 50=((c.count/50:Nat):Int):=by rw[Int.tdiv_eq_ediv_of_nonneg (by omega)];simp
 repeat (first|refine Zic hq (by omega) (by omega) (by omega) ?_|refine r_nc ?_|refine r_fo0 ?_|refine r_ld 0 H rfl rfl ?_)
 refine r_lnS 2 H rfl ?_
 repeat (refine r_geq ?_)
 refine r_ifD (λh=>?_) λh=>?_
 ·rw[if_pos (by omega)] at post;exact post _ _ S ⟨rfl,at_,_,_,_,_,_,_,_,(by have h_:=Holds.ord 7 [0,6] H rfl;exact h_)⟩
 ·have hg:¬ c.picks.picks.length<=c.count/50:=by omega
  rw[if_neg hg] at post hok;obtain⟨x,h1,h2,h3,h4,h5⟩:=Zq6 hc hp hl hg
  repeat (first|refine r_nc ?_|refine r_fo0 ?_|(refine r_dr H ?_;clear H;intro _ S_ H;replace S:=S.trans S_;clear S_)|refine r_ld 0 H rfl rfl ?_)
  refine Za6 2 H rfl h1 ?_;obtain⟨bx,hbx⟩:∃ bx,bs[x]?=some bx:=⟨_,gA (by omega)⟩;refine Za6 4 H rfl hbx ?_;obtain⟨A,hA1,hA2⟩:=Znj (L:=blk b tCd [nv c.size,pt pb,tv,pt db,cv,nv c.count,.bool c.done,iv 0]::P13.PkR pb c.picks::SL nv tI tv c.picks.picks::D11.DlR db c.lens::SL pt tCP cv bs::L) hbx h3;have H2:Holds _ (RdR r B d at_::CodesS bs c.codes::blk b tCd [nv c.size,pt pb,tv,pt db,cv,nv c.count,.bool c.done,iv 0]::P13.PkR pb c.picks::SL nv tI tv c.picks.picks::D11.DlR db c.lens::SL pt tCP cv bs::L):=(by have h_:=Holds.ord 7 [6,5,0,1,2,3,4] H rfl;exact h_);have H3:=Holds.swap (Zbn hA1 H2);refine C10.Get_spec H3 (λhn w3 S3 H4=>?_) λs n hs w3 S3 H4=>?_
  ·rw[hn] at post;have H5:=Zbn hA2 (Holds.swap H4);replace H5:Holds w3 (RdR r B d at_::CodesS bs c.codes::blk b tCd [nv c.size,pt pb,tv,pt db,cv,nv c.count,.bool c.done,iv 0]::P13.PkR pb c.picks::SL nv tI tv c.picks.picks::D11.DlR db c.lens::SL pt tCP cv bs::L):=H5;rw[<-et] at H5
   repeat (first|refine r_neq ?_|(with_reducible first|refine Za4 ?_|refine Za3 ?_)|((with_reducible refine r_vtN ?h ?_);(case h=>omega)))
   exact post _ _ (S.trans S3) ⟨rfl,Zb5 (pb:=pb) (db:=db) (tv:=tv) (cv:=cv) hc hb (by have h_:=Holds.ord 7 [2,3,4,5,6,1,0] H5 rfl;exact h_)⟩
  ·rw[hs] at post hok;have H5:=Zbn hA2 (Holds.swap H4);replace H5:Holds w3 (RdR r B d (at_+n)::CodesS bs c.codes::blk b tCd [nv c.size,pt pb,tv,pt db,cv,nv c.count,.bool c.done,iv 0]::P13.PkR pb c.picks::SL nv tI tv c.picks.picks::D11.DlR db c.lens::SL pt tCP cv bs::L):=H5;rw[<-et] at H5;have hsz:=hc.s1;have h258:=hc.s2;replace S:=S.trans S3;clear H H2 H3 H4;have H:=H5;clear H5
   repeat (first|refine r_ld 2 H rfl rfl ?_|refine r_nc ?_|refine r_fo0 ?_|refine r_neq ?_|(with_reducible first|refine Za4 ?_|refine Za3 ?_)|(refine Za0 (by omega) ?_)|((with_reducible refine r_vfN ?h ?_);(case h=>omega)))
   refine r_st 2 H rfl (by simp) rfl λw6 S6 H6=>?_;replace H6:Holds w6 (RdR r B d (at_+n)::CodesS bs c.codes::blk b tCd [nv c.size,pt pb,tv,pt db,cv,nv (c.count+1),.bool c.done,iv 0]::P13.PkR pb c.picks::SL nv tI tv (took c)::D11.DlR db c.lens::SL pt tCP cv bs::L):=H6;replace S:=S.trans S6;clear H;have H:=H6;clear H6 S6
   repeat (first|refine r_ld 2 H rfl rfl ?_|refine r_nc ?_|refine r_fo0 ?_|refine r_eql ?_|(refine Zaa (by omega) (by omega) ?_))
   refine r_st 2 H rfl (by simp) rfl λw6 S6 H6=>?_
   have ed:((s:Int)==((c.size - 1:Nat):Int))=decide (s=c.size - 1):=by rw[Bool.eq_iff_iff,beq_iff_eq,decide_eq_true_iff];omega
   rw[ed] at H6;replace H6:Holds w6 (RdR r B d (at_+n)::CodesS bs c.codes::blk b tCd [nv c.size,pt pb,tv,pt db,cv,nv (c.count+1),.bool (decide (s=c.size - 1)),iv 0]::P13.PkR pb c.picks::SL nv tI tv (took c)::D11.DlR db c.lens::SL pt tCP cv bs::L):=H6;exact post _ _ (S.trans S6) ⟨rfl,Zb5 (c:=⟨c.size,c.picks,c.lens,c.codes,c.count+1,decide (s=c.size - 1)⟩) (pb:=pb) (db:=db) (tv:=tv) (cv:=cv) (hok _ _ _ rfl) hb (by have h_:=Holds.ord 7 [2,3,4,5,6,1,0] H6 rfl;exact h_)⟩
def AfterCS (x:Res (CS × Option Nat)) (b:Nat) (c:CS) (r:Nat) (B:List UInt8) (d at_:Nat) (L:List HProp) (v:Value) (w:World):Prop:=
 match x with
 |.short=>v=.tuple #[iv 0,iv 3]/\Holds w (CdR b c::RdR r B d at_::L)
 |.bad e=>v=.tuple #[iv 0,iv e]/\∃ q,Holds w (RdR r B d q::L)
 |.ok (s,o) n=>v=.tuple #[match o with|none=>iv (-1)|some s=>nv s,iv 0]/\Holds w (CdR b s::RdR r B d (at_+n)::L)
theorem Step_spec (H:Holds w (CdR b c::RdR r B d at_::L)) (hd:c.done=false) (post:∀ v w',Same w w'->AfterCS (cstep c (rest B at_)) b c r B d at_ L v w'->K v w') :
  Cl prog 213 #[pt b,pt r] w K:=by
 refine Tz213 ?_;unfold Vz213
 have fin:∀ v w',Same w w'->AfterC (cstep c (rest B at_)) b c r B d at_ L (iv (-1)) v w'->Ex v 0 λx_11=>Ex v 1 λx_12=>Bp .eql x_12 (.int .i64 0) λx_13=>Vif x_13 (K (.tuple #[x_11,x_12]) w')
   (Bp .neq x_12 (.int .i64 3) λx_14=>Vif x_14 (Nc (pt b) <| Fo 7 (pt b) λx_15=>St x_15 x_12 w' λw5=>K (.tuple #[(.int .i64 0),x_12]) w5) (K (.tuple #[(.int .i64 0),x_12]) w')):=by
  intro v w' S hA
  cases hx:cstep c (rest B at_) with
  |short=>
   rw[hx] at hA post;obtain⟨rfl,H'⟩:=hA
   repeat (first|refine r_eql ?_|refine r_neq ?_|(with_reducible first|refine Za4 ?_|refine Za3 ?_)|((with_reducible refine r_vfE ?h ?_);(case h=>omega))|((with_reducible refine r_vfN ?h ?_);(case h=>omega)))
   exact post _ _ S ⟨rfl,H'⟩
  |bad e=>
   have h2:=Zjd hx;rw[hx] at hA post;obtain⟨rfl,q,v1,v2,v3,v4,v5,v6,v7,H'⟩:=hA
   repeat (first|refine r_nc ?_|refine r_fo0 ?_|refine r_eql ?_|refine r_neq ?_|(with_reducible first|refine Za4 ?_|refine Za3 ?_)|((with_reducible refine r_vfE ?h ?_);(case h=>omega))|((with_reducible refine r_vtN ?h ?_);(case h=>omega)))
   refine r_st 0 H' rfl (by simp) rfl λw5 S5 H5=>?_;rw[gJ] at H5;exact post _ _ (S.trans S5) ⟨rfl,q,H5.drop⟩
  |ok s k=>
   rw[hx] at hA post;obtain⟨s,o⟩:=s;obtain⟨rfl,H'⟩:=hA
   repeat (first|refine r_eql ?_|(with_reducible first|refine Za4 ?_|refine Za3 ?_)|((with_reducible refine r_vtE ?h ?_);(case h=>omega)))
   exact post _ _ S ⟨rfl,H'⟩
 refine Za2 (λx w'=>w=w'/\x=.bool false) ?_ ?_
 rotate_left
 ·have H0:=H;obtain⟨hc,pb,db,tv,cv,bs,hb,H0⟩:=Zeo H0
  repeat (first|refine r_ld 0 H0 rfl rfl ?_|refine r_nc ?_|refine r_fo0 ?_|refine r_ke ?_|(with_reducible first|refine Zab ?_|refine r_vf ?_))
  exact⟨rfl,by rw[hd]⟩
 rintro _ _ _ ⟨rfl,rfl⟩;have H0:=H;obtain⟨hc,pb,db,tv,cv,bs,hb,H0⟩:=Zeo H0
 repeat (first|refine r_ld 0 H0 rfl rfl ?_|refine r_nc ?_|refine r_fo0 ?_|refine r_neq ?_|(with_reducible refine r_vf ?_)|((with_reducible refine r_vfN ?h ?_);(case h=>omega)))
 refine r_mf (.func (.func 243) #[pt b] #[]) (by kernel_rfl) ?_;refine Za2 (λx w'=>Same w w'/\Holds w' (CdR b c::RdR r B d at_::L)/\((c.picks.done=false/\x=.func (.func 245) #[pt b] #[])\/(c.picks.done=true/\c.codes.length < c.picks.t/\x=.func (.func 247) #[pt b] #[])\/(c.picks.done=true/\¬ c.codes.length < c.picks.t/\x=.func (.func 243) #[pt b] #[]))) ?_ ?_
 ·clear H H0;rintro _ _ w2 ⟨S,H,⟨h1,rfl⟩|⟨h1,h2,rfl⟩|⟨h1,h2,rfl⟩⟩
  ·refine r_inv (f:=245) (args:=#[pt b,pt r]) (by kernel_rfl) ?_;exact pick_spec H h1 λv w' S' hA=>fin v w' (S.trans S') hA
  ·refine r_inv (f:=247) (args:=#[pt b,pt r]) (by kernel_rfl) ?_;exact Zso H h1 h2 λv w' S' hA=>fin v w' (S.trans S') hA
  ·refine r_inv (f:=243) (args:=#[pt b,pt r]) (by kernel_rfl) ?_;exact symbol_spec H h1 h2 λv w' S' hA=>fin v w' (S.trans S') hA
 ·clear fin post;unfold cdL at H0
  repeat (first|refine r_ld 0 H0 rfl rfl ?_|refine r_nc ?_|refine r_fo0 ?_)
  have H1:Holds w (P13.PkR pb c.picks::blk b tCd [nv c.size,pt pb,tv,pt db,cv,nv c.count,.bool c.done,iv 0]::SL nv tI tv (took c)::D11.DlR db c.lens::SL pt tCP cv bs::CodesS bs c.codes::RdR r B d at_::L):=(by have h_:=Holds.ord 7 [1,0,2,3,4,5,6] H0 rfl;exact h_);refine P13.Done_spec H1 λw2 S2 H2=>?_
  have fin2:∀ w',Holds w' (P13.PkR pb c.picks::blk b tCd [nv c.size,pt pb,tv,pt db,cv,nv c.count,.bool c.done,iv 0]::SL nv tI tv (took c)::D11.DlR db c.lens::SL pt tCP cv bs::CodesS bs c.codes::RdR r B d at_::L)->Holds w' (CdR b c::RdR r B d at_::L):=λw' H'=>
   Zb5 (pb:=pb) (db:=db) (tv:=tv) (cv:=cv) hc hb (by have h_:=Holds.ord 7 [1,0,2,3,4,5,6] H' rfl;exact h_)
  cases hp:c.picks.done with
  |false=>
   refine Zbo (r_vt ?_);refine r_mf (.func (.func 245) #[pt b] #[]) (by kernel_rfl) ?_
   repeat (refine r_ke ?_)
   exact⟨S2,fin2 _ H2,.inl ⟨rfl,rfl⟩⟩
  |true=>
   refine Zak (r_vf ?_);have S:=S2;have H:=H2;clear H2 S2
   repeat (first|refine r_ld 1 H rfl rfl ?_|refine r_nc ?_|refine r_fo0 ?_|(refine r_dr H ?_;clear H;intro _ S_ H;replace S:=S.trans S_;clear S_))
   rename_i w3;refine r_lnS 4 H rfl ?_
   repeat (first|refine r_ld 1 H rfl rfl ?_|refine r_nc ?_|refine r_fo0 ?_)
   refine P13.Zpv H ?_;refine r_rk (r_lnS 4 H rfl rfl) ?_;refine r_rk (r_ld 1 H rfl rfl rfl) ?_
   repeat (refine r_lss ?_)
   rw[hb];refine r_ifD (λh=>?_) λh=>?_
   ·refine r_mf (.func (.func 247) #[pt b] #[]) (by kernel_rfl) ?_
    repeat (refine r_ke ?_)
    exact⟨S,fin2 _ H,.inr (.inl ⟨rfl,by omega,rfl⟩)⟩
   ·repeat (refine r_ke ?_)
    exact⟨S,fin2 _ H,.inr (.inr ⟨rfl,by omega,rfl⟩)⟩
end C14
namespace P35
open Go.Mh
variable {w:World}{L:List HProp}{K:KT}
section
variable {α:Type}{P:Program}
theorem Zf1 (i:Nat) (H:Holds w L){F:α->List Value}{k:Nat}{e:TypeId}{v:Value}{xs:List α}{q:Nat}{kk:IntKind}{x:α}{K:Value->Prop}
  (hi:L[i]?=some (RW F k e v xs)) (hx:xs[q]?=some x) (hF:∀ y,(F y).length=k) (h:K (.agg (F x).toArray)):Ias k v (.int kk (q:Int)) λy=>LdA k y w K:=by
 obtain⟨oa,m,sp,rfl,H1⟩:=H.openRW i hi;exact r_ldN i H1 (Za5 hi) hx hF (gH.1 hx).1 h
theorem r_lnN (i:Nat) (H:Holds w L){F:α->List Value}{k:Nat}{e:TypeId}{v:Value}{xs:List α}{K:Value->Prop}(hi:L[i]?=some (RW F k e v xs)) (h:K (nv xs.length)):Lnl v K:=by
 obtain⟨oa,m,sp,rfl,_⟩:=H.openRW i hi;exact r_lnl h
end
abbrev tTe:Nat:=285
instance:RowN prog 283 tTe 3:=⟨by kernel_rfl,⟨t285,.agg #[iv 0,iv 0,.slice none 0 0],by kernel_rfl,by kernel_rfl,by decide,by kernel_rfl,by kernel_rfl⟩⟩
structure Tr where
 wt:Nat
 no:Nat
 b:Nat
 c:Nat
 ls:List Nat
def lsV (x:Tr):Value:=.slice (some ⟨x.b,0,none⟩) x.ls.length x.c
def Ft (x:Tr):List Value:=[nv x.wt,nv x.no,lsV x]
theorem Ft_sg:∀ y:Tr,∀ u∈Ft y,sg u=true:=by
 intro y u hu;unfold Ft at hu;rcases mem_cons.1 hu with rfl|hu
 ·rfl
 rcases mem_cons.1 hu with rfl|hu
 ·rfl
 rw[mem_singleton.1 hu];rfl
def Less (x y:Tr):Prop:=x.wt < y.wt\/(x.wt=y.wt/\x.no < y.no)
instance (x y:Tr):Decidable (Less x y):=inferInstanceAs (Decidable (_\/_))
theorem Zxo {x y:Tr}(H:Holds w L) (k:∀ w',Same w w'->Holds w' L->K (.bool (decide (Less x y))) w'):Cl prog 256 #[.agg (Ft x).toArray,.agg (Ft y).toArray] w K:=by
 refine Tz256 ?_;unfold Vz256;refine r_new H λab w1 S1 H1=>?_;replace H1:Holds w1 (blk ab tTe (Ft x)::L):=H1;refine r_new H1 λbb w2 S2 H2=>?_;replace H2:Holds w2 (blk bb tTe (Ft y)::blk ab tTe (Ft x)::L):=H2;refine r_fo0 (r_ld 1 H2 rfl rfl (r_fo0 (r_ld 0 H2 rfl rfl ?_)))
 have fin:∀ c:Bool,c=decide (Less x y)->K (.bool c) w2:=λc e=>by rw[e];exact k w2 (S1.trans S2) H2.drop.drop
 refine r_lss (r_ifD (λh=>?_) λh=>?_)
 ·exact fin true (decide_eq_true (.inl (by omega))).symm
 refine r_fo0 (r_ld 1 H2 rfl rfl (r_fo0 (r_ld 0 H2 rfl rfl ?_)));refine r_eql (r_ifE (λh2=>?_) λh2=>?_)
 ·refine r_fo0 (r_ld 1 H2 rfl rfl (r_fo0 (r_ld 0 H2 rfl rfl ?_)));refine r_lss (fin _ ?_);exact decide_eq_decide.2 (by unfold Less;omega)
 ·exact fin false (decide_eq_false (by unfold Less;omega)).symm
theorem Zm4:(zeroP prog tTe).cells.toList=[iv 0,iv 0,.slice none 0 0]:=by kernel_rfl
theorem least_spec {ts:List Tr}{v:Value}{i:Nat}(H:Holds w L) (hi:L[i]?=some (RW Ft 3 tTe v ts)) (hne:ts≠[]) (hl:ts.length<=1000000)
  (k:∀ a x w',ts[a]?=some x->(∀ y∈ts,¬ Less y x)->Same w w'->Holds w' L->K (nv a) w'):Cl prog 237 #[v] w K:=by
 refine Tz237 ?_;unfold Vz237;have h0:=gZ.2 hne;refine r_lnN i H hi ?_
 refine Za7 (λp q w'=>∃ (a n:Nat) (x:Tr),p=nv a/\q=nv n/\n<=ts.length/\ts[a]?=some x/\(∀ y∈ts.take n,¬ Less y x)/\Same w w'/\Holds w' L) (λ_ q _=>ts.length - (intOf q).toNat)
  ⟨0,0,ts[0],rfl,rfl,hE _,gA h0,by simp,.refl _,H⟩ ?_
 clear H;rintro _ _ _ w1 ⟨a,n,x,rfl,rfl,hn,hx,hm,S1,H1⟩;refine r_lss (r_ifD (λh=>?_) λh=>?_)
 rotate_left
 ·rw[gK (by omega)] at hm;exact k a x w1 hx hm S1 H1
 have hlt:n < ts.length:=by omega
 have ht:ts.take (n+1)=ts.take n++[ts[n]]:=by rw[gO,gA hlt];rfl
 have htn:ts[n]?=some ts[n]:=gA hlt;generalize ts[n]=t at *;refine Zf1 i H1 hi htn (λ_=>rfl) ?_;refine r_new H1 λtb w2 S2 H2=>?_;rw[Zm4] at H2;refine r_stA 0 H2 (vs:=Ft t) rfl (Nat.le_refl 3) rfl rfl λw3 S3 H3=>?_;replace H3:Holds w3 (blk tb tTe (Ft t)::L):=H3;refine r_dr H3 λw4 S4 H4=>?_;refine r_ldA 0 H4 (Ft t) rfl rfl rfl ?_;refine Zf1 (i+1) H4 (by rw[gF];exact hi) hx (λ_=>rfl) ?_;refine Zxo H4 λw5 S5 H5=>?_;have S6:=S1.trans (S2.trans (S3.trans (S4.trans S5)));refine r_ifD (λhL=>?_) λhL=>?_
 ·refine Za0 (by omega) (r_ke ⟨⟨n,n+1,t,rfl,rfl,by omega,htn,λy hy=>?_,S6,H5.drop⟩,?_⟩)
  ·rw[ht] at hy;rcases hT_.1 hy with hy|hy
   ·have:=hm y hy;unfold Less at *;omega
   ·rw[mem_singleton.1 hy];unfold Less;omega
  ·simp only[nv,intOf,gC];omega
 ·refine Za0 (by omega) (r_ke ⟨⟨a,n+1,x,rfl,rfl,by omega,hx,λy hy=>?_,S6,H5.drop⟩,?_⟩)
  ·rw[ht] at hy;rcases hT_.1 hy with hy|hy
   ·exact hm y hy
   ·rw[mem_singleton.1 hy];exact hL
  ·simp only[nv,intOf,gC];omega
theorem Zh7 {ts:List Tr}{v:Value}{i a:Nat}(H:Holds w L) (hi:L[i]?=some (RW Ft 3 tTe v ts)) (ha:a < ts.length) (hl:ts.length<=1000000)
  (k:∀ v' w',Same w w'->Holds w' (RW Ft 3 tTe v' (ts.eraseIdx a)::L)->K v' w'):Cl prog 238 #[v,nv a] w K:=by
 refine Tz238 ?_;unfold Vz238;refine r_lnN i H hi ?_
 refine Za7 (λp q w'=>∃ n:Nat,q=nv n/\n<=ts.length/\Same w w'/\Holds w' (RW Ft 3 tTe p ((ts.take n).eraseIdx a)::L)) (λ_ q _=>ts.length - (intOf q).toNat)
  ⟨0,rfl,hE _,.refl _,by simpa using H.nilRW Ft 3 tTe⟩ ?_
 clear H;rintro _ p _ w1 ⟨n,rfl,hn,S1,H1⟩;refine r_lss (r_ifD (λh=>?_) λh=>?_)
 rotate_left
 ·rw[gK (by omega)] at H1;exact k p w1 S1 H1
 have hlt:n < ts.length:=by omega
 have ht:ts.take (n+1)=ts.take n++[ts[n]]:=by rw[gO,gA hlt];rfl
 have htn:ts[n]?=some ts[n]:=gA hlt
 have htl:(ts.take n).length=n:=by rw[gN];omega
 generalize ts[n]=t at *;refine Zf1 (i+1) H1 (by rw[gF];exact hi) htn (λ_=>rfl) ?_;refine r_new H1 λtb w2 S2 H2=>?_;rw[Zm4] at H2;refine r_stA 0 H2 (vs:=Ft t) rfl (Nat.le_refl 3) rfl rfl λw3 S3 H3=>?_;replace H3:Holds w3 (blk tb tTe (Ft t)::RW Ft 3 tTe p ((ts.take n).eraseIdx a)::L):=H3;refine r_neq (r_ifN (λhne=>?_) λhe=>?_)
 ·refine r_ldA 0 H3 (Ft t) rfl rfl rfl ?_;refine Zfd H3 1 t rfl (by kernel_rfl) (λy=>rfl) Ft_sg (by have:=List.length_eraseIdx_le (ts.take n) a;omega) (by decide) λv' w4 S4 H4=>?_;replace H4:Holds w4 (blk tb tTe (Ft t)::RW Ft 3 tTe v' ((ts.take n).eraseIdx a++[t])::L):=H4;refine Za0 (by omega) (r_ke ⟨⟨n+1,rfl,by omega,S1.trans (S2.trans (S3.trans S4)),?_⟩,?_⟩)
  ·have e:(ts.take (n+1)).eraseIdx a=(ts.take n).eraseIdx a++[t]:=by
    rw[ht];rcases hU_ a n with q|q
    ·rw[List.eraseIdx_append_of_lt_length (by omega)]
    ·rw[List.eraseIdx_of_length_le (by rw[gD,gQ];omega),List.eraseIdx_of_length_le (by omega)]
   rw[e];exact H4.drop
  ·simp only[nv,intOf,gC];omega
 ·obtain rfl:n=a:=by omega
  refine Za0 (by omega) (r_ke ⟨⟨n+1,rfl,by omega,S1.trans (S2.trans S3),?_⟩,?_⟩)
  ·have e:(ts.take (n+1)).eraseIdx n=(ts.take n).eraseIdx n:=by
    rw[ht,List.eraseIdx_append_of_length_le (by omega),htl,Nat.sub_self,List.eraseIdx_of_length_le (l:=ts.take n) (by omega)];simp
   rw[e];exact H3.drop
  ·simp only[nv,intOf,gC];omega
def own (x:Tr):HProp:=SL nv tI (lsV x) x.ls
def nl (x:Tr):Nat × List Nat:=(x.no,x.ls)
theorem Ybe {bag:List Tr}{x:Tr}(h:x∈bag):∃ q:Nat,(bag.map own++L)[q]?=some (own x):=by
 obtain⟨q,hq,rfl⟩:=getElem_of_mem h;exact⟨q,by rw[gM (by rw[hS_];exact hq),hV_,gA hq];rfl⟩
theorem Zwm {α:Type}{l:List α}{a:Nat}{x:α}(h:l[a]?=some x):l.Perm (x::l.eraseIdx a):=by
 obtain⟨h1,h2⟩:=gH.1 h;subst h2
 have e:l=l.take a++l[a]::l.drop (a+1):=by rw[<-List.drop_eq_getElem_cons h1,hN_]
 rw[List.eraseIdx_eq_take_drop_succ];exact (List.Perm.of_eq e).trans perm_middle
theorem Zqs {X:HProp}:∀ (A:List HProp),Holds w (X::(A++L))->Holds w (X::L)
 |[],H=>H
 |Y::A,H=>Zqs A (Holds.dropAt H 1)
theorem least_of {s:HS}{l:List Tr}{x:Tr}{V:List Nat}(hV:(l.map (·.no)).Perm V) (hw:∀ t∈l,t.wt=s.W.getD t.no 0) (hx:x∈l) (hm:∀ y∈l,¬ Less y x):IsLeast s.W V x.no:=by
 refine⟨hV.mem_iff.1 (mem_map_of_mem hx),λy hy hne=>?_⟩;obtain⟨t,ht,rfl⟩:=mem_map.1 (hV.mem_iff.2 hy);rcases Yar (W:=s.W) hne with h|h
 ·refine absurd ?_ (hm t ht);unfold lt at h;unfold Less;rw[hw t ht,hw x hx];exact h
 ·exact h
theorem Zpe {W:List Nat}{v:Value}{i:Nat}(H:Holds w L) (hi:L[i]?=some (SL nv tI v W)) (h2:2<=W.length) (hW:W.length<=258) (hw:∀ x∈W,x<=1099511627776)
  (k:∀ v' out w',Depths W out->Same w w'->Holds w' (SL nv tI v' out::L)->K v' w'):Cl prog 206 #[v] w K:=by
 refine Tz206 ?_;unfold Vz206;have hT:Tot (h0 W)<=258*1099511627776:=Nat.le_trans (tot0 hw) (Nat.mul_le_mul_right _ hW);refine r_lnS i H hi (r_lnS i H hi ?_)
 refine Za7 (λp x w'=>∃ (m:Nat) (ts bag:List Tr),x=nv m/\m<=W.length/\ts.map nl=(List.range m).map (λi=>(i,[i]))/\(∀ t∈ts,t.wt=W.getD t.no 0/\t∈bag/\t.ls≠[])/\Same w w'/\Holds w' (RW Ft 3 tTe p ts::(bag.map own++L))) (λ_ x _=>W.length - (intOf x).toNat)
  ⟨0,[],[],rfl,hE _,rfl,by simp,.refl _,H.nilRW Ft 3 tTe⟩ ?_
 clear H;rintro _ p _ w1 ⟨m,ts,bag,rfl,hm,hts,htb,S1,H1⟩
 have htl:ts.length=m:=by have:=congrArg List.length hts;simpa using this
 refine r_lss (r_ifD (λh=>?_) λh=>?_)
 ·have hlt:m < W.length:=by omega
  have hg:W[m]?=some (W.getD m 0):=by rw[gB,gA hlt];rfl
  have hwi:(RW Ft 3 tTe p ts::(bag.map own++L))[bag.length+i+1]?=some (SL nv tI v W):=by
   rw[gF,gT (by rw[hS_];omega),hS_,Nat.add_sub_cancel_left];exact hi
  refine Za6 _ H1 hwi hg ?_;refine r_bs1 (e:=tI) H1 rfl λb w2 S2 H2=>?_;have H3:=Zms (f:=nv) 0 [m] H2 rfl;obtain⟨t,ht⟩:∃ t:Tr,t=⟨W.getD m 0,m,b,1,[m]⟩:=⟨_,rfl⟩
  replace H3:Holds w2 (own t::RW Ft 3 tTe p ts::(bag.map own++L)):=by rw[ht];exact H3
  refine r_bd (v:=.agg (Ft t).toArray) (by rw[ht];kernel_rfl) ?_;refine Zfd H3 1 t rfl (by rw[ht];kernel_rfl) (λy=>rfl) Ft_sg (by omega) (by decide) λv' w4 S4 H4=>?_;replace H4:Holds w4 (own t::RW Ft 3 tTe v' (ts++[t])::(bag.map own++L)):=H4;refine Za0 (by omega) (r_ke ⟨⟨m+1,ts++[t],t::bag,rfl,by omega,?_,λu hu=>?_,S1.trans (S2.trans S4),H4.swap⟩,?_⟩)
  ·rw[map_append,hts,List.range_succ,map_append,ht];rfl
  ·rcases hT_.1 hu with hu|hu
   ·obtain⟨e1,e2,e3⟩:=htb u hu;exact⟨e1,hK_ _ e2,e3⟩
   ·rw[mem_singleton.1 hu];exact⟨by rw[ht],hJ_ ..,by rw[ht];simp⟩
  ·simp only[nv,intOf,gC];omega
 obtain rfl:m=W.length:=by omega
 refine r_ms (f:=nv) (x:=0) H1 rfl (by omega) (by omega) λob w2 S2 H2=>?_;rw[gC] at H2 ⊢;have H3:=H2.close 0 rfl;simp only[gJ,gP,length_nil,Nat.add_zero] at H3;generalize hv:Value.slice (some ⟨ob,0,none⟩) W.length W.length=ov at H3 ⊢
 have hz:∀ x,(List.replicate W.length 0).getD x 0=0:=λx=>by
  rw[gB,List.getElem?_replicate]
  split <;> rfl
 refine Za7 (λp y w'=>∃ (q:Nat) (s:HS) (ts bag:List Tr) (out:List Nat),y=nv (W.length+q)/\q<=W.length - 1/\Joins (h0 W) q s/\Forest W.length s (ts.map nl) out/\(∀ t∈ts,t.wt=s.W.getD t.no 0/\t∈bag/\t.ls≠[])/\Tot s=Tot (h0 W)/\(∀ x,out.getD x 0<=q*258)/\Same w w'/\
   Holds w' (RW Ft 3 tTe p ts::SL nv tI ov out::(bag.map own++L))) (λ_ y _=>1000 - (intOf y).toNat)
  ⟨0,h0 W,ts,bag,List.replicate W.length 0,rfl,hE _,.start,by rw[hts];exact forest0 W,htb,rfl,λx=>by rw[hz];omega,S1.trans S2,H3.swap⟩ ?_
 clear H1 H2 H3 S1 S2 hts htb htl;clear ts bag;rintro _ p _ w3 ⟨q,s,ts,bag,out,rfl,hq,hJ,hF,htb,hTt,hb,S3,H3⟩;obtain⟨hg,hVl,hWl⟩:=Zbu hJ
 have hpV:(ts.map (·.no)).Perm s.V:=by
  have:=hF.perm;rw[List.map_map] at this;exact this
 have htl:ts.length=s.V.length:=by rw[<-hpV.length_eq,hS_]
 refine r_lnN 0 H3 rfl ?_;refine r_gtr (r_ifD (λh=>?_) λh=>?_)
 rotate_left
 ·obtain⟨r,hr⟩:=List.length_eq_one_iff.1 (show s.V.length=1 by omega)
  obtain rfl:q=W.length - 1:=by omega
  refine k ov out w3 ⟨s,r,hJ,hr,hF.len,λx hx=>?_⟩ S3 ?_
  ·obtain⟨t,ht,hxt⟩:=mem_flatMap.1 (hF.leaves.mem_iff.2 (mem_range.2 hx));have:=hF.up t ht x hxt;have e:t.1∈s.V:=hF.perm.mem_iff.1 (mem_map_of_mem ht);rw[hr] at e;rw[mem_singleton.1 e] at this;exact this
  ·exact Zqs _ H3.drop
 have hn1:q < W.length - 1:=by omega
 refine P35.least_spec H3 (i:=0) rfl (λe=>by rw[e] at h;simp at h) (by omega) λa x w4 hx hxm S4 H4=>?_;refine Zf1 0 H4 rfl hx (λ_=>rfl) ?_;refine r_new H4 λxb w5 S5 H5=>?_;rw[Zm4] at H5;refine r_stA 0 H5 (vs:=Ft x) rfl (Nat.le_refl 3) rfl rfl λw6 S6 H6=>?_;replace H6:Holds w6 (blk xb tTe (Ft x)::RW Ft 3 tTe p ts::SL nv tI ov out::(bag.map own++L)):=H6;have hal:=(gH.1 hx).1;have hpx:=Zwm hx;refine Zh7 H6 (i:=1) rfl hal (by omega) λp1 w7 S7 H7=>?_;generalize ts.eraseIdx a=ts1 at *
 have hts1:ts1.length+1=ts.length:=by rw[hpx.length_eq,length_cons]
 refine P35.least_spec H7 (i:=0) rfl (λe=>by rw[e,length_nil] at hts1;omega) (by omega) λb y w8 hy hym S8 H8=>?_;refine Zf1 0 H8 rfl hy (λ_=>rfl) ?_;refine r_new H8 λyb w9 S9 H9=>?_;rw[Zm4] at H9;refine r_stA 0 H9 (vs:=Ft y) rfl (Nat.le_refl 3) rfl rfl λw10 S10 H10=>?_;replace H10:Holds w10 (blk yb tTe (Ft y)::RW Ft 3 tTe p1 ts1::blk xb tTe (Ft x)::RW Ft 3 tTe p ts::SL nv tI ov out::(bag.map own++L)):=H10;have hbl:=(gH.1 hy).1;have hpy:=Zwm hy;refine Zh7 H10 (i:=1) rfl hbl (by omega) λp2 w11 S11 H11=>?_;generalize ts1.eraseIdx b=ts2 at *;have hxt:x∈ts:=hpx.mem_iff.2 (hJ_ ..);have hyt1:y∈ts1:=hpy.mem_iff.2 (hJ_ ..);have hyt:y∈ts:=hpx.mem_iff.2 (hK_ _ hyt1);have hw1:∀ t∈ts1,t.wt=s.W.getD t.no 0:=λt ht=>(htb t (hpx.mem_iff.2 (hK_ _ ht))).1;have lx:=least_of hpV (λt ht=>(htb t ht).1) hxt hxm
 have hpV1:(ts1.map (·.no)).Perm (s.V.erase x.no):=by
  have h5:=(hpV.symm.trans (hpx.map _)).erase x.no;rw[hR_,erase_cons_head] at h5;exact h5.symm
 have ly:=least_of hpV1 hw1 hyt1 hym;obtain⟨s',hs'⟩:∃ s':HS,s'=⟨s.W++[s.W.getD x.no 0+s.W.getD y.no 0],((s.I.set x.no (some s.W.length)).set y.no (some s.W.length))++[none],s.W.length::(s.V.erase x.no).erase y.no⟩:=⟨_,rfl⟩
 have jn:Join s s' x.no y.no:=by rw[hs'];exact⟨lx,ly,rfl,rfl,.refl _⟩
 have hF2:=Zot (x:=nl x) (y:=nl y) (l1:=ts1.map nl) (l2:=ts2.map nl) hg hF (hpx.map nl) (hpy.map nl) jn;have tt:=Zq7 lx.1 ly.1;obtain⟨ls,hls⟩:∃ ls,ls=x.ls++y.ls:=⟨_,rfl⟩
 have hlsW:∀ z∈ls,z < W.length:=by
  intro z hz;refine mem_range.1 (hF.leaves.mem_iff.1 ?_);rw[hls] at hz;rcases hT_.1 hz with h5|h5
  ·exact mem_flatMap.2 ⟨nl x,mem_map_of_mem hxt,h5⟩
  ·exact mem_flatMap.2 ⟨nl y,mem_map_of_mem hyt,h5⟩
 have hlsl:ls.length<=W.length:=by
  have h5:=((hpx.trans (hpy.cons _)).map nl).flatMap_right (·.2);have h6:=(h5.symm.trans hF.leaves).length_eq;simp only[hR_,hM_,gD,hW_] at h6
  have h7:ls.length=x.ls.length+y.ls.length:=by rw[hls,gD]
  have h8:(nl x).2.length=x.ls.length:=rfl;have h9:(nl y).2.length=y.ls.length:=rfl;omega
 obtain⟨ix,hix⟩:=Ybe (L:=L) (htb x hxt).2.1;obtain⟨iy,hiy⟩:=Ybe (L:=L) (htb y hyt).2.1;refine r_fo0 (r_ld 3 H11 rfl rfl ?_);have H12:=H11.nilSL nv tI;refine r_apS (f:=nv) (xs:=[]) H12 0 (ix+7) (by omega) rfl (ys:=x.ls) hix (λ_=>rfl) (by rw[hls,gD] at hlsl;simp only[length_nil];omega) λlv1 w12 S12 H13=>?_;rw[gJ,hO_] at H13;refine r_fo0 (r_ld 2 H13 rfl rfl ?_);refine r_apS (f:=nv) (xs:=x.ls) H13 0 (iy+7) (by omega) rfl (ys:=y.ls) hiy (λ_=>rfl) (by rw[hls,gD] at hlsl;omega) λlv2 w13 S13 H14=>?_;rw[gJ,<-hls] at H14;have H15:Holds w13 (SL nv tI lv2 ls::RW Ft 3 tTe p2 ts2::blk yb tTe (Ft y)::blk xb tTe (Ft x)::SL nv tI ov out::(bag.map own++L)):=H14.ord 7 [0,1,2,4,6] rfl;refine r_lnS 0 H15 rfl ?_;have S15:=S3.trans (S4.trans (S5.trans (S6.trans (S7.trans (S8.trans (S9.trans (S10.trans (S11.trans (S12.trans S13)))))))))
 refine Za8 (λz w'=>∃ t:Nat,z=nv t/\t<=ls.length/\Same w w'/\Holds w' (SL nv tI lv2 ls::RW Ft 3 tTe p2 ts2::blk yb tTe (Ft y)::blk xb tTe (Ft x)::SL nv tI ov (incL out (ls.take t))::(bag.map own++L))) (λz _=>ls.length - (intOf z).toNat)
  ⟨0,rfl,hE _,S15,H15⟩ ?_
 clear H3 H4 H5 H6 H7 H8 H9 H10 H11 H12 H13 H14 H15 S3 S4 S5 S6 S7 S8 S9 S10 S11 S12 S13 S15;rintro _ _ w4 ⟨t,rfl,ht,S4,H4⟩;refine r_lss (r_ifD (λh5=>?_) λh5=>?_)
 ·have hlt:t < ls.length:=by omega
  have htk:ls.take (t+1)=ls.take t++[ls[t]]:=by rw[gO,gA hlt];rfl
  have hzt:ls[t]?=some ls[t]:=gA hlt;have hzW:=hlsW _ (getElem_mem hlt);generalize ls[t]=z at *
  have hol:(incL out (ls.take t)).length=W.length:=by rw[Zlc,hF.len]
  have hob:=Zou (ls.take t) out z;rw[gN] at hob;have hbz:=hb z;refine Za6 0 H4 rfl hzt ?_;refine Za6 4 H4 (j:=z) rfl (x:=(incL out (ls.take t)).getD z 0) (by rw[gB,gA (by omega)];rfl) ?_;refine Za0 (by omega) ?_;refine Zat 4 H4 ((incL out (ls.take t)).getD z 0+1) rfl (by omega) rfl λw5 S5 H5=>?_;refine Za0 (by omega) (r_ke ⟨⟨t+1,rfl,by omega,S4.trans S5,?_⟩,?_⟩)
  ·rw[htk,Zuj];exact H5
  ·simp only[nv,intOf,gC];omega
 rw[gK (by omega)] at H4;have hxw:=(htb x hxt).1;have hyw:=(htb y hyt).1;refine r_fo0 (r_ld 3 H4 rfl rfl (r_fo0 (r_ld 2 H4 rfl rfl ?_)));refine Zac (by omega) ?_;have hlsne:ls≠[]:=λe=>(htb x hxt).2.2 (List.append_eq_nil_iff.1 (hls.symm.trans e)).1;obtain⟨oa,sp,rfl,H5⟩:=H4.open 0 rfl
 obtain⟨lb,rfl⟩:∃ lb,oa=some ⟨lb,0,none⟩:=by
  cases oa with
  |none=>
   obtain⟨g,⟨h6,_⟩,_⟩:=H5.front 0 rfl;exact absurd h6 hlsne
  |some a=>
   obtain⟨g,⟨h6,h7,_⟩,_⟩:=H5.front 0 rfl;obtain⟨b,o,s⟩:=a;simp only at h6 h7;subst h6;subst h7;exact⟨b,rfl⟩
 obtain⟨u,hu⟩:∃ u:Tr,u=⟨x.wt+y.wt,W.length+q,lb,ls.length+sp.length,ls⟩:=⟨_,rfl⟩
 replace H4:Holds w4 (own u::RW Ft 3 tTe p2 ts2::blk yb tTe (Ft y)::blk xb tTe (Ft x)::SL nv tI ov (incL out ls)::(bag.map own++L)):=by rw[hu];exact H4
 refine r_bd (v:=.agg (Ft u).toArray) (by rw[hu];kernel_rfl) ?_
 have hts2:ts2.length+1=ts1.length:=by rw[hpy.length_eq,length_cons]
 refine Zfd H4 1 u rfl (by rw[hu];kernel_rfl) (λy=>rfl) Ft_sg (by omega) (by decide) λp3 w5 S5 H6=>?_;have H7:Holds w5 (RW Ft 3 tTe p3 (ts2++[u])::SL nv tI ov (incL out ls)::((u::bag).map own++L)):=H6.ord 5 [1,4,0] rfl;refine Za0 (by omega) (r_ke ⟨⟨q+1,s',ts2++[u],u::bag,incL out ls,by rw[hG_],by omega,hJ.next jn,?_,λt2 ht2=>?_,(Zm9 hg jn).trans hTt,λz=>?_,S4.trans S5,H7⟩,?_⟩)
 ·rw[map_append,hls]
  have e:[u].map nl=[(s.W.length,(nl x).2++(nl y).2)]:=by rw[hu,hWl,hls];rfl
  rw[e];exact hF2
 ·rcases hT_.1 ht2 with h6|h6
  ·have h7:=htb t2 (hpx.mem_iff.2 (hK_ _ (hpy.mem_iff.2 (hK_ _ h6))));refine⟨?_,hK_ _ h7.2.1,h7.2.2⟩;rw[jn.W,Zbk]
   ·exact h7.1
   ·refine hg.lt _ (hpV.mem_iff.1 (mem_map_of_mem (hpx.mem_iff.2 (hK_ _ (hpy.mem_iff.2 (hK_ _ h6))))))
  ·rw[mem_singleton.1 h6];refine⟨?_,hJ_ ..,by rw[hu];exact hlsne⟩;rw[jn.W,hu];show x.wt+y.wt=(s.W++_).getD (W.length+q) 0;rw[<-hWl,Zcy,hxw,hyw]
 ·have h6:=Zou ls out z;have h7:=hb z;omega
 ·simp only[nv,intOf,gC];omega
end P35
namespace S09
open Go.Mh Go.Ms
variable {w:World}{L:List HProp}{K:KT}{v f:Value}{W:List Nat}
theorem Zc6 {a b:Nat}{K:Value->Prop}(h1:b<=a) (h2:a<=1000000000000) (h:K (.int .i64 ((a - b:Nat):Int))):Bp .sub (.int .i64 (a:Int)) (.int .i64 (b:Int)) K:=
 r_sub (by omega) (by omega) (by rw[show (a:Int) - (b:Int)=((a - b:Nat):Int) by omega];exact h)
theorem Zd0 {A U M V B:List Nat}{a b n:Nat}(H:Holds w (SL nv tI v (A++(U++(M++(V++B))))::L)) (ha:A.length=a) (hu:U.length=n) (hm:a+n+M.length=b) (hv:V.length=n) (hb:b+n<=1000000000)
  (k:∀ w',Same w w'->Holds w' (SL nv tI v (A++(V++(M++(U++B))))::L)->K (.tuple #[]) w'):Cl prog 297 #[v,nv a,nv b,nv n,f] w K:=by
 refine Tz297 ?_;unfold Vz297
 refine Za8 (λx w'=>∃ i:Nat,i<=n/\x=nv i/\Same w w'/\Holds w' (SL nv tI v (A++(V.take i++(U.drop i++(M++(U.take i++(V.drop i++B))))))::L)) (λx _=>n - (intOf x).toNat)
  ⟨0,hE _,rfl,.refl _,by simpa using H⟩ ?_
 clear H;rintro _ _ w1 ⟨i,hi,rfl,S1,H1⟩;refine r_lss (r_ifD (λh=>?_) λh=>?_)
 rotate_left
 ·obtain rfl:i=n:=by omega
  refine k _ S1 ?_;rw[gK (by omega),drop_of_length_le (by omega),gK (by omega),drop_of_length_le (by omega)] at H1;simpa using H1
 have hU:i < U.length:=by omega
 have hV:i < V.length:=by omega
 rw[Zj6 hU,Zj6 hV,show A++(V.take i++(U[i]::U.drop (i+1)++(M++(U.take i++(V[i]::V.drop (i+1)++B)))))=(A++V.take i)++U[i]::((U.drop (i+1)++(M++U.take i))++V[i]::(V.drop (i+1)++B)) by simp only[gI,cons_append]] at H1;obtain⟨e1,e2,e3,e4,e5⟩:=sw (P:=A++V.take i) (Q:=U.drop (i+1)++(M++U.take i)) (R:=V.drop (i+1)++B) (x:=U[i]) (y:=V[i]) (p:=a+i) (q:=b+i) (by simp;omega) (by simp;omega);refine r_dr H1 λw2 S2 H2=>?_;refine Zac (by omega) (Zac (by omega) (Zac (by omega) ?_));refine Za6 0 H2 rfl e2 ?_;refine Zac (by omega) ?_;refine Za6 0 H2 rfl e1 ?_;refine Zat 0 H2 V[i] rfl e4 rfl λw3 S3 H3=>?_;refine Zat 0 H3 U[i] rfl e5 rfl λw4 S4 H4=>?_;refine Za0 (by omega) ?_;refine r_ke ⟨⟨i+1,by omega,rfl,S1.trans (S2.trans (S3.trans S4)),?_⟩,?_⟩
 ·replace H4:Holds w4 (SL nv tI v (((A++V.take i++U[i]::((U.drop (i+1)++(M++U.take i))++V[i]::(V.drop (i+1)++B))).set (a+i) V[i]).set (b+i) U[i])::L):=H4;rw[e3] at H4;rw[Zik hU,Zik hV];simpa only[gI,cons_append,hO_] using H4
 ·simp only[nv,intOf,gC];omega
theorem Zp4 {A U V B:List Nat}{a m b:Nat}(H:Holds w (SL nv tI v (A++(U++(V++B)))::L)) (ha:A.length=a) (hm:a+U.length=m) (hb:m+V.length=b) (hU:U≠[]) (hV:V≠[]) (hbb:b<=100000000)
  (k:∀ w',Same w w'->Holds w' (SL nv tI v (A++(V++(U++B)))::L)->K (.tuple #[]) w'):Cl prog 296 #[v,nv a,nv m,nv b,f] w K:=by
 refine Tz296 ?_;unfold Vz296;have hU0:=gZ.2 hU;have hV0:=gZ.2 hV;refine Zc6 (by omega) (by omega) (Zc6 (by omega) (by omega) ?_)
 refine Za7 (λx y w'=>∃ P U' V' S:List Nat,x=nv U'.length/\y=nv V'.length/\0 < U'.length/\0 < V'.length/\P.length+U'.length=U.length/\V'.length+S.length=V.length/\P++(V'++(U'++S))=V++U/\Same w w'/\
   Holds w' (SL nv tI v (A++(P++(U'++(V'++(S++B)))))::L)) (λx y _=>(intOf x).toNat+(intOf y).toNat)
  ⟨[],U,V,[],by rw[show m - a=U.length by omega],by rw[show b - m=V.length by omega],hU0,hV0,by simp,by simp,by simp,.refl _,by simpa using H⟩ ?_
 clear H;rintro _ _ _ w1 ⟨P,U',V',S,rfl,rfl,h1,h2,h3,h4,h5,S1,H1⟩;refine r_neq (r_ifN (λh=>?_) λh=>?_)
 rotate_left
 ·refine Zc6 (by omega) (by omega) ?_;refine Zd0 (A:=A++P) (U:=U') (M:=[]) (V:=V') (B:=S++B) (by simpa using H1) (by simp;omega) rfl (by simp;omega) (by omega) (by omega) λw2 S2 H2=>?_;refine k _ (S1.trans S2) ?_;rw[show A++(V++(U++B))=A++((V++U)++B) by simp,<-h5];simpa using H2
 refine r_gtr (r_ifD (λhg=>?_) λhg=>?_)
 ·obtain⟨u1,u2,rfl,e1,e2⟩:=Ybw (D:=U') (i:=V'.length) (by omega);rw[gD] at *;refine Zc6 (by omega) (by omega) ?_;refine Zd0 (A:=A++P) (U:=u1) (M:=u2) (V:=V') (B:=S++B) (by simpa using H1) (by simp;omega) e1 (by omega) rfl (by omega) λw2 S2 H2=>?_;refine Zc6 (by omega) (by omega) ?_;refine r_ke ⟨⟨P++V',u2,u1,S,by rw[show u1.length+u2.length - V'.length=u2.length by omega],by rw[e1],by omega,by omega,by rw[gD];omega,by omega,by rw[<-h5];simp,S1.trans S2,by simpa using H2⟩,?_⟩;simp only[nv,intOf,gC];omega
 ·obtain⟨v1,v2,rfl,e1,e2⟩:=Ybw (D:=V') (i:=V'.length - U'.length) (by omega);rw[gD] at *;refine Zc6 (by omega) (by omega) (Zac (by omega) (Zc6 (by omega) (by omega) ?_));refine Zd0 (A:=A++P) (U:=U') (M:=v1) (V:=v2) (B:=S++B) (by simpa using H1) (by simp;omega) rfl (by omega) (by omega) (by omega) λw2 S2 H2=>?_;refine Zc6 (by omega) (by omega) ?_;refine r_ke ⟨⟨P,v2,v1,U'++S,by rw[show v2.length=U'.length by omega],by rw[show v1.length+v2.length - U'.length=v1.length by omega],by omega,by omega,by omega,by rw[gD];omega,by rw[<-h5];simp,S1.trans S2,by simpa using H2⟩,?_⟩;simp only[nv,intOf,gC];omega
def CmpOk (W:List Nat) (v f:Value) (L:List HProp):Prop:=∀ {D:List Nat}{w:World}{x y:Nat}{Q:KT},Holds w (SL nv tI v D::L)->x < W.length->y < W.length->
 (∀ (z:Int) w',(z < 0↔W.getD x 0 < W.getD y 0)->Same w w'->Holds w' (SL nv tI v D::L)->Q (iv z) w')->Inv prog (do let d <-Deferred.ofValue f #[nv x,nv y];invoke d.target d.args) w Q
theorem Zlx {x y:Nat}(h:y < x):W.getD x 0 < W.getD y 0↔lt W x y:=by unfold lt;omega
theorem Zfr {x y:Nat}(h:y < x) (hn:¬ W.getD x 0 < W.getD y 0):lt W y x:=by unfold lt;omega
theorem Zf0 {A X B:List Nat}{a b:Nat}(hc:CmpOk W v f L) (H:Holds w (SL nv tI v (A++(X++B))::L)) (ha:A.length=a) (hb:a+X.length=b) (hx:∀ x∈X,x < W.length) (hn:X.Pairwise (· < ·)) (hbb:b<=100000000)
  (k:∀ Z w',Z.Perm X->Srt W Z->Same w w'->Holds w' (SL nv tI v (A++(Z++B))::L)->K (.tuple #[]) w'):Cl prog 293 #[v,nv a,nv b,f] w K:=by
 refine Tz293 ?_;unfold Vz293;refine Za0 (by omega) ?_
 refine Za8 (λx w'=>∃ (n:Nat) (Z:List Nat),x=nv (a+1+n)/\n<=X.length/\Z.Perm (X.take (n+1))/\Srt W Z/\Same w w'/\Holds w' (SL nv tI v (A++(Z++(X.drop (n+1)++B)))::L)) (λx _=>b - (intOf x).toNat)
  ⟨0,X.take 1,rfl,hE _,.refl _,by
   cases X with
   |nil=>exact List.Pairwise.nil
   |cons x l=>exact List.pairwise_singleton _ _,.refl _,by rw[<-gI (X.take 1),hN_];exact H⟩ ?_
 clear H;rintro _ _ w1 ⟨n,Z,rfl,hnX,hp,hs,S1,H1⟩;refine r_lss (r_ifD (λh=>?_) λh=>?_)
 rotate_left
 ·rw[gK (by omega)] at hp;rw[drop_of_length_le (by omega)] at H1;exact k Z _ hp hs S1 H1
 have hlt:n+1 < X.length:=by omega
 have hZl:Z.length=n+1:=by rw[hp.length_eq,gN];omega
 have hxW:X[n+1] < W.length:=hx _ (getElem_mem hlt)
 have hZx:∀ z∈Z,z < X[n+1]/\z < W.length:=by
  intro z hz;have:=hp.mem_iff.1 hz;refine⟨?_,hx _ (List.mem_of_mem_take this)⟩;obtain⟨i,hi,rfl⟩:=getElem_of_mem this;rw[gN] at hi;rw[getElem_take];exact pairwise_iff_getElem.1 hn i (n+1) (by omega) hlt (by omega)
 rw[Zj6 hlt] at H1
 have hpx:(X.take (n+1+1)).Perm (X[n+1]::Z):=by
  rw[Zik hlt];exact (List.perm_append_singleton _ _).trans (hp.symm.cons _)
 generalize X[n+1]=x at *;generalize hT:X.drop (n+1+1)=T at *
 refine Za8 (λy w'=>∃ Z1 Z2:List Nat,y=nv (a+Z1.length)/\Z=Z1++Z2/\(∀ z∈Z2,lt W x z)/\Same w w'/\Holds w' (SL nv tI v (A++(Z1++(x::(Z2++(T++B)))))::L)) (λy _=>(intOf y).toNat)
  ⟨Z,[],by rw[hZl,show a+1+n=a+(n+1) by omega],by simp,by simp,S1,by simpa using H1⟩ ?_
 clear H1 S1;rintro _ _ w2 ⟨Z1,Z2,rfl,rfl,hZ2,S2,H2⟩;rw[gD] at hZl;refine Za2 (λt w'=>Same w w'/\Holds w' (SL nv tI v (A++(Z1++(x::(Z2++(T++B)))))::L)/\((t=.bool false/\∀ z∈Z1,lt W z x)\/(t=.bool true/\∃ Z1' z,Z1=Z1'++[z]/\lt W x z))) ?_ ?_
 rotate_left
 ·refine r_dr H2 λw3 S3 H3=>?_;refine r_gtr (r_ifD (λh=>?_) λh=>?_)
  ·have hne:Z1≠[]:=λe=>by rw[e,length_nil] at h;omega
   obtain⟨Z1',z,rfl⟩:∃ Z1' z,Z1=Z1'++[z]:=⟨Z1.dropLast,Z1.getLast hne,(List.dropLast_concat_getLast hne).symm⟩;have hz:=hZx z (by simp);rw[gD,gQ] at *
   have e1:(A++(Z1'++[z]++(x::(Z2++(T++B)))))[a+(Z1'.length+1)]?=some x:=by
    rw[show A++(Z1'++[z]++(x::(Z2++(T++B))))=(A++Z1'++[z])++x::(Z2++(T++B)) by simp];exact Zse (by simp;omega)
   have e2:(A++(Z1'++[z]++(x::(Z2++(T++B)))))[a+(Z1'.length+1) - 1]?=some z:=by
    rw[show A++(Z1'++[z]++(x::(Z2++(T++B))))=(A++Z1')++z::(x::(Z2++(T++B))) by simp];exact Zse (by simp;omega)
   refine Za6 0 H3 rfl e1 ?_;refine Zaa (by omega) (by omega) ?_;refine Za6 0 H3 rfl e2 ?_;refine hc H3 hxW hz.2 λc w4 hcc S4 H4=>?_;refine r_lss (r_ke ⟨S2.trans (S3.trans S4),H4,?_⟩)
   by_cases q:c < 0
   ·exact .inr ⟨by rw[decide_eq_true q],Z1',z,rfl,(Zlx hz.1).1 (hcc.1 q)⟩
   ·refine .inl ⟨by rw[decide_eq_false q],?_⟩;have hl:=Zfr hz.1 λe=>q (hcc.2 e);have h5:=(pairwise_append.1 hs).1;intro u hu;rcases hT_.1 hu with hu|hu
    ·exact Zcx ((pairwise_append.1 h5).2.2 u hu z (by simp)) hl
    ·rw[mem_singleton.1 hu];exact hl
  ·have:Z1=[]:=eq_nil_of_length_eq_zero (by omega);subst this;exact r_ke ⟨S2.trans S3,H3,.inl ⟨rfl,by simp⟩⟩
 rintro _ _ w3 ⟨S3,H3,⟨rfl,hz1⟩|⟨rfl,Z1',z,rfl,hxz⟩⟩
 ·refine r_vf ?_;refine Za0 (by omega) ?_;refine r_ke ⟨⟨n+1,Z1++x::Z2,by rw[show a+1+(n+1)=a+1+n+1 by omega],by omega,?_,Zqe hs hz1 hZ2,S3,?_⟩,?_⟩
  ·exact perm_middle.trans hpx.symm
  ·rw[hT];simpa using H3
  ·simp only[nv,intOf,gC];omega
 ·refine r_vt ?_;rw[gD,gQ] at *;rw[show A++(Z1'++[z]++(x::(Z2++(T++B))))=(A++Z1')++z::([]++x::(Z2++(T++B))) by simp] at H3;obtain⟨e1,e2,_,_,_⟩:=sw (P:=A++Z1') (Q:=[]) (R:=Z2++(T++B)) (x:=z) (y:=x) (p:=a+(Z1'.length+1) - 1) (q:=a+(Z1'.length+1)) (by simp;omega) (by rw[length_nil];omega);obtain⟨e3,e4,e5⟩:=sw' (P:=A++Z1') (Q:=[]) (R:=Z2++(T++B)) (x:=z) (y:=x) (p:=a+(Z1'.length+1) - 1) (q:=a+(Z1'.length+1)) (by simp;omega) (by rw[length_nil];omega);refine r_dr H3 λw4 S4 H4=>?_;refine Zaa (by omega) (by omega) (Zaa (by omega) (by omega) ?_);refine Za6 0 H4 rfl e1 (Za6 0 H4 rfl e2 ?_);refine Zat 0 H4 z rfl e4 rfl λw5 S5 H5=>?_;refine Zat 0 H5 x rfl e5 rfl λw6 S6 H6=>?_;refine Zaa (by omega) (by omega) ?_;refine r_ke ⟨⟨Z1',z::Z2,by rw[show a+(Z1'.length+1) - 1=a+Z1'.length by omega],by simp,?_,S3.trans (S4.trans (S5.trans S6)),?_⟩,?_⟩
  ·intro u hu;rcases mem_cons.1 hu with rfl|hu
   ·exact hxz
   ·exact hZ2 u hu
  ·replace H6:Holds w6 (SL nv tI v (((A++Z1'++z::([]++x::(Z2++(T++B)))).set (a+(Z1'.length+1)) z).set (a+(Z1'.length+1) - 1) x)::L):=H6;rw[e3] at H6;simpa using H6
  ·simp only[nv,intOf,gC];omega
theorem Zfe {s:Nat}{K:Value->Prop}(hs:s<=1000000000) (h:K (nv (s/2))):Ci .u64 (.int .i64 (s:Int)) λy=>Bp .shr y (.int .u64 1) λz=>Ci .i64 z K:=by
 refine Zlo (by omega) (by omega) ?_;refine Zex (n:=1) (by decide) ?_;exact Zcv (by omega) (by omega) h
theorem symX {x:Nat}{A Y B:List Nat}{a m b:Nat}(hc:CmpOk W v f L) (H:Holds w (SL nv tI v (A++([x]++(Y++B)))::L)) (ha:A.length=a) (hm:a+1=m) (hb:m+Y.length=b) (hs:Srt W Y) (hxW:x < W.length) (hY:∀ y∈Y,x < y/\y < W.length) (hbb:b<=100000000)
  (k:∀ Z w',Z.Perm (x::Y)->Srt W Z->Same w w'->Holds w' (SL nv tI v (A++(Z++B))::L)->K (.tuple #[]) w'):Cl prog 294 #[v,nv a,nv m,nv b,f] w K:=by
 refine Tz294 ?_;unfold Vz294;refine Zc6 (by omega) (by omega) ?_;refine r_eql (r_vtE (by omega) ?_)
 refine Za7 (λi j w'=>∃ p q:Nat,i=nv (m+p)/\j=nv (m+q)/\p<=q/\q<=Y.length/\(∀ y∈Y.take p,lt W y x)/\(∀ y∈Y.drop q,lt W x y)/\Same w w'/\Holds w' (SL nv tI v (A++([x]++(Y++B)))::L)) (λi j _=>(intOf j).toNat - (intOf i).toNat)
  ⟨0,Y.length,rfl,by rw[hb],hE _,Nat.le_refl _,by simp,by simp,.refl _,H⟩ ?_
 clear H;rintro _ _ _ w1 ⟨p,q,rfl,rfl,hpq,hq,h1,h2,S1,H1⟩;refine r_lss (r_ifD (λh=>?_) λh=>?_)
 ·have hlt:p < q:=by omega
  refine Zac (by omega) (Zfe (by omega) ?_);rw[show (m+p+(m+q))/2=m+(p+q)/2 by omega]
  have hc1:p<=(p+q)/2:=by omega
  have hc2:(p+q)/2 < q:=by omega
  generalize (p+q)/2=c at *
  have hcY:c < Y.length:=by omega
  have hy:=hY _ (getElem_mem hcY)
  have e1:(A++([x]++(Y++B)))[m+c]?=some Y[c]:=by
   rw[<-gI A];exact Zrx (by simp;omega) hcY
  have e2:(A++([x]++(Y++B)))[a]?=some x:=Zse ha;refine r_dr H1 λw2 S2 H2=>?_;refine Za6 0 H2 rfl e1 (Za6 0 H2 rfl e2 ?_);refine hc H2 hy.2 hxW λz w3 hz S3 H3=>?_;refine r_lss (r_ifD (λhl=>?_) λhl=>?_)
  ·refine Za0 (by omega) (r_ke ⟨⟨c+1,q,rfl,rfl,by omega,hq,Zjx hs (λy e=>?_) hcY,h2,S1.trans (S2.trans S3),H3⟩,?_⟩)
   ·rw[gA hcY] at e;cases e;exact (Zlx hy.1).1 (hz.1 hl)
   ·simp only[nv,intOf,gC];omega
  ·refine r_ke ⟨⟨p,c,rfl,rfl,by omega,by omega,h1,Zjz hs λy e=>?_,S1.trans (S2.trans S3),H3⟩,?_⟩
   ·rw[gA hcY] at e;cases e;exact Zfr hy.1 λe=>hl (hz.2 e)
   ·simp only[nv,intOf,gC];omega
 obtain rfl:p=q:=by omega
 refine Za8 (λy w'=>∃ t:Nat,y=nv (a+t)/\t<=p/\Same w w'/\Holds w' (SL nv tI v (A++(Y.take t++(x::(Y.drop t++B))))::L)) (λy _=>b - (intOf y).toNat)
  ⟨0,rfl,hE _,S1,by simpa using H1⟩ ?_
 clear H1 S1;rintro _ _ w2 ⟨t,rfl,htp,S2,H2⟩;refine Zaa (by omega) (by omega) (r_lss (r_ifD (λhl=>?_) λhl=>?_))
 ·have hlt:t < p:=by omega
  have htY:t < Y.length:=by omega
  rw[Zj6 htY,show A++(Y.take t++(x::(Y[t]::Y.drop (t+1)++B)))=(A++Y.take t)++x::([]++Y[t]::(Y.drop (t+1)++B)) by simp only[gI,cons_append,hO_]] at H2;obtain⟨e1,e2,e3,e4,e5⟩:=sw (P:=A++Y.take t) (Q:=[]) (R:=Y.drop (t+1)++B) (x:=x) (y:=Y[t]) (p:=a+t) (q:=a+t+1) (by simp;omega) (by rw[length_nil]);refine r_dr H2 λw3 S3 H3=>?_;refine Za0 (by omega) (Za0 (by omega) ?_);refine Za6 0 H3 rfl e2 (Za6 0 H3 rfl e1 ?_);refine Zat 0 H3 Y[t] rfl e4 rfl λw4 S4 H4=>?_;refine Zat 0 H4 x rfl e5 rfl λw5 S5 H5=>?_;refine Za0 (by omega) (r_ke ⟨⟨t+1,rfl,by omega,S2.trans (S3.trans (S4.trans S5)),?_⟩,?_⟩)
  ·replace H5:Holds w5 (SL nv tI v (((A++Y.take t++x::([]++Y[t]::(Y.drop (t+1)++B))).set (a+t) Y[t]).set (a+t+1) x)::L):=H5;rw[e3] at H5;rw[Zik htY];simpa only[gI,cons_append,hO_] using H5
  ·simp only[nv,intOf,gC];omega
 ·obtain rfl:t=p:=by omega
  refine k (Y.take t++x::Y.drop t) _ ?_ (Zqe (by rw[hN_];exact hs) h1 h2) S2 (by simpa only[gI,cons_append] using H2);refine perm_middle.trans ?_;rw[hN_]
theorem symY {y:Nat}{A X B:List Nat}{a m b:Nat}(hc:CmpOk W v f L) (H:Holds w (SL nv tI v (A++(X++([y]++B)))::L)) (ha:A.length=a) (hm:a+X.length=m) (hb:m+1=b) (hX2:X.length≠1) (hs:Srt W X) (hyW:y < W.length) (hX:∀ x∈X,x < y/\x < W.length) (hbb:b<=100000000)
  (k:∀ Z w',Z.Perm (X++[y])->Srt W Z->Same w w'->Holds w' (SL nv tI v (A++(Z++B))::L)->K (.tuple #[]) w'):Cl prog 294 #[v,nv a,nv m,nv b,f] w K:=by
 refine Tz294 ?_;unfold Vz294;refine Zc6 (by omega) (by omega) ?_;refine r_eql (r_vfE (by omega) ?_);refine Zc6 (by omega) (by omega) ?_;refine r_eql (r_vtE (by omega) ?_)
 refine Za7 (λi j w'=>∃ p q:Nat,i=nv (a+p)/\j=nv (a+q)/\p<=q/\q<=X.length/\(∀ x∈X.take p,lt W x y)/\(∀ x∈X.drop q,lt W y x)/\Same w w'/\Holds w' (SL nv tI v (A++(X++([y]++B)))::L)) (λi j _=>(intOf j).toNat - (intOf i).toNat)
  ⟨0,X.length,rfl,by rw[hm],hE _,Nat.le_refl _,by simp,by simp,.refl _,H⟩ ?_
 clear H;rintro _ _ _ w1 ⟨p,q,rfl,rfl,hpq,hq,h1,h2,S1,H1⟩;refine r_lss (r_ifD (λh=>?_) λh=>?_)
 ·have hlt:p < q:=by omega
  refine Zac (by omega) (Zfe (by omega) ?_);rw[show (a+p+(a+q))/2=a+(p+q)/2 by omega]
  have hc1:p<=(p+q)/2:=by omega
  have hc2:(p+q)/2 < q:=by omega
  generalize (p+q)/2=c at *
  have hcX:c < X.length:=by omega
  have hx:=hX _ (getElem_mem hcX)
  have e1:(A++(X++([y]++B)))[a+c]?=some X[c]:=by
   exact Zrx ha hcX
  have e2:(A++(X++([y]++B)))[m]?=some y:=by
   rw[show A++(X++([y]++B))=(A++X)++y::B by simp];exact Zse (by simp;omega)
  refine r_dr H1 λw2 S2 H2=>?_;refine Za6 0 H2 rfl e2 (Za6 0 H2 rfl e1 ?_);refine hc H2 hyW hx.2 λz w3 hz S3 H3=>?_;refine r_lss ?_
  by_cases hl:z < 0
  ·rw[decide_eq_true hl];refine Zak (r_vf ?_);refine r_ke ⟨⟨p,c,rfl,rfl,by omega,by omega,h1,Zjz hs λx e=>?_,S1.trans (S2.trans S3),H3⟩,?_⟩
   ·rw[gA hcX] at e;cases e;exact (Zlx hx.1).1 (hz.1 hl)
   ·simp only[nv,intOf,gC];omega
  ·rw[decide_eq_false hl];refine Zbo (r_vt ?_);refine Za0 (by omega) (r_ke ⟨⟨c+1,q,rfl,rfl,by omega,hq,Zjx hs (λx e=>?_) hcX,h2,S1.trans (S2.trans S3),H3⟩,?_⟩)
   ·rw[gA hcX] at e;cases e;exact Zfr hx.1 λe=>hl (hz.2 e)
   ·simp only[nv,intOf,gC];omega
 obtain rfl:p=q:=by omega
 refine Za8 (λx w'=>∃ t:Nat,x=nv (a+t)/\p<=t/\t<=X.length/\Same w w'/\Holds w' (SL nv tI v (A++(X.take t++(y::(X.drop t++B))))::L)) (λx _=>(intOf x).toNat)
  ⟨X.length,by rw[hm],hq,Nat.le_refl _,S1,by simpa using H1⟩ ?_
 clear H1 S1;rintro _ _ w2 ⟨t,rfl,htp,htX,S2,H2⟩;refine r_gtr (r_ifD (λhl=>?_) λhl=>?_)
 ·have hlt:p < t:=by omega
  obtain⟨u,rfl⟩:∃ u,t=u+1:=⟨t - 1,by omega⟩
  have hu:u < X.length:=by omega
  rw[Zik hu,show A++(X.take u++[X[u]]++(y::(X.drop (u+1)++B)))=(A++X.take u)++X[u]::([]++y::(X.drop (u+1)++B)) by simp only[gI,cons_append,hO_]] at H2;obtain⟨e1,e2,_,_,_⟩:=sw (P:=A++X.take u) (Q:=[]) (R:=X.drop (u+1)++B) (x:=X[u]) (y:=y) (p:=a+(u+1) - 1) (q:=a+(u+1)) (by simp;omega) (by rw[length_nil];omega);obtain⟨e3,e4,e5⟩:=sw' (P:=A++X.take u) (Q:=[]) (R:=X.drop (u+1)++B) (x:=X[u]) (y:=y) (p:=a+(u+1) - 1) (q:=a+(u+1)) (by simp;omega) (by rw[length_nil];omega);refine r_dr H2 λw3 S3 H3=>?_;refine Zaa (by omega) (by omega) (Zaa (by omega) (by omega) ?_);refine Za6 0 H3 rfl e1 (Za6 0 H3 rfl e2 ?_);refine Zat 0 H3 X[u] rfl e4 rfl λw4 S4 H4=>?_;refine Zat 0 H4 y rfl e5 rfl λw5 S5 H5=>?_;refine Zaa (by omega) (by omega) (r_ke ⟨⟨u,by rw[show a+(u+1) - 1=a+u by omega],by omega,by omega,S2.trans (S3.trans (S4.trans S5)),?_⟩,?_⟩)
  ·replace H5:Holds w5 (SL nv tI v (((A++X.take u++X[u]::([]++y::(X.drop (u+1)++B))).set (a+(u+1)) X[u]).set (a+(u+1) - 1) y)::L):=H5;rw[e3] at H5;rw[Zj6 hu];simpa only[gI,cons_append,hO_] using H5
  ·simp only[nv,intOf,gC];omega
 ·obtain rfl:t=p:=by omega
  refine k (X.take t++y::X.drop t) _ ?_ (Zqe (by rw[hN_];exact hs) h1 h2) S2 (by simpa only[gI,cons_append] using H2);refine perm_middle.trans ?_;rw[hN_];exact (List.perm_append_singleton _ _).symm
theorem Zqv:∀ (N:Nat){w:World}{K:KT}{A X Y B:List Nat}{a m b:Nat},X.length+Y.length<=N->CmpOk W v f L->Holds w (SL nv tI v (A++(X++(Y++B)))::L)->A.length=a->a+X.length=m->m+Y.length=b->X≠[]->Y≠[]->
  Srt W X->Srt W Y->(∀ x∈X,x < W.length)->(∀ y∈Y,y < W.length)->(∀ x∈X,∀ y∈Y,x < y)->b<=100000000->
  (∀ Z w',Z.Perm (X++Y)->Srt W Z->Same w w'->Holds w' (SL nv tI v (A++(Z++B))::L)->K (.tuple #[]) w')->Cl prog 294 #[v,nv a,nv m,nv b,f] w K:=by
 intro N
 induction N with
 |zero=>
  intro w K A X Y B a m b hN _ _ _ _ _ hX _ _ _ _ _ _ _ _;have:=gZ.2 hX;omega
 |succ N ih=>
  intro w K A X Y B a m b hN hc H ha hm hb hX hY hsX hsY hXW hYW hXY hbb k;have hX0:=gZ.2 hX;have hY0:=gZ.2 hY
  by_cases hX1:X.length=1
  ·obtain⟨x,rfl⟩:=List.length_eq_one_iff.1 hX1;exact symX hc H ha (by simpa using hm) hb hsY (hXW x (by simp)) (λy hy=>⟨hXY x (by simp) y hy,hYW y hy⟩) hbb k
  by_cases hY1:Y.length=1
  ·obtain⟨y,rfl⟩:=List.length_eq_one_iff.1 hY1;exact symY hc H ha hm (by simpa using hb) hX1 hsX (hYW y (by simp)) (λx hx=>⟨hXY x hx y (by simp),hXW x hx⟩) hbb k
  refine Tz294 ?_;unfold Vz294;refine Zc6 (by omega) (by omega) ?_;refine r_eql (r_vfE (by omega) ?_);refine Zc6 (by omega) (by omega) ?_;refine r_eql (r_vfE (by omega) ?_);refine Zac (by omega) (Zfe (by omega) ?_);obtain⟨h,hh⟩:∃ h,h=(X.length+Y.length)/2:=⟨_,rfl⟩;rw[show (a+b)/2=a+h by omega];refine Zac (by omega) ?_;refine Zvn (λs r w'=>∃ lo hi:Nat,s=nv (a+lo)/\r=nv (a+hi)/\lo<=hi/\hi<=h/\hi<=X.length/\h - lo<=Y.length/\w=w'/\((lo=h - Y.length/\Y.length<=h/\hi=h)\/(lo=0/\hi=X.length))) ?_ ?_
  rotate_left
  ·refine r_gtr (r_ifD (λhg=>?_) λhg=>?_)
   ·refine Zc6 (by omega) (by omega) ?_;exact r_ke ⟨h - Y.length,h,by rw[show a+h+m - b=a+(h - Y.length) by omega],rfl,by omega,by omega,by omega,by omega,rfl,.inl ⟨rfl,by omega,rfl⟩⟩
   ·exact r_ke ⟨0,X.length,rfl,by rw[hm],by omega,by omega,by omega,by omega,rfl,.inr ⟨rfl,rfl⟩⟩
  rintro _ _ _ _ ⟨lo,hi,rfl,rfl,hlh,hhh,hhX,hlY,rfl,hcase⟩;refine Zaa (by omega) (by omega) ?_
  refine Za7 (λs r w'=>∃ σ ρ:Nat,s=nv (a+σ)/\r=nv (a+ρ)/\lo<=σ/\σ<=ρ/\ρ<=hi/\(lo < σ->lt W (X.getD (σ - 1) 0) (Y.getD (h - σ) 0))/\(ρ < hi->lt W (Y.getD (h - 1 - ρ) 0) (X.getD ρ 0))/\Same w w'/\Holds w' (SL nv tI v (A++(X++(Y++B)))::L)) (λs r _=>(intOf r).toNat - (intOf s).toNat)
   ⟨lo,hi,rfl,rfl,Nat.le_refl _,hlh,Nat.le_refl _,λe=>absurd e (Nat.lt_irrefl _),λe=>absurd e (Nat.lt_irrefl _),.refl _,H⟩ ?_
  clear H;rintro _ _ _ w1 ⟨σ,ρ,rfl,rfl,b0,b1,b2,b3,b4,S1,H1⟩;refine r_lss (r_ifD (λhl=>?_) λhl=>?_)
  ·have hlt:σ < ρ:=by omega
   refine Zac (by omega) (Zfe (by omega) ?_);rw[show (a+σ+(a+ρ))/2=a+(σ+ρ)/2 by omega]
   have hc1:σ<=(σ+ρ)/2:=by omega
   have hc2:(σ+ρ)/2 < ρ:=by omega
   generalize (σ+ρ)/2=c at *
   have hcX:c < X.length:=by omega
   have hcY:h - 1 - c < Y.length:=by omega
   have e1:(A++(X++(Y++B)))[a+c]?=some X[c]:=Zrx ha hcX
   have e2:(A++(X++(Y++B)))[a+h+m - 1 - (a+c)]?=some Y[h - 1 - c]:=by
    rw[show a+h+m - 1 - (a+c)=m+(h - 1 - c) by omega,<-gI A];exact Zrx (by simp;omega) hcY
   have gX:X.getD c 0=X[c]:=by rw[gB,gA hcX];rfl
   have gY:Y.getD (h - 1 - c) 0=Y[h - 1 - c]:=by rw[gB,gA hcY];rfl
   have hxy:=hXY _ (getElem_mem hcX) _ (getElem_mem hcY);refine r_dr H1 λw2 S2 H2=>?_;refine Zc6 (by omega) (by omega) ?_;refine Za6 0 H2 rfl e2 (Za6 0 H2 rfl e1 ?_);refine hc H2 (hYW _ (getElem_mem hcY)) (hXW _ (getElem_mem hcX)) λz w3 hz S3 H3=>?_;refine r_lss ?_
   by_cases hz0:z < 0
   ·rw[decide_eq_true hz0];refine Zak (r_vf ?_);refine r_ke ⟨⟨σ,c,rfl,rfl,b0,by omega,by omega,b3,λ_=>?_,S1.trans (S2.trans S3),H3⟩,?_⟩
    ·rw[gX,gY];exact (Zlx hxy).1 (hz.1 hz0)
    ·simp only[nv,intOf,gC];omega
   ·rw[decide_eq_false hz0];refine Zbo (r_vt ?_);refine Za0 (by omega) (r_ke ⟨⟨c+1,ρ,rfl,rfl,by omega,by omega,b2,λ_=>?_,b4,S1.trans (S2.trans S3),H3⟩,?_⟩)
    ·rw[show c+1 - 1=c by omega,show h - (c+1)=h - 1 - c by omega,gX,gY];exact Zfr hxy λe=>hz0 (hz.2 e)
    ·simp only[nv,intOf,gC];omega
  obtain rfl:σ=ρ:=by omega
  obtain⟨c1,c2⟩:=Ycg hsX hsY hcase b0 b2 (by omega) b3 b4 (by omega) (by omega)
  have lX1:(X.take σ).length=σ:=by rw[gN];omega
  have lX2:(X.drop σ).length=X.length - σ:=gS ..
  have lY1:(Y.take (h - σ)).length=h - σ:=by rw[gN];omega
  have lY2:(Y.drop (h - σ)).length=Y.length - (h - σ):=gS ..;have eX:X=X.take σ++X.drop σ:=(hN_ _ _).symm;have eY:Y=Y.take (h - σ)++Y.drop (h - σ):=(hN_ _ _).symm;have oX1:∀ x∈X.take σ,x∈X:=λx hx=>List.mem_of_mem_take hx;have oX2:∀ x∈X.drop σ,x∈X:=λx hx=>List.mem_of_mem_drop hx;have oY1:∀ x∈Y.take (h - σ),x∈Y:=λx hx=>List.mem_of_mem_take hx;have oY2:∀ x∈Y.drop (h - σ),x∈Y:=λx hx=>List.mem_of_mem_drop hx;have sX1:Srt W (X.take σ):=hsX.sublist (List.take_sublist _ _);have sX2:Srt W (X.drop σ):=hsX.sublist (List.drop_sublist _ _);have sY1:Srt W (Y.take (h - σ)):=hsY.sublist (List.take_sublist _ _);have sY2:Srt W (Y.drop (h - σ)):=hsY.sublist (List.drop_sublist _ _);rw[eX] at hsX;rw[eY] at hsY;have fin:=λZ1 Z2 p1 p2 s1 s2=>halves (Z1:=Z1) (Z2:=Z2) hsX hsY c1 c2 p1 p2 s1 s2;rw[<-eX,<-eY] at fin
  have H1:Holds w1 (SL nv tI v (A++(X.take σ++(X.drop σ++(Y.take (h - σ)++(Y.drop (h - σ)++B)))))::L):=by
   rw[eX,eY] at H1;simpa only[gI] using H1
  generalize X.take σ=X1 at *;generalize X.drop σ=X2 at *;generalize Y.take (h - σ)=Y1 at *;generalize Y.drop (h - σ)=Y2 at *;refine Zc6 (by omega) (by omega) ?_;rw[show a+h+m - (a+σ)=m+Y1.length by omega];refine Zdg (λw'=>Same w w'/\Holds w' (SL nv tI v (A++(X1++(Y1++(X2++(Y2++B)))))::L)) ?_ ?_
  rotate_left
  ·refine Za2 (λt w'=>w1=w'/\t=.bool (decide (0 < X2.length/\0 < Y1.length))) ?_ ?_
   rotate_left
   ·refine r_lss (r_ifD (λq=>?_) λq=>?_)
    ·refine r_lss (r_ke ⟨rfl,?_⟩)
     congr 1
     exact decide_eq_decide.2 (by omega)
    ·exact r_ke ⟨rfl,by rw[decide_eq_false (by omega)]⟩
   rintro _ _ _ ⟨rfl,rfl⟩;refine r_ifD (λq=>?_) λq=>?_
   ·refine Zp4 (A:=A++X1) (U:=X2) (V:=Y1) (B:=Y2++B) (by simpa only[gI] using H1) (by simp;omega) (by omega) rfl (gZ.1 q.1) (gZ.1 q.2) (by omega) λw2 S2 H2=>?_;exact r_ke ⟨S1.trans S2,by simpa only[gI] using H2⟩
   ·refine r_ke ⟨S1,?_⟩
    by_cases q1:X2.length=0
    ·rw[eq_nil_of_length_eq_zero q1] at H1 ⊢;exact H1
    ·rw[eq_nil_of_length_eq_zero (show Y1.length=0 by omega)] at H1 ⊢;exact H1
  clear H1 S1;rintro _ w2 ⟨S2,H2⟩;refine Zdg (λw'=>∃ Z1,Z1.Perm (X1++Y1)/\Srt W Z1/\Same w w'/\Holds w' (SL nv tI v (A++(Z1++(X2++(Y2++B))))::L)) ?_ ?_
  rotate_left
  ·refine Za2 (λt w'=>w2=w'/\t=.bool (decide (0 < X1.length/\0 < Y1.length))) ?_ ?_
   rotate_left
   ·refine r_lss (r_ifD (λq=>?_) λq=>?_)
    ·refine r_lss (r_ke ⟨rfl,?_⟩)
     congr 1
     exact decide_eq_decide.2 (by omega)
    ·exact r_ke ⟨rfl,by rw[decide_eq_false (by omega)]⟩
   rintro _ _ _ ⟨rfl,rfl⟩;refine r_ifD (λq=>?_) λq=>?_
   ·refine ih (X:=X1) (Y:=Y1) (B:=X2++(Y2++B)) (by omega) hc H2 ha (by omega) (by omega) (gZ.1 q.1) (gZ.1 q.2) sX1 sY1 (λx hx=>hXW x (oX1 x hx)) (λx hx=>hYW x (oY1 x hx)) (λx hx y hy=>hXY x (oX1 x hx) y (oY1 y hy)) (by omega) λZ w3 p3 s3 S3 H3=>?_;exact r_ke ⟨Z,p3,s3,S2.trans S3,H3⟩
   ·refine r_ke ⟨X1++Y1,.refl _,?_,S2,by simpa only[gI] using H2⟩
    by_cases q1:X1.length=0
    ·rw[eq_nil_of_length_eq_zero q1,hO_];exact sY1
    ·rw[eq_nil_of_length_eq_zero (show Y1.length=0 by omega),gU];exact sX1
  clear H2 S2;rintro _ w3 ⟨Z1,p1,s1,S3,H3⟩
  have lZ1:Z1.length=h:=by rw[p1.length_eq,gD];omega
  refine Za2 (λt w'=>w3=w'/\t=.bool (decide (0 < X2.length/\0 < Y2.length))) ?_ ?_
  rotate_left
  ·refine r_lss (r_ifD (λq=>?_) λq=>?_)
   ·refine r_lss (r_ke ⟨rfl,?_⟩)
    congr 1
    exact decide_eq_decide.2 (by omega)
   ·exact r_ke ⟨rfl,by rw[decide_eq_false (by omega)]⟩
  rintro _ _ _ ⟨rfl,rfl⟩;refine r_ifD (λq=>?_) λq=>?_
  ·refine ih (A:=A++Z1) (X:=X2) (Y:=Y2) (B:=B) (by omega) hc (by simpa only[gI] using H3) (by simp;omega) (by omega) (by omega) (gZ.1 q.1) (gZ.1 q.2) sX2 sY2 (λx hx=>hXW x (oX2 x hx)) (λx hx=>hYW x (oY2 x hx)) (λx hx y hy=>hXY x (oX2 x hx) y (oY2 y hy)) (by omega) λZ w4 p4 s4 S4 H4=>?_;obtain⟨f1,f2⟩:=fin Z1 Z p1 p4 s1 s4;exact k _ _ f1 f2 (S3.trans S4) (by simpa only[gI] using H4)
  ·obtain⟨f1,f2⟩:=fin Z1 (X2++Y2) p1 (.refl _) s1 (by
    by_cases q1:X2.length=0
    ·rw[eq_nil_of_length_eq_zero q1,hO_];exact sY2
    ·rw[eq_nil_of_length_eq_zero (show Y2.length=0 by omega),gU];exact sX2)
   exact k _ _ f1 f2 S3 (by simpa only[gI] using H3)
theorem Zpc {n:Nat}(hc:CmpOk W v f L) (H:Holds w (SL nv tI v (List.range' 0 n)::L)) (hW:n<=W.length) (hn:n<=1000000)
  (k:∀ Z w',Seg W 0 Z->Z.length=n->Same w w'->Holds w' (SL nv tI v Z::L)->K (.tuple #[]) w'):Cl prog 287 #[v,nv n,f] w K:=by
 refine Tz287 ?_;unfold Vz287
 refine Za7 (λx y w'=>∃ (a:Nat) (Dn:List Nat),x=nv a/\y=nv (a+20)/\a<=n/\Dn.length=a/\(∀ R,Runs W 20 a R->Runs W 20 0 (Dn++R))/\Same w w'/\Holds w' (SL nv tI v (Dn++List.range' a (n - a))::L)) (λx _ _=>n - (intOf x).toNat)
  ⟨0,[],rfl,rfl,hE _,rfl,λ_ r=>r,.refl _,H⟩ ?_
 clear H;rintro _ _ _ w1 ⟨a,Dn,rfl,rfl,ha,hl,hr,S1,H1⟩;have hinc:∀ lo m,(List.range' lo m).Pairwise (· < ·):=λlo m=>List.pairwise_lt_range'
 have hmem:∀ lo m,lo+m<=n->∀ x∈List.range' lo m,x < W.length:=λlo m h x hx=>by
  have:=mem_range'_1.1 hx;omega
 refine r_leq (r_ifD (λh=>?_) λh=>?_)
 ·rw[Zw3 a (n - a) 20 (by omega)] at H1;refine Zf0 (A:=Dn) (X:=List.range' a 20) hc H1 hl (by simp) (hmem _ _ (by omega)) (hinc _ _) (by omega) λZ w2 p s S2 H2=>?_
  have hZ:Z.length=20:=by rw[p.length_eq];simp
  refine Zac (b:=20) (by omega) (r_ke ⟨⟨a+20,Dn++Z,rfl,rfl,by omega,by rw[gD];omega,λR r=>?_,S1.trans S2,?_⟩,?_⟩)
  ·rw[gI];exact hr _ (.cons ⟨by rw[hZ];exact p,s⟩ hZ r)
  ·rw[show n - (a+20)=n - a - 20 by omega,gI];exact H2
  ·simp only[nv,intOf,gC];omega
 rw[show Dn++List.range' a (n - a)=Dn++(List.range' a (n - a)++[]) by simp] at H1;refine Zf0 (A:=Dn) (X:=List.range' a (n - a)) hc H1 hl (by simp;omega) (hmem _ _ (by omega)) (hinc _ _) (by omega) λZ w2 p s S2 H2=>?_
 have hZ:Z.length=n - a:=by rw[p.length_eq];simp
 have hruns:=hr Z (.last ⟨by rw[hZ];exact p,s⟩ (by omega));rw[gU] at H2
 refine Za8 (λx w'=>∃ (s:Nat) (D:List Nat),x=nv s/\20<=s/\s<=10000000/\Runs W s 0 D/\D.length=n/\Same w w'/\Holds w' (SL nv tI v D::L)) (λx _=>n - (intOf x).toNat)
  ⟨20,_,rfl,by omega,by omega,hruns,by rw[gD];omega,S1.trans S2,H2⟩ ?_
 clear H1 S1 H2 S2 hruns hr;rintro _ _ w3 ⟨bs,D,rfl,hs20,hsb,hru,hDl,S3,H3⟩;refine r_lss (r_ifD (λhlt=>?_) λhlt=>?_)
 rotate_left
 ·exact k D _ (Zgx hru (by omega) (by omega)) hDl S3 H3
 have hbn:bs < n:=by omega
 refine Zbc ((2*bs:Nat):Int) (by omega) (by omega) (by omega) ?_
 refine Za7 (λx y w'=>∃ (a:Nat) (Dn R:List Nat),x=nv a/\y=nv (a+2*bs)/\Dn.length=a/\a+R.length=n/\Runs W bs a R/\(∀ R,Runs W (2*bs) a R->Runs W (2*bs) 0 (Dn++R))/\Same w w'/\Holds w' (SL nv tI v (Dn++R)::L)) (λx _ _=>n - (intOf x).toNat)
  ⟨0,[],D,rfl,by rw[Nat.zero_add],rfl,by omega,hru,λ_ r=>r,S3,H3⟩ ?_
 clear H3 S3 hru hDl;rintro _ _ _ w4 ⟨a2,Dn2,R,rfl,rfl,hl2,hR,hru,hr2,S4,H4⟩;refine r_leq (r_ifD (λh2=>?_) λh2=>?_)
 ·obtain⟨X,R1,rfl,gX,lX,r1⟩:=Ziu hru (by omega);rw[gD] at hR;obtain⟨Y,R2,rfl,gY,lY,r2⟩:=Ziu r1 (by omega);rw[gD] at hR;refine Zac (by omega) ?_
  refine Zqv _ (A:=Dn2) (X:=X) (Y:=Y) (B:=R2) (Nat.le_refl _) hc H4 hl2 (by omega) (by omega) (λe=>by rw[e,length_nil] at lX;omega) (λe=>by rw[e,length_nil] at lY;omega) gX.2 gY.2
   (λx hx=>Nat.lt_of_lt_of_le (Zs3 gX (Nat.le_refl _) x hx) (by omega)) (λx hx=>Nat.lt_of_lt_of_le (Zs3 gY (Nat.le_refl _) x hx) (by omega)) (Zrp gX lX gY) (by omega) λZ w5 p s S5 H5=>?_
  have lZ:Z.length=2*bs:=by rw[p.length_eq,gD];omega
  refine Zbc ((2*bs:Nat):Int) (by omega) (by omega) (by omega) ?_;refine Zac (by omega) (r_ke ⟨⟨a2+2*bs,Dn2++Z,R2,rfl,rfl,by rw[gD];omega,by omega,?_,λQ q=>?_,S4.trans S5,?_⟩,?_⟩)
  ·rw[show a2+2*bs=a2+bs+bs by omega];exact r2
  ·rw[gI];exact hr2 _ (.cons (gX.join lX gY p s) lZ q)
  ·rw[gI];exact H5
  ·simp only[nv,intOf,gC];omega
 refine Zac (by omega) (r_lss (r_ifD (λh3=>?_) λh3=>?_))
 ·obtain⟨X,Y,rfl,gX,lX,r1⟩:=Ziu hru (by omega);rw[gD] at hR;have gY:=Zgx r1 (by omega) (by omega);rw[show Dn2++(X++Y)=Dn2++(X++(Y++[])) by rw[gU]] at H4
  refine Zqv _ (A:=Dn2) (X:=X) (Y:=Y) (B:=[]) (Nat.le_refl _) hc H4 hl2 (by omega) (by omega) (λe=>by rw[e,length_nil] at lX;omega) (λe=>by rw[e,length_nil] at hR;omega) gX.2 gY.2
   (λx hx=>Nat.lt_of_lt_of_le (Zs3 gX (Nat.le_refl _) x hx) (by omega)) (λx hx=>Nat.lt_of_lt_of_le (Zs3 gY (Nat.le_refl _) x hx) (by omega)) (Zrp gX lX gY) (by omega) λZ w5 p s S5 H5=>?_
  have lZ:Z.length=bs+Y.length:=by rw[p.length_eq,gD];omega
  rw[gU] at H5;refine Zbc ((2*bs:Nat):Int) (by omega) (by omega) (by omega) ?_;refine r_ke ⟨⟨2*bs,Dn2++Z,rfl,by omega,by omega,hr2 Z (.last (gX.join lX gY p s) (by omega)),by rw[gD];omega,S4.trans S5,H5⟩,?_⟩;simp only[nv,intOf,gC];omega
 ·refine Zbc ((2*bs:Nat):Int) (by omega) (by omega) (by omega) ?_;refine r_ke ⟨⟨2*bs,Dn2++R,rfl,by omega,by omega,hr2 R (.last (Zgx hru (by omega) (by omega)) (by omega)),by rw[gD];omega,S4,H4⟩,?_⟩;simp only[nv,intOf,gC];omega
theorem Zxg {n:Nat}(hc:CmpOk W v f L) (H:Holds w (SL nv tI v (List.range' 0 n)::L)) (hW:n<=W.length) (hn:n<=1000000)
  (k:∀ Z w',Seg W 0 Z->Z.length=n->Same w w'->Holds w' (SL nv tI v Z::L)->K (.tuple #[]) w'):Cl prog 278 #[v,f] w K:=by
 refine Tz278 ?_;unfold Vz278;refine r_lnS 0 H rfl ?_;rw[length_range'];refine Zpc hc H hW hn λZ w' g l S' H'=>?_;exact k Z w' g l S' H'
abbrev tIs:Nat:=69
def fnT (wb:Nat):Value:=.func (.func 279) #[] #[pt wb]
theorem Ye2 {wb i j:Nat}{wv:Value}(hi:L[i]?=some (blk wb tIs [wv])) (hj:L[j]?=some (SL nv tI wv W)):CmpOk W v (fnT wb) L:=by
 intro D w x y Q H hx hy k
 have gx:W[x]?=some (W.getD x 0):=by rw[gB,gA hx];rfl
 have gy:W[y]?=some (W.getD y 0):=by rw[gB,gA hy];rfl
 refine r_inv (f:=279) (args:=#[nv x,nv y,pt wb]) (by kernel_rfl) ?_;refine Tz279 ?_;unfold Vz279;refine r_dr H λw1 S1 H1=>?_;refine r_ld (i+1) H1 (by rw[gF];exact hi) rfl ?_;refine Za6 (j+1) H1 (by rw[gF];exact hj) gx ?_;refine r_ld (i+1) H1 (by rw[gF];exact hi) rfl ?_;refine Za6 (j+1) H1 (by rw[gF];exact hj) gy ?_;generalize W.getD x 0=p at *;generalize W.getD y 0=q at *
 have nan:∀ (c:Nat) {K:KT},K (.bool false) w1->Cl prog 288 #[nv c] w1 K:=by
  intro c K h;refine Tz288 ?_;unfold Vz288;refine r_neq ?_;rw[show ((c:Int) != (c:Int))=false by simp];exact h
 refine r_cl (K:=λz w'=>w1=w'/\∃ c:Int,z=iv c/\(c < 0↔p < q)) ?_ ?_
 ·refine Tz280 ?_;unfold Vz280;refine nan p (nan q (r_vf (r_vf ?_)));refine r_lss (r_ifD (λh=>?_) λh=>?_)
  ·exact⟨rfl,-1,rfl,by omega⟩
  ·refine r_gtr (r_ifD (λh2=>?_) λh2=>?_)
   ·exact⟨rfl,1,rfl,by omega⟩
   ·exact⟨rfl,0,rfl,by omega⟩
 rintro _ _ ⟨rfl,c,rfl,hcc⟩;exact k c _ hcc S1 H1
end S09
end Go.Proofs.YtgaiocpkjaaphaaGreatDoor
namespace Go.Proofs.YtgaiocpkjaaphaaGreatDoor
open Go Go.Vc Go.Proofs.Tryz
theorem Ydo {size:Nat}{a:Option Addr}{n c l:Nat}{k:IntKind}{K:Value->Prop}(h1:l<=n) (h2:n<=c) (hK:K (.slice (if c=l then a else a.map (·.add (l*size))) (n - l) (c - l))) :
  Ssl size (.slice a n c) (some (.int k (l:Int))) none K:=⟨a,n,c,l,n,rfl,⟨k,rfl⟩,rfl,h1,h2,hK⟩
attribute [local irreducible] Vc.Nc Vc.Ld Vc.LdA Vc.St Vc.StA Vc.Fo Vc.Iaa Vc.Ias Vc.Ixs Vc.Ixa Vc.Fd Vc.FdA Vc.Bp Vc.Bb Vc.Bn Vc.Up Vc.Ci Vc.Lns Vc.Lnl Vc.Ex Vc.Sst Vc.Ssl Vc.New Vc.Vif Vc.VJoin Vc.VLoop Vc.KE Vc.Dr Vc.Rk Vc.Cl Vc.Cx Vc.Inv Vc.Be Vc.Cv Vc.Cw Vc.Mf Vc.Sl Vc.Lk Vc.Bd Vc.Bs Vc.Ms Vc.Mm Vc.Mu Vc.Me Vc.Es Vc.Rg Vc.Nx Vc.Ta Vc.Ap Vc.Usd Vc.Ust Vc.Cp Vc.Ln Vc.Bc Vc.Bmin Vc.Bmax Vc.Bdel Vc.Bclr Vc.Pk
namespace T09
open Go.Mh Go.Ms S09
variable {w:World}{L:List HProp}{K:KT}{W lf:List Nat}{tb j:Nat}{wv xv lv:Value}
abbrev tTr:Nat:=316
def fI:Option Nat->Value
 |none=>iv (-1)
 |some p=>nv p
theorem sg_fI (o:Option Nat):sg (fI o)=true:=by cases o <;> rfl
def LV (v:Value) (lf:List Nat):HProp:=λh=>∃ b o c cells,(v=.slice (some ⟨b,o,none⟩) lf.length c/\lf.length<=c/\(cells.drop o).take lf.length=lf.map nv)/\blk b tI cells h
theorem Yce (H:Holds w L) (i:Nat){v:Value}(hi:L[i]?=some (LV v lf)):∃ b o c cells,v=.slice (some ⟨b,o,none⟩) lf.length c/\lf.length<=c/\(cells.drop o).take lf.length=lf.map nv/\Holds w (L.set i (blk b tI cells)):=by
 obtain⟨g,⟨b,o,c,cells,⟨h1,h2,h3⟩,hg⟩,hs,hL⟩:=H.front i hi;exact⟨b,o,c,cells,h1,h2,h3,Sat.push i hi ⟨g,hg,hs,hL⟩⟩
theorem Zlr (H:Holds w L) (i:Nat){b o c:Nat}{cells:List Value}(hi:L[i]?=some (blk b tI cells)) (h2:lf.length<=c) (h3:(cells.drop o).take lf.length=lf.map nv) :
  Holds w (L.set i (LV (.slice (some ⟨b,o,none⟩) lf.length c) lf)):=H.at i hi λg hg=>⟨b,o,c,cells,⟨rfl,h2,h3⟩,hg⟩
theorem Zyw {v:Value}(H:Holds w L) (i:Nat) (hi:L[i]?=some (SL nv tI v lf)) (hne:lf≠[]):Holds w (L.set i (LV v lf)):=by
 obtain⟨oa,sp,rfl,H1⟩:=H.open i hi
 cases oa with
 |none=>
  obtain⟨g,⟨h2,_⟩,_⟩:=H1.front i (Za5 hi);exact absurd h2 hne
 |some a=>
  obtain⟨g,⟨h2,h3,_⟩,_⟩:=H1.front i (Za5 hi);obtain⟨b,o,s⟩:=a;simp only at h2 h3;subst h2;subst h3;have H2:=H1.slb i (Za5 hi);have H3:=Zlr (lf:=lf) (c:=lf.length+sp.length) (o:=0) H2 i (Za5 (Za5 hi)) (by omega) (by rw[drop_zero,List.take_left' (by simp)]);rw[set_set,set_set] at H3;exact H3
theorem least_spec (H:Holds w (blk tb tTr [wv,xv,lv,nv j]::SL nv tI wv W::LV lv lf::L)) (hj:j<=W.length) (hl:∀ x∈lf,x < W.length) (hne:lf≠[]\/j < W.length) (hW:W.length<=1000000)
  (k:∀ lv' w',Same w w'->Holds w' (blk tb tTr [wv,xv,lv',nv (tail2 W lf j)]::SL nv tI wv W::LV lv' (tail1 W lf j)::L)->K (nv (head W lf j)) w'):Cl prog 271 #[pt tb] w K:=by
 refine Tz271 ?_;unfold Vz271;obtain⟨b,o,c,cells,rfl,hc,hcells,H1⟩:=Yce H 2 rfl;replace H1:Holds w (blk tb tTr [wv,xv,.slice (some ⟨b,o,none⟩) lf.length c,nv j]::SL nv tI wv W::blk b tI cells::L):=H1
 have g:∀ x,x < W.length->W[x]?=some (W.getD x 0):=λx hx=>by rw[gB,gA hx];rfl
 have back:∀ {w':World} {K':KT},j < W.length->Same w w'->Holds w' (blk tb tTr [wv,xv,.slice (some ⟨b,o,none⟩) lf.length c,nv j]::SL nv tI wv W::blk b tI cells::L)->
   (∀ w2,Same w w2->Holds w2 (blk tb tTr [wv,xv,.slice (some ⟨b,o,none⟩) lf.length c,nv (j+1)]::SL nv tI wv W::LV (.slice (some ⟨b,o,none⟩) lf.length c) lf::L)->K' (nv j) w2)->
   Nc (pt tb) (Fo 3 (pt tb) λx_10=>Ld x_10 w' λx_11=>Bp .add x_11 (.int .i64 1) λx_12=>Nc (pt tb) (Fo 3 (pt tb) λx_13=>St x_13 x_12 w' λw3=>Nc (pt tb) (Fo 3 (pt tb) λx_14=>Ld x_14 w3 λx_15=>Bp .sub x_15 (.int .i64 1) λx_16=>K' x_16 w3))):=by
  intro w' K' hlt S' H' kk;refine r_nc (r_fo0 (r_ld 0 H' rfl rfl ?_));refine Za0 (by omega) ?_;refine r_nc (r_fo0 (r_st 0 H' rfl (by simp) rfl λw2 S2 H2=>?_));replace H2:Holds w2 (blk tb tTr [wv,xv,.slice (some ⟨b,o,none⟩) lf.length c,nv (j+1)]::SL nv tI wv W::blk b tI cells::L):=H2;refine r_nc (r_fo0 (r_ld 0 H2 rfl rfl ?_));refine Zaa (by omega) (by omega) ?_;exact kk w2 (S'.trans S2) (Zlr H2 2 rfl hc hcells)
 cases lf with
 |nil=>
  have hlt:j < W.length:=by rcases hne with h|h;exact absurd rfl h;exact h
  refine Za2 (λt w'=>Same w w'/\Holds w' (blk tb tTr [wv,xv,.slice (some ⟨b,o,none⟩) ([]:List Nat).length c,nv j]::SL nv tI wv W::blk b tI cells::L)/\t=.bool false) ?_ ?_
  rotate_left
  ·refine r_dr H1 λw2 S2 H2=>?_;refine r_nc (r_fo0 (r_ld 0 H2 rfl rfl ?_));refine r_nc (r_fo0 (r_ld 0 H2 rfl rfl ?_));refine r_lnS 1 H2 rfl ?_;refine r_eql (r_vfE (by omega) ?_);refine r_nc (r_fo0 (r_ld 0 H2 rfl rfl ?_));refine r_lnl ?_;refine r_gtr (r_vfD (by simp) ?_);exact r_ke ⟨S2,H2,rfl⟩
  rintro _ _ w2 ⟨S2,H2,rfl⟩;refine r_vf (back hlt S2 H2 λw3 S3 H3=>?_);exact k _ _ S3 H3
 |cons x l=>
  have hxW:=hl x (hJ_ ..)
  have hc0:cells[o]?=some (nv x):=by
   have:=congrArg (·[0]?) hcells;simpa using this
  refine Za2 (λt w'=>Same w w'/\Holds w' (blk tb tTr [wv,xv,.slice (some ⟨b,o,none⟩) (x::l).length c,nv j]::SL nv tI wv W::blk b tI cells::L)/\t=.bool (decide (j=W.length\/W.getD x 0<=W.getD j 0))) ?_ ?_
  rotate_left
  ·refine r_dr H1 λw2 S2 H2=>?_;refine r_nc (r_fo0 (r_ld 0 H2 rfl rfl ?_));refine r_nc (r_fo0 (r_ld 0 H2 rfl rfl ?_));refine r_lnS 1 H2 rfl ?_;refine r_eql (r_ifE (λh=>?_) λh=>?_)
   ·exact r_ke ⟨S2,H2,by rw[decide_eq_true (.inl (by omega))]⟩
   refine r_nc (r_fo0 (r_ld 0 H2 rfl rfl ?_));refine r_lnl ?_;refine r_gtr (r_vtD (by rw[length_cons];omega) ?_);refine r_nc (r_fo0 (r_ld 0 H2 rfl rfl ?_));refine r_nc (r_fo0 (r_ld 0 H2 rfl rfl ?_));refine r_ias (n:=0) (by omega) (by rw[length_cons];omega) ?_;refine r_ld 2 H2 rfl (v:=nv x) (by simpa using hc0) ?_;refine Za6 1 H2 rfl (g x hxW) ?_;refine r_nc (r_fo0 (r_ld 0 H2 rfl rfl ?_));refine r_nc (r_fo0 (r_ld 0 H2 rfl rfl ?_));refine Za6 1 H2 rfl (g j (by omega)) ?_;refine r_leq (r_ke ⟨S2,H2,?_⟩)
   congr 1
   exact decide_eq_decide.2 (by omega)
  rintro _ _ w2 ⟨S2,H2,rfl⟩;refine r_ifD (λh=>?_) λh=>?_
  ·refine r_nc (r_fo0 (r_ld 0 H2 rfl rfl ?_));refine r_ias (n:=0) (by omega) (by rw[length_cons];omega) ?_;refine r_ld 2 H2 rfl (v:=nv x) (by simpa using hc0) ?_;refine r_nc (r_fo0 (r_ld 0 H2 rfl rfl ?_));rw[length_cons] at hc;refine Ydo (l:=1) (by rw[length_cons];omega) (by rw[length_cons];omega) ?_;refine r_nc (r_fo0 (r_st 0 H2 rfl (by simp) rfl λw3 S3 H3=>?_))
   obtain⟨o',ho',hcl⟩:∃ o',(if c=1 then some (⟨b,o,none⟩:Addr) else Option.map (λq:Addr=>q.add (1*1)) (some (⟨b,o,none⟩:Addr)))=some (⟨b,o',none⟩:Addr)/\(cells.drop o').take l.length=l.map nv:=by
    by_cases hc1:c=1
    ·have:l=[]:=eq_nil_of_length_eq_zero (by omega);subst this;exact⟨o,by rw[if_pos hc1],by simp⟩
    ·refine⟨o+1,by rw[if_neg hc1];rfl,?_⟩;have:=congrArg (·.drop 1) hcells;simpa [List.drop_take,drop_drop] using this
   rw[ho'] at H3;replace H3:Holds w3 (blk tb tTr [wv,xv,.slice (some ⟨b,o',none⟩) l.length (c - 1),nv j]::SL nv tI wv W::blk b tI cells::L):=H3;have H4:=Zlr (lf:=l) (c:=c - 1) (o:=o') H3 2 rfl (by omega) hcl;have e1:head W (x::l) j=x:=if_pos h;have e2:tail1 W (x::l) j=l:=if_pos h;have e3:tail2 W (x::l) j=j:=if_pos h;have:=k (.slice (some ⟨b,o',none⟩) l.length (c - 1)) w3 (S2.trans S3);rw[e1,e2,e3] at this;exact this H4
  ·have e1:head W (x::l) j=j:=if_neg h;have e2:tail1 W (x::l) j=x::l:=if_neg h;have e3:tail2 W (x::l) j=j+1:=if_neg h;refine back (by omega) S2 H2 λw3 S3 H3=>?_;have:=k (.slice (some ⟨b,o,none⟩) (x::l).length c) w3 S3;rw[e1,e2,e3] at this;exact this H3
theorem join_spec {I:List (Option Nat)}{a b:Nat}(H:Holds w (blk tb tTr [wv,xv,lv,nv j]::SL nv tI wv W::SL fI tI xv I::L)) (ha:a < W.length) (hb:b < W.length) (hI:I.length=W.length) (hW:W.length<=1000000)
  (hs:W.getD a 0+W.getD b 0 < 9223372036854775807)
  (k:∀ wv' xv' w',Same w w'->Holds w' (blk tb tTr [wv',xv',lv,nv j]::SL nv tI wv' (W++[W.getD a 0+W.getD b 0])::SL fI tI xv' (((I.set a (some W.length)).set b (some W.length))++[none])::L)->K (.tuple #[]) w'):Cl prog 272 #[pt tb,nv a,nv b] w K:=by
 refine Tz272 ?_;unfold Vz272
 have g:∀ x,x < W.length->W[x]?=some (W.getD x 0):=λx hx=>by rw[gB,gA hx];rfl
 refine r_dr H λw1 S1 H1=>?_;refine r_nc (r_fo0 (r_ld 0 H1 rfl rfl ?_));refine r_nc (r_fo0 (r_ld 0 H1 rfl rfl ?_));refine r_lnS 1 H1 rfl ?_;refine Zat 2 H1 (f:=fI) (some W.length) rfl (by omega) rfl λw2 S2 H2=>?_;replace H2:Holds w2 (blk tb tTr [wv,xv,lv,nv j]::SL nv tI wv W::SL fI tI xv (I.set a (some W.length))::L):=H2;refine r_dr H2 λw3 S3 H3=>?_;refine r_nc (r_fo0 (r_ld 0 H3 rfl rfl ?_));refine r_nc (r_fo0 (r_ld 0 H3 rfl rfl ?_));refine r_lnS 1 H3 rfl ?_;refine Zat 2 H3 (f:=fI) (some W.length) rfl (by rw[hX_];omega) rfl λw4 S4 H4=>?_;replace H4:Holds w4 (blk tb tTr [wv,xv,lv,nv j]::SL nv tI wv W::SL fI tI xv ((I.set a (some W.length)).set b (some W.length))::L):=H4;refine r_dr H4 λw5 S5 H5=>?_;refine r_nc (r_fo0 (r_ld 0 H5 rfl rfl ?_));refine r_nc (r_fo0 (r_ld 0 H5 rfl rfl ?_));refine Za6 1 H5 rfl (g a ha) ?_;refine r_nc (r_fo0 (r_ld 0 H5 rfl rfl ?_));refine Za6 1 H5 rfl (g b hb) ?_;refine Zac hs ?_;refine Zow (f:=nv) H5 1 (xs:=W) rfl (W.getD a 0+W.getD b 0) (λ_=>rfl) (by omega) (λw' H'=>r_ld 0 H' rfl rfl rfl) λwv' w6 S6 H6=>?_;replace H6:Holds w6 (blk tb tTr [wv,xv,lv,nv j]::SL nv tI wv' (W++[W.getD a 0+W.getD b 0])::SL fI tI xv ((I.set a (some W.length)).set b (some W.length))::L):=H6;refine r_nc (r_fo0 (r_st 0 H6 rfl (by simp) (SL_sg H6 1 rfl) λw7 S7 H7=>?_));replace H7:Holds w7 (blk tb tTr [wv',xv,lv,nv j]::SL nv tI wv' (W++[W.getD a 0+W.getD b 0])::SL fI tI xv ((I.set a (some W.length)).set b (some W.length))::L):=H7;refine r_nc (r_fo0 (r_ld 0 H7 rfl rfl ?_));refine Zam (f:=fI) H7 2 (xs:=(I.set a (some W.length)).set b (some W.length)) rfl none sg_fI (by rw[hX_,hX_];omega) λxv' w8 S8 H8=>?_;replace H8:Holds w8 (blk tb tTr [wv',xv,lv,nv j]::SL nv tI wv' (W++[W.getD a 0+W.getD b 0])::SL fI tI xv' (((I.set a (some W.length)).set b (some W.length))++[none])::L):=H8;refine r_nc (r_fo0 (r_st 0 H8 rfl (by simp) (SL_sg H8 2 rfl) λw9 S9 H9=>?_));exact k wv' xv' w9 (S1.trans (S2.trans (S3.trans (S4.trans (S5.trans (S6.trans (S7.trans (S8.trans S9)))))))) H9
theorem Zoe {v:Value}{i:Nat}(H:Holds w L) (hi:L[i]?=some (SL nv tI v W)) (h0:0 < W.length) (hW:W.length<=100000)
  (k:∀ tb wv xv lv lf w',Seg W 0 lf->lf.length=W.length->Same w w'->Holds w' (blk tb tTr [wv,xv,lv,nv W.length]::SL nv tI wv W::SL fI tI xv (List.replicate W.length none)::LV lv lf::L)->K (pt tb) w'):Cl prog 270 #[v] w K:=by
 refine Tz270 ?_;unfold Vz270;obtain⟨oa,sp,rfl,_⟩:=H.open i hi;refine r_new H λwb w1 S1 H1=>?_;replace H1:Holds w1 (blk wb tIs [.slice oa W.length (W.length+sp.length)]::L):=H1;refine r_dr H1 λw2 S2 H2=>?_;refine r_ld 0 H2 rfl rfl ?_;refine Zbt H2 (i+1) (by rw[gF];exact hi) (by omega) λcv w3 S3 H3=>?_;refine r_ld 1 H3 rfl rfl ?_;refine r_rk (r_ld 0 H2 rfl rfl rfl) ?_;refine r_lnl (r_rk (r_lnl rfl) ?_);obtain⟨oa',sp',rfl,_⟩:=H3.open 0 rfl;refine r_bd (v:=.agg #[.slice oa' W.length (W.length+sp'.length),.slice none 0 0,.slice none 0 0,nv W.length]) (by kernel_rfl) ?_;refine r_new H3 λtb w4 S4 H4=>?_;generalize hcv:Value.slice oa' W.length (W.length+sp'.length)=cv at *;generalize hv:Value.slice oa W.length (W.length+sp.length)=v at *;replace H4:Holds w4 (blk tb tTr [cv,.slice none 0 0,.slice none 0 0,nv W.length]::SL nv tI cv W::blk wb tIs [v]::L):=H4;refine r_ld 2 H4 rfl rfl ?_;rw[<-hv];refine r_lnl ?_;have H5:=((H4.nilSL nv tI).nilSL fI tI).ord 5 [2,3,0,1,4] rfl
 refine Za8 (λx w'=>∃ (n:Nat) (xv lv:Value),x=nv n/\n<=W.length/\Same w w'/\Holds w' (blk tb tTr [cv,xv,lv,nv W.length]::SL nv tI cv W::SL fI tI xv (List.replicate n none)::SL nv tI lv (List.range' 0 n)::blk wb tIs [v]::L)) (λx _=>W.length - (intOf x).toNat)
  ⟨0,.slice none 0 0,.slice none 0 0,rfl,hE _,S1.trans (S2.trans (S3.trans S4)),H5⟩ ?_
 clear H5 H4 H3 H2 H1 S1 S2 S3 S4;rintro _ _ w5 ⟨n,xv,lv,rfl,hn,S5,H5⟩;refine r_lss (r_ifD (λh=>?_) λh=>?_)
 ·refine r_nc (r_fo0 (r_ld 0 H5 rfl rfl ?_));refine Zam (f:=nv) H5 3 (xs:=List.range' 0 n) rfl n (λ_=>rfl) (by simp;omega) λlv' w6 S6 H6=>?_;rw[show List.range' 0 n++[n]=List.range' 0 (n+1) by rw[List.range'_concat];simp] at H6;replace H6:Holds w6 (blk tb tTr [cv,xv,lv,nv W.length]::SL nv tI cv W::SL fI tI xv (List.replicate n none)::SL nv tI lv' (List.range' 0 (n+1))::blk wb tIs [v]::L):=H6;refine r_nc (r_fo0 (r_st 0 H6 rfl (by simp) (SL_sg H6 3 rfl) λw7 S7 H7=>?_));replace H7:Holds w7 (blk tb tTr [cv,xv,lv',nv W.length]::SL nv tI cv W::SL fI tI xv (List.replicate n none)::SL nv tI lv' (List.range' 0 (n+1))::blk wb tIs [v]::L):=H7;refine r_nc (r_fo0 (r_ld 0 H7 rfl rfl ?_));refine Zam (f:=fI) H7 2 (xs:=List.replicate n none) rfl none sg_fI (by simp;omega) λxv' w8 S8 H8=>?_;rw[<-List.replicate_succ'] at H8;replace H8:Holds w8 (blk tb tTr [cv,xv,lv',nv W.length]::SL nv tI cv W::SL fI tI xv' (List.replicate (n+1) none)::SL nv tI lv' (List.range' 0 (n+1))::blk wb tIs [v]::L):=H8;refine r_nc (r_fo0 (r_st 0 H8 rfl (by simp) (SL_sg H8 2 rfl) λw9 S9 H9=>?_));replace H9:Holds w9 (blk tb tTr [cv,xv',lv',nv W.length]::SL nv tI cv W::SL fI tI xv' (List.replicate (n+1) none)::SL nv tI lv' (List.range' 0 (n+1))::blk wb tIs [v]::L):=H9;refine Za0 (by omega) (r_ke ⟨⟨n+1,xv',lv',rfl,by omega,S5.trans (S6.trans (S7.trans (S8.trans S9))),H9⟩,?_⟩);simp only[nv,intOf,gC];omega
 obtain rfl:n=W.length:=by omega
 refine r_nc (r_fo0 (r_ld 0 H5 rfl rfl ?_));refine r_mf (fnT wb) (by kernel_rfl) ?_;have H6:=H5.ord 5 [3,0,1,2,4] rfl;refine Zxg (W:=W) (Ye2 (i:=3) (j:=i+4) (wb:=wb) (wv:=v) rfl hi) H6 (Nat.le_refl _) (by omega) λZ w7 hZ lZ S7 H7=>?_;have H8:=Zyw H7 0 rfl (λe=>by rw[e,length_nil] at lZ;omega);have H9:=H8.ord 5 [1,2,3,0] rfl;exact k tb cv xv lv Z w7 hZ lZ (S5.trans S7) H9
theorem Ycr {v:Value}{D:List Nat}{n i:Nat}{K:Value->Prop}(H:Holds w L) (hi:L[i]?=some (SL nv tI v D)) (hn:n<=D.length) (hD:D≠[])
  (k:∀ v',Holds w (L.set i (SL nv tI v' (D.take n)))->K v'):Ssl 1 v none (some (nv n)) K:=by
 obtain⟨oa,sp,rfl,H1⟩:=H.open i hi
 cases oa with
 |none=>
  obtain⟨g,⟨h2,_⟩,_⟩:=H1.front i (Za5 hi);exact absurd h2 hD
 |some a=>
  obtain⟨g,⟨h2,h3,_⟩,_⟩:=H1.front i (Za5 hi);obtain⟨b,o,s⟩:=a;simp only at h2 h3;subst h2;subst h3;refine Zqh (by omega) (k _ ?_);have H2:=H1.slb i (Za5 hi);rw[set_set] at H2;rw[show D.map nv++sp=(D.take n).map nv++((D.drop n).map nv++sp) by rw[<-gI,<-map_append,hN_]] at H2;have H3:=H2.slb' (xs:=D.take n) (f:=nv) i (Za5 hi);rw[set_set] at H3;have H4:=H3.close i (Za5 hi);rw[set_set] at H4
  have e1:(D.take n).length=n:=by rw[gN];omega
  have e2:n+((D.drop n).map nv++sp).length=D.length+sp.length:=by simp;omega
  rw[e1,e2] at H4;exact H4
theorem Zpk {v:Value}{i:Nat}(H:Holds w L) (hi:L[i]?=some (SL nv tI v W)) (h2:2<=W.length) (hW:W.length<=258) (hw:∀ x∈W,x<=1099511627776)
  (k:∀ v' out w',Depths W out->Same w w'->Holds w' (SL nv tI v' out::L)->K v' w'):Cl prog 252 #[v] w K:=by
 refine Tz252 ?_;unfold Vz252;have hT:Tot (h0 W)<=258*1099511627776:=Nat.le_trans (tot0 hw) (Nat.mul_le_mul_right _ hW);refine Zoe H hi (by omega) (by omega) λtb wv0 xv0 lv0 lf0 w1 hS hl S1 H1=>?_;refine r_lnS i H hi ?_;refine Zaa (by omega) (by omega) ?_
 refine Za8 (λx w'=>∃ (q:Nat) (s:HS) (lf:List Nat) (j:Nat) (wv xv lv:Value),x=nv q/\q<=W.length - 1/\Joins (h0 W) q s/\Queue W.length s lf j/\Tot s=Tot (h0 W)/\(0 < q->s.W.length - 1∈s.V)/\Same w w'/\
   Holds w' (blk tb tTr [wv,xv,lv,nv j]::SL nv tI wv s.W::SL fI tI xv s.I::LV lv lf::L)) (λx _=>W.length - (intOf x).toNat)
  ⟨0,h0 W,lf0,W.length,wv0,xv0,lv0,rfl,hE _,.start,queue0 (by rw[List.range_eq_range',<-hl];exact hS.1) hS.2,rfl,λe=>absurd e (Nat.lt_irrefl _),S1,H1⟩ ?_
 clear H1 S1;rintro _ _ w2 ⟨q,s,lf,j,wv,xv,lv,rfl,hq,hJ,hQ,hTt,hlast,S2,H2⟩;obtain⟨hg,hVl,hWl⟩:=Zbu hJ;refine r_lss (r_ifD (λh=>?_) λh=>?_)
 ·have hV2:2<=s.V.length:=by omega
  obtain⟨s',a,b,ea,eb,jn,hQ',hal,hbl,hne⟩:=Zti hg hQ hV2;have hjn:=hQ.jn;have hlen:=hQ.perm.length_eq;rw[gD,length_range'] at hlen;obtain⟨a1,a2,a3,a4,a5⟩:=Zgz hQ.jn hQ.lfn hQ.sorted hQ.mono (by intro e;have:=congrArg List.length e;rw[gD,length_range',length_nil] at this;omega);have hlen2:=a2.length_eq;rw[length_erase_of_mem a1.1,gD,gD,length_range',length_range'] at hlen2;have tt:=Zq7 jn.la.1 jn.lb.1;have H3:Holds w2 (blk tb tTr [wv,xv,lv,nv j]::SL nv tI wv s.W::LV lv lf::SL fI tI xv s.I::L):=H2.ord 4 [0,1,3,2] rfl
  refine least_spec H3 hjn.2 (λx hx=>by have:=hQ.lfn x hx;omega) (by
   by_cases e:lf=[]
   ·right;rw[e,length_nil] at hlen;omega
   ·exact .inl e) (by omega) λlv1 w3 S3 H4=>?_
  refine least_spec H4 a3.2 (λx hx=>by have:=a4 x hx;omega) (by
   by_cases e:tail1 s.W lf j=[]
   ·right;rw[e,length_nil] at hlen2;omega
   ·exact .inl e) (by omega) λlv2 w4 S4 H5=>?_
  rw[<-ea,<-eb];generalize tail1 s.W (tail1 s.W lf j) (tail2 s.W lf j)=lf2 at *;generalize tail2 s.W (tail1 s.W lf j) (tail2 s.W lf j)=j2 at *;have H6:Holds w4 (blk tb tTr [wv,xv,lv2,nv j2]::SL nv tI wv s.W::SL fI tI xv s.I::LV lv2 lf2::L):=H5.ord 4 [0,1,3,2] rfl;refine join_spec H6 hal hbl hg.len (by omega) (by omega) λwv' xv' w5 S5 H7=>?_;rw[<-jn.W,<-jn.I] at H7;refine Za0 (by omega) (r_ke ⟨⟨q+1,s',lf2,j2,wv',xv',lv2,rfl,by omega,hJ.next jn,hQ',(Zm9 hg jn).trans hTt,λ_=>?_,S2.trans (S3.trans (S4.trans S5)),H7⟩,?_⟩)
  ·rw[jn.V.mem_iff,jn.W,gD,gQ,Nat.add_sub_cancel];exact hJ_ ..
  ·simp only[nv,intOf,gC];omega
 obtain rfl:q=W.length - 1:=by omega
 obtain⟨r,hr⟩:=List.length_eq_one_iff.1 (show s.V.length=1 by omega)
 have hrl:r=s.W.length - 1:=by
  have:=hlast (by omega);rw[hr] at this;exact (mem_singleton.1 this).symm
 have hup:∀ x p,s.I[x]?=some (some p)->x < p/\p < s.W.length:=by
  intro x p hx
  have h1:x < s.W.length:=by have:=(gH.1 hx).1;rw[hg.len] at this;exact this
  have h3:x∉s.V:=λe=>by rw[hg.live x e] at hx;cases hx
  obtain⟨p',h4,h5,h6⟩:=hg.dead x h1 h3;rw[hx] at h4;cases h4;exact⟨h5,h6⟩
 refine r_nc (r_fo0 (r_ld 0 H2 rfl rfl ?_));refine r_lnS 1 H2 rfl ?_;obtain⟨m,hm⟩:∃ m,m=s.W.length:=⟨_,rfl⟩;rw[<-hm];refine r_ms (f:=nv) (x:=0) H2 rfl (by omega) (by omega) λob w3 S3 H3=>?_;rw[gC] at H3 ⊢;have H4:=H3.close 0 rfl;simp only[gJ,gP,length_nil,Nat.add_zero] at H4;generalize hv:Value.slice (some ⟨ob,0,none⟩) m m=ov at H4 ⊢;refine r_lnS 0 H4 rfl ?_;rw[gP];refine Zc6 (b:=2) (by omega) (by omega) ?_
 have hz:∀ x,(List.replicate m 0).getD x 0=0:=λx=>by
  rw[gB,List.getElem?_replicate]
  split <;> rfl
 refine Za8 (λx w'=>∃ (t:Nat) (D:List Nat),x=iv ((t:Int) - 1)/\t<=m - 1/\D.length=m/\D.getD (m - 1) 0=0/\(∀ x p,t<=x->s.I[x]?=some (some p)->D.getD x 0=D.getD p 0+1)/\(∀ x,D.getD x 0<=m - x)/\Same w w'/\
   Holds w' (SL nv tI ov D::blk tb tTr [wv,xv,lv,nv j]::SL nv tI wv s.W::SL fI tI xv s.I::LV lv lf::L)) (λx _=>(intOf x+1).toNat)
  ⟨m - 1,List.replicate m 0,by rw[show ((m - 1:Nat):Int) - 1=((m - 2:Nat):Int) by omega],Nat.le_refl _,gP,hz _,λx p h1 h3=>by have:=hup x p h3;omega,λx=>by rw[hz];omega,S2.trans S3,H4⟩ ?_
 clear H4 H3 S3 S2 H2;rintro _ _ w4 ⟨t,D,rfl,ht,hDl,hD0,hD,hDb,S4,H4⟩;refine r_geq (r_ifD (λh=>?_) λh=>?_)
 ·obtain⟨x,rfl⟩:∃ x,t=x+1:=⟨t - 1,by omega⟩;rw[show ((x+1:Nat):Int) - 1=(x:Int) by omega];obtain⟨p,hp,hxp,hpm⟩:=hg.dead x (by omega) (by rw[hr];intro e;have:=mem_singleton.1 e;omega);refine r_nc (r_fo0 (r_ld 1 H4 rfl rfl ?_));refine Za6 3 H4 (f:=fI) rfl hp ?_
  have hpD:D[p]?=some (D.getD p 0):=by rw[gB,gA (by omega)];rfl
  refine Za6 0 H4 (j:=p) rfl hpD ?_;have hb:=hDb p;refine Za0 (by omega) ?_;refine Zat 0 H4 (D.getD p 0+1) rfl (by omega) rfl λw5 S5 H5=>?_;replace H5:Holds w5 (SL nv tI ov (D.set x (D.getD p 0+1))::blk tb tTr [wv,xv,lv,nv j]::SL nv tI wv s.W::SL fI tI xv s.I::LV lv lf::L):=H5;refine r_sub (by omega) (by omega) ?_
  have hset:∀ y,(D.set x (D.getD p 0+1)).getD y 0=if y=x then D.getD p 0+1 else D.getD y 0:=by
   intro y;rw[gB,getElem?_set]
   by_cases e:x=y
   ·subst e;rw[if_pos rfl,if_pos (by omega),if_pos rfl];rfl
   ·rw[if_neg e,if_neg (λe2=>e e2.symm),<-gB]
  refine r_ke ⟨⟨x,_,rfl,by omega,by rw[hX_];exact hDl,?_,?_,?_,S4.trans S5,H5⟩,?_⟩
  ·rw[hset,if_neg (by omega)];exact hD0
  ·intro y p' h1 h3;have h5:=hup y p' h3;rw[hset,hset]
   by_cases e:y=x
   ·subst e;rw[hp] at h3;cases h3;rw[if_pos rfl,if_neg (by omega)]
   ·rw[if_neg e,if_neg (by omega)];exact hD y p' (by omega) h3
  ·intro y;rw[hset];split
   ·rename_i e;omega
   ·exact hDb y
  ·simp only[iv,intOf];omega
 obtain rfl:t=0:=by omega
 refine r_lnS i H hi ?_
 have hDne:D≠[]:=λe=>by rw[e,length_nil] at hDl;omega
 refine Ycr H4 (i:=0) rfl (by omega) hDne λv' H5=>?_;have H6:=H5.ord 5 [0] rfl;refine k v' (D.take W.length) w4 ⟨s,r,hJ,hr,by rw[gN];omega,λx hx=>?_⟩ S4 H6
 have e1:(D.take W.length).getD x 0=D.getD x 0:=by rw[gB,hI_ hx,<-gB]
 rw[e1];exact Zzq hg hr (by rw[hrl,<-hm];exact hD0) (λa p h=>hD a p (hE _) h) _ x (Nat.le_refl _) (by omega)
end T09
namespace C10
open Go.M01 Go.M10
variable {w:World}{L:List HProp}{K:KT}{b wb n:Nat}{lens:List Nat}{bs:List Bool}
theorem Zpx (hs:Sized lens){i:Nat}(hi:i < lens.length):(codesAt lens 21 0)[i]?=some (codeN lens i):=by
 have h1:=Zca hs hi;rw[codesAt,hV_,List.getElem?_range hi];show some (if _ then _ else _)=_;rw[if_pos (.inl (by omega))]
theorem Of_spec {i:Nat}(H:Holds w (CodeR b lens::L)) (hi:i < lens.length) (k:∀ w',Same w w'->Holds w' (CodeR b lens::L)->K (.tuple #[uv (codeN lens i),nv (lens.getD i 0),iv 0]) w'):Cl prog 154 #[pt b,nv i] w K:=by
 refine Tz154 ?_;unfold Vz154;obtain⟨hw,lv,cv,ov,H1⟩:=Zew H;refine Zab (r_vf ?_);refine Za2 (λx w'=>w=w'/\x=.bool false) ?_ ?_
 rotate_left
 ·refine r_lss (r_vfD (by omega) ?_);refine r_nc (r_fo0 (r_ld 0 H1 rfl rfl ?_));refine r_lnS 3 H1 rfl ?_;exact r_geq (r_ke ⟨rfl,by rw[decide_eq_false (by omega)]⟩)
 rintro _ _ _ ⟨rfl,rfl⟩;refine r_vf ?_;refine r_dr H1 λw2 S2 H2=>?_;refine r_nc (r_fo0 (r_ld 0 H2 rfl rfl ?_));refine Za6 2 H2 rfl (Zpx hw.1.sized hi) ?_;refine r_nc (r_fo0 (r_ld 0 H2 rfl rfl ?_));refine Za6 3 H2 rfl (x:=lens.getD i 0) (by rw[gB,gA hi];rfl) ?_;exact k _ S2 (Zdm hw H2)
theorem Put_spec {i:Nat}(H:Holds w (CodeR b lens::W01.WrR wb bs n::L)) (hi:i < lens.length) (hl:bs.length<=100000000000) (hn:n<=bs.length/8)
  (k:∀ w',Same w w'->Holds w' (CodeR b lens::W01.WrR wb (bs++codeB lens i) n::L)->K (iv 0) w'):Cl prog 103 #[pt b,pt wb,nv i] w K:=by
 refine Tz103 ?_;unfold Vz103;have hw:=(Zew H).1.1;have h1:=Zca hw.sized hi;refine Zab (r_vf ?_);refine Of_spec H hi λw2 S2 H2=>?_;refine Zha (Zh2 (Zh0 ?_));refine r_neq (r_vfN rfl ?_);have hc:=Zhr hi h1.1;have hx:=nx_le hw (lens.getD i 0) h1.2;refine W01.Put_spec H2.swap hl hn (by omega) (by omega) λw3 S3 H3=>?_;exact k _ (S2.trans S3) H3.swap
end C10
namespace D11
open Go.M01 Go.M10 Go.Mv
variable {w:World}{L:List HProp}{K:KT}{b wb n:Nat}{lens:List Nat}{bs:List Bool}
abbrev tWp:Nat:=24
def fnW (ab:Nat):Value:=.func (.func 151) #[] #[pt ab]
theorem put_spec {ab v m:Nat}(H:Holds w (W01.WrR wb bs n::blk ab tWp [pt wb]::L)) (hl:bs.length<=100000000000) (hn:n<=bs.length/8) (hm:m<=32) (hv:v < 2^m)
  (k:∀ w',Same w w'->Holds w' (W01.WrR wb (bs++bitsOf v m) n::blk ab tWp [pt wb]::L)->K (.tuple #[]) w'):Inv prog (do let d <-Deferred.ofValue (fnW ab) #[nv v,nv m];invoke d.target d.args) w K:=by
 refine r_inv (f:=151) (args:=#[nv v,nv m,pt ab]) (by kernel_rfl) ?_;refine Tz151 ?_;unfold Vz151;have hp:(2:Nat)^m<=2^32:=Nat.pow_le_pow_right (by omega) hm;refine r_ld 1 H rfl rfl ?_;refine Zan (by omega) (by omega) ?_;refine W01.Put_spec H hl hn hm hv λw2 S2 H2=>?_;exact k _ S2 H2
theorem Zr0 (j:Nat) (x:List Bool):(List.replicate (j+1) x).flatten=(List.replicate j x).flatten++x:=by
 rw[List.replicate_succ',List.flatten_append];simp
theorem Zsm {ab:Nat}{v:Value}(H:Holds w (W01.WrR wb bs n::blk ab tWp [pt wb]::SL nv tI v lens::L)) (hne:lens≠[]) (hll:lens.length<=258) (hs:Sized lens) (hl:bs.length<=10000000000) (hn:n<=bs.length/8)
  (k:∀ w',Same w w'->Holds w' (W01.WrR wb (bs++lensB lens) n::blk ab tWp [pt wb]::SL nv tI v lens::L)->K (.tuple #[]) w'):Cl prog 146 #[v,fnW ab] w K:=by
 refine Tz146 ?_;unfold Vz146;have h0:0 < lens.length:=gZ.2 hne;have hsz:∀ i,i < lens.length->1<=lens.getD i 0/\lens.getD i 0<=20:=λi hi=>C10.Zca hs hi
 have hget:∀ i,i < lens.length->lens[i]?=some (lens.getD i 0):=λi hi=>by rw[gB,gA hi];rfl
 have hf0:=hsz 0 h0;refine Za6 2 H (j:=0) rfl (hget 0 h0) ?_;refine put_spec (m:=5) H (by omega) hn (by omega) (by omega) λw1 S1 H1=>?_;refine r_lnS 2 H1 rfl ?_;generalize ha:lens.getD 0 0=a at *
 have hlast:∀ i,i<=lens.length->lastB a (lens.take i)<=20/\1<=lastB a (lens.take i):=by
  intro i hi
  cases i with
  |zero=>exact⟨by unfold lastB;simp;omega,by unfold lastB;simp;omega⟩
  |succ i=>
   have hg:lens.take (i+1)=lens.take i++[lens.getD i 0]:=by rw[gO,hget i (by omega)];rfl
   rw[hg,lastB_snoc];have:=hsz i (by omega);omega
 have hsl:∀ i,i<=lens.length->(stepsB a (lens.take i)).length<=41*i:=by
  intro i
  induction i with
  |zero=>intro _;simp[stepsB]
  |succ i ih=>
   intro hi
   have hg:lens.take (i+1)=lens.take i++[lens.getD i 0]:=by rw[gO,hget i (by omega)];rfl
   have h1:=Ziv (lastB a (lens.take i)) (lens.getD i 0) (hlast i (by omega)).1 (hsz i (by omega)).2;have h2:=ih (by omega);rw[hg,Zbr];simp only[gD,gQ];omega
 have hb5:(bitsOf a 5).length=5:=Za1 _ _
 refine Za7 (λnw x w'=>∃ i:Nat,i<=lens.length/\x=nv i/\nw=nv (lastB a (lens.take i))/\Same w w'/\Holds w' (W01.WrR wb (bs++bitsOf a 5++stepsB a (lens.take i)) n::blk ab tWp [pt wb]::SL nv tI v lens::L)) (λ_ x _=>lens.length - (intOf x).toNat)
  ⟨0,by omega,rfl,rfl,S1,by rw[take_zero,stepsB,gU];exact H1⟩ ?_
 clear H H1 S1;rintro _ _ _ w2 ⟨i,hi,rfl,rfl,S,H⟩;have hsi:=hsl i hi;refine r_lss (r_ifD (λh=>?_) λh=>?_)
 rotate_left
 ·obtain rfl:i=lens.length:=by omega
  rw[hF_] at H;refine k _ S ?_;unfold lensB;rw[ha,<-gI];exact H
 have hlt:i < lens.length:=by omega
 have hl2:=hlast i hi;have hxi:=hsz i hlt
 have hg:lens.take (i+1)=lens.take i++[lens.getD i 0]:=by rw[gO,hget i hlt];rfl
 refine Za6 2 H rfl (hget i hlt) ?_;generalize hx:lens.getD i 0=x at *;generalize hp:lastB a (lens.take i)=p at *;generalize hS0:bs++bitsOf a 5++stepsB a (lens.take i)=B0 at *
 have hB0:B0.length<=10000000000+5+41*258:=by rw[<-hS0,gD,gD];omega
 have hB1:bs.length<=B0.length:=by rw[<-hS0,gD,gD];omega
 refine Za8 (λy w'=>∃ j:Nat,y=nv (p+j)/\j<=x - p/\Same w w'/\Holds w' (W01.WrR wb (B0++(List.replicate j [true,false]).flatten) n::blk ab tWp [pt wb]::SL nv tI v lens::L)) (λy _=>100 - (intOf y).toNat)
  ⟨0,rfl,hE _,S,by rw[replicate_zero,List.flatten_nil,gU];exact H⟩ ?_
 clear H S;rintro _ _ w3 ⟨j,rfl,hj,S,H⟩
 have hjl:(List.replicate j [true,false]).flatten.length=2*j:=by simp;omega
 have hjb:(B0++(List.replicate j [true,false]).flatten).length=B0.length+2*j:=by rw[gD,hjl]
 refine r_lss (r_ifD (λh2=>?_) λh2=>?_)
 ·refine put_spec (v:=2) (m:=2) H (by omega) (by omega) (by omega) (by decide) λw4 S4 H4=>?_;rw[show bitsOf 2 2=[true,false] by decide,gI,<-Zr0] at H4;refine Za0 (by omega) ?_;refine r_ke ⟨⟨j+1,rfl,by omega,S.trans S4,H4⟩,?_⟩;simp only[nv,intOf,gC];omega
 obtain rfl:j=x - p:=by omega
 generalize hS1:B0++(List.replicate (x - p) [true,false]).flatten=B2 at *
 refine Za8 (λy w'=>∃ j:Nat,y=nv (max p x - j)/\j<=p - x/\Same w w'/\Holds w' (W01.WrR wb (B2++(List.replicate j [true,true]).flatten) n::blk ab tWp [pt wb]::SL nv tI v lens::L)) (λy _=>(intOf y).toNat)
  ⟨0,by rw[show max p x - 0=p+(x - p) by omega],hE _,S,by rw[replicate_zero,List.flatten_nil,gU];exact H⟩ ?_
 clear H S;rintro _ _ w4 ⟨j,rfl,hj2,S,H⟩
 have hjl2:(List.replicate j [true,true]).flatten.length=2*j:=by simp;omega
 have hjb2:(B2++(List.replicate j [true,true]).flatten).length=B2.length+2*j:=by rw[gD,hjl2]
 refine r_gtr (r_ifD (λh3=>?_) λh3=>?_)
 ·refine put_spec (v:=3) (m:=2) H (by omega) (by omega) (by omega) (by decide) λw5 S5 H5=>?_;rw[show bitsOf 3 2=[true,true] by decide,gI,<-Zr0] at H5;refine Zaa (by omega) (by omega) ?_;refine r_ke ⟨⟨j+1,by rw[show max p x - j - 1=max p x - (j+1) by omega],by omega,S.trans S5,H5⟩,?_⟩;simp only[nv,intOf,gC];omega
 ·obtain rfl:j=p - x:=by omega
  refine put_spec (v:=0) (m:=1) H (by omega) (by omega) (by omega) (by decide) λw5 S5 H5=>?_;refine Za0 (by omega) ?_;refine r_ke ⟨⟨i+1,by omega,rfl,by rw[hg,lastB_snoc,show max p x - (p - x)=x by omega],S.trans S5,?_⟩,?_⟩
  ·rw[hg,Zbr,hp,<-gI,<-gI,hS0];unfold moves;rw[<-gI,hS1];exact H5
  ·simp only[nv,intOf,gC];omega
theorem Zee {v:Value}{l:List Nat}{f:Value}(H:Holds w L) (j:Nat) (hj:L[j]?=some (SL nv tI v l)) (hl:l.length<=1000000)
  (hf:∀ x∈l,∀ {Q:KT},Q (.bool false) w->Inv prog (do let d <-Deferred.ofValue f #[nv x];invoke d.target d.args) w Q) (k:K (.bool false) w):Cl prog 191 #[v,f] w K:=by
 refine Tz191 ?_;unfold Vz191;refine r_cl (K:=λx w'=>w=w'/\x=iv (-1)) ?_ ?_
 ·refine Tz231 ?_;unfold Vz231;refine r_lnS j H hj ?_;refine Za8 (λx w'=>∃ i:Nat,i<=l.length/\x=nv i/\w=w') (λx _=>l.length - (intOf x).toNat) ⟨0,hE _,rfl,rfl⟩ ?_;rintro _ _ _ ⟨i,hi,rfl,rfl⟩;refine r_lss (r_ifD (λh=>?_) λh=>?_)
  ·have hlt:i < l.length:=by omega
   refine Za6 j H hj (gA hlt) ?_;refine hf _ (getElem_mem hlt) ?_;refine r_vf ?_;refine Za0 (by omega) ?_;refine r_ke ⟨⟨i+1,by omega,rfl,rfl⟩,?_⟩;simp only[nv,intOf,gC];omega
  ·exact⟨rfl,rfl⟩
 rintro _ _ ⟨rfl,rfl⟩;exact r_geq k
theorem Zr2 (H:Holds w L) (j:Nat){v:Value}(hj:L[j]?=some (SL nv tI v lens)) (h3:3<=lens.length) (h258:lens.length<=258) (hs:Sized lens) (k:K (.bool true) w):Cl prog 145 #[v] w K:=by
 refine Tz145 ?_;unfold Vz145;refine r_lnS j H hj ?_;refine r_cl (K:=λx w'=>w=w'/\x=.bool true) ?_ ?_
 ·refine Tz195 ?_;unfold Vz195;refine r_geq (r_vtD (by omega) ?_);exact r_leq ⟨rfl,by rw[decide_eq_true (by omega)]⟩
 rintro _ _ ⟨rfl,rfl⟩;refine r_vt ?_;refine Zee H j hj (by omega) (λx hx Q hQ=>?_) ?_
 ·have:=hs x hx;refine r_inv (f:=196) (args:=#[nv x]) (by kernel_rfl) ?_;refine Tz196 ?_;unfold Vz196;refine r_cl (K:=λx w'=>w=w'/\x=.bool true) ?_ ?_
  ·refine Tz197 ?_;unfold Vz197;refine r_geq (r_vtD (by omega) ?_);exact r_leq ⟨rfl,by rw[decide_eq_true (by omega)]⟩
  rintro _ _ ⟨rfl,rfl⟩;exact Zak hQ
 ·exact Zbo k
theorem Write_spec {v:Value}(H:Holds w (W01.WrR wb bs n::SL nv tI v lens::L)) (h3:3<=lens.length) (h258:lens.length<=258) (hs:Sized lens) (hl:bs.length<=10000000000) (hn:n<=bs.length/8)
  (k:∀ w',Same w w'->Holds w' (W01.WrR wb (bs++lensB lens) n::SL nv tI v lens::L)->K (iv 0) w'):Cl prog 101 #[pt wb,v] w K:=by
 refine Tz101 ?_;unfold Vz101;refine r_new H λab w1 S1 H1=>?_;replace H1:Holds w1 (blk ab tWp [pt wb]::W01.WrR wb bs n::SL nv tI v lens::L):=H1;refine r_ld 0 H1 rfl rfl ?_;refine Zab (r_vf ?_);refine Zr2 H1 2 rfl h3 h258 hs ?_;refine Zak (r_vf ?_);refine r_mf (fnW ab) (by kernel_rfl) ?_;refine Zsm H1.swap (λe=>by rw[e] at h3;simp at h3) h258 hs hl hn λw2 S2 H2=>?_;exact k _ (S1.trans S2) (Holds.dropAt H2 1)
end D11
end Go.Proofs.YtgaiocpkjaaphaaGreatDoor
namespace Go.Proofs.YtgaiocpkjaaphaaGreatDoor
open Go Go.Vc Go.Proofs.Tryz
open Classical in
theorem Zde {w:World}{a:Value}{body:(Nat->Value)->Cur 1->Cur 1}(I:Nat->Value->World->Prop) (n0:Nat) (h0:I n0 a w)
  (h:∀ jb n x w (k:Cur 1),I n x w->(∀ m x' w',m < n->I m x' w'->k x' w')->body jb k x w):VLoop 1 [a] w body:=by
 refine Za8 (λx w'=>∃ n,I n x w') (λx w'=>if h:∃ n,I n x w' then Classical.choose (Mh.Zar h) else 0) ⟨n0,h0⟩ ?_;intro jb x w1 hx;have e1:=Classical.choose_spec (Mh.Zar hx);refine h jb _ x w1 _ e1.1 λm x' w' hm hI=>⟨⟨m,hI⟩,?_⟩;have hx':∃ n,I n x' w':=⟨m,hI⟩;have e2:=Classical.choose_spec (Mh.Zar hx');show dite _ _ _ < dite _ _ _;rw[dif_pos hx,dif_pos hx'];exact Nat.lt_of_le_of_lt (e2.2 m hI) hm
attribute [local irreducible] Vc.Nc Vc.Ld Vc.LdA Vc.St Vc.StA Vc.Fo Vc.Iaa Vc.Ias Vc.Ixs Vc.Ixa Vc.Fd Vc.FdA Vc.Bp Vc.Bb Vc.Bn Vc.Up Vc.Ci Vc.Lns Vc.Lnl Vc.Ex Vc.Sst Vc.Ssl Vc.New Vc.Vif Vc.VJoin Vc.VLoop Vc.KE Vc.Dr Vc.Rk Vc.Cl Vc.Cx Vc.Inv Vc.Be Vc.Cv Vc.Cw Vc.Mf Vc.Sl Vc.Lk Vc.Bd Vc.Bs Vc.Ms Vc.Mm Vc.Mu Vc.Me Vc.Es Vc.Rg Vc.Nx Vc.Ta Vc.Ap Vc.Usd Vc.Ust Vc.Cp Vc.Ln Vc.Bc Vc.Bmin Vc.Bmax Vc.Bdel Vc.Bclr Vc.Pk
namespace O09
open Go.Mh
variable {w:World}{L:List HProp}{K:KT}
theorem Znr {v:Value}{l:List Nat}{i:Nat}(H:Holds w L) (hi:L[i]?=some (SL nv tI v l)) (hl:l.length<=1000000) (k:∀ n:Nat,(n<=20↔∀ x∈l,x<=20)->K (nv n) w):Cl prog 253 #[v] w K:=by
 refine Tz253 ?_;unfold Vz253;refine r_lnS i H hi ?_;refine Za7 (λp q w'=>∃ n t:Nat,p=nv n/\q=nv t/\t<=l.length/\(n<=20↔∀ x∈l.take t,x<=20)/\w=w') (λ_ q _=>l.length - (intOf q).toNat) ⟨0,0,rfl,rfl,hE _,by simp,rfl⟩ ?_;rintro _ _ _ _ ⟨n,t,rfl,rfl,ht,hn,rfl⟩;refine r_lss (r_ifD (λh=>?_) λh=>?_)
 ·have hlt:t < l.length:=by omega
  refine Za6 i H hi (gA hlt) ?_;refine r_max ?_;refine Za0 (by omega) (r_ke ⟨⟨max n l[t],t+1,by rw[show max (n:Int) (l[t]:Int)=((max n l[t]:Nat):Int) by omega],rfl,by omega,?_,rfl⟩,?_⟩)
  ·have e:l.take (t+1)=l.take t++[l[t]]:=by rw[gO,gA hlt];rfl
   rw[e]
   constructor
   ·intro h1 x hx;rcases hT_.1 hx with hx|hx
    ·exact hn.1 (by omega) x hx
    ·rw[mem_singleton.1 hx];omega
   ·intro h1;have h2:=hn.2 λx hx=>h1 x (List.mem_append_left _ hx);have h3:=h1 l[t] (List.mem_append_right _ (mem_singleton.2 rfl));omega
  ·simp only[nv,intOf,gC];omega
 ·rw[gK (by omega)] at hn;exact k n hn
theorem Halved_spec {v:Value}{l:List Nat}{i:Nat}(H:Holds w L) (hi:L[i]?=some (SL nv tI v l)) (hl:l.length<=1000000) (hb:∀ x∈l,x<=1099511627776) (k:∀ v' w',Same w w'->Holds w' (SL nv tI v' (halved l)::L)->K v' w'):Cl prog 254 #[v] w K:=by
 refine Tz254 ?_;unfold Vz254;refine r_lnS i H hi ?_;refine r_ms (f:=nv) (x:=0) H rfl (by omega) (by omega) λob w2 S2 H2=>?_;rw[gC] at H2 ⊢;have H3:=H2.close 0 rfl;simp only[gJ,gP,length_nil,Nat.add_zero] at H3;generalize hv:Value.slice (some ⟨ob,0,none⟩) l.length l.length=ov at H3 ⊢;refine r_lnS i H hi ?_;refine Za8 (λq w'=>∃ (t:Nat),q=nv t/\t<=l.length/\Same w w'/\Holds w' (SL nv tI ov (halved (l.take t)++List.replicate (l.length - t) 0)::L)) (λq _=>l.length - (intOf q).toNat) ⟨0,rfl,hE _,S2,H3⟩ ?_;clear H H2 H3 S2;rintro _ _ w3 ⟨t,rfl,ht,S3,H3⟩;refine r_lss (r_ifD (λh=>?_) λh=>?_)
 ·have hlt:t < l.length:=by omega
  have hx:=hb _ (getElem_mem hlt)
  have e:l.take (t+1)=l.take t++[l[t]]:=by rw[gO,gA hlt];rfl
  refine Za6 (i+1) H3 (by rw[gF];exact hi) (gA hlt) ?_;generalize l[t]=x at *;refine r_max ?_;rw[show max (x:Int) 0=(x:Int) by omega];refine r_quo (by omega) (by omega) (by omega) ?_;rw[show (x:Int)/2=((x/2:Nat):Int) by omega];refine Za0 (by omega) ?_
  have hlen:(halved (l.take t)).length=t:=by unfold halved;rw[hS_,gN];omega
  refine Zat 0 H3 (x/2+1) rfl (by rw[gD,hlen,gP];omega) rfl λw4 S4 H4=>?_;refine Za0 (by omega) (r_ke ⟨⟨t+1,rfl,by omega,S3.trans S4,?_⟩,?_⟩)
  ·replace H4:Holds w4 (SL nv tI ov ((halved (l.take t)++List.replicate (l.length - t) 0).set t (x/2+1))::L):=H4;rw[set_append_right _ _ (by omega),hlen,Nat.sub_self,show l.length - t=(l.length - (t+1))+1 by omega,List.replicate_succ,gJ] at H4;rw[e];unfold halved at *;rw[map_append];simpa using H4
  ·simp only[nv,intOf,gC];omega
 ·obtain rfl:t=l.length:=by omega
  rw[hF_,Nat.sub_self,replicate_zero,gU] at H3;exact k ov w3 S3 H3
def ones (c:List Nat):List Nat:=c.map λx=>max x 1
theorem Of_spec {v:Value}{c:List Nat}{i:Nat}(H:Holds w L) (hi:L[i]?=some (SL nv tI v c)) (h3:3<=c.length) (hl:c.length<=258) (hb:∀ x∈c,x<=1099511627776)
  (k:∀ v' out w',LensOf (ones c) out->Same w w'->Holds w' (SL nv tI v' out::L)->K (.tuple #[v',iv 0]) w'):Cl prog 230 #[v] w K:=by
 refine Tz230 ?_;unfold Vz230;refine Za2 (λt w'=>Same w w'/\Holds w' L/\t=.bool false) ?_ ?_
 rotate_left
 ·refine r_lnS i H hi (r_lss (r_vfD (by omega) ?_));refine r_lnS i H hi (r_gtr (r_vfD (by omega) ?_));refine r_cl (K:=λt w'=>Same w w'/\Holds w' L/\t=.bool true) ?_ ?_
  ·refine Tz235 ?_;unfold Vz235;refine r_new H λlb w1 S1 H1=>?_;replace H1:Holds w1 (blk lb tI [iv 0]::L):=H1;refine r_new H1 λhb' w2 S2 H2=>?_;replace H2:Holds w2 (blk hb' tI [iv 1099511627776]::blk lb tI [iv 0]::L):=H2;refine r_mf (.func (.func 255) #[] #[pt lb,pt hb']) (by kernel_rfl) ?_;refine D11.Zee H2 (i+2) hi (by omega) (λx hx Q hQ=>?_) ?_
   ·have hx1:=hb x hx;refine r_inv (f:=255) (args:=#[nv x,pt lb,pt hb']) (by kernel_rfl) ?_;refine Tz255 ?_;unfold Vz255;refine r_ld 1 H2 rfl rfl ?_;refine r_lss (r_vfD (by omega) ?_);refine r_ld 0 H2 rfl rfl ?_;refine r_gtr ?_;rw[decide_eq_false (by omega)];exact hQ
   ·exact Zbo ⟨S1.trans S2,H2.drop.drop,rfl⟩
  rintro _ w1 ⟨S1,H1,rfl⟩;exact Zak (r_ke ⟨S1,H1,rfl⟩)
 rintro _ _ w1 ⟨S1,H1,rfl⟩;refine r_vf ?_;refine r_lnS i H hi ?_;refine r_ms (f:=nv) (x:=0) H1 rfl (by omega) (by omega) λob w2 S2 H2=>?_;rw[gC] at H2 ⊢;have H3:=H2.close 0 rfl;simp only[gJ,gP,length_nil,Nat.add_zero] at H3;generalize hv:Value.slice (some ⟨ob,0,none⟩) c.length c.length=ov at H3 ⊢;refine r_lnS i H hi ?_;refine Za8 (λq w'=>∃ (t:Nat),q=nv t/\t<=c.length/\Same w w'/\Holds w' (SL nv tI ov (ones (c.take t)++List.replicate (c.length - t) 0)::L)) (λq _=>c.length - (intOf q).toNat) ⟨0,rfl,hE _,S1.trans S2,H3⟩ ?_;clear H1 H2 H3 S1 S2;rintro _ _ w3 ⟨t,rfl,ht,S3,H3⟩;refine r_lss (r_ifD (λh=>?_) λh=>?_)
 ·have hlt:t < c.length:=by omega
  have e:c.take (t+1)=c.take t++[c[t]]:=by rw[gO,gA hlt];rfl
  refine Za6 (i+1) H3 (by rw[gF];exact hi) (gA hlt) ?_;generalize c[t]=x at *;refine r_max ?_;rw[show max (x:Int) 1=((max x 1:Nat):Int) by omega]
  have hlen:(ones (c.take t)).length=t:=by unfold ones;rw[hS_,gN];omega
  refine Zat 0 H3 (max x 1) rfl (by rw[gD,hlen,gP];omega) rfl λw4 S4 H4=>?_;refine Za0 (by omega) (r_ke ⟨⟨t+1,rfl,by omega,S3.trans S4,?_⟩,?_⟩)
  ·replace H4:Holds w4 (SL nv tI ov ((ones (c.take t)++List.replicate (c.length - t) 0).set t (max x 1))::L):=H4;rw[set_append_right _ _ (by omega),hlen,Nat.sub_self,show c.length - t=(c.length - (t+1))+1 by omega,List.replicate_succ,gJ] at H4;rw[e];unfold ones at *;rw[map_append];simpa using H4
  ·simp only[nv,intOf,gC];omega
 obtain rfl:t=c.length:=by omega
 rw[hF_,Nat.sub_self,replicate_zero,gU] at H3
 refine Zde (λn x w'=>∃ u:List Nat,n=u.sum/\u.length=c.length/\(∀ x∈u,1<=x/\x<=1099511627776)/\(∀ out,LensOf u out->LensOf (ones c) out)/\Same w w'/\Holds w' (SL nv tI x u::L)) (ones c).sum
  ⟨ones c,rfl,by unfold ones;rw[hS_],λx hx=>by
   obtain⟨y,hy,rfl⟩:=mem_map.1 hx;have:=hb y hy
   omega,λ_ h=>h,S3,H3⟩ ?_
 clear H3 S3;rintro _ _ x w4 kk ⟨u,rfl,hu,hur,hcont,S4,H4⟩ hkk;refine T09.Zpk H4 (i:=0) rfl (by omega) (by omega) (λx hx=>(hur x hx).2) λv' out w5 hD S5 H5=>?_
 have hol:out.length=c.length:=by
  obtain⟨_,_,_,_,h,_⟩:=hD;omega
 refine Znr H5 (i:=0) rfl (by omega) λm hm=>?_;refine r_leq (r_ifD (λh20=>?_) λh20=>?_)
 ·refine Zbt H5 0 rfl (by omega) λv2 w6 S6 H6=>?_;exact k v2 out w6 (hcont _ (.fit hD (hm.1 (by omega)))) (S4.trans (S5.trans S6)) (Holds.dropAt (Holds.dropAt H6 1) 1)
 ·have hn:¬ ∀ x∈out,x<=20:=λe=>h20 (by have:=hm.2 e;omega);refine Halved_spec H5 (i:=1) rfl (by omega) (λx hx=>(hur x hx).2) λv2 w6 S6 H6=>?_;refine r_ke (hkk (halved u).sum v2 w6 ?_ ⟨halved u,rfl,by unfold halved;rw[hS_];exact hu,Zuy (by omega) hur,λo ho=>hcont o (.more hD hn ho),S4.trans (S5.trans S6),Holds.dropAt (Holds.dropAt H6 1) 1⟩);refine Zns u (λx hx=>(hur x hx).1) λe=>hn ?_;exact Zh1 (λx hx=>⟨(hur x hx).1,e x hx⟩) (by omega) hD
end O09
instance:Row prog 69 3 (.int .i64 0):=⟨by kernel_rfl,⟨t3,by kernel_rfl,by kernel_rfl,by decide,by kernel_rfl⟩,rfl⟩
instance:Row prog 54 5 (.int .u8 0):=⟨by kernel_rfl,⟨t5,by kernel_rfl,by kernel_rfl,by decide,by kernel_rfl⟩,rfl⟩
instance:Bytes prog 54 5 9:=⟨by kernel_rfl,by kernel_rfl,by kernel_rfl⟩
namespace U18
open Go.M18
abbrev tI:Nat:=3
abbrev tB:Nat:=5
def invC (last:ByteArray) (next:List Nat) (links:Value) (at_:Nat) (out:Value) (steps:Nat):List Value:=
 .string last::(next.map nv++[links,nv at_,out,nv steps])
section
variable {last:ByteArray}{next:List Nat}{links out:Value}{at_ steps:Nat}(hn:next.length=256)
include hn
theorem c257:(invC last next links at_ out steps)[257]?=some links:=by simp[invC,hn]
theorem c258:(invC last next links at_ out steps)[258]?=some (nv at_):=by simp[invC,hn]
theorem c259:(invC last next links at_ out steps)[259]?=some out:=by simp[invC,hn]
theorem c260:(invC last next links at_ out steps)[260]?=some (nv steps):=by simp[invC,hn]
theorem cnx {j n:Nat}(h:next[j]?=some n):(invC last next links at_ out steps)[1+j]?=some (nv n):=by
 have hj:j < 256:=by rw[<-hn];exact (gH.1 h).1
 unfold invC;rw[Nat.add_comm 1 j,gF,gM (by simpa [hn] using hj),hV_,h];rfl
theorem clen:(invC last next links at_ out steps).length=261:=by simp[invC,hn]
theorem s258 (n:Nat):(invC last next links at_ out steps).set 258 (nv n)=invC last next links n out steps:=by simp[invC,hn,set_append]
theorem s259 (v:Value):(invC last next links at_ out steps).set 259 v=invC last next links at_ v steps:=by simp[invC,hn,set_append]
theorem s260 (n:Nat):(invC last next links at_ out steps).set 260 (nv n)=invC last next links at_ out n:=by simp[invC,hn,set_append]
theorem snx {j:Nat}(n:Nat) (hj:j < 256):(invC last next links at_ out steps).set (1+j) (nv n)=invC last (next.set j n) links at_ out steps:=by
 unfold invC;rw[Nat.add_comm 1 j,gW,List.set_append_left _ _ (by simpa [hn] using hj),List.map_set]
end
def InvR (b:Nat) (last:ByteArray) (o s k:Nat):HProp:=λh=>∃ t lv ov,Sat [blk b t (invC last (nxL last.data.toList s) lv (atK last.data.toList o (s - 2*last.size)) ov s),
 SL nv tI lv (lnS last.data.toList s),SL bv tB ov ((outK last.data.toList o (s - 2*last.size)).drop k)] h
theorem Zcm {b:Nat}{last:ByteArray}{o s k:Nat}{w:World}{L:List HProp}(H:Holds w (InvR b last o s k::L)) :
  ∃ t lv ov,Holds w (blk b t (invC last (nxL last.data.toList s) lv (atK last.data.toList o (s - 2*last.size)) ov s)::SL nv tI lv (lnS last.data.toList s) ::
   SL bv tB ov ((outK last.data.toList o (s - 2*last.size)).drop k)::L):=by
 obtain⟨t,H⟩:=Holds.ex H;obtain⟨lv,H⟩:=Holds.ex H;obtain⟨ov,H⟩:=Holds.ex H;exact⟨t,lv,ov,Holds.unpack H⟩
theorem Zet {b:Nat}{last:ByteArray}{o s k t:Nat}{lv ov:Value}{w:World}{L:List HProp}(H:Holds w (blk b t (invC last (nxL last.data.toList s) lv (atK last.data.toList o (s - 2*last.size)) ov s)::SL nv tI lv (lnS last.data.toList s) ::
   SL bv tB ov ((outK last.data.toList o (s - 2*last.size)).drop k)::L)):Holds w (InvR b last o s k::L):=
 Holds.imp (Holds.pack (A:=[_,_,_]) H) λh hh=>⟨t,lv,ov,hh⟩
variable {w:World}{L:List HProp}{K:KT}{b:Nat}
theorem Yb0 {t:Nat}{last:ByteArray}{next:List Nat}{links out:Value}{at_ steps:Nat}(hn:next.length=256)
  (H:Holds w (blk b t (invC last next links at_ out steps)::L)) (hl:last.size<=1000000)
  (k:∀ w',Same w w'->Holds w' (blk b t (invC last next links at_ out steps)::L)->K (.bool ((steps:Int)==3*(last.size:Int))) w') :
  Cl prog 167 #[.pointer (some ⟨b,0,none⟩)] w K:=by
 refine Tz167 ?_;unfold Vz167;have S:=Same.refl w
 repeat (first|((with_reducible apply r_ld 0 H);(exact rfl);(with_reducible exact (c260 hn)))|refine r_nc ?_|refine r_fo0 ?_|refine r_lns ?_|refine r_eql ?_|(with_reducible first|refine Zc4 ?_|refine r_vt ?_)|(refine r_mul (by omega) (by omega) ?_)|(refine r_dr H ?_;clear H;intro _ S_ H;replace S:=S.trans S_;clear S_)|refine r_ld 0 H rfl rfl ?_)
 exact k _ S H
theorem Zsn {t:Nat}{last:ByteArray}{next:List Nat}{links out:Value}{at_ steps:Nat}(hn:next.length=256)
  (H:Holds w (blk b t (invC last next links at_ out steps)::L)) (hb:∀ x∈next,x<=4000000)
  (k:∀ w',Same w w'->Holds w' (blk b t (invC last ((List.range 256).map (exB λj=>next.getD j 0)) links at_ out steps)::L)->K (.tuple #[]) w') :
  Cl prog 216 #[.pointer (some ⟨b,0,none⟩)] w K:=by
 refine Tz216 ?_;unfold Vz216;have S:=Same.refl w
 have hsub:((invC last next links at_ out steps).drop 1).take 256=next.map nv:=by
  unfold invC;rw[List.drop_succ_cons,drop_zero,List.take_append_of_le_length (by simp[hn]),gK (by simp[hn])]
 repeat (first|refine r_ldA 0 H _ rfl hsub (by simp[hn]) ?_|refine r_nc ?_|refine r_fo0 ?_)
 have hex:∀ j,j<=256->exB (λj=>next.getD j 0) j<=4000000*j:=by
  intro j
  induction j with
  |zero=>intro _;simp[exB]
  |succ j ih=>
   intro hj
   have hget:next[j]?=some (next.getD j 0):=by simp[List.getD,(by omega:j < next.length)]
   have h1:=hb (next.getD j 0) (List.mem_of_getElem? hget);have h2:=ih (by omega);simp only[exB];omega
 refine Za7 (λf x w'=>∃ j:Nat,j<=256/\x=nv j/\f=nv (exB (λj=>next.getD j 0) j)/\Same w w'/\
   Holds w' (blk b t (invC last ((List.range j).map (exB λj=>next.getD j 0)++next.drop j) links at_ out steps)::L))
  (λ_ x _=>256 - (intOf x).toNat) ⟨0,by omega,rfl,rfl,Same.refl w,by rw[List.range_zero,List.map_nil,hO_,drop_zero];exact H⟩ ?_
 rintro _ _ _ w1 ⟨j,hj,rfl,rfl,S,H⟩;have hx:=hex j hj
 have hlen:((List.range j).map (exB λj=>next.getD j 0)++next.drop j).length=256:=by simp[hn];omega
 repeat (refine r_lss ?_)
 refine r_vif (λh=>?_) λh=>?_
 ·have hlt:j < 256:=by have:=of_decide_eq_true h;omega
  obtain⟨x,hgd⟩:∃ x,next.getD j 0=x:=⟨_,rfl⟩
  have hget:next[j]?=some x:=by rw[<-hgd,gB,gA (by omega)];rfl
  have hb1:=hb _ (List.mem_of_getElem? hget)
  have hsucc:exB (λj=>next.getD j 0) (j+1)=exB (λj=>next.getD j 0) j+x:=by rw[exB,hgd]
  have h2:=snx (last:=last) (links:=links) (out:=out) (at_:=at_) (steps:=steps) hlen (exB (λj=>next.getD j 0) j) hlt;have h3:=set_mid (exB λj=>next.getD j 0) next j (by omega);rw[h3] at h2;generalize exB (λj=>next.getD j 0) j=y at *;refine Zoh (nv x) (by omega) (by omega) (by rw[gC,hV_,hget];rfl) ?_
  repeat (first|refine r_iaa (by omega) (by omega) ?_|refine r_nc ?_|refine r_fo0 ?_)
  refine r_st 0 H rfl (by rw[clen hlen];simp;omega) rfl λw2 S2 H2=>?_;have S3:=S.trans S2;rw[gC,Nat.mul_one,gJ,h2] at H2
  repeat (first|refine r_ke ?_|(refine Za0 (by omega) ?_)|(refine Zac (by omega) ?_))
  refine⟨⟨j+1,by omega,by simp[nv],by rw[hsucc],S3,H2⟩,?_⟩;simp[nv,intOf]
  try omega
 ·have hge:j=256:=by have:=of_decide_eq_false h;omega
  subst hge;rw[drop_of_length_le (by omega),gU] at H;exact k _ S H
theorem step_spec {last:ByteArray}{o s k:Nat}(H:Holds w (InvR b last o s k::L)) (hs:s < 3*last.size) (hl:last.size<=1000000) (ho:o < last.size) (hk:k<=s - 2*last.size)
  (post:∀ w',Same w w'->Holds w' (InvR b last o (s+1) k::L)->K (.tuple #[]) w') :
  Cl prog 168 #[.pointer (some ⟨b,0,none⟩)] w K:=by
 refine Tz168 ?_;unfold Vz168;obtain⟨t,lv,ov,H⟩:=Zcm H;have S:=Same.refl w
 have hll:last.data.toList.length=last.size:=by simp
 have hn:=Zbb last.data.toList s;have hn':=Zbb last.data.toList (s+1)
 obtain⟨q,r,hqr,hr,hq⟩:∃ q r,s=q*last.size+r/\r < last.size/\(q=0\/q=1\/q=2):=
  ⟨s/last.size,s%last.size,by rw[Nat.mul_comm];exact (Nat.div_add_mod s last.size).symm,Nat.mod_lt _ (by omega),by
   have:=Nat.div_lt_of_lt_mul (show s < last.size*3 by omega)
   generalize s/last.size=q at this;omega⟩
 have hQ:((s:Nat):Int).tdiv (last.size:Int)=(q:Int):=by
  rw[Int.tdiv_eq_ediv_of_nonneg (by omega),hqr]
  have:((q*last.size+r:Nat):Int)/(last.size:Int)=(((q*last.size+r)/last.size:Nat):Int):=by simp
  rw[this,Nat.add_comm,Nat.add_mul_div_right _ _ (by omega),Nat.div_eq_of_lt hr,Nat.zero_add]
 have hR:((s:Nat):Int).tmod (last.size:Int)=(r:Int):=by
  rw[Int.tmod_eq_emod_of_nonneg (by omega),hqr]
  have:((q*last.size+r:Nat):Int)%(last.size:Int)=(((q*last.size+r)%last.size:Nat):Int):=by simp
  rw[this,Nat.add_comm,Nat.add_mul_mod_self_right,Nat.mod_eq_of_lt hr]
 repeat (first|((with_reducible apply r_ld 0 H);(exact rfl);(with_reducible exact (c260 hn)))|refine Zff hR (by omega) ?_|refine r_nc ?_|refine r_fo0 ?_|refine r_lns ?_|refine r_ld 0 H rfl rfl ?_)
 refine Zdg (λw'=>∃ t lv ov,Same w w'/\Holds w' (blk b t (invC last (nxL last.data.toList (s+1)) lv (atK last.data.toList o (s+1 - 2*last.size)) ov s)::SL nv tI lv (lnS last.data.toList (s+1)) ::
   SL bv tB ov ((outK last.data.toList o (s+1 - 2*last.size)).drop k)::L)) ?_ ?_
 ·rintro _ w1 ⟨t,lv,ov,S,H⟩
  repeat (first|((with_reducible apply r_ld 0 H);(exact rfl);(with_reducible exact (c260 hn')))|refine r_nc ?_|refine r_fo0 ?_|(refine Za0 (by omega) ?_))
  refine r_st 0 H rfl (by rw[clen hn'];omega) rfl λw2 S2 H2=>?_;rw[s260 hn',gJ] at H2;exact post _ (S.trans S2) (Zet H2)
 have hbt:=λi=>Zi6 last.data.toList i;have hnx:=λc=>nx_le last.data.toList s c
 repeat (first|((with_reducible apply r_ld 0 H);(exact rfl);(with_reducible exact (c260 hn)))|refine Zic hQ (by omega) (by omega) (by omega) ?_|refine r_nc ?_|refine r_fo0 ?_|refine r_eql ?_)
 rcases hq with rfl|rfl|rfl
 ·have hrs:r=s:=by omega
  subst hrs
  repeat (first|refine r_nc ?_|refine r_fo0 ?_|(refine Zb0 (by omega) ?_)|(refine r_dr H ?_;clear H;intro _ S_ H;replace S:=S.trans S_;clear S_)|refine r_ld 0 H rfl rfl ?_|((with_reducible refine r_vtE ?h ?_);(case h=>omega)))
  have hc:=hbt r;have hnc:=hnx (last.data.toList.getD r 0).toNat
  repeat (first|((with_reducible apply r_ld 0 H);(exact rfl);(with_reducible exact (cnx hn (Ze0 _ _ _ hc))))|refine r_nc ?_|refine r_fo0 ?_|(refine Za0 (by omega) ?_)|(refine Zal (by omega) ?_))
  refine r_st 0 H rfl (by rw[clen hn];omega) rfl λw2 S2 H2=>?_;rw[snx hn _ hc,gJ] at H2;clear H;have S:=S.trans S2
  repeat (first|refine r_eql ?_|(refine Zaa (by omega) (by omega) ?_))
  refine r_vif (λh=>?_) λh=>?_
  ·have hlast:r+1=last.size:=by have:=of_decide_eq_true h;omega
   refine Zsn (by rw[hX_];exact hn) H2 ?_ λw5 S5 H5=>?_
   ·intro x hx;rcases List.mem_or_eq_of_mem_set hx with h1|h1
    ·obtain⟨j,hj,hjx⟩:=getElem_of_mem h1;have:=nx_le last.data.toList r j;simp[nxL] at hjx;omega
    ·omega
   ·rw[Zx3 _ _ (by omega)] at H5;refine r_ke ⟨t,lv,ov,S.trans S5,?_⟩;rw[<-Zw7 _ _ (by omega),show r+1 - 2*last.size=r - 2*last.size by omega];exact H5
  ·have hlast:¬ r+1=last.size:=by have:=of_decide_eq_false h;omega
   rw[Zv5 _ _ (by omega)] at H2;refine r_ke ⟨t,lv,ov,S,?_⟩;rw[<-Zw7 _ _ (by omega),show r+1 - 2*last.size=r - 2*last.size by omega];exact H2
 ·have hrs:s - last.data.toList.length=r:=by omega
  repeat (first|refine r_nc ?_|refine r_fo0 ?_|refine r_eql ?_|(refine Zb0 (by omega) ?_)|(refine r_dr H ?_;clear H;intro _ S_ H;replace S:=S.trans S_;clear S_)|refine r_ld 0 H rfl rfl ?_|((with_reducible refine r_vtE ?h ?_);(case h=>omega))|((with_reducible refine r_vfE ?h ?_);(case h=>omega)))
  have hc:=hbt r;have hnp:=Ydx last.data.toList s (by omega);have hlk:=Zyh last.data.toList s (by omega) (by omega);have hnl:=Zzd last.data.toList s (by omega) (by omega);have hpl:=Ybu last.data.toList r (by omega);rw[hrs] at hnp hlk hnl;obtain⟨oa,sp,rfl,H⟩:=H.open 1 rfl;rw[gW,gJ] at H
  repeat (first|((with_reducible apply r_ld 0 H);(exact rfl);(with_reducible exact (cnx hn (Ze0 _ _ _ hc))))|(refine Zal (by omega) ?_))
  rw[hnp];refine Zi3 1 H rfl (by rw[Zl3];exact hpl) (Nat.le_refl _) ?_;rintro b2 rfl;refine Ybq 1 H r rfl (by rw[Zl3];exact hpl) rfl rfl λw2 S2 H2=>?_;clear H;replace S:=S.trans S2;rw[gW,gJ,hlk] at H2;have H:=H2;clear H2
  repeat (first|((with_reducible apply r_ld 0 H);(exact rfl);(with_reducible exact (cnx hn (Ze0 _ _ _ hc))))|refine r_nc ?_|refine r_fo0 ?_|(refine Za0 (by omega) ?_)|(refine Zal (by omega) ?_)|(refine r_dr H ?_;clear H;intro _ S_ H;replace S:=S.trans S_;clear S_))
  have hnc:=hnx (last.data.toList.getD r 0).toNat
  repeat (fail)
  refine r_st 0 H rfl (by rw[clen hn];omega) rfl λw3 S3 H3=>?_;rw[snx hn _ hc,gJ,hnl] at H3;have H4:=H3.close 1 rfl;rw[gW,gJ,Zl3] at H4;rw[Zl3] at H4;rw[show s+1 - 2*last.size=s - 2*last.size by omega];exact r_ke ⟨t,_,ov,S.trans S3,H4⟩
 ·have hlS:=Zrq last.data.toList s (by omega);have hlS':=Zrq last.data.toList (s+1) (by omega);have hnS:=Zzw last.data.toList s (by omega);obtain⟨m,hm⟩:∃ m,s - 2*last.size=m:=⟨_,rfl⟩
  have hm':s+1 - 2*last.size=m+1:=by omega
  rw[hm,hlS] at H;rw[hm] at hk;rw[hm',hlS',<-hnS];have ha:=Zr7 last.data.toList o (by omega) m;have ha':=Zr7 last.data.toList o (by omega) (m+1)
  have hll2:(links last.data.toList).length=last.size:=by rw[<-hll];exact Zi9 _ _
  obtain⟨oa,sp,rfl,H⟩:=H.open 1 rfl;rw[gW,gJ] at H
  repeat (first|((with_reducible apply r_ld 0 H);(exact rfl);(with_reducible exact (c257 hn)))|((with_reducible apply r_ld 0 H);(exact rfl);(with_reducible exact (c258 hn)))|refine r_nc ?_|refine r_fo0 ?_|refine r_eql ?_|(refine r_dr H ?_;clear H;intro _ S_ H;replace S:=S.trans S_;clear S_)|((with_reducible refine r_vfE ?h ?_);(case h=>omega)))
  refine Zi3 1 H rfl (by omega) (Nat.le_refl _) ?_;rintro b2 rfl
  have hat:(links last.data.toList)[atK last.data.toList o m]?=some (atK last.data.toList o (m+1)):=by
   rw[atK,gB,gA (by omega)];rfl
  refine Zmr 1 H rfl hat ?_
  repeat (first|refine r_nc ?_|refine r_fo0 ?_)
  refine r_st 0 H rfl (by rw[clen hn];omega) rfl λw2 S2 H2=>?_;rw[s258 hn,gJ] at H2;clear H;have H:=H2;clear H2;replace S:=S.trans S2;obtain⟨oa,sp,rfl,H⟩:=H.open 2 rfl;rw[gW,gW,gJ] at H
  repeat (first|((with_reducible apply r_ld 0 H);(exact rfl);(with_reducible exact (c258 hn)))|((with_reducible apply r_ld 0 H);(exact rfl);(with_reducible exact (c259 hn)))|refine r_nc ?_|refine r_fo0 ?_|(refine Zb0 (by omega) ?_)|(refine r_dr H ?_;clear H;intro _ S_ H;replace S:=S.trans S_;clear S_)|refine r_ld 0 H rfl rfl ?_)
  have hol:(outK last.data.toList o m).length=m:=Zhi _ _ _
  have hout:(outK last.data.toList o m).drop k++[last.data.toList.getD (atK last.data.toList o (m+1)) 0]=(outK last.data.toList o (m+1)).drop k:=by
   rw[outK,List.drop_append_of_le_length (by omega)]
  refine r_bs1 H rfl λb3 w3 S3 H3=>?_;replace S:=S.trans S3;refine r_rk (r_ld 1 H3 rfl (c259 hn) rfl) ?_;refine r_ap (f:=bv) (ys:=[last.data.toList.getD (atK last.data.toList o (m+1)) 0]) H3 3 0 rfl rfl rfl rfl rfl rfl (λ_=>rfl) (by simp;omega) (by simp) λoa' sp' w4 S4 H4=>?_;replace S:=S.trans S4;rw[hout,gW,gW,gW,gJ] at H4
  have hlen:((outK last.data.toList o m).drop k).length+[last.data.toList.getD (atK last.data.toList o (m+1)) 0].length=((outK last.data.toList o (m+1)).drop k).length:=by
   rw[<-hout,gD]
  rw[hlen];clear H H3;have H:=H4.drop;clear H4
  repeat (first|refine r_nc ?_|refine r_fo0 ?_)
  refine r_st 0 H rfl (by rw[clen hn];omega) rfl λw5 S5 H5=>?_;rw[s259 hn,gJ] at H5;have H6:=(H5.close 1 rfl);rw[gW,gJ] at H6;have H7:=(H6.close 2 rfl);rw[gW,gW,gJ] at H7;exact r_ke ⟨t,_,_,S.trans S5,H7⟩
theorem Done_spec {last:ByteArray}{o s k:Nat}(H:Holds w (InvR b last o s k::L)) (hl:last.size<=1000000)
  (post:∀ w',Same w w'->Holds w' (InvR b last o s k::L)->K (.bool ((s:Int)==3*(last.size:Int))) w') :
  Cl prog 167 #[.pointer (some ⟨b,0,none⟩)] w K:=by
 obtain⟨t,lv,ov,H⟩:=Zcm H;exact Yb0 (Zbb _ _) H hl λw' S H=>post w' S (Zet H)
theorem Znc {last:ByteArray}{o s k:Nat}(H:Holds w (InvR b last o s k::L)):w.cell? ⟨b,260,none⟩=some (nv s):=by
 obtain⟨t,lv,ov,H⟩:=Zcm H;exact (H.cell 0 rfl 260).trans (c260 (Zbb _ _))
theorem Step_spec {last:ByteArray}{o s k:Nat}{budget:Int}(H:Holds w (InvR b last o s k::L)) (hs:s<=3*last.size) (hl:last.size<=1000000) (ho:o < last.size) (hk:k<=s - 2*last.size)
  (post:∀ w',Same w w'->Holds w' (InvR b last o (s+min budget.toNat (3*last.size - s)) k::L)->K (nv (min budget.toNat (3*last.size - s))) w') :
  Cl prog 118 #[.pointer (some ⟨b,0,none⟩),.int .i64 budget] w K:=by
 refine Tz118 ?_;unfold Vz118;have hn:=Zbb last.data.toList s;have S:=Same.refl w;obtain⟨t,lv,ov,H0⟩:=Zcm H;have H':=H;clear H;have H:=H0
 repeat (first|((with_reducible apply r_ld 0 H);(exact rfl);(with_reducible exact (c260 hn)))|refine r_nc ?_|refine r_fo0 ?_|(with_reducible first|refine Zab ?_|refine r_vf ?_))
 clear H H0
 refine Zjc (λw'=>∃ s',s<=s'/\s'<=3*last.size/\s' - s<=budget.toNat/\Same w w'/\Holds w' (InvR b last o s' k::L))
  (λw'=>match w'.cell? ⟨b,260,none⟩ with|some (.int _ n)=>3*last.size - n.toNat|_=>0) ⟨s,by omega,hs,by omega,S,H'⟩ ?_
 rintro _ w1 ⟨s',h1,h2,h3,S,H⟩;have hc:=Znc H;refine Za2 (λx w'=>∃ c:Bool,x=.bool c/\(c=true↔s' < 3*last.size/\((s' - s:Nat):Int) < budget)/\Same w w'/\Holds w' (InvR b last o s' k::L)) ?_ ?_
 ·rintro _ _ w2 ⟨c,rfl,hc2,S,H⟩;refine r_vif (λh=>?_) λh=>?_
  ·have h4:=hc2.1 h;refine step_spec H h4.1 hl ho (by omega) λw3 S3 H3=>r_ke ⟨⟨s'+1,by omega,by omega,by omega,S.trans S3,H3⟩,?_⟩;rw[hc,Znc H3];simp only[gC];omega
  ·have h4:¬ (s' < 3*last.size/\((s' - s:Nat):Int) < budget):=λh5=>by rw[hc2.2 h5] at h;cases h
   obtain⟨t,lv,ov,H0⟩:=Zcm H;have H':=H;clear H;have H:=H0;have hn:=Zbb last.data.toList s'
   repeat (first|((with_reducible apply r_ld 0 H);(exact rfl);(with_reducible exact (c260 hn)))|refine r_nc ?_|refine r_fo0 ?_|(refine r_sub (by omega) (by omega) ?_))
   have e:s' - s=min budget.toNat (3*last.size - s):=by omega
   have:=post w2 S (by rw[<-e,show s+(s' - s)=s' by omega];exact H');rw[<-e] at this;rw[show ((s':Int) - (s:Int))=((s' - s:Nat):Int) by omega];exact this
 ·refine Done_spec H hl λw3 S3 H3=>?_;replace S:=S.trans S3;clear H
  repeat (refine r_not ?_)
  refine Ye4 (λh=>?_) λh=>?_
  ·obtain⟨t,lv,ov,H0⟩:=Zcm H3;have H:=H0;have hn:=Zbb last.data.toList s'
   repeat (first|((with_reducible apply r_ld 0 H);(exact rfl);(with_reducible exact (c260 hn)))|refine r_nc ?_|refine r_fo0 ?_|refine r_ke ?_|refine r_lss ?_|(refine r_sub (by omega) (by omega) ?_))
   refine⟨_,rfl,?_,S,H3⟩;rw[decide_eq_true_iff]
   constructor
   ·intro h;exact⟨by omega,by omega⟩
   ·intro h;omega
  ·refine r_ke ⟨false,rfl,?_,S,H3⟩
   constructor
   ·intro h;cases h
   ·intro h;omega
theorem New_spec {last:ByteArray}{origin:Int}(H:Holds w L)
  (p1:last.size=0->K (.tuple #[.pointer none,.int .i64 1]) w)
  (p2:900000 < last.size->K (.tuple #[.pointer none,.int .i64 2]) w)
  (p3:0 < last.size->last.size<=900000->(origin < 0\/(last.size:Int)<=origin)->K (.tuple #[.pointer none,.int .i64 23]) w)
  (p4:∀ (o:Nat) b w',origin=o->o < last.size->last.size<=900000->Same w w'->Holds w' (InvR b last o 0 0::L)->K (.tuple #[.pointer (some ⟨b,0,none⟩),.int .i64 0]) w') :
  Cl prog 117 #[.string last,.int .i64 origin] w K:=by
 refine Tz117 ?_;unfold Vz117;have S:=Same.refl w
 repeat (refine Zez ?_)
 refine r_ifD p1 λh1=>?_
 repeat (first|refine r_lns ?_|refine r_gtr ?_)
 refine r_ifD (λh=>p2 (by omega)) λh2=>?_
 have hl:last.size<=900000:=by omega
 refine Za2 (λx w'=>w'=w/\∃ c:Bool,x=.bool c/\(c=true↔origin < 0\/(last.size:Int)<=origin)) ?_ ?_
 ·rintro _ _ _ ⟨rfl,c,rfl,hc⟩;refine r_vif (λh=>p3 (by omega) hl (hc.1 h)) λh=>?_
  have h3:¬ (origin < 0\/(last.size:Int)<=origin):=λh5=>by rw[hc.2 h5] at h;cases h
  obtain⟨o,rfl⟩:∃ o:Nat,origin=o:=⟨origin.toNat,by omega⟩
  repeat (refine r_lns ?_)
  refine r_ms H (f:=nv) (x:=0) rfl (by omega) (by omega) λb2 w2 S2 H2=>?_;rw[gC] at H2 ⊢;refine r_bd (v:=.agg (invC last (List.replicate 256 0) (.slice (some ⟨b2,0,none⟩) last.size last.size) o (.slice none 0 0) 0).toArray) (by kernel_rfl) ?_;refine r_new H2 λb w3 S3 H3=>?_;have H4:=H3.close 1 (f:=nv) (by rfl);rw[gW,gJ,gP,length_nil,Nat.add_zero] at H4;have H5:=((H4.nilSL bv tB).swap).front 2 rfl
  have hll:last.data.toList.length=last.size:=by simp
  refine p4 o b w3 rfl (by omega) hl (S2.trans S3) (Zet (t:=229) (lv:=.slice (some ⟨b2,0,none⟩) last.size last.size) (ov:=.slice none 0 0) ?_)
  have e1:nxL last.data.toList 0=List.replicate 256 0:=by
   unfold nxL;rw[List.eq_replicate_iff];refine⟨by simp,λx hx=>?_⟩;obtain⟨y,_,rfl⟩:=mem_map.1 hx;rw[nx_lo (by omega)];simp[cntB]
  have e2:lnS last.data.toList 0=List.replicate last.size 0:=by
   unfold lnS;rw[show (0 - last.data.toList.length)=0 by omega,Nat.zero_min,lnk,hll]
  rw[e1,e2,show 0 - 2*last.size=0 by omega];exact H5.swap
 ·repeat (refine r_lss ?_)
  refine r_ifD (λh=>?_) λh=>?_
  ·exact r_ke ⟨rfl,true,rfl,by simp;omega⟩
  ·repeat (first|refine r_ke ?_|refine r_lns ?_|refine r_geq ?_)
   refine⟨rfl,_,rfl,?_⟩;rw[decide_eq_true_iff];omega
theorem Take_spec {last:ByteArray}{o s k:Nat}(H:Holds w (InvR b last o s k::L))
  (post:∀ w',Same w w'->Holds w' (InvR b last o s (s - 2*last.size)::L)->K (.string ⟨((outK last.data.toList o (s - 2*last.size)).drop k).toArray⟩) w') :
  Cl prog 119 #[.pointer (some ⟨b,0,none⟩)] w K:=by
 refine Tz119 ?_;unfold Vz119;obtain⟨t,lv,ov,H⟩:=Zcm H;have S:=Same.refl w;have hn:=Zbb last.data.toList s;obtain⟨oa,sp,rfl,H⟩:=H.open 2 rfl;rw[gW,gW,gJ] at H
 repeat (first|((with_reducible apply r_ld 0 H);(exact rfl);(with_reducible exact (c259 hn)))|refine r_cbs H 2 rfl rfl ?_|refine r_nc ?_|refine r_fo0 ?_|(with_reducible first|refine Zab ?_|refine r_vf ?_))
 refine r_st 0 H rfl (by rw[clen hn];omega) rfl λw2 S2 H2=>?_;rw[s259 hn,gJ] at H2;refine post w2 S2 (Zet (t:=t) (lv:=lv) (ov:=.slice none 0 0) ?_);rw[drop_of_length_le (Nat.le_of_eq (Zhi _ _ _))];exact (((H2.dropAt 2).nilSL bv tB).front 2 rfl).front 2 rfl
theorem Of_spec {last:ByteArray}{origin:Int}(H:Holds w L)
  (p1:last.size=0->K (.tuple #[.string ⟨#[]⟩,.int .i64 1]) w)
  (p2:900000 < last.size->K (.tuple #[.string ⟨#[]⟩,.int .i64 2]) w)
  (p3:0 < last.size->last.size<=900000->(origin < 0\/(last.size:Int)<=origin)->K (.tuple #[.string ⟨#[]⟩,.int .i64 23]) w)
  (p4:∀ (o:Nat) w',origin=o->o < last.size->last.size<=900000->Same w w'->Holds w' L->K (.tuple #[.string ⟨(text last.data.toList o).toArray⟩,.int .i64 0]) w') :
  Cl prog 62 #[.string last,.int .i64 origin] w K:=by
 refine Tz62 ?_;unfold Vz62;refine New_spec H (λh=>?_) (λh=>?_) (λh1 h2 h3=>?_) λo b w1 h1 h2 h3 S H1=>?_
 ·repeat (first|refine r_neq ?_|(with_reducible first|refine Za4 ?_|refine Za3 ?_)|((with_reducible refine r_vtN ?h ?_);(case h=>omega)))
  exact p1 h
 ·repeat (first|refine r_neq ?_|(with_reducible first|refine Za4 ?_|refine Za3 ?_)|((with_reducible refine r_vtN ?h ?_);(case h=>omega)))
  exact p2 h
 ·repeat (first|refine r_neq ?_|(with_reducible first|refine Za4 ?_|refine Za3 ?_)|((with_reducible refine r_vtN ?h ?_);(case h=>omega)))
  exact p3 h1 h2 h3
 ·clear H;have H:=H1
  repeat (first|refine r_lns ?_|refine r_neq ?_|(with_reducible first|refine Za4 ?_|refine Za3 ?_)|(refine r_mul (by omega) (by omega) ?_)|((with_reducible refine r_vfN ?h ?_);(case h=>omega)))
  refine Step_spec H (by omega) (by omega) h2 (by omega) λw2 S2 H2=>?_
  have e:min (3*(last.size:Int)).toNat (3*last.size - 0)=3*last.size:=by omega
  rw[e,Nat.zero_add] at H2;refine Take_spec H2 λw3 S3 H3=>?_
  have hll:last.data.toList.length=last.size:=by simp
  have:=p4 o w3 h1 h2 h3 ((S.trans S2).trans S3) H3.drop;unfold text at this;rw[hll] at this;rw[show 3*last.size - 2*last.size=last.size by omega,drop_zero];exact this
end U18
namespace U18
open Go.M18
variable {w:World}{L:List HProp}{K:KT}
end U18
end Go.Proofs.YtgaiocpkjaaphaaGreatDoor
