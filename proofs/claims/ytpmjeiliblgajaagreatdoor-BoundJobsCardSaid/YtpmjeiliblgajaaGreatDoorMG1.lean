/- Several texts in one: Mh, Mi, Lp, Mx, Mv, So, Ms, C10, C14, W16, W6b, W6c, W01, W10, W13, W08, W8c, W12, W8g, Rw, W2f. -/
import Derived.WalkKit
import Derived.Test.YtpmjeiliblgajaaGreatDoorMG0
import Derived.Test.YtpmjeiliblgajaaGreatDoorFm
set_option linter.unusedVariables false
set_option linter.unusedSimpArgs false
set_option linter.unusedSectionVars false
open Go.RowKit (intOf)
open List (cons_append count_append count_le_length eraseIdx_cons_succ eraseIdx_set_eq ext_getElem ext_getElem? getElem?_eq_none getElem?_range getElem?_set getElem?_zip_eq_some getElem_mem getElem_of_mem length_cons length_nil length_reverse map_append map_congr_left mem_cons mem_map mem_of_mem_erase mem_range mem_range'_1 mem_singleton pairwise_append replicate_zero reverse_cons set_append_right set_getElem_self set_set take_zero)
namespace Go.Mh
def lt (W:List Nat) (x y:Nat):Prop:=W.getD x 0 < W.getD y 0\/(W.getD x 0=W.getD y 0/\x < y)
instance (W:List Nat) (x y:Nat):Decidable (lt W x y):=inferInstanceAs (Decidable (_\/_))
theorem Zwq {W:List Nat}{x y:Nat}(h:lt W x y):¬ lt W y x:=by unfold lt at *;omega
theorem Zc9 {W:List Nat}{x y z:Nat}(h:lt W x y) (h2:lt W y z):lt W x z:=by unfold lt at *;omega
def IsLeast (W V:List Nat) (x:Nat):Prop:=x∈V/\∀ y∈V,y≠x->lt W x y
theorem IsLeast.uniq {W V:List Nat}{x y:Nat}(h:IsLeast W V x) (h2:IsLeast W V y):x=y:=
 Classical.byContradiction λhne=>Zwq (h.2 y h2.1 λe=>hne e.symm) (h2.2 x h.1 hne)
theorem IsLeast.perm {W V V':List Nat}{x:Nat}(h:IsLeast W V x) (p:V.Perm V'):IsLeast W V' x:=
 ⟨p.mem_iff.1 h.1,λy hy=>h.2 y (p.mem_iff.2 hy)⟩
structure HS where
 W:List Nat
 I:List (Option Nat)
 V:List Nat
def h0 (w:List Nat):HS:=⟨w,List.replicate w.length none,List.range w.length⟩
structure Join (s s':HS) (a b:Nat):Prop where
 la:IsLeast s.W s.V a
 lb:IsLeast s.W (s.V.erase a) b
 W:s'.W=s.W++[s.W.getD a 0+s.W.getD b 0]
 I:s'.I=((s.I.set a (some s.W.length)).set b (some s.W.length))++[none]
 V:s'.V.Perm (s.W.length::(s.V.erase a).erase b)
inductive Joins (s0:HS):Nat->HS->Prop
 |start:Joins s0 0 s0
 |next {k:Nat} {s s':HS} {a b:Nat} (h:Joins s0 k s) (j:Join s s' a b):Joins s0 (k+1) s'
theorem Joins.det {s0:HS}{k:Nat}{s:HS}(h:Joins s0 k s):∀ {s2:HS},Joins s0 k s2->s.W=s2.W/\s.I=s2.I/\s.V.Perm s2.V:=by
 induction h with
 |start=>intro s2 h2;cases h2;exact⟨rfl,rfl,.refl _⟩
 |next h j ih=>
  intro s2 h2
  cases h2 with
  |next h' j'=>
   obtain⟨hW,hI,hV⟩:=ih h';have ha:=(j.la.perm hV);rw[hW] at ha;obtain rfl:=ha.uniq j'.la;have hb:=(j.lb.perm (hV.erase _));rw[hW] at hb;obtain rfl:=hb.uniq j'.lb;refine⟨by rw[j.W,j'.W,hW],by rw[j.I,j'.I,hI,hW],?_⟩;refine j.V.trans (.trans ?_ j'.V.symm);rw[hW];exact .cons _ ((hV.erase _).erase _)
structure Good (s:HS):Prop where
 nodup:s.V.Nodup
 lt:∀ x∈s.V,x < s.W.length
 len:s.I.length=s.W.length
 live:∀ x∈s.V,s.I[x]?=some none
 dead:∀ x,x < s.W.length->x∉s.V->∃ p,s.I[x]?=some (some p)/\x < p/\p < s.W.length
theorem good0 (w:List Nat):Good (h0 w):=
 ⟨List.nodup_range,λx hx=>mem_range.1 hx,by simp[h0],λx hx=>by
  have:=mem_range.1 hx
  simp[h0,this],λx hx hn=>absurd (mem_range.2 hx) hn⟩
theorem Zj3 {s s':HS}{a b:Nat}(hg:Good s) (j:Join s s' a b):a≠b:=by
 rintro rfl;exact (List.Nodup.not_mem_erase hg.nodup) j.lb.1
theorem Zu9 {s s':HS}{a b:Nat}(hg:Good s) (j:Join s s' a b):Good s'/\s'.V.length+1=s.V.length/\s'.W.length=s.W.length+1:=by
 have hne:=Zj3 hg j;have ha:=hg.lt a j.la.1;have hbm:b∈s.V:=mem_of_mem_erase j.lb.1;have hb:=hg.lt b hbm;have hn2:((s.V.erase a).erase b).Nodup:=(hg.nodup.erase a).erase b
 have hmem:∀ x,x∈(s.V.erase a).erase b↔x∈s.V/\x≠a/\x≠b:=by
  intro x;rw[(hg.nodup.erase a).mem_erase_iff,hg.nodup.mem_erase_iff]
  constructor
  ·rintro⟨h1,h2,h3⟩;exact⟨h3,h2,h1⟩
  ·rintro⟨h1,h2,h3⟩;exact⟨h3,h2,h1⟩
 have hWl:s'.W.length=s.W.length+1:=by rw[j.W];simp
 have hIl:((s.I.set a (some s.W.length)).set b (some s.W.length)).length=s.W.length:=by rw[hX_,hX_,hg.len]
 have hget:∀ x,x < s.W.length->s'.I[x]?=if x=b then some (some s.W.length) else if x=a then some (some s.W.length) else s.I[x]?:=by
  intro x hx;rw[j.I,gM (by rw[hIl];exact hx),getElem?_set,getElem?_set]
  by_cases h1:x=b
  ·subst h1;rw[if_pos rfl,if_pos rfl,if_pos (by rw[hX_,hg.len];exact hx)]
  ·rw[if_neg (λe:b=x=>h1 e.symm),if_neg h1]
   by_cases h2:x=a
   ·subst h2;rw[if_pos rfl,if_pos rfl,if_pos (by rw[hg.len];exact hx)]
   ·rw[if_neg (λe:a=x=>h2 e.symm),if_neg h2]
 have hV:∀ x,x∈s'.V↔x=s.W.length\/(x∈s.V/\x≠a/\x≠b):=by
  intro x;rw[j.V.mem_iff,mem_cons,hmem]
 refine⟨⟨?_,?_,?_,?_,?_⟩,?_,hWl⟩
 ·rw[j.V.nodup_iff,List.nodup_cons];exact⟨λh=>by have:=hg.lt _ ((hmem _).1 h).1;omega,hn2⟩
 ·intro x hx;rw[hWl];rcases (hV x).1 hx with h|h
  ·omega
  ·have:=hg.lt x h.1;omega
 ·rw[j.I,gD,hIl,hWl];rfl
 ·intro x hx;rcases (hV x).1 hx with h|⟨h,h1,h2⟩
  ·subst h;rw[j.I,gT (by rw[hIl];exact Nat.le_refl _),hIl,Nat.sub_self];rfl
  ·rw[hget x (hg.lt x h),if_neg h2,if_neg h1];exact hg.live x h
 ·intro x hx hn;rw[hWl] at hx ⊢;have hxn:x≠s.W.length:=λe=>hn ((hV x).2 (.inl e))
  have hx':x < s.W.length:=by omega
  rw[hget x hx']
  by_cases h1:x=b
  ·rw[if_pos h1];exact⟨_,rfl,by omega,by omega⟩
  ·rw[if_neg h1]
   by_cases h2:x=a
   ·rw[if_pos h2];exact⟨_,rfl,by omega,by omega⟩
   ·rw[if_neg h2];obtain⟨p,h3,h4,h5⟩:=hg.dead x hx' λh=>hn ((hV x).2 (.inr ⟨h,h2,h1⟩));exact⟨p,h3,h4,by omega⟩
 ·have:=j.V.length_eq;rw[this,length_cons,List.length_erase_of_mem j.lb.1,List.length_erase_of_mem j.la.1];have h1:=List.length_pos_of_mem j.la.1;have h2:=List.length_pos_of_mem j.lb.1;rw[List.length_erase_of_mem j.la.1] at h2;omega
theorem Zc2 {w:List Nat}{k:Nat}{s:HS}(h:Joins (h0 w) k s):Good s/\s.V.length+k=w.length/\s.W.length=w.length+k:=by
 induction h with
 |start=>exact⟨good0 w,by simp[h0],rfl⟩
 |next h j ih=>
  obtain⟨h1,h2,h3⟩:=Zu9 ih.1 j;exact⟨h1,by omega,by omega⟩
inductive Up (I:List (Option Nat)):Nat->Nat->Nat->Prop
 |here (x:Nat):Up I x 0 x
 |up {x p k y:Nat} (h:I[x]?=some (some p)) (u:Up I p k y):Up I x (k+1) y
theorem Up.uniq {I:List (Option Nat)}{x k y:Nat}(hy:∀ p,I[y]?≠some (some p)) (h:Up I x k y):∀ {k2:Nat},Up I x k2 y->k=k2:=by
 induction h with
 |here x=>
  intro k2 h2
  cases h2 with
  |here=>rfl
  |up h u=>exact absurd h (hy _)
 |up h u ih=>
  intro k2 h2
  cases h2 with
  |here=>exact absurd h (hy _)
  |up h' u'=>
   rw[h] at h';cases h';rw[ih hy u']
theorem Up.snoc {I:List (Option Nat)}{x k y p:Nat}(h:Up I x k y) (hp:I[y]?=some (some p)):Up I x (k+1) p:=by
 induction h with
 |here x=>exact .up hp (.here _)
 |up h u ih=>exact .up h (ih hp)
theorem Up.join {s s':HS}{a b x k y:Nat}(hg:Good s) (j:Join s s' a b) (h:Up s.I x k y):Up s'.I x k y:=by
 induction h with
 |here x=>exact .here x
 |up h u ih=>
  rename_i x p k y;refine .up ?_ ih
  have hx:x < s.W.length:=by
   have:=(gH.1 h).1;rw[hg.len] at this;exact this
  have h1:x≠a:=by
   rintro rfl;rw[hg.live _ j.la.1] at h;cases h
  have h2:x≠b:=by
   rintro rfl;rw[hg.live _ (mem_of_mem_erase j.lb.1)] at h;cases h
  rw[j.I,gM (by rw[hX_,hX_,hg.len];exact hx),getElem?_set,getElem?_set,if_neg (λe=>h2 e.symm),if_neg (λe=>h1 e.symm)];exact h
def Depths (w out:List Nat):Prop:=∃ s r,Joins (h0 w) (w.length - 1) s/\s.V=[r]/\out.length=w.length/\∀ i,i < w.length->Up s.I i (out.getD i 0) r
theorem Depths.uniq {w out out2:List Nat}(h:Depths w out) (h2:Depths w out2):out=out2:=by
 obtain⟨s,r,hj,hr,hl,hu⟩:=h;obtain⟨s2,r2,hj2,hr2,hl2,hu2⟩:=h2;obtain⟨hW,hI,hV⟩:=hj.det hj2;rw[hr,hr2] at hV
 have hrr:r=r2:=by have:=hV.mem_iff.1 (mem_singleton.2 rfl);exact mem_singleton.1 this
 subst hrr;have hg:=(Zc2 hj).1
 have hroot:∀ p,s.I[r]?≠some (some p):=λp e=>by rw[hg.live r (by rw[hr];exact mem_singleton.2 rfl)] at e;cases e
 apply ext_getElem (by omega);intro i h3 h4;have h5:=hu i (by omega);have h6:=hu2 i (by omega);rw[<-hI] at h6;have:=h5.uniq hroot h6;rw[gB,gA h3,gB,gA h4] at this;exact this
structure Queue (n:Nat) (s:HS) (lf:List Nat) (j:Nat):Prop where
 perm:s.V.Perm (lf++List.range' j (s.W.length - j))
 jn:n<=j/\j<=s.W.length
 lfn:∀ x∈lf,x < n
 sorted:lf.Pairwise (lt s.W)
 mono:∀ x y,n<=x->x<=y->y < s.W.length->s.W.getD x 0<=s.W.getD y 0
 sum:∀ x∈s.V,∀ y∈s.V,x≠y->∀ c,n<=c->c < s.W.length->s.W.getD c 0<=s.W.getD x 0+s.W.getD y 0
def head (W lf:List Nat) (j:Nat):Nat:=match lf with
 |[]=>j
 |x::_=>if j=W.length\/W.getD x 0<=W.getD j 0 then x else j
def tail1 (W lf:List Nat) (j:Nat):List Nat:=match lf with
 |[]=>[]
 |x::l=>if j=W.length\/W.getD x 0<=W.getD j 0 then l else x::l
def tail2 (W lf:List Nat) (j:Nat):Nat:=match lf with
 |[]=>j+1
 |x::l=>if j=W.length\/W.getD x 0<=W.getD j 0 then j else j+1
theorem Zfm {W lf:List Nat}{n j:Nat}(hj:n<=j/\j<=W.length) (hl:∀ x∈lf,x < n) (hs:lf.Pairwise (lt W)) (hm:∀ x y,n<=x->x<=y->y < W.length->W.getD x 0<=W.getD y 0)
  (hne:lf++List.range' j (W.length - j)≠[]) :
  IsLeast W (lf++List.range' j (W.length - j)) (head W lf j)/\((lf++List.range' j (W.length - j)).erase (head W lf j)).Perm (tail1 W lf j++List.range' (tail2 W lf j) (W.length - tail2 W lf j))/\
   (n<=tail2 W lf j/\tail2 W lf j<=W.length)/\(∀ x∈tail1 W lf j,x < n)/\(tail1 W lf j).Pairwise (lt W):=by
 have hjl:∀ y,y∈List.range' j (W.length - j)->j<=y/\y < W.length:=λy hy=>by
  have:=mem_range'_1.1 hy;omega
 have jless:j < W.length->∀ y,y∈List.range' j (W.length - j)->y≠j->lt W j y:=λh y hy hyj=>by
  have h1:=hjl y hy;have h2:=hm j y hj.1 h1.1 h1.2;unfold lt;omega
 have split:j < W.length->List.range' j (W.length - j)=j::List.range' (j+1) (W.length - (j+1)):=λh=>by
  rw[show W.length - j=(W.length - (j+1))+1 by omega,List.range'_succ]
 cases lf with
 |nil=>
  have hlt:j < W.length:=by
   rcases hU_ j W.length with h|h
   ·exact h
   ·rw[show W.length - j=0 by omega] at hne;exact absurd rfl hne
  simp only[head,tail1,tail2,hO_];rw[split hlt];refine⟨⟨hJ_ ..,λy hy hyj=>?_⟩,?_,by omega,by simp,by simp⟩
  ·rw[<-split hlt] at hy;exact jless hlt y hy hyj
  ·rw[List.erase_cons_head]
 |cons x l=>
  have hx:=hl x (hJ_ ..);have hxl:=(List.pairwise_cons.1 hs);simp only[head,tail1,tail2]
  by_cases hc:j=W.length\/W.getD x 0<=W.getD j 0
  ·rw[if_pos hc,if_pos hc,if_pos hc];refine⟨⟨by simp,λy hy hyx=>?_⟩,?_,hj,λy hy=>hl y (hK_ _ hy),hxl.2⟩
   ·rcases hT_.1 hy with hy|hy
    ·rcases mem_cons.1 hy with hy|hy
     ·exact absurd hy hyx
     ·exact hxl.1 y hy
    ·have h1:=hjl y hy;have h2:=hm j y hj.1 h1.1 h1.2;unfold lt;omega
   ·rw[cons_append,List.erase_cons_head]
  ·rw[if_neg hc,if_neg hc,if_neg hc]
   have hlt:j < W.length:=by omega
   have hlj:lt W j x:=by unfold lt;omega
   have hnj:j∉x::l:=λh=>by have:=hl j h;omega
   refine⟨⟨?_,λy hy hyx=>?_⟩,?_,by omega,hl,hs⟩
   ·rw[split hlt];simp
   ·rcases hT_.1 hy with hy|hy
    ·rcases mem_cons.1 hy with hy|hy
     ·rw[hy];exact hlj
     ·exact Zc9 hlj (hxl.1 y hy)
    ·exact jless hlt y hy hyx
   ·rw[List.erase_append_right _ hnj,split hlt,List.erase_cons_head]
theorem Zbk {W:List Nat}{v x:Nat}(h:x < W.length):(W++[v]).getD x 0=W.getD x 0:=by
 rw[gB,gB,gM h]
theorem Zcy {W:List Nat}{v:Nat}:(W++[v]).getD W.length 0=v:=by
 rw[gB,gT (Nat.le_refl _),Nat.sub_self];rfl
theorem Ya4 {W:List Nat}{v x y:Nat}(hx:x < W.length) (hy:y < W.length):lt (W++[v]) x y↔lt W x y:=by
 unfold lt;rw[Zbk hx,Zbk hy]
theorem Zrd {n:Nat}{s:HS}{lf:List Nat}{j:Nat}(hg:Good s) (hq:Queue n s lf j) (h2:2<=s.V.length) :
  ∃ s' a b,a=head s.W lf j/\b=head s.W (tail1 s.W lf j) (tail2 s.W lf j)/\Join s s' a b/\
   Queue n s' (tail1 s.W (tail1 s.W lf j) (tail2 s.W lf j)) (tail2 s.W (tail1 s.W lf j) (tail2 s.W lf j))/\a < s.W.length/\b < s.W.length/\a≠b:=by
 have hlen:=hq.perm.length_eq;obtain⟨a1,a2,a3,a4,a5⟩:=Zfm hq.jn hq.lfn hq.sorted hq.mono (by intro e;rw[e,length_nil] at hlen;omega);generalize ha:head s.W lf j=a at *;have hp1:(s.V.erase a).Perm (tail1 s.W lf j++List.range' (tail2 s.W lf j) (s.W.length - tail2 s.W lf j)):=(hq.perm.erase a).trans a2;have ham:a∈s.V:=hq.perm.mem_iff.2 a1.1;have hlen1:=hp1.length_eq;rw[List.length_erase_of_mem ham] at hlen1;generalize tail1 s.W lf j=lf1 at *;generalize tail2 s.W lf j=j1 at *;obtain⟨b1,b2,b3,b4,b5⟩:=Zfm a3 a4 a5 hq.mono (by intro e;rw[e,length_nil] at hlen1;omega);generalize hb:head s.W lf1 j1=b at *;generalize tail1 s.W lf1 j1=lf2 at *;generalize tail2 s.W lf1 j1=j2 at *;have hbm:b∈s.V.erase a:=hp1.mem_iff.2 b1.1;have hbv:b∈s.V:=mem_of_mem_erase hbm;have hal:=hg.lt a ham;have hbl:=hg.lt b hbv;have hlb:IsLeast s.W (s.V.erase a) b:=b1.perm hp1.symm;have hla:IsLeast s.W s.V a:=a1.perm hq.perm.symm
 have j0:Join s ⟨s.W++[s.W.getD a 0+s.W.getD b 0],((s.I.set a (some s.W.length)).set b (some s.W.length))++[none],s.W.length::(s.V.erase a).erase b⟩ a b:=
  ⟨hla,hlb,rfl,rfl,.refl _⟩
 have hne:=Zj3 hg j0
 have hnW:n<=s.W.length:=by have:=hq.jn;omega
 have hmem:∀ x,x∈(s.V.erase a).erase b↔x∈s.V/\x≠a/\x≠b:=by
  intro x;rw[(hg.nodup.erase a).mem_erase_iff,hg.nodup.mem_erase_iff]
  constructor
  ·rintro⟨h1,h2,h3⟩;exact⟨h3,h2,h1⟩
  ·rintro⟨h1,h2,h3⟩;exact⟨h3,h2,h1⟩
 have big:∀ x,x∈s.V->x≠a->x≠b->s.W.getD b 0<=s.W.getD x 0:=by
  intro x hx h1 h3;have:=hlb.2 x ((hg.nodup.mem_erase_iff).2 ⟨h1,hx⟩) h3;unfold lt at this;omega
 have hab:s.W.getD a 0<=s.W.getD b 0:=by
  have:=hla.2 b hbv λe=>hne e.symm;unfold lt at this;omega
 refine⟨_,a,b,rfl,rfl,j0,⟨?_,?_,b4,?_,?_,?_⟩,hal,hbl,hne⟩
 ·show (s.W.length::(s.V.erase a).erase b).Perm (lf2++List.range' j2 ((s.W++[_]).length - j2));have hp2:((s.V.erase a).erase b).Perm (lf2++List.range' j2 (s.W.length - j2)):=(hp1.erase b).trans b2;rw[gD,gQ,show s.W.length+1 - j2=(s.W.length - j2)+1 by omega,List.range'_concat,show j2+1*(s.W.length - j2)=s.W.length by omega,<-gI];exact (hp2.cons _).trans (List.perm_append_singleton _ _).symm
 ·show n<=j2/\j2<=(s.W++[_]).length;rw[gD];omega
 ·refine b5.imp_of_mem λ{x y} hx hy h=>?_;exact (Ya4 (by have:=b4 x hx;omega) (by have:=b4 y hy;omega)).2 h
 ·intro x y hx hxy hy;rw[gD,gQ] at hy;rcases hU_ y s.W.length with h|h
  ·rw[Zbk (by omega),Zbk h];exact hq.mono x y hx hxy h
  ·have:y=s.W.length:=by omega
   subst this;rw[Zcy];rcases hU_ x s.W.length with h3|h3
   ·rw[Zbk h3];exact hq.sum a ham b hbv hne x hx h3
   ·rw[show x=s.W.length by omega,Zcy];exact Nat.le_refl _
 ·intro x hx y hy hxy c hc1 hc2;rw[gD,gQ] at hc2
  have hcw:(s.W++[s.W.getD a 0+s.W.getD b 0]).getD c 0<=s.W.getD a 0+s.W.getD b 0:=by
   rcases hU_ c s.W.length with h|h
   ·rw[Zbk h];exact hq.sum a ham b hbv hne c hc1 h
   ·rw[show c=s.W.length by omega,Zcy];exact Nat.le_refl _
  refine Nat.le_trans hcw ?_;rcases mem_cons.1 hx with hx|hx
  ·rw[hx,Zcy];exact Nat.le_add_right _ _
  ·rcases mem_cons.1 hy with hy|hy
   ·rw[hy,Zcy];exact Nat.le_add_left _ _
   ·obtain⟨x1,x2,x3⟩:=(hmem x).1 hx;obtain⟨y1,y2,y3⟩:=(hmem y).1 hy;rw[Zbk (hg.lt x x1),Zbk (hg.lt y y1)];have:=big x x1 x2 x3;have:=big y y1 y2 y3;omega
theorem Zvm {s:HS}{r:Nat}{D:List Nat}(hg:Good s) (hV:s.V=[r]) (hD0:D.getD r 0=0) (hD:∀ i p,s.I[i]?=some (some p)->D.getD i 0=D.getD p 0+1) :
  ∀ m i,s.W.length - i<=m->i < s.W.length->Up s.I i (D.getD i 0) r:=by
 intro m
 induction m with
 |zero=>intro i h1 h2;omega
 |succ m ih=>
  intro i h1 h2
  by_cases hi:i=r
  ·subst hi;rw[hD0];exact .here _
  ·obtain⟨p,h3,h4,h5⟩:=hg.dead i h2 (by rw[hV];simpa using hi);rw[hD i p h3];exact .up h3 (ih p (by omega) h5)
def Tot (s:HS):Nat:=(s.V.map λx=>s.W.getD x 0).sum
theorem Zk9 {l l2:List Nat}(p:l.Perm l2):l.sum=l2.sum:=by
 induction p with
 |nil=>rfl
 |cons x _ ih=>rw[hQ_,hQ_,ih]
 |swap x y l=>rw[hQ_,hQ_,hQ_,hQ_];omega
 |trans _ _ h1 h2=>rw[h1,h2]
theorem Ztd {s:HS}{a b:Nat}(ha:a∈s.V) (hb:b∈s.V.erase a):Tot s=s.W.getD a 0+s.W.getD b 0+(((s.V.erase a).erase b).map λx=>s.W.getD x 0).sum:=by
 unfold Tot;rw[Zk9 ((List.perm_cons_erase ha).map _),hR_,hQ_,Zk9 ((List.perm_cons_erase hb).map _),hR_,hQ_];omega
theorem Zpb {s s':HS}{a b:Nat}(hg:Good s) (j:Join s s' a b):Tot s'=Tot s:=by
 rw[Ztd j.la.1 j.lb.1];unfold Tot;rw[Zk9 (j.V.map _),hR_,hQ_,j.W,Zcy]
 congr 1
 congr 1
 refine map_congr_left λx hx=>Zbk (hg.lt x ?_);exact mem_of_mem_erase (mem_of_mem_erase hx)
theorem tot0 {w:List Nat}{m:Nat}(h:∀ x∈w,x<=m):Tot (h0 w)<=w.length*m:=by
 have:∀ l:List Nat,(∀ x∈l,x < w.length)->(l.map λx=>w.getD x 0).sum<=l.length*m:=by
  intro l
  induction l with
  |nil=>intro _;simp
  |cons x l ih=>
   intro hl;have h1:=ih λy hy=>hl y (hK_ _ hy);have hx:=hl x (hJ_ ..)
   have h2:w.getD x 0<=m:=by
    rw[gB,gA hx];exact h _ (getElem_mem hx)
   rw[hR_,hQ_,length_cons,Nat.succ_mul];omega
 have:=this (List.range w.length) λx hx=>mem_range.1 hx;rw[hW_] at this;exact this
theorem queue0 {w lf:List Nat}(p:lf.Perm (List.range w.length)) (hs:lf.Pairwise (lt w)):Queue w.length (h0 w) lf w.length:=by
 refine⟨?_,⟨Nat.le_refl _,Nat.le_refl _⟩,λx hx=>mem_range.1 (p.mem_iff.1 hx),hs,λx y h1 h2 h3=>?_,λx _ y _ _ c h1 h2=>?_⟩
 ·show (List.range w.length).Perm (lf++List.range' w.length (w.length - w.length));rw[Nat.sub_self,List.range'_zero,gU];exact p.symm
 ·have:y < w.length:=h3;omega
 ·have:c < w.length:=h2;omega
end Go.Mh
namespace Go.Mh
def fib:Nat->Nat
 |0=>0
 |1=>1
 |n+2=>fib (n+1)+fib n
theorem Zvf:∀ n,fib n<=fib (n+1)
 |0=>by decide
 |n+1=>by show fib (n+1)<=fib (n+1)+fib n;omega
theorem Zvl {m n:Nat}(h:m<=n):fib m<=fib n:=by
 induction h with
 |refl=>exact Nat.le_refl _
 |step _ ih=>exact Nat.le_trans ih (Zvf _)
theorem Zvc {s s':HS}{a b x p:Nat}(hg:Good s) (j:Join s s' a b) (h:s'.I[x]?=some (some p)):((x=a\/x=b)/\p=s.W.length)\/(s.I[x]?=some (some p)/\p < s.W.length):=by
 have hl:((s.I.set a (some s.W.length)).set b (some s.W.length)).length=s.W.length:=by rw[hX_,hX_,hg.len]
 rw[j.I] at h
 have hx:x < s.W.length:=by
  rcases hU_ x s.W.length with q|q
  ·exact q
  ·rw[gT (by rw[hl];exact q),hl] at h
   cases hxx:x - s.W.length with
   |zero=>rw[hxx] at h;cases h
   |succ n=>rw[hxx] at h;simp at h
 rw[gM (by rw[hl];exact hx),getElem?_set,getElem?_set] at h
 by_cases h1:b=x
 ·rw[if_pos h1,if_pos (by rw[hX_,hg.len];omega)] at h;cases h;exact .inl ⟨.inr h1.symm,rfl⟩
 ·rw[if_neg h1] at h
  by_cases h2:a=x
  ·rw[if_pos h2,if_pos (by rw[hg.len];omega)] at h;cases h;exact .inl ⟨.inl h2.symm,rfl⟩
  ·rw[if_neg h2] at h
   have hn:x∉s.V:=λe=>by rw[hg.live x e] at h;cases h
   obtain⟨p',h3,h4,h5⟩:=hg.dead x hx hn;rw[h] at h3;cases h3;exact .inr ⟨h,h5⟩
theorem no_up {s:HS}{k y:Nat}(hg:Good s) (hy:y < s.W.length):¬ Up s.I s.W.length k y:=by
 intro h
 cases h with
 |here=>exact Nat.lt_irrefl _ hy
 |up h u=>
  have:=(gH.1 h).1;rw[hg.len] at this;exact Nat.lt_irrefl _ this
theorem Zyw {s s':HS}{a b i k x:Nat}(hg:Good s) (j:Join s s' a b) (h:Up s'.I i k x) :
  (x≠s.W.length->x < s.W.length->Up s.I i k x)/\(x=s.W.length->(k=0/\i=s.W.length)\/∃ q,k=q+1/\(Up s.I i q a\/Up s.I i q b)):=by
 have ha:=hg.lt a j.la.1;have hb:=hg.lt b (mem_of_mem_erase j.lb.1)
 induction h with
 |here x=>exact⟨λ_ _=>.here x,λe=>.inl ⟨rfl,e⟩⟩
 |up h u ih=>
  rename_i x p k y;obtain⟨i1,i2⟩:=ih;have hc:=Zvc hg j h
  constructor
  ·intro h1 h2;have u1:=i1 h1 h2;rcases hc with⟨_,rfl⟩|⟨h3,_⟩
   ·exact absurd u1 (no_up hg h2)
   ·exact .up h3 u1
  ·intro h1;right;rcases i2 h1 with⟨rfl,rfl⟩|⟨q,rfl,hq⟩
   ·rcases hc with⟨h3|h3,_⟩|⟨_,h4⟩
    ·exact⟨0,rfl,.inl (h3▸.here _)⟩
    ·exact⟨0,rfl,.inr (h3▸.here _)⟩
    ·exact absurd h4 (Nat.lt_irrefl _)
   ·rcases hc with⟨_,rfl⟩|⟨h3,_⟩
    ·rcases hq with hq|hq
     ·exact absurd hq (no_up hg ha)
     ·exact absurd hq (no_up hg hb)
    ·exact⟨q+1,rfl,hq.imp (Up.up h3) (Up.up h3)⟩
structure Hts (s:HS) (h:Nat->Nat):Prop where
 up:∀ x∈s.V,∀ i k,Up s.I i k x->k<=h x
 wt:∀ x∈s.V,fib (h x+1)<=s.W.getD x 0
 lo:∀ x∈s.V,∀ y∈s.V,1<=h x->fib (h x)<=s.W.getD y 0
theorem hts0 {w:List Nat}(hw:∀ x∈w,1<=x):Hts (h0 w) (λ_=>0):=by
 refine⟨λx hx i k u=>?_,λx hx=>?_,λx _ y _ h=>absurd h (by decide)⟩
 ·cases u with
  |here=>exact Nat.le_refl _
  |up h u=>
   exfalso;unfold h0 at h;simp only[List.getElem?_replicate] at h
   split at h <;> cases h
 ·have hx:x < w.length:=mem_range.1 hx;show 1<=w.getD x 0;rw[gB,gA hx];exact hw _ (getElem_mem hx)
theorem Zwf {s s':HS}{a b:Nat}{h:Nat->Nat}(hg:Good s) (j:Join s s' a b) (H:Hts s h):∃ h',Hts s' h':=by
 have ha:=j.la.1;have hb:b∈s.V:=mem_of_mem_erase j.lb.1;have hal:=hg.lt a ha;have hbl:=hg.lt b hb;have hne:=Zj3 hg j
 have hV:∀ x,x∈s'.V->x=s.W.length\/(x∈s.V/\x≠s.W.length/\x < s.W.length):=by
  intro x hx;rcases mem_cons.1 (j.V.mem_iff.1 hx) with h1|h1
  ·exact .inl h1
  ·have h2:=mem_of_mem_erase (mem_of_mem_erase h1);have:=hg.lt x h2;exact .inr ⟨h2,by omega,this⟩
 have hT:s'.W.getD s.W.length 0=s.W.getD a 0+s.W.getD b 0:=by rw[j.W,Zcy]
 have hW:∀ x,x < s.W.length->s'.W.getD x 0=s.W.getD x 0:=λx hx=>by rw[j.W,Zbk hx]
 have ab:s.W.getD a 0<=s.W.getD b 0:=by
  have:=j.la.2 b hb λe=>hne e.symm;unfold lt at this;omega
 have least:∀ y∈s.V,s.W.getD a 0<=s.W.getD y 0:=by
  intro y hy
  by_cases e:y=a
  ·rw[e];exact Nat.le_refl _
  ·have:=j.la.2 y hy e;unfold lt at this;omega
 have least2:∀ y∈s'.V,y≠s.W.length->s.W.getD b 0<=s.W.getD y 0:=by
  intro y hy hyl;rcases mem_cons.1 (j.V.mem_iff.1 hy) with h1|h1
  ·exact absurd h1 hyl
  ·have h2:=((hg.nodup.erase a).mem_erase_iff).1 h1;have:=j.lb.2 y h2.2 h2.1;unfold lt at this;omega
 have wa:=H.wt a ha;have wb:=H.wt b hb
 have lab:∀ x∈s.V,∀ y∈s.V,fib (h x)<=s.W.getD y 0:=by
  intro x hx y hy
  cases e:h x with
  |zero=>exact hE _
  |succ n=>rw[<-e];exact H.lo x hx y hy (by omega)
 have f2:∀ n,fib (n+2)=fib (n+1)+fib n:=λ_=>rfl;have hA:=lab a ha b hb;have hB:=lab b hb a ha;refine⟨λx=>if x=s.W.length then max (h a) (h b)+1 else h x,?_,?_,?_⟩
 ·intro x hx i k u;obtain⟨u1,u2⟩:=Zyw hg j u;rcases hV x hx with e|⟨h1,h2,h3⟩
  ·simp only[if_pos e];rcases u2 e with⟨rfl,_⟩|⟨q,rfl,hq|hq⟩
   ·exact hE _
   ·have:=H.up a ha i q hq;omega
   ·have:=H.up b hb i q hq;omega
  ·simp only[if_neg h2];exact H.up x h1 i k (u1 h2 h3)
 ·intro x hx;rcases hV x hx with e|⟨h1,h2,h3⟩
  ·simp only[if_pos e];rw[e,hT];rcases Nat.le_total (h a) (h b) with q|q
   ·rw[Nat.max_eq_right q,f2];omega
   ·rw[Nat.max_eq_left q,f2];omega
  ·simp only[if_neg h2];rw[hW x h3];exact H.wt x h1
 ·intro x hx y hy hx1
  have wy:∀ z,fib (h z+1)<=s.W.getD z 0->(z=a\/z=b)->fib (h z+1)<=s'.W.getD y 0:=by
   intro z hz hzab;rcases hV y hy with e|⟨h1,h2,h3⟩
   ·rw[e,hT]
    rcases hzab with rfl|rfl <;> omega
   ·rw[hW y h3];have:=least2 y hy h2
    rcases hzab with rfl|rfl <;> omega
  rcases hV x hx with e|⟨h1,h2,h3⟩
  ·simp only[if_pos e];rcases Nat.le_total (h a) (h b) with q|q
   ·rw[Nat.max_eq_right q];exact wy b wb (.inr rfl)
   ·rw[Nat.max_eq_left q];exact wy a wa (.inl rfl)
  ·simp only[if_neg h2] at hx1 ⊢;rcases hV y hy with e|⟨h4,h5,h6⟩
   ·rw[e,hT];have:=H.lo x h1 a ha hx1;omega
   ·rw[hW y h6];exact H.lo x h1 y h4 hx1
theorem Ztq {w:List Nat}(hw:∀ x∈w,1<=x){k:Nat}{s:HS}(h:Joins (h0 w) k s):(∃ f,Hts s f)/\Tot s=Tot (h0 w):=by
 induction h with
 |start=>exact⟨⟨_,hts0 hw⟩,rfl⟩
 |next h j ih=>
  obtain⟨⟨f,hf⟩,ht⟩:=ih;have hg:=(Zc2 h).1;exact⟨Zwf hg j hf,(Zpb hg j).trans ht⟩
theorem Zko {w out:List Nat}(hw:∀ x∈w,1<=x/\x<=2) (hl:w.length<=258) (h:Depths w out):∀ x∈out,x<=20:=by
 obtain⟨s,r,hj,hr,hlen,hu⟩:=h;obtain⟨⟨f,hf⟩,ht⟩:=Ztq (λx hx=>(hw x hx).1) hj;intro x hx;obtain⟨i,hi,rfl⟩:=getElem_of_mem hx;have h1:=hu i (by omega);rw[gB,gA hi] at h1
 have hrm:r∈s.V:=by rw[hr];exact mem_singleton.2 rfl
 have h2:=hf.up r hrm i _ h1;have h3:=hf.wt r hrm
 have h4:s.W.getD r 0=Tot s:=by unfold Tot;rw[hr];simp
 have h5:=tot0 (m:=2) λx hx=>(hw x hx).2
 have h6:f r+1 < 15:=by
  rcases hU_ (f r+1) 15 with q|q
  ·exact q
  ·have h7:=Zvl q
   have h8:fib 15=610:=by decide
   omega
 have h9:out[i]<=f r:=h2;omega
def halved (w:List Nat):List Nat:=w.map λx=>x/2+1
inductive LensOf:List Nat->List Nat->Prop
 |fit {w out:List Nat} (h:Depths w out) (hl:∀ x∈out,x<=20):LensOf w out
 |more {w l out:List Nat} (h:Depths w l) (hl:¬ ∀ x∈l,x<=20) (r:LensOf (halved w) out):LensOf w out
theorem LensOf.uniq {w o:List Nat}(h:LensOf w o):∀ {o2:List Nat},LensOf w o2->o=o2:=by
 induction h with
 |fit h hl=>
  intro o2 h2
  cases h2 with
  |fit h' hl'=>exact h.uniq h'
  |more h' hl' r=>exact absurd (h.uniq h'▸hl) hl'
 |more h hl r ih=>
  intro o2 h2
  cases h2 with
  |fit h' hl'=>exact absurd (h.uniq h'▸hl') hl
  |more h' hl' r'=>exact ih r'
theorem Zlv:∀ (w:List Nat),(∀ x∈w,1<=x)->(halved w).sum<=w.sum
 |[],_=>Nat.le_refl _
 |x::w,h=>by
  have h1:=Zlv w λy hy=>h y (hK_ _ hy);have h2:=h x (hJ_ ..);show ((x/2+1)::halved w:List Nat).sum<=_;rw[hQ_,hQ_];omega
theorem Zls:∀ (w:List Nat),(∀ x∈w,1<=x)->(¬ ∀ x∈w,x<=2)->(halved w).sum < w.sum
 |[],_,h=>absurd (by simp) h
 |x::w,h,hn=>by
  have h2:=h x (hJ_ ..);have h3:∀ y∈w,1<=y:=λy hy=>h y (hK_ _ hy);show ((x/2+1)::halved w:List Nat).sum < _;rw[hQ_,hQ_]
  by_cases hx:x<=2
  ·have:=Zls w h3 λe=>hn λy hy=>by
    rcases mem_cons.1 hy with rfl|hy
    ·exact hx
    ·exact e y hy
   omega
  ·have:=Zlv w h3;omega
theorem Zur {w:List Nat}{m:Nat}(hm:1<=m) (h:∀ x∈w,1<=x/\x<=m):∀ x∈halved w,1<=x/\x<=m:=by
 intro x hx;obtain⟨y,hy,rfl⟩:=mem_map.1 hx;have:=h y hy;omega
theorem Zb1 {p:Nat->Prop}(h:∃ n,p n):∃ n,p n/\∀ m,p m->n<=m:=by
 obtain⟨n,hn⟩:=h
 induction n using Nat.strongRecOn with
 |ind n ih=>
  by_cases q:∃ m,m < n/\p m
  ·obtain⟨m,h1,h2⟩:=q;exact ih m h1 h2
  ·exact⟨n,hn,λm hm=>Nat.le_of_not_lt λh=>q ⟨m,h,hm⟩⟩
theorem Zq7 {w out:List Nat}(hw:2<=w.length) (h:Depths w out):∀ x∈out,1<=x:=by
 obtain⟨s,r,hj,hr,hlen,hu⟩:=h;intro x hx;obtain⟨i,hi,rfl⟩:=getElem_of_mem hx;have h1:=hu i (by omega);rw[gB,gA hi] at h1
 have h2:w.length<=r:=by
  obtain⟨k,hk⟩:∃ k,w.length - 1=k+1:=⟨w.length - 2,by omega⟩;rw[hk] at hj
  cases hj with
  |next h j=>
   have h3:=j.V.mem_iff.2 (hJ_ ..);rw[hr] at h3;have h4:=mem_singleton.1 h3;have:=(Zc2 h).2.2;omega
 have h3:Up s.I i out[i] r:=h1;generalize out[i]=y at *
 cases h3 with
 |here=>omega
 |up _ _=>omega
end Go.Mh
namespace Go.Proofs.YtpmjeiliblgajaaGreatDoor
open Go Go.Vc Go.Proofs.Tryz
open Classical in
theorem Zjo {w:World}{body:(Nat->Value)->Cur 0->Cur 0}(I:Nat->World->Prop) (n0:Nat) (h0:I n0 w)
  (h:∀ jb n w (k:Cur 0),I n w->(∀ m w',m < n->I m w'->k w')->body jb k w):VLoop 0 [] w body:=by
 refine Zka (λw'=>∃ n,I n w') (λw'=>if h:∃ n,I n w' then Classical.choose (Mh.Zb1 h) else 0) ⟨n0,h0⟩ ?_;intro jb w1 hx;have e1:=Classical.choose_spec (Mh.Zb1 hx);refine h jb _ w1 _ e1.1 λm w' hm hI=>⟨⟨m,hI⟩,?_⟩;have hx':∃ n,I n w':=⟨m,hI⟩;have e2:=Classical.choose_spec (Mh.Zb1 hx');show dite _ _ _ < dite _ _ _;rw[dif_pos hx,dif_pos hx'];exact Nat.lt_of_le_of_lt (e2.2 m hI) hm
end Go.Proofs.YtpmjeiliblgajaaGreatDoor
namespace Go.Mx
open Go.M01 Go.Mb Go.Mz
def bitR (T:Nat->Bool) (i:Nat):List Bool:=(List.range 16).map λk=>T (16*i+k)
def someB (T:Nat->Bool) (i:Nat):Bool:=(List.range 16).any λk=>T (16*i+k)
def whichB (T:Nat->Bool) (j:Nat):List Bool:=(List.range 16).map λi=>decide (i < j)&&someB T i
def rowsB (T:Nat->Bool):Nat->List Bool
 |0=>[]
 |j+1=>rowsB T j++if someB T j then bitR T j else []
def usedB (T:Nat->Bool):List Bool:=whichB T 16++rowsB T 16
theorem Zdu (T:Nat->Bool) (i:Nat):(bitR T i).length=16:=by simp[bitR]
theorem Zc1 (T:Nat->Bool) (j:Nat):(whichB T j).length=16:=by simp[whichB]
theorem Zk1 (T:Nat->Bool) (i k:Nat) (h:k < 16):(bitR T i).getD k false=T (16*i+k):=by
 rw[gB,bitR,hV_,getElem?_range h];rfl
theorem Zir (T:Nat->Bool) (j i:Nat) (h:i < 16):(whichB T j).getD i false=(decide (i < j)&&someB T i):=by
 rw[gB,whichB,hV_,getElem?_range h];rfl
theorem Zea:∀ {q:List Bool}{i:Nat},i < q.length->(valB q).testBit (q.length - 1 - i)=q.getD i false:=by
 intro q
 induction q with
 |nil=>intro i h;simp at h
 |cons x l ih=>
  intro i h
  have hc:valB (x::l)=2^l.length*x.toNat+valB l:=by
   have key:∀ (l:List Bool) (a:Nat),l.foldl (λa b=>2*a+b.toNat) a=a*2^l.length+valB l:=by
    intro l
    induction l with
    |nil=>intro a;simp[valB]
    |cons y l ih2=>
     intro a
     have e:valB (y::l)=y.toNat*2^l.length+valB l:=by
      have:=ih2 y.toNat;rw[<-this];simp[valB]
     rw[e,List.foldl_cons,ih2,length_cons,Nat.pow_succ,Nat.add_mul,Nat.mul_comm 2 a,Nat.mul_assoc,Nat.mul_comm 2];omega
   have:=key l x.toNat;rw[Nat.mul_comm,<-this];simp[valB]
  rw[hc,Nat.testBit_two_pow_mul_add _ (Zbg l)];simp only[length_cons] at h ⊢
  cases i with
  |zero=>
   rw[if_neg (by omega),show l.length+1 - 1 - 0 - l.length=0 by omega]
   cases x <;> rfl
  |succ i=>
   rw[if_pos (by omega),show l.length+1 - 1 - (i+1)=l.length - 1 - i by omega,ih (by omega)];rfl
theorem Zt3 {a b:List Bool}{n k:Nat}(ha:a.length=n) (hb:b.length=n) (hk:k < n) (h:∀ i,i < n->b.getD i false=(a.getD i false||decide (i=k))):valB a ||| 2^(n - 1 - k)=valB b:=by
 apply Nat.eq_of_testBit_eq;intro j;rw[Nat.testBit_or,Nat.testBit_two_pow]
 by_cases hj:j < n
 ·have h1:=Zea (q:=a) (i:=n - 1 - j) (by omega);have h2:=Zea (q:=b) (i:=n - 1 - j) (by omega);rw[ha,show n - 1 - (n - 1 - j)=j by omega] at h1;rw[hb,show n - 1 - (n - 1 - j)=j by omega] at h2;rw[h1,h2,h _ (by omega)]
  congr 1
  rw[Bool.eq_iff_iff,decide_eq_true_iff,decide_eq_true_iff];omega
 ·have h1:(valB a).testBit j=false:=Nat.testBit_lt_two_pow (Nat.lt_of_lt_of_le (by have:=Zbg a;rwa [ha] at this) (Nat.pow_le_pow_right (by decide) (by omega)));have h2:(valB b).testBit j=false:=Nat.testBit_lt_two_pow (Nat.lt_of_lt_of_le (by have:=Zbg b;rwa [hb] at this) (Nat.pow_le_pow_right (by decide) (by omega)));rw[h1,h2,Bool.false_or,decide_eq_false (by omega)]
theorem Zos (l:List Bool):bitsOf (valB l) l.length=l:=by
 apply ext_getElem (by rw[Za5]);intro i h1 h2;have hg:=Go.M01.bitsOf_get (valB l) l.length i h2;rw[gA h1] at hg;have:=Zea h2;rw[gB,gA h2] at this;rw[Option.some.inj hg,this];rfl
theorem Zg4 {T:Nat->Bool}{i:Nat}:valB (bitR T i)=0↔someB T i=false:=by
 constructor
 ·intro h;unfold someB;rw[List.any_eq_false];intro k hk;have hk:=mem_range.1 hk;have:=Zea (q:=bitR T i) (i:=k) (by rw[Zdu];exact hk);rw[h,Nat.zero_testBit,Zk1 T i k hk] at this;rw[<-this];simp
 ·intro h;unfold someB at h;rw[List.any_eq_false] at h
  have e:bitR T i=List.replicate 16 false:=by
   unfold bitR;rw[List.eq_replicate_iff];refine⟨by simp,λb hb=>?_⟩;obtain⟨k,hk,rfl⟩:=mem_map.1 hb;simpa using h k hk
  rw[e];decide
def upT (s:List UInt8):Nat->Bool:=λb=>decide (UInt8.ofNat b∈s)
theorem Zk5 {s:List UInt8}{c:UInt8}{b:Nat}(hb:b < 256):upT (s++[c]) b=(upT s b||decide (b=c.toNat)):=by
 unfold upT;rw[Bool.eq_iff_iff,decide_eq_true_iff,Bool.or_eq_true,decide_eq_true_iff,decide_eq_true_iff,hT_,mem_singleton]
 have:UInt8.ofNat b=c↔b=c.toNat:=by
  constructor
  ·intro h;rw[<-h,UInt8.toNat_ofNat_of_lt' hb]
  ·rintro rfl;simp
 rw[this]
theorem Zlf {A B:Nat->Bool}(h:∀ x,x < 256->A x=B x):boolsT A=boolsT B:=by
 unfold boolsT;exact map_congr_left λx hx=>h x (mem_range.1 hx)
theorem Ya7 {s:List UInt8}{c:UInt8}:valB (bitR (upT s) (c.toNat/16)) ||| 2^(15 - c.toNat%16)=valB (bitR (upT (s++[c])) (c.toNat/16)):=by
 have hc:=c.toNat_lt;refine Zt3 (n:=16) (Zdu _ _) (Zdu _ _) (Nat.mod_lt _ (by decide)) λk hk=>?_;rw[Zk1 _ _ _ hk,Zk1 _ _ _ hk,Zk5 (by omega)]
 congr 1
 rw[Bool.eq_iff_iff,decide_eq_true_iff,decide_eq_true_iff];omega
theorem Zvq {s:List UInt8}{c:UInt8}{i:Nat}(hi:i < 16) (h:i≠c.toNat/16):bitR (upT (s++[c])) i=bitR (upT s) i:=by
 have hc:=c.toNat_lt;unfold bitR;apply map_congr_left;intro k hk;have hk:=mem_range.1 hk;rw[Zk5 (by omega),decide_eq_false (by omega),Bool.or_false]
theorem Zsy {T:Nat->Bool}{b:Nat}(hb:b < 256):upT (listed T) b=T b:=by
 unfold upT;rw[Bool.eq_iff_iff,decide_eq_true_iff];unfold listed;rw[mem_map]
 constructor
 ·rintro⟨a,ha,hab⟩;obtain⟨h1,h2⟩:=List.mem_filter.1 ha;have h1:=mem_range.1 h1
  have:a=b:=by
   have:=congrArg UInt8.toNat hab
   rwa [UInt8.toNat_ofNat_of_lt' h1,UInt8.toNat_ofNat_of_lt' hb] at this
  rw[<-this];exact h2
 ·intro h;exact⟨b,List.mem_filter.2 ⟨mem_range.2 hb,h⟩,rfl⟩
theorem Zzw {T:Nat->Bool}{i:Nat}(hi:i < 16):bitR (upT (listed T)) i=bitR T i:=by
 unfold bitR;apply map_congr_left;intro k hk;have hk:=mem_range.1 hk;exact Zsy (by omega)
theorem Zw5 {T:Nat->Bool}{j:Nat}(hj:j < 16) (hs:someB T j=true):valB (whichB T j) ||| 2^(15 - j)=valB (whichB T (j+1)):=by
 refine Zt3 (n:=16) (Zc1 _ _) (Zc1 _ _) hj λi hi=>?_;rw[Zir _ _ _ hi,Zir _ _ _ hi]
 by_cases h1:i=j
 ·subst h1;rw[hs,decide_eq_true (show i < i+1 by omega),decide_eq_false (Nat.lt_irrefl i)];simp
 ·by_cases h2:i < j
  ·rw[decide_eq_true (show i < j+1 by omega),decide_eq_true h2,decide_eq_false h1,Bool.or_false]
  ·rw[decide_eq_false (show ¬ i < j+1 by omega),decide_eq_false h2,decide_eq_false h1];rfl
theorem Zqq {T:Nat->Bool}{j:Nat}(hs:someB T j=false):whichB T (j+1)=whichB T j:=by
 unfold whichB;apply map_congr_left;intro i hi
 by_cases h1:i=j
 ·subst h1;rw[hs,Bool.and_false,Bool.and_false]
 ·congr 1
  rw[Bool.eq_iff_iff,decide_eq_true_iff,decide_eq_true_iff];omega
theorem Zh6 (T:Nat->Bool):∀ j,(rowsB T j).length<=16*j
 |0=>Nat.le_refl _
 |j+1=>by
  have:=Zh6 T j;rw[rowsB,gD];split
  ·rw[Zdu];omega
  ·simp;omega
end Go.Mx
namespace Go.Mv
open Go.M01 Go.Mb Go.Mp Go.M10 Go.Mx
def moves (a b:Nat):List Bool:=(List.replicate (b - a) [true,false]).flatten++(List.replicate (a - b) [true,true]).flatten
def stepsB:Nat->List Nat->List Bool
 |_,[]=>[]
 |a,b::l=>moves a b++[false]++stepsB b l
def lensB (l:List Nat):List Bool:=bitsOf (l.getD 0 0) 5++stepsB (l.getD 0 0) l
def lastB (a:Nat) (l:List Nat):Nat:=l.getLastD a
theorem Zcz:∀ (l:List Nat) (a b:Nat),stepsB a (l++[b])=stepsB a l++(moves (lastB a l) b++[false])
 |[],a,b=>by simp[stepsB,lastB]
 |c::l,a,b=>by
  rw[cons_append,stepsB,stepsB,Zcz l c b]
  have:lastB a (c::l)=lastB c l:=by
   unfold lastB
   cases l with
   |nil=>rfl
   |cons d l=>simp[List.getLastD]
  rw[this];simp only[gI]
theorem lastB_snoc (a b:Nat) (l:List Nat):lastB a (l++[b])=b:=by simp[lastB]
theorem Zl7 (a b:Nat) (ha:a<=20) (hb:b<=20):(moves a b).length<=40:=by
 unfold moves;simp;omega
def pE (x:List Nat × List Nat) (p:Nat):List Nat × List Nat:=(front x.1 (x.1.idxOf p),x.2++[x.1.idxOf p])
def pickE (o l:List Nat):List Nat × List Nat:=l.foldl pE (o,[])
theorem Zf9 (o l:List Nat) (p:Nat):pickE o (l++[p])=pE (pickE o l) p:=by simp[pickE]
def onesB (l:List Nat):List Bool:=l.flatMap λat_=>List.replicate at_ true++[false]
theorem Zqz (l:List Nat) (a:Nat):onesB (l++[a])=onesB l++(List.replicate a true++[false]):=by simp[onesB]
def picksB (l:List Nat) (t:Nat):List Bool:=bitsOf t 3++bitsOf l.length 15++onesB (pickE [0,1,2,3,4,5] l).2
theorem Zrg {o:List Nat}{i:Nat}(hi:i < o.length) (x:Nat):x∈front o i↔x∈o:=by
 unfold front
 have e:o=o.take i++o.getD i 0::o.drop (i+1):=by
  conv=>lhs;rw[<-hN_ i o]
  rw[List.drop_eq_getElem_cons hi,gB,gA hi];rfl
 conv=>rhs;rw[e]
 simp only[mem_cons,hT_]
 constructor
 ·rintro (h|h|h)
  ·exact .inr (.inl h)
  ·exact .inl h
  ·exact .inr (.inr h)
 ·rintro (h|h|h)
  ·exact .inr (.inl h)
  ·exact .inl h
  ·exact .inr (.inr h)
theorem Zo4 {o:List Nat}{c:Nat}(h:c∈o):o.idxOf c < o.length:=List.idxOf_lt_length_of_mem h
theorem Zyi {o:List Nat}{c:Nat}(h:c∈o):o.getD (o.idxOf c) 0=c:=by
 rw[gB,gA (Zo4 h)];simp
theorem Zey {o l:List Nat}(h:∀ c∈l,c∈o):(∀ x,x∈(pickE o l).1↔x∈o)/\(pickE o l).1.length=o.length/\(pickE o l).2.length=l.length/\∀ p∈(pickE o l).2,p < o.length:=by
 have key:∀ i,i<=l.length->(∀ x,x∈(pickE o (l.take i)).1↔x∈o)/\(pickE o (l.take i)).1.length=o.length/\(pickE o (l.take i)).2.length=i/\∀ p∈(pickE o (l.take i)).2,p < o.length:=by
  intro i
  induction i with
  |zero=>intro _;exact⟨λx=>Iff.rfl,rfl,rfl,λp hp=>by simp[pickE] at hp⟩
  |succ i ih=>
   intro hi;obtain⟨h1,h2,h3,h4⟩:=ih (by omega)
   have hg:l.take (i+1)=l.take i++[l[i]]:=by rw[gO,gA (by omega)];rfl
   have hm:l[i]∈(pickE o (l.take i)).1:=(h1 _).2 (h _ (getElem_mem _));have hlt:=Zo4 hm;rw[hg,Zf9];unfold pE;refine⟨λx=>by rw[Zrg hlt];exact h1 x,by rw[Zhe hlt];exact h2,by rw[gD,h3];rfl,λp hp=>?_⟩;rcases hT_.1 hp with hp|hp
   ·exact h4 p hp
   ·rw[mem_singleton.1 hp];omega
 have:=key l.length (Nat.le_refl _)
 rwa [hF_] at this
theorem Zgt:∀ {l:List Nat}{m:Nat},(∀ p∈l,p < m)->(onesB l).length<=m*l.length
 |[],m,h=>by simp[onesB]
 |a::l,m,h=>by
  have h1:=Zgt (l:=l) (m:=m) λp hp=>h p (hK_ _ hp);have h2:=h a (hJ_ ..);unfold onesB at h1 ⊢;rw[List.flatMap_cons,gD,gD,gP,gQ,length_cons,Nat.mul_add];omega
theorem Zuc (a:Nat):bitsOf (2^(a+1) - 2) (a+1)=List.replicate a true++[false]:=by
 apply ext_getElem (by rw[Za5];simp);intro i h1 h2;rw[Za5] at h1;have hg:=Go.M01.bitsOf_get (2^(a+1) - 2) (a+1) i h1;rw[gA (by rw[Za5];exact h1)] at hg;rw[Option.some.inj hg]
 have e:2^(a+1) - 2=2*(2^a - 1):=by rw[Nat.pow_succ];omega
 rw[e]
 by_cases hi:i < a
 ·rw[List.getElem_append_left (by simpa using hi),List.getElem_replicate];rw[show a+1 - 1 - i=(a - 1 - i)+1 by omega,Nat.testBit_succ,Nat.mul_div_cancel_left _ (by decide),Nat.testBit_two_pow_sub_one];simp;omega
 ·have:i=a:=by omega
  subst this;rw[show i+1 - 1 - i=0 by omega,Nat.testBit_zero,Nat.mul_mod_right];simp
end Go.Mv
namespace Go.Vc
section
variable {α:Type}{P:Program}{w:World}{L:List HProp}
theorem r_apO {t e:TypeId}{z:Value} [hr:Row P t e z] (H:Holds w L) (i j:Nat){f:α->Value}{oa:Option Addr}{xs ys:List α}{sp:List Value}{l c m c' b2 o2:Nat}{cs:List Value}{ty:TypeId}{K:KT}
  (hi:L[i]?=some (slb f e oa xs sp)) (hj:L[j]?=some (blk b2 e cs)) (hcs:(cs.drop o2).take m=ys.map f) (hm:m=ys.length) (hl:l=xs.length) (hc:c=xs.length+sp.length) (hs:∀ y,sg (f y)=true)
  (hn:xs.length+ys.length<=1099511627776) (hne:0 < ys.length)
  (h:∀ oa' sp' w',Same w w'->Holds w' (L.set i (slb f e oa' (xs++ys) sp'))->K (.slice oa' (xs.length+ys.length) (xs.length+ys.length+sp'.length)) w') :
  Ap P #[t,t] ty #[.slice oa l c,.slice (some ⟨b2,o2,none⟩) m c'] w K:=by
 subst hl hc hm;obtain⟨inf,hinf,hsz,hby,hzz⟩:=hr.inf
 have hnews:∀ k u,(ys.map f)[k]?=some u->w.cell? ((⟨b2,o2,none⟩:Addr).add k)=some u:=by
  intro k u hu
  have e1:(⟨b2,o2,none⟩:Addr).add k=⟨b2,o2+k,none⟩:=by
   unfold Addr.add;split
   ·rename_i h;rw[h];rfl
   ·rfl
  rw[e1,H.cell j hj (o2+k)]
  have hk:k < ys.length:=by have:=(gH.1 hu).1;simpa using this
  rw[<-hu,<-hcs,hI_ hk,hH_]
 have hmul:(xs.length+ys.length)*inf.bytes<=140737488355328:=
  Nat.le_trans (Nat.mul_le_mul_left _ hby) (by omega)
 have grow:∀ (b:Addr) (olds:List Value),olds=xs.map f->(∀ k v,olds[k]?=some v->w.cell? (b.add k)=some v)->sp.length < ys.length->
   (∃ o,L[i]?=some o)->Ap P #[t,t] ty #[.slice (some b) xs.length (xs.length+sp.length),.slice (some ⟨b2,o2,none⟩) ys.length c'] w K:=by
  intro b olds ho hold hg _;subst ho
  have hrun:=run_append_grow (P:=P) w t ty e inf z hr.und hinf hzz b xs.length (xs.length+sp.length) (xs.map f) (by simp[hsz]) hold
   ⟨b2,o2,none⟩ ys.length c' (ys.map f) (by simp[hsz]) hnews (by omega) (by omega) (growslice_fits (by omega) hmul)
  refine⟨_,_,hrun,?_⟩;have hcap:=grownCap_ge w (xs.length+ys.length) (xs.length+sp.length) e;generalize grownCap w (xs.length+ys.length) (xs.length+sp.length) e=cap at hcap ⊢
  have hz2:Builtin.zeroCells z.cells (cap - (xs.length+ys.length))=(List.replicate (cap - (xs.length+ys.length)) z).toArray:=by
   rw[hr.one];apply Array.ext
   ·simp[Builtin.zeroCells]
   ·intro j h1 h2;simp[Builtin.zeroCells,Nat.mod_one]
  have hcells:((xs.map f).toArray++(ys.map f).toArray++Builtin.zeroCells z.cells (cap - (xs.length+ys.length)))=((xs++ys).map f++List.replicate (cap - (xs.length+ys.length)) z).toArray:=by
   rw[hz2];simp
  rw[hcells];have H1:Holds w.drew L:=H.same rfl;have H2:=H1.alloc (.cells ((xs++ys).map f++List.replicate (cap - (xs.length+ys.length)) z).toArray e)
  have H3:Holds (w.drew.alloc (.cells ((xs++ys).map f++List.replicate (cap - (xs.length+ys.length)) z).toArray e)) (L.set i (slb f e (some ⟨w.heap.size,0,none⟩) (xs++ys) (List.replicate (cap - (xs.length+ys.length)) z))):=by
   have H4:=(Holds.imp H2 (Q:=slb f e (some ⟨w.heap.size,0,none⟩) (xs++ys) (List.replicate (cap - (xs.length+ys.length)) z)) λg hg=>⟨rfl,rfl,hg⟩);have H5:=H4.dropAt (i+1);rw[eraseIdx_cons_succ] at H5;exact Sat.push i hi H5
  have:=h (some ⟨w.heap.size,0,none⟩) (List.replicate (cap - (xs.length+ys.length)) z) _ ((Same.drew w).trans (.alloc _ _)) H3
  have hc2:xs.length+ys.length+(List.replicate (cap - (xs.length+ys.length)) z).length=cap:=by simp;omega
  rw[hc2] at this;exact this
 cases oa with
 |none=>
  obtain⟨g,⟨h2,h3⟩,_⟩:=H.front i hi;subst h2;subst h3;simp only[length_nil,Nat.zero_add,hO_] at hn hmul h ⊢;have hrun:=run_append_nil (P:=P) w t ty e inf z hr.und hinf hzz ⟨b2,o2,none⟩ ys.length c' (ys.map f) (by simp[hsz]) hnews (by omega) (by omega) (by omega);refine⟨_,_,hrun,?_⟩;have hcap:=grownCap_ge w ys.length 0 e;generalize grownCap w ys.length 0 e=cap at hcap ⊢
  have hz2:Builtin.zeroCells z.cells (cap - ys.length)=(List.replicate (cap - ys.length) z).toArray:=by
   rw[hr.one];apply Array.ext
   ·simp[Builtin.zeroCells]
   ·intro j h1 h2;simp[Builtin.zeroCells,Nat.mod_one]
  have hcells:((ys.map f).toArray++Builtin.zeroCells z.cells (cap - ys.length))=(ys.map f++List.replicate (cap - ys.length) z).toArray:=by
   rw[hz2];simp
  rw[hcells];have H2:=(H.same (w':=w.drew) rfl).alloc (.cells (ys.map f++List.replicate (cap - ys.length) z).toArray e);have H4:=(Holds.imp H2 (Q:=slb f e (some ⟨w.heap.size,0,none⟩) ys (List.replicate (cap - ys.length) z)) λg hg=>⟨rfl,rfl,hg⟩);have H5:=H4.dropAt (i+1);rw[eraseIdx_cons_succ] at H5;have:=h (some ⟨w.heap.size,0,none⟩) (List.replicate (cap - ys.length) z) _ ((Same.drew w).trans (.alloc _ _)) (Sat.push i hi H5)
  have hc2:ys.length+(List.replicate (cap - ys.length) z).length=cap:=by simp;omega
  rw[hc2] at this;exact this
 |some a=>
  obtain⟨g,⟨h2,h3,_⟩,_⟩:=H.front i hi;obtain⟨b,o,s⟩:=a;simp only at h2 h3;subst h2;subst h3;have Hb:=H.slb i hi;have hgi:(L.set i (blk b e (xs.map f++sp)))[i]?=some (blk b e (xs.map f++sp)):=Za2 hi
  have hold:∀ k v,(xs.map f)[k]?=some v->w.cell? ((⟨b,0,none⟩:Addr).add k)=some v:=by
   intro k v hv
   have e1:(⟨b,0,none⟩:Addr).add k=⟨b,k,none⟩:=by
    unfold Addr.add;split
    ·rename_i h;rw[h]
    ·simp
   rw[e1,Hb.cell i hgi k,gM (by simpa using (gH.1 hv).1)];exact hv
  rcases hU_ sp.length ys.length with hg|hg
  ·exact grow ⟨b,0,none⟩ _ rfl hold hg ⟨_,hi⟩
  ·have hobj:=Hb.obj i hgi
   have hrun:=run_append_room (P:=P) w t ty e inf hr.und hinf b xs.length (xs.length+sp.length) (xs.map f++sp).toArray hobj
    ⟨b2,o2,none⟩ ys.length c' (ys.map f) (by simp[hsz]) hnews (by simpa using λy _=>Zot (hs y)) (by omega) (by simp[hsz];omega)
   refine⟨_,_,hrun,?_⟩
   have hcells:(((xs.map f++sp).toArray.toList.take (xs.length*inf.size)++ys.map f++(xs.map f++sp).toArray.toList.drop (xs.length*inf.size+(ys.map f).length)).toArray)=((xs++ys).map f++sp.drop ys.length).toArray:=by
    rw[hsz];simp[List.take_append,List.drop_append]
   rw[hcells]
   have H3:Holds (w.setRow b ((xs++ys).map f++sp.drop ys.length).toArray) (L.set i (slb f e (some ⟨b,0,none⟩) (xs++ys) (sp.drop ys.length))):=by
    have:=Hb.upd (w':=w.setRow b ((xs++ys).map f++sp.drop ys.length).toArray) i hgi (o':=.cells ((xs++ys).map f++sp.drop ys.length).toArray e) (setRow_heap w b _ _ e _ hobj) λc hc=>setRow_other w b c _ hc;have h4:=Holds.slb' (f:=f) (e:=e) (b:=b) (xs:=xs++ys) (sp:=sp.drop ys.length) this i (by rw[set_set];exact Za2 hi);simpa [set_set] using h4
   have hlen:xs.length+sp.length=xs.length+ys.length+(sp.drop ys.length).length:=by simp;omega
   rw[hlen];exact h _ _ _ ⟨rfl,rfl,rfl,by simp⟩ H3
end
end Go.Vc
namespace Go.Ms
open Go.Mh
theorem sw {α:Type}{P Q R:List α}{x y:α}{p q:Nat}(hp:P.length=p) (hq:p+1+Q.length=q) :
  (P++x::(Q++y::R))[p]?=some x/\(P++x::(Q++y::R))[q]?=some y/\((P++x::(Q++y::R)).set p y).set q x=P++y::(Q++x::R)/\
   p < (P++x::(Q++y::R)).length/\q < ((P++x::(Q++y::R)).set p y).length:=by
 subst hp;subst hq
 have e:P.length+1+Q.length - P.length=(Q.length+1):=by omega
 refine⟨?_,?_,?_,?_,?_⟩
 ·rw[gT (Nat.le_refl _),Nat.sub_self];rfl
 ·rw[gT (by omega),e,gF,gT (Nat.le_refl _),Nat.sub_self];rfl
 ·rw[set_append_right _ _ (Nat.le_refl _),Nat.sub_self,gJ,set_append_right _ _ (by omega),e,gW,set_append_right _ _ (Nat.le_refl _),Nat.sub_self,gJ]
 ·simp
 ·simp;omega
theorem Zh3 {α:Type}{U:List α}{i:Nat}(h:i < U.length):U.drop i=U[i]::U.drop (i+1):=List.drop_eq_getElem_cons h
theorem Zgf {α:Type}{U:List α}{i:Nat}(h:i < U.length):U.take (i+1)=U.take i++[U[i]]:=by
 rw[gO,gA h];rfl
theorem Zp3 {α:Type}{A B:List α}{x:α}{i:Nat}(h:A.length=i):(A++x::B)[i]?=some x:=by
 subst h;rw[gT (Nat.le_refl _),Nat.sub_self];rfl
theorem Zpj {α:Type}{A X B:List α}{a c:Nat}(ha:A.length=a) (h:c < X.length):(A++(X++B))[a+c]?=some X[c]:=by
 subst ha;rw[gT (by omega),show A.length+c - A.length=c by omega,gM h,gA h]
theorem Zy7 {α:Type}{D:List α}{i:Nat}(h:i<=D.length):∃ A B,D=A++B/\A.length=i/\B.length=D.length - i:=⟨D.take i,D.drop i,(hN_ _ _).symm,by rw[gN];omega,by rw[gS]⟩
def Srt (W X:List Nat):Prop:=X.Pairwise (lt W)
theorem Srt.app {W X Y:List Nat}(hx:Srt W X) (hy:Srt W Y) (h:∀ x∈X,∀ y∈Y,lt W x y):Srt W (X++Y):=pairwise_append.2 ⟨hx,hy,h⟩
theorem Zn0 {W Z1 Z2:List Nat}{x:Nat}(hs:Srt W (Z1++Z2)) (h1:∀ z∈Z1,lt W z x) (h2:∀ z∈Z2,lt W x z):Srt W (Z1++x::Z2):=by
 obtain⟨a,b,c⟩:=pairwise_append.1 hs;refine pairwise_append.2 ⟨a,List.pairwise_cons.2 ⟨h2,b⟩,λz hz y hy=>?_⟩;rcases mem_cons.1 hy with rfl|hy
 ·exact h1 z hz
 ·exact c z hz y hy
theorem Zij {W Z:List Nat}{x:Nat}(hs:Srt W Z){k:Nat}(h:∀ y,Z[k]?=some y->lt W y x) (hk:k < Z.length):∀ z∈Z.take (k+1),lt W z x:=by
 intro z hz;obtain⟨i,hi,rfl⟩:=getElem_of_mem hz;rw[gN] at hi;rw[List.getElem_take];have hx:=h _ (gA hk)
 by_cases e:i=k
 ·subst e;exact hx
 ·exact Zc9 (List.pairwise_iff_getElem.1 hs i k (by omega) hk (by omega)) hx
theorem Ziz {W Z:List Nat}{x:Nat}(hs:Srt W Z){k:Nat}(h:∀ y,Z[k]?=some y->lt W x y):∀ z∈Z.drop k,lt W x z:=by
 intro z hz;obtain⟨i,hi,rfl⟩:=getElem_of_mem hz;rw[gS] at hi;rw[List.getElem_drop]
 have hk:k < Z.length:=by omega
 have hx:=h _ (gA hk)
 by_cases e:i=0
 ·subst e;exact hx
 ·exact Zc9 hx (List.pairwise_iff_getElem.1 hs k (k+i) hk (by omega) (by omega))
def Seg (W:List Nat) (lo:Nat) (X:List Nat):Prop:=X.Perm (List.range' lo X.length)/\Srt W X
inductive Runs (W:List Nat) (s:Nat):Nat->List Nat->Prop
 |last {lo:Nat} {X:List Nat} (h:Seg W lo X) (hl:X.length<=s):Runs W s lo X
 |cons {lo:Nat} {X L:List Nat} (h:Seg W lo X) (hl:X.length=s) (r:Runs W s (lo+s) L):Runs W s lo (X++L)
theorem Seg.join {W X Y Z:List Nat}{lo s:Nat}(hx:Seg W lo X) (hl:X.length=s) (hy:Seg W (lo+s) Y) (hz:Z.Perm (X++Y)) (hs:Srt W Z):Seg W lo Z:=by
 refine⟨?_,hs⟩;refine hz.trans ((hx.1.append hy.1).trans ?_);rw[hz.length_eq,gD,hl,<-List.range'_append_1]
theorem Zp5 {W X Y:List Nat}{lo s:Nat}(hx:Seg W lo X) (hl:X.length=s) (hy:Seg W (lo+s) Y):∀ x∈X,∀ y∈Y,x < y:=by
 intro x h1 y h2;have h1:=mem_range'_1.1 (hx.1.mem_iff.1 h1);have h2:=mem_range'_1.1 (hy.1.mem_iff.1 h2);omega
theorem Zf7 {W D:List Nat}{s lo:Nat}(h:Runs W s lo D) (hs:0 < s) (hl:D.length<=s):Seg W lo D:=by
 cases h with
 |last h _=>exact h
 |cons h hl2 r=>
  rename_i X L;rw[gD] at hl;have:L=[]:=List.eq_nil_of_length_eq_zero (by omega);subst this;rw[gU];exact h
theorem halves {W X1 X2 Y1 Y2 Z1 Z2:List Nat}(hx:Srt W (X1++X2)) (hy:Srt W (Y1++Y2)) (h1:∀ x∈X1,∀ y∈Y2,lt W x y) (h2:∀ y∈Y1,∀ x∈X2,lt W y x)
  (p1:Z1.Perm (X1++Y1)) (p2:Z2.Perm (X2++Y2)) (s1:Srt W Z1) (s2:Srt W Z2):(Z1++Z2).Perm (X1++X2++(Y1++Y2))/\Srt W (Z1++Z2):=by
 obtain⟨_,_,cx⟩:=pairwise_append.1 hx;obtain⟨_,_,cy⟩:=pairwise_append.1 hy;refine⟨?_,s1.app s2 λx hx1 y hy1=>?_⟩
 ·refine (p1.append p2).trans ?_;rw[gI,gI];refine .append_left _ ?_;rw[<-gI,<-gI];exact .append_right _ List.perm_append_comm
 ·rcases hT_.1 (p1.mem_iff.1 hx1) with h|h <;> rcases hT_.1 (p2.mem_iff.1 hy1) with h'|h'
  ·exact cx x h y h'
  ·exact h1 x h y h'
  ·exact h2 x h y h'
  ·exact cy x h y h'
theorem sw' {α:Type}{P Q R:List α}{x y:α}{p q:Nat}(hp:P.length=p) (hq:p+1+Q.length=q) :
  ((P++x::(Q++y::R)).set q x).set p y=P++y::(Q++x::R)/\q < (P++x::(Q++y::R)).length/\p < ((P++x::(Q++y::R)).set q x).length:=by
 obtain⟨_,_,e,h1,h2⟩:=sw (P:=P) (Q:=Q) (R:=R) (x:=x) (y:=y) hp hq;refine⟨by rw[List.set_comm _ _ (by omega)];exact e,?_,?_⟩
 ·rw[hX_] at h2;exact h2
 ·rw[hX_];exact h1
theorem Zzc {W X Y:List Nat}{h lo hi s:Nat}(hx:Srt W X) (hy:Srt W Y) (hc:(lo=h - Y.length/\Y.length<=h/\hi=h)\/(lo=0/\hi=X.length)) (h0:lo<=s) (h1:s<=hi) (hh:s<=h)
  (h2:lo < s->lt W (X.getD (s - 1) 0) (Y.getD (h - s) 0)) (h3:s < hi->lt W (Y.getD (h - 1 - s) 0) (X.getD s 0)) (hX:s<=X.length) (hY:h - s<=Y.length) :
  (∀ x∈X.take s,∀ y∈Y.drop (h - s),lt W x y)/\(∀ y∈Y.take (h - s),∀ x∈X.drop s,lt W y x):=by
 have gX:∀ i (hi:i < X.length),X.getD i 0=X[i]:=λi hi=>by rw[gB,gA hi];rfl
 have gY:∀ i (hi:i < Y.length),Y.getD i 0=Y[i]:=λi hi=>by rw[gB,gA hi];rfl
 have mX:∀ i j (hi:i < X.length) (hj:j < X.length),i < j->lt W X[i] X[j]:=λi j hi hj hij=>List.pairwise_iff_getElem.1 hx i j hi hj hij;have mY:∀ i j (hi:i < Y.length) (hj:j < Y.length),i < j->lt W Y[i] Y[j]:=λi j hi hj hij=>List.pairwise_iff_getElem.1 hy i j hi hj hij
 constructor
 ·intro x hxm y hym;obtain⟨i,hi1,rfl⟩:=getElem_of_mem hxm;obtain⟨j,hj1,rfl⟩:=getElem_of_mem hym;rw[gN] at hi1;rw[gS] at hj1;rw[List.getElem_take,List.getElem_drop]
  have hls:lo < s:=by
   rcases hc with⟨a,b,c⟩|⟨a,b⟩ <;> omega
  have e:=h2 hls;rw[gX _ (by omega),gY _ (by omega)] at e
  have e1:lt W X[i] Y[h - s]:=by
   by_cases q:i=s - 1
   ·subst q;exact e
   ·exact Zc9 (mX i (s - 1) (by omega) (by omega) (by omega)) e
  by_cases q:j=0
  ·subst q;exact e1
  ·exact Zc9 e1 (mY (h - s) (h - s+j) (by omega) (by omega) (by omega))
 ·intro y hym x hxm;obtain⟨i,hi1,rfl⟩:=getElem_of_mem hxm;obtain⟨j,hj1,rfl⟩:=getElem_of_mem hym;rw[gN] at hj1;rw[gS] at hi1;rw[List.getElem_take,List.getElem_drop]
  have hls:s < hi:=by
   rcases hc with⟨a,b,c⟩|⟨a,b⟩ <;> omega
  have e:=h3 hls;rw[gX _ (by omega),gY _ (by omega)] at e
  have e1:lt W Y[j] X[s]:=by
   by_cases q:j=h - 1 - s
   ·subst q;exact e
   ·exact Zc9 (mY j (h - 1 - s) (by omega) (by omega) (by omega)) e
  by_cases q:i=0
  ·subst q;exact e1
  ·exact Zc9 e1 (mX s (s+i) (by omega) (by omega) (by omega))
theorem seg_nil (W:List Nat) (lo:Nat):Seg W lo []:=⟨.refl _,List.Pairwise.nil⟩
theorem Zhq {W D:List Nat}{s lo:Nat}(h:Runs W s lo D) (hl:s<=D.length):∃ X R,D=X++R/\Seg W lo X/\X.length=s/\Runs W s (lo+s) R:=by
 cases h with
 |last h h2=>exact⟨D,[],(gU _).symm,h,by omega,.last (seg_nil _ _) (hE _)⟩
 |cons h h2 r=>exact⟨_,_,rfl,h,h2,r⟩
theorem Zp8 {W X:List Nat}{lo n:Nat}(h:Seg W lo X) (hn:lo+X.length<=n):∀ x∈X,x < n:=by
 intro x hx;have:=mem_range'_1.1 (h.1.mem_iff.1 hx);omega
theorem Zs2 (lo n s:Nat) (h:s<=n):List.range' lo n=List.range' lo s++List.range' (lo+s) (n - s):=by
 rw[List.range'_append_1,show s+(n - s)=n by omega]
end Go.Ms
namespace Go.Proofs.YtpmjeiliblgajaaGreatDoor
open Go Go.Vc Go.Proofs.Tryz
attribute [local irreducible] Vc.Nc Vc.Ld Vc.LdA Vc.St Vc.StA Vc.Fo Vc.Iaa Vc.Ias Vc.Ixs Vc.Ixa Vc.Fd Vc.FdA Vc.Bp Vc.Bb Vc.Bn Vc.Up Vc.Ci Vc.Lns Vc.Lnl Vc.Ex Vc.Sst Vc.Ssl Vc.New Vc.Vif Vc.VJoin Vc.VLoop Vc.KE Vc.Dr Vc.Rk Vc.Cl Vc.Cx Vc.Inv Vc.Be Vc.Cv Vc.Cw Vc.Mf Vc.Sl Vc.Lk Vc.Bd Vc.Bs Vc.Ms Vc.Mm Vc.Mu Vc.Me Vc.Es Vc.Rg Vc.Nx Vc.Ta Vc.Ap Vc.Usd Vc.Ust Vc.Cp Vc.Ln Vc.Bc Vc.Bmin Vc.Bmax Vc.Bdel Vc.Bclr Vc.Pk
instance rowU:Row prog 237 108 (.int .u32 0):=⟨by kernel_rfl,⟨t108,by kernel_rfl,by kernel_rfl,by decide,by kernel_rfl⟩,rfl⟩
abbrev tU:Nat:=108
namespace C10
open Go.M01 Go.Mb Go.Mp Go.M10 Rb
variable {w:World}{L:List HProp}{K:KT}{b r:Nat}{B:List UInt8}{d at_ n:Nat}{lens:List Nat}
abbrev tC:Nat:=241
theorem getD_some {l:List Nat}{i:Nat}(h:i < l.length):l[i]?=some (l.getD i 0):=by
 rw[gB,gA h];rfl
theorem Zbw (hs:Sized lens){i:Nat}(h:i < lens.length):1<=lens.getD i 0/\lens.getD i 0<=20:=hs _ (List.mem_of_getElem? (getD_some h))
theorem Zqy {x:Nat}(j:Nat){v:Value}(H:Holds w L) (hj:L[j]?=some (SL nv tI v lens)) (hn:lens.length<=1000000000) (hx:∀ y∈lens,y≠x) (k:K (iv (-1)) w) :
  Cl prog 159 #[v,nv x] w K:=by
 refine Tz159 ?_;unfold Vz159;refine r_lnS j H hj ?_;refine Za7 (λy w'=>∃ i:Nat,i<=lens.length/\y=nv i/\w=w') (λy _=>lens.length - (intOf y).toNat) ⟨0,by omega,rfl,rfl⟩ ?_;rintro _ _ _ ⟨i,hi,rfl,rfl⟩
 repeat (refine r_lss ?_)
 refine r_ifD (λh=>?_) λh=>?_
 ·have hlt:i < lens.length:=by omega
  refine Za8 j H hj (getD_some hlt) ?_;have:=hx _ (List.mem_of_getElem? (getD_some hlt))
  repeat (first|refine r_ke ?_|refine r_eql ?_|(refine Za0 (by omega) ?_)|((with_reducible refine r_vfE ?h ?_);(case h=>omega)))
  refine⟨⟨i+1,by omega,rfl,rfl⟩,?_⟩;simp[nv,intOf];omega
 ·exact k
theorem between_spec (j:Nat){v:Value}(H:Holds w L) (hj:L[j]?=some (SL nv tI v lens)) (hn:lens.length<=1000000000) (hs:Sized lens) (k:∀ w',Same w w'->Holds w' L->K (.bool true) w') :
  Cl prog 209 #[v,iv 0,iv 20] w K:=by
 refine Tz209 ?_;unfold Vz209;refine r_new H λb1 w1 S1 H1=>?_;refine r_new H1 λb2 w2 S2 H2=>?_;replace H2:Holds w2 (blk b2 3 [iv 20]::blk b1 3 [iv 0]::L):=H2;refine r_mf (.func (.func 215) #[] #[pt b1,pt b2]) (by kernel_rfl) ?_;refine r_cl (K:=λx w'=>w2=w'/\x=.bool false) ?_ ?_
 ·refine Tz184 ?_;unfold Vz184;refine Tz205 ?_;unfold Vz205;have hj2:(blk b2 3 [iv 20]::blk b1 3 [iv 0]::L)[j+2]?=some (SL nv tI v lens):=hj;refine r_lnS (j+2) H2 hj2 ?_;refine Za7 (λy w'=>∃ i:Nat,i<=lens.length/\y=nv i/\w2=w') (λy _=>lens.length - (intOf y).toNat) ⟨0,by omega,rfl,rfl⟩ ?_;rintro _ _ _ ⟨i,hi,rfl,rfl⟩
  repeat (refine r_lss ?_)
  refine r_ifD (λh=>?_) λh=>?_
  ·have hlt:i < lens.length:=by omega
   refine Za8 (j+2) H2 hj2 (getD_some hlt) ?_;have hb:=Zbw hs hlt;refine r_inv (f:=215) (args:=#[nv (lens.getD i 0),pt b1,pt b2]) (by kernel_rfl) ?_;refine Tz215 ?_;unfold Vz215
   repeat (first|refine r_ld 0 H2 rfl rfl ?_|refine r_ld 1 H2 rfl rfl ?_|refine r_ke ?_|refine r_lss ?_|refine r_gtr ?_|(refine Za0 (by omega) ?_)|((with_reducible refine r_vfD ?h ?_);(case h=>omega)))
   refine⟨⟨i+1,by omega,rfl,rfl⟩,?_⟩;simp[nv,intOf];omega
  ·repeat (refine r_geq ?_)
   exact⟨rfl,by rw[decide_eq_false (by omega)]⟩
 rintro _ _ ⟨rfl,rfl⟩
 repeat (with_reducible refine Zbm ?_)
 exact k _ (S1.trans S2) H2.drop.drop
theorem Zhx (lens:List Nat) (i:Nat) (h:i < lens.length):share (lens.take (i+1))=share (lens.take i)+2^(20 - lens.getD i 0):=by
 rw[Zan (getD_some h)];simp[share]
theorem Zwl (hs:Sized lens):∀ i,i<=lens.length->share (lens.take i)<=i*524288:=by
 intro i
 induction i with
 |zero=>intro _;simp[share]
 |succ i ih=>
  intro hi;rw[Zhx _ _ (by omega)];have h1:=ih (by omega);have h2:2^(20 - lens.getD i 0)<=2^19:=Nat.pow_le_pow_right (by decide) (by have:=Zbw hs (show i < lens.length by omega);omega);omega
theorem Zr3 (j:Nat){v:Value}(H:Holds w L) (hj:L[j]?=some (SL nv tI v lens)) (hn:lens.length<=258) (hs:Sized lens) (k:∀ w',Same w w'->Holds w' L->K (.tuple #[nv (share lens),iv 0]) w') :
  Cl prog 194 #[v] w K:=by
 refine Tz194 ?_;unfold Vz194;refine Za1 (λx w'=>x=.bool false/\Same w w'/\Holds w' L) ?_ ?_
 ·clear H;rintro _ _ w1 ⟨rfl,S,H⟩
  repeat (with_reducible refine r_vf ?_)
  refine r_lnS j H hj ?_;refine Zaa (λn y w'=>∃ i:Nat,i<=lens.length/\y=nv i/\n=nv (share (lens.take i))/\w1=w') (λ_ y _=>lens.length - (intOf y).toNat) ⟨0,by omega,rfl,rfl,rfl⟩ ?_;rintro _ _ _ _ ⟨i,hi,rfl,rfl,rfl⟩
  repeat (refine r_lss ?_)
  refine r_ifD (λh=>?_) λh=>?_
  ·have hlt:i < lens.length:=by omega
   refine Za8 j H hj (getD_some hlt) ?_;have hb:=Zbw hs hlt;have hsl:=Zwl hs i hi;have e:=Zhx lens i hlt;have h2:2^(20 - lens.getD i 0)<=2^19:=Nat.pow_le_pow_right (by decide) (by omega)
   repeat (refine r_sub (by omega) (by omega) ?_)
   rw[show (20:Int) - (lens.getD i 0:Nat)=((20 - lens.getD i 0:Nat):Int) by omega];refine Zxk (by omega) ?_;generalize 2^(20 - lens.getD i 0)=q at *
   repeat (first|refine r_ke ?_|(refine Za0 (by omega) ?_)|(refine Za9 (by omega) ?_))
   refine⟨⟨i+1,by omega,rfl,by rw[e],rfl⟩,?_⟩;simp[nv,intOf];omega
  ·obtain rfl:i=lens.length:=by omega
   rw[hF_];exact k _ S H
 ·refine r_lnS j H hj ?_
  repeat (first|refine r_gtr ?_|((with_reducible refine r_vfD ?h ?_);(case h=>omega)))
  refine between_spec j H hj (by omega) hs λw2 S2 H2=>?_
  repeat (first|refine r_ke ?_|(with_reducible refine Zah ?_))
  exact⟨rfl,S2,H2⟩
theorem whole_spec (j:Nat){v:Value}(H:Holds w L) (hj:L[j]?=some (SL nv tI v lens)) (hn:lens.length<=258) (hs:Sized lens) (k:∀ w',Same w w'->Holds w' L->K (.bool (decide (share lens=1048576))) w') :
  Cl prog 170 #[v] w K:=by
 refine Tz170 ?_;unfold Vz170;refine Zr3 j H hj hn hs λw2 S2 H2=>?_
 repeat (first|refine r_eql ?_|(with_reducible first|refine Za3 ?_|refine Za4 ?_)|((with_reducible refine r_vtE ?h ?_);(case h=>omega)))
 refine r_ifE (λh=>?_) λh=>?_
 ·refine Tz195 ?_;unfold Vz195;refine Zqy (x:=0) j H2 hj (by omega) (λy hy=>by have:=hs y hy;omega) ?_
  repeat (first|refine r_geq ?_|refine r_not ?_)
  have:=k _ S2 H2;rw[decide_eq_true (by omega)] at this;exact this
 ·have:=k _ S2 H2;rw[decide_eq_false (by omega)] at this;exact this
def cdC (lv cv ov:Value) (F G:List Nat):List Value:=[lv,cv,ov]++(F.map nv++(G.map nv++[]))
section
variable {lv cv ov:Value}{F G:List Nat}
theorem cF {n x:Nat}(h:F[n]?=some x):(cdC lv cv ov F G)[3+n]?=some (nv x):=Zk7 [lv,cv,ov] h
theorem Zts:cdC lv cv ov F G=([lv,cv,ov]++F.map nv)++(G.map nv++[]):=by rw[cdC,gI]
theorem cG {n x:Nat}(hF:F.length=21) (h:G[n]?=some x):(cdC lv cv ov F G)[24+n]?=some (nv x):=by
 have:=Zk7 (f:=nv) (post:=[]) ([lv,cv,ov]++F.map nv) h;rw[show ([lv,cv,ov]++F.map nv).length=24 by simp[hF]] at this;rw[Zts];exact this
theorem sF {n:Nat}(x:Nat) (h:n < F.length):(cdC lv cv ov F G).set (3+n) (nv x)=cdC lv cv ov (F.set n x) G:=Zhf [lv,cv,ov] x h
theorem sG {n:Nat}(x:Nat) (hF:F.length=21) (h:n < G.length):(cdC lv cv ov F G).set (24+n) (nv x)=cdC lv cv ov F (G.set n x):=by
 have:=Zhf (f:=nv) (post:=[]) ([lv,cv,ov]++F.map nv) x h;rw[show ([lv,cv,ov]++F.map nv).length=24 by simp[hF]] at this;rw[Zts,Zts];exact this
theorem cd1:(cdC lv cv ov F G)[1]?=some cv:=rfl
theorem cd2:(cdC lv cv ov F G)[2]?=some ov:=rfl
theorem sd2 (v:Value):(cdC lv cv ov F G).set 2 v=cdC lv cv v F G:=rfl
theorem cdlen (hF:F.length=21) (hG:G.length=22):(cdC lv cv ov F G).length=46:=by simp[cdC,hF,hG]
end
def fL (lens:List Nat):List Nat:=(List.range 21).map (fst_ lens)
def gL (lens:List Nat):List Nat:=(List.range 22).map (frm lens)
def codesAt (lens:List Nat) (n j:Nat):List Nat:=(List.range lens.length).map λi=>if lens.getD i 0 < n\/(lens.getD i 0=n/\i < j) then codeN lens i else 0
theorem Zmx (lens:List Nat) (n j:Nat):(codesAt lens n j).length=lens.length:=by simp[codesAt]
theorem Zmn {n j:Nat}(hj:j < lens.length) (hn:lens.getD j 0=n):(codesAt lens n j).set j (fst_ lens n+(lens.take j).count n)=codesAt lens n (j+1):=by
 apply ext_getElem
 ·simp[codesAt]
 intro i h1 h2
 have hi:i < lens.length:=by simpa [codesAt] using h2
 rw[List.getElem_set];simp only[codesAt,List.getElem_map,List.getElem_range]
 by_cases h:j=i
 ·subst h;rw[if_pos rfl,if_pos (.inr ⟨hn,by omega⟩),codeN,hn]
 ·rw[if_neg h]
  by_cases h3:lens.getD i 0 < n\/(lens.getD i 0=n/\i < j)
  ·rw[if_pos h3,if_pos (by omega)]
  ·rw[if_neg h3,if_neg (by omega)]
theorem Zkn {n j:Nat}(hn:lens.getD j 0≠n):codesAt lens n (j+1)=codesAt lens n j:=by
 apply map_congr_left;intro i hi
 by_cases h:j=i
 ·subst h
  by_cases h3:lens.getD j 0 < n
  ·rw[if_pos (.inl h3),if_pos (.inl h3)]
  ·rw[if_neg (by omega),if_neg (by omega)]
 ·by_cases h3:lens.getD i 0 < n\/(lens.getD i 0=n/\i < j)
  ·rw[if_pos h3,if_pos (by omega)]
  ·rw[if_neg h3,if_neg (by omega)]
theorem Zkp (n:Nat):codesAt lens n lens.length=codesAt lens (n+1) 0:=by
 apply map_congr_left;intro i hi;rw[mem_range] at hi
 by_cases h3:lens.getD i 0 < n+1
 ·rw[if_pos (by omega),if_pos (.inl h3)]
 ·rw[if_neg (by omega),if_neg (by omega)]
theorem Zsu (hs:Sized lens):codesAt lens 1 0=List.replicate lens.length 0:=by
 rw[codesAt,show (List.replicate lens.length 0:List Nat)=(List.range lens.length).map λ_=>0 by rw[List.map_const',hW_]];apply map_congr_left;intro i hi;rw[mem_range] at hi;have:=Zbw hs hi;rw[if_neg (by omega)]
theorem Zoh {n j:Nat}:grp lens (j+1) n=grp lens j n++if lens.getD j 0=n then [j] else []:=by
 unfold grp;rw[List.range_succ,List.filter_append]
 congr 1
 rw[List.filter_cons,List.filter_nil]
 by_cases h:lens.getD j 0=n
 ·rw[if_pos (by simpa using h),if_pos h]
 ·rw[if_neg (by simpa using h),if_neg h]
def CodeR (b:Nat) (lens:List Nat):HProp:=λh=>(Whole lens/\lens.length<=258)/\∃ lv cv ov,Sat [blk b tC (cdC lv cv ov (fL lens) (gL lens)),SL nv tI ov (upto lens 20),SL uv tU cv (codesAt lens 21 0),SL nv tI lv lens] h
theorem Zdq (H:Holds w (CodeR b lens::L)):(Whole lens/\lens.length<=258)/\∃ lv cv ov,Holds w (blk b tC (cdC lv cv ov (fL lens) (gL lens))::SL nv tI ov (upto lens 20)::SL uv tU cv (codesAt lens 21 0)::SL nv tI lv lens::L):=by
 obtain⟨h,H⟩:=Holds.pure H;obtain⟨lv,H⟩:=Holds.ex H;obtain⟨cv,H⟩:=Holds.ex H;obtain⟨ov,H⟩:=Holds.ex H;exact⟨h,lv,cv,ov,Holds.unpack H⟩
theorem Zd2 {lv cv ov:Value}(h:Whole lens/\lens.length<=258) (H:Holds w (blk b tC (cdC lv cv ov (fL lens) (gL lens))::SL nv tI ov (upto lens 20)::SL uv tU cv (codesAt lens 21 0)::SL nv tI lv lens::L)):Holds w (CodeR b lens::L):=
 Holds.imp (Holds.pack (A:=[_,_,_,_]) H) λ_ hh=>⟨h,lv,cv,ov,hh⟩
theorem Zxn {n:Nat}(h:n < 21):(fL lens)[n]?=some (fst_ lens n):=by rw[fL,hV_,getElem?_range h];rfl
theorem Zug {n:Nat}(h:n < 22):(gL lens)[n]?=some (frm lens n):=by rw[gL,hV_,getElem?_range h];rfl
theorem Zla:(fL lens).length=21:=by simp[fL]
theorem Zlz:(gL lens).length=22:=by simp[gL]
theorem New_spec {j:Nat}{v:Value}(H:Holds w L) (hj:L[j]?=some (SL nv tI v lens)) (h3:3<=lens.length) (hn:lens.length<=258) (hs:Sized lens)
  (kb:share lens≠1048576->∀ w',Same w w'->Holds w' L->K (.tuple #[.pointer none,iv 22]) w')
  (k:Whole lens->∀ b w',Same w w'->Holds w' (CodeR b lens::L)->K (.tuple #[pt b,iv 0]) w'):Cl prog 153 #[v] w K:=by
 refine Tz153 ?_;unfold Vz153;refine Za1 (λx w'=>w=w'/\x=.bool false) ?_ ?_
 rotate_left
 ·refine r_lnS j H hj ?_
  repeat (first|refine r_lss ?_|((with_reducible refine r_vfD ?h ?_);(case h=>omega)))
  refine r_lnS j H hj ?_
  repeat (first|refine r_ke ?_|refine r_gtr ?_)
  exact⟨rfl,by rw[decide_eq_false (by omega)]⟩
 rintro _ _ _ ⟨rfl,rfl⟩
 repeat (with_reducible refine r_vf ?_)
 refine whole_spec j H hj hn hs λw1 S1 H1=>?_;clear H;have S:=S1;have H:=H1;clear S1 H1
 repeat (refine r_not ?_)
 by_cases hwh:share lens=1048576
 rotate_left
 ·rw[decide_eq_false hwh];exact r_vt (kb hwh _ S H)
 have hW:Whole lens:=⟨hs,hwh⟩;rw[decide_eq_true hwh,Bool.not_true]
 repeat (with_reducible refine r_vf ?_)
 refine Za1 (λx w'=>∃ b lv cv,x=pt b/\Same w w'/\Holds w' (blk b tC (cdC lv cv (.slice none 0 0) (List.replicate 21 0) (List.replicate 22 0))::SL uv tU cv (List.replicate lens.length 0)::SL nv tI lv lens::L)) ?_ ?_
 rotate_left
 ·repeat (refine r_dr H ?_;clear H;intro _ S_ H;replace S:=S.trans S_;clear S_)
  rename_i w2;have hto:((lens.length:Nat):Int).toNat=lens.length:=gC _;refine⟨?_,?_⟩
  ·refine Zbf H j hj (by omega) λv1 w3 S3 H3=>?_;refine r_lnS (j+1) H3 (by rw[gF];exact hj) ?_;refine r_rk (r_lnS j H hj rfl) ?_;refine r_ms (e:=tU) (f:=uv) (x:=0) H3 rfl (by omega) (by omega) λb4 w4 S4 H4=>?_;rw[hto] at H4 ⊢;have H5:=H4.close 0 rfl;rw[gJ] at H5;obtain⟨oa,sp,rfl,H6⟩:=H5.open 1 rfl;refine r_bd (v:=.agg #[.slice oa lens.length (lens.length+sp.length),.slice (some ⟨b4,0,none⟩) lens.length lens.length,.slice none 0 0,nv 0,nv 0,nv 0,nv 0,nv 0,nv 0,nv 0,nv 0,nv 0,nv 0,nv 0,nv 0,nv 0,nv 0,nv 0,nv 0,nv 0,nv 0,nv 0,nv 0,nv 0,nv 0,nv 0,nv 0,nv 0,nv 0,nv 0,nv 0,nv 0,nv 0,nv 0,nv 0,nv 0,nv 0,nv 0,nv 0,nv 0,nv 0,nv 0,nv 0,nv 0,nv 0,nv 0]) (by kernel_rfl) ?_;refine r_new H5 λb w5 S5 H7=>?_
   repeat (refine r_ke ?_)
   refine⟨b,.slice oa lens.length (lens.length+sp.length),.slice (some ⟨b4,0,none⟩) lens.length lens.length,rfl,((S.trans S3).trans S4).trans S5,?_⟩;rw[gP] at H7;exact H7
  ·refine r_lnS j H hj ?_;refine r_ms (e:=tU) (f:=uv) (x:=0) H rfl (by omega) (by omega) λb4 w4 S4 H4=>?_;rw[hto] at H4 ⊢;have H5:=H4.close 0 rfl;rw[gJ] at H5;refine Zbf H5 (j+1) (by rw[gF];exact hj) (by omega) λv1 w3 S3 H3=>?_;refine r_rk (r_lnS (j+2) H3 (by rw[gF,gF];exact hj) rfl) ?_;obtain⟨oa,sp,rfl,H6⟩:=H3.open 0 rfl;refine r_bd (v:=.agg #[.slice oa lens.length (lens.length+sp.length),.slice (some ⟨b4,0,none⟩) lens.length lens.length,.slice none 0 0,nv 0,nv 0,nv 0,nv 0,nv 0,nv 0,nv 0,nv 0,nv 0,nv 0,nv 0,nv 0,nv 0,nv 0,nv 0,nv 0,nv 0,nv 0,nv 0,nv 0,nv 0,nv 0,nv 0,nv 0,nv 0,nv 0,nv 0,nv 0,nv 0,nv 0,nv 0,nv 0,nv 0,nv 0,nv 0,nv 0,nv 0,nv 0,nv 0,nv 0,nv 0,nv 0,nv 0]) (by kernel_rfl) ?_;refine r_new H3 λb w5 S5 H7=>?_
   repeat (refine r_ke ?_)
   refine⟨b,.slice oa lens.length (lens.length+sp.length),.slice (some ⟨b4,0,none⟩) lens.length lens.length,rfl,((S.trans S4).trans S3).trans S5,?_⟩;rw[gP] at H7;exact (Holds.front H7 2 rfl).swap
 rintro _ _ w2 ⟨b,lv,cv,rfl,S2,H2⟩;clear S H;have hl20:=λn (h:n<=20)=>Zxl lens hs n h;have hcl:=λn=>count_le_length (a:=n) (l:=lens)
 refine Zaa (λx y w'=>∃ n ov,1<=n/\n<=21/\y=nv n/\x=nv (nx lens (n - 1))/\Same w w'/\Holds w' (blk b tC (cdC lv cv ov (filled (fL lens) 0 21 n) (filled (gL lens) 0 22 n))::SL nv tI ov (upto lens (n - 1))::SL uv tU cv (codesAt lens n 0)::SL nv tI lv lens::L))
  (λ_ y _=>21 - (intOf y).toNat) ⟨1,.slice none 0 0,by omega,by omega,rfl,rfl,S2,?_⟩ ?_
 ·rw[Zsu hs];have e1:filled (fL lens) 0 21 1=List.replicate 21 0:=rfl;have e2:filled (gL lens) 0 22 1=List.replicate 22 0:=rfl;rw[e1,e2];exact (H2.nilSL nv tI).swap
 clear S2 H2;rintro _ _ _ w3 ⟨n,ov,h1,h21,rfl,rfl,S,H⟩;have lF:(filled (fL lens) 0 21 n).length=21:=Zb0 (by omega) Zla;have lG:(filled (gL lens) 0 22 n).length=22:=Zb0 (by omega) Zlz
 repeat (refine r_leq ?_)
 refine r_ifD (λh=>?_) λh=>?_
 ·have hn20:n<=20:=by omega
  have hnl:=nx_le hW (n - 1) (by omega);have hp:2^(n - 1)<=2^19:=Nat.pow_le_pow_right (by decide) (by omega)
  repeat (first|refine Zb8 ((2*nx lens (n - 1):Nat):Int) (by omega) (by omega) (by omega) ?_|refine r_nc ?_|refine r_fo0 ?_|(refine Zak (by omega) ?_))
  refine r_st 0 H rfl (by rw[cdlen lF lG];omega) rfl λw4 S4 H4=>?_;rw[gJ,sF _ (by omega),Zb2 (x:=2*nx lens (n - 1)) (by omega) Zla (Zxn (by omega))] at H4;replace S:=S.trans S4;clear H;have H:=H4;clear H4 S4;have lF1:(filled (fL lens) 0 21 (n+1)).length=21:=Zb0 (by omega) Zla
  repeat (first|((with_reducible apply r_ld 0 H);(exact rfl);(with_reducible exact (cd2)))|refine r_nc ?_|refine r_fo0 ?_|(refine r_dr H ?_;clear H;intro _ S_ H;replace S:=S.trans S_;clear S_))
  refine r_lnS 1 H rfl ?_
  repeat (first|refine r_nc ?_|refine r_fo0 ?_|(refine Zak (by omega) ?_))
  refine r_st 0 H rfl (by rw[cdlen lF1 lG];omega) rfl λw4 S4 H4=>?_;rw[gJ,sG _ lF1 (by omega),Zb2 (x:=(upto lens (n - 1)).length) (by omega) Zlz (Zug (by omega))] at H4;replace S:=S.trans S4;clear H;have H:=H4;clear H4 S4;refine r_lnS (j+4) H (by rw[gF,gF,gF,gF];exact hj) ?_
  refine Zaa (λx y w'=>∃ i ov,i<=lens.length/\y=nv i/\x=nv (fst_ lens n+(lens.take i).count n)/\Same w w'/\Holds w' (blk b tC (cdC lv cv ov (filled (fL lens) 0 21 (n+1)) (filled (gL lens) 0 22 (n+1)))::SL nv tI ov (upto lens (n - 1)++grp lens i n)::SL uv tU cv (codesAt lens n i)::SL nv tI lv lens::L))
   (λ_ y _=>lens.length - (intOf y).toNat) ⟨0,ov,by omega,rfl,rfl,S,?_⟩ ?_
  ·have e1:grp lens 0 n=[]:=rfl;rw[e1,gU];exact H
  clear H S;rintro _ _ _ w5 ⟨i,ov,hi,rfl,rfl,S,H⟩;have lG1:(filled (gL lens) 0 22 (n+1)).length=22:=Zb0 (by omega) Zlz;have hci:(lens.take i).count n<=258:=Nat.le_trans (count_le_length ..) (by rw[gN];omega)
  have hfs:fst_ lens n<=2^20:=by rw[fst_];omega
  repeat (refine r_lss ?_)
  refine r_ifD (λh=>?_) λh=>?_
  ·have hlt:i < lens.length:=by omega
   refine Za8 (j+4) H (by rw[gF,gF,gF,gF];exact hj) (getD_some hlt) ?_;have hb:=Zbw hs hlt
   have etk:(lens.take (i+1)).count n=(lens.take i).count n+if lens.getD i 0=n then 1 else 0:=by
    rw[Zan (getD_some hlt),count_append,List.count_cons,List.count_nil]
    by_cases hx:lens.getD i 0=n
    ·rw[if_pos hx,if_pos (by simpa using hx)]
    ·rw[if_neg hx,if_neg (by simpa using hx)]
   repeat (refine r_eql ?_)
   refine r_ifE (λhx=>?_) λhx=>?_
   ·have hx':lens.getD i 0=n:=by omega
    rw[if_pos hx'] at etk
    repeat (first|((with_reducible apply r_ld 0 H);(exact rfl);(with_reducible exact (cd1)))|refine r_nc ?_|refine r_fo0 ?_|(refine Zb4 (by omega) (by omega) ?_))
    refine Zam 2 H (f:=uv) (fst_ lens n+(lens.take i).count n) rfl (by rw[Zmx];exact hlt) rfl λw6 S6 H6=>?_;rw[gW,gW,gJ,Zmn hlt hx'] at H6;replace S:=S.trans S6;clear H;have H:=H6;clear H6 S6
    repeat (first|((with_reducible apply r_ld 0 H);(exact rfl);(with_reducible exact (cd2)))|refine r_nc ?_|refine r_fo0 ?_)
    have hul:(upto lens (n - 1)++grp lens i n).length<=600:=by
     rw[gD,Znf lens n i hi];have:=hl20 (n - 1) (by omega);omega
    refine Zci H 1 rfl i sg_nv (by omega) λv' w6 S6 H6=>?_;rw[gW,gJ] at H6;replace S:=S.trans S6;clear H;have H:=H6;clear H6 S6
    repeat (first|refine r_nc ?_|refine r_fo0 ?_)
    refine r_st 0 H rfl (by rw[cdlen lF1 lG1];omega) (SL_sg H 1 rfl) λw6 S6 H6=>?_;rw[gJ,sd2] at H6
    repeat (first|refine r_ke ?_|(refine Za0 (by omega) ?_))
    refine⟨⟨i+1,v',by omega,rfl,by rw[etk];rfl,S.trans S6,?_⟩,?_⟩
    ·rw[Zoh,if_pos hx',<-gI];exact H6
    ·simp[nv,intOf];omega
   ·have hx':lens.getD i 0≠n:=by omega
    rw[if_neg hx'] at etk
    repeat (first|refine r_ke ?_|(refine Za0 (by omega) ?_))
    refine⟨⟨i+1,ov,by omega,rfl,by rw[etk];rfl,S,?_⟩,?_⟩
    ·rw[Zoh,if_neg hx',gU,Zkn hx'];exact H
    ·simp[nv,intOf];omega
  ·obtain rfl:i=lens.length:=by omega
   repeat (first|refine r_ke ?_|(refine Za0 (by omega) ?_))
   obtain⟨m,rfl⟩:∃ m,n=m+1:=⟨n - 1,by omega⟩;refine⟨⟨m+1+1,ov,by omega,by omega,rfl,?_,S,?_⟩,?_⟩
   ·rw[hF_,Nat.add_sub_cancel,nx_eq lens (m+1) (by omega)]
   ·rw[Zkp] at H;exact H
   ·simp[nv,intOf];omega
 ·obtain rfl:n=21:=by omega
  repeat (first|((with_reducible apply r_ld 0 H);(exact rfl);(with_reducible exact (cd2)))|refine r_nc ?_|refine r_fo0 ?_|(refine r_dr H ?_;clear H;intro _ S_ H;replace S:=S.trans S_;clear S_))
  refine r_lnS 1 H rfl ?_;have hr:(blk b tC (cdC lv cv ov (filled (fL lens) 0 21 21) (filled (gL lens) 0 22 21))::SL nv tI ov (upto lens (21 - 1))::SL uv tU cv (codesAt lens 21 0)::SL nv tI lv lens::L).length=L.length+4:=rfl
  repeat (first|refine Zak (m:=21) (by omega) ?_|refine r_nc ?_|refine r_fo0 ?_)
  refine r_st 0 H rfl (by rw[cdlen lF lG];omega) rfl λw4 S4 H4=>?_;rw[gJ,sG (n:=21) _ lF (by omega),Zb2 (x:=(upto lens (21 - 1)).length) (by omega) Zlz (Zug (by omega)),Zct Zla,Zct Zlz] at H4;exact k hW b _ (S.trans S4) (Zd2 ⟨hW,hn⟩ H4)
theorem Zwk (H:Holds w (CodeR b lens::RdR r B d at_::L))
  (ks:getC lens (rest B at_)=none->∀ q w',Same w w'->Holds w' (CodeR b lens::RdR r B d q::L)->K (.tuple #[iv 0,iv 3]) w')
  (k:∀ s n,getC lens (rest B at_)=some (s,n)->∀ w',Same w w'->Holds w' (CodeR b lens::RdR r B d (at_+n)::L)->K (.tuple #[nv s,iv 0]) w'):Cl prog 310 #[pt b,pt r] w K:=by
 refine Tz310 ?_;unfold Vz310;obtain⟨⟨hW,hn⟩,_⟩:=Zdq H
 refine Zaa (λx y w'=>∃ n:Nat,n<=20/\n<=(rest B at_).length/\y=nv (n+1)/\x=nv (valB ((rest B at_).take n))/\(∀ j,j < n->hit lens (rest B at_) j=false)/\Same w w'/\Holds w' (CodeR b lens::RdR r B d (at_+n)::L))
  (λ_ y _=>21 - (intOf y).toNat) ⟨0,by omega,by omega,rfl,rfl,λj hj=>absurd hj (Nat.not_lt_zero j),.refl w,H⟩ ?_
 clear H;rintro _ _ _ w1 ⟨n,h20,hlen,rfl,rfl,hmiss,S,H⟩
 repeat (refine r_leq ?_)
 refine r_ifD (λh=>?_) λh=>?_
 ·refine Zdn H.swap (λhs w2 S2 H2=>?_) λc hc w2 S2 H2=>?_
  ·rw[Zdp] at hs
   have hl:(rest B at_).length<=n:=by simpa using hs
   repeat (first|refine r_neq ?_|(with_reducible first|refine Za3 ?_|refine Za4 ?_)|((with_reducible refine r_vtN ?h ?_);(case h=>omega)))
   refine ks (Ztj λj hj=>?_) _ _ (S.trans S2) H2.swap;rcases hU_ j n with h1|h1
   ·exact hmiss j h1
   ·unfold hit;rw[decide_eq_false_iff_not];rintro⟨h2,_⟩;omega
  ·rw[Zdp] at hc;have hl:n < (rest B at_).length:=(gH.1 hc).1;have hv:=Zae (rest B at_) n;have hp:2^n<=2^20:=Nat.pow_le_pow_right (by decide) h20;have hge:=Ztb hmiss hl
   have ev:valB ((rest B at_).take (n+1))=2*valB ((rest B at_).take n)+c.toNat:=by
    rw[Zan hc,Zb6]
   have hcb:=Bool.toNat_le c
   have h19:n < 20:=by omega
   have hnx:=nx_eq lens (n+1) (by omega);have hfr:=Zvy lens (n+1) (by omega);have hul:=Zxl lens hW.sized (n+1) (by omega)
   have hfr2:frm lens (n+1+1)=(upto lens (n+1)).length:=by rw[frm,Nat.add_sub_cancel]
   replace S:=S.trans S2;replace H:=H2.swap;clear H2 S2;obtain⟨hWn,lv,cv,ov,H⟩:=Zdq H
   repeat (first|refine Zb8 ((2*valB ((rest B at_).take n):Nat):Int) (by omega) (by omega) (by omega) ?_|refine r_nc ?_|refine r_fo0 ?_|refine r_neq ?_|(with_reducible first|refine Za3 ?_|refine Za4 ?_)|(refine Zde (by omega) (by omega) ?_)|(refine Za9 (by omega) ?_)|(refine Zak (by omega) ?_)|(refine r_dr H ?_;clear H;intro _ S_ H;replace S:=S.trans S_;clear S_)|((with_reducible refine r_vfN ?h ?_);(case h=>omega)))
   rw[<-ev]
   repeat (first|((with_reducible apply r_ld 0 H);(exact rfl);(with_reducible exact ((cG Zla (Zug (by omega))))))|((with_reducible apply r_ld 0 H);(exact rfl);(with_reducible exact ((cF (Zxn (by omega))))))|refine r_nc ?_|refine r_fo0 ?_|refine r_lss ?_|(refine Za0 (by omega) ?_)|(refine Za9 (by omega) ?_)|(refine Zak (by omega) ?_)|(refine r_sub (by omega) (by omega) ?_))
   rw[show ((frm lens (n+1)+valB ((rest B at_).take (n+1)):Nat):Int) - (fst_ lens (n+1):Nat)=((frm lens (n+1)+(valB ((rest B at_).take (n+1)) - fst_ lens (n+1)):Nat):Int) by omega]
   repeat (fail)
   refine r_ifD (λhh=>?_) λhh=>?_
   ·have hhit:hit lens (rest B at_) n=true:=by
     unfold hit;rw[decide_eq_true_iff];omega
    have hC:=Zse h19 hhit hmiss
    have hlt:valB ((rest B at_).take (n+1)) - fst_ lens (n+1) < lens.count (n+1):=by omega
    have hu:=Zpf (lens:=lens) (n:=n+1) (by omega) (by omega) hlt;obtain⟨x,hx⟩:∃ x,(grp lens lens.length (n+1))[valB ((rest B at_).take (n+1)) - fst_ lens (n+1)]?=some x:=⟨_,gA (by rw[Zf1];exact hlt)⟩;rw[hx] at hu
    repeat (first|((with_reducible apply r_ld 0 H);(exact rfl);(with_reducible exact (cd2)))|refine r_nc ?_|refine r_fo0 ?_)
    refine Za8 1 H rfl hu ?_;rw[gB,hu] at hC;exact k _ _ hC _ S (by rw[<-hG_];exact Zd2 hWn H)
   ·repeat (first|refine r_ke ?_|(refine Za0 (by omega) ?_))
    refine⟨⟨n+1,by omega,by omega,rfl,rfl,λj hj=>?_,S,by rw[<-hG_];exact Zd2 hWn H⟩,?_⟩
    ·rcases hU_ j n with h1|h1
     ·exact hmiss j h1
     ·obtain rfl:j=n:=by omega
      unfold hit;rw[decide_eq_false_iff_not];rintro⟨_,h2⟩;omega
    ·simp[nv,intOf];omega
 ·obtain rfl:n=20:=by omega
  have:=hmiss 19 (by omega);rw[Zxd hW hlen] at this;cases this
theorem Get_spec (H:Holds w (CodeR b lens::RdR r B d at_::L))
  (ks:getC lens (rest B at_)=none->∀ w',Same w w'->Holds w' (CodeR b lens::RdR r B d at_::L)->K (.tuple #[iv 0,iv 3]) w')
  (k:∀ s n,getC lens (rest B at_)=some (s,n)->∀ w',Same w w'->Holds w' (CodeR b lens::RdR r B d (at_+n)::L)->K (.tuple #[nv s,iv 0]) w'):Cl prog 302 #[pt b,pt r] w K:=by
 refine Tz302 ?_;unfold Vz302;have hf:=(Zaf H.swap).1;refine Za1 (λx w'=>w=w'/\x=.bool false) ?_ ?_
 ·rintro _ _ _ ⟨rfl,rfl⟩
  repeat (with_reducible refine r_vf ?_)
  refine At_spec H.swap ?_;refine Zwk H (λhs q w2 S2 H2=>?_) λs n hg w2 S2 H2=>?_
  ·repeat (first|refine r_neq ?_|(with_reducible first|refine Za3 ?_|refine Za4 ?_)|((with_reducible refine r_vtN ?h ?_);(case h=>omega)))
   refine P13.Zh8 H2 ⟨hf.1,hf.2.1⟩ λw3 S3 H3=>?_;exact ks hs _ (S2.trans S3) H3
  ·repeat (first|refine r_neq ?_|(with_reducible first|refine Za3 ?_|refine Za4 ?_)|((with_reducible refine r_vfN ?h ?_);(case h=>omega)))
   exact k s n hg _ S2 H2
 ·repeat (first|refine r_ke ?_|(with_reducible first|refine Za6 ?_|refine r_vf ?_))
  exact⟨rfl,rfl⟩
end C10
instance rowC:Row prog 218 220 (.pointer none):=⟨by kernel_rfl,⟨t220,by kernel_rfl,by kernel_rfl,by decide,by kernel_rfl⟩,rfl⟩
namespace C14
open Go.M01 Go.Mb Go.Mp Go.M10 Go.Mc Rb
variable {w:World}{L:List HProp}{K:KT}{b r:Nat}{B:List UInt8}{d at_ n:Nat}{c:CS}
abbrev tCd:Nat:=335
abbrev tCP:Nat:=220
def CodesS (bs:List Nat) (cs:List (List Nat)):HProp:=Sat ((bs.zip cs).map λx=>C10.CodeR x.1 x.2)
theorem Zl1 {bs:List Nat}{cs:List (List Nat)}{i:Nat}{l:List Nat}(hb:bs[i]?=some b) (hc:cs[i]?=some l):∃ A,(∀ h,Sat (CodesS bs cs::L) h->Sat (C10.CodeR b l::A) h)/\∀ h,Sat (C10.CodeR b l::A) h->Sat (CodesS bs cs::L) h:=by
 have hz:((bs.zip cs).map λx=>C10.CodeR x.1 x.2)[i]?=some (C10.CodeR b l):=by
  rw[hV_,(getElem?_zip_eq_some (z:=(b,l))).2 ⟨hb,hc⟩];rfl
 have hlt:i < ((bs.zip cs).map λx=>C10.CodeR x.1 x.2).length:=(gH.1 hz).1
 have hz2:(((bs.zip cs).map λx=>C10.CodeR x.1 x.2)++L)[i]?=some (C10.CodeR b l):=by rw[gM hlt];exact hz
 refine⟨(((bs.zip cs).map λx=>C10.CodeR x.1 x.2)++L).eraseIdx i,λh H=>Sat.pull i (Sat.unpack H) hz2,λh H=>?_⟩;have:=Sat.push i hz2 H
 have e:(((bs.zip cs).map λx=>C10.CodeR x.1 x.2)++L).set i (C10.CodeR b l)=((bs.zip cs).map λx=>C10.CodeR x.1 x.2)++L:=by
  have hl:i < (((bs.zip cs).map λx=>C10.CodeR x.1 x.2)++L).length:=(gH.1 hz2).1;have e1:(((bs.zip cs).map λx=>C10.CodeR x.1 x.2)++L)[i]=_:=(gH.1 hz2).2;rw[<-e1,set_getElem_self]
 rw[e] at this;exact Sat.pack this
theorem Zlb {bs:List Nat}{cs:List (List Nat)}{l:List Nat}(hl:bs.length=cs.length) (H:Holds w (C10.CodeR b l::CodesS bs cs::L)):Holds w (CodesS (bs++[b]) (cs++[l])::L):=by
 have H2:=Holds.unpack (A:=(bs.zip cs).map λx=>C10.CodeR x.1 x.2) H.swap;unfold CodesS;rw[List.zip_append hl,map_append];refine Holds.pack ?_;rw[gI];exact H2
def took (c:CS):List Nat:=if c.picks.done=true then c.picks.picks else []
def cdL (b:Nat) (c:CS) (pb db:Nat) (tv cv:Value) (bs:List Nat):List HProp:=
 [blk b tCd [nv c.size,pt pb,tv,pt db,cv,nv c.count,.bool c.done,iv 0],P13.PkR pb c.picks,SL nv tI tv (took c),D11.DlR db c.lens,SL pt tCP cv bs,CodesS bs c.codes]
def CdR (b:Nat) (c:CS):HProp:=λh=>c.Ok/\∃ pb db tv cv bs,bs.length=c.codes.length/\Sat (cdL b c pb db tv cv bs) h
theorem Zdy (H:Holds w (CdR b c::L)):c.Ok/\∃ pb db tv cv bs,bs.length=c.codes.length/\Holds w (cdL b c pb db tv cv bs++L):=by
 obtain⟨h,H⟩:=Holds.pure H;obtain⟨pb,H⟩:=Holds.ex H;obtain⟨db,H⟩:=Holds.ex H;obtain⟨tv,H⟩:=Holds.ex H;obtain⟨cv,H⟩:=Holds.ex H;obtain⟨bs,H⟩:=Holds.ex H;obtain⟨hb,H⟩:=Holds.pure H;exact⟨h,pb,db,tv,cv,bs,hb,Holds.unpack H⟩
theorem Zat {pb db:Nat}{tv cv:Value}{bs:List Nat}(h:c.Ok) (hb:bs.length=c.codes.length) (H:Holds w (cdL b c pb db tv cv bs++L)):Holds w (CdR b c::L):=
 Holds.imp (Holds.pack H) λ_ hh=>⟨h,pb,db,tv,cv,bs,hb,hh⟩
def AfterC (x:Res (CS × Option Nat)) (b:Nat) (c:CS) (r:Nat) (B:List UInt8) (d at_:Nat) (L:List HProp) (zero:Value) (v:Value) (w:World):Prop:=
 match x with
 |.short=>v=.tuple #[zero,iv 3]/\Holds w (CdR b c::RdR r B d at_::L)
 |.bad e=>v=.tuple #[zero,iv e]/\∃ q v1 v2 v3 v4 v5 v6 v7,Holds w (blk b tCd [v1,v2,v3,v4,v5,v6,v7,iv 0]::RdR r B d q::L)
 |.ok (s,o) n=>v=.tuple #[match o with|none=>iv (-1)|some s=>nv s,iv 0]/\Holds w (CdR b s::RdR r B d (at_+n)::L)
theorem NewReader_spec (H:Holds w L) (h1:3<=n) (h2:n<=258) (k:∀ b w',Same w w'->Holds w' (CdR b (c0 n)::L)->K (.tuple #[pt b,iv 0]) w'):Cl prog 291 #[nv n] w K:=by
 refine Tz291 ?_;unfold Vz291;refine D11.NewReader_spec H h1 h2 λdb w1 S1 H1=>?_
 repeat (first|refine r_neq ?_|(with_reducible first|refine Za3 ?_|refine Za4 ?_)|((with_reducible refine r_vfN ?h ?_);(case h=>omega)))
 refine P13.NewReader_spec H1 λpb w2 S2 H2=>?_;refine r_bd (v:=.agg #[nv n,pt pb,.slice none 0 0,pt db,.slice none 0 0,nv 0,.bool false,iv 0]) (by kernel_rfl) ?_;refine r_new H2 λb w3 S3 H3=>?_;refine k b _ ((S1.trans S2).trans S3) (Zat (pb:=pb) (db:=db) (tv:=.slice none 0 0) (cv:=.slice none 0 0) (bs:=[]) (c0_ok h1 h2) rfl ?_);replace H3:Holds w3 (blk b tCd [nv n,pt pb,.slice none 0 0,pt db,.slice none 0 0,nv 0,.bool false,iv 0]::P13.PkR pb p0::D11.DlR db (d0 n)::L):=H3;have H4:=(H3.nilSL nv tI);have H5:=H4.nilSL pt tCP;have H6:Holds w3 (Sat []::SL pt tCP (.slice none 0 0) []::SL nv tI (.slice none 0 0) []::blk b tCd [nv n,pt pb,.slice none 0 0,pt db,.slice none 0 0,nv 0,.bool false,iv 0]::P13.PkR pb p0::D11.DlR db (d0 n)::L):=Holds.pack (A:=[]) H5;exact (by have h_:=Holds.ord 6 [3,4,2,5,1,0] H6 rfl;exact h_)
theorem Done_spec (H:Holds w (CdR b c::L)) (k:K (.bool c.done) w):Cl prog 287 #[pt b] w K:=by
 refine Tz287 ?_;unfold Vz287;obtain⟨hc,pb,db,tv,cv,bs,hb,H⟩:=Zdy H
 repeat (first|refine r_nc ?_|refine r_fo0 ?_|(with_reducible first|refine Zao ?_|refine r_vt ?_)|refine r_ld 0 H rfl rfl ?_)
 exact k
theorem pick_spec (H:Holds w (CdR b c::RdR r B d at_::L)) (hp:c.picks.done=false) (post:∀ v w',Same w w'->AfterC (cstep c (rest B at_)) b c r B d at_ L (iv (-1)) v w'->K v w') :
  Cl prog 295 #[pt b,pt r] w K:=by
 refine Tz295 ?_;unfold Vz295;obtain⟨hc,pb,db,tv,cv,bs,hb,H⟩:=Zdy H;have hok:=λc' o k (h:cstep c (rest B at_)=.ok (c',o) k)=>(Zdw h hc).1
 have e0:cstep c (rest B at_)=withPicks c (pstep c.picks (rest B at_)):=by unfold cstep;rw[if_pos hp]
 rw[e0] at post hok;unfold cdL at H
 repeat (first|refine r_nc ?_|refine r_fo0 ?_|refine r_ld 0 H rfl rfl ?_)
 have H1:Holds w (P13.PkR pb c.picks::RdR r B d at_::blk b tCd [nv c.size,pt pb,tv,pt db,cv,nv c.count,.bool c.done,iv 0]::SL nv tI tv (took c)::D11.DlR db c.lens::SL pt tCP cv bs::CodesS bs c.codes::L):=(Holds.front H 6 rfl).front 2 rfl;clear H;refine P13.Step_spec H1 hp λe w2 S2 hA=>?_
 cases hx:pstep c.picks (rest B at_) with
 |short=>
  rw[hx] at hA post;obtain⟨rfl,H⟩:=hA
  repeat (first|refine r_ld 2 H rfl rfl ?_|refine r_nc ?_|refine r_fo0 ?_)
  refine P13.Done_spec H λw3 S3 H3=>?_;rw[hp];refine r_vf ?_;exact post _ _ (S2.trans S3) ⟨rfl,Zat (pb:=pb) (db:=db) (tv:=tv) (cv:=cv) hc hb (by have h_:=Holds.ord 7 [2,0,3,4,5,6,1] H3 rfl;exact h_)⟩
 |bad c0=>
  rw[hx] at hA post;obtain⟨rfl,q,H⟩:=hA
  repeat (first|refine r_ld 2 H rfl rfl ?_|refine r_nc ?_|refine r_fo0 ?_)
  refine P13.Zq2 H hp λw3 S3 H3=>?_;refine r_vf ?_;exact post _ _ (S2.trans S3) ⟨rfl,q,_,_,_,_,_,_,_,(by have h_:=Holds.ord 7 [2,1] H3 rfl;exact h_)⟩
 |ok p k=>
  rw[hx] at hA post hok;obtain⟨rfl,H⟩:=hA;have hc':=hok _ _ _ rfl
  repeat (first|refine r_ld 2 H rfl rfl ?_|refine r_nc ?_|refine r_fo0 ?_)
  refine P13.Done_spec H λw3 S3 H3=>?_;have S:=S2.trans S3;clear H S2 S3;have H:=H3;clear H3
  cases hd:p.done with
  |false=>
   refine r_vf ?_;refine post _ _ S ⟨rfl,Zat (pb:=pb) (db:=db) (tv:=tv) (cv:=cv) (bs:=bs) hc' hb ?_⟩
   have et:took ⟨c.size,p,c.lens,c.codes,c.count,c.done⟩=took c:=by unfold took;rw[hp,hd];rfl
   unfold cdL;rw[et];exact (by have h_:=Holds.ord 7 [2,0,3,4,5,6,1] H rfl;exact h_)
  |true=>
   refine r_vt ?_
   repeat (first|refine r_ld 2 H rfl rfl ?_|refine r_nc ?_|refine r_fo0 ?_)
   refine P13.Zq8 H λv w3 S3 H3=>?_
   repeat (first|refine r_nc ?_|refine r_fo0 ?_)
   refine r_st 3 H3 rfl (by simp) (SL_sg H3 0 rfl) λw4 S4 H4=>?_;replace H4:Holds w4 (SL nv tI v p.picks::P13.PkR pb p::RdR r B d (at_+k)::blk b tCd [nv c.size,pt pb,v,pt db,cv,nv c.count,.bool c.done,iv 0]::SL nv tI tv (took c)::D11.DlR db c.lens::SL pt tCP cv bs::CodesS bs c.codes::L):=H4;refine post _ _ ((S.trans S3).trans S4) ⟨rfl,Zat (pb:=pb) (db:=db) (tv:=v) (cv:=cv) (bs:=bs) hc' hb ?_⟩
   have et:took ⟨c.size,p,c.lens,c.codes,c.count,c.done⟩=p.picks:=by unfold took;rw[hd];rfl
   unfold cdL;rw[et];exact (by have h_:=Holds.ord 8 [3,1,0,5,6,7,2] H4 rfl;exact h_)
theorem Zr0 (H:Holds w (CdR b c::RdR r B d at_::L)) (hp:c.picks.done=true) (hl:c.codes.length < c.picks.t) (post:∀ v w',Same w w'->AfterC (cstep c (rest B at_)) b c r B d at_ L (iv (-1)) v w'->K v w') :
  Cl prog 297 #[pt b,pt r] w K:=by
 refine Tz297 ?_;unfold Vz297;obtain⟨hc,pb,db,tv,cv,bs,hb,H⟩:=Zdy H;have hok:=λc' o k (h:cstep c (rest B at_)=.ok (c',o) k)=>(Zdw h hc).1
 have e0:cstep c (rest B at_)=withLens c (dstep c.lens (rest B at_)):=by unfold cstep;rw[if_neg (by rw[hp];decide),if_pos hl]
 rw[e0] at post hok;unfold cdL at H
 repeat (first|refine r_nc ?_|refine r_fo0 ?_|refine r_ld 0 H rfl rfl ?_)
 have H1:Holds w (D11.DlR db c.lens::RdR r B d at_::blk b tCd [nv c.size,pt pb,tv,pt db,cv,nv c.count,.bool c.done,iv 0]::P13.PkR pb c.picks::SL nv tI tv (took c)::SL pt tCP cv bs::CodesS bs c.codes::L):=(by have h_:=Holds.ord 7 [3,6,0,1,2,4,5] H rfl;exact h_);clear H;refine D11.Step_spec H1 hc.dd λe w2 S2 hA=>?_;clear H1
 cases hx:dstep c.lens (rest B at_) with
 |short=>
  rw[hx] at hA post;obtain⟨rfl,H⟩:=hA;refine Za1 (λx w'=>w2=w'/\x=.bool true) ?_ ?_
  ·rintro _ _ _ ⟨rfl,rfl⟩;refine r_vt ?_;exact post _ _ S2 ⟨rfl,Zat (pb:=pb) (db:=db) (tv:=tv) (cv:=cv) hc hb (by have h_:=Holds.ord 7 [2,3,4,0,5,6,1] H rfl;exact h_)⟩
  ·repeat (first|refine r_ke ?_|refine r_neq ?_|((with_reducible refine r_vtN ?h ?_);(case h=>omega)))
   exact⟨rfl,rfl⟩
 |bad c0=>
  have h22:=Zh1 hx;subst h22;rw[hx] at hA post;obtain⟨rfl,q,H⟩:=hA;refine Za1 (λx w'=>w2=w'/\x=.bool true) ?_ ?_
  ·rintro _ _ _ ⟨rfl,rfl⟩;refine r_vt ?_;exact post _ _ S2 ⟨rfl,q,_,_,_,_,_,_,_,(by have h_:=Holds.ord 6 [1,0] H rfl;exact h_)⟩
  ·repeat (first|refine r_ke ?_|refine r_neq ?_|((with_reducible refine r_vtN ?h ?_);(case h=>omega)))
   exact⟨rfl,rfl⟩
 |ok d' k=>
  have hdo:=Zg3 hx hc.dl hc.dd;rw[hx] at hA post hok;obtain⟨rfl,H⟩:=hA;simp only[withLens] at post hok;refine Za1 (λx w'=>x=.bool (!d'.done)/\Same w w'/\Holds w' (D11.DlR db d'::RdR r B d (at_+k)::blk b tCd [nv c.size,pt pb,tv,pt db,cv,nv c.count,.bool c.done,iv 0]::P13.PkR pb c.picks::SL nv tI tv (took c)::SL pt tCP cv bs::CodesS bs c.codes::L)) ?_ ?_
  ·clear H S2;rintro _ _ w3 ⟨rfl,S,H⟩
   cases hd:d'.done with
   |false=>
    rw[hd] at post hok;simp only[Bool.false_eq_true,if_false] at post hok;refine r_vt ?_;exact post _ _ S ⟨rfl,Zat (pb:=pb) (db:=db) (tv:=tv) (cv:=cv) (hok _ _ _ rfl) hb (by have h_:=Holds.ord 7 [2,3,4,0,5,6,1] H rfl;exact h_)⟩
   |true=>
    rw[hd] at post hok;simp only[if_true] at post hok;refine r_vf ?_
    repeat (first|refine r_nc ?_|refine r_fo0 ?_|refine r_ld 2 H rfl rfl ?_)
    refine D11.Zsk H λv w4 S4 H4=>?_;replace S:=S.trans S4;clear H;have H:=H4;clear H4 S4;have hdn:=hd;unfold DS.done at hdn;rw[decide_eq_true_iff] at hdn;have hds:=(D11.Zcc (H.swap)).1.2
    have hsz:d'.size=c.size:=by
     rw[<-hc.ds];unfold dstep turn at hx
     repeat' split at hx
     all_goals first
      |(cases hx;rfl)
      |cases hx
    have h3:=hc.s1;have h258:=hc.s2;refine C10.New_spec (j:=0) H rfl (by omega) (by omega) (λx hx=>hdo.all x hx) (λhne w5 S5 H5=>?_) λhW b2 w5 S5 H5=>?_
    ·rw[if_neg hne] at post
     repeat (first|refine r_neq ?_|(with_reducible first|refine Za3 ?_|refine Za4 ?_)|((with_reducible refine r_vtN ?h ?_);(case h=>omega)))
     exact post _ _ (S.trans S5) ⟨rfl,_,_,_,_,_,_,_,_,(by have h_:=Holds.ord 8 [3,2] H5 rfl;exact h_)⟩
    ·rw[if_pos hW.share] at post hok;replace S:=S.trans S5;clear H;have H:=H5;clear H5 S5
     repeat (first|refine r_ld 4 H rfl rfl ?_|refine r_nc ?_|refine r_fo0 ?_|refine r_neq ?_|(with_reducible first|refine Za3 ?_|refine Za4 ?_)|((with_reducible refine r_vfN ?h ?_);(case h=>omega)))
     have hcl:=hc.cl;have htb:=hc.pk.tbl
     have hbl:bs.length<=6:=by
      rcases Nat.eq_zero_or_pos c.picks.count with h0|h0
      ·have:=(hc.pk.new h0).1;omega
      ·have:=htb h0;omega
     refine Zci H 7 rfl b2 (λ_=>rfl) (by omega) λv' w6 S6 H6=>?_;replace H6:Holds w6 (C10.CodeR b2 d'.lens::SL nv tI v d'.lens::D11.DlR db d'::RdR r B d (at_+k)::blk b tCd [nv c.size,pt pb,tv,pt db,cv,nv c.count,.bool c.done,iv 0]::P13.PkR pb c.picks::SL nv tI tv (took c)::SL pt tCP v' (bs++[b2])::CodesS bs c.codes::L):=H6;replace S:=S.trans S6;clear H;have H:=H6;clear H6 S6
     repeat (first|refine r_nc ?_|refine r_fo0 ?_)
     refine r_st 4 H rfl (by simp) (SL_sg H 7 rfl) λw6 S6 H6=>?_;replace H6:Holds w6 (C10.CodeR b2 d'.lens::SL nv tI v d'.lens::D11.DlR db d'::RdR r B d (at_+k)::blk b tCd [nv c.size,pt pb,tv,pt db,v',nv c.count,.bool c.done,iv 0]::P13.PkR pb c.picks::SL nv tI tv (took c)::SL pt tCP v' (bs++[b2])::CodesS bs c.codes::L):=H6;replace S:=S.trans S6;clear H;have H:=H6;clear H6 S6
     repeat (first|refine r_ld 4 H rfl rfl ?_|refine r_nc ?_|refine r_fo0 ?_)
     refine D11.NewReader_spec H (by omega) (by omega) λdb2 w6 S6 H6=>?_;replace S:=S.trans S6;clear H;have H:=H6;clear H6 S6
     repeat (first|refine r_nc ?_|refine r_fo0 ?_|(with_reducible first|refine Za3 ?_|refine Za4 ?_))
     refine r_st 5 H rfl (by simp) rfl λw6 S6 H6=>?_;replace H6:Holds w6 (D11.DlR db2 (d0 c.size)::C10.CodeR b2 d'.lens::SL nv tI v d'.lens::D11.DlR db d'::RdR r B d (at_+k)::blk b tCd [nv c.size,pt pb,tv,pt db2,v',nv c.count,.bool c.done,iv 0]::P13.PkR pb c.picks::SL nv tI tv (took c)::SL pt tCP v' (bs++[b2])::CodesS bs c.codes::L):=H6;replace S:=S.trans S6;clear H;have H:=H6;clear H6 S6;have H7:Holds w6 (C10.CodeR b2 d'.lens::CodesS bs c.codes::D11.DlR db2 (d0 c.size)::RdR r B d (at_+k)::blk b tCd [nv c.size,pt pb,tv,pt db2,v',nv c.count,.bool c.done,iv 0]::P13.PkR pb c.picks::SL nv tI tv (took c)::SL pt tCP v' (bs++[b2])::L):=(by have h_:=Holds.ord 10 [1,9,0,4,5,6,7,8] H rfl;exact h_);have H8:=Zlb hb H7;exact post _ _ S ⟨rfl,Zat (pb:=pb) (db:=db2) (tv:=tv) (cv:=v') (bs:=bs++[b2]) (hok _ _ _ rfl) (by simp[hb]) (by have h_:=Holds.ord 7 [3,4,5,1,6,0,2] H8 rfl;exact h_)⟩
  ·repeat (first|refine r_ld 2 H rfl rfl ?_|refine r_nc ?_|refine r_fo0 ?_|refine r_neq ?_|((with_reducible refine r_vfN ?h ?_);(case h=>omega)))
   refine D11.Done_spec H λw3 S3 H3=>?_
   repeat (first|refine r_ke ?_|refine r_not ?_)
   exact⟨rfl,S2.trans S3,H3⟩
theorem symbol_spec (H:Holds w (CdR b c::RdR r B d at_::L)) (hp:c.picks.done=true) (hl:¬ c.codes.length < c.picks.t) (post:∀ v w',Same w w'->AfterC (cstep c (rest B at_)) b c r B d at_ L (iv (-1)) v w'->K v w') :
  Cl prog 293 #[pt b,pt r] w K:=by
 refine Tz293 ?_;unfold Vz293;obtain⟨hc,pb,db,tv,cv,bs,hb,H⟩:=Zdy H;have hok:=λc' o k (h:cstep c (rest B at_)=.ok (c',o) k)=>(Zdw h hc).1
 have e0:cstep c (rest B at_)=if c.picks.picks.length<=c.count/50 then .bad 25 else withSymbol c (getC c.table (rest B at_)):=by unfold cstep;rw[if_neg (by rw[hp];decide),if_neg hl]
 rw[e0] at post hok;unfold cdL at H;have S:=Same.refl w;have hct:=hc.ct
 have et:took c=c.picks.picks:=by unfold took;rw[hp];rfl
 rw[et] at H
 have hq:((c.count:Nat):Int).tdiv 50=((c.count/50:Nat):Int):=by rw[Int.tdiv_eq_ediv_of_nonneg (by omega)];simp
 repeat (first|refine Zik hq (by omega) (by omega) (by omega) ?_|refine r_nc ?_|refine r_fo0 ?_|refine r_ld 0 H rfl rfl ?_)
 refine r_lnS 2 H rfl ?_
 repeat (refine r_geq ?_)
 refine r_ifD (λh=>?_) λh=>?_
 ·rw[if_pos (by omega)] at post;exact post _ _ S ⟨rfl,at_,_,_,_,_,_,_,_,(by have h_:=Holds.ord 7 [0,6] H rfl;exact h_)⟩
 ·have hg:¬ c.picks.picks.length<=c.count/50:=by omega
  rw[if_neg hg] at post hok;obtain⟨x,h1,h2,h3,h4,h5⟩:=Zjq hc hp hl hg
  repeat (first|refine r_nc ?_|refine r_fo0 ?_|(refine r_dr H ?_;clear H;intro _ S_ H;replace S:=S.trans S_;clear S_)|refine r_ld 0 H rfl rfl ?_)
  refine Za8 2 H rfl h1 ?_;obtain⟨bx,hbx⟩:∃ bx,bs[x]?=some bx:=⟨_,gA (by omega)⟩;refine Za8 4 H rfl hbx ?_;obtain⟨A,hA1,hA2⟩:=Zl1 (L:=blk b tCd [nv c.size,pt pb,tv,pt db,cv,nv c.count,.bool c.done,iv 0]::P13.PkR pb c.picks::SL nv tI tv c.picks.picks::D11.DlR db c.lens::SL pt tCP cv bs::L) hbx h3;have H2:Holds _ (RdR r B d at_::CodesS bs c.codes::blk b tCd [nv c.size,pt pb,tv,pt db,cv,nv c.count,.bool c.done,iv 0]::P13.PkR pb c.picks::SL nv tI tv c.picks.picks::D11.DlR db c.lens::SL pt tCP cv bs::L):=(by have h_:=Holds.ord 7 [6,5,0,1,2,3,4] H rfl;exact h_);have H3:=Holds.swap (Zbc hA1 H2);refine C10.Get_spec H3 (λhn w3 S3 H4=>?_) λs n hs w3 S3 H4=>?_
  ·rw[hn] at post;have H5:=Zbc hA2 (Holds.swap H4);replace H5:Holds w3 (RdR r B d at_::CodesS bs c.codes::blk b tCd [nv c.size,pt pb,tv,pt db,cv,nv c.count,.bool c.done,iv 0]::P13.PkR pb c.picks::SL nv tI tv c.picks.picks::D11.DlR db c.lens::SL pt tCP cv bs::L):=H5;rw[<-et] at H5
   repeat (first|refine r_neq ?_|(with_reducible first|refine Za3 ?_|refine Za4 ?_)|((with_reducible refine r_vtN ?h ?_);(case h=>omega)))
   exact post _ _ (S.trans S3) ⟨rfl,Zat (pb:=pb) (db:=db) (tv:=tv) (cv:=cv) hc hb (by have h_:=Holds.ord 7 [2,3,4,5,6,1,0] H5 rfl;exact h_)⟩
  ·rw[hs] at post hok;have H5:=Zbc hA2 (Holds.swap H4);replace H5:Holds w3 (RdR r B d (at_+n)::CodesS bs c.codes::blk b tCd [nv c.size,pt pb,tv,pt db,cv,nv c.count,.bool c.done,iv 0]::P13.PkR pb c.picks::SL nv tI tv c.picks.picks::D11.DlR db c.lens::SL pt tCP cv bs::L):=H5;rw[<-et] at H5;have hsz:=hc.s1;have h258:=hc.s2;replace S:=S.trans S3;clear H H2 H3 H4;have H:=H5;clear H5
   repeat (first|refine r_ld 2 H rfl rfl ?_|refine r_nc ?_|refine r_fo0 ?_|refine r_neq ?_|(with_reducible first|refine Za3 ?_|refine Za4 ?_)|(refine Za0 (by omega) ?_)|((with_reducible refine r_vfN ?h ?_);(case h=>omega)))
   refine r_st 2 H rfl (by simp) rfl λw6 S6 H6=>?_;replace H6:Holds w6 (RdR r B d (at_+n)::CodesS bs c.codes::blk b tCd [nv c.size,pt pb,tv,pt db,cv,nv (c.count+1),.bool c.done,iv 0]::P13.PkR pb c.picks::SL nv tI tv (took c)::D11.DlR db c.lens::SL pt tCP cv bs::L):=H6;replace S:=S.trans S6;clear H;have H:=H6;clear H6 S6
   repeat (first|refine r_ld 2 H rfl rfl ?_|refine r_nc ?_|refine r_fo0 ?_|refine r_eql ?_|(refine Zab (by omega) (by omega) ?_))
   refine r_st 2 H rfl (by simp) rfl λw6 S6 H6=>?_
   have ed:((s:Int)==((c.size - 1:Nat):Int))=decide (s=c.size - 1):=by rw[Bool.eq_iff_iff,beq_iff_eq,decide_eq_true_iff];omega
   rw[ed] at H6;replace H6:Holds w6 (RdR r B d (at_+n)::CodesS bs c.codes::blk b tCd [nv c.size,pt pb,tv,pt db,cv,nv (c.count+1),.bool (decide (s=c.size - 1)),iv 0]::P13.PkR pb c.picks::SL nv tI tv (took c)::D11.DlR db c.lens::SL pt tCP cv bs::L):=H6;exact post _ _ (S.trans S6) ⟨rfl,Zat (c:=⟨c.size,c.picks,c.lens,c.codes,c.count+1,decide (s=c.size - 1)⟩) (pb:=pb) (db:=db) (tv:=tv) (cv:=cv) (hok _ _ _ rfl) hb (by have h_:=Holds.ord 7 [2,3,4,5,6,1,0] H6 rfl;exact h_)⟩
def AfterCS (x:Res (CS × Option Nat)) (b:Nat) (c:CS) (r:Nat) (B:List UInt8) (d at_:Nat) (L:List HProp) (v:Value) (w:World):Prop:=
 match x with
 |.short=>v=.tuple #[iv 0,iv 3]/\Holds w (CdR b c::RdR r B d at_::L)
 |.bad e=>v=.tuple #[iv 0,iv e]/\∃ q,Holds w (RdR r B d q::L)
 |.ok (s,o) n=>v=.tuple #[match o with|none=>iv (-1)|some s=>nv s,iv 0]/\Holds w (CdR b s::RdR r B d (at_+n)::L)
theorem Step_spec (H:Holds w (CdR b c::RdR r B d at_::L)) (hd:c.done=false) (post:∀ v w',Same w w'->AfterCS (cstep c (rest B at_)) b c r B d at_ L v w'->K v w') :
  Cl prog 285 #[pt b,pt r] w K:=by
 refine Tz285 ?_;unfold Vz285
 have fin:∀ v w',Same w w'->AfterC (cstep c (rest B at_)) b c r B d at_ L (iv (-1)) v w'->Ex v 0 λx_11=>Ex v 1 λx_12=>Bp .eql x_12 (.int .i64 0) λx_13=>Vif x_13 (K (.tuple #[x_11,x_12]) w')
   (Bp .neq x_12 (.int .i64 3) λx_14=>Vif x_14 (Nc (pt b) <| Fo 7 (pt b) λx_15=>St x_15 x_12 w' λw5=>K (.tuple #[(.int .i64 0),x_12]) w5) (K (.tuple #[(.int .i64 0),x_12]) w')):=by
  intro v w' S hA
  cases hx:cstep c (rest B at_) with
  |short=>
   rw[hx] at hA post;obtain⟨rfl,H'⟩:=hA
   repeat (first|refine r_eql ?_|refine r_neq ?_|(with_reducible first|refine Za3 ?_|refine Za4 ?_)|((with_reducible refine r_vfE ?h ?_);(case h=>omega))|((with_reducible refine r_vfN ?h ?_);(case h=>omega)))
   exact post _ _ S ⟨rfl,H'⟩
  |bad e=>
   have h2:=Zgw hx;rw[hx] at hA post;obtain⟨rfl,q,v1,v2,v3,v4,v5,v6,v7,H'⟩:=hA
   repeat (first|refine r_nc ?_|refine r_fo0 ?_|refine r_eql ?_|refine r_neq ?_|(with_reducible first|refine Za3 ?_|refine Za4 ?_)|((with_reducible refine r_vfE ?h ?_);(case h=>omega))|((with_reducible refine r_vtN ?h ?_);(case h=>omega)))
   refine r_st 0 H' rfl (by simp) rfl λw5 S5 H5=>?_;rw[gJ] at H5;exact post _ _ (S.trans S5) ⟨rfl,q,H5.drop⟩
  |ok s k=>
   rw[hx] at hA post;obtain⟨s,o⟩:=s;obtain⟨rfl,H'⟩:=hA
   repeat (first|refine r_eql ?_|(with_reducible first|refine Za3 ?_|refine Za4 ?_)|((with_reducible refine r_vtE ?h ?_);(case h=>omega)))
   exact post _ _ S ⟨rfl,H'⟩
 refine Za1 (λx w'=>w=w'/\x=.bool false) ?_ ?_
 rotate_left
 ·have H0:=H;obtain⟨hc,pb,db,tv,cv,bs,hb,H0⟩:=Zdy H0
  repeat (first|refine r_ld 0 H0 rfl rfl ?_|refine r_nc ?_|refine r_fo0 ?_|refine r_ke ?_|(with_reducible first|refine Za6 ?_|refine r_vf ?_))
  exact⟨rfl,by rw[hd]⟩
 rintro _ _ _ ⟨rfl,rfl⟩;have H0:=H;obtain⟨hc,pb,db,tv,cv,bs,hb,H0⟩:=Zdy H0
 repeat (first|refine r_ld 0 H0 rfl rfl ?_|refine r_nc ?_|refine r_fo0 ?_|refine r_neq ?_|(with_reducible refine r_vf ?_)|((with_reducible refine r_vfN ?h ?_);(case h=>omega)))
 refine r_mf (.func (.func 293) #[pt b] #[]) (by kernel_rfl) ?_;refine Za1 (λx w'=>Same w w'/\Holds w' (CdR b c::RdR r B d at_::L)/\((c.picks.done=false/\x=.func (.func 295) #[pt b] #[])\/(c.picks.done=true/\c.codes.length < c.picks.t/\x=.func (.func 297) #[pt b] #[])\/(c.picks.done=true/\¬ c.codes.length < c.picks.t/\x=.func (.func 293) #[pt b] #[]))) ?_ ?_
 ·clear H H0;rintro _ _ w2 ⟨S,H,⟨h1,rfl⟩|⟨h1,h2,rfl⟩|⟨h1,h2,rfl⟩⟩
  ·refine r_inv (f:=295) (args:=#[pt b,pt r]) (by kernel_rfl) ?_;exact pick_spec H h1 λv w' S' hA=>fin v w' (S.trans S') hA
  ·refine r_inv (f:=297) (args:=#[pt b,pt r]) (by kernel_rfl) ?_;exact Zr0 H h1 h2 λv w' S' hA=>fin v w' (S.trans S') hA
  ·refine r_inv (f:=293) (args:=#[pt b,pt r]) (by kernel_rfl) ?_;exact symbol_spec H h1 h2 λv w' S' hA=>fin v w' (S.trans S') hA
 ·clear fin post;unfold cdL at H0
  repeat (first|refine r_ld 0 H0 rfl rfl ?_|refine r_nc ?_|refine r_fo0 ?_)
  have H1:Holds w (P13.PkR pb c.picks::blk b tCd [nv c.size,pt pb,tv,pt db,cv,nv c.count,.bool c.done,iv 0]::SL nv tI tv (took c)::D11.DlR db c.lens::SL pt tCP cv bs::CodesS bs c.codes::RdR r B d at_::L):=(by have h_:=Holds.ord 7 [1,0,2,3,4,5,6] H0 rfl;exact h_);refine P13.Done_spec H1 λw2 S2 H2=>?_
  have fin2:∀ w',Holds w' (P13.PkR pb c.picks::blk b tCd [nv c.size,pt pb,tv,pt db,cv,nv c.count,.bool c.done,iv 0]::SL nv tI tv (took c)::D11.DlR db c.lens::SL pt tCP cv bs::CodesS bs c.codes::RdR r B d at_::L)->Holds w' (CdR b c::RdR r B d at_::L):=λw' H'=>
   Zat (pb:=pb) (db:=db) (tv:=tv) (cv:=cv) hc hb (by have h_:=Holds.ord 7 [1,0,2,3,4,5,6] H' rfl;exact h_)
  cases hp:c.picks.done with
  |false=>
   refine Zbm (r_vt ?_);refine r_mf (.func (.func 295) #[pt b] #[]) (by kernel_rfl) ?_
   repeat (refine r_ke ?_)
   exact⟨S2,fin2 _ H2,.inl ⟨rfl,rfl⟩⟩
  |true=>
   refine Zah (r_vf ?_);have S:=S2;have H:=H2;clear H2 S2
   repeat (first|refine r_ld 1 H rfl rfl ?_|refine r_nc ?_|refine r_fo0 ?_|(refine r_dr H ?_;clear H;intro _ S_ H;replace S:=S.trans S_;clear S_))
   rename_i w3;refine r_lnS 4 H rfl ?_
   repeat (first|refine r_ld 1 H rfl rfl ?_|refine r_nc ?_|refine r_fo0 ?_)
   refine P13.Zo2 H ?_;refine r_rk (r_lnS 4 H rfl rfl) ?_;refine r_rk (r_ld 1 H rfl rfl rfl) ?_
   repeat (refine r_lss ?_)
   rw[hb];refine r_ifD (λh=>?_) λh=>?_
   ·refine r_mf (.func (.func 297) #[pt b] #[]) (by kernel_rfl) ?_
    repeat (refine r_ke ?_)
    exact⟨S,fin2 _ H,.inr (.inl ⟨rfl,by omega,rfl⟩)⟩
   ·repeat (refine r_ke ?_)
    exact⟨S,fin2 _ H,.inr (.inr ⟨rfl,by omega,rfl⟩)⟩
end C14
namespace S16
open Go.Mr Go.M18
variable {w:World}{L:List HProp}{K:KT}{b n:Nat}{s:List UInt8}{x:SS}
section
variable {α:Type}{P:Program}
theorem Ya9 (i:Nat) (H:Holds w L){F:α->List Value}{k:Nat}{e:TypeId}{v:Value}{ys:List α}{p:α}(hF:∀ y,(F y).length=k) (hi:L[i]?=some (RW F k e v (ys++[p]))) :
  ∃ oa c,v=.slice oa (ys.length+1) c/\ys.length+1<=c/\Holds w (L.set i (RW F k e (.slice oa ys.length c) ys)):=by
 obtain⟨oa,m,sp,rfl,H1⟩:=H.openRW i hi;refine⟨oa,(ys++[p]).length+m,by rw[gD,gQ],by rw[gD,gQ];omega,?_⟩
 have h2:=H1.at i (Za2 hi) (Q:=RW F k e (.slice oa ys.length ((ys++[p]).length+m)) ys) λg hg=>by
  refine⟨oa,m+1,F p++sp,by rw[gD,gQ,show ys.length+1+m=ys.length+(m+1) by omega],?_⟩
  cases oa with
  |none=>
   obtain⟨h,_⟩:=hg;simp at h
  |some a=>
   obtain⟨h1,h2,h3,h4⟩:=hg;refine⟨h1,h2,by rw[gD,hF,h3,Nat.add_mul];omega,?_⟩;rw[Zcj] at h4
   have e1:flatL F [p]=F p:=by simp[flatL]
   rw[e1,gI] at h4;exact h4
 rw[set_set] at h2;exact h2
theorem Zzh (i:Nat) (H:Holds w L){F:α->List Value}{k:Nat}{e:TypeId}{v:Value}{xs:List α}{q j:Nat}{kk:IntKind}{y:α}{u:Value}{K:Value->Prop}(hi:L[i]?=some (RW F k e v xs)) (hx:xs[q]?=some y) (hF:∀ y,(F y).length=k)
  (hj:(F y)[j]?=some u) (h:K u):Ias k v (.int kk (q:Int)) λp=>Fo j p λz=>Ld z w K:=by
 have hlt:q < xs.length:=(gH.1 hx).1;obtain⟨oa,m,sp,rfl,H1⟩:=H.openRW i hi;obtain⟨bb,rfl,hsp,Hb⟩:=H1.rwb i (Za2 hi) (.inl (by omega));refine Zj0 hlt (r_fo ?_);refine r_ld i Hb (Za2 (Za2 hi)) ?_ h;have h1:=Zdb hF xs q y hx
 have hjk:j < k:=by rw[<-hF y];exact (gH.1 hj).1
 have hlen:=Zcm (k:=k) hF xs
 have hq:q*k+k<=xs.length*k:=by
  have:(q+1)*k<=xs.length*k:=Nat.mul_le_mul_right _ (by omega);rw[Nat.add_mul,Nat.one_mul] at this;exact this
 rw[gM (by omega),<-hj,<-h1,hI_ hjk,hH_]
end
abbrev tSo:Nat:=184
abbrev tPt:Nat:=182
abbrev tK:Nat:=225
instance rowPt:RowN prog 180 tPt 3:=⟨by kernel_rfl,⟨t182,.agg #[iv 0,iv 0,iv 0],by kernel_rfl,by kernel_rfl,by decide,by kernel_rfl,by kernel_rfl⟩⟩
abbrev St_ (s:List UInt8):Value:=.string ⟨s.toArray⟩
def Fp (p:Pt):List Value:=[nv p.lo,nv p.mid,nv p.hi]
theorem Fp_sg:∀ y:Pt,∀ u∈Fp y,sg u=true:=by
 intro y u hu;unfold Fp at hu;rcases mem_cons.1 hu with rfl|hu
 ·rfl
 rcases mem_cons.1 hu with rfl|hu
 ·rfl
 rw[mem_singleton.1 hu];rfl
def soC (s:List UInt8) (ov cv av kv:Value) (x:SS) (n:Nat):List Value:=[St_ s,ov,cv,av,nv x.reach,kv,nv x.merge.lo,nv x.merge.mid,nv x.merge.hi,nv x.laid,nv x.first,nv x.second,nv x.ranked,nv x.last,nv n,.bool x.done]
def soL (b:Nat) (s:List UInt8) (ov cv av kv:Value) (x:SS) (n:Nat):List HProp:=[blk b tSo (soC s ov cv av kv x n),SL nv tI ov x.order,SL nv tI cv x.cls,SL nv tI av x.aside,RW Fp 3 tPt kv x.stack.reverse]
def SoR (b:Nat) (s:List UInt8) (x:SS) (n:Nat):HProp:=λh=>∃ ov cv av kv,Sat (soL b s ov cv av kv x n) h
theorem Zal (H:Holds w (SoR b s x n::L)):∃ ov cv av kv,Holds w (soL b s ov cv av kv x n++L):=by
 obtain⟨ov,H⟩:=Holds.ex H;obtain⟨cv,H⟩:=Holds.ex H;obtain⟨av,H⟩:=Holds.ex H;obtain⟨kv,H⟩:=Holds.ex H;exact⟨ov,cv,av,kv,Holds.unpack H⟩
theorem Zaj {ov cv av kv:Value}(H:Holds w (soL b s ov cv av kv x n++L)):Holds w (SoR b s x n::L):=Holds.imp (Holds.pack H) λ_ hh=>⟨ov,cv,av,kv,hh⟩
structure Sz (s:List UInt8) (x:SS):Prop where
 len:s.length<=4000
 cl:x.cls.length=s.length
 al:x.aside.length=s.length
 ol:x.order.length=s.length
 reach:x.reach<=8000
theorem Zp6 {ov cv av kv:Value}{a:Nat}(H:Holds w (soL b s ov cv av kv x n++L)) (hz:Sz s x) (ha:a < s.length)
  (k:∀ w',Same w w'->Holds w' (soL b s ov cv av kv x n++L)->K (.agg #[nv (keyS s x a).1,nv (keyS s x a).2]) w'):Cl prog 156 #[pt b,nv a] w K:=by
 refine Tz156 ?_;unfold Vz156;have hlen:=hz.len;have hcl:=hz.cl;have hre:=hz.reach
 have hzz:(zeroP prog tK).cells.toList=[iv 0,iv 0]:=by kernel_rfl
 have hsz:(⟨s.toArray⟩:ByteArray).size=s.length:=by simp[ByteArray.size]
 refine r_new H λkb w1 S1 H1=>?_;rw[hzz] at H1;refine r_nc (r_fo0 (r_ld 1 H1 rfl rfl ?_));refine r_eql (r_ifE (λh=>?_) λh=>?_)
 ·refine r_nc (r_fo0 (r_ld 1 H1 rfl rfl ?_));refine Zcb (by rw[hsz];exact ha) ?_;have hc:((⟨s.toArray⟩:ByteArray).data.toList.getD a 0).toNat < 256:=UInt8.toNat_lt _;refine Zde (by omega) (by omega) ?_
  have ek:keyS s x a=((s.getD a 0).toNat,0):=by unfold keyS;rw[if_pos (by omega)]
  rw[ek] at k;refine r_bd (v:=.agg #[nv (s.getD a 0).toNat,nv 0]) (by kernel_rfl) ?_;refine r_stA 0 H1 (vs:=[nv (s.getD a 0).toNat,nv 0]) rfl (by decide) rfl rfl λw2 S2 H2=>?_;refine r_ldA 0 H2 [nv (s.getD a 0).toNat,nv 0] rfl rfl rfl ?_;exact k _ (S1.trans S2) H2.drop
 ·refine r_dr H1 λw2 S2 H2=>?_;refine r_nc (r_fo0 (r_ld 1 H2 rfl rfl ?_));refine Za8 3 H2 rfl (Zaw (by omega)) ?_;refine r_nc (r_fo0 (r_ld 1 H2 rfl rfl ?_));refine r_nc (r_fo0 (r_ld 1 H2 rfl rfl ?_));refine Za9 (by omega) ?_;refine r_nc (r_fo0 (r_ld 1 H2 rfl rfl ?_));refine r_lns ?_;rw[hsz];refine Zgv (r:=(((a+x.reach)%s.length:Nat):Int)) (by rw[Int.tmod_eq_emod_of_nonneg (by omega)];rfl) (by omega) ?_;have hm:(a+x.reach)%s.length < s.length:=Nat.mod_lt _ (by omega);refine Za8 3 H2 rfl (Zaw (i:=(a+x.reach)%s.length) (by omega)) ?_
  have ek:keyS s x a=(x.cls.getD a 0,x.cls.getD ((a+x.reach)%s.length) 0):=by unfold keyS;rw[if_neg (by omega)]
  rw[ek] at k;refine r_bd (v:=.agg #[nv (x.cls.getD a 0),nv (x.cls.getD ((a+x.reach)%s.length) 0)]) (by kernel_rfl) ?_;refine r_stA 0 H2 (vs:=[nv (x.cls.getD a 0),nv (x.cls.getD ((a+x.reach)%s.length) 0)]) rfl (by simp) rfl rfl λw3 S3 H3=>?_;refine r_ldA 0 H3 [nv (x.cls.getD a 0),nv (x.cls.getD ((a+x.reach)%s.length) 0)] rfl rfl rfl ?_;exact k _ (S1.trans (S2.trans S3)) H3.drop
theorem Zhv {ov cv av kv:Value}{a c:Nat}(H:Holds w (soL b s ov cv av kv x n++L)) (hz:Sz s x) (ha:a < s.length) (hc:c < s.length)
  (k:∀ w',Same w w'->Holds w' (soL b s ov cv av kv x n++L)->K (.bool (decide (klt (keyS s x c) (keyS s x a)))) w'):Cl prog 138 #[pt b,nv a,nv c] w K:=by
 refine Tz138 ?_;unfold Vz138
 have hzz:(zeroP prog tK).cells.toList=[iv 0,iv 0]:=by kernel_rfl
 refine Zp6 H hz ha λw1 S1 H1=>?_;refine Zp6 H1 hz hc λw2 S2 H2=>?_;generalize keyS s x a=p at *;generalize keyS s x c=q at *;refine r_new H2 λkb w3 S3 H3=>?_;rw[hzz] at H3;refine r_new H3 λlb w4 S4 H4=>?_;rw[hzz] at H4;refine r_stA 1 H4 (vs:=[nv p.1,nv p.2]) rfl (by decide) rfl rfl λw5 S5 H5=>?_;refine r_stA 0 H5 (vs:=[nv q.1,nv q.2]) rfl (by decide) rfl rfl λw6 S6 H6=>?_;replace H6:Holds w6 (blk lb tK [nv q.1,nv q.2]::blk kb tK [nv p.1,nv p.2]::(soL b s ov cv av kv x n++L)):=H6;have S:=S1.trans (S2.trans (S3.trans (S4.trans (S5.trans S6))))
 have fin:∀ t:Bool,t=decide (klt q p)->K (.bool t) w6:=λt e=>by rw[e];exact k w6 S H6.drop.drop
 refine Zak (m:=0) (by decide) (r_ld 1 H6 rfl rfl ?_);refine Zak (m:=0) (by decide) (r_ld 0 H6 rfl rfl ?_);refine r_gtr (r_ifD (λh=>?_) λh=>?_)
 ·exact fin true (decide_eq_true (.inl (by omega))).symm
 refine Zak (m:=0) (by decide) (r_ld 1 H6 rfl rfl ?_);refine Zak (m:=0) (by decide) (r_ld 0 H6 rfl rfl ?_);refine r_eql (r_ifE (λh2=>?_) λh2=>?_)
 ·refine Zak (m:=1) (by decide) (r_ld 1 H6 rfl rfl ?_);refine Zak (m:=1) (by decide) (r_ld 0 H6 rfl rfl ?_);refine r_gtr (fin _ ?_);exact decide_eq_decide.2 (by unfold klt;omega)
 ·exact fin false (decide_eq_false (by unfold klt;omega)).symm
theorem join_spec (H:Holds w (SoR b s x n::L)) (hst:x.stack.length<=100000000)
  (k:∀ w',Same w w'->Holds w' (SoR b s (joinS x) n::L)->K (.tuple #[]) w'):Cl prog 125 #[pt b] w K:=by
 refine Tz125 ?_;unfold Vz125;obtain⟨ov,cv,av,kv,H⟩:=Zal H;refine r_nc (r_fo0 (r_ld 0 H rfl rfl ?_));refine P35.r_lnN 4 H rfl ?_;rw[length_reverse]
 have hnone:joinS x=x->∀ w',Same w w'->Holds w' (soL b s ov cv av kv x n++L)->K (.tuple #[]) w':=λe w' S' H'=>by
  rw[e] at k;exact k w' S' (Zaj H')
 cases hs:x.stack with
 |nil=>
  have ej:joinS x=x:=by unfold joinS;rw[hs]
  refine r_sub (by simp) (by simp) ?_;refine Za1 (λt w'=>w=w'/\t=.bool true) ?_ ?_
  rotate_left
  ·exact r_lss (r_vtD (by simp) (r_ke ⟨rfl,rfl⟩))
  rintro _ _ _ ⟨rfl,rfl⟩;exact r_vt (hnone ej _ (.refl _) H)
 |cons p st=>
  rw[hs] at hst;simp only[length_cons] at hst
  have ej:joinS x=if x.merge.hi=0/\p.mid≠0 then { x with merge:=p,stack:=st,laid:=0,first:=0,second:=p.mid } else x:=by unfold joinS;rw[hs]
  have hrev:x.stack.reverse=st.reverse++[p]:=by rw[hs,reverse_cons]
  have hget:x.stack.reverse[st.length]?=some p:=by rw[hrev,gT (by simp),length_reverse,Nat.sub_self];rfl
  refine Zab (a:=(p::st).length) (by simp) (by simp;omega) ?_;rw[show (p::st).length - 1=st.length by simp];refine Za1 (λt w'=>w=w'/\t=.bool (decide (¬ (x.merge.hi=0/\p.mid≠0)))) ?_ ?_
  rotate_left
  ·refine r_lss (r_vfD (by omega) ?_);refine r_nc (r_fo (r_fo (r_ld 0 H rfl rfl ?_)));refine r_gtr (r_ifD (λh=>?_) λh=>?_)
   ·exact r_ke ⟨rfl,by rw[decide_eq_true (show ¬ (x.merge.hi=0/\p.mid≠0) from λe=>by omega)]⟩
   ·refine r_nc (r_fo0 (r_ld 0 H rfl rfl ?_));refine Zzh 4 H rfl hget (λ_=>rfl) (j:=1) rfl ?_;refine r_eql (r_ke ⟨rfl,?_⟩);rw[show (((p.mid:Nat):Int)==0)=decide (¬ (x.merge.hi=0/\p.mid≠0)) from by rw[Bool.eq_iff_iff,beq_iff_eq,decide_eq_true_iff];omega]
  rintro _ _ _ ⟨rfl,rfl⟩;refine r_ifD (λh=>?_) λh=>?_
  ·rw[if_neg h] at ej;exact hnone ej _ (.refl _) H
  ·have h':x.merge.hi=0/\p.mid≠0:=Classical.byContradiction h;rw[if_pos h'] at ej;refine r_nc (r_fo0 (r_ld 0 H rfl rfl ?_));refine P35.Zzq 4 H rfl hget (λ_=>rfl) ?_;refine r_nc (r_fo ?_);refine r_stA 0 H (vs:=Fp p) rfl (by simp[soC]) rfl rfl λw1 S1 H1=>?_
   have H1':Holds w1 (blk b tSo [St_ s,ov,cv,av,nv x.reach,kv,nv p.lo,nv p.mid,nv p.hi,nv x.laid,nv x.first,nv x.second,nv x.ranked,nv x.last,nv n,.bool x.done]::SL nv tI ov x.order::SL nv tI cv x.cls::SL nv tI av x.aside::RW Fp 3 tPt kv (st.reverse++[p])::L):=by
    rw[<-hrev];exact H1
   clear H1;refine r_nc (r_fo0 (r_ld 0 H1' rfl rfl ?_));obtain⟨oa,c,rfl,hc,H2⟩:=Ya9 (F:=Fp) (k:=3) (ys:=st.reverse) (p:=p) 4 H1' (λ_=>rfl) rfl;rw[length_reverse] at hc H2 ⊢;refine Zfq (by omega) ?_;refine r_nc (r_fo0 ?_);refine r_st 0 H2 rfl (by simp) rfl λw3 S3 H3=>?_;refine r_nc (r_fo0 ?_);refine r_st 0 H3 rfl (by simp) rfl λw4 S4 H4=>?_;refine r_nc (r_fo0 ?_);refine r_st 0 H4 rfl (by simp) rfl λw5 S5 H5=>?_;refine r_nc (r_fo (r_fo ?_));replace H5:Holds w5 (blk b tSo [St_ s,ov,cv,av,nv x.reach,.slice oa st.length c,nv p.lo,nv p.mid,nv p.hi,nv 0,nv 0,nv x.second,nv x.ranked,nv x.last,nv n,.bool x.done]::SL nv tI ov x.order::SL nv tI cv x.cls::SL nv tI av x.aside::RW Fp 3 tPt (.slice oa st.length c) st.reverse::L):=H5;refine r_ld 0 H5 rfl rfl ?_;refine r_nc (r_fo0 ?_);refine r_st 0 H5 rfl (by simp) rfl λw6 S6 H6=>?_;rw[ej] at k;exact k _ (S1.trans (S3.trans (S4.trans (S5.trans S6)))) (Zaj (ov:=ov) (cv:=cv) (av:=av) (kv:=.slice oa st.length c) H6)
theorem Zwr (H:Holds w (SoR b s x n::L)) (hz:Sz s x) (h1:x.laid < x.aside.length) (h2:x.merge.lo+x.laid < x.order.length)
  (k:∀ w',Same w w'->Holds w' (SoR b s (layS x) n::L)->K (.tuple #[]) w'):Cl prog 126 #[pt b] w K:=by
 refine Tz126 ?_;unfold Vz126;have hlen:=hz.len;have hal:=hz.al;have hol:=hz.ol;obtain⟨ov,cv,av,kv,H⟩:=Zal H;refine r_dr H λw1 S1 H1=>?_;refine r_nc (r_fo0 (r_ld 0 H1 rfl rfl ?_));refine r_nc (r_fo0 (r_ld 0 H1 rfl rfl ?_));refine r_nc (r_fo0 (r_ld 0 H1 rfl rfl ?_));refine r_nc (r_fo (r_fo (r_ld 0 H1 rfl rfl ?_)));refine r_nc (r_fo0 (r_ld 0 H1 rfl rfl ?_));refine Za9 (by omega) ?_;refine Za8 1 H1 rfl (Zaw h2) ?_;refine Zam 3 H1 (x.order.getD (x.merge.lo+x.laid) 0) rfl h1 rfl λw2 S2 H2=>?_;refine r_nc (r_fo0 (r_ld 0 H2 rfl rfl ?_));refine Za0 (by omega) ?_;refine r_nc (r_fo0 ?_);refine r_st 0 H2 rfl (by simp[soC]) rfl λw3 S3 H3=>?_;exact k _ (S1.trans (S2.trans S3)) (Zaj (ov:=ov) (cv:=cv) (av:=av) (kv:=kv) H3)
theorem put_spec (H:Holds w (SoR b s x n::L)) (hz:Sz s x) (hm:x.merge.hi<=s.length/\x.merge.mid<=x.merge.hi/\x.merge.lo<=x.merge.mid/\0 < x.merge.hi) (h1:toS x < s.length) (h2:x.merge.mid<=x.second) (h3:x.second<=x.merge.hi) (h4:x.first<=x.laid) (h5:x.laid<=s.length)
  (h6:x.second=x.merge.hi->x.first < x.laid) (hA:x.first < x.laid->x.aside.getD x.first 0 < s.length) (hO:x.second < x.merge.hi->x.order.getD x.second 0 < s.length)
  (k:∀ w',Same w w'->Holds w' (SoR b s (putS (keyS s x) x) n::L)->K (.tuple #[]) w'):Cl prog 127 #[pt b] w K:=by
 refine Tz127 ?_;unfold Vz127;have hlen:=hz.len;have hal:=hz.al;have hol:=hz.ol
 have hzp:(zeroP prog tPt).cells.toList=[iv 0,iv 0,iv 0]:=by kernel_rfl
 have hto:toS x=x.merge.lo+x.first+x.second - x.merge.mid:=rfl;obtain⟨ov,cv,av,kv,H⟩:=Zal H;refine r_nc (r_fo ?_);refine r_ldA 0 H (Fp x.merge) rfl rfl rfl ?_;refine r_new H λmb w1 S1 H1=>?_;rw[hzp] at H1;refine r_stA 0 H1 (vs:=Fp x.merge) rfl (by decide) rfl rfl λw2 S2 H2=>?_;replace H2:Holds w2 (blk mb tPt (Fp x.merge)::(soL b s ov cv av kv x n++L)):=H2;refine r_dr H2 λw3 S3 H3=>?_;have S:=S1.trans (S2.trans S3);clear H H1 H2 S1 S2 S3;refine r_fo0 (r_ld 0 H3 rfl rfl ?_);refine r_nc (r_fo0 (r_ld 1 H3 rfl rfl ?_));refine Za9 (by omega) ?_;refine r_nc (r_fo0 (r_ld 1 H3 rfl rfl ?_));refine Za9 (by omega) ?_;refine r_fo0 (r_ld 0 H3 rfl rfl ?_);refine r_sub (by omega) (by omega) ?_;rw[show (((x.merge.lo+x.first+x.second:Nat):Int)) - (x.merge.mid:Int)=((toS x:Nat):Int) by omega]
 refine Zay (λw'=>Same w w'/\∃ (ov cv av kv:Value),Holds w' (blk mb tPt (Fp x.merge)::(soL b s ov cv av kv (moveS (keyS s x) x) n++L))) ?_ ?_
 ·rintro _ w4 ⟨S4,ov,cv,av,kv,H4⟩
  have hmm:(moveS (keyS s x) x).merge=x.merge:=by unfold moveS;split <;> rfl
  refine r_fo0 (r_ld 0 H4 rfl rfl ?_);refine r_sub (by omega) (by omega) ?_;refine r_eql (r_ifE (λh=>?_) λh=>?_)
  ·refine r_bd (v:=.agg (Fp ⟨0,0,0⟩).toArray) (by kernel_rfl) ?_;refine r_nc (r_fo ?_);refine r_stA 1 H4 (vs:=Fp ⟨0,0,0⟩) rfl (by simp[soC]) rfl rfl λw5 S5 H5=>?_
   have e:putS (keyS s x) x={ moveS (keyS s x) x with merge:=⟨0,0,0⟩ }:=by unfold putS;rw[if_pos (by omega)]
   rw[e] at k;exact k _ (S4.trans S5) (Zaj (ov:=ov) (cv:=cv) (av:=av) (kv:=kv) H5.drop)
  ·have e:putS (keyS s x) x=moveS (keyS s x) x:=by unfold putS;rw[if_neg (by omega)]
   rw[e] at k;exact k _ S4 (Zaj H4.drop)
 refine Za1 (λt w'=>Same w w'/\Holds w' (blk mb tPt (Fp x.merge)::(soL b s ov cv av kv x n++L))/\t=.bool (decide (fromA (keyS s x) x))) ?_ ?_
 ·rintro _ _ w4 ⟨S4,H4,rfl⟩;refine r_ifD (λh=>?_) λh=>?_
  ·have hf:x.first < x.laid:=by
    rcases h with h|h
    ·exact h6 h
    ·exact h.1
   refine r_dr H4 λw5 S5 H5=>?_;refine r_nc (r_fo0 (r_ld 1 H5 rfl rfl ?_));refine r_nc (r_fo0 (r_ld 1 H5 rfl rfl ?_));refine r_nc (r_fo0 (r_ld 1 H5 rfl rfl ?_));refine Za8 4 H5 rfl (Zaw (by omega)) ?_;refine Zam (j:=toS x) 2 H5 (x.aside.getD x.first 0) rfl (by omega) rfl λw6 S6 H6=>?_;refine r_nc (r_fo0 (r_ld 1 H6 rfl rfl ?_));refine Za0 (by omega) ?_;refine r_nc (r_fo0 ?_);refine r_st 1 H6 rfl (by simp[soC]) rfl λw7 S7 H7=>?_;refine r_ke ⟨S4.trans (S5.trans (S6.trans S7)),ov,cv,av,kv,?_⟩;unfold moveS;rw[if_pos h];exact H7
  ·have hf:x.second < x.merge.hi:=by
    rcases hU_ x.second x.merge.hi with g|g
    ·exact g
    ·exact absurd (.inl (by omega)) h
   refine r_dr H4 λw5 S5 H5=>?_;refine r_nc (r_fo0 (r_ld 1 H5 rfl rfl ?_));refine r_nc (r_fo0 (r_ld 1 H5 rfl rfl ?_));refine r_nc (r_fo0 (r_ld 1 H5 rfl rfl ?_));refine Za8 2 H5 rfl (Zaw (by omega)) ?_;refine Zam (j:=toS x) 2 H5 (x.order.getD x.second 0) rfl (by omega) rfl λw6 S6 H6=>?_;refine r_nc (r_fo0 (r_ld 1 H6 rfl rfl ?_));refine Za0 (by omega) ?_;refine r_nc (r_fo0 ?_);refine r_st 1 H6 rfl (by simp[soC]) rfl λw7 S7 H7=>?_;refine r_ke ⟨S4.trans (S5.trans (S6.trans S7)),ov,cv,av,kv,?_⟩;unfold moveS;rw[if_neg h];exact H7
 ·refine r_dr H3 λw4 S4 H4=>?_;refine r_nc (r_fo0 (r_ld 1 H4 rfl rfl ?_));refine r_fo0 (r_ld 0 H4 rfl rfl ?_);refine r_eql (r_ifE (λh=>?_) λh=>?_)
  ·exact r_ke ⟨S.trans S4,H4,by rw[decide_eq_true (.inl (by omega))]⟩
  refine r_nc (r_fo0 (r_ld 1 H4 rfl rfl ?_));refine r_nc (r_fo0 (r_ld 1 H4 rfl rfl ?_));refine r_lss (r_ifD (λh7=>?_) λh7=>?_)
  ·refine r_nc (r_fo0 (r_ld 1 H4 rfl rfl ?_));refine r_nc (r_fo0 (r_ld 1 H4 rfl rfl ?_));refine Za8 4 H4 rfl (Zaw (by omega)) ?_;refine r_nc (r_fo0 (r_ld 1 H4 rfl rfl ?_));refine r_nc (r_fo0 (r_ld 1 H4 rfl rfl ?_));refine Za8 2 H4 rfl (Zaw (by omega)) ?_
   have H5:Holds w4 (soL b s ov cv av kv x n++(blk mb tPt (Fp x.merge)::L)):=by have h_:=Holds.ord 6 [1,2,3,4,5,0] H4 rfl;exact h_
   refine Zhv H5 hz (hA (by omega)) (hO (by omega)) λw5 S5 H6=>?_;refine r_not (r_ke ⟨S.trans (S4.trans S5),by have h_:=Holds.ord 6 [5,0,1,2,3,4] H6 rfl;exact h_,?_⟩);rw[show (!decide (klt (keyS s x (x.order.getD x.second 0)) (keyS s x (x.aside.getD x.first 0))))=decide (fromA (keyS s x) x) from ?_];rw[Bool.eq_iff_iff,Bool.not_eq_true',decide_eq_false_iff_not,decide_eq_true_iff];unfold fromA
   constructor
   ·exact λz=>.inr ⟨by omega,z⟩
   ·rintro (z|z)
    ·omega
    ·exact z.2
  ·refine r_ke ⟨S.trans S4,H4,?_⟩
   rw[decide_eq_false (show ¬ fromA (keyS s x) x from λz=>by
    rcases z with z|z
    ·omega
    ·exact h7 (by have:=z.1;omega))]
end S16
namespace S16
open Go.Mr Go.M18
variable {w:World}{L:List HProp}{K:KT}{b n:Nat}{s:List UInt8}{x:SS}
theorem begin_spec (H:Holds w (SoR b s x n::L)) (hz:Sz s x) (hne:x.stack≠[]) (hst:x.stack.length<=100000000) (hp:∀ p∈x.stack,p.lo<=p.hi/\p.hi<=4000)
  (k:∀ w',Same w w'->Holds w' (SoR b s (beginS x) n::L)->K (.tuple #[]) w'):Cl prog 128 #[pt b] w K:=by
 refine Tz128 ?_;unfold Vz128
 have hzp:(zeroP prog tPt).cells.toList=[iv 0,iv 0,iv 0]:=by kernel_rfl
 obtain⟨ov,cv,av,kv,H⟩:=Zal H
 cases hs:x.stack with
 |nil=>exact absurd hs hne
 |cons p st=>
  rw[hs] at hst;simp only[length_cons] at hst;have hpb:=hp p (by rw[hs];exact hJ_ ..)
  have ej:beginS x=if p.hi - p.lo < 2 then { x with stack:=st } else { x with stack:=⟨p.lo,0,(p.lo+p.hi)/2⟩::⟨(p.lo+p.hi)/2,0,p.hi⟩::⟨p.lo,(p.lo+p.hi)/2,p.hi⟩::st }:=by unfold beginS;rw[hs]
  have hrev:x.stack.reverse=st.reverse++[p]:=by rw[hs,reverse_cons]
  have H0:Holds w (blk b tSo (soC s ov cv av kv x n)::SL nv tI ov x.order::SL nv tI cv x.cls::SL nv tI av x.aside::RW Fp 3 tPt kv (st.reverse++[p])::L):=by rw[<-hrev];exact H
  have hget:(st.reverse++[p])[st.length]?=some p:=by rw[gT (by simp),length_reverse,Nat.sub_self];rfl
  have hll:(st.reverse++[p]).length=st.length+1:=by simp
  clear H;refine r_dr H0 λw1 S1 H1=>?_;refine r_nc (r_fo0 (r_ld 0 H1 rfl rfl ?_));refine r_nc (r_fo0 (r_ld 0 H1 rfl rfl ?_));refine P35.r_lnN 4 H1 rfl ?_;rw[hll];refine Zab (by omega) (by omega) ?_;rw[Nat.add_sub_cancel]
  obtain⟨oa,m,sp,rfl,Ho⟩:=H1.openRW 4 rfl;obtain⟨sb,rfl,hsp,Hb⟩:=Ho.rwb 4 rfl (.inl (by rw[hll];omega));have Hb':Holds w1 (blk b tSo (soC s ov cv av (.slice (some ⟨sb,0,none⟩) (st.reverse++[p]).length ((st.reverse++[p]).length+m)) x n)::SL nv tI ov x.order::SL nv tI cv x.cls::SL nv tI av x.aside::blk sb tPt (flatL Fp (st.reverse++[p])++sp)::L):=Hb
  have hcell:((flatL Fp (st.reverse++[p])++sp).drop (st.length*3)).take 3=Fp p:=by
   have h1:=Zdb (F:=Fp) (k:=3) (λ_=>rfl) _ _ _ hget;have hlen:=Zcm (F:=Fp) (k:=3) (λ_=>rfl) (st.reverse++[p]);rw[hll] at hlen;rw[List.drop_append_of_le_length (by omega),List.take_append_of_le_length (by rw[gS];omega)];exact h1
  refine Zj0 (by rw[hll];omega) ?_;refine r_ldA 4 Hb' (Fp p) rfl hcell rfl ?_;refine r_new Hb' λpb w2 S2 H2=>?_;rw[hzp] at H2;refine r_rk (r_ldA 5 H2 (Fp p) rfl hcell rfl rfl) (r_rk (r_lnl (by rw[hll])) (r_rk (r_ld 1 H2 rfl rfl rfl) (r_rk (r_ld 1 H2 rfl rfl rfl) ?_)));refine r_stA 0 H2 (vs:=Fp p) rfl (by decide) rfl rfl λw3 S3 H3=>?_
  have H3':Holds w3 (blk pb tPt (Fp p)::blk b tSo (soC s ov cv av (.slice (some ⟨sb,0,none⟩) (st.length+1) (st.length+1+m)) x n)::SL nv tI ov x.order::SL nv tI cv x.cls::SL nv tI av x.aside::blk sb tPt (flatL Fp (st.reverse++[p])++sp)::L):=by
   have h:Holds w3 (blk pb tPt (Fp p)::blk b tSo (soC s ov cv av (.slice (some ⟨sb,0,none⟩) (st.reverse++[p]).length ((st.reverse++[p]).length+m)) x n)::SL nv tI ov x.order::SL nv tI cv x.cls::SL nv tI av x.aside::blk sb tPt (flatL Fp (st.reverse++[p])++sp)::L):=H3;rw[hll] at h;exact h
  refine r_dr H3' λw4 S4 H4=>?_;have S:=S1.trans (S2.trans (S3.trans S4));clear H0 H1 Ho Hb Hb' H2 H3 H3' S1 S2 S3 S4;refine r_nc (r_fo0 (r_ld 1 H4 rfl rfl ?_));refine r_nc (r_fo0 (r_ld 1 H4 rfl rfl ?_));refine r_lnl ?_;refine Zab (a:=st.length+1) (by omega) (by omega) ?_;rw[Nat.add_sub_cancel];refine Zfq (by omega) ?_;refine r_nc (r_fo0 ?_);refine r_st 1 H4 rfl (by simp[soC]) rfl λw5 S5 H5=>?_
  have H6:Holds w5 (blk pb tPt (Fp p)::blk b tSo (soC s ov cv av (.slice (some ⟨sb,0,none⟩) st.length (st.length+1+m)) x n)::SL nv tI ov x.order::SL nv tI cv x.cls::SL nv tI av x.aside::RW Fp 3 tPt (.slice (some ⟨sb,0,none⟩) st.length (st.length+1+m)) st.reverse::L):=by
   have h:=H5.at 5 rfl (Q:=RW Fp 3 tPt (.slice (some ⟨sb,0,none⟩) st.length (st.length+1+m)) st.reverse) λg hg=>by
    refine⟨some ⟨sb,0,none⟩,m+1,Fp p++sp,by rw[length_reverse,show st.length+1+m=st.length+(m+1) by omega],rfl,rfl,by rw[gD,hsp];show 3+m*3=_;omega,?_⟩;have hg':blk sb tPt (flatL Fp (st.reverse++[p])++sp) g:=hg;rw[Zcj,gI] at hg'
    have e1:flatL Fp [p]=Fp p:=by simp[flatL]
    rw[e1] at hg';exact hg'
   exact h
  clear H4 H5;replace S:=S.trans S5;refine r_fo0 (r_ld 0 H6 rfl rfl ?_);refine r_fo0 (r_ld 0 H6 rfl rfl ?_);refine r_sub (by omega) (by omega) ?_;refine r_lss (r_ifD (λh=>?_) λh=>?_)
  ·rw[if_pos (by omega)] at ej;rw[ej] at k;exact k _ S (Zaj (ov:=ov) (cv:=cv) (av:=av) H6.drop)
  rw[if_neg (by omega)] at ej;rw[ej] at k;refine r_fo0 (r_ld 0 H6 rfl rfl ?_);refine r_fo0 (r_ld 0 H6 rfl rfl ?_);refine Za9 (by omega) ?_;refine r_quo (by omega) (by omega) (by omega) ?_;rw[show ((p.lo+p.hi:Nat):Int)/2=(((p.lo+p.hi)/2:Nat):Int) by omega];generalize (p.lo+p.hi)/2=mid at *;refine r_dr H6 λw7 S7 H7=>?_;refine r_nc (r_fo0 (r_ld 1 H7 rfl rfl ?_));refine r_fo0 (r_ld 0 H7 rfl rfl ?_);refine r_fo0 (r_ld 0 H7 rfl rfl ?_);refine r_bd (v:=.agg (Fp ⟨p.lo,mid,p.hi⟩).toArray) (by kernel_rfl) ?_;refine r_fo0 (r_ld 0 H7 rfl rfl ?_);refine r_bd (v:=.agg (Fp ⟨mid,0,p.hi⟩).toArray) (by kernel_rfl) ?_;refine r_fo0 (r_ld 0 H7 rfl rfl ?_);refine r_bd (v:=.agg (Fp ⟨p.lo,0,mid⟩).toArray) (by kernel_rfl) ?_;refine r_bsK (e:=tPt) (Fp ⟨p.lo,mid,p.hi⟩++Fp ⟨mid,0,p.hi⟩++Fp ⟨p.lo,0,mid⟩) H7 (by kernel_rfl) λnb w8 S8 H8=>?_;refine r_rk (r_ld 2 H8 rfl rfl rfl) ?_;refine r_apN (F:=Fp) (xs:=st.reverse) (ys:=[⟨p.lo,mid,p.hi⟩,⟨mid,0,p.hi⟩,⟨p.lo,0,mid⟩]) H8 6 0 rfl rfl (by omega) rfl rfl (λ_=>rfl) Fp_sg (by simp;omega) (by simp) (by decide) λkv2 w9 S9 H9=>?_;refine r_nc (r_fo0 ?_)
  have hsg:sg kv2=true:=by
   obtain⟨oa2,m2,sp2,rfl,_⟩:=H9.openRW 6 rfl;rfl
  refine r_st 2 H9 rfl (by simp[soC]) hsg λw10 S10 H10=>?_
  have H11:Holds w10 (soL b s ov cv av kv2 { x with stack:=⟨p.lo,0,mid⟩::⟨mid,0,p.hi⟩::⟨p.lo,mid,p.hi⟩::st } n++L):=by
   have h:=H10.drop.drop;unfold soL;simp only[reverse_cons,gI];exact h
  exact k _ (S.trans (S7.trans (S8.trans (S9.trans S10)))) (Zaj H11)
theorem Ztw (H:Holds w (SoR b s x n::L)) (hz:Sz s x) (hst:x.stack.length<=100000000) (h0:0 < s.length)
  (k:∀ w',Same w w'->Holds w' (SoR b s (passS s.length x) n::L)->K (.tuple #[]) w'):Cl prog 139 #[pt b] w K:=by
 refine Tz139 ?_;unfold Vz139;have hlen:=hz.len;have hol:=hz.ol;have hre:=hz.reach;obtain⟨ov,cv,av,kv,H⟩:=Zal H;refine r_nc (r_fo0 (r_ld 0 H rfl rfl ?_));refine r_nc (r_fo0 (r_ld 0 H rfl rfl ?_))
 have hsg:∀ {v:Value} {l:List Nat} {i:Nat},(soL b s ov cv av kv x n++L)[i]?=some (SL nv tI v l)->sg v=true:=λhi=>by
  obtain⟨oa,sp,rfl,_⟩:=H.open _ hi;rfl
 refine r_nc (r_fo0 ?_);refine r_st 0 H rfl (by simp[soC]) (hsg (i:=3) rfl) λw1 S1 H1=>?_;refine r_nc (r_fo0 ?_);refine r_st 0 H1 rfl (by simp[soC]) (hsg (i:=2) rfl) λw2 S2 H2=>?_;refine r_nc (r_fo0 ?_);refine r_st 0 H2 rfl (by simp[soC]) rfl λw3 S3 H3=>?_
 have H4:Holds w3 (soL b s ov av cv kv { x with cls:=x.aside,aside:=x.cls,ranked:=0 } n++L):=by
  have h_:=Holds.ord 5 [0,1,3,2,4] H3 rfl;exact h_
 have S:=S1.trans (S2.trans S3);clear H H1 H2 H3 S1 S2 S3 hsg;refine Za1 (λt w'=>Same w w'/\Holds w' (soL b s ov av cv kv { x with cls:=x.aside,aside:=x.cls,ranked:=0 } n++L)/\t=.bool (decide (x.last=s.length - 1\/s.length<=x.reach))) ?_ ?_
 rotate_left
 ·refine r_dr H4 λw4 S4 H5=>?_;refine r_nc (r_fo0 (r_ld 0 H5 rfl rfl ?_));refine r_nc (r_fo0 (r_ld 0 H5 rfl rfl ?_));refine r_lnS 1 H5 rfl ?_;rw[hol];refine Zab (by omega) (by omega) ?_;refine r_eql (r_ifE (λh=>?_) λh=>?_)
  ·have h':((x.last:Nat):Int)=((s.length - 1:Nat):Int):=h;exact r_ke ⟨S.trans S4,H5,by rw[decide_eq_true (.inl (by omega))]⟩
  ·have h':¬ ((x.last:Nat):Int)=((s.length - 1:Nat):Int):=h;refine r_nc (r_fo0 (r_ld 0 H5 rfl rfl ?_));refine r_nc (r_fo0 (r_ld 0 H5 rfl rfl ?_));refine r_lnS 1 H5 rfl ?_;rw[hol];refine r_geq (r_ke ⟨S.trans S4,H5,?_⟩);rw[show decide (((s.length:Nat):Int)<=((x.reach:Nat):Int))=decide (x.last=s.length - 1\/s.length<=x.reach) from decide_eq_decide.2 (by omega)]
 rintro _ _ w4 ⟨S4,H5,rfl⟩;refine r_ifD (λh=>?_) λh=>?_
 ·refine r_nc (r_fo0 ?_);refine r_st 0 H5 rfl (by simp[soC]) rfl λw5 S5 H6=>?_
  have e:passS s.length x={ x with cls:=x.aside,aside:=x.cls,ranked:=0,done:=true }:=by unfold passS;rw[if_pos h]
  rw[e] at k;exact k _ (S4.trans S5) (Zaj (ov:=ov) (cv:=av) (av:=cv) (kv:=kv) H6)
 ·have e:passS s.length x={ x with cls:=x.aside,aside:=x.cls,ranked:=0,reach:=max 1 (2*x.reach),stack:=⟨0,0,s.length⟩::x.stack }:=by unfold passS;rw[if_neg h]
  rw[e] at k;refine r_nc (r_fo0 (r_ld 0 H5 rfl rfl ?_));refine Zb8 (((2*x.reach:Nat)):Int) (by show 2*((x.reach:Nat):Int)=_;omega) (by omega) (by omega) ?_;refine r_max ?_;rw[show max (1:Int) ((2*x.reach:Nat):Int)=((max 1 (2*x.reach):Nat):Int) by omega];refine r_nc (r_fo0 ?_);refine r_st 0 H5 rfl (by simp[soC]) rfl λw5 S5 H6=>?_;replace H6:Holds w5 (soL b s ov av cv kv { x with cls:=x.aside,aside:=x.cls,ranked:=0,reach:=max 1 (2*x.reach) } n++L):=H6;refine r_dr H6 λw6 S6 H7=>?_;refine r_nc (r_fo0 (r_ld 0 H7 rfl rfl ?_));refine r_nc (r_fo0 (r_ld 0 H7 rfl rfl ?_));refine r_lnS 1 H7 rfl ?_;rw[hol];refine r_bd (v:=.agg (Fp ⟨0,0,s.length⟩).toArray) (by kernel_rfl) ?_;refine r_bsK (e:=tPt) (Fp ⟨0,0,s.length⟩) H7 (by kernel_rfl) λnb w8 S8 H8=>?_;refine r_rk (r_ld 1 H8 rfl rfl rfl) ?_;refine r_apN (F:=Fp) (xs:=x.stack.reverse) (ys:=[⟨0,0,s.length⟩]) H8 5 0 rfl rfl (by omega) rfl rfl (λ_=>rfl) Fp_sg (by rw[length_reverse];simp;omega) (by simp) (by decide) λkv2 w9 S9 H9=>?_;refine r_nc (r_fo0 ?_)
  have hsg:sg kv2=true:=by
   obtain⟨oa2,m2,sp2,rfl,_⟩:=H9.openRW 5 rfl;rfl
  refine r_st 1 H9 rfl (by simp[soC]) hsg λw10 S10 H10=>?_
  have H11:Holds w10 (soL b s ov av cv kv2 { x with cls:=x.aside,aside:=x.cls,ranked:=0,reach:=max 1 (2*x.reach),stack:=⟨0,0,s.length⟩::x.stack } n++L):=by
   have h:=H10.drop;unfold soL;simp only[reverse_cons];exact h
  exact k _ (S4.trans (S5.trans (S6.trans (S8.trans (S9.trans S10))))) (Zaj H11)
theorem Zst (H:Holds w (SoR b s x n::L)) (hz:Sz s x) (hst:x.stack.length<=100000000) (hr:x.ranked < s.length) (hl:0 < x.ranked->x.last<=8000) (hO:∀ a∈x.order,a < s.length)
  (k:∀ w',Same w w'->Holds w' (SoR b s (rankS (keyS s x) s.length x) n::L)->K (.tuple #[]) w'):Cl prog 129 #[pt b] w K:=by
 refine Tz129 ?_;unfold Vz129;have hlen:=hz.len;have hol:=hz.ol;have hal:=hz.al;obtain⟨ov,cv,av,kv,H⟩:=Zal H;refine r_nc (r_fo0 (r_ld 0 H rfl rfl ?_));refine Zay (λw'=>Same w w'/\Holds w' (soL b s ov cv av kv { x with last:=lastN (keyS s x) x } n++L)) ?_ ?_
 ·rintro _ w1 ⟨S1,H1⟩;refine r_dr H1 λw2 S2 H2=>?_;refine r_nc (r_fo0 (r_ld 0 H2 rfl rfl ?_));refine r_nc (r_fo0 (r_ld 0 H2 rfl rfl ?_));refine Za8 1 H2 rfl (Zaw (l:=x.order) (i:=x.ranked) (by omega)) ?_;refine r_nc (r_fo0 (r_ld 0 H2 rfl rfl ?_));have hm:=hO _ (Zbb (l:=x.order) (i:=x.ranked) (by omega));refine Zam (j:=x.order.getD x.ranked 0) 3 H2 (lastN (keyS s x) x) rfl (by show _ < x.aside.length;omega) rfl λw3 S3 H3=>?_;refine r_nc (r_fo0 (r_ld 0 H3 rfl rfl ?_));refine Za0 (a:=x.ranked) (by omega) ?_;refine r_nc (r_fo0 ?_);refine r_st 0 H3 rfl (by simp[soC]) rfl λw4 S4 H4=>?_;replace H4:Holds w4 (soL b s ov cv av kv (rank1 (keyS s x) x) n++L):=H4;refine r_dr H4 λw5 S5 H5=>?_;refine r_nc (r_fo0 (r_ld 0 H5 rfl rfl ?_));refine r_nc (r_fo0 (r_ld 0 H5 rfl rfl ?_));refine r_lnS 1 H5 rfl ?_;refine r_eql (r_ifE (λh=>?_) λh=>?_)
  ·have hq:x.ranked+1=s.length:=by
    have h':((x.ranked+1:Nat):Int)=((x.order.length:Nat):Int):=h;omega
   refine Ztw (Zaj H5) ⟨hlen,hz.cl,by show (List.set _ _ _).length=_;rw[hX_];exact hal,hol,hz.reach⟩ hst (by omega) λw6 S6 H6=>?_
   have e:rankS (keyS s x) s.length x=passS s.length (rank1 (keyS s x) x):=by unfold rankS;rw[if_pos hq]
   rw[e] at k;exact k _ (S1.trans (S2.trans (S3.trans (S4.trans (S5.trans S6))))) H6
  ·have hq:¬ x.ranked+1=s.length:=by
    have h':¬ ((x.ranked+1:Nat):Int)=((x.order.length:Nat):Int):=h;omega
   have e:rankS (keyS s x) s.length x=rank1 (keyS s x) x:=by unfold rankS;rw[if_neg hq]
   rw[e] at k;exact k _ (S1.trans (S2.trans (S3.trans (S4.trans S5)))) (Zaj H5)
 ·refine r_eql (r_ifE (λh=>?_) λh=>?_)
  ·refine r_nc (r_fo0 ?_);refine r_st 0 H rfl (by simp[soC]) rfl λw1 S1 H1=>?_;refine r_ke ⟨S1,?_⟩
   have e:lastN (keyS s x) x=0:=by unfold lastN;rw[if_pos (by omega)]
   rw[e];exact H1
  ·refine r_dr H λw1 S1 H1=>?_;refine r_nc (r_fo0 (r_ld 0 H1 rfl rfl ?_));refine Za8 1 H1 rfl (Zaw (by omega)) ?_;refine r_nc (r_fo0 (r_ld 0 H1 rfl rfl ?_));refine Zab (by omega) (by omega) ?_;refine Za8 1 H1 rfl (Zaw (by omega)) ?_;refine Zhv H1 hz (hO _ (Zbb (by omega))) (hO _ (Zbb (by omega))) λw2 S2 H2=>?_;refine r_ifD (λh2=>?_) λh2=>?_
   ·have hl':=hl (by omega);refine r_nc (r_fo0 (r_ld 0 H2 rfl rfl ?_));refine Za0 (by omega) ?_;refine r_nc (r_fo0 ?_);refine r_st 0 H2 rfl (by simp[soC]) rfl λw3 S3 H3=>?_;refine r_ke ⟨S1.trans (S2.trans S3),?_⟩
    have e:lastN (keyS s x) x=x.last+1:=by unfold lastN;rw[if_neg (by omega),if_pos h2]
    rw[e];exact H3
   ·refine r_ke ⟨S1.trans S2,?_⟩
    have e:lastN (keyS s x) x=x.last:=by unfold lastN;rw[if_neg (by omega),if_neg h2]
    rw[e];exact H2
end S16
namespace S16
open Go.Mr Go.M18
variable {w:World}{L:List HProp}{K:KT}{b n:Nat}{s:List UInt8}{x:SS}
theorem step_spec (H:Holds w (SoR b s x n::L)) (hI:Inv s x) (hlen:s.length<=4000) (hr:x.reach<=2*s.length) (hl:ldS s.length x<=4*(s.length*s.length)+s.length) (hn:n<=1000000000000)
  (k:∀ w',Same w w'->Holds w' (SoR b s (stepS (keyS s x) s.length x) (n+1)::L)->K (.tuple #[]) w'):Cl prog 117 #[pt b] w K:=by
 refine Tz117 ?_;unfold Vz117;have hsl:=Zty hI.ph hl hlen;refine join_spec H (by omega) λw1 S1 H1=>?_;have hj:=Zo0 hI.bs hI.ph
 have hjk:keyS s (joinS x)=keyS s x:=by
  unfold joinS;split
  ·rfl
  ·split <;> rfl
 have hjs:(joinS x).stack.length<=x.stack.length:=by
  unfold joinS;split
  ·exact Nat.le_refl _
  ·rename_i e;split
   ·rw[e];simp
   ·exact Nat.le_refl _
 have hjr:=Ziq x;unfold stepS at k;generalize joinS x=y at *;obtain⟨hb,hp,hm⟩:=hj;rw[<-hjk] at hp k;have hz:Sz s y:=⟨hlen,hb.cl,hb.al,hb.ol,by omega⟩;have hol:=hb.ol;have hal:=hb.al;have hwf:=Zo9 hp;refine Zay (λw'=>Same w w'/\Holds w' (SoR b s (restS (keyS s y) s.length y) n::L)) ?_ ?_
 ·rintro _ w2 ⟨S2,H2⟩;obtain⟨ov,cv,av,kv,H3⟩:=Zal H2;refine r_nc (r_fo0 (r_ld 0 H3 rfl rfl ?_));refine Za0 (by omega) ?_;refine r_nc (r_fo0 ?_);refine r_st 0 H3 rfl (by simp[soC]) rfl λw3 S3 H4=>?_;exact k _ (S2.trans S3) (Zaj (ov:=ov) (cv:=cv) (av:=av) (kv:=kv) H4)
 refine Za1 (λt w'=>Same w w'/\Holds w' (SoR b s y n::L)/\t=.bool (decide (0 < y.merge.hi/\y.laid < y.merge.mid - y.merge.lo))) ?_ ?_
 ·rintro _ _ w2 ⟨S2,H2,rfl⟩;refine r_ifD (λh=>?_) λh=>?_
  ·have e:restS (keyS s y) s.length y=layS y:=by unfold restS;rw[if_pos h]
   rw[e];rcases hp with hp|⟨R,hp⟩
   ·have:=hp.none;omega
   have m3:=hp.m3;have m2:=hp.m2;refine Zwr H2 hz (by omega) (by omega) λw3 S3 H3=>?_;exact r_ke ⟨S2.trans S3,H3⟩
  obtain⟨ov,cv,av,kv,H3⟩:=Zal H2;refine r_nc (r_fo (r_fo (r_ld 0 H3 rfl rfl ?_)));refine r_gtr (r_ifD (λh2=>?_) λh2=>?_)
  ·have e:restS (keyS s y) s.length y=putS (keyS s y) y:=by unfold restS;rw[if_neg h,if_pos (by omega)]
   rw[e];rcases hp with hp|⟨R,hp⟩
   ·have:=hp.none;omega
   have m3:=hp.m3;have m2:=hp.m2;have m1:=hp.m1;have hlay:=hp.lay
   have hla:y.laid=y.merge.mid - y.merge.lo:=by omega
   obtain⟨l1,l2,l3,l4,_⟩:=hp.late hla;have hto:toS y=y.merge.lo+y.first+y.second - y.merge.mid:=rfl;refine put_spec H2 hz ⟨m3,by omega,by omega,by omega⟩ (by omega) l2 l3 l1 (by omega) (λ_=>by omega) (λhf=>?_) (λhs=>hb.om _ (Zbb (by omega))) λw3 S3 H4=>?_
   ·refine hp.asm _ ?_
    rw[show y.aside.getD y.first 0=(seg y.aside 0 y.laid).getD y.first 0 from by
     unfold seg
     rw[List.drop_zero,Nat.sub_zero,gB,gB,hI_ hf]]
    exact Zbb (by rw[Zdl (by omega)];omega)
   ·exact r_ke ⟨S2.trans S3,H4⟩
  refine r_nc (r_fo0 (r_ld 0 H3 rfl rfl ?_));refine P35.r_lnN 4 H3 rfl ?_;rw[length_reverse]
  have hph:PhA (keyS s y) s.length y:=by
   rcases hp with hp|⟨R,hp⟩
   ·exact hp
   ·have:=hp.m2;omega
  refine r_gtr (r_ifD (λh3=>?_) λh3=>?_)
  ·have hne:y.stack≠[]:=λe=>by rw[e] at h3;simp at h3
   have e:restS (keyS s y) s.length y=beginS y:=by unfold restS;rw[if_neg h,if_neg (by omega),if_pos hne]
   rw[e];refine begin_spec H2 hz hne (by omega) (λp hpp=>by have:=hwf p hpp;omega) λw3 S3 H4=>?_;exact r_ke ⟨S2.trans S3,H4⟩
  ·have he:y.stack=[]:=List.eq_nil_of_length_eq_zero (by omega)
   have e:restS (keyS s y) s.length y=rankS (keyS s y) s.length y:=by unfold restS;rw[if_neg h,if_neg (by omega),if_neg (by simpa using he)]
   rw[e];have hkn:=hph.rkn;refine Zst H2 hz (by omega) hkn (λhr0=>?_) hb.om λw3 S3 H4=>?_
   ·rw[hph.lst hr0];have:=Zjp (k:=keyS s y) (o:=y.order) (y.ranked - 1);omega
   ·exact r_ke ⟨S2.trans S3,H4⟩
 ·refine r_dr H1 λw2 S2 H2=>?_;obtain⟨ov,cv,av,kv,H3⟩:=Zal H2;have close:Holds w2 (SoR b s y n::L):=H2;refine r_nc (r_fo (r_fo (r_ld 0 H3 rfl rfl ?_)));refine r_gtr (r_ifD (λh=>?_) λh=>?_)
  ·have hm12:y.merge.lo<=y.merge.mid/\y.merge.mid<=s.length:=by
    rcases hp with hp|⟨R,hp⟩
    ·have:=hp.none;omega
    ·have:=hp.m1;have:=hp.m2;have:=hp.m3;omega
   refine r_nc (r_fo0 (r_ld 0 H3 rfl rfl ?_));refine r_nc (r_fo (r_fo (r_ld 0 H3 rfl rfl ?_)));refine r_nc (r_fo (r_fo (r_ld 0 H3 rfl rfl ?_)));refine r_sub (by omega) (by omega) ?_;refine r_lss (r_ke ⟨S1.trans S2,H2,?_⟩);rw[show decide (((y.laid:Nat):Int) < ((y.merge.mid:Nat):Int) - ((y.merge.lo:Nat):Int))=decide (0 < y.merge.hi/\y.laid < y.merge.mid - y.merge.lo) from decide_eq_decide.2 (by omega)]
  ·refine r_ke ⟨S1.trans S2,H2,?_⟩;rw[decide_eq_false (show ¬ (0 < y.merge.hi/\y.laid < y.merge.mid - y.merge.lo) from λe=>by omega)]
def Fini (s:List UInt8) (x:SS):Prop:=x.done=true/\x.order=sortP s s.length
theorem Done_spec (H:Holds w (SoR b s x n::L)) (k:K (.bool x.done) w):Cl prog 105 #[pt b] w K:=by
 refine Tz105 ?_;unfold Vz105;obtain⟨ov,cv,av,kv,H⟩:=Zal H;exact Zao (r_vt (r_nc (r_fo0 (r_ld 0 H rfl rfl k))))
theorem Zqp (H:Holds w (SoR b s x n::L)) (hf:Fini s x) (hlen:s.length<=4000) (k:∀ v w',Same w w'->Holds w' (SL nv tI v (sortP s s.length)::SoR b s x n::L)->K v w'):Cl prog 106 #[pt b] w K:=by
 refine Tz106 ?_;unfold Vz106;refine Done_spec H ?_;rw[hf.1];refine Zah (r_vf ?_);obtain⟨ov,cv,av,kv,H⟩:=Zal H;refine r_nc (r_fo0 (r_ld 0 H rfl rfl ?_));refine Zbf H 1 rfl (by rw[hf.2,Zcp];omega) λv w1 S1 H1=>?_;rw[hf.2] at H1;refine k v w1 S1 ?_
 have h2:Holds w1 ((soL b s ov cv av kv x n++SL nv tI v (sortP s s.length)::L)):=by
  have h_:=Holds.ord 6 [1,2,3,4,5,0] H1 rfl;exact h_
 exact (Zaj h2).swap
theorem Step_spec (H:Holds w (SoR b s x 0::L)) (hx:Fini s x\/(Inv s x/\x.reach<=2*s.length/\ldS s.length x<=4*(s.length*s.length)+s.length/\mu s.length x<=300000000000)) (hlen:s.length<=4000)
  (k:∀ y m w',Fini s y->m<=300000000000->Same w w'->Holds w' (SoR b s y m::L)->K (nv m) w'):Cl prog 104 #[pt b,iv 1099511627776] w K:=by
 refine Tz104 ?_;unfold Vz104;refine Za6 (r_vf ?_);obtain⟨ov,cv,av,kv,H0⟩:=Zal H;refine r_nc (r_fo0 (r_ld 0 H0 rfl rfl ?_));clear H0 ov cv av kv
 refine Zjo (λj w'=>∃ (y:SS) (m:Nat),m+j<=300000000000/\Same w w'/\Holds w' (SoR b s y m::L)/\(Fini s y\/(j=mu s.length y/\Inv s y/\y.reach<=2*s.length/\ldS s.length y<=4*(s.length*s.length)+s.length)))
  (if x.done=true then 0 else mu s.length x) ?_ ?_
 ·rcases hx with hx|⟨h1,h2,h3,h4⟩
  ·rw[if_pos hx.1];exact⟨x,0,by omega,.refl _,H,.inl hx⟩
  ·rw[if_neg (by rw[h1.bs.nd];exact Bool.false_ne_true)];exact⟨x,0,by omega,.refl _,H,.inr ⟨rfl,h1,h2,h3⟩⟩
 clear H hx;rintro _ j w1 _ ⟨y,m,hm,S1,H1,hy⟩ hgo;obtain⟨ov,cv,av,kv,H2⟩:=Zal H1
 have hd:y.done=true->Fini s y:=λe=>by
  rcases hy with hy|⟨_,hy,_⟩
  ·exact hy
  ·rw[hy.bs.nd] at e;cases e
 refine Za1 (λt w'=>w1=w'/\t=.bool (!y.done)) ?_ ?_
 ·rintro _ _ _ ⟨rfl,rfl⟩
  cases hdn:y.done with
  |true=>
   refine r_vf ?_;refine r_nc (r_fo0 (r_ld 0 H2 rfl rfl ?_));refine r_sub (by omega) (by omega) ?_;rw[show ((m:Nat):Int) - ((0:Nat):Int)=((m:Nat):Int) by omega];exact k y m _ (hd hdn) (by omega) S1 H1
  |false=>
   refine r_vt ?_;rcases hy with hy|⟨hj,hI,hr,hl⟩
   ·rw[hy.1] at hdn;cases hdn
   refine step_spec H1 hI hlen hr hl (by omega) λw2 S2 H3=>?_;obtain⟨h5,h6⟩:=step_ok hI;refine r_ke ?_;rcases h6 with h6|h6
   ·refine hgo 0 _ ?_ ⟨_,m+1,?_,S1.trans S2,H3,.inl h6⟩
    ·omega
    ·omega
   ·obtain⟨h7,h8⟩:=Zkg hI hl hr h6.bs.nd;refine hgo (mu s.length (stepS (keyS s y) s.length y)) _ (by omega) ⟨_,m+1,by omega,S1.trans S2,H3,.inr ⟨rfl,h6,h8,h7⟩⟩
 ·refine r_nc (r_fo0 (r_ld 0 H2 rfl rfl ?_))
  cases hdn:y.done with
  |true=>exact Zah (r_vf (r_ke ⟨rfl,rfl⟩))
  |false=>
   refine Zbm (r_vt ?_);refine r_nc (r_fo0 (r_ld 0 H2 rfl rfl ?_));refine r_sub (by omega) (by omega) ?_;exact r_lss (r_ke ⟨rfl,by rw[decide_eq_true (by omega)];rfl⟩)
def startD (n:Nat):SS:={ Go.Mr.start n with done:=decide (n < 2) }
theorem Zsc (h0:s≠[]) (hlen:s.length<=4000):Fini s (startD s.length)\/(Inv s (startD s.length)/\(startD s.length).reach<=2*s.length/\ldS s.length (startD s.length)<=4*(s.length*s.length)+s.length/\mu s.length (startD s.length)<=300000000000):=by
 have hpos:=gZ.2 h0;rcases hU_ s.length 2 with h|h
 ·refine .inl ⟨decide_eq_true h,?_⟩;show List.range s.length=_;rw[show s.length=1 by omega];rfl
 ·refine .inr ?_
  have e:startD s.length=Go.Mr.start s.length:=by unfold startD;rw[decide_eq_false (by omega)];rfl
  rw[e];exact⟨Zv5 h,hE _,Nat.le_of_eq Zr4,mu_start hlen⟩
theorem New_spec (H:Holds w L) (h0:s≠[]) (hlen:s.length<=4000) (k:∀ b w',Same w w'->Holds w' (SoR b s (startD s.length) 0::L)->K (.tuple #[pt b,iv 0]) w'):Cl prog 103 #[St_ s] w K:=by
 refine Tz103 ?_;unfold Vz103;have hpos:=gZ.2 h0
 have hsz:(⟨s.toArray⟩:ByteArray).size=s.length:=by simp[ByteArray.size]
 refine r_lns ?_;rw[hsz];refine r_gtr (r_vfD (by omega) ?_)
 refine Za1 (λx w'=>∃ (b b1 b2 b3:Nat),x=pt b/\Same w w'/\Holds w' (blk b tSo [St_ s,.slice (some ⟨b1,0,none⟩) s.length s.length,.slice (some ⟨b2,0,none⟩) s.length s.length,.slice (some ⟨b3,0,none⟩) s.length s.length,nv 0,.slice none 0 0,nv 0,nv 0,nv 0,nv 0,nv 0,nv 0,nv 0,nv 0,nv 0,.bool (decide (s.length < 2))] ::
   SL nv tI (.slice (some ⟨b1,0,none⟩) s.length s.length) (List.replicate s.length 0)::SL nv tI (.slice (some ⟨b2,0,none⟩) s.length s.length) (List.replicate s.length 0)::SL nv tI (.slice (some ⟨b3,0,none⟩) s.length s.length) (List.replicate s.length 0)::L)) ?_ ?_
 ·rintro _ _ w1 ⟨b,b1,b2,b3,rfl,S1,H1⟩;refine r_nc (r_fo0 (r_ld 0 H1 rfl rfl ?_));refine r_lnl ?_
  refine Za7 (λq w'=>∃ u:Nat,q=nv u/\u<=s.length/\Same w w'/\Holds w' (blk b tSo [St_ s,.slice (some ⟨b1,0,none⟩) s.length s.length,.slice (some ⟨b2,0,none⟩) s.length s.length,.slice (some ⟨b3,0,none⟩) s.length s.length,nv 0,.slice none 0 0,nv 0,nv 0,nv 0,nv 0,nv 0,nv 0,nv 0,nv 0,nv 0,.bool (decide (s.length < 2))] ::
   SL nv tI (.slice (some ⟨b1,0,none⟩) s.length s.length) (filled (List.range s.length) 0 s.length u)::SL nv tI (.slice (some ⟨b2,0,none⟩) s.length s.length) (List.replicate s.length 0)::SL nv tI (.slice (some ⟨b3,0,none⟩) s.length s.length) (List.replicate s.length 0)::L)) (λq _=>s.length - (intOf q).toNat)
   ⟨0,rfl,hE _,S1,by rw[Ze6];exact H1⟩ ?_
  clear H1 S1;rintro _ _ w2 ⟨u,rfl,hu,S2,H2⟩;refine r_lss (r_ifD (λh=>?_) λh=>?_)
  ·have hlt:u < s.length:=by omega
   refine r_nc (r_fo0 (r_ld 0 H2 rfl rfl ?_));refine Zam (j:=u) 1 H2 u rfl (by rw[Zb0 (by omega) (by simp)];exact hlt) rfl λw3 S3 H3=>?_;refine Za0 (by omega) (r_ke ⟨⟨u+1,rfl,hlt,S2.trans S3,?_⟩,?_⟩)
   ·have e:=Zb2 (xs:=List.range s.length) (z:=0) (x:=u) hlt (by simp) (by simp[hlt])
    have h3:Holds w3 (blk b tSo [St_ s,.slice (some ⟨b1,0,none⟩) s.length s.length,.slice (some ⟨b2,0,none⟩) s.length s.length,.slice (some ⟨b3,0,none⟩) s.length s.length,nv 0,.slice none 0 0,nv 0,nv 0,nv 0,nv 0,nv 0,nv 0,nv 0,nv 0,nv 0,.bool (decide (s.length < 2))] ::
     SL nv tI (.slice (some ⟨b1,0,none⟩) s.length s.length) ((filled (List.range s.length) 0 s.length u).set u u)::SL nv tI (.slice (some ⟨b2,0,none⟩) s.length s.length) (List.replicate s.length 0)::SL nv tI (.slice (some ⟨b3,0,none⟩) s.length s.length) (List.replicate s.length 0)::L):=H3
    rw[e] at h3;exact h3
   ·simp only[nv,intOf,gC];omega
  ·obtain rfl:u=s.length:=by omega
   rw[Zct (by simp)] at H2;refine r_bd (v:=.agg (Fp ⟨0,0,s.length⟩).toArray) (by kernel_rfl) ?_;refine r_bsK (e:=tPt) (Fp ⟨0,0,s.length⟩) H2 (by kernel_rfl) λnb w3 S3 H3=>?_;refine r_nc (r_fo0 ?_);refine r_st 1 H3 rfl (by simp) rfl λw4 S4 H4=>?_;have H5:=Zt4 (F:=Fp) (k:=3) 0 [⟨0,0,s.length⟩] H4 rfl;refine k b w4 (S2.trans (S3.trans S4)) (Zaj (ov:=.slice (some ⟨b1,0,none⟩) s.length s.length) (cv:=.slice (some ⟨b2,0,none⟩) s.length s.length) (av:=.slice (some ⟨b3,0,none⟩) s.length s.length) (kv:=.slice (some ⟨nb,0,none⟩) 1 1) ?_);have h_:=Holds.ord 5 [1,2,3,4,0] H5 rfl;exact h_
 ·refine r_dr H λw1 S1 H1=>?_;refine r_lss ?_
  have mk:∀ {w2:World} {M:List HProp} {Q:KT},Holds w2 M->(∀ b w',Same w2 w'->Holds w' (SL nv tI (.slice (some ⟨b,0,none⟩) s.length s.length) (List.replicate s.length 0)::M)->Q (.slice (some ⟨b,0,none⟩) s.length s.length) w')->
    Ms prog 67 (nv s.length) (nv s.length) w2 Q:=λH2 hQ=>by
   refine r_ms (f:=nv) (x:=0) H2 rfl (by omega) (by omega) λb w' S' H3=>?_;rw[gC] at H3 ⊢;have H4:=H3.close 0 rfl;simp only[gJ,gP,length_nil,Nat.add_zero] at H4;exact hQ b w' S' H4
  have hdec:decide (((s.length:Nat):Int) < 2)=decide (s.length < 2):=decide_eq_decide.2 (by omega);rw[hdec]
  have fin:∀ {b1 b2 b3:Nat} {w2:World} {Q:KT},Same w w2->Holds w2 (SL nv tI (.slice (some ⟨b1,0,none⟩) s.length s.length) (List.replicate s.length 0)::SL nv tI (.slice (some ⟨b2,0,none⟩) s.length s.length) (List.replicate s.length 0)::SL nv tI (.slice (some ⟨b3,0,none⟩) s.length s.length) (List.replicate s.length 0)::L)->
    (∀ x w',(∃ (b b1 b2 b3:Nat),x=pt b/\Same w w'/\Holds w' (blk b tSo [St_ s,.slice (some ⟨b1,0,none⟩) s.length s.length,.slice (some ⟨b2,0,none⟩) s.length s.length,.slice (some ⟨b3,0,none⟩) s.length s.length,nv 0,.slice none 0 0,nv 0,nv 0,nv 0,nv 0,nv 0,nv 0,nv 0,nv 0,nv 0,.bool (decide (s.length < 2))] ::
     SL nv tI (.slice (some ⟨b1,0,none⟩) s.length s.length) (List.replicate s.length 0)::SL nv tI (.slice (some ⟨b2,0,none⟩) s.length s.length) (List.replicate s.length 0)::SL nv tI (.slice (some ⟨b3,0,none⟩) s.length s.length) (List.replicate s.length 0)::L))->Q x w')->
    Bd prog tSo #[(0,St_ s),(1,.slice (some ⟨b1,0,none⟩) s.length s.length),(2,.slice (some ⟨b2,0,none⟩) s.length s.length),(3,.slice (some ⟨b3,0,none⟩) s.length s.length),(13,.bool (decide (s.length < 2)))] w2 λx=>New x tSo w2 Q:=λ{b1 b2 b3 w2 Q} S2 H2 hQ=>by
   refine r_bd (v:=.agg #[St_ s,.slice (some ⟨b1,0,none⟩) s.length s.length,.slice (some ⟨b2,0,none⟩) s.length s.length,.slice (some ⟨b3,0,none⟩) s.length s.length,nv 0,.slice none 0 0,nv 0,nv 0,nv 0,nv 0,nv 0,nv 0,nv 0,nv 0,nv 0,.bool (decide (s.length < 2))]) (by kernel_rfl) ?_;refine r_new H2 λb w3 S3 H3=>?_;exact hQ _ _ ⟨b,b1,b2,b3,rfl,S2.trans S3,H3⟩
  refine⟨?_,?_,?_⟩
  ·refine mk H1 λb1 w2 S2 H2=>⟨mk H2 λb2 w3 S3 H3=>mk H3 λb3 w4 S4 H4=>fin (S1.trans (S2.trans (S3.trans S4))) (by have h_:=Holds.ord 3 [2,1,0] H4 rfl;exact h_) λx w' hx=>r_ke hx,mk H2 λb2 w3 S3 H3=>mk H3 λb3 w4 S4 H4=>fin (S1.trans (S2.trans (S3.trans S4))) (by have h_:=Holds.ord 3 [2,0,1] H4 rfl;exact h_) λx w' hx=>r_ke hx⟩
  ·refine mk H1 λb1 w2 S2 H2=>⟨mk H2 λb2 w3 S3 H3=>mk H3 λb3 w4 S4 H4=>fin (S1.trans (S2.trans (S3.trans S4))) (by have h_:=Holds.ord 3 [1,2,0] H4 rfl;exact h_) λx w' hx=>r_ke hx,mk H2 λb2 w3 S3 H3=>mk H3 λb3 w4 S4 H4=>fin (S1.trans (S2.trans (S3.trans S4))) (by have h_:=Holds.ord 3 [0,2,1] H4 rfl;exact h_) λx w' hx=>r_ke hx⟩
  ·refine mk H1 λb1 w2 S2 H2=>⟨mk H2 λb2 w3 S3 H3=>mk H3 λb3 w4 S4 H4=>fin (S1.trans (S2.trans (S3.trans S4))) (by have h_:=Holds.ord 3 [1,0,2] H4 rfl;exact h_) λx w' hx=>r_ke hx,mk H2 λb2 w3 S3 H3=>mk H3 λb3 w4 S4 H4=>fin (S1.trans (S2.trans (S3.trans S4))) (by have h_:=Holds.ord 3 [0,1,2] H4 rfl;exact h_) λx w' hx=>r_ke hx⟩
end S16
instance:Row prog 86 5 (.int .u8 0):=⟨by kernel_rfl,⟨t5,by kernel_rfl,by kernel_rfl,by decide,by kernel_rfl⟩,rfl⟩
instance:Bytes prog 86 5 9:=⟨by kernel_rfl,by kernel_rfl,by kernel_rfl⟩
namespace W01
open Go.M01
variable {w:World}{L:List HProp}{K:KT}{b:Nat}
abbrev tB:Nat:=5
abbrev tW:Nat:=130
def WrR (b:Nat) (bs:List Bool) (k:Nat):HProp:=λh=>∃ wv,Sat [blk b tW [wv,.int .u8 (restB bs:Nat),nv bs.length],SL bv tB wv ((wholeB bs).drop k)] h
theorem Zjz {bs:List Bool}{k:Nat}(H:Holds w (WrR b bs k::L)):∃ wv,Holds w (blk b tW [wv,.int .u8 (restB bs:Nat),nv bs.length]::SL bv tB wv ((wholeB bs).drop k)::L):=by
 obtain⟨wv,H⟩:=Holds.ex H;exact⟨wv,Holds.unpack H⟩
theorem Zew {bs:List Bool}{k:Nat}{wv:Value}(H:Holds w (blk b tW [wv,.int .u8 (restB bs:Nat),nv bs.length]::SL bv tB wv ((wholeB bs).drop k)::L)):Holds w (WrR b bs k::L):=
 Holds.imp (Holds.pack (A:=[_,_]) H) λh hh=>⟨wv,hh⟩
theorem Ze2 (H:Holds w L) (post:∀ b w',Same w w'->Holds w' (WrR b [] 0::L)->K (.pointer (some ⟨b,0,none⟩)) w'):Cl prog 49 #[] w K:=by
 refine Tz49 ?_;unfold Vz49;refine r_bd (v:=.agg #[.slice none 0 0,.int .u8 0,nv 0]) (by kernel_rfl) ?_;refine r_new H λb w1 S1 H1=>?_;replace H1:Holds w1 (blk b tW [.slice none 0 0,.int .u8 0,nv 0]::L):=H1;exact post b _ S1 (Zew ((H1.nilSL bv tB).swap))
theorem bit_spec {bs:List Bool}{k:Nat}{c:Bool}(H:Holds w (WrR b bs k::L)) (hn:bs.length<=1000000000000) (hk:k<=bs.length/8)
  (post:∀ w',Same w w'->Holds w' (WrR b (bs++[c]) k::L)->K (.tuple #[]) w'):Cl prog 55 #[.pointer (some ⟨b,0,none⟩),.int .u8 (c.toNat:Int)] w K:=by
 refine Tz55 ?_;unfold Vz55;obtain⟨wv,H⟩:=Zjz H;have S:=Same.refl w;have hc:=Bool.toNat_le c;have hr:=Zw4 bs
 have hR:((bs.length:Int)).tmod 8=((bs.length%8:Nat):Int):=by
  rw[Int.tmod_eq_emod_of_nonneg (by omega)];simp
 have hm:bs.length%8 < 8:=Nat.mod_lt _ (by decide);have hsh:c.toNat*2^(7 - bs.length%8)%256 < 256:=Nat.mod_lt _ (by decide)
 have hls:(bs++[c]).length=bs.length+1:=by simp
 repeat (first|refine Zgv hR (by omega) ?_|refine r_nc ?_|refine r_fo0 ?_|(refine r_sub (by omega) (by omega) ?_)|(refine r_dr H ?_;clear H;intro _ S_ H;replace S:=S.trans S_;clear S_)|refine r_ld 0 H rfl rfl ?_)
 rw[show (7:Int) - ((bs.length%8:Nat):Int)=((7 - bs.length%8:Nat):Int) by omega];refine Zym (by omega) ?_;refine Zze hr hsh ?_
 repeat (first|refine r_nc ?_|refine r_fo0 ?_)
 refine r_st 0 H rfl (by simp) rfl λw2 S2 H2=>?_;replace H2:Holds w2 (blk b tW [wv,.int .u8 ((restB bs ||| (c.toNat*2^(7 - bs.length%8)%256):Nat):Int),nv bs.length]::SL bv tB wv ((wholeB bs).drop k)::L):=H2;replace S:=S.trans S2;clear H S2;have H:=H2;clear H2
 repeat (first|refine r_nc ?_|refine r_fo0 ?_|(refine Za0 (by omega) ?_)|refine r_ld 0 H rfl rfl ?_)
 refine r_st 0 H rfl (by simp) rfl λw2 S2 H2=>?_;replace H2:Holds w2 (blk b tW [wv,.int .u8 ((restB bs ||| (c.toNat*2^(7 - bs.length%8)%256):Nat):Int),nv (bs.length+1)]::SL bv tB wv ((wholeB bs).drop k)::L):=H2;replace S:=S.trans S2;clear H S2;have H:=H2;clear H2
 repeat (refine r_eql ?_)
 refine r_ifE (λh=>?_) λh=>?_
 ·obtain⟨p1,p2⟩:=Zvx bs c (by omega);have hx:restB bs ||| (c.toNat*2^(7 - bs.length%8)%256) < 2^8:=Nat.or_lt_two_pow (by simpa using hr) (by simpa using hsh);generalize restB bs ||| (c.toNat*2^(7 - bs.length%8)%256)=x at *
  have e:(Value.int .u8 (x:Int))=bv (UInt8.ofNat x):=by
   unfold bv;rw[UInt8.toNat_ofNat_of_lt' hx]
  rw[e] at H;obtain⟨oa,sp,rfl,H⟩:=H.open 1 rfl;rw[gW,gJ] at H
  repeat (first|refine r_nc ?_|refine r_fo0 ?_|(refine r_dr H ?_;clear H;intro _ S_ H;replace S:=S.trans S_;clear S_)|refine r_ld 0 H rfl rfl ?_)
  refine r_bs1 H rfl λb3 w3 S3 H3=>?_;replace S:=S.trans S3;refine r_rk (r_ld 1 H3 rfl rfl rfl) ?_;have hwl:=Zcv bs;refine r_ap (f:=bv) (ys:=[UInt8.ofNat x]) H3 2 0 rfl rfl rfl rfl rfl rfl (λ_=>rfl) (by rw[gS,gQ];omega) (by simp) λoa' sp' w4 S4 H4=>?_;replace S:=S.trans S4
  have hout:(wholeB bs).drop k++[UInt8.ofNat x]=(wholeB (bs++[c])).drop k:=by
   rw[p1,List.drop_append_of_le_length (by omega)]
  rw[hout,gW,gW,gJ] at H4
  have hlen:((wholeB bs).drop k).length+[UInt8.ofNat x].length=((wholeB (bs++[c])).drop k).length:=by
   rw[<-hout,gD]
  rw[hlen];clear H H3;have H:=H4.drop;clear H4
  repeat (first|refine r_nc ?_|refine r_fo0 ?_)
  refine r_st 0 H rfl (by simp) rfl λw5 S5 H5=>?_;replace S:=S.trans S5;clear H;have H:=H5;clear H5;rw[gJ,gJ] at H
  repeat (first|refine r_nc ?_|refine r_fo0 ?_)
  refine r_st 0 H rfl (by simp) rfl λw6 S6 H6=>?_;rw[gJ,gW,gJ] at H6;have H7:=H6.close 1 rfl;rw[gW,gJ] at H7;refine post _ (S.trans S6) (Zew (wv:=.slice oa' ((wholeB (bs++[c])).drop k).length (((wholeB (bs++[c])).drop k).length+sp'.length)) ?_);rw[p2,hls];exact H7
 ·obtain⟨p1,p2,p3⟩:=Zyp bs c (by omega);rw[<-p2] at H;refine post _ S (Zew (wv:=wv) ?_);rw[p1,hls];exact H
theorem Put_spec {bs:List Bool}{k v n:Nat}(H:Holds w (WrR b bs k::L)) (hl:bs.length<=100000000000) (hk:k<=bs.length/8) (hn:n<=32) (hv:v < 2^n)
  (post:∀ w',Same w w'->Holds w' (WrR b (bs++bitsOf v n) k::L)->K (iv 0) w'):Cl prog 50 #[.pointer (some ⟨b,0,none⟩),uv v,nv n] w K:=by
 refine Tz50 ?_;unfold Vz50;have hp:(2:Nat)^n<=2^32:=Nat.pow_le_pow_right (by omega) hn
 repeat (first|(with_reducible first|refine Za6 ?_|refine r_vf ?_))
 refine r_cl (K:=λx w'=>w=w'/\x=.bool true) ?_ ?_
 ·refine Tz54 ?_;unfold Vz54
  repeat (first|refine Zkb (by omega) (by omega) ?_|refine Ze1 (show n<=IntKind.u64.bits by show n<=64;omega) ?_|refine r_eql ?_|refine r_leq ?_|refine r_geq ?_|((with_reducible refine r_vtD ?h ?_);(case h=>omega)))
  exact⟨rfl,by rw[Nat.div_eq_of_lt hv];rfl⟩
 rintro _ _ ⟨rfl,rfl⟩
 repeat (first|(with_reducible first|refine Zah ?_|refine r_vf ?_))
 refine Za7 (λx w'=>∃ i:Nat,i<=n/\x=nv i/\Same w w'/\Holds w' (WrR b (bs++(bitsOf v n).take i) k::L)) (λx _=>n - (intOf x).toNat) ⟨0,by omega,rfl,.refl w,by rw[take_zero,gU];exact H⟩ ?_;clear H;rintro _ _ w2 ⟨i,hi,rfl,S,H⟩
 repeat (refine r_lss ?_)
 refine r_ifD (λh=>?_) λh=>?_
 ·have hlt:i < n:=by omega
  repeat (first|(refine Zab (by omega) (by omega) ?_)|(refine r_sub (by omega) (by omega) ?_))
  rw[show ((n - 1:Nat):Int) - (i:Int)=((n - 1 - i:Nat):Int) by omega];refine Ze1 (show n - 1 - i<=IntKind.u32.bits by show n - 1 - i<=32;omega) ?_;have hd:v/2^(n - 1 - i)<=v:=Nat.div_le_self _ _;refine Zk2 (t:=1) (by omega) (by omega) ?_;rw[Zoe];have hb:=Bool.toNat_le (v.testBit (n - 1 - i))
  repeat (refine Zh7 (by omega) (by omega) ?_)
  have hlen:(bs++(bitsOf v n).take i).length<=bs.length+32:=by
   rw[gD,gN,Za5];omega
  have hlen2:bs.length<=(bs++(bitsOf v n).take i).length:=by rw[gD];omega
  refine bit_spec H (by omega) (by omega) λw3 S3 H3=>?_;rw[gI,<-Zj7 v n i hlt] at H3
  repeat (first|refine r_ke ?_|(refine Za0 (by omega) ?_))
  refine⟨⟨i+1,by omega,rfl,S.trans S3,H3⟩,?_⟩;simp[nv,intOf];omega
 ·obtain rfl:i=n:=by omega
  rw[gK (by rw[Za5];omega)] at H;exact post _ S H
theorem Take_spec {bs:List Bool}{k:Nat}(H:Holds w (WrR b bs k::L)) (post:∀ w',Same w w'->Holds w' (WrR b bs (bs.length/8)::L)->K (.string ⟨((wholeB bs).drop k).toArray⟩) w') :
  Cl prog 51 #[.pointer (some ⟨b,0,none⟩)] w K:=by
 refine Tz51 ?_;unfold Vz51;obtain⟨wv,H⟩:=Zjz H;have S:=Same.refl w;obtain⟨oa,sp,rfl,H⟩:=H.open 1 rfl;rw[gW,gJ] at H
 repeat (first|refine r_cbs H 1 rfl rfl ?_|refine r_nc ?_|refine r_fo0 ?_|(with_reducible first|refine Za6 ?_|refine r_vf ?_)|refine r_ld 0 H rfl rfl ?_)
 refine r_st 0 H rfl (by simp) rfl λw2 S2 H2=>?_;rw[gJ,gJ] at H2;refine post w2 S2 (Zew (wv:=.slice none 0 0) ?_);rw[List.drop_of_length_le (Nat.le_of_eq (Zcv bs))];exact ((H2.dropAt 1).nilSL bv tB).swap
end W01
namespace C10
open Go.M01 Go.M10
variable {w:World}{L:List HProp}{K:KT}{b wb n:Nat}{lens:List Nat}{bs:List Bool}
theorem Znh (hs:Sized lens){i:Nat}(hi:i < lens.length):(codesAt lens 21 0)[i]?=some (codeN lens i):=by
 have h1:=Zbw hs hi;rw[codesAt,hV_,getElem?_range hi];show some (if _ then _ else _)=_;rw[if_pos (.inl (by omega))]
theorem Of_spec {i:Nat}(H:Holds w (CodeR b lens::L)) (hi:i < lens.length) (k:∀ w',Same w w'->Holds w' (CodeR b lens::L)->K (.tuple #[uv (codeN lens i),nv (lens.getD i 0),iv 0]) w'):Cl prog 171 #[pt b,nv i] w K:=by
 refine Tz171 ?_;unfold Vz171;obtain⟨hw,lv,cv,ov,H1⟩:=Zdq H;refine Za6 (r_vf ?_);refine Za1 (λx w'=>w=w'/\x=.bool false) ?_ ?_
 rotate_left
 ·refine r_lss (r_vfD (by omega) ?_);refine r_nc (r_fo0 (r_ld 0 H1 rfl rfl ?_));refine r_lnS 3 H1 rfl ?_;exact r_geq (r_ke ⟨rfl,by rw[decide_eq_false (by omega)]⟩)
 rintro _ _ _ ⟨rfl,rfl⟩;refine r_vf ?_;refine r_dr H1 λw2 S2 H2=>?_;refine r_nc (r_fo0 (r_ld 0 H2 rfl rfl ?_));refine Za8 2 H2 rfl (Znh hw.1.sized hi) ?_;refine r_nc (r_fo0 (r_ld 0 H2 rfl rfl ?_));refine Za8 3 H2 rfl (x:=lens.getD i 0) (by rw[gB,gA hi];rfl) ?_;exact k _ S2 (Zd2 hw H2)
theorem Put_spec {i:Nat}(H:Holds w (CodeR b lens::W01.WrR wb bs n::L)) (hi:i < lens.length) (hl:bs.length<=100000000000) (hn:n<=bs.length/8)
  (k:∀ w',Same w w'->Holds w' (CodeR b lens::W01.WrR wb (bs++codeB lens i) n::L)->K (iv 0) w'):Cl prog 154 #[pt b,pt wb,nv i] w K:=by
 refine Tz154 ?_;unfold Vz154;have hw:=(Zdq H).1.1;have h1:=Zbw hw.sized hi;refine Za6 (r_vf ?_);refine Of_spec H hi λw2 S2 H2=>?_;refine Zle (Zph (Zpe ?_));refine r_neq (r_vfN rfl ?_);have hc:=Zp4 hi h1.1;have hx:=nx_le hw (lens.getD i 0) h1.2;refine W01.Put_spec H2.swap hl hn (by omega) (by omega) λw3 S3 H3=>?_;exact k _ (S2.trans S3) H3.swap
end C10
namespace D11
open Go.M01 Go.M10 Go.Mv
variable {w:World}{L:List HProp}{K:KT}{b wb n:Nat}{lens:List Nat}{bs:List Bool}
abbrev tWp:Nat:=106
def fnW (ab:Nat):Value:=.func (.func 169) #[] #[pt ab]
theorem put_spec {ab v m:Nat}(H:Holds w (W01.WrR wb bs n::blk ab tWp [pt wb]::L)) (hl:bs.length<=100000000000) (hn:n<=bs.length/8) (hm:m<=32) (hv:v < 2^m)
  (k:∀ w',Same w w'->Holds w' (W01.WrR wb (bs++bitsOf v m) n::blk ab tWp [pt wb]::L)->K (.tuple #[]) w'):Inv prog (do let d <-Deferred.ofValue (fnW ab) #[nv v,nv m];invoke d.target d.args) w K:=by
 refine r_inv (f:=169) (args:=#[nv v,nv m,pt ab]) (by kernel_rfl) ?_;refine Tz169 ?_;unfold Vz169;have hp:(2:Nat)^m<=2^32:=Nat.pow_le_pow_right (by omega) hm;refine r_ld 1 H rfl rfl ?_;refine Zb4 (by omega) (by omega) ?_;refine W01.Put_spec H hl hn hm hv λw2 S2 H2=>?_;exact k _ S2 H2
theorem Zpi (j:Nat) (x:List Bool):(List.replicate (j+1) x).flatten=(List.replicate j x).flatten++x:=by
 rw[List.replicate_succ',List.flatten_append];simp
theorem Zq0 {ab:Nat}{v:Value}(H:Holds w (W01.WrR wb bs n::blk ab tWp [pt wb]::SL nv tI v lens::L)) (hne:lens≠[]) (hll:lens.length<=258) (hs:Sized lens) (hl:bs.length<=10000000000) (hn:n<=bs.length/8)
  (k:∀ w',Same w w'->Holds w' (W01.WrR wb (bs++lensB lens) n::blk ab tWp [pt wb]::SL nv tI v lens::L)->K (.tuple #[]) w'):Cl prog 164 #[v,fnW ab] w K:=by
 refine Tz164 ?_;unfold Vz164;have h0:0 < lens.length:=gZ.2 hne;have hsz:∀ i,i < lens.length->1<=lens.getD i 0/\lens.getD i 0<=20:=λi hi=>C10.Zbw hs hi
 have hget:∀ i,i < lens.length->lens[i]?=some (lens.getD i 0):=λi hi=>by rw[gB,gA hi];rfl
 have hf0:=hsz 0 h0;refine Za8 2 H (j:=0) rfl (hget 0 h0) ?_;refine put_spec (m:=5) H (by omega) hn (by omega) (by omega) λw1 S1 H1=>?_;refine r_lnS 2 H1 rfl ?_;generalize ha:lens.getD 0 0=a at *
 have hlast:∀ i,i<=lens.length->lastB a (lens.take i)<=20/\1<=lastB a (lens.take i):=by
  intro i hi
  cases i with
  |zero=>exact⟨by unfold lastB;simp;omega,by unfold lastB;simp;omega⟩
  |succ i=>
   have hg:lens.take (i+1)=lens.take i++[lens.getD i 0]:=by rw[gO,hget i (by omega)];rfl
   rw[hg,lastB_snoc];have:=hsz i (by omega);omega
 have hsl:∀ i,i<=lens.length->(stepsB a (lens.take i)).length<=41*i:=by
  intro i
  induction i with
  |zero=>intro _;simp[stepsB]
  |succ i ih=>
   intro hi
   have hg:lens.take (i+1)=lens.take i++[lens.getD i 0]:=by rw[gO,hget i (by omega)];rfl
   have h1:=Zl7 (lastB a (lens.take i)) (lens.getD i 0) (hlast i (by omega)).1 (hsz i (by omega)).2;have h2:=ih (by omega);rw[hg,Zcz];simp only[gD,gQ];omega
 have hb5:(bitsOf a 5).length=5:=Za5 _ _
 refine Zaa (λnw x w'=>∃ i:Nat,i<=lens.length/\x=nv i/\nw=nv (lastB a (lens.take i))/\Same w w'/\Holds w' (W01.WrR wb (bs++bitsOf a 5++stepsB a (lens.take i)) n::blk ab tWp [pt wb]::SL nv tI v lens::L)) (λ_ x _=>lens.length - (intOf x).toNat)
  ⟨0,by omega,rfl,rfl,S1,by rw[take_zero,stepsB,gU];exact H1⟩ ?_
 clear H H1 S1;rintro _ _ _ w2 ⟨i,hi,rfl,rfl,S,H⟩;have hsi:=hsl i hi;refine r_lss (r_ifD (λh=>?_) λh=>?_)
 rotate_left
 ·obtain rfl:i=lens.length:=by omega
  rw[hF_] at H;refine k _ S ?_;unfold lensB;rw[ha,<-gI];exact H
 have hlt:i < lens.length:=by omega
 have hl2:=hlast i hi;have hxi:=hsz i hlt
 have hg:lens.take (i+1)=lens.take i++[lens.getD i 0]:=by rw[gO,hget i hlt];rfl
 refine Za8 2 H rfl (hget i hlt) ?_;generalize hx:lens.getD i 0=x at *;generalize hp:lastB a (lens.take i)=p at *;generalize hS0:bs++bitsOf a 5++stepsB a (lens.take i)=B0 at *
 have hB0:B0.length<=10000000000+5+41*258:=by rw[<-hS0,gD,gD];omega
 have hB1:bs.length<=B0.length:=by rw[<-hS0,gD,gD];omega
 refine Za7 (λy w'=>∃ j:Nat,y=nv (p+j)/\j<=x - p/\Same w w'/\Holds w' (W01.WrR wb (B0++(List.replicate j [true,false]).flatten) n::blk ab tWp [pt wb]::SL nv tI v lens::L)) (λy _=>100 - (intOf y).toNat)
  ⟨0,rfl,hE _,S,by rw[replicate_zero,List.flatten_nil,gU];exact H⟩ ?_
 clear H S;rintro _ _ w3 ⟨j,rfl,hj,S,H⟩
 have hjl:(List.replicate j [true,false]).flatten.length=2*j:=by simp;omega
 have hjb:(B0++(List.replicate j [true,false]).flatten).length=B0.length+2*j:=by rw[gD,hjl]
 refine r_lss (r_ifD (λh2=>?_) λh2=>?_)
 ·refine put_spec (v:=2) (m:=2) H (by omega) (by omega) (by omega) (by decide) λw4 S4 H4=>?_;rw[show bitsOf 2 2=[true,false] by decide,gI,<-Zpi] at H4;refine Za0 (by omega) ?_;refine r_ke ⟨⟨j+1,rfl,by omega,S.trans S4,H4⟩,?_⟩;simp only[nv,intOf,gC];omega
 obtain rfl:j=x - p:=by omega
 generalize hS1:B0++(List.replicate (x - p) [true,false]).flatten=B2 at *
 refine Za7 (λy w'=>∃ j:Nat,y=nv (max p x - j)/\j<=p - x/\Same w w'/\Holds w' (W01.WrR wb (B2++(List.replicate j [true,true]).flatten) n::blk ab tWp [pt wb]::SL nv tI v lens::L)) (λy _=>(intOf y).toNat)
  ⟨0,by rw[show max p x - 0=p+(x - p) by omega],hE _,S,by rw[replicate_zero,List.flatten_nil,gU];exact H⟩ ?_
 clear H S;rintro _ _ w4 ⟨j,rfl,hj2,S,H⟩
 have hjl2:(List.replicate j [true,true]).flatten.length=2*j:=by simp;omega
 have hjb2:(B2++(List.replicate j [true,true]).flatten).length=B2.length+2*j:=by rw[gD,hjl2]
 refine r_gtr (r_ifD (λh3=>?_) λh3=>?_)
 ·refine put_spec (v:=3) (m:=2) H (by omega) (by omega) (by omega) (by decide) λw5 S5 H5=>?_;rw[show bitsOf 3 2=[true,true] by decide,gI,<-Zpi] at H5;refine Zab (by omega) (by omega) ?_;refine r_ke ⟨⟨j+1,by rw[show max p x - j - 1=max p x - (j+1) by omega],by omega,S.trans S5,H5⟩,?_⟩;simp only[nv,intOf,gC];omega
 ·obtain rfl:j=p - x:=by omega
  refine put_spec (v:=0) (m:=1) H (by omega) (by omega) (by omega) (by decide) λw5 S5 H5=>?_;refine Za0 (by omega) ?_;refine r_ke ⟨⟨i+1,by omega,rfl,by rw[hg,lastB_snoc,show max p x - (p - x)=x by omega],S.trans S5,?_⟩,?_⟩
  ·rw[hg,Zcz,hp,<-gI,<-gI,hS0];unfold moves;rw[<-gI,hS1];exact H5
  ·simp only[nv,intOf,gC];omega
theorem Zdc {v:Value}{l:List Nat}{f:Value}(H:Holds w L) (j:Nat) (hj:L[j]?=some (SL nv tI v l)) (hl:l.length<=1000000)
  (hf:∀ x∈l,∀ {Q:KT},Q (.bool false) w->Inv prog (do let d <-Deferred.ofValue f #[nv x];invoke d.target d.args) w Q) (k:K (.bool false) w):Cl prog 184 #[v,f] w K:=by
 refine Tz184 ?_;unfold Vz184;refine r_cl (K:=λx w'=>w=w'/\x=iv (-1)) ?_ ?_
 ·refine Tz205 ?_;unfold Vz205;refine r_lnS j H hj ?_;refine Za7 (λx w'=>∃ i:Nat,i<=l.length/\x=nv i/\w=w') (λx _=>l.length - (intOf x).toNat) ⟨0,hE _,rfl,rfl⟩ ?_;rintro _ _ _ ⟨i,hi,rfl,rfl⟩;refine r_lss (r_ifD (λh=>?_) λh=>?_)
  ·have hlt:i < l.length:=by omega
   refine Za8 j H hj (gA hlt) ?_;refine hf _ (getElem_mem hlt) ?_;refine r_vf ?_;refine Za0 (by omega) ?_;refine r_ke ⟨⟨i+1,by omega,rfl,rfl⟩,?_⟩;simp only[nv,intOf,gC];omega
  ·exact⟨rfl,rfl⟩
 rintro _ _ ⟨rfl,rfl⟩;exact r_geq k
theorem may_spec (H:Holds w L) (j:Nat){v:Value}(hj:L[j]?=some (SL nv tI v lens)) (h3:3<=lens.length) (h258:lens.length<=258) (hs:Sized lens) (k:K (.bool true) w):Cl prog 163 #[v] w K:=by
 refine Tz163 ?_;unfold Vz163;refine r_lnS j H hj ?_;refine r_cl (K:=λx w'=>w=w'/\x=.bool true) ?_ ?_
 ·refine Tz188 ?_;unfold Vz188;refine r_geq (r_vtD (by omega) ?_);exact r_leq ⟨rfl,by rw[decide_eq_true (by omega)]⟩
 rintro _ _ ⟨rfl,rfl⟩;refine r_vt ?_;refine Zdc H j hj (by omega) (λx hx Q hQ=>?_) ?_
 ·have:=hs x hx;refine r_inv (f:=189) (args:=#[nv x]) (by kernel_rfl) ?_;refine Tz189 ?_;unfold Vz189;refine r_cl (K:=λx w'=>w=w'/\x=.bool true) ?_ ?_
  ·refine Tz190 ?_;unfold Vz190;refine r_geq (r_vtD (by omega) ?_);exact r_leq ⟨rfl,by rw[decide_eq_true (by omega)]⟩
  rintro _ _ ⟨rfl,rfl⟩;exact Zah hQ
 ·exact Zbm k
theorem Write_spec {v:Value}(H:Holds w (W01.WrR wb bs n::SL nv tI v lens::L)) (h3:3<=lens.length) (h258:lens.length<=258) (hs:Sized lens) (hl:bs.length<=10000000000) (hn:n<=bs.length/8)
  (k:∀ w',Same w w'->Holds w' (W01.WrR wb (bs++lensB lens) n::SL nv tI v lens::L)->K (iv 0) w'):Cl prog 152 #[pt wb,v] w K:=by
 refine Tz152 ?_;unfold Vz152;refine r_new H λab w1 S1 H1=>?_;replace H1:Holds w1 (blk ab tWp [pt wb]::W01.WrR wb bs n::SL nv tI v lens::L):=H1;refine r_ld 0 H1 rfl rfl ?_;refine Za6 (r_vf ?_);refine may_spec H1 2 rfl h3 h258 hs ?_;refine Zah (r_vf ?_);refine r_mf (fnW ab) (by kernel_rfl) ?_;refine Zq0 H1.swap (λe=>by rw[e] at h3;simp at h3) h258 hs hl hn λw2 S2 H2=>?_;exact k _ (S1.trans S2) (Holds.dropAt H2 1)
end D11
namespace P13
open Go.M01 Go.Mb Go.Mp Go.Mv
variable {w:World}{L:List HProp}{K:KT}{b wb n:Nat}{bs:List Bool}
abbrev tOr:Nat:=261
theorem Zgs {o:List Nat}{j:Nat}(h6:o.length=6) (hj:j < 6):(o.map nv)[j]?=some (nv (o.getD j 0)):=by
 rw[hV_,gB,gA (by omega)];rfl
theorem Znx {i:Nat}{o:List Nat}(ho:o.length=6) (H:Holds w (blk b tOr (o.map nv)::L)) (hi:i < 6)
  (k:∀ w',Same w w'->Holds w' (blk b tOr ((front o i).map nv)::L)->K (nv (o.getD i 0)) w'):Cl prog 206 #[pt b,nv i] w K:=by
 refine Tz206 ?_;unfold Vz206;refine r_nc (Zak (by omega) (r_ld 0 H rfl (by rw[Nat.zero_add];exact Zgs ho hi) ?_))
 have hlen:∀ j,j<=i->(o.take (j+1)++((o.drop j).take (i - j)++o.drop (i+1))).length=6:=λj hj=>by
  simp;omega
 refine Za7 (λx w'=>∃ j:Nat,j<=i/\x=nv j/\Same w w'/\Holds w' (blk b tOr ((o.take (j+1)++((o.drop j).take (i - j)++o.drop (i+1))).map nv)::L)) (λx _=>(intOf x).toNat) ⟨i,Nat.le_refl _,rfl,.refl w,?_⟩ ?_
 ·rw[Nat.sub_self,take_zero,hO_,hN_];exact H
 clear H;rintro _ _ w1 ⟨j,hj,rfl,S,H⟩;have h6:=hlen j hj;refine r_gtr (r_ifD (λh=>?_) λh=>?_)
 ·refine r_dr H λw2 S2 H2=>?_;refine Zab (by omega) (by omega) ?_;refine r_nc (Zak (by omega) (r_ld 0 H2 rfl (by rw[Nat.zero_add];exact Zgs h6 (by omega)) ?_));refine r_nc (Zak (by omega) ?_);refine r_st 0 H2 rfl (by rw[hS_];omega) rfl λw3 S3 H3=>?_;rw[gJ,Nat.zero_add,<-List.map_set] at H3
  have e:(o.take (j+1)++((o.drop j).take (i - j)++o.drop (i+1))).set j ((o.take (j+1)++((o.drop j).take (i - j)++o.drop (i+1))).getD (j - 1) 0)=o.take (j - 1+1)++((o.drop (j - 1)).take (i - (j - 1))++o.drop (i+1)):=by
   have hx:(o.take (j+1)++((o.drop j).take (i - j)++o.drop (i+1))).getD (j - 1) 0=o.getD (j - 1) 0:=by
    rw[gB,gB,gM (by simp;omega),hI_ (by omega)]
   rw[hx];obtain⟨m,rfl⟩:∃ m,j=m+1:=⟨j - 1,by omega⟩;rw[Nat.add_sub_cancel]
   have h1:o.drop m=o.getD m 0::o.drop (m+1):=by
    rw[gB,gA (by omega)];exact (List.getElem_cons_drop (by omega)).symm
   have h2:o.take (m+1+1)=o.take (m+1)++[o.getD (m+1) 0]:=by
    refine Zan ?_;rw[gB,gA (by omega)];rfl
   rw[h1,show i - m=(i - (m+1))+1 by omega,List.take_succ_cons,h2,gI,set_append_right _ _ (by simp;omega)]
   have h3:(o.take (m+1)).length=m+1:=by simp;omega
   rw[h3,Nat.sub_self];rfl
  rw[e] at H3;refine Zab (by omega) (by omega) ?_;refine r_ke ⟨⟨j - 1,by omega,rfl,(S.trans S2).trans S3,H3⟩,?_⟩;simp only[nv,intOf,gC];omega
 ·obtain rfl:j=0:=by omega
  refine r_nc (Zak (m:=0) (by omega) ?_);refine r_st 0 H rfl (by rw[hS_];omega) rfl λw2 S2 H2=>?_;rw[gJ,Nat.zero_add,<-List.map_set] at H2
  have e:(o.take (0+1)++((o.drop 0).take (i - 0)++o.drop (i+1))).set 0 (o.getD i 0)=front o i:=by
   unfold front
   cases o with
   |nil=>simp at ho
   |cons x o=>rfl
  rw[e] at H2;exact k _ (S.trans S2) H2
theorem Zud {t:Nat}{o:List Nat}(ho:o.length=6) (H:Holds w (blk b tOr (o.map nv)::L)) (ht:t∈o)
  (k:∀ w',Same w w'->Holds w' (blk b tOr ((front o (o.idxOf t)).map nv)::L)->K (nv (o.idxOf t)) w'):Cl prog 187 #[pt b,nv t] w K:=by
 refine Tz187 ?_;unfold Vz187;have hlt:=Zo4 ht;refine Za7 (λx w'=>∃ i:Nat,i<=o.idxOf t/\x=nv i/\w=w') (λx _=>6 - (intOf x).toNat) ⟨0,hE _,rfl,rfl⟩ ?_;rintro _ _ _ ⟨i,hi,rfl,rfl⟩;refine r_nc (Zak (by omega) (r_ld 0 H rfl (by rw[Nat.zero_add];exact Zgs ho (by omega)) ?_));refine r_neq (r_ifN (λh=>?_) λh=>?_)
 ·have hne:i≠o.idxOf t:=by
   rintro rfl;rw[Zyi ht] at h;exact h rfl
  refine Za0 (by omega) ?_;refine r_ke ⟨⟨i+1,by omega,rfl,rfl⟩,?_⟩;simp only[nv,intOf,gC];omega
 ·have hx:o[i]=t:=by
   have:o.getD i 0=t:=by omega
   rw[gB,gA (by omega)] at this;exact this
  have hie:i=o.idxOf t:=by
   rcases hU_ i (o.idxOf t) with h1|h1
   ·exact absurd hx (by simpa using List.not_of_lt_findIdx (p:=(·==t)) h1)
   ·omega
  subst hie;exact Znx ho H (by omega) k
theorem Zwg (A:List Nat) (m x:Nat):(A++List.replicate (m+1) 0).set A.length x=A++[x]++List.replicate m 0:=by
 rw[set_append_right _ _ (Nat.le_refl _),Nat.sub_self,List.replicate_succ,gJ];simp
abbrev ord0:List Nat:=[0,1,2,3,4,5]
theorem Zgn {v:Value}{l:List Nat}(H:Holds w (SL nv tI v l::L)) (hl:l.length<=1000000) (hp:∀ p∈l,p < 6)
  (k:∀ v' w',Same w w'->Holds w' (SL nv tI v' (pickE ord0 l).2::SL nv tI v l::L)->K v' w'):Cl prog 162 #[v] w K:=by
 refine Tz162 ?_;unfold Vz162
 have hmem:∀ p∈l,p∈ord0:=λp h=>by
  have:=hp p h
  rcases (show p=0\/p=1\/p=2\/p=3\/p=4\/p=5 by omega) with h|h|h|h|h|h <;> rw[h] <;> simp
 refine Ziv H λw1 S1 H1=>?_
 have hz:(zeroP prog tOr).cells.toList=[nv 0,nv 0,nv 0,nv 0,nv 0,nv 0]:=by kernel_rfl
 refine r_new H1 λob w2 S2 H2=>?_;rw[hz] at H2;refine r_stA 0 H2 (vs:=[nv 0,nv 1,nv 2,nv 3,nv 4,nv 5]) rfl (Nat.le_refl 6) rfl rfl λw3 S3 H3=>?_;replace H3:Holds w3 (blk ob tOr (ord0.map nv)::SL nv tI v l::L):=H3;refine r_lnS 1 H3 rfl ?_;refine r_ms (f:=nv) (x:=0) H3 rfl (by omega) (by omega) λq w4 S4 H4=>?_;rw[gC] at H4 ⊢;have H5:=H4.close 0 rfl;simp only[gJ,gP,length_nil,Nat.add_zero] at H5;generalize hv:Value.slice (some ⟨q,0,none⟩) l.length l.length=v2 at H5 ⊢;refine r_lnS 2 H5 rfl ?_
 have hinv:∀ i,i<=l.length->(∀ x,x∈(pickE ord0 (l.take i)).1↔x∈ord0)/\(pickE ord0 (l.take i)).1.length=6/\(pickE ord0 (l.take i)).2.length=i:=λi hi=>by
  have:=Zey (o:=ord0) (l:=l.take i) λc hc=>hmem c (List.mem_of_mem_take hc);exact⟨this.1,this.2.1,by rw[this.2.2.1,gN];omega⟩
 refine Za7 (λx w'=>∃ i:Nat,i<=l.length/\x=nv i/\Same w w'/\Holds w' (blk ob tOr ((pickE ord0 (l.take i)).1.map nv)::SL nv tI v2 ((pickE ord0 (l.take i)).2++List.replicate (l.length - i) 0)::SL nv tI v l::L)) (λx _=>l.length - (intOf x).toNat)
  ⟨0,hE _,rfl,((S1.trans S2).trans S3).trans S4,by rw[take_zero,Nat.sub_zero];exact H5.swap⟩ ?_
 clear H H1 H2 H3 H4 H5 S1 S2 S3 S4;rintro _ _ w5 ⟨i,hi,rfl,S,H⟩;obtain⟨hm,h6,hln⟩:=hinv i hi;refine r_lss (r_ifD (λh=>?_) λh=>?_)
 ·have hlt:i < l.length:=by omega
  have hg:l.take (i+1)=l.take i++[l[i]]:=by rw[gO,gA hlt];rfl
  refine Za8 2 H rfl (gA hlt) ?_;have hc:l[i]∈(pickE ord0 (l.take i)).1:=(hm _).2 (hmem _ (getElem_mem _));refine Zud h6 H hc λw6 S6 H6=>?_;refine Zam 1 H6 (j:=i) ((pickE ord0 (l.take i)).1.idxOf l[i]) rfl (by rw[gD,hln,gP];omega) rfl λw7 S7 H7=>?_;refine Za0 (by omega) ?_
  have e1:((pickE ord0 (l.take i)).2++List.replicate (l.length - i) 0).set i ((pickE ord0 (l.take i)).1.idxOf l[i])=(pickE ord0 (l.take (i+1))).2++List.replicate (l.length - (i+1)) 0:=by
   rw[hg,Zf9];have:=Zwg (pickE ord0 (l.take i)).2 (l.length - (i+1)) ((pickE ord0 (l.take i)).1.idxOf l[i]);rw[hln,show l.length - (i+1)+1=l.length - i by omega] at this;exact this
  have e2:front (pickE ord0 (l.take i)).1 ((pickE ord0 (l.take i)).1.idxOf l[i])=(pickE ord0 (l.take (i+1))).1:=by rw[hg,Zf9];rfl
  replace H7:Holds w7 (blk ob tOr ((front (pickE ord0 (l.take i)).1 ((pickE ord0 (l.take i)).1.idxOf l[i])).map nv)::SL nv tI v2 (((pickE ord0 (l.take i)).2++List.replicate (l.length - i) 0).set i ((pickE ord0 (l.take i)).1.idxOf l[i]))::SL nv tI v l::L):=H7;rw[e1,e2] at H7;refine r_ke ⟨⟨i+1,by omega,rfl,(S.trans S6).trans S7,H7⟩,?_⟩;simp only[nv,intOf,gC];omega
 ·obtain rfl:i=l.length:=by omega
  rw[hF_,Nat.sub_self,replicate_zero,gU] at H;exact k _ _ S H.drop
theorem Write_spec {v:Value}{l:List Nat}{t:Nat}(H:Holds w (W01.WrR wb bs n::SL nv tI v l::L)) (ht:2<=t/\t<=6) (hl0:l≠[]) (hll:l.length<=32767) (hp:∀ p∈l,p < t) (hl:bs.length<=10000000000) (hn:n<=bs.length/8)
  (k:∀ w',Same w w'->Holds w' (W01.WrR wb (bs++picksB l t) n::SL nv tI v l::L)->K (iv 0) w'):Cl prog 151 #[pt wb,v,nv t] w K:=by
 refine Tz151 ?_;unfold Vz151;have h0:0 < l.length:=gZ.2 hl0;refine Za6 (r_vf ?_);refine r_cl (K:=λx w'=>x=.bool true/\Same w w'/\Holds w' (W01.WrR wb bs n::SL nv tI v l::L)) ?_ ?_
 ·refine Tz161 ?_;unfold Vz161;refine r_new H λtb w1 S1 H1=>?_;replace H1:Holds w1 (blk tb tI [nv t]::W01.WrR wb bs n::SL nv tI v l::L):=H1;refine Za1 (λx w'=>w1=w'/\x=.bool false) ?_ ?_
  rotate_left
  ·refine r_ld 0 H1 rfl rfl ?_;refine r_cl (K:=λx w'=>w1=w'/\x=.bool true) ?_ ?_
   ·refine Tz183 ?_;unfold Vz183;refine r_geq (r_vtD (by omega) ?_);exact r_leq ⟨rfl,by rw[decide_eq_true (by omega)]⟩
   rintro _ _ ⟨rfl,rfl⟩;refine Zah (r_vf ?_);refine r_lnS 2 H1 rfl ?_;refine r_eql (r_vfE (by omega) ?_);refine r_lnS 2 H1 rfl ?_;exact r_gtr (r_ke ⟨rfl,by rw[decide_eq_false (by omega)]⟩)
  rintro _ _ _ ⟨rfl,rfl⟩;refine r_vf ?_;refine r_mf (.func (.func 185) #[] #[pt tb]) (by kernel_rfl) ?_;refine D11.Zdc H1 2 rfl (by omega) (λx hx Q hQ=>?_) ?_
  ·have:=hp x hx;refine r_inv (f:=185) (args:=#[nv x,pt tb]) (by kernel_rfl) ?_;refine Tz185 ?_;unfold Vz185;refine r_lss (r_vfD (by omega) ?_);refine r_ld 0 H1 rfl rfl ?_;refine r_geq ?_;rw[decide_eq_false (by omega)];exact hQ
  ·exact Zbm ⟨rfl,S1,H1.drop⟩
 clear H;rintro _ w1 ⟨rfl,S,H⟩;refine Zah (r_vf ?_);refine Zb4 (by omega) (by omega) ?_;refine W01.Put_spec (n:=3) H (by omega) hn (by omega) (by omega) λw2 S2 H2=>?_;refine r_lnS 1 H2 rfl ?_;refine Zb4 (by omega) (by omega) ?_;have h3:(bitsOf t 3).length=3:=Za5 _ _;have h15:(bitsOf l.length 15).length=15:=Za5 _ _;refine W01.Put_spec (n:=15) H2 (by rw[gD];omega) (by rw[gD];omega) (by omega) (by omega) λw3 S3 H3=>?_;refine Zgn H3.swap (by omega) (λp h=>by have:=hp p h;omega) λpv w4 S4 H4=>?_
 have hinv:=Zey (o:=ord0) (l:=l) λc hc=>by
  have:=hp c hc
  rcases (show c=0\/c=1\/c=2\/c=3\/c=4\/c=5 by omega) with h|h|h|h|h|h <;> rw[h] <;> simp
 obtain⟨_,_,hpl,hp6⟩:=hinv;generalize hP:(pickE ord0 l).2=P at *;replace H4:Holds w4 (W01.WrR wb (bs++bitsOf t 3++bitsOf l.length 15) n::SL nv tI pv P::SL nv tI v l::L):=(by have h_:=Holds.ord 3 [2,0,1] H4 rfl;exact h_);refine r_lnS 1 H4 rfl ?_
 refine Za7 (λx w'=>∃ i:Nat,i<=P.length/\x=nv i/\Same w w'/\Holds w' (W01.WrR wb (bs++bitsOf t 3++bitsOf l.length 15++onesB (P.take i)) n::SL nv tI pv P::SL nv tI v l::L)) (λx _=>P.length - (intOf x).toNat)
  ⟨0,hE _,rfl,((S.trans S2).trans S3).trans S4,by rw[take_zero,onesB,List.flatMap_nil,gU];exact H4⟩ ?_
 clear H H2 H3 H4 S S2 S3 S4;rintro _ _ w5 ⟨i,hi,rfl,S,H⟩;refine r_lss (r_ifD (λh=>?_) λh=>?_)
 ·have hlt:i < P.length:=by omega
  have hg:P.take (i+1)=P.take i++[P[i]]:=by rw[gO,gA hlt];rfl
  have h6:=hp6 _ (getElem_mem hlt);have hol:=Zgt (l:=P.take i) (m:=6) λp h=>hp6 p (List.mem_of_mem_take h);rw[gN] at hol
  have hal:(bs++bitsOf t 3++bitsOf l.length 15++onesB (P.take i)).length<=bs.length+18+6*32767:=by rw[gD,gD,gD];omega
  have hal2:bs.length<=(bs++bitsOf t 3++bitsOf l.length 15++onesB (P.take i)).length:=by rw[gD,gD,gD];omega
  refine Za8 1 H rfl (gA hlt) ?_;generalize P[i]=a at *;replace h6:a < 6:=h6;refine Za0 (by omega) ?_;have hpw:2^(a+1)<=2^6:=Nat.pow_le_pow_right (by decide) (by omega);have hpw2:2^1<=2^(a+1):=Nat.pow_le_pow_right (by decide) (by omega);refine Zcd (s:=1) (n:=a+1) (by omega) ?_;rw[Nat.one_mul,Nat.mod_eq_of_lt (by omega)];refine Zow (s:=2^(a+1)) (t:=2) (by omega) (by omega) ?_;refine Za0 (by omega) ?_;refine W01.Put_spec (n:=a+1) H (by omega) (by omega) (by omega) (by omega) λw6 S6 H6=>?_;rw[Zuc,gI,<-Zqz,<-hg] at H6;refine Za0 (by omega) ?_;refine r_ke ⟨⟨i+1,by omega,rfl,S.trans S6,H6⟩,?_⟩;simp only[nv,intOf,gC];omega
 ·obtain rfl:i=P.length:=by omega
  rw[hF_] at H;refine k _ S ?_;unfold picksB;rw[hP,<-gI,<-gI];exact Holds.dropAt H 1
end P13
namespace F08
variable {w:World}{L:List HProp}{K:KT}
def cnt (l:List Nat) (size:Nat):List Nat:=(List.range size).map λx=>l.count x
theorem Zb3 (l:List Nat) (size:Nat):(cnt l size).length=size:=by unfold cnt;simp
theorem Ze5 {l:List Nat}{size x:Nat}(h:x < size):(cnt l size)[x]?=some (l.count x):=by
 unfold cnt;rw[hV_,getElem?_range h];rfl
theorem Zwm {l:List Nat}{size x:Nat}(h:x < size):(cnt l size).set x (l.count x+1)=cnt (l++[x]) size:=by
 apply ext_getElem?;intro i;rw[getElem?_set]
 by_cases e:x=i
 ·subst e;rw[if_pos rfl,if_pos (by rw[Zb3];exact h),Ze5 h,count_append];simp
 ·rw[if_neg e];rcases hU_ i size with q|q
  ·rw[Ze5 q,Ze5 q,count_append,List.count_singleton]
   have:(x==i)=false:=by simpa using e
   rw[this];rfl
  ·rw[getElem?_eq_none (by rw[Zb3];exact q),getElem?_eq_none (by rw[Zb3];exact q)]
theorem Zsr (size:Nat):cnt [] size=List.replicate size 0:=by
 unfold cnt;apply ext_getElem?;intro i;rw[hV_,List.getElem?_replicate];split
 ·rename_i h;rw[getElem?_range h];rfl
 ·rename_i h;rw[getElem?_eq_none (by simp;omega)];rfl
theorem Zhp {v:Value}{l:List Nat}{i n:Nat}(H:Holds w L) (hi:L[i]?=some (SL nv tI v l)) (h3:3<=n) (hn:n<=258) (hl:l.length<=1000000000) (hb:∀ x∈l,x < n)
  (k:∀ v' w',Same w w'->Holds w' (SL nv tI v' (cnt l n)::L)->K (.tuple #[v',iv 0]) w'):Cl prog 179 #[v,nv n] w K:=by
 refine Tz179 ?_;unfold Vz179;refine Za1 (λt w'=>w=w'/\t=.bool false) ?_ ?_
 rotate_left
 ·refine r_lss (r_vfD (by omega) ?_);refine r_gtr (r_ke ⟨rfl,by rw[decide_eq_false (by omega)]⟩)
 rintro _ _ _ ⟨rfl,rfl⟩;refine r_vf ?_;refine r_ms (f:=nv) (x:=0) H rfl (by omega) (by omega) λob w2 S2 H2=>?_;rw[gC] at H2 ⊢;have H3:=H2.close 0 rfl;simp only[gJ,gP,length_nil,Nat.add_zero] at H3;generalize hv:Value.slice (some ⟨ob,0,none⟩) n n=ov at H3 ⊢;refine r_lnS i H hi ?_;refine Za7 (λq w'=>∃ (t:Nat),q=nv t/\t<=l.length/\Same w w'/\Holds w' (SL nv tI ov (cnt (l.take t) n)::L)) (λq _=>l.length - (intOf q).toNat) ⟨0,rfl,hE _,S2,by rw[take_zero,Zsr];exact H3⟩ ?_;clear H H2 H3 S2;rintro _ _ w3 ⟨t,rfl,ht,S3,H3⟩;refine r_lss (r_ifD (λh=>?_) λh=>?_)
 ·have hlt:t < l.length:=by omega
  have hx:=hb _ (getElem_mem hlt)
  have e:l.take (t+1)=l.take t++[l[t]]:=by rw[gO,gA hlt];rfl
  have hc:(l.take t).count l[t]<=t:=Nat.le_trans count_le_length (by rw[gN];omega);refine Za8 (i+1) H3 (by rw[gF];exact hi) (gA hlt) ?_;generalize l[t]=x at *;refine Za1 (λz w'=>w3=w'/\z=.bool false) ?_ ?_
  rotate_left
  ·refine r_lss (r_vfD (by omega) ?_);exact r_geq (r_ke ⟨rfl,by rw[decide_eq_false (by omega)]⟩)
  rintro _ _ _ ⟨rfl,rfl⟩;refine r_vf ?_;refine Za8 0 H3 rfl (Ze5 hx) ?_;refine Za0 (by omega) ?_;refine Zam 0 H3 ((l.take t).count x+1) rfl (by rw[Zb3];exact hx) rfl λw4 S4 H4=>?_;replace H4:Holds w4 (SL nv tI ov ((cnt (l.take t) n).set x ((l.take t).count x+1))::L):=H4;rw[Zwm hx,<-e] at H4;refine Za0 (by omega) (r_ke ⟨⟨t+1,rfl,by omega,S3.trans S4,H4⟩,?_⟩);simp only[nv,intOf,gC];omega
 ·rw[gK (by omega)] at H3;exact k ov w3 S3 H3
end F08
namespace F08
variable {w:World}{L:List HProp}{K:KT}
def cost (l lens:List Nat):Nat:=(l.map λx=>lens.getD x 0).sum
def costD (l lens:List Nat) (t:Nat):Nat:=((List.range t).map λx=>l.count x*lens.getD x 0).sum
theorem Zof (l:List Nat) (x:Nat):(l++[x]).sum=l.sum+x:=by simp
theorem Zfc (l lens:List Nat) (t:Nat):costD l lens (t+1)=costD l lens t+l.count t*lens.getD t 0:=by
 unfold costD;rw[List.range_succ,map_append,hR_,List.map_nil,Zof]
theorem Zit (y:Nat) (l lens:List Nat):∀ t,costD (y::l) lens t=costD l lens t+if y < t then lens.getD y 0 else 0
 |0=>by simp[costD]
 |t+1=>by
  rw[Zfc,Zfc,Zit y l lens t,List.count_cons]
  by_cases e:y=t
  ·subst e;rw[if_neg (Nat.lt_irrefl _),if_pos (by simp),if_pos (by omega),Nat.add_mul,Nat.one_mul];omega
  ·have:(y==t)=false:=by simpa using e
   rw[this];simp only[Bool.false_eq_true,if_false,Nat.add_zero]
   by_cases q:y < t
   ·rw[if_pos q,if_pos (by omega)];omega
   ·rw[if_neg q,if_neg (by omega),Nat.add_zero,Nat.add_zero]
theorem Zjm {lens:List Nat}(h:∀ x∈lens,x<=20) (y:Nat):lens.getD y 0<=20:=by
 rw[gB];rcases hU_ y lens.length with q|q
 ·rw[gA q];exact h _ (getElem_mem q)
 ·rw[getElem?_eq_none q];exact hE _
theorem Zvn {lens:List Nat}(h:∀ x∈lens,x<=20) (t:Nat):∀ l:List Nat,costD l lens t<=l.length*20
 |[]=>by
  have:∀ t,costD [] lens t=0:=by
   intro t
   induction t with
   |zero=>rfl
   |succ t ih=>rw[Zfc,ih];simp
  rw[this];exact hE _
 |y::l=>by
  have h1:=Zvn h t l;have h2:=Zjm h y;rw[Zit,length_cons,Nat.add_mul]
  split <;> omega
theorem Zj8 {lens:List Nat}(h:∀ x∈lens,x<=20):∀ l:List Nat,cost l lens<=l.length*20
 |[]=>Nat.le_refl _
 |y::l=>by
  have h1:=Zj8 h l;have h2:=Zjm h y;show ((lens.getD y 0::l.map λx=>lens.getD x 0):List Nat).sum<=_;unfold cost at h1;rw[hQ_,length_cons,Nat.add_mul];omega
theorem Zjd {v:Value}{l:List Nat}{i:Nat}(H:Holds w L) (hi:L[i]?=some (SL nv tI v l)) (hl:l.length<=1000000) (hb:∀ x∈l,x<=1099511627776) (k:K (.bool true) w):Cl prog 192 #[v] w K:=by
 refine Tz192 ?_;unfold Vz192;refine D11.Zdc H i hi hl (λx hx Q hQ=>?_) (Zbm k);have h1:=hb x hx;refine r_inv (f:=207) (args:=#[nv x]) (by kernel_rfl) ?_;refine Tz207 ?_;unfold Vz207;refine r_cl (K:=λz w'=>w=w'/\z=.bool true) ?_ ?_
 ·refine Tz208 ?_;unfold Vz208;refine r_geq (r_vtD (by omega) ?_);exact r_leq ⟨rfl,by rw[decide_eq_true (by omega)]⟩
 rintro _ _ ⟨rfl,rfl⟩;exact Zah hQ
theorem Zef {a b:Nat}(h:a+b<=1099511627776) (k:K (nv (a+b)) w):Cl prog 193 #[nv a,nv b] w K:=by
 refine Tz193 ?_;unfold Vz193;refine Za9 (by omega) (r_min ?_);rw[show min (((a+b:Nat):Int)) 1099511627776=((a+b:Nat):Int) by omega];exact k
theorem Zkz {v v2:Value}{l lens:List Nat}{i j:Nat}(H:Holds w L) (hi:L[i]?=some (SL nv tI v l)) (hj:L[j]?=some (SL nv tI v2 lens)) (hl:l.length<=10000000) (hn:lens.length<=1000000) (h20:∀ x∈lens,x<=20) (hx:∀ x∈l,x < lens.length)
  (k:K (.tuple #[nv (cost l lens),iv 0]) w):Cl prog 168 #[v,v2] w K:=by
 refine Tz168 ?_;unfold Vz168;refine Zjd H hj hn (λx hx=>by have:=h20 x hx;omega) (Zah (r_vf ?_));refine r_lnS i H hi ?_;refine Zaa (λp q w'=>∃ t:Nat,p=nv (cost (l.take t) lens)/\q=nv t/\t<=l.length/\w=w') (λ_ q _=>l.length - (intOf q).toNat) ⟨0,rfl,rfl,hE _,rfl⟩ ?_;rintro _ _ _ _ ⟨t,rfl,rfl,ht,rfl⟩;refine r_lss (r_ifD (λh=>?_) λh=>?_)
 ·have hlt:t < l.length:=by omega
  have e:l.take (t+1)=l.take t++[l[t]]:=by rw[gO,gA hlt];rfl
  have hxt:=hx _ (getElem_mem hlt);have hc:=Zj8 h20 (l.take t);rw[gN] at hc;refine Za8 i H hi (gA hlt) ?_;generalize l[t]=x at *;have hg:=Zjm h20 x
  have e2:cost (l.take (t+1)) lens=cost (l.take t) lens+lens.getD x 0:=by
   unfold cost;rw[e,map_append,hR_,List.map_nil,Zof]
  refine Za1 (λz w'=>w=w'/\z=.bool false) ?_ ?_
  rotate_left
  ·refine r_lss (r_vfD (by omega) ?_);refine r_lnS j H hj (r_geq (r_ke ⟨rfl,by rw[decide_eq_false (by omega)]⟩))
  rintro _ _ _ ⟨rfl,rfl⟩;refine r_vf ?_;refine Za8 j H hj (x:=lens.getD x 0) (by rw[gB,gA hxt];rfl) ?_;refine Zef (by omega) ?_;rw[<-e2];refine Za0 (by omega) (r_ke ⟨⟨t+1,rfl,rfl,by omega,rfl⟩,?_⟩);simp only[nv,intOf,gC];omega
 ·rw[gK (by omega)];exact k
theorem Zd4 {n:Nat}(hn:n<=1000000000) (k:K (nv ((n+49)/50)) w):Cl prog 166 #[nv n] w K:=by
 refine Tz166 ?_;unfold Vz166;refine r_leq (r_ifD (λh=>?_) λh=>?_)
 ·obtain rfl:n=0:=by omega
  exact k
 ·refine Zab (by omega) (by omega) ?_;refine r_quo (by omega) (by omega) (by omega) ?_;rw[show ((n - 1:Nat):Int)/50=(((n - 1)/50:Nat):Int) by omega];refine Za0 (by omega) ?_;rw[show (n - 1)/50+1=(n+49)/50 by omega];exact k
def addL (a b:List Nat):List Nat:=List.zipWith (·+·) a b
theorem Zvp {v v2:Value}{a b:List Nat}{i j:Nat}(H:Holds w L) (hi:L[i]?=some (SL nv tI v a)) (hj:L[j]?=some (SL nv tI v2 b)) (hl:a.length<=1000000) (hab:b.length=a.length) (ha:∀ x∈a,x<=500000000000) (hb:∀ x∈b,x<=500000000000)
  (k:∀ v' w',Same w w'->Holds w' (SL nv tI v' (addL a b)::L)->K (.tuple #[v',iv 0]) w'):Cl prog 203 #[v,v2] w K:=by
 refine Tz203 ?_;unfold Vz203;refine Za1 (λt w'=>w=w'/\t=.bool false) ?_ ?_
 rotate_left
 ·refine r_lnS i H hi (r_lnS j H hj (r_neq (r_vfN (by omega) ?_)));refine Zjd H hi hl (λx hx=>by have:=ha x hx;omega) (Zah (r_vf ?_));exact Zjd H hj (by omega) (λx hx=>by have:=hb x hx;omega) (Zah (r_ke ⟨rfl,rfl⟩))
 rintro _ _ _ ⟨rfl,rfl⟩;refine r_vf ?_;refine r_lnS i H hi ?_;refine r_ms (f:=nv) (x:=0) H rfl (by omega) (by omega) λob w2 S2 H2=>?_;rw[gC] at H2 ⊢;have H3:=H2.close 0 rfl;simp only[gJ,gP,length_nil,Nat.add_zero] at H3;generalize hv:Value.slice (some ⟨ob,0,none⟩) a.length a.length=ov at H3 ⊢;refine r_lnS 0 H3 rfl ?_;rw[gP];refine Za7 (λq w'=>∃ (t:Nat),q=nv t/\t<=a.length/\Same w w'/\Holds w' (SL nv tI ov (addL (a.take t) (b.take t)++List.replicate (a.length - t) 0)::L)) (λq _=>a.length - (intOf q).toNat) ⟨0,rfl,hE _,S2,H3⟩ ?_;clear H H2 H3 S2;rintro _ _ w3 ⟨t,rfl,ht,S3,H3⟩;refine r_lss (r_ifD (λh=>?_) λh=>?_)
 ·have hlt:t < a.length:=by omega
  have hlt2:t < b.length:=by omega
  have h1:=ha _ (getElem_mem hlt);have h2:=hb _ (getElem_mem hlt2)
  have e1:a.take (t+1)=a.take t++[a[t]]:=by rw[gO,gA hlt];rfl
  have e2:b.take (t+1)=b.take t++[b[t]]:=by rw[gO,gA hlt2];rfl
  refine r_dr H3 λw4 S4 H4=>?_;refine Za8 (i+1) H4 (by rw[gF];exact hi) (gA hlt) ?_;refine Za8 (j+1) H4 (by rw[gF];exact hj) (gA hlt2) ?_;generalize a[t]=x at *;generalize b[t]=y at *
  have hlen:(addL (a.take t) (b.take t)).length=t:=by unfold addL;rw[List.length_zipWith,gN,gN];omega
  refine Zef (by omega) ?_;refine Zam 0 H4 (x+y) rfl (by rw[gD,hlen,gP];omega) rfl λw5 S5 H5=>?_;refine Za0 (by omega) (r_ke ⟨⟨t+1,rfl,by omega,S3.trans (S4.trans S5),?_⟩,?_⟩)
  ·replace H5:Holds w5 (SL nv tI ov ((addL (a.take t) (b.take t)++List.replicate (a.length - t) 0).set t (x+y))::L):=H5;rw[set_append_right _ _ (by omega),hlen,Nat.sub_self,show a.length - t=(a.length - (t+1))+1 by omega,List.replicate_succ,gJ] at H5
   have e3:addL (a.take (t+1)) (b.take (t+1))=addL (a.take t) (b.take t)++[x+y]:=by
    unfold addL;rw[e1,e2,List.zipWith_append (by rw[gN,gN];omega)];rfl
   rw[e3,gI];exact H5
  ·simp only[nv,intOf,gC];omega
 ·obtain rfl:t=a.length:=by omega
  rw[hF_,gK (by omega),Nat.sub_self,replicate_zero,gU] at H3;exact k ov w3 S3 H3
end F08
namespace T12
variable {w:World}{L:List HProp}{K:KT}
class Bnds where
 l:List Int
 h:l.length=4
variable [Bnds]
def bnd:List Int:=Bnds.l
def numAt (n t:Nat):Nat:=2+((bnd.take t).filter λb=>decide (b<=(n:Int))).length
def num (n:Nat):Nat:=numAt n 4
theorem Zq1 (n:Nat){t:Nat}(h:t < 4):numAt n (t+1)=numAt n t+if bnd.getD t 0<=(n:Int) then 1 else 0:=by
 unfold numAt
 have hl:t < bnd.length:=by unfold bnd;rw[Bnds.h];exact h
 rw[gO,gA hl,List.filter_append,gD,gB,gA hl];show 2+(_+(List.filter _ [bnd[t]]).length)=_
 by_cases e:bnd[t]<=(n:Int)
 ·rw[List.filter_cons_of_pos (by simpa using e)]
  show _=_+if bnd[t]<=(n:Int) then 1 else 0
  rw[if_pos e];simp;omega
 ·rw[List.filter_cons_of_neg (by simpa using e)]
  show _=_+if bnd[t]<=(n:Int) then 1 else 0
  rw[if_neg e];simp
def BndOk (L:List HProp):Prop:=∀ w',Holds w' L->∃ e z,w'.heap[3]?=some (.cells (bnd.map iv).toArray e z)
theorem BndOk.up {Q:HProp}(h:BndOk L):BndOk (Q::L):=λw' H=>h w' H.drop
theorem Znp {n:Nat}(H:Holds w L) (hb:BndOk L) (k:K (nv (num n)) w):Cl prog 201 #[nv n] w K:=by
 refine Tz201 ?_;unfold Vz201;obtain⟨e,z,hh⟩:=hb w H;refine Ya0 (p:=⟨3,0,none⟩) (cs:=(bnd.map iv).toArray) (by simp[bnd,Bnds.h]) (λj v hv=>?_) ?_
 ·have e1:(⟨3,0,none⟩:Addr).add j=⟨3,j,none⟩:=by
   unfold Addr.add;split
   ·rename_i q;rw[q]
   ·simp
  rw[e1];simp only[World.cell?,hh];exact hv
 refine Zaa (λp q w'=>∃ t:Nat,p=nv (numAt n t)/\q=nv t/\t<=4/\numAt n t<=2+t/\w=w') (λ_ q _=>4 - (intOf q).toNat) ⟨0,rfl,rfl,by omega,Nat.le_refl _,rfl⟩ ?_;rintro _ _ _ _ ⟨t,rfl,rfl,ht,hle,rfl⟩;refine r_lss (r_ifD (λh=>?_) λh=>?_)
 ·have hlt:t < 4:=by omega
  have hs:=Zq1 n hlt
  have hl:t < bnd.length:=by unfold bnd;rw[Bnds.h];exact hlt
  refine Zkj (iv (bnd.getD t 0)) (by omega) (by omega) (by
   rw[gC,hV_,gA hl,gB,gA hl];rfl) ?_
  refine r_geq (r_ifD (λq=>?_) λq=>?_)
  ·rw[if_pos (by omega)] at hs;refine Za0 (by omega) (Za0 (by omega) (r_ke ⟨⟨t+1,by rw[hs],rfl,by omega,by omega,rfl⟩,?_⟩));simp only[nv,intOf,gC];omega
  ·rw[if_neg (by omega)] at hs;refine Za0 (by omega) (r_ke ⟨⟨t+1,by rw[hs];rfl,rfl,by omega,by omega,rfl⟩,?_⟩);simp only[nv,intOf,gC];omega
 ·obtain rfl:t=4:=by omega
  exact k
end T12
namespace F08
variable {w:World}{L:List HProp}{K:KT}
theorem Zn2 {b o m c j:Nat}{cs:List Value}{xs:List Nat}(H:Holds w L) (hj:L[j]?=some (blk b tI cs)) (hcs:(cs.drop o).take m=xs.map nv) (hm:m=xs.length) (hne:0 < xs.length) (hn:xs.length<=1000000000)
  (k:∀ v' w',Same w w'->Holds w' (SL nv tI v' xs::L)->K v' w'):Cl prog 118 #[.slice (some ⟨b,o,none⟩) m c] w K:=by
 refine Tz118 ?_;unfold Vz118;refine Zsd _ _ _ (r_vf ?_);refine r_bsK (e:=tI) [] H (by kernel_rfl) λb0 w1 S1 H1=>?_;have H2:=Holds.slb' (f:=nv) (xs:=[]) (sp:=[]) H1 0 rfl;rw[gJ] at H2;refine r_apO (f:=nv) (xs:=[]) (ys:=xs) (sp:=[]) (l:=0) (c:=0) H2 0 (j+1) rfl (by rw[gF];exact hj) hcs hm rfl rfl sg_nv (by simp only[length_nil];omega) hne λoa' sp' w2 S2 H3=>?_;rw[gJ,hO_] at H3;have H4:=H3.close 0 rfl;rw[gJ] at H4;have:=k _ w2 (S1.trans S2) H4;simpa only[length_nil,Nat.zero_add] using this
theorem Zig {v:Value}{l:List Nat}{i g:Nat}(H:Holds w L) (hi:L[i]?=some (SL nv tI v l)) (hl:l.length<=100000000) (hg:g*50 < l.length)
  (k:∀ v' w',Same w w'->Holds w' (SL nv tI v' ((l.drop (g*50)).take 50)::L)->K (.tuple #[v',iv 0]) w'):Cl prog 167 #[v,nv g] w K:=by
 refine Tz167 ?_;unfold Vz167;refine Za1 (λt w'=>w=w'/\t=.bool false) ?_ ?_
 rotate_left
 ·refine r_lss (r_vfD (by omega) ?_);refine r_lnS i H hi (Zd4 (by omega) ?_);exact r_geq (r_ke ⟨rfl,by rw[decide_eq_false (by omega)]⟩)
 rintro _ _ _ ⟨rfl,rfl⟩;refine r_vf ?_;refine r_cl (K:=λz w'=>Same w w'/\Holds w' (SL nv tI z ((l.drop (g*50)).take 50)::L)) ?_ ?_
 ·refine Tz191 ?_;unfold Vz191;refine Zb8 ((g*50:Nat):Int) (by omega) (by omega) (by omega) ?_;refine r_lnS i H hi (Za0 (by omega) ?_);refine Zb8 (((g+1)*50:Nat):Int) (by omega) (by omega) (by omega) ?_;refine r_min ?_;obtain⟨h,hh⟩:∃ h,h=min l.length ((g+1)*50):=⟨_,rfl⟩;rw[show min (l.length:Int) (((g+1)*50:Nat):Int)=(h:Int) by omega];obtain⟨oa,sp,rfl,H1⟩:=H.open i hi
  cases oa with
  |none=>
   obtain⟨q,⟨h2,_⟩,_⟩:=H1.front i (Za2 hi);subst h2;simp at hg
  |some a=>
   obtain⟨q,⟨h2,h3,_⟩,_⟩:=H1.front i (Za2 hi);obtain⟨b,o,s⟩:=a;simp only at h2 h3;subst h2;subst h3;refine Zso (by omega) (by omega) ?_;rw[if_neg (by omega)];have H2:=H1.slb i (Za2 hi);rw[set_set] at H2
   have e1:Option.map (λx:Addr=>x.add (g*50*1)) (some (⟨b,0,none⟩:Addr))=some (⟨b,g*50,none⟩:Addr):=by
    show some ((⟨b,0,none⟩:Addr).add (g*50*1))=_;rw[Nat.mul_one];unfold Addr.add;split
    ·rename_i e;rw[e]
    ·simp
   rw[e1]
   have hlen:((l.drop (g*50)).take 50).length=h - g*50:=by rw[gN,gS];omega
   refine Zn2 (xs:=(l.drop (g*50)).take 50) H2 (j:=i) (Za2 hi) ?_ hlen.symm (by omega) (by omega) λv' w2 S2 H3=>⟨S2,?_⟩
   ·rw[List.drop_append_of_le_length (by rw[hS_];omega),List.take_append_of_le_length (by rw[gS,hS_];omega),<-List.map_drop,<-List.map_take]
    congr 1
    rcases Nat.le_total ((g+1)*50) l.length with q|q
    ·rw[show h - g*50=50 by omega]
    ·rw[gK (by rw[gS];omega),gK (by rw[gS];omega)]
   ·have H4:=(Holds.slb' (f:=nv) (xs:=l) (sp:=sp) H3 (i+1) (by rw[gF];exact Za2 hi));have H5:=H4.close (i+1) (by rw[gW,gF];exact Za2 (Za2 hi));rw[gW,gW,set_set,set_set] at H5
    have e2:L.set i (SL nv tI (.slice (some ⟨b,0,none⟩) l.length (l.length+sp.length)) l)=L:=by
     obtain⟨p1,p2⟩:=gH.1 hi;rw[<-p2,set_getElem_self]
    rw[e2] at H5;exact H5
 rintro v' w' ⟨S2,H2⟩;exact k v' w' S2 H2
theorem Zwc (a b:List Nat) (n:Nat):addL (cnt a n) (cnt b n)=cnt (a++b) n:=by
 unfold addL;apply ext_getElem?;intro i;rw[List.getElem?_zipWith];rcases hU_ i n with q|q
 ·rw[Ze5 q,Ze5 q,Ze5 q,count_append]
 ·have e:∀ z,(cnt z n)[i]?=none:=λz=>getElem?_eq_none (by rw[Zb3];exact q);rw[e,e,e]
theorem cnt_le (l:List Nat) (n:Nat):∀ x∈cnt l n,x<=l.length:=by
 intro x hx;unfold cnt at hx;obtain⟨y,_,rfl⟩:=mem_map.1 hx;exact count_le_length
end F08
namespace Rw
variable {w:World}{L:List HProp}{K:KT}
abbrev tIs:Nat:=67
instance rowIs:Row prog 209 tIs (.slice none 0 0):=⟨by kernel_rfl,⟨t67,by kernel_rfl,by kernel_rfl,by decide,by kernel_rfl⟩,rfl⟩
abbrev Sw:Type:=Option Addr × Nat × Nat
abbrev sw (x:Sw):Value:=.slice x.1 x.2.1 x.2.2
theorem sg_sw (x:Sw):sg (sw x)=true:=rfl
def RI (vs:List Sw) (rs:List (List Nat)):List HProp:=(vs.zip rs).map λx=>SL nv tI (sw x.1) x.2
def RR (v:Value) (rs:List (List Nat)):HProp:=λh=>∃ vs,vs.length=rs.length/\Sat (SL sw tIs v vs::RI vs rs) h
theorem Zy1 {vs:List Sw}{rs:List (List Nat)}{q:Nat}{x:Sw}{l:List Nat}(hx:vs[q]?=some x) (hl:rs[q]?=some l):(RI vs rs)[q]?=some (SL nv tI (sw x) l):=by
 unfold RI;rw[hV_,(getElem?_zip_eq_some (z:=(x,l))).2 ⟨hx,hl⟩];rfl
theorem Zov {vs:List Sw}{rs:List (List Nat)}(h:vs.length=rs.length):(RI vs rs).length=rs.length:=by unfold RI;simp[h]
theorem Zx3 {vs:List Sw}{rs:List (List Nat)}{q:Nat}(x:Sw) (l:List Nat) (h:vs.length=rs.length):(RI vs rs).set q (SL nv tI (sw x) l)=RI (vs.set q x) (rs.set q l):=by
 unfold RI;apply ext_getElem?;intro i;rw[getElem?_set,hV_,hV_,hS_,List.length_zip,h,Nat.min_self]
 by_cases e:q=i
 ·subst e;rw[if_pos rfl]
  by_cases hq:q < rs.length
  ·rw[if_pos hq,(getElem?_zip_eq_some (z:=(x,l))).2 ⟨by rw[List.getElem?_set_self (by omega)],by rw[List.getElem?_set_self hq]⟩];rfl
  ·rw[if_neg hq,getElem?_eq_none (by rw[List.length_zip,hX_,hX_];omega)];rfl
 ·rw[if_neg e]
  congr 1
  apply Option.ext;rintro⟨y,m⟩;rw[getElem?_zip_eq_some,getElem?_zip_eq_some,hY_ e,hY_ e]
theorem sl_sw {v:Value}{l:List Nat}{i:Nat}(H:Holds w L) (hi:L[i]?=some (SL nv tI v l)):∃ x,v=sw x:=by
 obtain⟨oa,sp,rfl,_⟩:=H.open i hi;exact⟨(oa,_,_),rfl⟩
theorem Zxx (H:Holds w L):Holds w (RR (.slice none 0 0) []::L):=by
 have H1:=H.nilSL sw tIs;have H2:Holds w (Sat [SL sw tIs (.slice none 0 0) []]::L):=Holds.pack (A:=[_]) H1;exact Holds.imp H2 λh hh=>⟨[],rfl,hh⟩
theorem rr_ln (i:Nat) (H:Holds w L){v:Value}{rs:List (List Nat)}{K:Value->Prop}(hi:L[i]?=some (RR v rs)) (h:K (nv rs.length)):Lnl v K:=by
 obtain⟨vs,H1⟩:=H.atEx (α:=List Sw) (Q:=λvs h=>vs.length=rs.length/\Sat (SL sw tIs v vs::RI vs rs) h) i hi λg hg=>hg;obtain⟨hl,H2⟩:=H1.atPure (Q:=Sat (SL sw tIs v vs::RI vs rs)) i (Za2 hi) λg hg=>hg;rw[set_set] at H2;have H3:=H2.front i (Za2 hi);rw[eraseIdx_set_eq] at H3;have H4:Holds w (SL sw tIs v vs::(RI vs rs++L.eraseIdx i)):=Holds.unpack H3;refine r_lnS 0 H4 rfl ?_;rw[hl];exact h
theorem Zzo {α:Type}(i:Nat) (H:Holds w L){f:α->Value}{e:TypeId}{v:Value}{xs:List α}{k:IntKind}{j:Nat}{x:α}{J:Value->Prop}(hi:L[i]?=some (SL f e v xs)) (hx:xs[j]?=some x)
  (h:∀ p,(∀ J':Value->Prop,J' (f x)->Ld p w J')->J p):Ias 1 v (.int k (j:Int)) J:=by
 obtain⟨oa,sp,rfl,H1⟩:=H.open i hi;have hj:j < xs.length:=(gH.1 hx).1;refine Zhi i H1 (Za2 hi) hj (Nat.le_refl _) λb hb=>?_;subst hb;exact h _ λJ' hJ=>Zl8 i H1 (Za2 hi) hx hJ
theorem Zmt {x:Sw}{R:HProp}{v:Value}{rs':List (List Nat)}{l':List Nat}(hR:∀ h,Sat [SL nv tI (sw x) l',R] h->RR v rs' h) (N:List HProp) (i:Nat){L':List HProp}(hi:L'[i]?=some R){w':World}
  (H:Holds w' (N++SL nv tI (sw x) l'::L')):Holds w' (N++L'.set i (RR v rs')):=by
 have key:∀ h,Sat (SL nv tI (sw x) l'::L') h->Sat (L'.set i (RR v rs')) h:=by
  intro h hh
  have h1:Sat (R::SL nv tI (sw x) l'::L'.eraseIdx i) h:=by
   have:=Sat.pull (i+1) hh (P:=R) (by rw[gF];exact hi);rw[eraseIdx_cons_succ] at this;exact this
  have h4:Sat ([SL nv tI (sw x) l',R]++L'.eraseIdx i) h:=Sat.swap h1;exact Sat.push i hi (Sat.imp (Sat.pack h4) λg hg=>hR g hg)
 have lift:∀ (N:List HProp) h,Sat (N++SL nv tI (sw x) l'::L') h->Sat (N++L'.set i (RR v rs')) h:=by
  intro N
  induction N with
  |nil=>exact key
  |cons P N ih=>exact λh hh=>Zbc ih hh
 exact lift N _ H
theorem rr_sw {v:Value}{rs:List (List Nat)}{i:Nat}(H:Holds w L) (hi:L[i]?=some (RR v rs)):∃ x,v=sw x:=by
 obtain⟨vs,H1⟩:=H.atEx (α:=List Sw) (Q:=λvs h=>vs.length=rs.length/\Sat (SL sw tIs v vs::RI vs rs) h) i hi λg hg=>hg;obtain⟨_,H2⟩:=H1.atPure (Q:=Sat (SL sw tIs v vs::RI vs rs)) i (Za2 hi) λg hg=>hg;rw[set_set] at H2;have H3:=H2.front i (Za2 hi);rw[eraseIdx_set_eq] at H3;have H4:Holds w (SL sw tIs v vs::(RI vs rs++L.eraseIdx i)):=Holds.unpack H3;obtain⟨oa,sp,rfl,_⟩:=H4.open 0 rfl;exact⟨(oa,_,_),rfl⟩
theorem Zdh (i:Nat) (H:Holds w L){v:Value}{rs:List (List Nat)}{q:Nat}{l:List Nat}(hi:L[i]?=some (RR v rs)) (hq:rs[q]?=some l) :
  ∃ (x:Sw) (R:HProp),(∀ (k:IntKind) (J:Value->Prop),(∀ p,(∀ J':Value->Prop,J' (sw x)->Ld p w J')->J p)->Ias 1 v (.int k (q:Int)) J)/\Holds w (SL nv tI (sw x) l::L.set i R)/\
   (∀ (N:List HProp) (w':World),Holds w' (N++SL nv tI (sw x) l::L.set i R)->Holds w' (N++L))/\
   (∀ (l':List Nat) (N:List HProp) (w':World),Holds w' (N++SL nv tI (sw x) l'::L.set i R)->Holds w' (N++L.set i (RR v (rs.set q l'))))/\
   (∀ l' h,Sat [SL nv tI (sw x) l',R] h->RR v (rs.set q l') h)/\∀ h,Sat [SL nv tI (sw x) l,R] h->RR v rs h:=by
 obtain⟨vs,H1⟩:=H.atEx (α:=List Sw) (Q:=λvs h=>vs.length=rs.length/\Sat (SL sw tIs v vs::RI vs rs) h) i hi λg hg=>hg;obtain⟨hl,H2⟩:=H1.atPure (Q:=Sat (SL sw tIs v vs::RI vs rs)) i (Za2 hi) λg hg=>hg;rw[set_set] at H2;have hqr:q < rs.length:=(gH.1 hq).1;have hx:vs[q]?=some vs[q]:=gA (by omega);generalize vs[q]=x at hx;have hri:=Zy1 hx hq
 have hA:(SL sw tIs v vs::RI vs rs)[q+1]?=some (SL nv tI (sw x) l):=by rw[gF];exact hri
 have hR:∀ l' h,Sat [SL nv tI (sw x) l',Sat ((SL sw tIs v vs::RI vs rs).eraseIdx (q+1))] h->RR v (rs.set q l') h:=by
  intro l' g hg;have h6:Sat (Sat ((SL sw tIs v vs::RI vs rs).eraseIdx (q+1))::[SL nv tI (sw x) l']) g:=Sat.swap hg;have h7:=Sat.unpack h6
  have h8:(((SL sw tIs v vs::RI vs rs).eraseIdx (q+1))++[SL nv tI (sw x) l'])[((SL sw tIs v vs::RI vs rs).eraseIdx (q+1)).length]?=some (SL nv tI (sw x) l'):=by simp
  have h9:=Sat.pull _ h7 h8;rw[List.eraseIdx_append_of_length_le (Nat.le_refl _),Nat.sub_self,List.eraseIdx_cons_zero,gU] at h9;refine⟨vs,by rw[hX_];exact hl,?_⟩;have:=Sat.push (q+1) hA h9;rw[gW,Zx3 x l' hl] at this
  have e:vs.set q x=vs:=by
   obtain⟨p1,p2⟩:=gH.1 hx;rw[<-p2,set_getElem_self]
  rw[e] at this;exact this
 have back:∀ (l':List Nat) (N:List HProp) (w':World),Holds w' (N++SL nv tI (sw x) l'::L.set i (Sat ((SL sw tIs v vs::RI vs rs).eraseIdx (q+1))))->Holds w' (N++L.set i (RR v (rs.set q l'))):=by
  intro l' N w' HN;have:=Zmt (hR l') N i (Za2 hi) HN;rw[set_set] at this;exact this
 have e1:rs.set q l=rs:=by
  obtain⟨p1,p2⟩:=gH.1 hq;rw[<-p2,set_getElem_self]
 refine⟨x,Sat ((SL sw tIs v vs::RI vs rs).eraseIdx (q+1)),?_,?_,?_,back,hR,λh hh=>by have:=hR l h hh;rw[e1] at this;exact this⟩
 ·intro k J hJ;have H3:=H2.front i (Za2 hi);rw[eraseIdx_set_eq] at H3;have H4:Holds w (SL sw tIs v vs::(RI vs rs++L.eraseIdx i)):=Holds.unpack H3;exact Zzo 0 H4 rfl hx hJ
 ·have H3:=H2.front i (Za2 hi);rw[eraseIdx_set_eq] at H3;have H4:Holds w (Sat (SL nv tI (sw x) l::(SL sw tIs v vs::RI vs rs).eraseIdx (q+1))::L.eraseIdx i):=Holds.imp H3 λg hg=>Sat.pull (q+1) hg hA;have H5:Holds w (SL nv tI (sw x) l::((SL sw tIs v vs::RI vs rs).eraseIdx (q+1)++L.eraseIdx i)):=Holds.unpack H4;have H6:Holds w (SL nv tI (sw x) l::Sat ((SL sw tIs v vs::RI vs rs).eraseIdx (q+1))::L.eraseIdx i):=Zbc (λh hh=>Sat.pack hh) H5;exact Zbc (λh hh=>Sat.push i hi hh) H6
 ·intro N w' HN;have:=back l N w' HN
  have e2:L.set i (RR v rs)=L:=by
   obtain⟨p1,p2⟩:=gH.1 hi;rw[<-p2,set_getElem_self]
  rw[e1,e2] at this;exact this
theorem Zt7 (i:Nat){v v':Value}{rs:List (List Nat)}{q:Nat}{l:List Nat}(H:Holds w (SL nv tI v' l::L)) (hi:L[i]?=some (RR v rs)) (hq:q < rs.length){k:IntKind}{J:World->Prop}
  (h:∀ w',Same w w'->Holds w' (L.set i (RR v (rs.set q l)))->J w'):Ias 1 v (.int k (q:Int)) λp=>St p v' w J:=by
 obtain⟨y,rfl⟩:=sl_sw H (i:=0) rfl
 have hi':(SL nv tI (sw y) l::L)[i+1]?=some (RR v rs):=by rw[gF];exact hi
 obtain⟨vs,H1⟩:=H.atEx (α:=List Sw) (Q:=λvs h=>vs.length=rs.length/\Sat (SL sw tIs v vs::RI vs rs) h) (i+1) hi' λg hg=>hg;obtain⟨hl,H2⟩:=H1.atPure (Q:=Sat (SL sw tIs v vs::RI vs rs)) (i+1) (Za2 hi') λg hg=>hg;rw[set_set] at H2;have H3:=H2.front (i+1) (Za2 hi');rw[eraseIdx_set_eq,eraseIdx_cons_succ] at H3;have H4:Holds w (SL sw tIs v vs::(RI vs rs++SL nv tI (sw y) l::L.eraseIdx i)):=Holds.unpack H3;refine Zam (f:=sw) 0 H4 y rfl (by omega) rfl λw' S' H5=>h w' S' ?_;rw[gJ] at H5
 have h6:((SL sw tIs v (vs.set q y)::RI vs rs)++SL nv tI (sw y) l::L.eraseIdx i)[rs.length+1]?=some (SL nv tI (sw y) l):=by
  rw[cons_append,gF,gT (by rw[Zov hl];omega),Zov hl,Nat.sub_self];rfl
 have H6:Holds w' (((SL sw tIs v (vs.set q y)::RI vs rs))++SL nv tI (sw y) l::L.eraseIdx i):=H5;have H7:=H6.front _ h6;rw[cons_append,eraseIdx_cons_succ,List.eraseIdx_append_of_length_le (by rw[Zov hl];omega),Zov hl,Nat.sub_self,List.eraseIdx_cons_zero] at H7;have H8:Holds w' (Sat (SL nv tI (sw y) l::SL sw tIs v (vs.set q y)::RI vs rs)::L.eraseIdx i):=Holds.pack H7
 have H9:Holds w' (RR v (rs.set q l)::L.eraseIdx i):=Holds.imp H8 λg hg=>⟨vs.set q y,by simp[hl],by
  have hA:(SL sw tIs v (vs.set q y)::RI vs rs)[q+1]?=some (SL nv tI (sw vs[q]) rs[q]):=by
   rw[gF];exact Zy1 (gA (by omega)) (gA hq)
  obtain⟨g1,hg1,hs1,hr⟩:=hg
  have h10:Sat (SL nv tI (sw y) l::(SL sw tIs v (vs.set q y)::RI vs rs).eraseIdx (q+1)) g:=by
   refine⟨g1,hg1,hs1,?_⟩;obtain⟨g2,_,_,hr2⟩:=Sat.pull (q+1) hr hA
   exact hr2.mono λb o hb=>by
    unfold Hp.minus at hb;split at hb
    ·cases hb
    ·exact hb
  have:=Sat.push (q+1) hA h10;rw[gW,Zx3 y l hl] at this
  exact this⟩
 exact Sat.push i hi H9
theorem Zxh (i:Nat){v v':Value}{rs:List (List Nat)}{l:List Nat}{ty:TypeId}(H:Holds w (SL nv tI v' l::L)) (hi:L[i]?=some (RR v rs)) (hn:rs.length+1<=1099511627776)
  (h:∀ v2 w',Same w w'->Holds w' (L.set i (RR v2 (rs++[l])))->K v2 w'):Bs prog 209 1 #[(0,v')] w λy w2=>Ap prog #[209,209] ty #[v,y] w2 K:=by
 obtain⟨y,rfl⟩:=sl_sw H (i:=0) rfl
 have hi':(SL nv tI (sw y) l::L)[i+1]?=some (RR v rs):=by rw[gF];exact hi
 obtain⟨vs,H1⟩:=H.atEx (α:=List Sw) (Q:=λvs h=>vs.length=rs.length/\Sat (SL sw tIs v vs::RI vs rs) h) (i+1) hi' λg hg=>hg;obtain⟨hl,H2⟩:=H1.atPure (Q:=Sat (SL sw tIs v vs::RI vs rs)) (i+1) (Za2 hi') λg hg=>hg;rw[set_set] at H2;have H3:=H2.front (i+1) (Za2 hi');rw[eraseIdx_set_eq,eraseIdx_cons_succ] at H3;have H4:Holds w (SL sw tIs v vs::(RI vs rs++SL nv tI (sw y) l::L.eraseIdx i)):=Holds.unpack H3;refine Zci (f:=sw) H4 0 rfl y sg_sw (by omega) λv2 w' S' H5=>h v2 w' S' ?_;rw[gJ] at H5
 have e:RI (vs++[y]) (rs++[l])=RI vs rs++[SL nv tI (sw y) l]:=by
  unfold RI;rw[List.zip_append hl,map_append];rfl
 have H6:Holds w' ((SL sw tIs v2 (vs++[y])::RI (vs++[y]) (rs++[l]))++L.eraseIdx i):=by
  rw[e,cons_append,gI];exact H5
 have H7:Holds w' (RR v2 (rs++[l])::L.eraseIdx i):=Holds.imp (Holds.pack H6) λg hg=>⟨vs++[y],by simp[hl],hg⟩;exact Sat.push i hi H7
theorem Zuw:∀ (n:Nat){h:Hp},Sat L h->Sat (RI (List.replicate n (none,0,0)) (List.replicate n [])++L) h
 |0,_,H=>H
 |n+1,h,H=>by
  refine⟨λ_=>none,Zxa nv tI _,(λb o hb=>by cases hb),?_⟩
  have e:h.minus (λ_=>none)=h:=by funext b;simp[Hp.minus]
  rw[e];exact Zuw n H
theorem Zt5 (H:Holds w L){k k':IntKind}{n:Nat}{J:KT}(hn:n<=1000000)
  (h:∀ v w',Same w w'->Holds w' (RR v (List.replicate n [])::L)->J v w'):Ms prog 209 (.int k (n:Int)) (.int k' (n:Int)) w J:=by
 refine r_ms (f:=sw) (x:=(none,0,0)) H rfl (by omega) (by omega) λb w' S' H2=>?_;rw[gC] at H2 ⊢;have H3:=H2.close 0 rfl;simp only[gJ,gP,length_nil,Nat.add_zero] at H3;refine h _ w' S' ?_;have H4:Holds w' (SL sw tIs (.slice (some ⟨b,0,none⟩) n n) (List.replicate n (none,0,0))::(RI (List.replicate n (none,0,0)) (List.replicate n [])++L)):=Zbc (λh hh=>Zuw n hh) H3;exact Holds.imp (Holds.pack (A:=SL sw tIs (.slice (some ⟨b,0,none⟩) n n) (List.replicate n (none,0,0))::RI (List.replicate n (none,0,0)) (List.replicate n [])) H4) λg hg=>⟨List.replicate n (none,0,0),by simp,hg⟩
end Rw
namespace T12
open F08 Rw
variable {w:World}{L:List HProp}{K:KT}
variable [Bnds]
def blw (c:List Nat) (n v:Nat):Nat:=min ((c.take v).sum) (n - 1)
def firstV (c:List Nat) (n t p v:Nat):Nat:=if blw c n v*t/n=p then 0 else 15
def firstR (c:List Nat) (n t p:Nat):List Nat:=(List.range c.length).map (firstV c n t p)
def firstL (c:List Nat) (n t:Nat):List (List Nat):=(List.range t).map (firstR c n t)
theorem Zfi (c:List Nat) (n t p:Nat):(firstR c n t p).length=c.length:=by simp[firstR]
theorem Zq4 {c:List Nat}{n t p v:Nat}(h:v < c.length):(firstR c n t p)[v]?=some (firstV c n t p v):=by simp[firstR,h]
theorem Zi3 (c:List Nat) (n t:Nat):(firstL c n t).length=t:=by simp[firstL]
theorem blw_succ {c:List Nat}{n v:Nat}(h:v < c.length):min (blw c n v+c.getD v 0) (n - 1)=blw c n (v+1):=by
 unfold blw
 have e:c.take (v+1)=c.take v++[c.getD v 0]:=by rw[gO,gB,gA h];rfl
 rw[e,List.sum_append];simp;omega
theorem Zbx {α:Type}{t p:Nat}(g g':Nat->α) (hp:p < t) (h:∀ i,i < t->i≠p->g i=g' i):((List.range t).map g).set p (g' p)=(List.range t).map g':=by
 apply ext_getElem?;intro i;rw[getElem?_set,hS_,hW_]
 by_cases e:p=i
 ·subst e;rw[if_pos rfl,if_pos hp,hV_,getElem?_range hp];rfl
 ·rw[if_neg e,hV_,hV_];rcases hU_ i t with q|q
  ·rw[getElem?_range q];show some (g i)=some (g' i);rw[h i q (Ne.symm e)]
  ·rw[getElem?_eq_none (by simpa using q)];rfl
theorem Zb7 {α:Type}{t p:Nat}(g:Nat->α) (hp:p < t):((List.range t).map g)[p]?=some (g p):=by rw[hV_,getElem?_range hp];rfl
theorem Zap {α:Type}{t:Nat}(g g':Nat->α) (h:∀ i,i < t->g i=g' i):(List.range t).map g=(List.range t).map g':=map_congr_left λi hi=>h i (mem_range.1 hi)
theorem Zmj {xs:List Nat}{n i:Nat}(hi:i < n) (hn:xs.length=n) (hx:xs[i]?=some 0):filled xs 0 n i=filled xs 0 n (i+1):=by
 rw[<-Zb2 hi hn hx]
 have e:(filled xs 0 n i)[i]?=some 0:=by
  unfold filled
  have hl:(xs.take i).length=i:=by rw[gN];omega
  rw[gT (by omega),hl,Nat.sub_self,List.getElem?_replicate,if_pos (by omega)]
 obtain⟨p1,p2⟩:=gH.1 e;have h:=set_getElem_self p1;rw[p2] at h;exact h.symm
theorem Zuh (n:Nat):2<=num n/\num n<=6:=by
 unfold num numAt
 have h:(bnd.take 4).length=4:=by unfold bnd;rw[gN,Bnds.h];rfl
 have:=List.length_filter_le (λb=>decide (b<=(n:Int))) (bnd.take 4);omega
theorem Zta {c:List Nat}{n v t:Nat}(hn:1<=n) (hn2:n<=100000000) (ht:t<=6){K:Value->Prop}(h:K (nv (blw c n v*t/n))):Bp .mul (nv (blw c n v)) (nv t) λx=>Bp .quo x (nv n) K:=by
 have h1:blw c n v<=n:=by unfold blw;omega
 have h2:blw c n v*t<=n*6:=Nat.mul_le_mul h1 ht;refine Zb8 ((blw c n v*t:Nat):Int) (Int.natCast_mul _ _).symm (by omega) (by omega) ?_;generalize blw c n v*t=z at *;have h3:z/n<=z:=Nat.div_le_self _ _;generalize hq:z/n=q at *;refine Zik (q:=(q:Int)) ?_ (by omega) (by omega) (by omega) h;rw[Int.tdiv_eq_ediv_of_nonneg (by omega),<-hq];rfl
theorem Zq5 {v:Value}{c:List Nat}{n i:Nat}(H:Holds w L) (hb:BndOk L) (hi:L[i]?=some (SL nv tI v c)) (hc:c.length<=1000000) (hcx:∀ x∈c,x<=100000000) (hn:1<=n) (hn2:n<=100000000)
  (k:∀ v' w',Same w w'->Holds w' (RR v' (firstL c n (num n))::L)->K v' w'):Cl prog 181 #[v,nv n] w K:=by
 refine Tz181 ?_;unfold Vz181;refine Znp H hb ?_;have hnl:=Zuh n;generalize hnt:num n=t at *;refine Zt5 H (by omega) λov w2 S2 H2=>?_;refine rr_ln 0 H2 rfl ?_;rw[gP]
 refine Za7 (λq w'=>∃ p:Nat,q=nv p/\p<=t/\Same w w'/\Holds w' (RR ov ((List.range t).map λj=>if j < p then List.replicate c.length 0 else [])::L)) (λq _=>t - (intOf q).toNat)
  ⟨0,rfl,hE _,S2,by
   have e:(List.range t).map (λj=>if j < 0 then List.replicate c.length 0 else ([]:List Nat))=List.replicate t []:=by
    apply ext_getElem?;intro j;rw[List.getElem?_replicate];split
    ·rename_i q;rw[Zb7 _ q,if_neg (by omega)]
    ·rename_i q;rw[getElem?_eq_none (by simpa using q)]
   rw[e];exact H2⟩ ?_
 clear H H2 S2;rintro _ _ w3 ⟨p,rfl,hp,S3,H3⟩
 have hi3:(RR ov ((List.range t).map λj=>if j < p then List.replicate c.length 0 else [])::L)[i+1]?=some (SL nv tI v c):=by rw[gF];exact hi
 refine r_lss (r_ifD (λh=>?_) λh=>?_)
 ·have hlt:p < t:=by omega
  refine r_lnS (i+1) H3 hi3 ?_;refine r_ms (f:=nv) (x:=0) H3 rfl (by omega) (by omega) λnb w4 S4 H4=>?_;rw[gC] at H4 ⊢;have H5:=H4.close 0 rfl;simp only[gJ,gP,length_nil,Nat.add_zero] at H5;refine Zt7 0 H5 rfl (by rw[hS_,hW_];exact hlt) λw5 S5 H6=>?_
  have e6:=Zbx (λj=>if j < p then List.replicate c.length 0 else ([]:List Nat)) (λj=>if j < p+1 then List.replicate c.length 0 else ([]:List Nat)) hlt (λj hj hjp=>by
   by_cases q:j < p
   ·rw[if_pos q,if_pos (by omega)]
   ·rw[if_neg q,if_neg (by omega)])
  simp only[Nat.lt_succ_self,if_true] at e6;rw[gJ,e6] at H6;refine Za0 (by omega) (r_ke ⟨⟨p+1,rfl,hlt,S3.trans (S4.trans S5),H6⟩,?_⟩);simp only[nv,intOf,gC];omega
 ·obtain rfl:p=t:=by omega
  have e0:(List.range p).map (λj=>if j < p then List.replicate c.length 0 else ([]:List Nat))=(List.range p).map λj=>filled (firstR c n p j) 0 c.length 0:=
   Zap _ _ λj hj=>by rw[if_pos hj,Ze6]
  rw[e0] at H3;refine r_lnS (i+1) H3 (by rw[gF];exact hi) ?_
  refine Zaa (λx y w'=>∃ u:Nat,x=nv (blw c n u)/\y=nv u/\u<=c.length/\Same w w'/\Holds w' (RR ov ((List.range p).map λj=>filled (firstR c n p j) 0 c.length u)::L)) (λ_ y _=>c.length - (intOf y).toNat)
   ⟨0,by unfold blw;simp,rfl,hE _,S3,H3⟩ ?_
  clear H3 S3 hi3 h e0;rintro _ _ _ w4 ⟨u,rfl,rfl,hu,S4,H4⟩;refine r_lss (r_ifD (λh=>?_) λh=>?_)
  ·have hlt:u < c.length:=by omega
   have hcu:=hcx _ (getElem_mem hlt);refine Za8 (i+1) H4 (by rw[gF];exact hi) (x:=c.getD u 0) (by rw[gB,gA hlt];rfl) ?_;refine Zta hn hn2 hnl.2 ?_;refine rr_ln 0 H4 rfl ?_;rw[hS_,hW_]
   refine Za7 (λx w'=>∃ j:Nat,x=nv j/\j<=p/\Same w w'/\Holds w' (RR ov ((List.range p).map λz=>filled (firstR c n p z) 0 c.length (if z < j then u+1 else u))::L)) (λx _=>p - (intOf x).toNat)
    ⟨0,rfl,hE _,S4,by simpa using H4⟩ ?_
   clear H4 S4;rintro _ _ w5 ⟨j,rfl,hj,S5,H5⟩;refine r_lss (r_ifD (λh2=>?_) λh2=>?_)
   ·have hjp:j < p:=by omega
    have hfg:=Zq4 (n:=n) (t:=p) (p:=j) hlt;have hfl:=Zfi c n p j
    have hnext:∀ z,z < p->z≠j->filled (firstR c n p z) 0 c.length (if z < j then u+1 else u)=filled (firstR c n p z) 0 c.length (if z < j+1 then u+1 else u):=λz _ hz=>by
     by_cases q:z < j
     ·rw[if_pos q,if_pos (by omega)]
     ·rw[if_neg q,if_neg (by omega)]
    refine r_neq (r_ifN (λq=>?_) λq=>?_)
    ·have hfv:firstV c n p j u=15:=by unfold firstV;rw[if_neg (by omega)]
     rw[hfv] at hfg
     have hrow:((List.range p).map λz=>filled (firstR c n p z) 0 c.length (if z < j then u+1 else u))[j]?=some (filled (firstR c n p j) 0 c.length u):=by
      rw[Zb7 _ hjp,if_neg (by omega)]
     obtain⟨x,R,hld,H6,_,hback,_⟩:=Zdh 0 H5 rfl hrow;refine hld _ _ λ_ hp_=>hp_ _ ?_;refine Zam (xs:=filled (firstR c n p j) 0 c.length u) 0 H6 15 rfl (by rw[Zb0 (by omega) hfl];exact hlt) rfl λw6 S6 H7=>?_;rw[gJ,Zb2 hlt hfl hfg] at H7;have H8:=hback _ [] _ H7;rw[hO_,gJ] at H8;have e:=Zbx (λz=>filled (firstR c n p z) 0 c.length (if z < j then u+1 else u)) (λz=>filled (firstR c n p z) 0 c.length (if z < j+1 then u+1 else u)) hjp hnext;simp only[Nat.lt_succ_self,if_true] at e;rw[e] at H8;refine Za0 (by omega) (r_ke ⟨⟨j+1,rfl,hjp,S5.trans S6,H8⟩,?_⟩);simp only[nv,intOf,gC];omega
    ·have hfv:firstV c n p j u=0:=by unfold firstV;rw[if_pos (by omega)]
     rw[hfv] at hfg;have hs:=Zmj hlt hfl hfg;refine Za0 (by omega) (r_ke ⟨⟨j+1,rfl,hjp,S5,?_⟩,?_⟩)
     ·have e:((List.range p).map λz=>filled (firstR c n p z) 0 c.length (if z < j then u+1 else u))=(List.range p).map λz=>filled (firstR c n p z) 0 c.length (if z < j+1 then u+1 else u):=
       Zap _ _ λz hz=>by
        by_cases g:z=j
        ·subst g;rw[if_neg (by omega),if_pos (by omega)];exact hs
        ·exact hnext z hz g
      rw[<-e];exact H5
     ·simp only[nv,intOf,gC];omega
   ·obtain rfl:j=p:=by omega
    have e:((List.range j).map λz=>filled (firstR c n j z) 0 c.length (if z < j then u+1 else u))=(List.range j).map λz=>filled (firstR c n j z) 0 c.length (u+1):=
     Zap _ _ λz hz=>by rw[if_pos hz]
    rw[e] at H5
    have hbl:blw c n u<=n:=by unfold blw;omega
    have hcg:c.getD u 0<=100000000:=by rw[gB,gA hlt];exact hcu
    refine Za9 (by omega) ?_;refine Zab (by omega) (by omega) (r_min ?_);rw[show min (((blw c n u+c.getD u 0:Nat)):Int) (((n - 1:Nat)):Int)=((min (blw c n u+c.getD u 0) (n - 1):Nat):Int) by omega,blw_succ hlt];refine Za0 (by omega) (r_ke ⟨⟨u+1,rfl,rfl,by omega,S5,H5⟩,?_⟩);simp only[nv,intOf,gC];omega
  ·obtain rfl:u=c.length:=by omega
   have e:((List.range p).map λj=>filled (firstR c n p j) 0 c.length c.length)=firstL c n p:=
    Zap _ _ λz hz=>Zct (Zfi c n p z)
   rw[e] at H4;exact k _ _ S4 H4
def bst (c:Nat->Nat):Nat->Nat
 |0=>0
 |p+1=>if c p < c (bst c p) then p else bst c p
def pk (g:List Nat) (ts:List (List Nat)):Nat:=bst (λp=>cost g (ts.getD p [])) ts.length
theorem Zua (c:Nat->Nat):∀ n,0 < n->bst c n < n
 |0,h=>by omega
 |n+1,_=>by
  rw[bst];split
  ·omega
  ·rcases Nat.eq_zero_or_pos n with q|q
   ·subst q;exact Nat.zero_lt_one
   ·have:=Zua c n q;omega
structure Tb (size:Nat) (ts:List (List Nat)):Prop where
 n2:2<=ts.length
 n6:ts.length<=6
 sz:∀ t∈ts,t.length=size
 le:∀ t∈ts,∀ x∈t,x<=20
theorem Zd1 {ts:List (List Nat)}{p:Nat}(h:p < ts.length):ts.getD p []∈ts:=by rw[gB,gA h];exact getElem_mem h
theorem Zgr {ts:List (List Nat)}{p:Nat}(h:p < ts.length):ts[p]?=some (ts.getD p []):=by rw[gB,gA h];rfl
theorem pick_spec {v tv:Value}{g:List Nat}{ts:List (List Nat)}{size i j:Nat}(H:Holds w L) (hi:L[i]?=some (SL nv tI v g)) (hj:L[j]?=some (RR tv ts)) (hij:i≠j) (hT:Tb size ts) (hs:size<=258) (hg:g.length<=50) (hgx:∀ x∈g,x < size)
  (k:K (nv (pk g ts)) w):Cl prog 202 #[v,tv] w K:=by
 refine Tz202 ?_;unfold Vz202;have h6:=hT.n6;have h2:=hT.n2;refine rr_ln j H hj ?_
 have hcl:∀ p,p < ts.length->cost g (ts.getD p [])<=1000:=λp hp=>by
  have:=Zj8 (hT.le _ (Zd1 hp)) g;omega
 refine Zuo (λb l x w'=>∃ (p m:Nat),b=nv (bst (λp=>cost g (ts.getD p [])) p)/\l=nv m/\x=nv p/\p<=ts.length/\(if p=0 then m=1099511627776 else m=cost g (ts.getD (bst (λp=>cost g (ts.getD p [])) p) []))/\w=w') (λ_ _ x _=>ts.length - (intOf x).toNat)
  ⟨0,1099511627776,rfl,rfl,rfl,hE _,by rw[if_pos rfl],rfl⟩ ?_
 rintro _ _ _ _ _ ⟨p,m,rfl,rfl,rfl,hp,hm,rfl⟩;refine r_lss (r_ifD (λh=>?_) λh=>?_)
 ·have hlt:p < ts.length:=by omega
  have hq:ts[p]?=some (ts.getD p []):=by rw[gB,gA hlt];rfl
  have hmem:ts.getD p []∈ts:=by rw[gB,gA hlt];exact getElem_mem hlt
  have htl:=hT.sz _ hmem;obtain⟨x,R,hld,H6,_,_⟩:=Zdh j H hj hq;refine hld _ _ λ_ hp_=>hp_ _ ?_;refine Zkz H6 (i:=i+1) (j:=0) (by rw[gF,hY_ (Ne.symm hij)];exact hi) rfl (by omega) (by omega) (hT.le _ hmem) (λx hx=>by rw[htl];exact hgx x hx) ?_;refine Za3 (Za4 ?_)
  have hbs:bst (λp=>cost g (ts.getD p [])) (p+1)=if cost g (ts.getD p []) < cost g (ts.getD (bst (λp=>cost g (ts.getD p [])) p) []) then p else bst (λp=>cost g (ts.getD p [])) p:=rfl
  have hc1:=hcl p hlt;generalize hb:bst (λp=>cost g (ts.getD p [])) p=b at *;refine r_lss (r_ifD (λq=>?_) λq=>?_)
  ·refine Za0 (by omega) (r_ke ⟨⟨p+1,cost g (ts.getD p []),?_,rfl,rfl,by omega,?_,rfl⟩,?_⟩)
   ·rw[hbs];rcases Nat.eq_zero_or_pos p with e|e
    ·subst e;have:b=0:=hb.symm;subst this;rw[if_neg (Nat.lt_irrefl _)]
    ·rw[if_neg (by omega)] at hm;rw[if_pos (by omega)]
   ·rw[if_neg (by omega),hbs];rcases Nat.eq_zero_or_pos p with e|e
    ·subst e;have:b=0:=hb.symm;subst this;rw[if_neg (Nat.lt_irrefl _)]
    ·rw[if_neg (by omega)] at hm;rw[if_pos (by omega)]
   ·simp only[nv,intOf,gC];omega
  ·have hp0:p≠0:=λe=>by rw[if_pos e] at hm;omega
   rw[if_neg hp0] at hm;refine Za0 (by omega) (r_ke ⟨⟨p+1,m,?_,rfl,rfl,by omega,?_,rfl⟩,?_⟩)
   ·rw[hbs,if_neg (by omega)]
   ·rw[if_neg (by omega),hbs,if_neg (by omega)];exact hm
   ·simp only[nv,intOf,gC];omega
 ·obtain rfl:p=ts.length:=by omega
  exact k
end T12
end Go.Proofs.YtpmjeiliblgajaaGreatDoor
