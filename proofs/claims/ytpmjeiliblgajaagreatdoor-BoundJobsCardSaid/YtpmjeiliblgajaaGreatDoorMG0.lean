/- Several texts in one: M18, P18, Mr, Mt, Mu, My, Sl, Sq, Sr, St, Su, M01, Mb, Mq, M10, Mc, Mz2, Mz, Cl, Rb, P13, D11, Rn. -/
import Derived.WalkKit
import Derived.Test.YtpmjeiliblgajaaGreatDoorVc
import Derived.Deep.DeepAppendRoom
import Derived.Laws.RangeString
import Derived.Lib.OthersKept
import Derived.Deep.Upon
import Derived.Laws.CopyRow
import Derived.Laws.IdiomCopy
import Derived.Laws.IdiomStrings
import Derived.Test.YtpmjeiliblgajaaGreatDoorFm
set_option linter.unusedVariables false
set_option linter.unusedSimpArgs false
set_option linter.unusedSectionVars false
open Go.RowKit (intOf)
open List (count_cons drop_append_of_le_length drop_drop drop_of_length_le drop_zero ext_getElem? filter_cons getElem?_eq_none getElem?_set getElem_mem length_cons length_nil map_congr_left mem_cons mem_filter mem_range nodup_range pairwise_cons pairwise_iff_getElem range_succ set_append_right set_set take_zero)
namespace Go.M18
def blw (l:List UInt8) (b:Nat):Nat:=l.countP λc=>decide (c.toNat < b)
def cntB (l:List UInt8) (b:Nat):Nat:=l.countP λc=>c.toNat==b
def nx (l:List UInt8) (s:Nat) (b:Nat):Nat:=if s < l.length then cntB (l.take s) b else blw l b+cntB (l.take (s - l.length)) b
def nxL (l:List UInt8) (s:Nat):List Nat:=(List.range 256).map (nx l s)
def pos (l:List UInt8) (j:Nat):Nat:=blw l (l.getD j 0).toNat+cntB (l.take j) (l.getD j 0).toNat
def lnk (l:List UInt8):Nat->List Nat
 |0=>List.replicate l.length 0
 |i+1=>(lnk l i).set (pos l i) i
def lnS (l:List UInt8) (s:Nat):List Nat:=lnk l (min (s - l.length) l.length)
def links (l:List UInt8):List Nat:=lnk l l.length
def atK (l:List UInt8) (o:Nat):Nat->Nat
 |0=>o
 |k+1=>(links l).getD (atK l o k) 0
def outK (l:List UInt8) (o:Nat):Nat->List UInt8
 |0=>[]
 |k+1=>outK l o k++[l.getD (atK l o (k+1)) 0]
def text (l:List UInt8) (o:Nat):List UInt8:=outK l o l.length
def exB (f:Nat->Nat):Nat->Nat
 |0=>0
 |b+1=>exB f b+f b
theorem Zy6 (l:List UInt8) (b:Nat):blw l b<=l.length:=List.countP_le_length
theorem cnt_le (l:List UInt8) (b:Nat):cntB l b<=l.length:=List.countP_le_length
theorem blw_succ (l:List UInt8) (b:Nat):blw l (b+1)=blw l b+cntB l b:=by
 unfold blw cntB
 induction l with
 |nil=>rfl
 |cons c l ih=>
  simp only[List.countP_cons,ih]
  by_cases h1:c.toNat < b
  ·have h2:¬ c.toNat=b:=by omega
   have h3:c.toNat < b+1:=by omega
   simp[h1,h2,h3];omega
  ·by_cases h2:c.toNat=b
   ·have h3:c.toNat < b+1:=by omega
    simp[h1,h2,h3];omega
   ·have h3:¬ c.toNat < b+1:=by omega
    simp[h1,h2,h3]
theorem Zvd (l:List UInt8):blw l 0=0:=by
 unfold blw;rw[List.countP_eq_zero];intro c _;simp
theorem Zre (l:List UInt8) (i:Nat) (h:i < l.length):l.take (i+1)=l.take i++[l.getD i 0]:=by
 rw[gO,gA h];simp[List.getD,h]
theorem Zbs (l:List UInt8) (i b:Nat) (h:i < l.length):cntB (l.take (i+1)) b=cntB (l.take i) b+if (l.getD i 0).toNat=b then 1 else 0:=by
 rw[Zre l i h];unfold cntB;rw[List.countP_append]
 congr 1
 simp[List.countP_cons]
theorem Zmp (l:List UInt8) (i b:Nat):cntB (l.take i) b<=cntB l b:=by
 unfold cntB;exact List.Sublist.countP_le (List.take_sublist i l)
theorem Znq (l:List UInt8) (i:Nat) (h:i < l.length):cntB (l.take i) (l.getD i 0).toNat < cntB l (l.getD i 0).toNat:=by
 have h1:=Zbs l i (l.getD i 0).toNat h;have h2:=Zmp l (i+1) (l.getD i 0).toNat;simp at h1;simp at h2;simp only[List.getD] at *;omega
theorem Zzf (l:List UInt8) (i:Nat) (h:i < l.length):pos l i < l.length:=by
 unfold pos;have h1:=Znq l i h;have h2:=Zy6 l ((l.getD i 0).toNat+1);rw[blw_succ] at h2;omega
theorem Zv2 (l:List UInt8) (i:Nat):(lnk l i).length=l.length:=by
 induction i with
 |zero=>simp[lnk]
 |succ i ih=>simp[lnk,ih]
theorem Zy3 (l:List UInt8):∀ (i:Nat),i<=l.length->∀ x∈lnk l i,x < max l.length 1
 |0,_,x,hx=>by simp[lnk] at hx;omega
 |i+1,h,x,hx=>by
  rcases List.mem_or_eq_of_mem_set hx with h1|h1
  ·exact Zy3 l i (by omega) x h1
  ·omega
theorem Zw7 (l:List UInt8) (a:Nat) (h:0 < l.length):(links l).getD a 0 < l.length:=by
 rcases hU_ a (links l).length with ha|ha
 ·have:=Zy3 l l.length (Nat.le_refl _) ((links l)[a]) (getElem_mem ha);simp[List.getD,ha];omega
 ·simp[List.getD,getElem?_eq_none ha];exact h
theorem Zxe (l:List UInt8) (o:Nat) (ho:o < l.length):∀ k,atK l o k < l.length
 |0=>ho
 |k+1=>Zw7 l _ (by omega)
theorem Zp7 (l:List UInt8) (o:Nat) (k:Nat):(outK l o k).length=k:=by
 induction k with
 |zero=>rfl
 |succ k ih=>simp[outK,ih]
theorem Zav (l:List UInt8) (s:Nat):(nxL l s).length=256:=by simp[nxL]
theorem Zdg (l:List UInt8) (s b:Nat) (h:b < 256):(nxL l s)[b]?=some (nx l s b):=by simp[nxL,h]
theorem nx_le (l:List UInt8) (s b:Nat):nx l s b<=2*l.length:=by
 unfold nx;split
 ·have:=cnt_le (l.take s) b;simp at this;omega
 ·have:=Zy6 l b;have:=cnt_le (l.take (s - l.length)) b;simp at this;omega
theorem Zm7 (l:List UInt8) (i:Nat):(l.getD i 0).toNat < 256:=UInt8.toNat_lt _
theorem nx_lo {l:List UInt8}{s b:Nat}(h:s < l.length):nx l s b=cntB (l.take s) b:=if_pos h
theorem nx_hi {l:List UInt8}{s b:Nat}(h:l.length<=s):nx l s b=blw l b+cntB (l.take (s - l.length)) b:=if_neg (by omega)
theorem Zv1 (l:List UInt8) (s:Nat) (h:s+1 < l.length):(nxL l s).set (l.getD s 0).toNat (nx l s (l.getD s 0).toNat+1)=nxL l (s+1):=by
 have hb:=Zm7 l s;apply ext_getElem?;intro j;rw[getElem?_set,Zav]
 by_cases hj:j < 256
 ·rw[Zdg _ _ _ hj,Zdg _ _ _ hj,nx_lo (by omega),nx_lo (by omega),nx_lo (by omega),Zbs l s j (by omega)]
  by_cases e:(l.getD s 0).toNat=j
  ·rw[e,if_pos rfl,if_pos hj,if_pos rfl]
  ·rw[if_neg e,if_neg e,Nat.add_zero]
 ·have h1:(l.getD s 0).toNat≠j:=by omega
  rw[if_neg h1,getElem?_eq_none (by rw[Zav];omega),getElem?_eq_none (by rw[Zav];omega)]
theorem Zu0 (l:List UInt8) (s:Nat) (h:s+1=l.length) :
  (List.range 256).map (exB λb=>((nxL l s).set (l.getD s 0).toNat (nx l s (l.getD s 0).toNat+1)).getD b 0)=nxL l (s+1):=by
 have hc:∀ b,b < 256->((nxL l s).set (l.getD s 0).toNat (nx l s (l.getD s 0).toNat+1)).getD b 0=cntB l b:=by
  intro b hb
  have ht:cntB l b=cntB (l.take (s+1)) b:=by rw[h,hF_]
  have hg:((nxL l s).set (l.getD s 0).toNat (nx l s (l.getD s 0).toNat+1))[b]?=some (cntB (l.take (s+1)) b):=by
   rw[getElem?_set,Zav,Zdg _ _ _ hb,nx_lo (by omega),nx_lo (by omega),Zbs l s b (by omega)]
   by_cases e:(l.getD s 0).toNat=b
   ·rw[e,if_pos rfl,if_pos hb,if_pos rfl]
   ·rw[if_neg e,if_neg e,Nat.add_zero]
  rw[ht];rw[gB,hg];rfl
 have he:∀ b,b<=256->exB (λb=>((nxL l s).set (l.getD s 0).toNat (nx l s (l.getD s 0).toNat+1)).getD b 0) b=blw l b:=by
  intro b
  induction b with
  |zero=>intro _;exact (Zvd l).symm
  |succ b ih=>intro hb;rw[exB,ih (by omega),hc b (by omega),blw_succ]
 show _=(List.range 256).map (nx l (s+1));apply map_congr_left;intro b hb;rw[mem_range] at hb;rw[he b (by omega),nx_hi (by omega),show s+1 - l.length=0 by omega];simp[cntB]
theorem Zve (l:List UInt8) (s:Nat) (h1:l.length<=s) (h2:s < 2*l.length) :
  (nxL l s).set (l.getD (s - l.length) 0).toNat (nx l s (l.getD (s - l.length) 0).toNat+1)=nxL l (s+1):=by
 apply ext_getElem?;intro j;rw[getElem?_set,Zav]
 by_cases hj:j < 256
 ·rw[Zdg _ _ _ hj,Zdg _ _ _ hj,nx_hi (by omega),nx_hi (by omega),nx_hi (by omega),show s+1 - l.length=(s - l.length)+1 by omega,Zbs l _ j (by omega)]
  by_cases e:(l.getD (s - l.length) 0).toNat=j
  ·rw[e,if_pos rfl,if_pos hj,if_pos rfl,hG_]
  ·rw[if_neg e,if_neg e,Nat.add_zero]
 ·have h3:(l.getD (s - l.length) 0).toNat≠j:=by have:=Zm7 l (s - l.length);omega
  rw[if_neg h3,getElem?_eq_none (by rw[Zav];omega),getElem?_eq_none (by rw[Zav];omega)]
theorem Zzz (l:List UInt8) (s:Nat) (h1:l.length<=s):nx l s (l.getD (s - l.length) 0).toNat=pos l (s - l.length):=by
 rw[nx_hi h1];rfl
theorem Zwy (l:List UInt8) (s:Nat) (h1:l.length<=s) (h2:s < 2*l.length):(lnS l s).set (pos l (s - l.length)) (s - l.length)=lnS l (s+1):=by
 unfold lnS;rw[Nat.min_eq_left (by omega),Nat.min_eq_left (by omega),show s+1 - l.length=(s - l.length)+1 by omega];rfl
theorem Ztt (l:List UInt8) (s:Nat) (h:s < l.length):lnS l s=lnS l (s+1):=by
 unfold lnS;rw[show s - l.length=0 by omega,show s+1 - l.length=0 by omega]
theorem Zpl (l:List UInt8) (s:Nat) (h:2*l.length<=s):lnS l s=links l:=by
 unfold lnS links;rw[Nat.min_eq_right (by omega)]
theorem Zwe (l:List UInt8) (s:Nat) (h:2*l.length<=s):nxL l s=nxL l (s+1):=by
 unfold nxL;apply map_congr_left;intro b _;rcases hU_ s l.length with h3|h3
 ·omega
 ·rw[nx_hi h3,nx_hi (by omega),gK (by omega),gK (by omega)]
theorem Zjc (l:List UInt8) (s:Nat):(lnS l s).length=l.length:=Zv2 _ _
theorem set_mid {α:Type}(f:Nat->α) (l:List α) (j:Nat) (h:j < l.length):((List.range j).map f++l.drop j).set j (f j)=(List.range (j+1)).map f++l.drop (j+1):=by
 have hl0:((List.range j).map f).length=j:=by simp
 rw[set_append_right _ _ (by omega),hl0,Nat.sub_self,List.drop_eq_getElem_cons h,gJ,range_succ,List.map_append,gI];rfl
end Go.M18
namespace Go.M18
abbrev bl:=Op.bytesLess
theorem Zes:∀ a:List UInt8,bl a a=false
 |[]=>rfl
 |a::x=>by
  have:=Zes x;simp[bl,Op.bytesLess] at this ⊢;exact this
theorem Zgy (a b:UInt8) (x y:List UInt8):bl (a::x) (b::y)=(decide (a < b)||(a==b&&bl x y)):=rfl
theorem Zj9:∀ a b c:List UInt8,bl a b=true->bl b c=true->bl a c=true
 |_,[],_,h,_=>by cases ‹List UInt8› <;> simp[bl,Op.bytesLess] at h
 |_,_::_,[],_,h=>by simp[bl,Op.bytesLess] at h
 |[],_::_,_::_,_,_=>rfl
 |a::x,b::y,c::z,h,k=>by
  rw[Zgy] at *;simp only[Bool.or_eq_true,decide_eq_true_iff,Bool.and_eq_true,beq_iff_eq,UInt8.lt_iff_toNat_lt] at *;rcases h with h|⟨rfl,h⟩
  ·rcases k with k|⟨rfl,k⟩
   ·exact .inl (by omega)
   ·exact .inl h
  ·rcases k with k|⟨rfl,k⟩
   ·exact .inl k
   ·exact .inr ⟨rfl,Zj9 x y z h k⟩
theorem Zom:∀ a b:List UInt8,bl a b=true\/a=b\/bl b a=true
 |[],[]=>.inr (.inl rfl)
 |[],_::_=>.inl rfl
 |_::_,[]=>.inr (.inr rfl)
 |a::x,b::y=>by
  rw[Zgy,Zgy];simp only[Bool.or_eq_true,decide_eq_true_iff,Bool.and_eq_true,beq_iff_eq,UInt8.lt_iff_toNat_lt];rcases Nat.lt_trichotomy a.toNat b.toNat with h|h|h
  ·exact .inl (.inl h)
  ·have e:a=b:=UInt8.toNat_inj.1 h;subst e;rcases Zom x y with h|h|h
   ·exact .inl (.inr ⟨rfl,h⟩)
   ·exact .inr (.inl (by rw[h]))
   ·exact .inr (.inr (.inr ⟨rfl,h⟩))
  ·exact .inr (.inr (.inl h))
theorem Zvi {a b:List UInt8}(h:bl a b=true):bl b a=false:=by
 cases k:bl b a with
 |false=>rfl
 |true=>rw[<-Zes a,Zj9 a b a h k]
def ble (a b:List UInt8):Prop:=bl b a=false
def rot (s:List UInt8) (i:Nat):List UInt8:=s.drop i++s.take i
def lastB (r:List UInt8):UInt8:=r.getD (r.length - 1) 0
theorem lastB_snoc (x:List UInt8) (c:UInt8):lastB (x++[c])=c:=by simp[lastB]
theorem Zcx (s:List UInt8) (i:Nat) (h:i<=s.length):(rot s i).length=s.length:=by
 simp[rot];omega
theorem Zv6 (s:List UInt8):rot s 0=s:=by simp[rot]
def aheadP (s:List UInt8) (i k:Nat):Bool:=bl (rot s i) (rot s k)||(decide (rot s i=rot s k)&&decide (i < k))
def insP (s:List UInt8) (i:Nat):List Nat->List Nat
 |[]=>[i]
 |k::r=>if aheadP s i k then i::k::r else k::insP s i r
def sortP (s:List UInt8):Nat->List Nat
 |0=>[]
 |i+1=>insP s i (sortP s i)
theorem Zhd (s:List UInt8) (i:Nat):∀ l,(insP s i l).Perm (i::l)
 |[]=>.refl _
 |k::r=>by
  rw[insP];split
  ·exact .refl _
  ·exact ((Zhd s i r).cons k).trans (.swap i k r)
theorem Zcn (s:List UInt8):∀ n,(sortP s n).Perm (List.range n)
 |0=>.refl _
 |n+1=>by
  rw[sortP,range_succ];exact ((Zhd s n _).trans ((Zcn s n).cons n)).trans (List.perm_append_comm (l₁:=[n]))
theorem Zcp (s:List UInt8) (n:Nat):(sortP s n).length=n:=by rw[(Zcn s n).length_eq,hW_]
theorem Zeu (s:List UInt8) (n x:Nat):x∈sortP s n↔x < n:=by rw[(Zcn s n).mem_iff,mem_range]
theorem Zmf (s:List UInt8) (n:Nat):(sortP s n).Nodup:=(Zcn s n).symm.nodup nodup_range
def lastL (s:List UInt8):List UInt8:=(sortP s s.length).map λi=>lastB (rot s i)
theorem Zl9 (s:List UInt8):(lastL s).length=s.length:=by simp[lastL,Zcp]
end Go.M18
namespace Go.Mr
abbrev Key:=Nat->Nat × Nat
def klt (p q:Nat × Nat):Prop:=p.1 < q.1\/(p.1=q.1/\p.2 < q.2)
instance (p q:Nat × Nat):Decidable (klt p q):=inferInstanceAs (Decidable (_\/_))
def le (k:Key) (a b:Nat):Prop:=klt (k a) (k b)\/(k a=k b/\a<=b)
instance (k:Key) (a b:Nat):Decidable (le k a b):=inferInstanceAs (Decidable (_\/_))
theorem kext {p q:Nat × Nat}:p=q↔p.1=q.1/\p.2=q.2:=⟨λh=>by rw[h];exact⟨rfl,rfl⟩,λh=>Prod.ext h.1 h.2⟩
theorem le_refl (k:Key) (a:Nat):le k a a:=.inr ⟨rfl,Nat.le_refl _⟩
theorem le_total (k:Key) (a b:Nat):le k a b\/le k b a:=by
 unfold le klt;rw[kext,kext];omega
theorem le_trans {k:Key}{a b c:Nat}(h:le k a b) (g:le k b c):le k a c:=by
 unfold le klt at *;rw[kext] at *;omega
theorem Znc {k:Key}{a b:Nat}(h:le k a b) (g:le k b a):a=b:=by
 unfold le klt at *;rw[kext] at *;omega
theorem Zqc {k:Key}{a b:Nat}(h:¬ klt (k b) (k a)) (e:k a=k b->a<=b):le k a b:=by
 unfold le
 by_cases q:k a=k b
 ·exact .inr ⟨q,e q⟩
 ·refine .inl ?_;unfold klt at *;rw[kext] at q;omega
def ins (k:Key) (a:Nat):List Nat->List Nat
 |[]=>[a]
 |b::l=>if le k a b then a::b::l else b::ins k a l
def isort (k:Key):List Nat->List Nat
 |[]=>[]
 |a::l=>ins k a (isort k l)
theorem Zjh (k:Key) (a:Nat):∀ l,(ins k a l).Perm (a::l)
 |[]=>.refl _
 |b::l=>by
  rw[ins];split
  ·exact .refl _
  ·exact ((Zjh k a l).cons b).trans (.swap a b l)
theorem Zas (k:Key):∀ l,(isort k l).Perm l
 |[]=>.refl _
 |a::l=>(Zjh k a _).trans ((Zas k l).cons a)
theorem Zie (k:Key) (a:Nat):∀ l,l.Pairwise (le k)->(ins k a l).Pairwise (le k)
 |[],_=>by simp[ins]
 |b::l,h=>by
  rw[pairwise_cons] at h;rw[ins];split
  ·rename_i q;rw[pairwise_cons,pairwise_cons];refine⟨λx hx=>?_,h.1,h.2⟩;rcases mem_cons.1 hx with rfl|hx
   ·exact q
   ·exact le_trans q (h.1 x hx)
  ·rename_i q;rw[pairwise_cons];refine⟨λx hx=>?_,Zie k a l h.2⟩;rcases mem_cons.1 ((Zjh k a l).mem_iff.1 hx) with rfl|hx
   ·exact (le_total k x b).resolve_left q
   ·exact h.1 x hx
theorem Zaq (k:Key):∀ l,(isort k l).Pairwise (le k)
 |[]=>.nil
 |a::l=>Zie k a _ (Zaq k l)
theorem Znk {k:Key}{a b:List Nat}(ha:a.Pairwise (le k)) (hb:b.Pairwise (le k)) (h:a.Perm b):a=b:=
 List.Perm.eq_of_pairwise (λx y _ _=>Znc) ha hb h
theorem Zjg {k:Key}{a l:List Nat}(ha:a.Pairwise (le k)) (h:a.Perm l):a=isort k l:=Znk ha (Zaq k l) (h.trans (Zas k l).symm)
theorem Znt {k:Key}{a b:List Nat}(h:a.Perm b):isort k a=isort k b:=Zjg (Zaq k a) ((Zas k a).trans h)
def mrg (k:Key):List Nat->List Nat->List Nat
 |[],B=>B
 |a::A,[]=>a::A
 |a::A,b::B=>if klt (k b) (k a) then b::mrg k (a::A) B else a::mrg k A (b::B)
termination_by A B=>A.length+B.length
theorem Zjf (k:Key) (B:List Nat):mrg k [] B=B:=by rw[mrg]
theorem Zkd (k:Key) (A:List Nat):mrg k A []=A:=by cases A <;> rw[mrg]
theorem Zje (k:Key) (a:Nat) (A:List Nat) (b:Nat) (B:List Nat):mrg k (a::A) (b::B)=if klt (k b) (k a) then b::mrg k (a::A) B else a::mrg k A (b::B):=by rw[mrg]
theorem Zt1 (k:Key):∀ (n:Nat) (A B:List Nat),A.length+B.length<=n->A.Pairwise (le k)->B.Pairwise (le k)->(∀ a∈A,∀ b∈B,k a=k b->a<=b)->(mrg k A B).Perm (A++B)/\(mrg k A B).Pairwise (le k)
 |n,[],B,_,_,hB,_=>by rw[Zjf];exact⟨.refl _,hB⟩
 |n,a::A,[],_,hA,_,_=>by rw[Zkd,gU];exact⟨.refl _,hA⟩
 |0,a::A,b::B,hn,_,_,_=>by simp at hn
 |n+1,a::A,b::B,hn,hA,hB,hc=>by
  rw[Zje];simp only[length_cons] at hn;rw[pairwise_cons] at hA hB;split
  ·rename_i q;have h:=Zt1 k n (a::A) B (by simp only[length_cons];omega) (pairwise_cons.2 hA) hB.2 λx hx y hy=>hc x hx y (hK_ _ hy);refine⟨(h.1.cons b).trans (List.perm_middle.symm),pairwise_cons.2 ⟨λx hx=>?_,h.2⟩⟩;rcases hT_.1 (h.1.mem_iff.1 hx) with hx|hx
   ·have h1:le k b a:=.inl q;rcases mem_cons.1 hx with rfl|hx
    ·exact h1
    ·exact le_trans h1 (hA.1 x hx)
   ·exact hB.1 x hx
  ·rename_i q;have h:=Zt1 k n A (b::B) (by simp only[length_cons];omega) hA.2 (pairwise_cons.2 hB) λx hx y hy=>hc x (hK_ _ hx) y hy;refine⟨h.1.cons a,pairwise_cons.2 ⟨λx hx=>?_,h.2⟩⟩;rcases hT_.1 (h.1.mem_iff.1 hx) with hx|hx
   ·exact hA.1 x hx
   ·have h1:le k a b:=Zqc q λe=>hc a (hJ_ ..) b (hJ_ ..) e;rcases mem_cons.1 hx with rfl|hx
    ·exact h1
    ·exact le_trans h1 (hB.1 x hx)
structure Pt where
 lo:Nat
 mid:Nat
 hi:Nat
def seg (R:List Nat) (lo hi:Nat):List Nat:=(R.drop lo).take (hi - lo)
def rep (R:List Nat) (lo hi:Nat) (X:List Nat):List Nat:=R.take lo++X++R.drop hi
theorem Zdl {R:List Nat}{lo hi:Nat}(h:hi<=R.length):(seg R lo hi).length=hi - lo:=by unfold seg;rw[gN,gS];omega
theorem Zd8 {R:List Nat}{lo mid hi:Nat}(h1:lo<=mid) (h2:mid<=hi):seg R lo hi=seg R lo mid++seg R mid hi:=by
 unfold seg;rw[show hi - lo=(mid - lo)+(hi - mid) by omega,List.take_add,drop_drop,show lo+(mid - lo)=mid by omega]
theorem cut3 (R:List Nat){lo hi:Nat}(h:lo<=hi):R=R.take lo++seg R lo hi++R.drop hi:=by
 have h1:R.drop lo=seg R lo hi++R.drop hi:=by
  unfold seg;have:=(hN_ (hi - lo) (R.drop lo)).symm;rw[drop_drop,show lo+(hi - lo)=hi by omega] at this;exact this
 rw[gI,<-h1,hN_]
theorem Zyt {R X:List Nat}{lo hi:Nat}(h:lo<=hi) (h2:hi<=R.length) (hX:X.length=hi - lo):(rep R lo hi X).length=R.length:=by
 unfold rep;simp only[gD,gN,gS];omega
theorem Ztr {R X:List Nat}{lo hi:Nat}(h:lo<=hi) (h2:hi<=R.length) (hX:X.length=hi - lo):seg (rep R lo hi X) lo hi=X:=by
 unfold rep seg
 have e:(R.take lo).length=lo:=by rw[gN];omega
 rw[gI,drop_append_of_le_length (by omega),drop_of_length_le (by omega),hO_,List.take_append_of_le_length (by omega),gK (by omega)]
theorem Zpn {R X:List Nat}{lo hi:Nat}(h:lo<=R.length):(rep R lo hi X).take lo=R.take lo:=by
 unfold rep
 have e:(R.take lo).length=lo:=by rw[gN];omega
 rw[gI,List.take_append_of_le_length (by omega),gK (by omega)]
theorem Zod {R X:List Nat}{lo hi:Nat}(h:lo<=hi) (h2:hi<=R.length) (hX:X.length=hi - lo):(rep R lo hi X).drop hi=R.drop hi:=by
 unfold rep
 have e:(R.take lo++X).length=hi:=by rw[gD,gN];omega
 rw[drop_append_of_le_length (by omega),drop_of_length_le (by omega),hO_]
theorem Zwj {R X:List Nat}{lo hi:Nat}(h:lo<=hi) (hX:X.Perm (seg R lo hi)):(rep R lo hi X).Perm R:=by
 have e:=cut3 R h;unfold rep;refine List.Perm.trans ?_ (List.Perm.of_eq e.symm);exact (hX.append_left _).append_right _
theorem Zgm {R R':List Nat}{a b lo:Nat}(hb:b<=lo) (e:R'.take lo=R.take lo):seg R' a b=seg R a b:=by
 unfold seg;rw[<-List.drop_take,<-List.drop_take]
 have e1:∀ Q:List Nat,Q.take b=(Q.take lo).take b:=λQ=>by rw[List.take_take,Nat.min_eq_left hb]
 rw[e1 R',e1 R,e]
theorem Zhl {R R':List Nat}{a b hi:Nat}(ha:hi<=a) (e:R'.drop hi=R.drop hi):seg R' a b=seg R a b:=by
 unfold seg
 have e1:∀ Q:List Nat,Q.drop a=(Q.drop hi).drop (a - hi):=λQ=>by rw[drop_drop,show hi+(a - hi)=a by omega]
 rw[e1 R',e1 R,e]
variable {k:Key}{n:Nat}
def ap (k:Key) (p:Pt) (R:List Nat):List Nat:=rep R p.lo p.hi (isort k (seg R p.lo p.hi))
def run (k:Key):List Pt->List Nat->List Nat
 |[],R=>R
 |p::st,R=>run k st (ap k p R)
def Cond (k:Key) (p:Pt) (R:List Nat):Prop:=
 if p.mid=0 then (seg R p.lo p.hi).Pairwise λa b=>k a=k b->a<=b
 else p.lo < p.mid/\p.mid < p.hi/\(seg R p.lo p.mid).Pairwise (le k)/\(seg R p.mid p.hi).Pairwise (le k)/\∀ a∈seg R p.lo p.mid,∀ b∈seg R p.mid p.hi,k a=k b->a<=b
def WF (k:Key) (n:Nat):List Pt->List Nat->Prop
 |[],_=>True
 |p::st,R=>(p.lo < p.hi/\p.hi<=n)/\Cond k p R/\WF k n st (ap k p R)
theorem Zex (l:List Nat):(isort k l).length=l.length:=(Zas k l).length_eq
theorem Zxr {p:Pt}{R:List Nat}(h:p.lo<=p.hi) (h2:p.hi<=R.length):(ap k p R).length=R.length:=Zyt h h2 (by rw[Zex,Zdl h2])
theorem Zz5 {p:Pt}{R:List Nat}(h:p.lo<=p.hi):(ap k p R).Perm R:=Zwj h (Zas _ _)
theorem ap_eq {p:Pt}{R R':List Nat}(h:p.lo<=p.hi) (h2:p.hi<=R.length) (h3:R'.length=R.length) (ht:R'.take p.lo=R.take p.lo) (hd:R'.drop p.hi=R.drop p.hi) (hs:(seg R' p.lo p.hi).Pairwise (le k)) (hp:(seg R' p.lo p.hi).Perm (seg R p.lo p.hi)):R'=ap k p R:=by
 have e:=cut3 R' h;rw[ht,hd,Zjg hs hp] at e;exact e
theorem Zzp {p:Pt}{R:List Nat}(h:p.lo < p.hi) (h2:p.hi<=R.length) (h1:p.hi - p.lo < 2):ap k p R=R:=by
 refine (ap_eq (Nat.le_of_lt h) h2 rfl rfl rfl ?_ (.refl _)).symm;have:=Zdl (lo:=p.lo) h2
 match hl:seg R p.lo p.hi with
 |[]=>exact .nil
 |[x]=>exact List.pairwise_singleton _ _
 |x::y::r=>rw[hl] at this;simp at this;omega
theorem Zx2 {lo hi:Nat}{st:List Pt}{R:List Nat}(hn:R.length=n) (h2:2<=hi - lo) (h:WF k n (⟨lo,0,hi⟩::st) R) :
  WF k n (⟨lo,0,(lo+hi)/2⟩::⟨(lo+hi)/2,0,hi⟩::⟨lo,(lo+hi)/2,hi⟩::st) R/\
  run k (⟨lo,0,(lo+hi)/2⟩::⟨(lo+hi)/2,0,hi⟩::⟨lo,(lo+hi)/2,hi⟩::st) R=run k (⟨lo,0,hi⟩::st) R:=by
 obtain⟨⟨h0,hh⟩,hc,hw⟩:=h;simp only at h0 hh;generalize hm:(lo+hi)/2=mid
 have m1:lo < mid:=by omega
 have m2:mid < hi:=by omega
 unfold Cond at hc;rw[if_pos rfl] at hc;simp only at hc;rw[Zd8 (Nat.le_of_lt m1) (Nat.le_of_lt m2),List.pairwise_append] at hc;obtain⟨c1,c2,c3⟩:=hc
 have l1:(ap k ⟨lo,0,mid⟩ R).length=n:=by rw[Zxr (Nat.le_of_lt m1) (by show mid<=_;omega)];exact hn
 have g1:(isort k (seg R lo mid)).length=mid - lo:=by rw[Zex,Zdl (by omega)]
 have s1:seg (ap k ⟨lo,0,mid⟩ R) lo mid=isort k (seg R lo mid):=Ztr (R:=R) (lo:=lo) (hi:=mid) (Nat.le_of_lt m1) (by omega) g1;have t1:(ap k ⟨lo,0,mid⟩ R).take lo=R.take lo:=Zpn (R:=R) (lo:=lo) (hi:=mid) (by omega);have d1:(ap k ⟨lo,0,mid⟩ R).drop mid=R.drop mid:=Zod (R:=R) (lo:=lo) (hi:=mid) (Nat.le_of_lt m1) (by omega) g1;have s1b:seg (ap k ⟨lo,0,mid⟩ R) mid hi=seg R mid hi:=Zhl (Nat.le_refl _) d1;generalize hR1:ap k ⟨lo,0,mid⟩ R=R1 at *
 have l2:(ap k ⟨mid,0,hi⟩ R1).length=n:=by rw[Zxr (Nat.le_of_lt m2) (by show hi<=_;omega)];exact l1
 have g2:(isort k (seg R1 mid hi)).length=hi - mid:=by rw[Zex,Zdl (by omega)]
 have s2:seg (ap k ⟨mid,0,hi⟩ R1) mid hi=isort k (seg R mid hi):=by
  rw[<-s1b];exact Ztr (R:=R1) (lo:=mid) (hi:=hi) (Nat.le_of_lt m2) (by omega) g2
 have t2:(ap k ⟨mid,0,hi⟩ R1).take mid=R1.take mid:=Zpn (R:=R1) (lo:=mid) (hi:=hi) (by omega);have d2:(ap k ⟨mid,0,hi⟩ R1).drop hi=R1.drop hi:=Zod (R:=R1) (lo:=mid) (hi:=hi) (Nat.le_of_lt m2) (by omega) g2
 have s2a:seg (ap k ⟨mid,0,hi⟩ R1) lo mid=isort k (seg R lo mid):=by rw[<-s1];exact Zgm (Nat.le_refl _) t2
 generalize hR2:ap k ⟨mid,0,hi⟩ R1=R2 at *
 have hpm:(seg R2 lo hi).Perm (seg R lo hi):=by
  rw[Zd8 (Nat.le_of_lt m1) (Nat.le_of_lt m2),s2a,s2,Zd8 (R:=R) (Nat.le_of_lt m1) (Nat.le_of_lt m2)];exact (Zas _ _).append (Zas _ _)
 have t3:R2.take lo=R.take lo:=by
  have:∀ Q:List Nat,Q.take lo=(Q.take mid).take lo:=λQ=>by rw[List.take_take,Nat.min_eq_left (by omega)]
  rw[this R2,t2,<-this R1,t1]
 have d3:R2.drop hi=R.drop hi:=by
  have:∀ Q:List Nat,Q.drop hi=(Q.drop mid).drop (hi - mid):=λQ=>by rw[drop_drop,show mid+(hi - mid)=hi by omega]
  rw[d2,this R1,d1,<-this R]
 have e3:ap k ⟨lo,mid,hi⟩ R2=ap k ⟨lo,0,hi⟩ R:=by
  unfold ap rep;simp only;rw[t3,d3,Znt hpm]
 constructor
 ·refine⟨⟨m1,by show mid<=n;omega⟩,?_,⟨m2,hh⟩,?_,⟨by show lo < hi;omega,hh⟩,?_,?_⟩
  ·unfold Cond;rw[if_pos rfl];exact c1
  ·rw[hR1];unfold Cond;rw[if_pos rfl];simp only;rw[s1b];exact c2
  ·rw[hR1,hR2];unfold Cond;rw[if_neg (by show ¬ mid=0;omega)];simp only;rw[s2a,s2];exact⟨m1,m2,Zaq _ _,Zaq _ _,λa ha b hb=>c3 a ((Zas _ _).mem_iff.1 ha) b ((Zas _ _).mem_iff.1 hb)⟩
  ·rw[hR1,hR2,e3];exact hw
 ·show run k st (ap k ⟨lo,mid,hi⟩ (ap k ⟨mid,0,hi⟩ (ap k ⟨lo,0,mid⟩ R)))=run k st (ap k ⟨lo,0,hi⟩ R);rw[hR1,hR2,e3]
end Go.Mr
namespace Go.Mr
structure SS where
 order:List Nat
 cls:List Nat
 aside:List Nat
 reach:Nat
 stack:List Pt
 merge:Pt
 laid:Nat
 first:Nat
 second:Nat
 ranked:Nat
 last:Nat
 done:Bool
def joinS (x:SS):SS:=match x.stack with
 |[]=>x
 |p::st=>if x.merge.hi=0/\p.mid≠0 then { x with merge:=p,stack:=st,laid:=0,first:=0,second:=p.mid } else x
def layS (x:SS):SS:={ x with aside:=x.aside.set x.laid (x.order.getD (x.merge.lo+x.laid) 0),laid:=x.laid+1 }
def toS (x:SS):Nat:=x.merge.lo+x.first+x.second - x.merge.mid
def fromA (k:Key) (x:SS):Prop:=x.second=x.merge.hi\/(x.first < x.laid/\¬ klt (k (x.order.getD x.second 0)) (k (x.aside.getD x.first 0)))
instance (k:Key) (x:SS):Decidable (fromA k x):=inferInstanceAs (Decidable (_\/_))
def moveS (k:Key) (x:SS):SS:=if fromA k x then { x with order:=x.order.set (toS x) (x.aside.getD x.first 0),first:=x.first+1 }
 else { x with order:=x.order.set (toS x) (x.order.getD x.second 0),second:=x.second+1 }
def putS (k:Key) (x:SS):SS:=if toS x=x.merge.hi - 1 then { moveS k x with merge:=⟨0,0,0⟩ } else moveS k x
def beginS (x:SS):SS:=match x.stack with
 |[]=>x
 |p::st=>if p.hi - p.lo < 2 then { x with stack:=st } else { x with stack:=⟨p.lo,0,(p.lo+p.hi)/2⟩::⟨(p.lo+p.hi)/2,0,p.hi⟩::⟨p.lo,(p.lo+p.hi)/2,p.hi⟩::st }
def lastN (k:Key) (x:SS):Nat:=if x.ranked=0 then 0 else if klt (k (x.order.getD (x.ranked - 1) 0)) (k (x.order.getD x.ranked 0)) then x.last+1 else x.last
def rank1 (k:Key) (x:SS):SS:={ x with aside:=x.aside.set (x.order.getD x.ranked 0) (lastN k x),last:=lastN k x,ranked:=x.ranked+1 }
def passS (n:Nat) (x:SS):SS:=if x.last=n - 1\/n<=x.reach then { x with cls:=x.aside,aside:=x.cls,ranked:=0,done:=true }
 else { x with cls:=x.aside,aside:=x.cls,ranked:=0,reach:=max 1 (2*x.reach),stack:=⟨0,0,n⟩::x.stack }
def rankS (k:Key) (n:Nat) (x:SS):SS:=if x.ranked+1=n then passS n (rank1 k x) else rank1 k x
def restS (k:Key) (n:Nat) (x:SS):SS:=if 0 < x.merge.hi/\x.laid < x.merge.mid - x.merge.lo then layS x else if 0 < x.merge.hi then putS k x else if x.stack≠[] then beginS x else rankS k n x
def stepS (k:Key) (n:Nat) (x:SS):SS:=restS k n (joinS x)
def rk (k:Key) (o:List Nat):Nat->Nat
 |0=>0
 |i+1=>rk k o i+if klt (k (o.getD i 0)) (k (o.getD (i+1) 0)) then 1 else 0
structure Bs (n:Nat) (x:SS):Prop where
 two:2<=n
 ol:x.order.length=n
 cl:x.cls.length=n
 al:x.aside.length=n
 om:∀ a∈x.order,a < n
 nd:x.done=false
structure PhA (k:Key) (n:Nat) (x:SS):Prop where
 none:x.merge.hi=0
 perm:x.order.Perm (List.range n)
 wf:WF k n x.stack x.order
 srt:(run k x.stack x.order).Pairwise (le k)
 rk0:x.stack≠[]->x.ranked=0
 rkn:x.ranked < n
 asd:∀ i,i < x.ranked->x.aside.getD (x.order.getD i 0) 0=rk k x.order i
 lst:0 < x.ranked->x.last=rk k x.order (x.ranked - 1)
structure PhB (k:Key) (n:Nat) (x:SS) (R:List Nat):Prop where
 len:R.length=n
 perm:R.Perm (List.range n)
 m1:x.merge.lo < x.merge.mid
 m2:x.merge.mid < x.merge.hi
 m3:x.merge.hi<=n
 wf:WF k n (x.merge::x.stack) R
 srt:(run k (x.merge::x.stack) R).Pairwise (le k)
 rk0:x.ranked=0
 lay:x.laid<=x.merge.mid - x.merge.lo
 asm:∀ a∈seg x.aside 0 x.laid,a < n
 early:x.laid < x.merge.mid - x.merge.lo->x.order=R/\x.first=0/\x.second=x.merge.mid/\x.aside.take x.laid=seg R x.merge.lo (x.merge.lo+x.laid)
 late:x.laid=x.merge.mid - x.merge.lo->x.first<=x.laid/\x.merge.mid<=x.second/\x.second<=x.merge.hi/\toS x < x.merge.hi/\x.order.take x.merge.lo=R.take x.merge.lo/\x.order.drop x.merge.hi=R.drop x.merge.hi/\
  seg x.order x.merge.lo (toS x)++mrg k (seg x.aside x.first x.laid) (seg x.order x.second x.merge.hi)=isort k (seg R x.merge.lo x.merge.hi)
def PhC (k:Key) (n:Nat) (x:SS):Prop:=PhA k n x\/∃ R,PhB k n x R
variable {k:Key}{n:Nat}{x:SS}
theorem Zaw {l:List Nat}{i:Nat}(h:i < l.length):l[i]?=some (l.getD i 0):=by rw[gB,gA h];rfl
theorem Zbb {l:List Nat}{i:Nat}(h:i < l.length):l.getD i 0∈l:=by rw[gB,gA h];exact getElem_mem h
theorem Zen {l:List Nat}{a b:Nat}(h:a < b) (h2:b<=l.length):seg l a b=l.getD a 0::seg l (a+1) b:=by
 unfold seg
 have h1:a < l.length:=by omega
 rw[List.drop_eq_getElem_cons h1,show b - a=(b - (a+1))+1 by omega,List.take_succ_cons,gB,gA h1];rfl
theorem Zp1 {l:List Nat}{a b:Nat}(h:a<=b) (h2:b < l.length):seg l a (b+1)=seg l a b++[l.getD b 0]:=by
 rw[Zd8 h (Nat.le_succ b),Zen (a:=b) (Nat.lt_succ_self b) h2];unfold seg;simp
theorem seg_nil {l:List Nat}{a b:Nat}(h:b<=a):seg l a b=[]:=by unfold seg;rw[show b - a=0 by omega,take_zero]
theorem Zy8 {l:List Nat}{a b y:Nat}(h:y∈seg l a b):y∈l:=List.mem_of_mem_drop (List.mem_of_mem_take h)
theorem Ze8 {l:List Nat}{i j v:Nat}(h:i<=j):(l.set j v).take i=l.take i:=by rw[List.take_set_of_le h]
theorem Zgh {l:List Nat}{i j v:Nat}(h:j < i):(l.set j v).drop i=l.drop i:=by rw[List.drop_set_of_lt h]
theorem Zo0 (hb:Bs n x) (h:PhC k n x):Bs n (joinS x)/\PhC k n (joinS x)/\((joinS x).merge.hi=0->∀ p st,(joinS x).stack=p::st->p.mid=0):=by
 unfold joinS;split
 ·rename_i e;exact⟨hb,h,λ_ p st q=>by rw[e] at q;cases q⟩
 ·rename_i p st e;split
  ·rename_i q;rcases h with h|⟨R,h⟩
   ·have hw:=h.wf;rw[e] at hw;have hs:=h.srt;rw[e] at hs;obtain⟨⟨w1,w2⟩,hc,hw2⟩:=id hw;unfold Cond at hc;rw[if_neg q.2] at hc;obtain⟨c1,c2,c3,c4,c5⟩:=hc;refine⟨⟨hb.two,hb.ol,hb.cl,hb.al,hb.om,hb.nd⟩,.inr ⟨x.order,?_⟩,?_⟩
    ·refine⟨hb.ol,h.perm,c1,c2,w2,hw,hs,h.rk0 (by rw[e];exact List.cons_ne_nil _ _),hE _,λa ha=>?_,λ_=>⟨rfl,rfl,rfl,?_⟩,λe2=>?_⟩
     ·rw[seg_nil (Nat.le_refl 0)] at ha;cases ha
     ·show x.aside.take 0=seg x.order p.lo (p.lo+0);rw[take_zero,seg_nil (by omega)]
     ·exfalso;simp only at e2;omega
    ·intro z;simp only at z;omega
   ·have:=h.m2;omega
  ·rename_i q;refine⟨hb,h,λz p' st' e2=>?_⟩;rw[e] at e2;injection e2 with e2 e3;subst e2
   by_cases q2:p.mid=0
   ·exact q2
   ·exact absurd ⟨z,q2⟩ q
theorem Zxb (hb:Bs n x) (h:PhC k n x) (h1:0 < x.merge.hi) (h2:x.laid < x.merge.mid - x.merge.lo):Bs n (layS x)/\PhC k n (layS x):=by
 rcases h with h|⟨R,h⟩
 ·have:=h.none;omega
 have hm1:=h.m1;have hm2:=h.m2;have hm3:=h.m3
 obtain⟨e1,e2,e3,e4⟩:=h.early h2;have hol:=hb.ol;have hal:=hb.al
 have hlt:x.merge.lo+x.laid < x.order.length:=by omega
 have hval:=Zbb hlt;refine⟨⟨hb.two,hb.ol,hb.cl,by show (List.set _ _ _).length=_;rw[hX_];exact hb.al,hb.om,hb.nd⟩,.inr ⟨R,?_⟩⟩
 have ht:(x.aside.set x.laid (x.order.getD (x.merge.lo+x.laid) 0)).take (x.laid+1)=seg R x.merge.lo (x.merge.lo+(x.laid+1)):=by
  rw[<-hG_,Zp1 (by omega) (by rw[h.len];omega),<-e4,gO,List.getElem?_set_self (by omega),Ze8 (Nat.le_refl _),e1];rfl
 refine⟨h.len,h.perm,h.m1,h.m2,h.m3,h.wf,h.srt,h.rk0,h2,λa ha=>?_,λq=>⟨e1,e2,e3,ht⟩,λq=>?_⟩
 ·have:seg (layS x).aside 0 (layS x).laid=seg R x.merge.lo (x.merge.lo+(x.laid+1)):=by
   rw[<-ht];unfold seg;rw[drop_zero,Nat.sub_zero];rfl
  rw[this] at ha;have:=Zy8 ha;have h3:=h.perm.mem_iff.1 this;exact mem_range.1 h3
 ·replace q:x.laid+1=x.merge.mid - x.merge.lo:=q
  have e5:toS (layS x)=x.merge.lo:=by
   show x.merge.lo+x.first+x.second - x.merge.mid=_;omega
  refine⟨by show x.first<=x.laid+1;omega,by show x.merge.mid<=x.second;omega,by show x.second<=x.merge.hi;omega,by rw[e5];show x.merge.lo < x.merge.hi;omega,congrArg (List.take x.merge.lo) e1,congrArg (List.drop x.merge.hi) e1,?_⟩;rw[e5];show seg x.order x.merge.lo x.merge.lo++mrg k (seg (x.aside.set x.laid (x.order.getD (x.merge.lo+x.laid) 0)) x.first (x.laid+1)) (seg x.order x.second x.merge.hi)=isort k (seg R x.merge.lo x.merge.hi);rw[seg_nil (Nat.le_refl _),hO_,e2,e3,e1]
  have e6:seg (x.aside.set x.laid (x.order.getD (x.merge.lo+x.laid) 0)) 0 (x.laid+1)=seg R x.merge.lo x.merge.mid:=by
   have:seg (x.aside.set x.laid (x.order.getD (x.merge.lo+x.laid) 0)) 0 (x.laid+1)=(x.aside.set x.laid (x.order.getD (x.merge.lo+x.laid) 0)).take (x.laid+1):=by
    unfold seg;rw[drop_zero,Nat.sub_zero]
   rw[this,ht,show x.merge.lo+(x.laid+1)=x.merge.mid by omega]
  rw[e1] at e6;rw[e6,Zd8 (mid:=x.merge.mid) (Nat.le_of_lt hm1) (Nat.le_of_lt hm2)];have hc:=h.wf.2.1;unfold Cond at hc;rw[if_neg (by omega)] at hc;obtain⟨_,_,c3,c4,c5⟩:=hc;obtain⟨p1,p2⟩:=Zt1 k _ _ _ (Nat.le_refl _) c3 c4 c5;exact Zjg p2 p1
theorem Ziw {l:List Nat}{t v a b:Nat}(h:t < a\/b<=a):seg (l.set t v) a b=seg l a b:=by
 rcases h with h|h
 ·exact Zhl (Nat.le_refl a) (Zgh h)
 ·rw[seg_nil h,seg_nil h]
theorem Zft {l:List Nat}{t v a:Nat}(h:a<=t) (h2:t < l.length):seg (l.set t v) a (t+1)=seg l a t++[v]:=by
 rw[Zp1 h (by rw[hX_];exact h2),Zgm (Nat.le_refl t) (Ze8 (Nat.le_refl t))]
 congr 2
 rw[gB,List.getElem?_set_self h2];rfl
theorem Zmi {R:List Nat}(hb:Bs n x) (h:PhB k n x R) (hl:x.laid=x.merge.mid - x.merge.lo) :
  ∃ v f c,moveS k x={ x with order:=x.order.set (toS x) v,first:=f,second:=c }/\v < n/\f<=x.laid/\x.merge.mid<=c/\c<=x.merge.hi/\x.merge.lo+f+c - x.merge.mid=toS x+1/\
   seg (x.order.set (toS x) v) x.merge.lo (toS x+1)++mrg k (seg x.aside f x.laid) (seg (x.order.set (toS x) v) c x.merge.hi)=isort k (seg R x.merge.lo x.merge.hi):=by
 have hm1:=h.m1;have hm2:=h.m2;have hm3:=h.m3
 obtain⟨l1,l2,l3,l4,l5,l6,l7⟩:=h.late hl;have hol:=hb.ol;have hal:=hb.al;have hto:toS x=x.merge.lo+x.first+x.second - x.merge.mid:=rfl
 have hge:x.merge.lo<=toS x:=by omega
 unfold moveS
 by_cases q:fromA k x
 ·rw[if_pos q]
  have hf:x.first < x.laid:=by
   rcases q with q|q
   ·omega
   ·exact q.1
  have hA:=Zen (l:=x.aside) hf (by omega)
  have hv:x.aside.getD x.first 0 < n:=h.asm _ (by
   rw[show x.aside.getD x.first 0=(seg x.aside 0 x.laid).getD x.first 0 from by
    unfold seg
    rw[drop_zero,Nat.sub_zero,gB,gB,hI_ hf]]
   exact Zbb (by rw[Zdl (by omega)];omega))
  refine⟨_,x.first+1,x.second,rfl,hv,hf,l2,l3,by omega,?_⟩;rw[Zft hge (by omega),gI,<-l7,hA]
  congr 1
  have hB:seg (x.order.set (toS x) (x.aside.getD x.first 0)) x.second x.merge.hi=seg x.order x.second x.merge.hi:=Ziw (by omega);rw[hB];rcases hU_ x.second x.merge.hi with g|g
  ·have hBc:=Zen (l:=x.order) g (by omega)
   have hk:¬ klt (k (x.order.getD x.second 0)) (k (x.aside.getD x.first 0)):=by
    rcases q with q|q
    ·omega
    ·exact q.2
   rw[hBc,Zje,if_neg hk];rfl
  ·rw[seg_nil g,Zkd,Zkd];rfl
 ·rw[if_neg q]
  have hs:x.second < x.merge.hi:=by
   rcases hU_ x.second x.merge.hi with g|g
   ·exact g
   ·exact absurd (.inl (by omega)) q
  have hBc:=Zen (l:=x.order) hs (by omega);have hv:x.order.getD x.second 0 < n:=hb.om _ (Zbb (by omega));refine⟨_,x.first,x.second+1,rfl,hv,l1,by omega,by omega,by omega,?_⟩;rw[Zft hge (by omega),gI,<-l7,hBc]
  congr 1
  have hB:seg (x.order.set (toS x) (x.order.getD x.second 0)) (x.second+1) x.merge.hi=seg x.order (x.second+1) x.merge.hi:=Ziw (by omega);rw[hB];rcases hU_ x.first x.laid with g|g
  ·have hA:=Zen (l:=x.aside) g (by omega)
   have hk:klt (k (x.order.getD x.second 0)) (k (x.aside.getD x.first 0)):=by
    by_cases z:klt (k (x.order.getD x.second 0)) (k (x.aside.getD x.first 0))
    ·exact z
    ·exact absurd (.inr ⟨g,z⟩) q
   rw[hA,Zje,if_pos hk];rfl
  ·rw[seg_nil g,Zjf,Zjf];rfl
theorem Zr6 {l:List Nat}{t v:Nat}(hl:∀ a∈l,a < n) (hv:v < n):∀ a∈l.set t v,a < n:=λa ha=>by
 rcases List.mem_or_eq_of_mem_set ha with h|h
 ·exact hl a h
 ·rw[h];exact hv
theorem Zxc (hb:Bs n x) (h:PhC k n x) (h1:0 < x.merge.hi) (h2:¬ x.laid < x.merge.mid - x.merge.lo):Bs n (putS k x)/\PhC k n (putS k x):=by
 rcases h with h|⟨R,h⟩
 ·have:=h.none;omega
 have hm1:=h.m1;have hm2:=h.m2;have hm3:=h.m3
 have hlay:=h.lay
 have hl:x.laid=x.merge.mid - x.merge.lo:=by omega
 obtain⟨l1,l2,l3,l4,l5,l6,l7⟩:=h.late hl;have hol:=hb.ol;obtain⟨v,f,c,e,hv,f1,c1,c2,t1,hq⟩:=Zmi hb h hl;have hto:toS x=x.merge.lo+x.first+x.second - x.merge.mid:=rfl
 have hge:x.merge.lo<=toS x:=by omega
 have hOl:(x.order.set (toS x) v).length=n:=by rw[hX_];exact hol
 have hOm:=Zr6 (t:=toS x) hb.om hv
 have hT:(x.order.set (toS x) v).take x.merge.lo=R.take x.merge.lo:=by rw[Ze8 hge];exact l5
 have hD:(x.order.set (toS x) v).drop x.merge.hi=R.drop x.merge.hi:=by rw[Zgh l4];exact l6
 unfold putS;rw[e];generalize hO:x.order.set (toS x) v=O at *;split
 ·rename_i q
  have hlen:(seg O x.merge.lo (toS x+1)).length=x.merge.hi - x.merge.lo:=by rw[Zdl (by omega)];omega
  have hz:mrg k (seg x.aside f x.laid) (seg O c x.merge.hi)=[]:=by
   have:=congrArg List.length hq;rw[gD,hlen,Zex,Zdl (by rw[h.len];exact hm3)] at this;exact List.eq_nil_of_length_eq_zero (by omega)
  rw[hz,gU,show toS x+1=x.merge.hi by omega] at hq
  have hap:O=ap k x.merge R:=by
   have e1:=cut3 O (lo:=x.merge.lo) (hi:=x.merge.hi) (by omega);rw[hT,hD,hq] at e1;exact e1
  refine⟨⟨hb.two,hOl,hb.cl,hb.al,hOm,hb.nd⟩,.inl ⟨rfl,?_,?_,?_,λ_=>h.rk0,?_,λi hi=>?_,λhi=>?_⟩⟩
  ·show O.Perm _;rw[hap];exact (Zz5 (by omega)).trans h.perm
  ·show WF k n x.stack O;rw[hap];exact h.wf.2.2
  ·show (run k x.stack O).Pairwise _;rw[hap];exact h.srt
  ·show x.ranked < n;rw[h.rk0];have:=hb.two;omega
  ·replace hi:i < x.ranked:=hi;rw[h.rk0] at hi;omega
  ·replace hi:0 < x.ranked:=hi;rw[h.rk0] at hi;omega
 ·rename_i q;refine⟨⟨hb.two,hOl,hb.cl,hb.al,hOm,hb.nd⟩,.inr ⟨R,h.len,h.perm,hm1,hm2,hm3,h.wf,h.srt,h.rk0,hlay,h.asm,λz=>?_,λ_=>⟨f1,c1,c2,?_,hT,hD,?_⟩⟩⟩
  ·exact absurd z h2
  ·show x.merge.lo+f+c - x.merge.mid < x.merge.hi;omega
  ·show seg O x.merge.lo (x.merge.lo+f+c - x.merge.mid)++mrg k (seg x.aside f x.laid) (seg O c x.merge.hi)=_;rw[t1];exact hq
theorem Zp2 (hb:Bs n x) (h:PhC k n x) (h1:¬ 0 < x.merge.hi) (h2:x.stack≠[]) (h3:∀ p st,x.stack=p::st->p.mid=0):Bs n (beginS x)/\PhC k n (beginS x):=by
 rcases h with h|⟨R,h⟩
 rotate_left
 ·have:=h.m2;omega
 unfold beginS;split
 ·rename_i e;exact absurd e h2
 ·rename_i p st e;have hw:=h.wf;rw[e] at hw;have hs:=h.srt;rw[e] at hs;have hr:=h.rk0 h2;have hm:=h3 p st e;obtain⟨lo,mid,hi⟩:=p;simp only at hm;subst hm;have h0:=hw.1;simp only at h0;split
  ·rename_i q;simp only at q;have e1:ap k ⟨lo,0,hi⟩ x.order=x.order:=Zzp h0.1 (by rw[hb.ol];exact h0.2) q;refine⟨⟨hb.two,hb.ol,hb.cl,hb.al,hb.om,hb.nd⟩,.inl ⟨h.none,h.perm,?_,?_,λ_=>hr,h.rkn,h.asd,h.lst⟩⟩
   ·have:=hw.2.2;rw[e1] at this;exact this
   ·have:(run k st (ap k ⟨lo,0,hi⟩ x.order)).Pairwise (le k):=hs;rw[e1] at this;exact this
  ·rename_i q;simp only at q;obtain⟨b1,b2⟩:=Zx2 hb.ol (by omega) hw;refine⟨⟨hb.two,hb.ol,hb.cl,hb.al,hb.om,hb.nd⟩,.inl ⟨h.none,h.perm,b1,?_,λ_=>hr,h.rkn,h.asd,h.lst⟩⟩;show (run k (⟨lo,0,(lo+hi)/2⟩::⟨(lo+hi)/2,0,hi⟩::⟨lo,(lo+hi)/2,hi⟩::st) x.order).Pairwise (le k);rw[b2];exact hs
theorem Zme (hb:Bs n x) (h:PhC k n x) (h1:¬ 0 < x.merge.hi) (h2:x.stack=[]) :
  x.order.Pairwise (le k)/\x.order.Perm (List.range n)/\x.ranked < n/\(x.ranked+1 < n->Bs n (rank1 k x)/\PhC k n (rank1 k x))/\
   (rank1 k x).aside.length=n/\(∀ i,i < x.ranked+1->(rank1 k x).aside.getD (x.order.getD i 0) 0=rk k x.order i)/\(rank1 k x).last=rk k x.order x.ranked:=by
 rcases h with h|⟨R,h⟩
 rotate_left
 ·have:=h.m2;omega
 have hs:=h.srt;rw[h2] at hs;have hkn:=h.rkn;have hol:=hb.ol;have hnd:x.order.Nodup:=h.perm.symm.nodup nodup_range
 have hlast:lastN k x=rk k x.order x.ranked:=by
  unfold lastN
  by_cases q:x.ranked=0
  ·rw[if_pos q,q];rfl
  ·rw[if_neg q,h.lst (by omega)];obtain⟨r,hr⟩:∃ r,x.ranked=r+1:=⟨x.ranked - 1,by omega⟩;rw[hr,Nat.add_sub_cancel];show _=rk k x.order r+_
   split <;> rfl
 have hal:(rank1 k x).aside.length=n:=by show (List.set _ _ _).length=n;rw[hX_];exact hb.al
 have hasd:∀ i,i < x.ranked+1->(rank1 k x).aside.getD (x.order.getD i 0) 0=rk k x.order i:=by
  intro i hi;show (x.aside.set (x.order.getD x.ranked 0) (lastN k x)).getD (x.order.getD i 0) 0=_;rw[gB,getElem?_set]
  have hb1:x.order.getD x.ranked 0 < x.aside.length:=by rw[hb.al];exact hb.om _ (Zbb (by omega))
  by_cases e:x.ranked=i
  ·subst e;rw[if_pos rfl,if_pos hb1,hlast];rfl
  ·rw[if_neg,<-gB,h.asd i (by omega)];intro e2;apply e;have g1:=Zaw (l:=x.order) (i:=x.ranked) (by omega);have g2:=Zaw (l:=x.order) (i:=i) (by omega);rw[e2] at g1;obtain⟨p1,p2⟩:=gH.1 g1;obtain⟨p3,p4⟩:=gH.1 g2;exact (List.getElem_inj hnd).1 (p2.trans p4.symm)
 refine⟨hs,h.perm,hkn,λq=>⟨⟨hb.two,hb.ol,hb.cl,hal,hb.om,hb.nd⟩,.inl ⟨h.none,h.perm,?_,?_,λz=>absurd h2 z,q,hasd,λ_=>?_⟩⟩,hal,hasd,hlast⟩
 ·exact h.wf
 ·exact h.srt
 ·show lastN k x=rk k x.order (x.ranked+1 - 1);rw[Nat.add_sub_cancel];exact hlast
end Go.Mr
namespace Go.Mr
open Go.M18
def ch (s:List UInt8) (i:Nat):Nat:=(s.getD (i%s.length) 0).toNat
def ltm (s:List UInt8) (m a b:Nat):Prop:=∃ j,j < m/\(∀ i,i < j->ch s (a+i)=ch s (b+i))/\ch s (a+j) < ch s (b+j)
def eqm (s:List UInt8) (m a b:Nat):Prop:=∀ i,i < m->ch s (a+i)=ch s (b+i)
variable {s:List UInt8}{m a b c:Nat}
theorem tri (s:List UInt8) (a b:Nat):∀ m,ltm s m a b\/eqm s m a b\/ltm s m b a
 |0=>.inr (.inl λi h=>by omega)
 |m+1=>by
  rcases tri s a b m with⟨j,h1,h2,h3⟩|h|⟨j,h1,h2,h3⟩
  ·exact .inl ⟨j,by omega,h2,h3⟩
  ·rcases Nat.lt_trichotomy (ch s (a+m)) (ch s (b+m)) with q|q|q
   ·exact .inl ⟨m,by omega,h,q⟩
   ·refine .inr (.inl λi hi=>?_);rcases hU_ i m with g|g
    ·exact h i g
    ·rw[show i=m by omega];exact q
   ·exact .inr (.inr ⟨m,by omega,λi hi=>(h i hi).symm,q⟩)
  ·exact .inr (.inr ⟨j,by omega,h2,h3⟩)
theorem Ya3 (h:ltm s m a b):¬ eqm s m a b:=λe=>by
 obtain⟨j,h1,_,h3⟩:=h;have:=e j h1;omega
theorem Zz1 {r:Nat}:eqm s (r+r) a b↔eqm s r a b/\eqm s r (a+r) (b+r):=by
 constructor
 ·intro h;refine⟨λi hi=>h i (by omega),λi hi=>?_⟩;rw[hG_,hG_];exact h (r+i) (by omega)
 ·rintro⟨h,g⟩ i hi;rcases hU_ i r with q|q
  ·exact h i q
  ·have:=g (i - r) (by omega);rw[hG_,hG_,show r+(i - r)=i by omega] at this;exact this
theorem Zz7 {r:Nat}:ltm s (r+r) a b↔ltm s r a b\/(eqm s r a b/\ltm s r (a+r) (b+r)):=by
 constructor
 ·rintro⟨j,h1,h2,h3⟩;rcases hU_ j r with q|q
  ·exact .inl ⟨j,q,h2,h3⟩
  ·refine .inr ⟨λi hi=>h2 i (by omega),j - r,by omega,λi hi=>?_,?_⟩
   ·rw[hG_,hG_];exact h2 (r+i) (by omega)
   ·rw[hG_,hG_,show r+(j - r)=j by omega];exact h3
 ·rintro (⟨j,h1,h2,h3⟩|⟨h,j,h1,h2,h3⟩)
  ·exact⟨j,by omega,h2,h3⟩
  ·refine⟨r+j,by omega,λi hi=>?_,by rw[<-hG_,<-hG_];exact h3⟩;rcases hU_ i r with q|q
   ·exact h i q
   ·have:=h2 (i - r) (by omega);rw[hG_,hG_,show r+(i - r)=i by omega] at this;exact this
theorem Zxj (s:List UInt8) (a i:Nat):ch s (a%s.length+i)=ch s (a+i):=by unfold ch;rw[Nat.mod_add_mod]
theorem Zy9:ltm s m (a%s.length) (b%s.length)↔ltm s m a b:=by
 unfold ltm;simp only[Zxj]
theorem Zyo:eqm s m (a%s.length) (b%s.length)↔eqm s m a b:=by
 unfold eqm;simp only[Zxj]
theorem Zhn (ha:a < s.length){i:Nat}(hi:i < s.length):(rot s a).getD i 0=s.getD ((a+i)%s.length) 0:=by
 unfold rot;rw[gB,gB];rcases hU_ (a+i) s.length with q|q
 ·rw[gM (by rw[gS];omega),hH_,Nat.mod_eq_of_lt q]
 ·rw[gT (by rw[gS];omega),gS,hI_ (by omega),Nat.mod_eq_sub_mod q,Nat.mod_eq_of_lt (by omega)]
  congr 2
  omega
theorem Zoz:∀ (j:Nat) (x y:List UInt8),j < x.length->j < y.length->(∀ i,i < j->x.getD i 0=y.getD i 0)->(x.getD j 0).toNat < (y.getD j 0).toNat->bl x y=true
 |_,[],_,h,_,_,_=>by simp at h
 |_,_::_,[],_,h,_,_=>by simp at h
 |0,p::x,q::y,_,_,_,h=>by
  rw[Zgy]
  have:p < q:=by rw[UInt8.lt_iff_toNat_lt];exact h
  simp[this]
 |j+1,p::x,q::y,h1,h2,h3,h4=>by
  rw[Zgy];have e:p=q:=h3 0 (Nat.zero_lt_succ _);subst e;have:=Zoz j x y (by simpa using h1) (by simpa using h2) (λi hi=>by have:=h3 (i+1) (by omega);simpa using this) (by simpa using h4);simp[this]
theorem Zsq (ha:a < s.length) (hb:b < s.length) (h:ltm s s.length a b):aheadP s a b=true:=by
 obtain⟨j,h1,h2,h3⟩:=h;unfold aheadP
 have e1:∀ i,i < j->(rot s a).getD i 0=(rot s b).getD i 0:=λi hi=>by
  rw[Zhn ha (by omega),Zhn hb (by omega)];exact UInt8.toNat_inj.1 (h2 i hi)
 have e2:((rot s a).getD j 0).toNat < ((rot s b).getD j 0).toNat:=by
  rw[Zhn ha h1,Zhn hb h1];exact h3
 rw[Zoz j (rot s a) (rot s b) (by rw[Zcx s a (by omega)];exact h1) (by rw[Zcx s b (by omega)];exact h1) e1 e2];rfl
theorem Zyc (ha:a < s.length) (hb:b < s.length) (h:eqm s s.length a b):rot s a=rot s b:=by
 apply ext_getElem?;intro i;rcases hU_ i s.length with q|q
 ·have e:=Zhn ha q;have e2:=Zhn hb q
  have e3:(rot s a).getD i 0=(rot s b).getD i 0:=by rw[e,e2];exact UInt8.toNat_inj.1 (h i q)
  rw[gA (by rw[Zcx s a (by omega)];exact q),gA (by rw[Zcx s b (by omega)];exact q)];rw[gB,gB,gA (by rw[Zcx s a (by omega)];exact q),gA (by rw[Zcx s b (by omega)];exact q)] at e3;exact congrArg some e3
 ·rw[getElem?_eq_none (by rw[Zcx s a (by omega)];exact q),getElem?_eq_none (by rw[Zcx s b (by omega)];exact q)]
theorem Zsv (ha:a < s.length) (hb:b < s.length) (h:eqm s s.length a b) (hab:a < b):aheadP s a b=true:=by
 unfold aheadP;rw[Zyc ha hb h,decide_eq_true rfl,decide_eq_true hab];simp
theorem Zyk (h:ltm s m a b):ltm s s.length a b:=by
 obtain⟨j,h1,h2,h3⟩:=h;rcases hU_ j s.length with q|q
 ·exact⟨j,q,h2,h3⟩
 ·exfalso
  have e:∀ z,ch s (z+j)=ch s (z+j%s.length):=λz=>by unfold ch;rw[Nat.add_mod_mod]
  rcases Nat.eq_zero_or_pos s.length with g|g
  ·unfold ch at h3;have:s=[]:=List.eq_nil_of_length_eq_zero g;subst this;simp at h3
  ·have h5:=h2 (j%s.length) (Nat.lt_of_lt_of_le (Nat.mod_lt _ g) q);rw[e a,e b] at h3;omega
theorem Zlr {i k:Nat}(h:aheadP s i k=true):aheadP s k i=false:=by
 unfold aheadP at *;rw[Bool.or_eq_true,Bool.and_eq_true,decide_eq_true_iff,decide_eq_true_iff] at h;rw[Bool.or_eq_false_iff,Bool.and_eq_false_iff,decide_eq_false_iff_not,decide_eq_false_iff_not];rcases h with h|⟨h,g⟩
 ·refine⟨Zvi h,.inl λe=>?_⟩;rw[e,Zes] at h;cases h
 ·exact⟨by rw[h];exact Zes _,.inr (by omega)⟩
theorem Zll {i j k:Nat}(h:aheadP s i j=true) (g:aheadP s j k=true):aheadP s i k=true:=by
 unfold aheadP at *;rw[Bool.or_eq_true,Bool.and_eq_true,decide_eq_true_iff,decide_eq_true_iff] at *;rcases h with h|⟨h,h2⟩
 ·rcases g with g|⟨g,g2⟩
  ·exact .inl (Zj9 _ _ _ h g)
  ·rw[<-g];exact .inl h
 ·rw[h];rcases g with g|⟨g,g2⟩
  ·exact .inl g
  ·exact .inr ⟨g,by omega⟩
theorem Zm6 {i k:Nat}(h:i≠k):aheadP s i k=true\/aheadP s k i=true:=by
 unfold aheadP;simp only[Bool.or_eq_true,Bool.and_eq_true,decide_eq_true_iff];rcases Zom (rot s i) (rot s k) with q|q|q
 ·exact .inl (.inl q)
 ·rcases hU_ i k with g|g
  ·exact .inl (.inr ⟨q,g⟩)
  ·exact .inr (.inr ⟨q.symm,by omega⟩)
 ·exact .inr (.inl q)
theorem Zih (i:Nat):∀ l:List Nat,i∉l->l.Pairwise (λa b=>aheadP s a b=true)->(insP s i l).Pairwise (λa b=>aheadP s a b=true)
 |[],_,_=>by simp[insP]
 |k::r,hn,h=>by
  rw[pairwise_cons] at h;rw[insP];split
  ·rename_i ha;rw[pairwise_cons,pairwise_cons];refine⟨λx hx=>?_,h.1,h.2⟩;rcases mem_cons.1 hx with rfl|hx
   ·exact ha
   ·exact Zll ha (h.1 x hx)
  ·rename_i ha;rw[pairwise_cons];refine⟨λx hx=>?_,Zih i r (λz=>hn (hK_ _ z)) h.2⟩;rcases mem_cons.1 ((Zhd s i r).mem_iff.1 hx) with rfl|hx
   ·exact (Zm6 λe=>hn (by rw[e];exact hJ_ ..)).resolve_left ha
   ·exact h.1 x hx
theorem Zha (s:List UInt8):∀ n,(sortP s n).Pairwise (λa b=>aheadP s a b=true)
 |0=>.nil
 |n+1=>Zih n _ (λh=>by have:=(Zeu s n n).1 h;omega) (Zha s n)
theorem Zqk {o:List Nat}(hp:o.Perm (List.range s.length)) (h:o.Pairwise λa b=>aheadP s a b=true):o=sortP s s.length:=
 List.Perm.eq_of_pairwise (λx y _ _ h1 h2=>by rw[Zlr h1] at h2;cases h2) h (Zha s _) (hp.trans (Zcn s _).symm)
def keyS (s:List UInt8) (x:SS):Key:=λat_=>if x.reach=0 then ((s.getD at_ 0).toNat,0) else (x.cls.getD at_ 0,x.cls.getD ((at_+x.reach)%s.length) 0)
def wid (x:SS):Nat:=if x.reach=0 then 1 else x.reach+x.reach
def Cls (s:List UInt8) (x:SS):Prop:=x.reach=0\/∀ a b,a < s.length->b < s.length->(x.cls.getD a 0 < x.cls.getD b 0↔ltm s x.reach a b)/\(x.cls.getD a 0=x.cls.getD b 0↔eqm s x.reach a b)
theorem Zv3 {x:SS}(h:Cls s x) (ha:a < s.length) (hb:b < s.length):(klt (keyS s x a) (keyS s x b)↔ltm s (wid x) a b)/\(keyS s x a=keyS s x b↔eqm s (wid x) a b):=by
 unfold keyS wid
 by_cases q:x.reach=0
 ·rw[if_pos q,if_pos q,if_pos q]
  have e:∀ z,z < s.length->ch s (z+0)=(s.getD z 0).toNat:=λz hz=>by unfold ch;rw[Nat.add_zero,Nat.mod_eq_of_lt hz]
  constructor
  ·constructor
   ·intro g;refine⟨0,by omega,λi hi=>by omega,?_⟩;rw[e a ha,e b hb];rcases g with g|⟨_,g⟩
    ·exact g
    ·exact absurd g (Nat.lt_irrefl 0)
   ·rintro⟨j,h1,_,h3⟩
    obtain rfl:j=0:=by omega
    rw[e a ha,e b hb] at h3;exact .inl h3
  ·constructor
   ·intro g i hi
    obtain rfl:i=0:=by omega
    rw[e a ha,e b hb];exact congrArg Prod.fst g
   ·intro g;have:=g 0 (by omega);rw[e a ha,e b hb] at this;rw[this]
 ·rw[if_neg q,if_neg q,if_neg q];have hc:=h.resolve_left q
  have h0:0 < s.length:=by omega
  have h1:=hc a b ha hb;have h2:=hc _ _ (Nat.mod_lt (a+x.reach) h0) (Nat.mod_lt (b+x.reach) h0);rw[Zy9,Zyo] at h2
  constructor
  ·rw[Zz7,<-h1.1,<-h1.2,<-h2.1];rfl
  ·rw[Zz1,<-h1.2,<-h2.2,kext]
theorem Zjp {k:Key}{o:List Nat}:∀ j,rk k o j<=j
 |0=>Nat.le_refl _
 |j+1=>by
  have:=Zjp (k:=k) (o:=o) j;show rk k o j+(if _ then 1 else 0)<=_
  split <;> omega
theorem Zkv {p q r:Nat × Nat}(h:klt p q) (g:klt q r):klt p r:=by unfold klt at *;omega
theorem Zcs (p:Nat × Nat):¬ klt p p:=by unfold klt;omega
theorem Zkf {k:Key}{o:List Nat}(hs:o.Pairwise (le k)){i:Nat}:∀ j,i<=j->j < o.length->(rk k o i < rk k o j/\klt (k (o.getD i 0)) (k (o.getD j 0)))\/(rk k o i=rk k o j/\k (o.getD i 0)=k (o.getD j 0))
 |0,h,_=>by rw[show i=0 by omega];exact .inr ⟨rfl,rfl⟩
 |j+1,h,hj=>by
  rcases hU_ i (j+1) with q|q
  ·have ih:=Zkf hs (i:=i) j (by omega) (by omega)
   have hl:le k (o.getD j 0) (o.getD (j+1) 0):=by
    have:=pairwise_iff_getElem.1 hs j (j+1) (by omega) hj (by omega);rw[gB,gB,gA (by omega),gA hj];exact this
   have e:rk k o (j+1)=rk k o j+if klt (k (o.getD j 0)) (k (o.getD (j+1) 0)) then 1 else 0:=rfl
   by_cases g:klt (k (o.getD j 0)) (k (o.getD (j+1) 0))
   ·rw[if_pos g] at e;refine .inl ?_;rcases ih with ih|ih
    ·exact⟨by omega,Zkv ih.2 g⟩
    ·exact⟨by omega,by rw[ih.2];exact g⟩
   ·rw[if_neg g,Nat.add_zero] at e
    have ek:k (o.getD j 0)=k (o.getD (j+1) 0):=by
     rcases hl with hl|hl
     ·exact absurd hl g
     ·exact hl.1
    rw[e,<-ek];exact ih
  ·rw[show i=j+1 by omega];exact .inr ⟨rfl,rfl⟩
structure Inv (s:List UInt8) (x:SS):Prop where
 bs:Bs s.length x
 cls:Cls s x
 ph:PhC (keyS s x) s.length x
theorem Zs4 {o:List Nat}{n a:Nat}(hp:o.Perm (List.range n)) (ha:a < n):∃ i,i < n/\o.getD i 0=a:=by
 have:a∈o:=hp.mem_iff.2 (mem_range.2 ha);obtain⟨i,hi,e⟩:=List.getElem_of_mem this;have:=hp.length_eq;rw[hW_] at this;exact⟨i,by omega,by rw[gB,gA hi,e];rfl⟩
theorem Zuy {x:SS}(h:Inv s x) (h1:¬ 0 < x.merge.hi) (h2:x.stack=[]) (h3:x.ranked+1=s.length) :
  let y:=passS s.length (rank1 (keyS s x) x)
  (y.done=true/\y.order=sortP s s.length)\/(y.done=false/\Inv s y/\x.reach < s.length/\x.reach < y.reach/\y.stack=[⟨0,0,s.length⟩]/\y.merge.hi=0/\y.ranked=0):=by
 obtain⟨hs,hp,hkn,_,hal,hasd,hlast⟩:=Zme h.bs h.ph h1 h2;have hol:=h.bs.ol;have hkm:=λa b ha hb=>Zv3 (a:=a) (b:=b) h.cls ha hb
 have hcls:∀ a b,a < s.length->b < s.length->((rank1 (keyS s x) x).aside.getD a 0 < (rank1 (keyS s x) x).aside.getD b 0↔ltm s (wid x) a b)/\((rank1 (keyS s x) x).aside.getD a 0=(rank1 (keyS s x) x).aside.getD b 0↔eqm s (wid x) a b):=by
  intro a b ha hb;obtain⟨i,hi,ei⟩:=Zs4 hp ha;obtain⟨j,hj,ej⟩:=Zs4 hp hb;have e1:=hasd i (by omega);have e2:=hasd j (by omega);rw[ei] at e1;rw[ej] at e2;rw[e1,e2,<-(hkm a b ha hb).1,<-(hkm a b ha hb).2];rcases Nat.le_total i j with q|q
  ·rcases Zkf hs j q (by omega) with g|g
   ·rw[ei,ej] at g;exact⟨⟨λ_=>g.2,λ_=>g.1⟩,⟨λz=>by omega,λz=>by rw[z] at g;exact absurd g.2 (Zcs _)⟩⟩
   ·rw[ei,ej] at g;exact⟨⟨λz=>by omega,λz=>by rw[g.2] at z;exact absurd z (Zcs _)⟩,⟨λ_=>g.2,λ_=>g.1⟩⟩
  ·rcases Zkf hs i q (by omega) with g|g
   ·rw[ei,ej] at g;exact⟨⟨λz=>by omega,λz=>absurd (Zkv z g.2) (Zcs _)⟩,⟨λz=>by omega,λz=>by rw[z] at g;exact absurd g.2 (Zcs _)⟩⟩
   ·rw[ei,ej] at g;exact⟨⟨λz=>by omega,λz=>by rw[g.2] at z;exact absurd z (Zcs _)⟩,⟨λ_=>g.2.symm,λ_=>g.1.symm⟩⟩
 have hget:∀ i,i < s.length->x.order.getD i 0 < s.length:=λi hi=>h.bs.om _ (Zbb (by omega));have hnd:x.order.Nodup:=hp.symm.nodup nodup_range
 have hstrict:∀ i j,i < j->j < s.length->ltm s (wid x) (x.order.getD i 0) (x.order.getD j 0)\/(eqm s (wid x) (x.order.getD i 0) (x.order.getD j 0)/\x.order.getD i 0 < x.order.getD j 0):=by
  intro i j hij hj;have g1:=Zaw (l:=x.order) (i:=i) (by omega);have g2:=Zaw (l:=x.order) (i:=j) (by omega);obtain⟨p1,p2⟩:=gH.1 g1;obtain⟨p3,p4⟩:=gH.1 g2;have hl:=pairwise_iff_getElem.1 hs i j (by omega) (by omega) hij;have hne:=pairwise_iff_getElem.1 hnd i j (by omega) (by omega) hij;rw[p2,p4] at hl hne;have hk:=hkm _ _ (hget i (by omega)) (hget j hj);rcases hl with hl|hl
  ·exact .inl (hk.1.1 hl)
  ·exact .inr ⟨hk.2.1 hl.1,by omega⟩
 intro y
 by_cases q:(rank1 (keyS s x) x).last=s.length - 1\/s.length<=(rank1 (keyS s x) x).reach
 ·have ey:y={ rank1 (keyS s x) x with cls:=(rank1 (keyS s x) x).aside,aside:=(rank1 (keyS s x) x).cls,ranked:=0,done:=true }:=by
   show passS _ _=_;unfold passS;rw[if_pos q]
  rw[ey];refine .inl ⟨rfl,?_⟩;show x.order=_;refine Zqk hp ?_;rw[pairwise_iff_getElem];intro i j hi hj hij
  have e1:x.order[i]=x.order.getD i 0:=by rw[gB,gA hi];rfl
  have e2:x.order[j]=x.order.getD j 0:=by rw[gB,gA hj];rfl
  rw[e1,e2];have ga:=hget i (by omega);have gb:=hget j (by omega);rcases hstrict i j hij (by omega) with g|⟨g,g2⟩
  ·exact Zsq ga gb (Zyk g)
  ·rcases q with q|q
   ·exfalso;rw[hlast] at q
    have hr:∀ t,t<=x.ranked->t<=rk (keyS s x) x.order (x.ranked) - (x.ranked - t):=λt ht=>by omega
    have hinc:∀ d t,t+d=x.ranked->rk (keyS s x) x.order t=t:=by
     intro d
     induction d with
     |zero=>intro t ht;rw[show t=x.ranked by omega,q];omega
     |succ d ih=>
      intro t ht;have h5:=ih (t+1) (by omega)
      have h6:rk (keyS s x) x.order (t+1)=rk (keyS s x) x.order t+if klt (keyS s x (x.order.getD t 0)) (keyS s x (x.order.getD (t+1) 0)) then 1 else 0:=rfl
      have h7:=Zjp (k:=keyS s x) (o:=x.order) t
      split at h6 <;> omega
    have h8:=hinc (x.ranked - i) i (by omega);have h9:=hinc (x.ranked - j) j (by omega);have h10:=(hcls _ _ ga gb).2.2 g;rw[hasd i (by omega),hasd j (by omega)] at h10;omega
   ·refine Zsv ga gb (λt ht=>g t ?_) g2;have q':s.length<=x.reach:=q;unfold wid
    split <;> omega
 ·have ey:y={ rank1 (keyS s x) x with cls:=(rank1 (keyS s x) x).aside,aside:=(rank1 (keyS s x) x).cls,ranked:=0,reach:=max 1 (2*x.reach),stack:=⟨0,0,s.length⟩::x.stack }:=by
   show passS _ _=_;unfold passS;rw[if_neg q];rfl
  have hrl:x.reach < s.length:=by
   rcases hU_ x.reach s.length with g|g
   ·exact g
   ·exact absurd (.inr g) q
  have hw:max 1 (2*x.reach)=wid x:=by unfold wid;split <;> omega
  rw[ey];refine .inr ⟨h.bs.nd,?_,hrl,by show x.reach < max 1 (2*x.reach);omega,by show _::x.stack=_;rw[h2],by show x.merge.hi=0;omega,rfl⟩;have hcl:(rank1 (keyS s x) x).cls.length=s.length:=h.bs.cl;have htwo:=h.bs.two;refine⟨⟨htwo,hol,hal,hcl,h.bs.om,h.bs.nd⟩,.inr λa b ha hb=>?_,?_⟩
  ·show (_↔ltm s (max 1 (2*x.reach)) a b)/\(_↔eqm s (max 1 (2*x.reach)) a b);rw[hw];exact hcls a b ha hb
  ·generalize hk2:keyS s _=k2
   have hk2m:∀ a b,a < s.length->b < s.length->k2 a=k2 b->eqm s (wid x) a b:=by
    intro a b ha hb e;rw[<-hk2] at e;unfold keyS at e;simp only at e;rw[if_neg (by omega),if_neg (by omega)] at e;exact (hcls a b ha hb).2.1 (congrArg Prod.fst e)
   have hsg:seg x.order 0 s.length=x.order:=by
    unfold seg;rw[drop_zero,Nat.sub_zero,gK (by omega)]
   refine .inl ⟨by show x.merge.hi=0;omega,hp,?_,?_,λ_=>rfl,by show 0 < s.length;omega,λi hi=>absurd hi (Nat.not_lt_zero i),λz=>absurd z (Nat.lt_irrefl 0)⟩
   ·show WF k2 s.length (⟨0,0,s.length⟩::x.stack) x.order;rw[h2];refine⟨⟨by show 0 < s.length;omega,Nat.le_refl _⟩,?_,trivial⟩;unfold Cond;rw[if_pos rfl];simp only;rw[hsg,pairwise_iff_getElem];intro i j hi hj hij e
    have e1:x.order[i]=x.order.getD i 0:=by rw[gB,gA hi];rfl
    have e2:x.order[j]=x.order.getD j 0:=by rw[gB,gA hj];rfl
    rw[e1,e2] at e ⊢;have g:=hk2m _ _ (hget i (by omega)) (hget j (by omega)) e;rcases hstrict i j hij (by omega) with z|z
    ·exact absurd g (Ya3 z)
    ·omega
   ·show (run k2 (⟨0,0,s.length⟩::x.stack) x.order).Pairwise (le k2);rw[h2];show (ap k2 ⟨0,0,s.length⟩ x.order).Pairwise (le k2);unfold ap rep;simp only;rw[hsg,take_zero,hO_,drop_of_length_le (by omega),gU];exact Zaq _ _
end Go.Mr
namespace Go.Mr
open Go.M18
def cost (p:Pt):Nat:=if p.mid=0 then 4*((p.hi - p.lo)*(p.hi - p.lo)) else (p.mid - p.lo)+(p.hi - p.lo)
def costs:List Pt->Nat
 |[]=>0
 |p::st=>cost p+costs st
def mCost (x:SS):Nat:=if x.merge.hi=0 then 0 else (x.merge.mid - x.merge.lo - x.laid)+(x.merge.hi - toS x)
def passC (n:Nat):Nat:=4*(n*n)+2*n+2
def mu (n:Nat) (x:SS):Nat:=if x.done=true then 0 else 1+((n+1 - x.reach)*passC n+costs x.stack+mCost x+(n - x.ranked))
variable {s:List UInt8}{x:SS}{k:Key}{n:Nat}
theorem mu_eq (h:x.done=false):mu n x=1+((n+1 - x.reach)*passC n+costs x.stack+mCost x+(n - x.ranked)):=by
 unfold mu;rw[if_neg (by rw[h];exact Bool.false_ne_true)]
theorem Zb5 (h:x.merge.hi=0):mCost x=0:=by unfold mCost;rw[if_pos h]
theorem Zbl (h:¬ x.merge.hi=0):mCost x=(x.merge.mid - x.merge.lo - x.laid)+(x.merge.hi - toS x):=by unfold mCost;rw[if_neg h]
theorem join_mu (hb:Bs n x) (h:PhC k n x):mu n (joinS x)=mu n x:=by
 unfold joinS;split
 ·rfl
 ·rename_i p st e;split
  ·rename_i q;rcases h with h|⟨R,h⟩
   ·have hw:=h.wf;rw[e] at hw;obtain⟨⟨w1,w2⟩,hc,_⟩:=hw;unfold Cond at hc;rw[if_neg q.2] at hc;have c1:=hc.1;have c2:=hc.2.1
    have:costs (p::st)=(p.mid - p.lo)+(p.hi - p.lo)+costs st:=by
     show cost p+costs st=_;unfold cost;rw[if_neg q.2]
    rw[mu_eq hb.nd,mu_eq (x:={ x with merge:=p,stack:=st,laid:=0,first:=0,second:=p.mid }) hb.nd,Zb5 q.1,Zbl (x:={ x with merge:=p,stack:=st,laid:=0,first:=0,second:=p.mid }) (by show ¬ p.hi=0;omega),e,this];show 1+((n+1 - x.reach)*passC n+costs st+(p.mid - p.lo - 0+(p.hi - (p.lo+0+p.mid - p.mid)))+(n - x.ranked))=_;omega
   ·have:=h.m2;omega
  ·rfl
theorem begin_cost {lo hi:Nat}(h:2<=hi - lo):cost ⟨lo,0,(lo+hi)/2⟩+(cost ⟨(lo+hi)/2,0,hi⟩+cost ⟨lo,(lo+hi)/2,hi⟩) < cost ⟨lo,0,hi⟩:=by
 generalize hm:(lo+hi)/2=mid;unfold cost;rw[if_pos rfl,if_pos rfl,if_pos rfl,if_neg (by show ¬ mid=0;omega)];simp only;obtain⟨a,ha⟩:∃ a,a=mid - lo:=⟨_,rfl⟩;obtain⟨b,hb⟩:∃ b,b=hi - mid:=⟨_,rfl⟩
 have e:hi - lo=a+b:=by omega
 rw[e,<-ha,<-hb]
 have h1:1<=a:=by omega
 have h2:1<=b:=by omega
 have h3:a<=a*b:=Nat.le_mul_of_pos_right a h2;have h4:b<=a*b:=Nat.le_mul_of_pos_left b h1
 have h5:(a+b)*(a+b)=a*a+2*(a*b)+b*b:=by
  rw[Nat.add_mul,Nat.mul_add,Nat.mul_add,Nat.mul_comm b a];omega
 rw[h5];omega
theorem pass_mu {y:SS}(hd:x.done=false) (hyd:y.done=false) (h1:x.reach < n) (h2:x.reach < y.reach) (h3:y.stack=[⟨0,0,n⟩]) (h4:y.merge.hi=0) (h5:y.ranked=0):mu n y < mu n x:=by
 unfold mu;rw[hd,hyd,if_neg (by simp),if_neg (by simp),h3,h5]
 have e1:mCost y=0:=by unfold mCost;rw[if_pos h4]
 have e2:costs [⟨0,0,n⟩]=4*(n*n):=by
  show cost ⟨0,0,n⟩+0=_;unfold cost;rw[if_pos rfl];rfl
 rw[e1,e2]
 have h6:(n+1 - y.reach)*passC n+passC n<=(n+1 - x.reach)*passC n:=by
  have h7:(n+1 - y.reach+1)*passC n<=(n+1 - x.reach)*passC n:=Nat.mul_le_mul_right _ (by omega);rw[Nat.add_mul,Nat.one_mul] at h7;exact h7
 have h8:passC n=4*(n*n)+2*n+2:=rfl;omega
theorem rank_mu (hd:x.done=false) (h:x.ranked < n):mu n (rank1 k x) < mu n x:=by
 unfold mu;rw[show (rank1 k x).done=x.done from rfl,hd,if_neg (by simp),if_neg (by simp)];show 1+((n+1 - x.reach)*passC n+costs x.stack+mCost x+(n - (x.ranked+1))) < _;omega
theorem step_ok (h:Inv s x):mu s.length (stepS (keyS s x) s.length x) < mu s.length x/\
  (((stepS (keyS s x) s.length x).done=true/\(stepS (keyS s x) s.length x).order=sortP s s.length)\/Inv s (stepS (keyS s x) s.length x)):=by
 have hj:=Zo0 h.bs h.ph;have hjm:=join_mu h.bs h.ph
 have hjk:keyS s (joinS x)=keyS s x/\Cls s (joinS x):=by
  unfold joinS;split
  ·exact⟨rfl,h.cls⟩
  ·split
   ·exact⟨rfl,h.cls⟩
   ·exact⟨rfl,h.cls⟩
 unfold stepS;rw[<-hjm];generalize joinS x=y at *;obtain⟨hb,hp,hm⟩:=hj;obtain⟨hk,hc⟩:=hjk;rw[<-hk] at hp ⊢;have hnd:=hb.nd;unfold restS
 by_cases q1:0 < y.merge.hi/\y.laid < y.merge.mid - y.merge.lo
 ·rw[if_pos q1];obtain⟨b1,b2⟩:=Zxb hb hp q1.1 q1.2;refine⟨?_,.inr ⟨b1,hc,b2⟩⟩;rw[mu_eq hnd,mu_eq (x:=layS y) hnd,Zbl (x:=y) (by omega),Zbl (x:=layS y) (by show ¬ y.merge.hi=0;omega)];show 1+((s.length+1 - y.reach)*passC s.length+costs y.stack+(y.merge.mid - y.merge.lo - (y.laid+1)+(y.merge.hi - toS y))+(s.length - y.ranked)) < _;omega
 ·rw[if_neg q1]
  by_cases q2:0 < y.merge.hi
  ·rw[if_pos q2];have q3:¬ y.laid < y.merge.mid - y.merge.lo:=λz=>q1 ⟨q2,z⟩;obtain⟨b1,b2⟩:=Zxc hb hp q2 q3
   have hcl:Cls s (putS (keyS s y) y):=by
    unfold putS moveS;split
    ·split <;> exact hc
    ·split <;> exact hc
   have hky:keyS s (putS (keyS s y) y)=keyS s y:=by
    unfold putS moveS;split
    ·split <;> rfl
    ·split <;> rfl
   refine⟨?_,.inr ⟨b1,hcl,by rw[hky];exact b2⟩⟩;rcases hp with hp|⟨R,hp⟩
   ·have:=hp.none;omega
   have hm1:=hp.m1;have hm2:=hp.m2;have hlay:=hp.lay
   obtain⟨v,f,c,e,_,_,_,_,t1,_⟩:=Zmi hb hp (by omega);obtain⟨_,_,_,l4,_⟩:=hp.late (by omega);unfold putS;rw[e];rw[mu_eq hnd,Zbl (x:=y) (by omega)];split
   ·rename_i q;rw[mu_eq (by exact hnd),Zb5 (by rfl)];show 1+((s.length+1 - y.reach)*passC s.length+costs y.stack+0+(s.length - y.ranked)) < _;omega
   ·rename_i q;rw[mu_eq (by exact hnd),Zbl (by show ¬ y.merge.hi=0;omega)];show 1+((s.length+1 - y.reach)*passC s.length+costs y.stack+(y.merge.mid - y.merge.lo - y.laid+(y.merge.hi - (y.merge.lo+f+c - y.merge.mid)))+(s.length - y.ranked)) < _;omega
  ·rw[if_neg q2]
   by_cases q3:y.stack≠[]
   ·rw[if_pos q3];obtain⟨b1,b2⟩:=Zp2 hb hp q2 q3 (hm (by omega))
    have hcl:Cls s (beginS y):=by
     unfold beginS;split
     ·exact hc
     ·split <;> exact hc
    have hky:keyS s (beginS y)=keyS s y:=by
     unfold beginS;split
     ·rfl
     ·split <;> rfl
    refine⟨?_,.inr ⟨b1,hcl,by rw[hky];exact b2⟩⟩;rcases hp with hp|⟨R,hp⟩
    rotate_left
    ·have:=hp.m2;omega
    unfold beginS;split
    ·rename_i e;exact absurd e q3
    ·rename_i p st e;have hw:=hp.wf;rw[e] at hw;have h0:=hw.1;have hmid:=hm (by omega) p st e;obtain⟨lo,mid,hi⟩:=p;simp only at hmid h0;subst hmid;have ec:costs (⟨lo,0,hi⟩::st)=cost ⟨lo,0,hi⟩+costs st:=rfl;rw[mu_eq hnd,Zb5 (show y.merge.hi=0 by omega),e,ec];split
     ·rename_i q;rw[mu_eq (by exact hnd),Zb5 (by show y.merge.hi=0;omega)]
      have h9:1<=cost ⟨lo,0,hi⟩:=by
       unfold cost;rw[if_pos rfl];have:1<=(hi - lo)*(hi - lo):=Nat.mul_pos (by omega) (by omega);simp only;omega
      show 1+((s.length+1 - y.reach)*passC s.length+costs st+0+(s.length - y.ranked)) < _;omega
     ·rename_i q;simp only at q;rw[mu_eq (by exact hnd),Zb5 (by show y.merge.hi=0;omega)];have h9:=begin_cost (lo:=lo) (hi:=hi) (by omega);show 1+((s.length+1 - y.reach)*passC s.length+(cost ⟨lo,0,(lo+hi)/2⟩+(cost ⟨(lo+hi)/2,0,hi⟩+(cost ⟨lo,(lo+hi)/2,hi⟩+costs st)))+0+(s.length - y.ranked)) < _;omega
   ·rw[if_neg q3];have q4:y.stack=[]:=Classical.byContradiction q3;have hi:Inv s y:=⟨hb,hc,hp⟩;obtain⟨_,_,hkn,hgo,_⟩:=Zme hb hp q2 q4;unfold rankS;split
    ·rename_i q;have:=Zuy hi q2 q4 q;simp only at this;rcases this with⟨p1,p2⟩|⟨p1,p2,p3,p4,p5,p6,p7⟩
     ·refine⟨?_,.inl ⟨p1,p2⟩⟩;unfold mu;rw[p1,hnd,if_pos rfl,if_neg (by simp)];omega
     ·exact⟨pass_mu hnd p1 p3 p4 p5 p6 p7,.inr p2⟩
    ·rename_i q;obtain⟨b1,b2⟩:=hgo (by omega);exact⟨rank_mu hnd hkn,.inr ⟨b1,hc,b2⟩⟩
def start (n:Nat):SS:=⟨List.range n,List.replicate n 0,List.replicate n 0,0,[⟨0,0,n⟩],⟨0,0,0⟩,0,0,0,0,0,false⟩
theorem Zv5 (h:2<=s.length):Inv s (start s.length):=by
 have hsg:seg (List.range s.length) 0 s.length=List.range s.length:=by
  unfold seg;rw[drop_zero,Nat.sub_zero,gK (by simp)]
 refine⟨⟨h,by simp[start],by simp[start],by simp[start],λa ha=>mem_range.1 ha,rfl⟩,.inl rfl,.inl ⟨rfl,.refl _,⟨⟨by show 0 < s.length;omega,Nat.le_refl _⟩,?_,trivial⟩,?_,λ_=>rfl,by show 0 < s.length;omega,λi hi=>absurd hi (Nat.not_lt_zero i),λz=>absurd z (Nat.lt_irrefl 0)⟩⟩
 ·unfold Cond;rw[if_pos rfl];show (seg (List.range s.length) 0 s.length).Pairwise _;rw[hsg,pairwise_iff_getElem];intro i j hi hj hij _;rw[List.getElem_range,List.getElem_range];omega
 ·show (ap _ ⟨0,0,s.length⟩ (List.range s.length)).Pairwise _;unfold ap rep;simp only;rw[hsg,take_zero,hO_,drop_of_length_le (by simp),gU];exact Zaq _ _
theorem mu_start (hn:n<=4000):mu n (start n)<=300000000000:=by
 unfold mu;rw[if_neg (by simp[start])];show 1+((n+1 - 0)*passC n+(cost ⟨0,0,n⟩+0)+0+(n - 0))<=_;have h1:n*n<=4000*4000:=Nat.mul_le_mul hn hn
 have h2:passC n<=4*(4000*4000)+2*4000+2:=by unfold passC;omega
 have h3:(n+1 - 0)*passC n<=4001*(4*(4000*4000)+2*4000+2):=Nat.mul_le_mul (by omega) h2
 have h4:cost ⟨0,0,n⟩=4*(n*n):=by unfold cost;rw[if_pos rfl];rfl
 rw[h4];omega
end Go.Mr
namespace Go.Vc
abbrev Hp:=Nat->Option Obj
abbrev HProp:=Hp->Prop
def Hp.sub (h g:Hp):Prop:=∀ b o,h b=some o->g b=some o
def Hp.minus (h g:Hp):Hp:=λb=>if (g b).isSome=true then none else h b
def Sat:List HProp->Hp->Prop
 |[],_=>True
 |P::L,h=>∃ g,P g/\g.sub h/\Sat L (h.minus g)
def hp (w:World):Hp:=λb=>w.heap[b]?
def Holds (w:World) (L:List HProp):Prop:=Sat L (hp w)
def blkO (b:Nat) (o:Obj):HProp:=λh=>h b=some o
def blk (b:Nat) (t:TypeId) (cs:List Value):HProp:=blkO b (.cells cs.toArray t)
def pur (p:Prop):HProp:=λ_=>p
structure Same (w w':World):Prop where
 os:w'.os=w.os
 tape:w'.tape=w.tape
 output:w'.output=w.output
 size:w.heap.size<=w'.heap.size
theorem Same.refl (w:World):Same w w:=⟨rfl,rfl,rfl,Nat.le_refl _⟩
theorem Same.trans {a b c:World}(h:Same a b) (k:Same b c):Same a c:=⟨k.os.trans h.os,k.tape.trans h.tape,k.output.trans h.output,Nat.le_trans h.size k.size⟩
theorem Sat.mono:∀ {L:List HProp}{h g:Hp},Sat L h->h.sub g->Sat L g
 |[],_,_,_,_=>trivial
 |P::L,h,g,⟨k,hp,hs,hL⟩,hg=>⟨k,hp,λb o hb=>hg b o (hs b o hb),hL.mono λb o hb=>by
  unfold Hp.minus at hb ⊢;split
  ·rename_i h1;rw[if_pos h1] at hb;cases hb
  ·rename_i h1;rw[if_neg h1] at hb;exact hg b o hb⟩
theorem Sat.swap {P Q:HProp}{L:List HProp}{h:Hp}(H:Sat (P::Q::L) h):Sat (Q::P::L) h:=by
 obtain⟨g,hg,hgs,k,hk,hks,hL⟩:=H
 have kn:∀ b o,k b=some o->g b=none/\h b=some o:=λb o hb=>by
  have:=hks b o hb;unfold Hp.minus at this;split at this
  ·cases this
  ·rename_i h1;simp at h1;exact⟨h1,this⟩
 refine⟨k,hk,λb o hb=>(kn b o hb).2,g,hg,λb o hb=>?_,hL.mono λb o hb=>?_⟩
 ·unfold Hp.minus;rw[if_neg ?_]
  ·exact hgs b o hb
  ·intro h1;obtain⟨x,hx⟩:=Option.isSome_iff_exists.1 h1;rw[(kn b x hx).1] at hb;cases hb
 ·unfold Hp.minus at hb ⊢;split at hb
  ·cases hb
  ·rename_i h1;split at hb
   ·cases hb
   ·rename_i h2;rw[if_neg h2,if_neg h1];exact hb
theorem Sat.pull:∀ {L:List HProp}{h:Hp}(i:Nat){P:HProp},Sat L h->L[i]?=some P->Sat (P::L.eraseIdx i) h
 |Q::L,h,0,P,H,hi=>by simp at hi;subst hi;exact H
 |Q::L,h,i+1,P,⟨g,hg,hs,hL⟩,hi=>Sat.swap ⟨g,hg,hs,hL.pull i (by simpa using hi)⟩
theorem Sat.push:∀ {L:List HProp}{h:Hp}(i:Nat){P Q:HProp},L[i]?=some Q->Sat (P::L.eraseIdx i) h->Sat (L.set i P) h
 |R::L,h,0,P,Q,_,H=>H
 |R::L,h,i+1,P,Q,hi,H=>by
  obtain⟨g,hg,hs,hL⟩:=Sat.swap H;exact⟨g,hg,hs,Sat.push i (by simpa using hi) hL⟩
theorem Holds.front {w:World}{L:List HProp}(H:Holds w L) (i:Nat){P:HProp}(hi:L[i]?=some P):Holds w (P::L.eraseIdx i):=Sat.pull i H hi
theorem Holds.swap {w:World}{P Q:HProp}{L:List HProp}(H:Holds w (P::Q::L)):Holds w (Q::P::L):=Sat.swap H
theorem Holds.drop {w:World}{P:HProp}{L:List HProp}(H:Holds w (P::L)):Holds w L:=by
 obtain⟨g,_,_,hL⟩:=H
 exact hL.mono λb o hb=>by
  unfold Hp.minus at hb;split at hb
  ·cases hb
  ·exact hb
theorem Holds.dropAt {w:World}{L:List HProp}(H:Holds w L) (i:Nat):Holds w (L.eraseIdx i):=by
 cases h:L[i]? with
 |none=>rw[List.eraseIdx_of_length_le (by simpa using h)];exact H
 |some P=>exact (H.front i h).drop
theorem Sat.imp {P Q:HProp}{L:List HProp}{h:Hp}(H:Sat (P::L) h) (hpq:∀ h,P h->Q h):Sat (Q::L) h:=by
 obtain⟨g,hg,hs,hL⟩:=H;exact⟨g,hpq _ hg,hs,hL⟩
theorem Holds.imp {P Q:HProp}{L:List HProp}{w:World}(H:Holds w (P::L)) (hpq:∀ h,P h->Q h):Holds w (Q::L):=Sat.imp H hpq
theorem Holds.ex {α:Type}{P:α->HProp}{L:List HProp}{w:World}(H:Holds w ((λh=>∃ x,P x h)::L)):∃ x,Holds w (P x::L):=by
 obtain⟨g,⟨x,hx⟩,hs,hL⟩:=H;exact⟨x,g,hx,hs,hL⟩
theorem Holds.pure {p:Prop}{P:HProp}{L:List HProp}{w:World}(H:Holds w ((λh=>p/\P h)::L)):p/\Holds w (P::L):=by
 obtain⟨g,⟨hp,hg⟩,hs,hL⟩:=H;exact⟨hp,g,hg,hs,hL⟩
theorem Sat.unpack:∀ {A L:List HProp}{h:Hp},Sat (Sat A::L) h->Sat (A++L) h
 |[],L,h,⟨g,_,_,hL⟩=>hL.mono λb o hb=>by
  unfold Hp.minus at hb;split at hb
  ·cases hb
  ·exact hb
 |P::A,L,h,⟨g,⟨k,hk,hks,hA⟩,hgs,hL⟩=>by
  refine⟨k,hk,λb o hb=>hgs b o (hks b o hb),Sat.unpack ⟨g.minus k,hA,λb o hb=>?_,hL.mono λb o hb=>?_⟩⟩
  ·unfold Hp.minus at hb ⊢;split at hb
   ·cases hb
   ·rename_i h1;rw[if_neg h1];exact hgs b o hb
  ·unfold Hp.minus at hb ⊢;split at hb
   ·cases hb
   ·rename_i h1
    have h1':g b=none:=by simpa using h1
    have h2:k b=none:=by
     cases hk:k b with
     |none=>rfl
     |some x=>rw[hks b x hk] at h1';cases h1'
    simp[h1',h2,hb]
theorem Sat.pack:∀ {A L:List HProp}{h:Hp},Sat (A++L) h->Sat (Sat A::L) h
 |[],L,h,H=>by
  refine⟨λ_=>none,trivial,?_,?_⟩
  ·intro b o hb;cases hb
  ·have e:h.minus (λ_=>none)=h:=by funext b;simp[Hp.minus]
   rw[e];exact H
 |P::A,L,h,⟨k,hk,hks,H⟩=>by
  obtain⟨g,hg,hgs,hL⟩:=Sat.pack H
  have gk:∀ b o,g b=some o->k b=none/\h b=some o:=λb o hb=>by
   have:=hgs b o hb;unfold Hp.minus at this;split at this
   ·cases this
   ·rename_i h1;simp at h1;exact⟨h1,this⟩
  refine⟨λb=>(k b).or (g b),⟨k,hk,λb o hb=>by simp[hb],hg.mono λb o hb=>?_⟩,λb o hb=>?_,hL.mono λb o hb=>?_⟩
  ·unfold Hp.minus;simp[(gk b o hb).1,hb]
  ·cases hkb:k b with
   |none=>simp[hkb] at hb;exact (gk b o hb).2
   |some x=>simp[hkb] at hb;subst hb;exact hks b x hkb
  ·unfold Hp.minus at hb ⊢;split at hb
   ·cases hb
   ·rename_i h1;split at hb
    ·cases hb
    ·rename_i h2;simp at h1 h2;simp[h1,h2,hb]
theorem Holds.pack {A L:List HProp}{w:World}(H:Holds w (A++L)):Holds w (Sat A::L):=Sat.pack H
theorem Holds.unpack {A L:List HProp}{w:World}(H:Holds w (Sat A::L)):Holds w (A++L):=Sat.unpack H
theorem Holds.obj {w:World}{L:List HProp}(H:Holds w L) (i:Nat){b:Nat}{o:Obj}(hi:L[i]?=some (blkO b o)):w.heap[b]?=some o:=by
 obtain⟨g,hg,hs,_⟩:=H.front i hi;exact hs b o hg
theorem Holds.upd {w w':World}{L:List HProp}(H:Holds w L) (i:Nat){b:Nat}{o o':Obj}(hi:L[i]?=some (blkO b o)) (hb:w'.heap[b]?=some o') (ho:∀ c,c≠b->w'.heap[c]?=w.heap[c]?) :
  Holds w' (L.set i (blkO b o')):=by
 obtain⟨g,hg,hs,hL⟩:=H.front i hi;refine Sat.push i hi ⟨λc=>if c=b then some o' else none,by simp[blkO],λc o hc=>?_,hL.mono λc o hc=>?_⟩
 ·by_cases e:c=b
  ·subst e;simp at hc;subst hc;exact hb
  ·simp[e] at hc
 ·unfold Hp.minus at hc ⊢
  by_cases e:c=b
  ·subst e;rw[if_pos (by rw[show g c=some _ from hg];rfl)] at hc;cases hc
  ·simp only[e,if_false,Option.isSome_none,Bool.false_eq_true];split at hc
   ·cases hc
   ·show w'.heap[c]?=_;rw[ho c e];exact hc
theorem Holds.new {w w':World}{L:List HProp}(H:Holds w L){b:Nat}{o:Obj}(hn:w.heap[b]?=none) (hb:w'.heap[b]?=some o) (ho:∀ c,c≠b->w'.heap[c]?=w.heap[c]?) :
  Holds w' (blkO b o::L):=by
 refine⟨λc=>if c=b then some o else none,by simp[blkO],λc x hc=>?_,Sat.mono H λc x hc=>?_⟩
 ·by_cases e:c=b
  ·subst e;simp at hc;subst hc;exact hb
  ·simp[e] at hc
 ·unfold Hp.minus
  by_cases e:c=b
  ·subst e;rw[show hp w c=none from hn] at hc;cases hc
  ·simp only[e,if_false,Option.isSome_none,Bool.false_eq_true];show w'.heap[c]?=_;rw[ho c e];exact hc
theorem Holds.same {w w':World}{L:List HProp}(H:Holds w L) (h:w'.heap=w.heap):Holds w' L:=by
 unfold Holds hp at *;rw[h];exact H
theorem Holds.cell {w:World}{L:List HProp}(H:Holds w L) (i:Nat){b:Nat}{t:TypeId}{cs:List Value}(hi:L[i]?=some (blk b t cs)) (o:Nat):w.cell? ⟨b,o,none⟩=cs[o]?:=by
 have:=H.obj i hi;simp[World.cell?,this]
theorem Holds.frozen {w:World}{L:List HProp}(H:Holds w L) (i:Nat){b:Nat}{t:TypeId}{cs:List Value}(hi:L[i]?=some (blk b t cs)) (o:Nat):w.frozen? ⟨b,o,none⟩=false:=by
 have:=H.obj i hi;simp[World.frozen?,this]
theorem Holds.set {w:World}{L:List HProp}(H:Holds w L) (i:Nat){b:Nat}{t:TypeId}{cs:List Value}(hi:L[i]?=some (blk b t cs)) (o:Nat) (v:Value) :
  Holds (w.setCell ⟨b,o,none⟩ v) (L.set i (blk b t (cs.set o v))):=by
 have h:=H.obj i hi;refine H.upd i hi ?_ λc hc=>?_
 ·simp[World.setCell,Array.getElem?_modify,h]
 ·simp only[World.setCell,Array.getElem?_modify];rw[if_neg (by simpa using λh=>hc h.symm)]
theorem Same.setCell (w:World) (a:Addr) (v:Value):Same w (w.setCell a v):=⟨rfl,rfl,rfl,by simp[World.setCell]⟩
theorem Same.drew (w:World):Same w w.drew:=⟨rfl,rfl,rfl,Nat.le_refl _⟩
theorem Same.alloc (w:World) (o:Obj):Same w (w.alloc o):=⟨rfl,rfl,rfl,by simp⟩
theorem Holds.alloc {w:World}{L:List HProp}(H:Holds w L) (o:Obj):Holds (w.alloc o) (blkO w.heap.size o::L):=by
 refine H.new (by simp) ?_ λc hc=>?_
 ·show (w.heap.push o)[w.heap.size]?=_;simp
 ·show (w.heap.push o)[c]?=_;rw[Array.getElem?_push,if_neg (by omega)]
def whole (w:World):HProp:=λh=>∀ b o,w.heap[b]?=some o->h b=some o
theorem holds_whole (w:World):Holds w [whole w]:=⟨hp w,λb o h=>h,λb o h=>h,trivial⟩
theorem Zmr {w w':World}(S:Same w w'){L:List HProp}(H:Holds w' (whole w::L)):RowKit.Below w.heap.size w w':=by
 refine⟨S.os,S.tape,S.output,S.size,λk hk=>?_⟩;obtain⟨g,hg,hs,_⟩:=H;have h1:w.heap[k]?=some w.heap[k]:=Array.getElem?_eq_getElem hk;rw[h1];exact hs k _ (hg k _ h1)
theorem calls_of_law {P:Program}{f:FuncId}{args:Array Value}{w:World}(h:∀ K:Value->World->Prop,(∀ w',Same w w'->Holds w' [whole w]->K (.bool true) w')->Cl P f args w K) :
  Calls P f args w λe w'=>e=.returned (.bool true)/\RowKit.Below w.heap.size w w':=
 (h (λv w'=>v=.bool true/\RowKit.Below w.heap.size w w') λw' S H=>⟨rfl,Zmr S H⟩).2.mono λe w' ⟨v,he,hv,hb⟩=>⟨by rw[he,hv],hb⟩
section
variable {P:Program}{w:World}{L:List HProp}
theorem r_nc {a:Addr}{A:Prop}(h:A):Nc (.pointer (some a)) A:=⟨⟨a,rfl⟩,h⟩
theorem r_fo {off b o:Nat}{K:Value->Prop}(h:K (.pointer (some ⟨b,o+off,none⟩))):Fo off (.pointer (some ⟨b,o,none⟩)) K:=by
 refine⟨_,rfl,?_⟩;unfold Addr.add;split
 ·rename_i h0;subst h0;exact h
 ·exact h
theorem r_fo0 {off b:Nat}{K:Value->Prop}(h:K (.pointer (some ⟨b,off,none⟩))):Fo off (.pointer (some ⟨b,0,none⟩)) K:=r_fo (by rw[Nat.zero_add];exact h)
theorem r_ld (i:Nat) (H:Holds w L){b o:Nat}{t:TypeId}{cs:List Value}{v:Value}{K:Value->Prop}(hi:L[i]?=some (blk b t cs)) (hc:cs[o]?=some v) (h:K v) :
  Ld (.pointer (some ⟨b,o,none⟩)) w K:=⟨_,v,rfl,(H.cell i hi o).trans hc,h⟩
theorem r_st (i:Nat) (H:Holds w L){b o:Nat}{t:TypeId}{cs:List Value}{v:Value}{K:World->Prop}(hi:L[i]?=some (blk b t cs)) (ho:o < cs.length) (hs:sg v=true)
  (h:∀ w',Same w w'->Holds w' (L.set i (blk b t (cs.set o v)))->K w'):St (.pointer (some ⟨b,o,none⟩)) v w K:=
 ⟨_,cs[o],rfl,(H.cell i hi o).trans (by simp[ho]),H.frozen i hi o,hs,h _ (.setCell _ _ _) (H.set i hi o v)⟩
theorem r_new {z:Value}{t:TypeId}(H:Holds w L){K:KT}(h:∀ b w',Same w w'->Holds w' (blk b t z.cells.toList::L)->K (.pointer (some ⟨b,0,none⟩)) w'):New z t w K:=
 h _ _ (.alloc _ _) (H.alloc _)
theorem r_dr (H:Holds w L){K:World->Prop}(h:∀ w',Same w w'->Holds w' L->K w'):Dr w K:=h _ (.drew _) (H.same rfl)
theorem r_vif {b:Bool}{A B:Prop}(h1:b=true->A) (h2:b=false->B):Vif (.bool b) A B:=by
 cases b
 ·exact h2 rfl
 ·exact h1 rfl
theorem Zay {rest:(Nat->Value)->Cur 0}{br:Cur 0->Prop}(J:World->Prop) (hJ:∀ jb w,J w->rest jb w) (h:br J):VJoin 0 rest br:=⟨J,λjb w hw=>hJ jb w hw,h⟩
theorem Za1 {rest:(Nat->Value)->Cur 1}{br:Cur 1->Prop}(J:KT) (hJ:∀ jb x w,J x w->rest jb x w) (h:br J):VJoin 1 rest br:=⟨J,λjb x w hw=>hJ jb x w hw,h⟩
theorem Zsp {rest:(Nat->Value)->Cur 2}{br:Cur 2->Prop}(J:Value->Value->World->Prop) (hJ:∀ jb x y w,J x y w->rest jb x y w) (h:br J):VJoin 2 rest br:=⟨J,λjb x y w hw=>hJ jb x y w hw,h⟩
theorem r_ke {a:List Value}{X:Prop}(h:X):KE a a X:=⟨rfl,h⟩
theorem Zka {w:World}{body:(Nat->Value)->Cur 0->Cur 0}(I:World->Prop) (μ:World->Nat) (h0:I w)
  (h:∀ jb w,I w->body jb (λw'=>I w'/\μ w' < μ w) w):VLoop 0 [] w body:=
 ⟨λ_ w=>I w,λ_ w=>μ w,h0,λjb us u hl hI=>match us,hl with|[],_=>h jb u hI⟩
theorem Za7 {w:World}{a:Value}{body:(Nat->Value)->Cur 1->Cur 1}(I:KT) (μ:Value->World->Nat) (h0:I a w)
  (h:∀ jb x w,I x w->body jb (λx' w'=>I x' w'/\μ x' w' < μ x w) x w):VLoop 1 [a] w body:=
 ⟨λl w=>match l with|[x]=>I x w|_=>False,λl w=>match l with|[x]=>μ x w|_=>0,h0,λjb us u hl hI=>match us,hl with|[x],_=>h jb x u hI⟩
theorem Zaa {w:World}{a b:Value}{body:(Nat->Value)->Cur 2->Cur 2}(I:Value->Value->World->Prop) (μ:Value->Value->World->Nat) (h0:I a b w)
  (h:∀ jb x y w,I x y w->body jb (λx' y' w'=>I x' y' w'/\μ x' y' w' < μ x y w) x y w):VLoop 2 [a,b] w body:=
 ⟨λl w=>match l with|[x,y]=>I x y w|_=>False,λl w=>match l with|[x,y]=>μ x y w|_=>0,h0,λjb us u hl hI=>match us,hl with|[x,y],_=>h jb x y u hI⟩
theorem Zuo {w:World}{a b c:Value}{body:(Nat->Value)->Cur 3->Cur 3}(I:Value->Value->Value->World->Prop) (μ:Value->Value->Value->World->Nat) (h0:I a b c w)
  (h:∀ jb x y z w,I x y z w->body jb (λx' y' z' w'=>I x' y' z' w'/\μ x' y' z' w' < μ x y z w) x y z w):VLoop 3 [a,b,c] w body:=
 ⟨λl w=>match l with|[x,y,z]=>I x y z w|_=>False,λl w=>match l with|[x,y,z]=>μ x y z w|_=>0,h0,λjb us u hl hI=>match us,hl with|[x,y,z],_=>h jb x y z u hI⟩
theorem wrap64 {n:Int}(h1:-9223372036854775808<=n) (h2:n<=9223372036854775807):IntKind.i64.wrap n=n:=IntWalk.i64_in n ⟨h1,h2⟩
theorem r_add {a b:Int}{K:Value->Prop}(h1:-9223372036854775808<=a+b) (h2:a+b<=9223372036854775807) (h:K (.int .i64 (a+b))):Bp .add (.int .i64 a) (.int .i64 b) K:=
 ⟨.int .i64 (a+b),by simp only[bp,if_true];rw[wrap64 h1 h2],h⟩
theorem r_sub {a b:Int}{K:Value->Prop}(h1:-9223372036854775808<=a - b) (h2:a - b<=9223372036854775807) (h:K (.int .i64 (a - b))):Bp .sub (.int .i64 a) (.int .i64 b) K:=
 ⟨.int .i64 (a - b),by simp only[bp,if_true];rw[wrap64 h1 h2],h⟩
theorem r_mul {a b:Int}{K:Value->Prop}(h1:-9223372036854775808<=a*b) (h2:a*b<=9223372036854775807) (h:K (.int .i64 (a*b))):Bp .mul (.int .i64 a) (.int .i64 b) K:=
 ⟨.int .i64 (a*b),by simp only[bp,if_true];rw[wrap64 h1 h2],h⟩
theorem r_quo {a b:Int}{K:Value->Prop}(h0:0<=a) (hb:0 < b) (h2:a<=9223372036854775807) (h:K (.int .i64 (a/b))):Bp .quo (.int .i64 a) (.int .i64 b) K:=by
 refine⟨.int .i64 (a/b),?_,h⟩;have e:a.tdiv b=a/b:=Int.tdiv_eq_ediv_of_nonneg h0;have h3:0<=a/b:=Int.ediv_nonneg h0 (by omega);have h4:a/b<=a:=Int.ediv_le_self b h0;show (if IntKind.i64=IntKind.i64/\b≠0 then some (Value.int .i64 (IntKind.i64.wrap (a.tdiv b))) else none)=_;rw[if_pos ⟨rfl,by omega⟩,e,wrap64 (by omega) (by omega)]
theorem r_rem {a b:Int}{K:Value->Prop}(h0:0<=a) (hb:0 < b) (h:K (.int .i64 (a%b))):Bp .rem (.int .i64 a) (.int .i64 b) K:=by
 refine⟨.int .i64 (a%b),?_,h⟩;have e:a.tmod b=a%b:=Int.tmod_eq_emod_of_nonneg h0;show (if IntKind.i64=IntKind.i64/\b≠0 then some (Value.int .i64 (a.tmod b)) else none)=_;rw[if_pos ⟨rfl,by omega⟩,e]
theorem Zik {a b q:Int}{K:Value->Prop}(hq:a.tdiv b=q) (hb:b≠0) (h1:-9223372036854775808<=q) (h2:q<=9223372036854775807) (h:K (.int .i64 q)):Bp .quo (.int .i64 a) (.int .i64 b) K:=by
 refine⟨.int .i64 q,?_,h⟩;show (if IntKind.i64=IntKind.i64/\b≠0 then some (Value.int .i64 (IntKind.i64.wrap (a.tdiv b))) else none)=_;rw[if_pos ⟨rfl,hb⟩,hq,wrap64 h1 h2]
theorem Zgv {a b r:Int}{K:Value->Prop}(hr:a.tmod b=r) (hb:b≠0) (h:K (.int .i64 r)):Bp .rem (.int .i64 a) (.int .i64 b) K:=by
 refine⟨.int .i64 r,?_,h⟩;show (if IntKind.i64=IntKind.i64/\b≠0 then some (Value.int .i64 (a.tmod b)) else none)=_;rw[if_pos ⟨rfl,hb⟩,hr]
theorem r_eql {k:IntKind}{a b:Int}{K:Value->Prop}(h:K (.bool (a==b))):Bp .eql (.int k a) (.int k b) K:=⟨.bool (a==b),by simp only[bp,if_true],h⟩
theorem r_neq {k:IntKind}{a b:Int}{K:Value->Prop}(h:K (.bool (a != b))):Bp .neq (.int k a) (.int k b) K:=⟨.bool (a != b),by simp only[bp,if_true],h⟩
theorem r_lss {k:IntKind}{a b:Int}{K:Value->Prop}(h:K (.bool (decide (a < b)))):Bp .lss (.int k a) (.int k b) K:=⟨.bool (decide (a < b)),by simp only[bp,if_true],h⟩
theorem r_leq {k:IntKind}{a b:Int}{K:Value->Prop}(h:K (.bool (decide (a<=b)))):Bp .leq (.int k a) (.int k b) K:=⟨.bool (decide (a<=b)),by simp only[bp,if_true],h⟩
theorem r_gtr {k:IntKind}{a b:Int}{K:Value->Prop}(h:K (.bool (decide (b < a)))):Bp .gtr (.int k a) (.int k b) K:=⟨.bool (decide (b < a)),by simp only[bp,if_true,gt_iff_lt,ge_iff_le],h⟩
theorem r_geq {k:IntKind}{a b:Int}{K:Value->Prop}(h:K (.bool (decide (b<=a)))):Bp .geq (.int k a) (.int k b) K:=⟨.bool (decide (b<=a)),by simp only[bp,if_true,gt_iff_lt,ge_iff_le],h⟩
theorem Zo5 {a b:ByteArray}(h:a.data.toList=b.data.toList):a=b:=by
 obtain⟨⟨a⟩⟩:=a;obtain⟨⟨b⟩⟩:=b;simp at h;rw[h]
theorem Zon (a b:ByteArray):(a.toList==b.toList)=decide (a=b):=by
 rw[Bool.eq_iff_iff,beq_iff_eq,decide_eq_true_iff,ByteArray.toList_eq,ByteArray.toList_eq];exact⟨Zo5,λh=>by rw[h]⟩
theorem Zxs (a:ByteArray):a=⟨#[]⟩↔a.size=0:=by
 constructor
 ·rintro rfl;rfl
 ·intro h;apply Zo5
  have:a.data.toList.length=0:=by simpa using h
  rw[List.eq_nil_of_length_eq_zero this]
theorem Zfv {a:ByteArray}{K:Value->Prop}(h:K (.bool (decide (a.size=0)))):Bp .eql (.string a) (.string ⟨#[]⟩) K:=
 ⟨_,rfl,by rw[Zon,show decide (a=⟨#[]⟩)=decide (a.size=0) from by rw[Bool.eq_iff_iff,decide_eq_true_iff,decide_eq_true_iff,Zxs]];exact h⟩
theorem Zor {a:ByteArray}{K:Value->Prop}(h:K (.bool (decide (¬ a.size=0)))):Bp .neq (.string a) (.string ⟨#[]⟩) K:=
 ⟨_,rfl,by rw[Zon,show (!decide (a=⟨#[]⟩))=decide (¬ a.size=0) from by rw[Bool.eq_iff_iff,Bool.not_eq_true',decide_eq_false_iff_not,decide_eq_true_iff,Zxs]];exact h⟩
theorem r_seq {a b:ByteArray}{K:Value->Prop}(h:K (.bool (decide (a=b)))):Bp .eql (.string a) (.string b) K:=⟨_,rfl,by rw[Zon];exact h⟩
theorem r_sne {a b:ByteArray}{K:Value->Prop}(h:K (.bool (!decide (a=b)))):Bp .neq (.string a) (.string b) K:=⟨_,rfl,by rw[Zon];exact h⟩
theorem r_cat {a b:ByteArray}{K:Value->Prop}(hs:a.size+b.size<=9223372036854775807) (h:K (.string (a++b))):Bp .add (.string a) (.string b) K:=by
 refine⟨.string (a++b),?_,h⟩;simp only[bp];rw[if_neg (by show ¬ _ > (9223372036854775807:Int);omega)]
theorem r_not {b:Bool}{K:Value->Prop}(h:K (.bool !b)):Up .not (.bool b) K:=⟨_,rfl,h⟩
theorem r_bnS {e:TypeId}{neg:Bool}{a:Addr}{K:Value->Prop}(h:K (.bool neg)):Bn P e neg (.pointer (some a)) (.pointer none) K:=
 .inl ⟨false,rfl,by cases neg <;> exact h⟩
theorem r_bnN {e:TypeId}{neg:Bool}{K:Value->Prop}(h:K (.bool !neg)):Bn P e neg (.pointer none) (.pointer none) K:=
 .inl ⟨true,rfl,by cases neg <;> exact h⟩
theorem r_vt {A B:Prop}(h:A):Vif (.bool true) A B:=h
theorem r_vf {A B:Prop}(h:B):Vif (.bool false) A B:=h
theorem r_vtd {c:Bool}{A B:Prop}(hc:c=true) (h:A):Vif (.bool c) A B:=by subst hc;exact h
theorem r_vfd {c:Bool}{A B:Prop}(hc:c=false) (h:B):Vif (.bool c) A B:=by subst hc;exact h
theorem r_vtD {p:Prop} [Decidable p] {A B:Prop}(hc:p) (h:A):Vif (.bool (decide p)) A B:=r_vtd (decide_eq_true hc) h
theorem r_vfD {p:Prop} [Decidable p] {A B:Prop}(hc:¬ p) (h:B):Vif (.bool (decide p)) A B:=r_vfd (decide_eq_false hc) h
theorem r_vtE {a b:Int}{A B:Prop}(hc:a=b) (h:A):Vif (.bool (a==b)) A B:=r_vtd (beq_iff_eq.2 hc) h
theorem r_vfE {a b:Int}{A B:Prop}(hc:¬ a=b) (h:B):Vif (.bool (a==b)) A B:=r_vfd (beq_eq_false_iff_ne.2 hc) h
theorem r_vtN {a b:Int}{A B:Prop}(hc:¬ a=b) (h:A):Vif (.bool (a != b)) A B:=r_vtd (bne_iff_ne.2 hc) h
theorem r_vfN {a b:Int}{A B:Prop}(hc:a=b) (h:B):Vif (.bool (a != b)) A B:=r_vfd (by subst hc;simp) h
theorem r_ifD {p:Prop} [Decidable p] {A B:Prop}(h1:p->A) (h2:¬ p->B):Vif (.bool (decide p)) A B:=r_vif (λh=>h1 (of_decide_eq_true h)) λh=>h2 (of_decide_eq_false h)
theorem r_ifE {a b:Int}{A B:Prop}(h1:a=b->A) (h2:¬ a=b->B):Vif (.bool (a==b)) A B:=r_vif (λh=>h1 (beq_iff_eq.1 h)) λh=>h2 (beq_eq_false_iff_ne.1 h)
theorem r_ifN {a b:Int}{A B:Prop}(h1:¬ a=b->A) (h2:a=b->B):Vif (.bool (a != b)) A B:=r_vif (λh=>h1 (bne_iff_ne.1 h)) λh=>h2 (by simpa using h)
theorem Zzv {a b:Int}{A B:Prop}(h1:¬ a=b->A) (h2:a=b->B):Vif (.bool (!(a==b))) A B:=r_vif (λh=>h1 (by simpa using h)) λh=>h2 (by simpa using h)
theorem r_lns {s:ByteArray}{K:Value->Prop}(h:K (.int .i64 (s.size:Int))):Lns (.string s) K:=⟨s,rfl,h⟩
theorem r_lnl {a:Option Addr}{l c:Nat}{K:Value->Prop}(h:K (.int .i64 (l:Int))):Lnl (.slice a l c) K:=⟨a,l,c,rfl,h⟩
theorem r_ixs {s:ByteArray}{k:IntKind}{n:Int}{K:Value->Prop}(h0:0<=n) (h1:n < (s.size:Int)) (h:K (.int .u8 ((s.data.toList.getD n.toNat 0).toNat:Int))):Ixs (.string s) (.int k n) K:=
 ⟨s,k,n,rfl,rfl,h0,h1,h⟩
theorem r_iaa {len size b o:Nat}{k:IntKind}{n:Int}{K:Value->Prop}(h0:0<=n) (h1:n < (len:Int)) (h:K (.pointer (some ⟨b,o+n.toNat*size,none⟩))) :
  Iaa len size (.pointer (some ⟨b,o,none⟩)) (.int k n) K:=by
 refine⟨_,k,n,rfl,rfl,h0,h1,?_⟩;unfold Addr.add;split
 ·rename_i e;rw[e] at h;exact h
 ·exact h
theorem r_ias {size b o l c:Nat}{k:IntKind}{n:Int}{K:Value->Prop}(h0:0<=n) (h1:n < (l:Int)) (h:K (.pointer (some ⟨b,o+n.toNat*size,none⟩))) :
  Ias size (.slice (some ⟨b,o,none⟩) l c) (.int k n) K:=by
 refine⟨_,l,c,k,n,rfl,rfl,h0,h1,?_⟩;unfold Addr.add;split
 ·rename_i e;rw[e] at h;exact h
 ·exact h
theorem r_ex {vs:Array Value}{i:Nat}{v:Value}{K:Value->Prop}(hv:vs[i]?=some v) (h:K v):Ex (.tuple vs) i K:=⟨vs,v,rfl,hv,h⟩
theorem Zao {a:Addr}{e:TypeId}{K:Value->Prop}(h:K (.bool true)):Bn P e true (.pointer (some a)) (.pointer none) K:=r_bnS h
theorem Za6 {a:Addr}{e:TypeId}{K:Value->Prop}(h:K (.bool false)):Bn P e false (.pointer (some a)) (.pointer none) K:=r_bnS h
theorem Zu8 {e:TypeId}{K:Value->Prop}(h:K (.bool true)):Bn P e false (.pointer none) (.pointer none) K:=r_bnN h
theorem Zuf {e:TypeId}{K:Value->Prop}(h:K (.bool false)):Bn P e true (.pointer none) (.pointer none) K:=r_bnN h
theorem Zah {K:Value->Prop}(h:K (.bool false)):Up .not (.bool true) K:=r_not h
theorem Zbm {K:Value->Prop}(h:K (.bool true)):Up .not (.bool false) K:=r_not h
theorem r_pkB {c:Bool}{K:Value->Prop}(h:K (.bool c)):Pk (.bool c) (.bool true) (.bool false) K:=by
 cases c
 ·exact h
 ·exact h
theorem Za3 {a b:Value}{K:Value->Prop}(h:K a):Ex (.tuple #[a,b]) 0 K:=r_ex rfl h
theorem Za4 {a b:Value}{K:Value->Prop}(h:K b):Ex (.tuple #[a,b]) 1 K:=r_ex rfl h
theorem Zle {a b c:Value}{K:Value->Prop}(h:K a):Ex (.tuple #[a,b,c]) 0 K:=r_ex rfl h
theorem Zph {a b c:Value}{K:Value->Prop}(h:K b):Ex (.tuple #[a,b,c]) 1 K:=r_ex rfl h
theorem Zpe {a b c:Value}{K:Value->Prop}(h:K c):Ex (.tuple #[a,b,c]) 2 K:=r_ex rfl h
theorem r_ci {k k':IntKind}{n:Int}{K:Value->Prop}(h:K (.int k (k.wrap n))):Ci k (.int k' n) K:=⟨k',n,rfl,h⟩
theorem Zzu {k:IntKind}{a b:Int}{K:Value->Prop}(h0:0<=a) (hb:0 < b) (h:K (.int k (a%b))):Bp .rem (.int k a) (.int k b) K:=by
 refine⟨.int k (a%b),?_,h⟩;have e:a.tmod b=a%b:=Int.tmod_eq_emod_of_nonneg h0;show (if k=k/\b≠0 then some (Value.int k (a.tmod b)) else none)=_;rw[if_pos ⟨rfl,by omega⟩,e]
theorem Zde {k':IntKind}{n:Int}{K:Value->Prop}(h1:-9223372036854775808<=n) (h2:n<=9223372036854775807) (h:K (.int .i64 n)):Ci .i64 (.int k' n) K:=
 ⟨k',n,rfl,by rw[wrap64 h1 h2];exact h⟩
theorem Zh7 {k':IntKind}{n:Int}{K:Value->Prop}(h1:0<=n) (h2:n<=255) (h:K (.int .u8 n)):Ci .u8 (.int k' n) K:=
 ⟨k',n,rfl,by rw[show IntKind.u8.wrap n=n from by show n%256=n;omega];exact h⟩
theorem Zb4 {k':IntKind}{n:Int}{K:Value->Prop}(h1:0<=n) (h2:n<=4294967295) (h:K (.int .u32 n)):Ci .u32 (.int k' n) K:=
 ⟨k',n,rfl,by rw[show IntKind.u32.wrap n=n from by show n%4294967296=n;omega];exact h⟩
theorem r_sst {s:ByteArray}{lo hi:Option Value}{l h:Nat}{K:Value->Prop}(hl:bnd lo 0 l) (hh:bnd hi s.size h) (h1:l<=h) (h2:h<=s.size) (hk:K (.string (s.extract l h))):Sst (.string s) lo hi K:=
 ⟨s,l,h,rfl,hl,hh,h1,h2,hk⟩
theorem r_ldA (i:Nat) (H:Holds w L){n b o:Nat}{t:TypeId}{cs:List Value}{K:Value->Prop}(sub:List Value) (hi:L[i]?=some (blk b t cs)) (hs:(cs.drop o).take n=sub) (hn:sub.length=n)
  (h:K (.agg sub.toArray)):LdA n (.pointer (some ⟨b,o,none⟩)) w K:=by
 refine⟨_,sub.toArray,rfl,by simpa using hn,λj v hv=>?_,h⟩
 have e1:(⟨b,o,none⟩:Addr).add j=⟨b,o+j,none⟩:=by
  unfold Addr.add;split
  ·rename_i h;rw[h];rfl
  ·rfl
 rw[e1,H.cell i hi]
 have hv':sub[j]?=some v:=by simpa using hv
 have hj:j < n:=by rw[<-hn];exact (gH.1 hv').1
 rw[<-hv',<-hs,hI_ hj,hH_]
theorem Zkj {len:Nat}{sub:List Value}{k:IntKind}{n:Int}{K:Value->Prop}(v:Value) (h0:0<=n) (h1:n < (len:Int)) (hv:sub[n.toNat]?=some v) (h:K v):Ixa len 1 false (.agg sub.toArray) (.int k n) K:=
 ⟨_,k,n,rfl,rfl,h0,h1,v,by simpa using hv,h⟩
theorem Zcb {s:ByteArray}{k:IntKind}{m:Nat}{K:Value->Prop}(h1:m < s.size) (h:K (.int .u8 ((s.data.toList.getD m 0).toNat:Int))):Ixs (.string s) (.int k (m:Int)) K:=
 r_ixs (by omega) (by omega) (by rw[gC];exact h)
theorem Zak {len b o m:Nat}{k:IntKind}{K:Value->Prop}(h1:m < len) (h:K (.pointer (some ⟨b,o+m,none⟩))):Iaa len 1 (.pointer (some ⟨b,o,none⟩)) (.int k (m:Int)) K:=
 r_iaa (by omega) (by omega) (by rw[gC,Nat.mul_one];exact h)
theorem Za0 {a:Nat}{K:Value->Prop}(h2:a < 9223372036854775807) (h:K (.int .i64 ((a+1:Nat):Int))):Bp .add (.int .i64 (a:Int)) (.int .i64 1) K:=r_add (by omega) (by omega) h
theorem Zab {a:Nat}{K:Value->Prop}(h2:1<=a) (h3:a < 9223372036854775807) (h:K (.int .i64 ((a - 1:Nat):Int))):Bp .sub (.int .i64 (a:Int)) (.int .i64 1) K:=
 r_sub (by omega) (by omega) (by rw[show (a:Int) - 1=((a - 1:Nat):Int) by omega];exact h)
theorem Za9 {a b:Nat}{K:Value->Prop}(h2:a+b < 9223372036854775807) (h:K (.int .i64 ((a+b:Nat):Int))):Bp .add (.int .i64 (a:Int)) (.int .i64 (b:Int)) K:=r_add (by omega) (by omega) h
theorem r_bd {t:TypeId}{ps:Array (Nat × Value)}{v:Value}{K:Value->Prop}(h:(Instr.build t ps).run P w=.ok v w) (k:K v):Bd P t ps w K:=⟨v,h,k⟩
theorem r_be {op:BinOp}{t:TypeId}{X Y:Operand}{x y v:Value}{K:Value->Prop}(h:(do eqGuard op t X Y x y;binOp op t x y).run P w=.ok v w) (k:K v):Be P op t X Y x y w K:=⟨v,h,k⟩
theorem r_min {ats:Array TypeId}{t:TypeId}{k:IntKind}{a b:Int}{K:Value->Prop}(h:K (.int k (min a b))):Bmin P ats t #[.int k a,.int k b] w K:=by
 refine⟨.int k (if b < a then b else a),by simp[Builtin.min_,Builtin.min2,Sem.run_pure,List.foldlM],?_⟩
 have:(if b < a then b else a)=min a b:=by split <;> omega
 rw[this];exact h
theorem r_max {ats:Array TypeId}{t:TypeId}{k:IntKind}{a b:Int}{K:Value->Prop}(h:K (.int k (max a b))):Bmax P ats t #[.int k a,.int k b] w K:=by
 refine⟨.int k (if b > a then b else a),by simp[Builtin.max_,Builtin.max2,Sem.run_pure,List.foldlM],?_⟩
 have:(if b > a then b else a)=max a b:=by split <;> omega
 rw[this];exact h
theorem r_rk {N:Node}{v:Value}{A:Prop}(h:N w λu=>u=v) (hA:A):Rk N v w A:=⟨h,hA⟩
theorem r_cl {f:FuncId}{args:Array Value}{K K':KT}(h:Cl P f args w K) (hk:∀ v w',K v w'->K' v w'):Cl P f args w K':=
 ⟨h.1,h.2.mono λe w' ⟨v,he,hv⟩=>⟨v,he,hk v w' hv⟩⟩
end
end Go.Vc
namespace Go.Vc
abbrev iv (n:Int):Value:=.int .i64 n
abbrev nv (n:Nat):Value:=.int .i64 (n:Int)
abbrev bv (c:UInt8):Value:=.int .u8 (c.toNat:Int)
abbrev uv (n:Nat):Value:=.int .u32 (n:Int)
theorem Sat.at:∀ {L:List HProp}{h:Hp}(i:Nat){P Q:HProp},Sat L h->L[i]?=some P->(∀ g,P g->Q g)->Sat (L.set i Q) h:=by
 intro L h i P Q H hi hpq;exact Sat.push i hi ((H.pull i hi).imp hpq)
theorem Holds.at {w:World}{L:List HProp}(H:Holds w L) (i:Nat){P Q:HProp}(hi:L[i]?=some P) (hpq:∀ g,P g->Q g):Holds w (L.set i Q):=Sat.at i H hi hpq
theorem Holds.atEx {α:Type}{w:World}{L:List HProp}(H:Holds w L) (i:Nat){P:HProp}{Q:α->HProp}(hi:L[i]?=some P) (hpq:∀ g,P g->∃ x,Q x g):∃ x,Holds w (L.set i (Q x)):=by
 obtain⟨g,hg,hs,hL⟩:=H.front i hi;obtain⟨x,hx⟩:=hpq g hg;exact⟨x,Sat.push i hi ⟨g,hx,hs,hL⟩⟩
theorem Holds.atPure {p:Prop}{w:World}{L:List HProp}(H:Holds w L) (i:Nat){P Q:HProp}(hi:L[i]?=some P) (hpq:∀ g,P g->p/\Q g):p/\Holds w (L.set i Q):=by
 obtain⟨g,hg,hs,hL⟩:=H.front i hi;exact⟨(hpq g hg).1,Sat.push i hi ⟨g,(hpq g hg).2,hs,hL⟩⟩
section
variable {α:Type}
def slb (f:α->Value) (e:TypeId) (oa:Option Addr) (xs:List α) (sp:List Value):HProp:=
 match oa with
 |none=>pur (xs=[]/\sp=[])
 |some a=>λh=>a.off=0/\a.spot=none/\blk a.block e (xs.map f++sp) h
def SL (f:α->Value) (e:TypeId) (v:Value) (xs:List α):HProp:=λh=>∃ oa sp,v=.slice oa xs.length (xs.length+sp.length)/\slb f e oa xs sp h
theorem Holds.open {w:World}{L:List HProp}(H:Holds w L) (i:Nat){f:α->Value}{e:TypeId}{v:Value}{xs:List α}(hi:L[i]?=some (SL f e v xs)) :
  ∃ oa sp,v=.slice oa xs.length (xs.length+sp.length)/\Holds w (L.set i (slb f e oa xs sp)):=by
 obtain⟨g,⟨oa,sp,hv,hg⟩,hs,hL⟩:=H.front i hi;exact⟨oa,sp,hv,Sat.push i hi ⟨g,hg,hs,hL⟩⟩
theorem Holds.close {w:World}{L:List HProp}(H:Holds w L) (i:Nat){f:α->Value}{e:TypeId}{oa:Option Addr}{xs:List α}{sp:List Value}(hi:L[i]?=some (slb f e oa xs sp)) :
  Holds w (L.set i (SL f e (.slice oa xs.length (xs.length+sp.length)) xs)):=H.at i hi λg hg=>⟨oa,sp,rfl,hg⟩
theorem Zxa (f:α->Value) (e:TypeId) (h:Hp):SL f e (.slice none 0 0) [] h:=⟨none,[],rfl,rfl,rfl⟩
theorem Holds.nilSL {w:World}{L:List HProp}(H:Holds w L) (f:α->Value) (e:TypeId):Holds w (SL f e (.slice none 0 0) []::L):=
 ⟨λ_=>none,Zxa f e _,(λb o h=>by cases h),by
  have h0:(hp w).minus (λ_=>none)=hp w:=by funext b;simp[Hp.minus]
  rw[h0];exact H⟩
theorem Holds.slb {w:World}{L:List HProp}(H:Holds w L) (i:Nat){f:α->Value}{e:TypeId}{b:Nat}{xs:List α}{sp:List Value}(hi:L[i]?=some (slb f e (some ⟨b,0,none⟩) xs sp)) :
  Holds w (L.set i (blk b e (xs.map f++sp))):=H.at i hi λg hg=>hg.2.2
theorem Holds.slb' {w:World}{L:List HProp}(H:Holds w L) (i:Nat){f:α->Value}{e:TypeId}{b:Nat}{xs:List α}{sp:List Value}(hi:L[i]?=some (blk b e (xs.map f++sp))) :
  Holds w (L.set i (Vc.slb f e (some ⟨b,0,none⟩) xs sp)):=H.at i hi λg hg=>⟨rfl,rfl,hg⟩
theorem Za2 {L:List HProp}{i:Nat}{P Q:HProp}(hi:L[i]?=some P):(L.set i Q)[i]?=some Q:=by
 have:i < L.length:=(gH.1 hi).1;simp[this]
theorem Ya1 (i:Nat){w:World}{L:List HProp}(H:Holds w L){f:α->Value}{e:TypeId}{oa:Option Addr}{xs:List α}{sp:List Value}{l c:Nat}{k:IntKind}{n:Int}{K:Value->Prop}
  (hi:L[i]?=some (Vc.slb f e oa xs sp)) (h0:0<=n) (h1:n < (l:Int)) (hl:l<=xs.length) (h:∀ b,oa=some ⟨b,0,none⟩->K (.pointer (some ⟨b,n.toNat,none⟩))):Ias 1 (.slice oa l c) (.int k n) K:=by
 cases oa with
 |none=>
  obtain⟨g,⟨h2,_⟩,_⟩:=H.front i hi;subst h2;simp at hl;omega
 |some a=>
  obtain⟨g,⟨h2,h3,_⟩,_⟩:=H.front i hi;obtain⟨b,o,s⟩:=a;simp only at h2 h3;subst h2;subst h3;refine r_ias h0 h1 ?_;simpa using h b rfl
theorem Zhi (i:Nat){w:World}{L:List HProp}(H:Holds w L){f:α->Value}{e:TypeId}{oa:Option Addr}{xs:List α}{sp:List Value}{l c:Nat}{k:IntKind}{m:Nat}{K:Value->Prop}
  (hi:L[i]?=some (Vc.slb f e oa xs sp)) (h1:m < l) (hl:l<=xs.length) (h:∀ b,oa=some ⟨b,0,none⟩->K (.pointer (some ⟨b,m,none⟩))):Ias 1 (.slice oa l c) (.int k (m:Int)) K:=
 Ya1 i H hi (by omega) (by omega) hl (by rw[gC];exact h)
theorem Zl8 (i:Nat){w:World}{L:List HProp}(H:Holds w L){f:α->Value}{e:TypeId}{b o:Nat}{xs:List α}{sp:List Value}{x:α}{K:Value->Prop}
  (hi:L[i]?=some (Vc.slb f e (some ⟨b,0,none⟩) xs sp)) (hx:xs[o]?=some x) (h:K (f x)):Ld (.pointer (some ⟨b,o,none⟩)) w K:=by
 have hlt:o < xs.length:=(gH.1 hx).1;refine r_ld i (H.slb i hi) (Za2 hi) (v:=f x) ?_ h;rw[gM (by simpa using hlt),hV_,hx];rfl
theorem Zxz (i:Nat){w:World}{L:List HProp}(H:Holds w L){f:α->Value}{e:TypeId}{b o:Nat}{xs:List α}{sp:List Value}{v:Value}{K:World->Prop}(x:α)
  (hi:L[i]?=some (Vc.slb f e (some ⟨b,0,none⟩) xs sp)) (ho:o < xs.length) (hv:v=f x) (hs:sg v=true) (h:∀ w',Same w w'->Holds w' (L.set i (Vc.slb f e (some ⟨b,0,none⟩) (xs.set o x) sp))->K w') :
  St (.pointer (some ⟨b,o,none⟩)) v w K:=by
 subst hv;refine r_st i (H.slb i hi) (Za2 hi) (by simp;omega) hs λw' S H'=>h w' S ?_
 have h1:=H'.slb' (f:=f) (xs:=xs.set o x) (sp:=sp) i (b:=b) (e:=e) (by
  rw[set_set,List.set_append_left _ _ (by simpa using ho)]
  rw[Za2 hi,<-List.map_set])
 simpa [set_set] using h1
end
theorem Zfq {size:Nat}{a:Option Addr}{n c i:Nat}{k:IntKind}{K:Value->Prop}(h1:i<=c) (h:K (.slice a i c)):Ssl size (.slice a n c) none (some (.int k (i:Int))) K:=by
 refine⟨a,n,c,0,i,rfl,rfl,⟨k,rfl⟩,hE _,h1,?_⟩
 have e:(if c=0 then a else a.map (·.add (0*size)))=a:=by
  split
  ·rfl
  ·cases a with
   |none=>rfl
   |some x=>simp[Addr.add]
 rw[e,Nat.sub_zero,Nat.sub_zero];exact h
theorem Zeg {xs ys:List UInt8}{K:Value->Prop}(hs:xs.length+ys.length<=9223372036854775807) (h:K (.string ⟨(xs++ys).toArray⟩)):Bp .add (.string ⟨xs.toArray⟩) (.string ⟨ys.toArray⟩) K:=
 r_cat (by simpa [ByteArray.size] using by omega) (by
  have e:(⟨xs.toArray⟩:ByteArray)++⟨ys.toArray⟩=⟨(xs++ys).toArray⟩:=by
   apply ByteArray.ext;rw[ByteArray.data_append];simp
  rw[e];exact h)
theorem Zyg (s:ByteArray):s=⟨s.data.toList.toArray⟩:=by cases s;rfl
def setL (cs:List Value) (o:Nat):List Value->List Value
 |[]=>cs
 |v::r=>setL (cs.set o v) (o+1) r
theorem Same.setCells:∀ (vs:List Value) (w:World) (a:Addr) (i:Nat),Same w (setCells w a vs i)
 |[],w,_,_=>.refl w
 |v::r,w,a,i=>(Same.setCell w _ v).trans (Same.setCells r _ a (i+1))
theorem Holds.setCells (i:Nat){b o:Nat}{t:TypeId}:∀ (vs:List Value){w:World}{L:List HProp}{cs:List Value}(k:Nat) (_:Holds w L) (_:L[i]?=some (blk b t cs)),
  Holds (Vc.setCells w ⟨b,o,none⟩ vs k) (L.set i (blk b t (setL cs (o+k) vs)))
 |[],w,L,cs,k,H,hi=>by
  rw[setL]
  have:L.set i (blk b t cs)=L:=by
   apply ext_getElem?;intro j;rw[getElem?_set];split
   ·rename_i e;subst e;rw[hi];split
    ·rfl
    ·rename_i h;rw[getElem?_eq_none (by omega)] at hi;cases hi
   ·rfl
  rw[this];exact H
 |v::r,w,L,cs,k,H,hi=>by
  rw[Vc.setCells,setL]
  have e1:(⟨b,o,none⟩:Addr).add k=⟨b,o+k,none⟩:=by
   unfold Addr.add;split
   ·rename_i h;rw[h];rfl
   ·rfl
  rw[e1];have H2:=H.set i hi (o+k) v;have:=Holds.setCells (o:=o) i r (k+1) H2 (Za2 hi);rw[set_set] at this;exact this
theorem r_stA (i:Nat){w:World}{L:List HProp}(H:Holds w L){n b o:Nat}{t:TypeId}{cs vs:List Value}{K:World->Prop}(hi:L[i]?=some (blk b t cs)) (ho:o+n<=cs.length) (hn:vs.length=n) (hs:vs.all sg=true)
  (h:∀ w',Same w w'->Holds w' (L.set i (blk b t (setL cs o vs)))->K w'):StA n (.pointer (some ⟨b,o,none⟩)) (.agg vs.toArray) w K:=by
 refine⟨_,vs.toArray,rfl,rfl,by simpa using hn,λj hj=>?_,by simpa using hs,?_⟩
 ·have e1:(⟨b,o,none⟩:Addr).add j=⟨b,o+j,none⟩:=by
   unfold Addr.add;split
   ·rename_i h;rw[h];rfl
   ·rfl
  rw[e1];refine⟨?_,H.frozen i hi (o+j)⟩;rw[H.cell i hi (o+j),gA (by omega)];rfl
 ·exact h _ (.setCells _ _ _ _) (Holds.setCells i vs 0 H hi)
theorem Zvu {s:ByteArray}{m:Nat}:s.extract m s.size=⟨(s.data.toList.drop m).toArray⟩:=by
 apply ByteArray.ext;apply Array.ext';rw[ByteArray.data_extract,Array.toList_extract,List.extract_eq_take_drop];rw[gK (by simp)]
theorem Zww {s:ByteArray}{m:Nat}:s.extract 0 m=⟨(s.data.toList.take m).toArray⟩:=by
 apply ByteArray.ext;apply Array.ext';rw[ByteArray.data_extract,Array.toList_extract,List.extract_eq_take_drop,Nat.sub_zero,drop_zero]
theorem Zxm {s:ByteArray}{k:IntKind}{m:Nat}{K:Value->Prop}(h1:m<=s.size) (h:K (.string ⟨(s.data.toList.drop m).toArray⟩)):Sst (.string s) (some (.int k (m:Int))) none K:=
 r_sst ⟨k,rfl⟩ rfl h1 (Nat.le_refl _) (by rw[Zvu];exact h)
theorem Zzy {s:ByteArray}{k:IntKind}{m:Nat}{K:Value->Prop}(h1:m<=s.size) (h:K (.string ⟨(s.data.toList.take m).toArray⟩)):Sst (.string s) none (some (.int k (m:Int))) K:=
 r_sst rfl ⟨k,rfl⟩ (hE _) h1 (by rw[Zww];exact h)
theorem Zy4 {xs ys:List UInt8}:(⟨xs.toArray⟩:ByteArray)=⟨ys.toArray⟩↔xs=ys:=by
 constructor
 ·intro h;have:=congrArg (λb:ByteArray=>b.data.toList) h;simpa using this
 ·rintro rfl;rfl
theorem Zxi {xs ys:List UInt8}{K:Value->Prop}(h:K (.bool (decide (xs=ys)))):Bp .eql (.string ⟨xs.toArray⟩) (.string ⟨ys.toArray⟩) K:=
 r_seq (by rw[show decide ((⟨xs.toArray⟩:ByteArray)=⟨ys.toArray⟩)=decide (xs=ys) from by rw[Bool.eq_iff_iff,decide_eq_true_iff,decide_eq_true_iff,Zy4]];exact h)
theorem Zxo {size:Nat}{p:Addr}{l c:Nat}{k:IntKind}{n:Nat}{K:Value->Prop}(h:n < l) (hk:K (.pointer (some (p.add (n*size))))):Ias size (.slice (some p) l c) (.int k (n:Int)) K:=
 ⟨p,l,c,k,n,rfl,rfl,by omega,by omega,by rw[gC];exact hk⟩
theorem Ya0 {n:Nat}{p:Addr}{w:World}{cs:Array Value}{K:Value->Prop}(hn:cs.size=n) (hc:∀ (j:Nat) v,cs[j]?=some v->w.cell? (p.add j)=some v) (hk:K (.agg cs)):LdA n (.pointer (some p)) w K:=
 ⟨p,cs,rfl,hn,hc,hk⟩
theorem r_ldP {p:Addr}{w:World}{v:Value}{K:Value->Prop}(hc:w.cell? p=some v) (hk:K v):Ld (.pointer (some p)) w K:=⟨p,v,rfl,hc,hk⟩
class Row (P:Program) (t:TypeId) (e:outParam TypeId) (z:outParam Value):Prop where
 und:P.underlying t=some (.slice e)
 inf:∃ i,P.info? e=some i/\i.size=1/\i.bytes<=32/\i.zero=some z
 one:z.cells=#[z]
section
variable {α:Type}{P:Program}{w:World}{L:List HProp}
theorem r_ms {t e:TypeId}{z:Value} [hr:Row P t e z] (H:Holds w L){f:α->Value}{x:α}(hz:z=f x){k k':IntKind}{n:Int}{K:KT}(h0:0<=n) (h1:n<=1099511627776)
  (h:∀ b w',Same w w'->Holds w' (slb f e (some ⟨b,0,none⟩) (List.replicate n.toNat x) []::L)->K (.slice (some ⟨b,0,none⟩) n.toNat n.toNat) w'):Ms P t (.int k n) (.int k' n) w K:=by
 obtain⟨i,hi,hsz,hby,hzz⟩:=hr.inf
 have hrun:=run_make (P:=P) w t e i z hr.und hi hzz k k' n n h0 (Int.le_refl _) (by
  have:(i.bytes:Int)*n<=32*n:=Int.mul_le_mul_of_nonneg_right (by omega) h0
  omega) (by omega)
 refine⟨_,_,hrun,h _ _ (.alloc _ _) ?_⟩
 have hc:madeCells z.cells (n.toNat*i.size)=((List.replicate n.toNat x).map f).toArray:=by
  rw[hsz,Nat.mul_one,hr.one];apply Array.ext
  ·simp[madeCells]
  ·intro j h1 h2;simp[madeCells,hz,Nat.mod_one]
 have:=H.alloc (.cells (madeCells z.cells (n.toNat*i.size)) e);rw[hc] at this ⊢;refine Holds.imp this λg hg=>⟨rfl,rfl,?_⟩;rw[gU];exact hg
theorem r_bs1 {t e:TypeId}{z:Value} [hr:Row P t e z] (H:Holds w L){v:Value}{K:KT}(hs:sg v=true)
  (h:∀ b w',Same w w'->Holds w' (blk b e [v]::L)->K (.slice (some ⟨b,0,none⟩) 1 1) w'):Bs P t 1 #[(0,v)] w K:=by
 obtain⟨i,hi,hsz,hby,hzz⟩:=hr.inf
 have hcells:v.cells=#[v]:=by cases v <;> first|rfl|simp[sg] at hs
 refine⟨.slice (some ⟨w.heap.size,0,none⟩) 1 1,w.alloc (.cells #[v] e),?_,h _ _ (.alloc _ _) (H.alloc _)⟩
 have hc:(Array.map (λx=>[z][x%1]?.getD default) (Array.range 1)).setIfInBounds 0 v=#[v]:=by
  apply Array.ext
  ·simp
  ·intro j h1 h2
   have:j=0:=by simpa using h2
   subst this;simp
 simp[Instr.buildSlice,run_underlying hr.und,sizeOf,typeInfo,hi,hsz,zeroValue,hzz,Instr.fill,hcells,newRow,newObj,hr.one];rw[hc];rfl
theorem Zot {v:Value}(h:sg v=true):v.oneCell'=true:=by
 cases v <;> first|rfl|simp[sg] at h
theorem r_ap {t e:TypeId}{z:Value} [hr:Row P t e z] (H:Holds w L) (i j:Nat){f:α->Value}{oa:Option Addr}{xs ys:List α}{sp:List Value}{l c m c' b2:Nat}{cs:List Value}{ty:TypeId}{K:KT}
  (hi:L[i]?=some (slb f e oa xs sp)) (hj:L[j]?=some (blk b2 e cs)) (hcs:cs.take m=ys.map f) (hm:m=ys.length) (hl:l=xs.length) (hc:c=xs.length+sp.length) (hs:∀ y,sg (f y)=true)
  (hn:xs.length+ys.length<=1099511627776) (hne:0 < ys.length)
  (h:∀ oa' sp' w',Same w w'->Holds w' (L.set i (slb f e oa' (xs++ys) sp'))->K (.slice oa' (xs.length+ys.length) (xs.length+ys.length+sp'.length)) w') :
  Ap P #[t,t] ty #[.slice oa l c,.slice (some ⟨b2,0,none⟩) m c'] w K:=by
 subst hl hc hm;obtain⟨inf,hinf,hsz,hby,hzz⟩:=hr.inf
 have hnews:∀ k u,(ys.map f)[k]?=some u->w.cell? ((⟨b2,0,none⟩:Addr).add k)=some u:=by
  intro k u hu
  have e1:(⟨b2,0,none⟩:Addr).add k=⟨b2,k,none⟩:=by
   unfold Addr.add;split
   ·rename_i h;rw[h]
   ·simp
  rw[e1,H.cell j hj k]
  have hk:k < ys.length:=by have:=(gH.1 hu).1;simpa using this
  rw[<-hu,<-hcs,hI_ hk]
 have hmul:(xs.length+ys.length)*inf.bytes<=140737488355328:=
  Nat.le_trans (Nat.mul_le_mul_left _ hby) (by omega)
 have grow:∀ (b:Addr) (olds:List Value),olds=xs.map f->(∀ k v,olds[k]?=some v->w.cell? (b.add k)=some v)->sp.length < ys.length->
   (∃ o,L[i]?=some o)->Ap P #[t,t] ty #[.slice (some b) xs.length (xs.length+sp.length),.slice (some ⟨b2,0,none⟩) ys.length c'] w K:=by
  intro b olds ho hold hg _;subst ho
  have hrun:=run_append_grow (P:=P) w t ty e inf z hr.und hinf hzz b xs.length (xs.length+sp.length) (xs.map f) (by simp[hsz]) hold
   ⟨b2,0,none⟩ ys.length c' (ys.map f) (by simp[hsz]) hnews (by omega) (by omega) (growslice_fits (by omega) hmul)
  refine⟨_,_,hrun,?_⟩;have hcap:=grownCap_ge w (xs.length+ys.length) (xs.length+sp.length) e;generalize grownCap w (xs.length+ys.length) (xs.length+sp.length) e=cap at hcap ⊢
  have hz2:Builtin.zeroCells z.cells (cap - (xs.length+ys.length))=(List.replicate (cap - (xs.length+ys.length)) z).toArray:=by
   rw[hr.one];apply Array.ext
   ·simp[Builtin.zeroCells]
   ·intro j h1 h2;simp[Builtin.zeroCells,Nat.mod_one]
  have hcells:((xs.map f).toArray++(ys.map f).toArray++Builtin.zeroCells z.cells (cap - (xs.length+ys.length)))=((xs++ys).map f++List.replicate (cap - (xs.length+ys.length)) z).toArray:=by
   rw[hz2];simp
  rw[hcells];have H1:Holds w.drew L:=H.same rfl;have H2:=H1.alloc (.cells ((xs++ys).map f++List.replicate (cap - (xs.length+ys.length)) z).toArray e)
  have H3:Holds (w.drew.alloc (.cells ((xs++ys).map f++List.replicate (cap - (xs.length+ys.length)) z).toArray e)) (L.set i (slb f e (some ⟨w.heap.size,0,none⟩) (xs++ys) (List.replicate (cap - (xs.length+ys.length)) z))):=by
   have H4:=(Holds.imp H2 (Q:=slb f e (some ⟨w.heap.size,0,none⟩) (xs++ys) (List.replicate (cap - (xs.length+ys.length)) z)) λg hg=>⟨rfl,rfl,hg⟩);have H5:=H4.dropAt (i+1);rw[List.eraseIdx_cons_succ] at H5;exact Sat.push i hi H5
  have:=h (some ⟨w.heap.size,0,none⟩) (List.replicate (cap - (xs.length+ys.length)) z) _ ((Same.drew w).trans (.alloc _ _)) H3
  have hc2:xs.length+ys.length+(List.replicate (cap - (xs.length+ys.length)) z).length=cap:=by simp;omega
  rw[hc2] at this;exact this
 cases oa with
 |none=>
  obtain⟨g,⟨h2,h3⟩,_⟩:=H.front i hi;subst h2;subst h3;simp only[length_nil,Nat.zero_add,hO_] at hn hmul h ⊢;have hrun:=run_append_nil (P:=P) w t ty e inf z hr.und hinf hzz ⟨b2,0,none⟩ ys.length c' (ys.map f) (by simp[hsz]) hnews (by omega) (by omega) (by omega);refine⟨_,_,hrun,?_⟩;have hcap:=grownCap_ge w ys.length 0 e;generalize grownCap w ys.length 0 e=cap at hcap ⊢
  have hz2:Builtin.zeroCells z.cells (cap - ys.length)=(List.replicate (cap - ys.length) z).toArray:=by
   rw[hr.one];apply Array.ext
   ·simp[Builtin.zeroCells]
   ·intro j h1 h2;simp[Builtin.zeroCells,Nat.mod_one]
  have hcells:((ys.map f).toArray++Builtin.zeroCells z.cells (cap - ys.length))=(ys.map f++List.replicate (cap - ys.length) z).toArray:=by
   rw[hz2];simp
  rw[hcells];have H2:=(H.same (w':=w.drew) rfl).alloc (.cells (ys.map f++List.replicate (cap - ys.length) z).toArray e);have H4:=(Holds.imp H2 (Q:=slb f e (some ⟨w.heap.size,0,none⟩) ys (List.replicate (cap - ys.length) z)) λg hg=>⟨rfl,rfl,hg⟩);have H5:=H4.dropAt (i+1);rw[List.eraseIdx_cons_succ] at H5;have:=h (some ⟨w.heap.size,0,none⟩) (List.replicate (cap - ys.length) z) _ ((Same.drew w).trans (.alloc _ _)) (Sat.push i hi H5)
  have hc2:ys.length+(List.replicate (cap - ys.length) z).length=cap:=by simp;omega
  rw[hc2] at this;exact this
 |some a=>
  obtain⟨g,⟨h2,h3,_⟩,_⟩:=H.front i hi;obtain⟨b,o,s⟩:=a;simp only at h2 h3;subst h2;subst h3;have Hb:=H.slb i hi;have hgi:(L.set i (blk b e (xs.map f++sp)))[i]?=some (blk b e (xs.map f++sp)):=Za2 hi
  have hold:∀ k v,(xs.map f)[k]?=some v->w.cell? ((⟨b,0,none⟩:Addr).add k)=some v:=by
   intro k v hv
   have e1:(⟨b,0,none⟩:Addr).add k=⟨b,k,none⟩:=by
    unfold Addr.add;split
    ·rename_i h;rw[h]
    ·simp
   rw[e1,Hb.cell i hgi k,gM (by simpa using (gH.1 hv).1)];exact hv
  rcases hU_ sp.length ys.length with hg|hg
  ·exact grow ⟨b,0,none⟩ _ rfl hold hg ⟨_,hi⟩
  ·have hobj:=Hb.obj i hgi
   have hrun:=run_append_room (P:=P) w t ty e inf hr.und hinf b xs.length (xs.length+sp.length) (xs.map f++sp).toArray hobj
    ⟨b2,0,none⟩ ys.length c' (ys.map f) (by simp[hsz]) hnews (by simpa using λy _=>Zot (hs y)) (by omega) (by simp[hsz];omega)
   refine⟨_,_,hrun,?_⟩
   have hcells:(((xs.map f++sp).toArray.toList.take (xs.length*inf.size)++ys.map f++(xs.map f++sp).toArray.toList.drop (xs.length*inf.size+(ys.map f).length)).toArray)=((xs++ys).map f++sp.drop ys.length).toArray:=by
    rw[hsz];simp[List.take_append,List.drop_append]
   rw[hcells]
   have H3:Holds (w.setRow b ((xs++ys).map f++sp.drop ys.length).toArray) (L.set i (slb f e (some ⟨b,0,none⟩) (xs++ys) (sp.drop ys.length))):=by
    have:=Hb.upd (w':=w.setRow b ((xs++ys).map f++sp.drop ys.length).toArray) i hgi (o':=.cells ((xs++ys).map f++sp.drop ys.length).toArray e) (setRow_heap w b _ _ e _ hobj) λc hc=>setRow_other w b c _ hc;have h4:=Holds.slb' (f:=f) (e:=e) (b:=b) (xs:=xs++ys) (sp:=sp.drop ys.length) this i (by rw[set_set];exact Za2 hi);simpa [set_set] using h4
   have hlen:xs.length+sp.length=xs.length+ys.length+(sp.drop ys.length).length:=by simp;omega
   rw[hlen];exact h _ _ _ ⟨rfl,rfl,rfl,by simp⟩ H3
theorem Zci {t e:TypeId}{z:Value} [hr:Row P t e z] (H:Holds w L) (i:Nat){f:α->Value}{v:Value}{xs:List α}{ty:TypeId}{K:KT}
  (hi:L[i]?=some (SL f e v xs)) (x:α) (hs:∀ y,sg (f y)=true) (hn:xs.length+1<=1099511627776)
  (h:∀ v' w',Same w w'->Holds w' (L.set i (SL f e v' (xs++[x])))->K v' w'):Bs P t 1 #[(0,f x)] w λy w2=>Ap P #[t,t] ty #[v,y] w2 K:=by
 obtain⟨oa,sp,rfl,H1⟩:=H.open i hi;refine r_bs1 H1 (hs x) λb3 w3 S3 H3=>?_;refine r_ap (f:=f) (ys:=[x]) H3 (i+1) 0 (xs:=xs) (sp:=sp) (by rw[gF];exact Za2 hi) rfl rfl rfl rfl rfl hs (by rw[gQ];omega) (by simp) λoa' sp' w4 S4 H4=>?_;rw[gW,set_set] at H4;have H5:=H4.drop.close i (Za2 hi);rw[set_set] at H5
 have e:xs.length+[x].length=(xs++[x]).length:=by simp
 rw[e];exact h _ _ (S3.trans S4) H5
theorem Zi4 (l:List UInt8):∀ (s:ByteArray),(l.map λc=>(c.toNat:Int)).foldl (λr n=>r.push (UInt8.ofNat n.toNat)) s=⟨(s.data.toList++l).toArray⟩:=by
 induction l with
 |nil=>intro s;simp
 |cons c l ih=>
  intro s;rw[hR_,List.foldl_cons,ih];simp[ByteArray.push]
class Bytes (P:Program) (t e d:TypeId):Prop where
 und:P.underlying t=some (.slice e)
 el:P.underlying e=some (.int .u8)
 str:P.underlying d=some .string
theorem r_cbs {t e d:TypeId} [hr:Bytes P t e d] (H:Holds w L) (i:Nat){oa:Option Addr}{xs:List UInt8}{sp:List Value}{l c:Nat}{K:KT}
  (hi:L[i]?=some (slb bv e oa xs sp)) (hl:l=xs.length) (h:K (.string ⟨xs.toArray⟩) w):Cw P t d (.slice oa l c) w K:=by
 subst hl
 cases oa with
 |none=>
  obtain⟨g,⟨h2,h3⟩,_⟩:=H.front i hi;subst h2;refine⟨.string ⟨[].toArray⟩,w,?_,h⟩;rw[run_convert_bytes_string (P:=P) w t d e none _ c hr.und hr.el hr.str];rfl
 |some a=>
  obtain⟨g,⟨h2,h3,_⟩,_⟩:=H.front i hi;obtain⟨b,o,s⟩:=a;simp only at h2 h3;subst h2;subst h3;have Hb:=H.slb i hi;refine⟨_,w,?_,h⟩;rw[run_convert_bytes_string (P:=P) w t d e _ _ c hr.und hr.el hr.str]
  have hload:(loadCells (⟨b,0,none⟩:Addr) xs.length).run P w=.ok ((xs.map λc=>(c.toNat:Int)).map (Value.int .u8)).toArray w:=by
   have hcells:((xs.map λc=>(c.toNat:Int)).map (Value.int .u8))=xs.map bv:=by rw[List.map_map];rfl
   rw[hcells]
   have:=Zbr (P:=P) (w:=w) (a:=⟨b,0,none⟩) (cs:=(xs.map bv).toArray) (λj v hv=>by
    have e1:(⟨b,0,none⟩:Addr).add j=⟨b,j,none⟩:=by
     unfold Addr.add;split
     ·rename_i h;rw[h]
     ·simp
    rw[e1,Hb.cell i (Za2 hi) j]
    have hv':(xs.map bv)[j]?=some v:=by simpa using hv
    rw[gM (gH.1 hv').1]
    exact hv')
   simpa using this
  rw[run_bytesToString (P:=P) w _ xs.length c _ hload,Zi4];simp
end
end Go.Vc
namespace Go.Vc
variable {P:Program}{w:World}{L:List HProp}
def itPos (w:World) (b:Nat):Nat:=match w.heap[b]? with
 |some (.stringIter _ p)=>p
 |_=>0
theorem Zok (H:Holds w L) (i:Nat){b p:Nat}{s:ByteArray}(hi:L[i]?=some (blkO b (.stringIter s p))):itPos w b=p:=by
 unfold itPos;rw[H.obj i hi]
theorem r_rg {t:TypeId}{s:ByteArray}{K:KT}(ht:P.underlying t=some .string) (H:Holds w L)
  (h:∀ b w',Same w w'->Holds w' (blkO b (.stringIter s 0)::L)->K (.pointer (some ⟨b,0,none⟩)) w'):Rg P t (.string s) w K:=
 ⟨_,_,run_range_string w t s ht,h _ _ (.alloc _ _) (H.alloc _)⟩
theorem r_nxT (H:Holds w L) (i:Nat){t:TypeId}{s:ByteArray}{b p:Nat}{K:KT}(hi:L[i]?=some (blkO b (.stringIter s p))) (hp:p < s.size)
  (h:∀ w',Same w w'->Holds w' (L.set i (blkO b (.stringIter s (p+(Utf8.decode s p).2))))->K (.tuple #[.bool true,.int .i64 p,.int .i32 (Utf8.decode s p).1]) w') :
  Nx P (.pointer (some ⟨b,0,none⟩)) true t w K:=by
 have ho:=H.obj i hi;refine⟨_,_,Lib.run_next_any_at w b s p t ho hp,h _ ⟨rfl,rfl,rfl,by simp[World.iterAt]⟩ (H.upd i hi ?_ ?_)⟩
 ·have:b < w.heap.size:=by
   rcases hU_ b w.heap.size with h1|h1
   ·exact h1
   ·rw[Array.getElem?_eq_none h1] at ho;cases ho
  simp[World.iterAt,Array.getElem?_setIfInBounds,this]
 ·intro c hc;simp only[World.iterAt,Array.getElem?_setIfInBounds];rw[if_neg (by omega)]
theorem r_nxE (H:Holds w L) (i:Nat){t:TypeId}{s:ByteArray}{b p:Nat}{K:KT}(hi:L[i]?=some (blkO b (.stringIter s p))) (hp:¬ p < s.size)
  (h:K (.tuple #[.bool false]) w):Nx P (.pointer (some ⟨b,0,none⟩)) true t w K:=
 ⟨_,_,Lib.run_next_end_at w b s p t (H.obj i hi) hp,h⟩
theorem Zx5 {a:Value}{K:Value->Prop}(h:K a):Ex (.tuple #[a]) 0 K:=r_ex rfl h
theorem r_bsK {t e:TypeId}{n:Nat}{ps:Array (Nat × Value)}{K:KT}(cells:List Value) (H:Holds w L)
  (h:(Instr.buildSlice t n ps).run P w=.ok (.slice (some ⟨w.heap.size,0,none⟩) n n) (w.alloc (.cells cells.toArray e)))
  (k:∀ b w',Same w w'->Holds w' (blk b e cells::L)->K (.slice (some ⟨b,0,none⟩) n n) w'):Bs P t n ps w K:=
 ⟨_,_,h,k _ _ (.alloc _ _) (H.alloc _)⟩
theorem Zeo (i:Nat){α:Type}{f:α->Value}{e:TypeId}{b:Nat}(xs:List α) (H:Holds w L) (hi:L[i]?=some (blk b e (xs.map f))):Holds w (L.set i (SL f e (.slice (some ⟨b,0,none⟩) xs.length xs.length) xs)):=
 H.at i hi λg hg=>⟨some ⟨b,0,none⟩,[],by simp,rfl,rfl,by simpa using hg⟩
theorem Zj0 {size b l c:Nat}{k:IntKind}{n:Nat}{K:Value->Prop}(h:n < l) (hk:K (.pointer (some ⟨b,n*size,none⟩))):Ias size (.slice (some ⟨b,0,none⟩) l c) (.int k (n:Int)) K:=by
 refine Zxo h ?_
 have e1:(⟨b,0,none⟩:Addr).add (n*size)=⟨b,n*size,none⟩:=by
  unfold Addr.add;split
  ·rename_i h;rw[h]
  ·simp
 rw[e1];exact hk
theorem r_inv {m:Sem Next}{f:FuncId}{args:Array Value}{K:KT}(h:m.run P w=.ok (.enter f args) w) (k:Cl P f args w K):Inv P m w K:=⟨f,args,h,k.2⟩
theorem r_ta {x:Value}{xt at_:TypeId}{ok:Bool}{K:Value->Prop}(v:Value) (h:(Instr.typeAssert x xt at_ ok).run P w=.ok v w) (k:K v):Ta P x xt at_ ok w K:=⟨v,h,k⟩
theorem Zxk {b:Nat}{k:IntKind}{K:Value->Prop}(hb:b<=62) (h:K (.int .i64 ((2^b:Nat):Int))):Bp .shl (.int .i64 1) (.int k (b:Int)) K:=by
 refine⟨.int .i64 ((2^b:Nat):Int),?_,h⟩;have h1:(2^b:Nat)<=2^62:=Nat.pow_le_pow_right (by omega) hb;have h2:IntKind.i64.bits=64:=rfl;simp only[bp];rw[if_neg (by omega),gC,h2,Nat.min_eq_left (by omega),Int.one_mul]
 congr 2
 have h3:((2:Int)^b)=((2^b:Nat):Int):=by simp
 rw[h3];clear h;generalize (2^b:Nat)=x at h1 ⊢;exact wrap64 (by omega) (by omega)
theorem Zkb {k':IntKind}{n:Int}{K:Value->Prop}(h1:0<=n) (h2:n < 18446744073709551616) (h:K (.int .u64 n)):Ci .u64 (.int k' n) K:=by
 have:Ci .u64 (.int k' n) K:=r_ci (by rw[show IntKind.u64.wrap n=n from by show n%18446744073709551616=n;omega];exact h);exact this
theorem wrapU32 {z:Int}(h1:0<=z) (h2:z < 4294967296):IntKind.u32.wrap z=z:=by show z%4294967296=z;omega
theorem wrapU8 {z:Int}(h1:0<=z) (h2:z < 256):IntKind.u8.wrap z=z:=by show z%256=z;omega
theorem Ze1 {s n:Nat}{k k':IntKind}{K:Value->Prop}(hn:n<=k.bits) (h:K (.int k ((s/2^n:Nat):Int))):Bp .shr (.int k (s:Int)) (.int k' (n:Int)) K:=by
 refine⟨_,?_,h⟩;simp only[bp]
 rw[if_neg (by omega),gC,Nat.min_eq_left hn,Int.fdiv_eq_ediv_of_nonneg _ (by
  have:(0:Int)<=((2^n:Nat):Int):=Int.natCast_nonneg _
  simpa using this)]
 simp
theorem Zcd {s n:Nat}{k':IntKind}{K:Value->Prop}(hn:n<=32) (h:K (.int .u32 ((s*2^n%4294967296:Nat):Int))):Bp .shl (.int .u32 (s:Int)) (.int k' (n:Int)) K:=by
 refine⟨_,?_,h⟩;have hb:IntKind.u32.bits=32:=rfl;simp only[bp];rw[if_neg (by omega),gC,hb,Nat.min_eq_left hn];show some (Value.int .u32 ((s:Int)*2^n%4294967296))=_;simp
theorem Zgc {s t:Nat}{K:Value->Prop}(hs:s < 4294967296) (ht:t < 4294967296) (h:K (.int .u32 ((s ^^^ t:Nat):Int))):Bp .xor (.int .u32 (s:Int)) (.int .u32 (t:Int)) K:=by
 refine⟨_,?_,h⟩;have hb:IntKind.u32.bits=32:=rfl;have hx:s ^^^ t < 2^32:=Nat.xor_lt_two_pow (by simpa using hs) (by simpa using ht);simp only[bp,if_true];rw[hb,BitVec.toNat_xor,BitVec.toNat_ofInt,BitVec.toNat_ofInt]
 have e1:((s:Int)%((2^32:Nat):Int)).toNat=s:=by omega
 have e2:((t:Int)%((2^32:Nat):Int)).toNat=t:=by omega
 rw[e1,e2,wrapU32 (by omega) (by omega)]
theorem Zwo {s t:Nat}{K:Value->Prop}(h1:s*t < 4294967296) (h:K (.int .u32 ((s*t:Nat):Int))):Bp .mul (.int .u32 (s:Int)) (.int .u32 (t:Int)) K:=by
 refine⟨_,?_,h⟩;simp only[bp,if_true];rw[<-Int.natCast_mul,wrapU32 (by omega) (by omega)]
def filled {α:Type}(xs:List α) (z:α) (n i:Nat):List α:=xs.take i++List.replicate (n - i) z
theorem Zb0 {α:Type}{xs:List α}{z:α}{n i:Nat}(hi:i<=n) (hn:xs.length=n):(filled xs z n i).length=n:=by simp[filled,hn];omega
theorem Ze6 {α:Type}(xs:List α) (z:α) (n:Nat):filled xs z n 0=List.replicate n z:=by simp[filled]
theorem Zct {α:Type}{xs:List α}{z:α}{n:Nat}(hn:xs.length=n):filled xs z n n=xs:=by simp[filled,<-hn]
theorem Zb2 {α:Type}{xs:List α}{z x:α}{n i:Nat}(hi:i < n) (hn:xs.length=n) (hx:xs[i]?=some x):(filled xs z n i).set i x=filled xs z n (i+1):=by
 unfold filled
 have hl:(xs.take i).length=i:=by simp;omega
 rw[set_append_right _ _ (by omega),hl,Nat.sub_self,gO,hx,show n - i=(n - (i+1))+1 by omega,List.replicate_succ,gJ,gI];rfl
theorem Zze {s t:Nat}{K:Value->Prop}(hs:s < 256) (ht:t < 256) (h:K (.int .u8 ((s ||| t:Nat):Int))):Bp .or (.int .u8 (s:Int)) (.int .u8 (t:Int)) K:=by
 refine⟨_,?_,h⟩;have hb:IntKind.u8.bits=8:=rfl;have hx:s ||| t < 2^8:=Nat.or_lt_two_pow (by simpa using hs) (by simpa using ht);simp only[bp,if_true];rw[hb,BitVec.toNat_or,BitVec.toNat_ofInt,BitVec.toNat_ofInt]
 have e1:((s:Int)%((2^8:Nat):Int)).toNat=s:=by omega
 have e2:((t:Int)%((2^8:Nat):Int)).toNat=t:=by omega
 rw[e1,e2,wrapU8 (by omega) (by omega)]
theorem Zk2 {s t:Nat}{K:Value->Prop}(hs:s < 4294967296) (ht:t < 4294967296) (h:K (.int .u32 ((s &&& t:Nat):Int))):Bp .and (.int .u32 (s:Int)) (.int .u32 (t:Int)) K:=by
 refine⟨_,?_,h⟩;have hb:IntKind.u32.bits=32:=rfl;have hx:s &&& t<=s:=Nat.and_le_left;simp only[bp,if_true];rw[hb,BitVec.toNat_and,BitVec.toNat_ofInt,BitVec.toNat_ofInt]
 have e1:((s:Int)%((2^32:Nat):Int)).toNat=s:=by omega
 have e2:((t:Int)%((2^32:Nat):Int)).toNat=t:=by omega
 rw[e1,e2,wrapU32 (by omega) (by omega)]
theorem Zym {s n:Nat}{k':IntKind}{K:Value->Prop}(hn:n<=8) (h:K (.int .u8 ((s*2^n%256:Nat):Int))):Bp .shl (.int .u8 (s:Int)) (.int k' (n:Int)) K:=by
 refine⟨_,?_,h⟩;have hb:IntKind.u8.bits=8:=rfl;simp only[bp];rw[if_neg (by omega),gC,hb,Nat.min_eq_left hn];show some (Value.int .u8 ((s:Int)*2^n%256))=_;simp
theorem Zb8 {a b:Int}(c:Int){K:Value->Prop}(hc:a*b=c) (h1:-9223372036854775808<=c) (h2:c<=9223372036854775807) (h:K (.int .i64 c)):Bp .mul (.int .i64 a) (.int .i64 b) K:=by
 subst hc;exact r_mul h1 h2 h
theorem Yad {a b:Int}(c:Int){K:Value->Prop}(hc:a+b=c) (h1:-9223372036854775808<=c) (h2:c<=9223372036854775807) (h:K (.int .i64 c)):Bp .add (.int .i64 a) (.int .i64 b) K:=by
 subst hc;exact r_add h1 h2 h
end Go.Vc
namespace Go.Vc
class RowN (P:Program) (t:TypeId) (e:outParam TypeId) (k:outParam Nat):Prop where
 und:P.underlying t=some (.slice e)
 inf:∃ i z,P.info? e=some i/\i.size=k/\i.bytes<=256/\i.zero=some z/\z.cells.size=k
variable {α:Type}{P:Program}{w:World}{L:List HProp}
def flatL (F:α->List Value):List α->List Value
 |[]=>[]
 |x::r=>F x++flatL F r
theorem Zcj (F:α->List Value) (a b:List α):flatL F (a++b)=flatL F a++flatL F b:=by
 induction a with
 |nil=>rfl
 |cons x r ih=>simp[flatL,ih]
theorem Zcm {F:α->List Value}{k:Nat}(hF:∀ x,(F x).length=k) (xs:List α):(flatL F xs).length=xs.length*k:=by
 induction xs with
 |nil=>simp[flatL]
 |cons x r ih=>simp[flatL,ih,hF,Nat.add_mul];omega
theorem Zdb {F:α->List Value}{k:Nat}(hF:∀ x,(F x).length=k):∀ (xs:List α) (i:Nat) (x:α),xs[i]?=some x->((flatL F xs).drop (i*k)).take k=F x
 |y::r,0,x,h=>by
  simp at h;subst h;have:=hF y;simp[flatL,List.take_append,this]
 |y::r,i+1,x,h=>by
  have h1:=Zdb hF r i x (by simpa using h);have:=hF y;rw[flatL,List.drop_append,this,drop_of_length_le (by rw[this,Nat.add_mul];omega),hO_,show (i+1)*k - k=i*k by rw[Nat.add_mul];omega];exact h1
def rwb (F:α->List Value) (k:Nat) (e:TypeId) (oa:Option Addr) (xs:List α) (m:Nat) (sp:List Value):HProp:=
 match oa with
 |none=>pur (xs=[]/\m=0)
 |some a=>λh=>a.off=0/\a.spot=none/\sp.length=m*k/\blk a.block e (flatL F xs++sp) h
def RW (F:α->List Value) (k:Nat) (e:TypeId) (v:Value) (xs:List α):HProp:=λh=>∃ oa m sp,v=.slice oa xs.length (xs.length+m)/\rwb F k e oa xs m sp h
theorem Holds.openRW (H:Holds w L) (i:Nat){F:α->List Value}{k:Nat}{e:TypeId}{v:Value}{xs:List α}(hi:L[i]?=some (RW F k e v xs)) :
  ∃ oa m sp,v=.slice oa xs.length (xs.length+m)/\Holds w (L.set i (rwb F k e oa xs m sp)):=by
 obtain⟨g,⟨oa,m,sp,hv,hg⟩,hs,hL⟩:=H.front i hi;exact⟨oa,m,sp,hv,Sat.push i hi ⟨g,hg,hs,hL⟩⟩
theorem Holds.nilRW (H:Holds w L) (F:α->List Value) (k:Nat) (e:TypeId):Holds w (RW F k e (.slice none 0 0) []::L):=
 ⟨λ_=>none,⟨none,0,[],rfl,rfl,rfl⟩,(λb o h=>by cases h),by
  have h0:(hp w).minus (λ_=>none)=hp w:=by funext b;simp[Hp.minus]
  rw[h0];exact H⟩
theorem Zt4 (i:Nat){F:α->List Value}{k:Nat}{e:TypeId}{b:Nat}(xs:List α) (H:Holds w L) (hi:L[i]?=some (blk b e (flatL F xs))):Holds w (L.set i (RW F k e (.slice (some ⟨b,0,none⟩) xs.length xs.length) xs)):=
 H.at i hi λg hg=>⟨some ⟨b,0,none⟩,0,[],by simp,rfl,rfl,by simp,by simpa using hg⟩
theorem Holds.rwb (H:Holds w L) (i:Nat){F:α->List Value}{k:Nat}{e:TypeId}{oa:Option Addr}{xs:List α}{m:Nat}{sp:List Value}(hi:L[i]?=some (rwb F k e oa xs m sp)) (hx:0 < xs.length\/0 < m) :
  ∃ b,oa=some ⟨b,0,none⟩/\sp.length=m*k/\Holds w (L.set i (blk b e (flatL F xs++sp))):=by
 cases oa with
 |none=>
  obtain⟨g,⟨h1,h2⟩,_⟩:=H.front i hi;subst h1;subst h2;simp at hx
 |some a=>
  obtain⟨g,⟨h1,h2,h3,h4⟩,hs,hL⟩:=H.front i hi;obtain⟨b,o,s⟩:=a;simp only at h1 h2;subst h1;subst h2;exact⟨b,rfl,h3,Sat.push i hi ⟨g,h4,hs,hL⟩⟩
theorem Zbu (z:Array Value) (n:Nat):(Builtin.zeroCells z n).toList.length=n*z.size:=by simp[Builtin.zeroCells]
theorem r_apN {t e:TypeId}{k:Nat} [hr:RowN P t e k] (H:Holds w L) (i j:Nat){F:α->List Value}{v:Value}{xs ys:List α}{m' c' b2:Nat}{cs:List Value}{ty:TypeId}{K:KT}
  (hi:L[i]?=some (RW F k e v xs)) (hj:L[j]?=some (blk b2 e cs)) (hij:j≠i) (hcs:cs.take (ys.length*k)=flatL F ys) (hm:m'=ys.length) (hF:∀ y,(F y).length=k) (hs:∀ y,∀ u∈F y,sg u=true)
  (hn:xs.length+ys.length<=68719476736) (hne:0 < ys.length) (hk:0 < k)
  (h:∀ v' w',Same w w'->Holds w' (L.set i (RW F k e v' (xs++ys)))->K v' w') :
  Ap P #[t,t] ty #[v,.slice (some ⟨b2,0,none⟩) m' c'] w K:=by
 obtain⟨oa,m,sp,rfl,H⟩:=H.openRW i hi;have hi1:(L.set i (Vc.rwb F k e oa xs m sp))[i]?=some (Vc.rwb F k e oa xs m sp):=Za2 hi
 have hj1:(L.set i (Vc.rwb F k e oa xs m sp))[j]?=some (blk b2 e cs):=by rw[hY_ (λe=>hij e.symm)];exact hj
 subst hm;obtain⟨inf,z,hinf,hsz,hby,hzz,hzk⟩:=hr.inf;have hlen:=Zcm (k:=k) hF
 have hsg:∀ u∈flatL F ys,u.oneCell'=true:=by
  intro u hu;clear hcs hne hn h
  induction ys with
  |nil=>simp[flatL] at hu
  |cons y r ih=>
   rw[flatL,hT_] at hu;rcases hu with hu|hu
   ·exact Zot (hs y u hu)
   ·exact ih hu
 have hnews:∀ q u,(flatL F ys)[q]?=some u->w.cell? ((⟨b2,0,none⟩:Addr).add q)=some u:=by
  intro q u hu
  have e1:(⟨b2,0,none⟩:Addr).add q=⟨b2,q,none⟩:=by
   unfold Addr.add;split
   ·rename_i h;rw[h]
   ·simp
  rw[e1,H.cell j hj1 q]
  have hq:q < ys.length*k:=by have:=(gH.1 hu).1;rw[hlen] at this;exact this
  rw[<-hu,<-hcs,hI_ hq]
 have hmul:(xs.length+ys.length)*inf.bytes<=140737488355328:=
  Nat.le_trans (Nat.mul_le_mul_left _ hby) (by omega)
 have fin:∀ (b' cap:Nat) (w':World) (sp':List Value) (L':List HProp),xs.length+ys.length<=cap->sp'.length=(cap - (xs.length+ys.length))*k->Same w w'->
   Holds w' (blk b' e (flatL F (xs++ys)++sp')::L.eraseIdx i)->K (.slice (some ⟨b',0,none⟩) (xs.length+ys.length) cap) w':=by
  intro b' cap w' sp' L' hc hsp S' H'
  have H4:=Holds.imp H' (Q:=RW F k e (.slice (some ⟨b',0,none⟩) (xs.length+ys.length) cap) (xs++ys)) λg hg=>⟨some ⟨b',0,none⟩,cap - (xs.length+ys.length),sp',by
   rw[gD];congr 1;omega,rfl,rfl,hsp,hg⟩
  exact h _ _ S' (Sat.push i hi H4)
 cases oa with
 |none=>
  obtain⟨g,⟨h2,h3⟩,_⟩:=H.front i hi1;subst h2;subst h3;simp only[length_nil,Nat.zero_add,hO_] at hn hmul fin ⊢;have hrun:=run_append_nil (P:=P) w t ty e inf z hr.und hinf hzz ⟨b2,0,none⟩ ys.length c' (flatL F ys) (by rw[hlen,hsz]) hnews (by omega) (by omega) (by omega);refine⟨_,_,hrun,?_⟩;have hcap:=grownCap_ge w ys.length 0 e;generalize grownCap w ys.length 0 e=cap at hcap ⊢;have H2:=(H.same (w':=w.drew) rfl).alloc (.cells ((flatL F ys).toArray++Builtin.zeroCells z.cells (cap - ys.length)) e);have H5:=H2.dropAt (i+1);rw[List.eraseIdx_cons_succ,List.eraseIdx_set_eq] at H5;refine fin _ cap _ (Builtin.zeroCells z.cells (cap - ys.length)).toList L (by omega) (by rw[Zbu,hzk]) ((Same.drew w).trans (.alloc _ _)) ?_
  have hc:((flatL F ys).toArray++Builtin.zeroCells z.cells (cap - ys.length))=(flatL F ys++(Builtin.zeroCells z.cells (cap - ys.length)).toList).toArray:=by simp
  rw[hc] at H5 ⊢;exact H5
 |some a=>
  have h4:=H.rwb i hi1;obtain⟨g,⟨h2,h3,hspl,_⟩,_⟩:=H.front i hi1;obtain⟨b,o,s⟩:=a;simp only at h2 h3;subst h2;subst h3
  have Hb:Holds w (L.set i (blk b e (flatL F xs++sp))):=by
   have:=H.at i hi1 (Q:=blk b e (flatL F xs++sp)) λg hg=>hg.2.2.2;rw[set_set] at this;exact this
  have hgi:(L.set i (blk b e (flatL F xs++sp)))[i]?=some (blk b e (flatL F xs++sp)):=Za2 hi
  have hold:∀ q u,(flatL F xs)[q]?=some u->w.cell? ((⟨b,0,none⟩:Addr).add q)=some u:=by
   intro q u hu
   have e1:(⟨b,0,none⟩:Addr).add q=⟨b,q,none⟩:=by
    unfold Addr.add;split
    ·rename_i h;rw[h]
    ·simp
   rw[e1,Hb.cell i hgi q,gM (gH.1 hu).1];exact hu
  rcases hU_ m ys.length with hg|hg
  ·have hrun:=run_append_grow (P:=P) w t ty e inf z hr.und hinf hzz ⟨b,0,none⟩ xs.length (xs.length+m) (flatL F xs) (by rw[hlen,hsz]) hold
    ⟨b2,0,none⟩ ys.length c' (flatL F ys) (by rw[hlen,hsz]) hnews (by omega) (by omega) (growslice_fits (by omega) hmul)
   refine⟨_,_,hrun,?_⟩;have hcap:=grownCap_ge w (xs.length+ys.length) (xs.length+m) e;generalize grownCap w (xs.length+ys.length) (xs.length+m) e=cap at hcap ⊢;have H2:=(Hb.same (w':=w.drew) rfl).alloc (.cells ((flatL F xs).toArray++(flatL F ys).toArray++Builtin.zeroCells z.cells (cap - (xs.length+ys.length))) e);have H5:=H2.dropAt (i+1);rw[List.eraseIdx_cons_succ,List.eraseIdx_set_eq] at H5;refine fin _ cap _ (Builtin.zeroCells z.cells (cap - (xs.length+ys.length))).toList L (by omega) (by rw[Zbu,hzk]) ((Same.drew w).trans (.alloc _ _)) ?_
   have hc:((flatL F xs).toArray++(flatL F ys).toArray++Builtin.zeroCells z.cells (cap - (xs.length+ys.length)))=(flatL F (xs++ys)++(Builtin.zeroCells z.cells (cap - (xs.length+ys.length))).toList).toArray:=by
    rw[Zcj];simp
   rw[hc] at H5 ⊢;exact H5
  ·have hobj:=Hb.obj i hgi;have hroom:(xs.length+ys.length)*k<=(xs.length+m)*k:=Nat.mul_le_mul_right _ (by omega)
   have hrun:=run_append_room (P:=P) w t ty e inf hr.und hinf b xs.length (xs.length+m) (flatL F xs++sp).toArray hobj
    ⟨b2,0,none⟩ ys.length c' (flatL F ys) (by rw[hlen,hsz]) hnews hsg (by omega) (by
     rw[hsz,List.size_toArray,gD,hspl];have e1:=hlen xs;have e2:=hlen ys;rw[Nat.add_mul,Nat.add_mul] at hroom
     omega)
   refine⟨_,_,hrun,?_⟩
   have hcells:(((flatL F xs++sp).toArray.toList.take (xs.length*inf.size)++flatL F ys++(flatL F xs++sp).toArray.toList.drop (xs.length*inf.size+(flatL F ys).length)).toArray)=(flatL F (xs++ys)++sp.drop (ys.length*k)).toArray:=by
    rw[hsz,Zcj];simp[List.take_append,List.drop_append,hlen]
   rw[hcells]
   have H3:Holds (w.setRow b (flatL F (xs++ys)++sp.drop (ys.length*k)).toArray) (L.set i (blk b e (flatL F (xs++ys)++sp.drop (ys.length*k)))):=by
    have:=Hb.upd (w':=w.setRow b (flatL F (xs++ys)++sp.drop (ys.length*k)).toArray) i hgi (o':=.cells (flatL F (xs++ys)++sp.drop (ys.length*k)).toArray e) (setRow_heap w b _ _ e _ hobj) λc hc=>setRow_other w b c _ hc;rw[set_set] at this;exact this
   have H6:=H3.front i (Za2 hi);rw[List.eraseIdx_set_eq] at H6;refine fin b (xs.length+m) _ (sp.drop (ys.length*k)) L (by omega) ?_ ⟨rfl,rfl,rfl,by simp⟩ H6;rw[gS,hspl,show xs.length+m - (xs.length+ys.length)=m - ys.length by omega,Nat.sub_mul]
theorem Zy2 {t e:TypeId}{k:Nat} [hr:RowN P t e k] (H:Holds w L) (i:Nat){F:α->List Value}{v:Value}{xs:List α}{ps:Array (Nat × Value)}{ty:TypeId}{K:KT}(x:α)
  (hi:L[i]?=some (RW F k e v xs)) (hb:(Instr.buildSlice t 1 ps).run P w=.ok (.slice (some ⟨w.heap.size,0,none⟩) 1 1) (w.alloc (.cells (F x).toArray e)))
  (hF:∀ y,(F y).length=k) (hs:∀ y,∀ u∈F y,sg u=true)
  (hn:xs.length+1<=68719476736) (hk:0 < k)
  (h:∀ v' w',Same w w'->Holds w' (L.set i (RW F k e v' (xs++[x])))->K v' w'):Bs P t 1 ps w λy w2=>Ap P #[t,t] ty #[v,y] w2 K:=by
 refine r_bsK (F x) H hb λb3 w3 S3 H3=>?_;refine r_apN (F:=F) (ys:=[x]) H3 (i+1) 0 (by rw[gF];exact hi) rfl (by omega) (by simp[flatL,gK,hF]) rfl hF hs (by simpa using hn) (by simp) hk λv' w4 S4 H4=>?_;rw[gW] at H4;exact h _ _ (S3.trans S4) H4.drop
theorem r_ldN (i:Nat) (H:Holds w L){F:α->List Value}{k:Nat}{e:TypeId}{oa:Option Addr}{xs:List α}{m:Nat}{sp:List Value}{l c q:Nat}{kk:IntKind}{x:α}{K:Value->Prop}
  (hi:L[i]?=some (rwb F k e oa xs m sp)) (hx:xs[q]?=some x) (hF:∀ y,(F y).length=k) (hl:q < l) (h:K (.agg (F x).toArray)) :
  Ias k (.slice oa l c) (.int kk (q:Int)) λy=>LdA k y w K:=by
 have hlt:q < xs.length:=(gH.1 hx).1;obtain⟨b,rfl,hsp,Hb⟩:=H.rwb i hi (.inl (by omega));refine Zj0 hl ?_;refine r_ldA i Hb (F x) (Za2 hi) ?_ (hF x) h;have h1:=Zdb hF xs q x hx
 have hq:q*k+k<=xs.length*k:=by
  have:(q+1)*k<=xs.length*k:=Nat.mul_le_mul_right _ (by omega);rw[Nat.add_mul,Nat.one_mul] at this;exact this
 have hlen:=Zcm (k:=k) hF xs;rw[drop_append_of_le_length (by omega),List.take_append_of_le_length (by rw[gS];omega)];exact h1
theorem r_bpK {op:BinOp}{x y:Value}{K:Value->Prop}(v:Value) (h:bp op x y=some v) (k:K v):Bp op x y K:=⟨v,h,k⟩
theorem Zix {l:List String}(h:l≠[]):∃ m,Instr.least l=some m:=by
 cases l with
 |nil=>exact absurd rfl h
 |cons s r=>exact⟨_,rfl⟩
theorem Zl3 {want:Array (String × TypeId)}{got:Array Method}(h:(want.toList.filter λx=>!got.any λm=>m.name==x.1&&m.sig==x.2)≠[]):∃ m,Instr.missingMethod want got=some m:=by
 have h2:((want.toList.filter λx=>!got.any λm=>m.name==x.1&&m.sig==x.2).map (·.1))≠[]:=by simpa using h
 unfold Instr.missingMethod;simp only;generalize ((want.toList.filter λx=>!got.any λm=>m.name==x.1&&m.sig==x.2).map (·.1))=l at *;rw[List.partition_eq_filter_filter];simp only
 by_cases h3:l.filter (λa=>decide (¬ (a.contains (Char.ofNat 46))=true))=[]
 ·have h5:l.filter (λa=>a.contains (Char.ofNat 46))≠[]:=by
   intro h4;apply h2;refine List.eq_nil_iff_forall_not_mem.2 λx hx=>?_
   by_cases hc:(x.contains (Char.ofNat 46))=true
   ·have:x∈l.filter (λa=>a.contains (Char.ofNat 46)):=mem_filter.2 ⟨hx,hc⟩;rw[h4] at this;cases this
   ·have:x∈l.filter (λa=>decide (¬ (a.contains (Char.ofNat 46))=true)):=mem_filter.2 ⟨hx,by simpa using hc⟩;rw[h3] at this;cases this
  obtain ⟨m, hm⟩ := Zix (l := (l.filter (fun a => a.contains (Char.ofNat 46))).map fun id => (id.splitOn ".").getLastD id) (by simpa using h5)
  cases hx:Instr.least (l.filter (not ∘ λa=>a.contains (Char.ofNat 46))) with
  |some y=>exact⟨y,by simp⟩
  |none=>exact⟨m,by simpa using hm⟩
 ·have h6:l.filter (not ∘ λa=>a.contains (Char.ofNat 46))≠[]:=by
   intro h4;apply h3;rw[<-h4]
   congr 1
   funext a
   simp
  obtain⟨m,hm⟩:=Zix h6;exact⟨m,by rw[hm];rfl⟩
theorem Ya5 {P:Program}{t at_ xt:TypeId}{v z:Value}{want:Array (String × TypeId)}{i:TypeInfo}{K:Value->Prop}(hu:P.underlying at_=some (.interface want)) (hi:P.info? t=some i)
  (hm:(want.toList.filter λx=>!i.methods.any λm=>m.name==x.1&&m.sig==x.2)≠[]) (hz:∀ w,(zeroValue at_).run P w=.ok z w) (k:K (.tuple #[z,.bool false])):Ta P (.iface t v) xt at_ true w K:=by
 obtain⟨m,hm⟩:=Zl3 hm;refine⟨_,?_,k⟩;simp[Instr.typeAssert,run_underlying hu,typeInfo,hi,hm,hz]
end Go.Vc
namespace Go.Vc
variable {P:Program}{w:World}{L:List HProp}
theorem Zo1 {s t:Nat}{K:Value->Prop}(hs:s < 4294967296) (ht:t < 4294967296) (h:K (.int .u32 ((s ||| t:Nat):Int))):Bp .or (.int .u32 (s:Int)) (.int .u32 (t:Int)) K:=by
 refine⟨_,?_,h⟩;have hb:IntKind.u32.bits=32:=rfl;have hx:s ||| t < 2^32:=Nat.or_lt_two_pow (by simpa using hs) (by simpa using ht);simp only[bp,if_true];rw[hb,BitVec.toNat_or,BitVec.toNat_ofInt,BitVec.toNat_ofInt]
 have e1:((s:Int)%((2^32:Nat):Int)).toNat=s:=by omega
 have e2:((t:Int)%((2^32:Nat):Int)).toNat=t:=by omega
 rw[e1,e2,wrapU32 (by omega) (by omega)]
theorem Zyj {s t:Nat}{K:Value->Prop}(hs:s < 256) (ht:t < 256) (h:K (.int .u8 ((s &&& t:Nat):Int))):Bp .and (.int .u8 (s:Int)) (.int .u8 (t:Int)) K:=by
 refine⟨_,?_,h⟩;have hb:IntKind.u8.bits=8:=rfl;have hx:s &&& t<=s:=Nat.and_le_left;simp only[bp,if_true];rw[hb,BitVec.toNat_and,BitVec.toNat_ofInt,BitVec.toNat_ofInt]
 have e1:((s:Int)%((2^8:Nat):Int)).toNat=s:=by omega
 have e2:((t:Int)%((2^8:Nat):Int)).toNat=t:=by omega
 rw[e1,e2,wrapU8 (by omega) (by omega)]
theorem Zow {s t:Nat}{K:Value->Prop}(h0:t<=s) (h1:s < 4294967296) (h:K (.int .u32 ((s - t:Nat):Int))):Bp .sub (.int .u32 (s:Int)) (.int .u32 (t:Int)) K:=by
 refine⟨_,?_,h⟩;simp only[bp,if_true];rw[show (s:Int) - (t:Int)=((s - t:Nat):Int) by omega,wrapU32 (by omega) (by omega)]
theorem Zz3 {s t:Nat}{K:Value->Prop}(h0:t<=s) (h1:s < 256) (h:K (.int .u8 ((s - t:Nat):Int))):Bp .sub (.int .u8 (s:Int)) (.int .u8 (t:Int)) K:=by
 refine⟨_,?_,h⟩;simp only[bp,if_true];rw[show (s:Int) - (t:Int)=((s - t:Nat):Int) by omega,wrapU8 (by omega) (by omega)]
theorem Zbc {P:HProp}{L L':List HProp}{h:Hp}(hL:∀ h,Sat L h->Sat L' h) (H:Sat (P::L) h):Sat (P::L') h:=by
 obtain⟨g,hg,hs,hr⟩:=H;exact⟨g,hg,hs,hL _ hr⟩
def live:List (Option HProp)->List HProp
 |[]=>[]
 |none::M=>live M
 |some P::M=>P::live M
def dead:List (Option HProp)->Nat->List (Option HProp)
 |[],_=>[]
 |_::M,0=>none::M
 |x::M,i+1=>x::dead M i
def sel:List Nat->List (Option HProp)->Option (List HProp)
 |[],_=>some []
 |i::is,M=>match M[i]? with
  |some (some P)=>(match sel is (dead M i) with
   |some R=>some (P::R)
   |none=>none)
  |_=>none
theorem Zge:∀ (M:List (Option HProp)) (i:Nat){P:HProp}{L:List HProp}{h:Hp},M[i]?=some (some P)->Sat (live M++L) h->Sat (P::(live (dead M i)++L)) h
 |[],i,P,L,h,hi,H=>by simp at hi
 |none::M,0,P,L,h,hi,H=>by simp at hi
 |some Q::M,0,P,L,h,hi,H=>by
  simp at hi;subst hi;exact H
 |none::M,i+1,P,L,h,hi,H=>Zge M i (by simpa using hi) H
 |some Q::M,i+1,P,L,h,hi,H=>Sat.swap (Zbc (λh' H'=>Zge M i (by simpa using hi) H') H)
theorem Zh0:∀ (M:List (Option HProp)){L:List HProp}{h:Hp},Sat (live M++L) h->Sat L h
 |[],_,_,H=>H
 |none::M,_,_,H=>Zh0 M H
 |some Q::M,L,h,H=>Zh0 M (by
  obtain⟨g,_,_,hL⟩:=H
  exact hL.mono λb o hb=>by
   unfold Hp.minus at hb;split at hb
   ·cases hb
   ·exact hb)
theorem Ztz:∀ (is:List Nat){M:List (Option HProp)}{R L:List HProp}{h:Hp},sel is M=some R->Sat (live M++L) h->Sat (R++L) h
 |[],M,R,L,h,hR,H=>by
  cases hR;exact Zh0 M H
 |i::is,M,R,L,h,hR,H=>by
  unfold sel at hR;split at hR
  ·rename_i P hP;split at hR
   ·rename_i R' hR';cases hR;exact Zbc (λh' H'=>Ztz is hR' H') (Zge M i hP H)
   ·cases hR
  ·cases hR
theorem Zlm:∀ (F:List HProp),live (F.map some)=F
 |[]=>rfl
 |P::F=>by rw[hR_,live,Zlm F]
theorem Holds.ord (n:Nat) (is:List Nat) (H:Holds w L){R:List HProp}(hR:sel is ((L.take n).map some)=some R):Holds w (R++L.drop n):=by
 refine Ztz is hR ?_;rw[Zlm,hN_];exact H
theorem Zw9 {i j:Nat}{X Y Q:HProp}(hij:i≠j) (hj:L[j]?=some Q):((L.set j X).set i Y).set j Q=L.set i Y:=by
 have e:L.set j Q=L:=by
  have hl:j < L.length:=(gH.1 hj).1;have h2:L[j]=Q:=(gH.1 hj).2;rw[<-h2,List.set_getElem_self]
 have e1:(L.set j X).set i Y=(L.set i Y).set j X:=List.set_comm _ _ (Ne.symm hij);have e2:(L.set i Y).set j Q=(L.set j Q).set i Y:=List.set_comm _ _ hij;rw[e1,set_set,e2,e]
theorem r_apS {α:Type}{t e:TypeId}{z:Value} [hr:Row P t e z] (H:Holds w L) (i j:Nat) (hij:i≠j){f:α->Value}{v v2:Value}{xs ys:List α}{ty:TypeId}{K:KT}
  (hi:L[i]?=some (SL f e v xs)) (hj:L[j]?=some (SL f e v2 ys)) (hs:∀ y,sg (f y)=true) (hn:xs.length+ys.length<=1099511627776)
  (h:∀ v' w',Same w w'->Holds w' (L.set i (SL f e v' (xs++ys)))->K v' w'):Ap P #[t,t] ty #[v,v2] w K:=by
 obtain⟨inf,hinf,hsz,hby,hzz⟩:=hr.inf
 have nothing:ys=[]->(∃ oa c,v2=.slice oa 0 c)->Ap P #[t,t] ty #[v,v2] w K:=by
  rintro rfl ⟨oa2,c2,rfl⟩;obtain⟨oa,sp,rfl,_⟩:=H.open i hi
  have hsrc:Src P inf.size t (.slice oa2 0 c2) 0 [] w:=by
   cases oa2 with
   |none=>exact Src.ofNil w hr.und c2
   |some a=>exact Src.ofSlice w hr.und a 0 c2 [] (by simp) (λj u hu=>by simp at hu) (λ_ h=>by cases h)
  refine⟨_,_,run_append_nothing w t t ty e inf hr.und hinf oa xs.length (xs.length+sp.length) (by omega) _ hsrc,h _ _ (.refl _) ?_⟩
  rw[gU,show L.set i (SL f e (.slice oa xs.length (xs.length+sp.length)) xs)=L from by
   have hl:i < L.length:=(gH.1 hi).1;have e1:L[i]=_:=(gH.1 hi).2
   rw[<-e1,List.set_getElem_self]]
  exact H
 obtain⟨oa2,sp2,rfl,H1⟩:=H.open j hj
 cases oa2 with
 |none=>
  obtain⟨g,⟨h2,_⟩,_⟩:=H1.front j (Za2 hj);exact nothing h2 ⟨_,_,by rw[h2];rfl⟩
 |some a=>
  obtain⟨g,⟨h2,h3,_⟩,_⟩:=H1.front j (Za2 hj);obtain⟨b2,o,s⟩:=a;simp only at h2 h3;subst h2;subst h3
  by_cases hy:ys=[]
  ·exact nothing hy ⟨_,_,by rw[hy];rfl⟩
  ·have hy0:0 < ys.length:=gZ.2 hy;have H2:=H1.slb j (Za2 hj);rw[set_set] at H2
   have hi2:(L.set j (blk b2 e (ys.map f++sp2)))[i]?=some (SL f e v xs):=by rw[hY_ (Ne.symm hij)];exact hi
   obtain⟨oa,sp,rfl,H3⟩:=H2.open i hi2;refine r_ap (f:=f) (ys:=ys) H3 i j (xs:=xs) (sp:=sp) (Za2 hi2) (by rw[hY_ hij];exact Za2 hj) (by simp) rfl rfl rfl hs hn hy0 λoa' sp' w4 S4 H4=>?_;rw[set_set] at H4;have hi3:(L.set j (blk b2 e (ys.map f++sp2)))[i]?=some (SL f e (.slice oa xs.length (xs.length+sp.length)) xs):=hi2;have H5:=H4.close i (Za2 hi3);rw[set_set] at H5;have H6:=H5.at j (Q:=SL f e (.slice (some ⟨b2,0,none⟩) ys.length (ys.length+sp2.length)) ys) (by rw[hY_ hij];exact Za2 hj) λg hg=>⟨some ⟨b2,0,none⟩,sp2,rfl,rfl,rfl,hg⟩;rw[Zw9 hij hj] at H6
   have e1:xs.length+ys.length=(xs++ys).length:=by simp
   rw[e1];exact h _ _ S4 H6
theorem r_mf {fn:Fn}{f c:Array Value}{K:Value->Prop}(v:Value) (h:(Instr.makeFunc fn f c).run P w=.ok v w) (k:K v):Mf P fn f c w K:=⟨v,h,k⟩
theorem Znm {α:Type}{t e:TypeId}{z:Value} [hr:Row P t e z] (H:Holds w L) (i:Nat){f:α->Value}{v:Value}{xs:List α}{ty:TypeId}{N:Node}{K:KT}
  (hi:L[i]?=some (SL f e v xs)) (x:α) (hs:∀ y,sg (f y)=true) (hn:xs.length+1<=1099511627776) (hN:∀ w',Holds w' L->N w' λu=>u=v)
  (h:∀ v' w',Same w w'->Holds w' (L.set i (SL f e v' (xs++[x])))->K v' w'):Bs P t 1 #[(0,f x)] w λy w2=>Rk N v w2 (Ap P #[t,t] ty #[v,y] w2 K):=by
 refine r_bs1 H (hs x) λb3 w3 S3 H3=>r_rk (hN _ H3.drop) ?_;obtain⟨oa,sp,rfl,H4⟩:=H3.open (i+1) (by rw[gF];exact hi);rw[gW] at H4;refine r_ap (f:=f) (ys:=[x]) H4 (i+1) 0 (xs:=xs) (sp:=sp) (by rw[gF];exact Za2 hi) rfl rfl rfl rfl rfl hs (by rw[gQ];omega) (by simp) λoa' sp' w4 S4 H4=>?_;rw[gW,set_set] at H4;have H5:=H4.drop.close i (Za2 hi);rw[set_set] at H5
 have e:xs.length+[x].length=(xs++[x]).length:=by simp
 rw[e];exact h _ _ (S3.trans S4) H5
theorem Zyz {s t:Nat}{K:Value->Prop}(hs:s < 256) (ht:t < 256) (h:K (.int .u8 ((s ^^^ t:Nat):Int))):Bp .xor (.int .u8 (s:Int)) (.int .u8 (t:Int)) K:=by
 refine⟨_,?_,h⟩;have hb:IntKind.u8.bits=8:=rfl;have hx:s ^^^ t < 2^8:=Nat.xor_lt_two_pow (by simpa using hs) (by simpa using ht);simp only[bp,if_true];rw[hb,BitVec.toNat_xor,BitVec.toNat_ofInt,BitVec.toNat_ofInt]
 have e1:((s:Int)%((2^8:Nat):Int)).toNat=s:=by omega
 have e2:((t:Int)%((2^8:Nat):Int)).toNat=t:=by omega
 rw[e1,e2,wrapU8 (by omega) (by omega)]
theorem Zpt {s:Nat}{K:Value->Prop}(hs:s < 4294967296) (h:K (.int .u32 ((4294967295 - s:Nat):Int))):Up .xor (.int .u32 (s:Int)) K:=by
 refine⟨_,?_,h⟩;simp only[up];have e1:(if IntKind.u32.signed=true then (-1:Int) else IntKind.u32.max)=4294967295:=rfl;have e2:BitVec.ofInt IntKind.u32.bits 4294967295=BitVec.allOnes 32:=rfl;have hb:IntKind.u32.bits=32:=rfl;rw[e1,e2];show some (Value.int .u32 (IntKind.u32.wrap (BitVec.allOnes 32 ^^^ BitVec.ofInt 32 (s:Int)).toNat))=_;rw[BitVec.allOnes_xor,BitVec.toNat_not,BitVec.toNat_ofInt]
 have e3:((s:Int)%((2^32:Nat):Int)).toNat=s:=by omega
 rw[e3,wrapU32 (by omega) (by omega)]
theorem Zzi {a n:Nat}{k':IntKind}{K:Value->Prop}(hn:n<=64) (h1:a*2^n < 9223372036854775808) (h:K (.int .i64 ((a*2^n:Nat):Int))):Bp .shl (.int .i64 (a:Int)) (.int k' (n:Int)) K:=by
 refine⟨_,?_,h⟩;have hb:IntKind.i64.bits=64:=rfl;simp only[bp];rw[if_neg (by omega),gC,hb,Nat.min_eq_left hn]
 have e:(a:Int)*2^n=((a*2^n:Nat):Int):=by simp
 rw[e,wrap64 (by omega) (by omega)]
theorem Zso {size:Nat}{a:Option Addr}{n c l h:Nat}{k k':IntKind}{K:Value->Prop}(h1:l<=h) (h2:h<=c) (hK:K (.slice (if c=l then a else a.map (·.add (l*size))) (h - l) (c - l))) :
  Ssl size (.slice a n c) (some (.int k (l:Int))) (some (.int k' (h:Int))) K:=⟨a,n,c,l,h,rfl,⟨k,rfl⟩,⟨k',rfl⟩,h1,h2,hK⟩
theorem r_cp {ats:Array TypeId}{t:TypeId}{args:Array Value}{K:KT}{v:Value}{w':World}(h:(Builtin.copy_ ats t args).run P w=.ok v w') (k:K v w'):Cp P ats t args w K:=⟨v,w',h,k⟩
theorem r_lnS {α:Type}(i:Nat) (H:Holds w L){f:α->Value}{e:TypeId}{v:Value}{xs:List α}{K:Value->Prop}(hi:L[i]?=some (SL f e v xs)) (h:K (nv xs.length)):Lnl v K:=by
 obtain⟨oa,sp,rfl,_⟩:=H.open i hi;exact r_lnl h
theorem Za8 {α:Type}(i:Nat) (H:Holds w L){f:α->Value}{e:TypeId}{v:Value}{xs:List α}{k:IntKind}{j:Nat}{x:α}{K:Value->Prop}(hi:L[i]?=some (SL f e v xs)) (hx:xs[j]?=some x) (h:K (f x)) :
  Ias 1 v (.int k (j:Int)) λp=>Ld p w K:=by
 obtain⟨oa,sp,rfl,H1⟩:=H.open i hi;have hj:j < xs.length:=(gH.1 hx).1;refine Zhi i H1 (Za2 hi) hj (Nat.le_refl _) λb hb=>?_;subst hb;exact Zl8 i H1 (Za2 hi) hx h
theorem Zam {α:Type}(i:Nat) (H:Holds w L){f:α->Value}{e:TypeId}{v:Value}{xs:List α}{k:IntKind}{j:Nat}(x:α){K:World->Prop}(hi:L[i]?=some (SL f e v xs)) (hj:j < xs.length) (hs:sg (f x)=true)
  (h:∀ w',Same w w'->Holds w' (L.set i (SL f e v (xs.set j x)))->K w'):Ias 1 v (.int k (j:Int)) λp=>St p (f x) w K:=by
 obtain⟨oa,sp,rfl,H1⟩:=H.open i hi;refine Zhi i H1 (Za2 hi) hj (Nat.le_refl _) λb hb=>?_;subst hb;refine Zxz i H1 x (Za2 hi) hj rfl hs λw2 S2 H2=>?_;rw[set_set] at H2;have H3:=H2.close i (Za2 hi);rw[set_set,hX_] at H3;exact h _ S2 H3
theorem SL_sg {α:Type}{f:α->Value}{e:TypeId}{v:Value}{xs:List α}(H:Holds w L) (i:Nat) (hi:L[i]?=some (SL f e v xs)):sg v=true:=by
 obtain⟨oa,sp,rfl,_⟩:=H.open i hi;rfl
theorem Zk7 {α:Type}{f:α->Value}(pre:List Value){post:List Value}{xs:List α}{j:Nat}{x:α}(h:xs[j]?=some x):(pre++(xs.map f++post))[pre.length+j]?=some (f x):=by
 have hj:j < xs.length:=(gH.1 h).1;rw[gT (by omega),Nat.add_sub_cancel_left,gM (by simpa using hj),hV_,h];rfl
theorem Zhf {α:Type}{f:α->Value}(pre:List Value){post:List Value}{xs:List α}{j:Nat}(x:α) (h:j < xs.length):(pre++(xs.map f++post)).set (pre.length+j) (f x)=pre++((xs.set j x).map f++post):=by
 rw[set_append_right _ _ (by omega),Nat.add_sub_cancel_left,List.set_append_left _ _ (by simpa using h),List.map_set]
theorem Zwt {α:Type}{f:α->Value}(pre:List Value){post:List Value}{xs:List α}{n j:Nat}(hn:xs.length=n):(pre++(xs.map f++post))[pre.length+n+j]?=post[j]?:=by
 rw[gT (by omega),gT (by simp;omega)]
 congr 1
 simp;omega
theorem Zvr {α:Type}{f:α->Value}(pre:List Value){post:List Value}{xs:List α}{n j:Nat}(v:Value) (hn:xs.length=n):(pre++(xs.map f++post)).set (pre.length+n+j) v=pre++(xs.map f++post.set j v):=by
 rw[set_append_right _ _ (by omega),set_append_right _ _ (by simp;omega)]
 congr 3
 simp;omega
end Go.Vc
namespace Go.M01
def valB (l:List Bool):Nat:=l.foldl (λa b=>2*a+b.toNat) 0
theorem Zb6 (l:List Bool) (b:Bool):valB (l++[b])=2*valB l+b.toNat:=by simp[valB]
theorem Zbg (l:List Bool):valB l < 2^l.length:=by
 have h:∀ n (l:List Bool),l.length=n->valB l < 2^n:=by
  intro n
  induction n with
  |zero=>intro l hl;rw[List.length_eq_zero_iff.1 hl];decide
  |succ n ih=>
   intro l hl
   have hne:l≠[]:=by rintro rfl;simp at hl
   rw[<-List.dropLast_concat_getLast hne,Zb6,Nat.pow_succ];have h1:=ih l.dropLast (by simp[hl]);have h2:=Bool.toNat_le (l.getLast hne);omega
 exact h _ l rfl
def byteAt (bs:List Bool) (i:Nat):UInt8:=UInt8.ofNat (valB ((bs.drop (8*i)).take 8))
def wholeB (bs:List Bool):List UInt8:=(List.range (bs.length/8)).map (byteAt bs)
def restB (bs:List Bool):Nat:=valB (bs.drop (8*(bs.length/8)))*2^(8 - bs.length%8)%256
theorem Zy0:∀ r,r < 8->∀ v,v < 128->∀ b:Bool,v < 2^r->(v*2^(8 - r)%256) ||| (b.toNat*2^(7 - r)%256)=(2*v+b.toNat)*2^(7 - r):=by decide +kernel
theorem Zcv (bs:List Bool):(wholeB bs).length=bs.length/8:=by simp[wholeB]
theorem Zyp (bs:List Bool) (b:Bool) (h:bs.length%8 < 7) :
  wholeB (bs++[b])=wholeB bs/\restB (bs++[b])=restB bs ||| (b.toNat*2^(7 - bs.length%8)%256)/\restB (bs++[b]) < 256:=by
 have hl:(bs++[b]).length=bs.length+1:=by simp
 have hd:(bs.length+1)/8=bs.length/8:=by omega
 have hm:(bs.length+1)%8=bs.length%8+1:=by omega
 refine⟨?_,?_,?_⟩
 ·unfold wholeB;rw[hl,hd];apply map_congr_left;intro i hi;rw[mem_range] at hi;unfold byteAt;rw[drop_append_of_le_length (by omega),List.take_append_of_le_length (by rw[gS];omega)]
 ·unfold restB;rw[hl,hd,hm,drop_append_of_le_length (by omega),Zb6];have hv:=Zbg (bs.drop (8*(bs.length/8)));rw[gS,show bs.length - 8*(bs.length/8)=bs.length%8 by omega] at hv;have h7:2^(bs.length%8)<=2^6:=Nat.pow_le_pow_right (by omega) (by omega);rw[Zy0 (bs.length%8) (by omega) _ (by omega) b hv,show 8 - (bs.length%8+1)=7 - bs.length%8 by omega];refine Nat.mod_eq_of_lt ?_;have hb:=Bool.toNat_le b
  have h1:2*valB (bs.drop (8*(bs.length/8)))+b.toNat < 2^(bs.length%8+1):=by rw[Nat.pow_succ];omega
  calc _ < 2^(bs.length%8+1)*2^(7 - bs.length%8):=Nat.mul_lt_mul_of_pos_right h1 (Nat.two_pow_pos _)
   _=2^8:=by rw[<-Nat.pow_add];congr 1;omega
 ·unfold restB;exact Nat.mod_lt _ (by decide)
theorem Zvx (bs:List Bool) (b:Bool) (h:bs.length%8=7) :
  wholeB (bs++[b])=wholeB bs++[UInt8.ofNat (restB bs ||| (b.toNat*2^(7 - bs.length%8)%256))]/\restB (bs++[b])=0:=by
 have hl:(bs++[b]).length=bs.length+1:=by simp
 have hd:(bs.length+1)/8=bs.length/8+1:=by omega
 have hv:=Zbg (bs.drop (8*(bs.length/8)));rw[gS,show bs.length - 8*(bs.length/8)=7 by omega] at hv;refine⟨?_,?_⟩
 ·unfold wholeB;rw[hl,hd,range_succ,List.map_append]
  congr 1
  ·apply map_congr_left;intro i hi;rw[mem_range] at hi;unfold byteAt;rw[drop_append_of_le_length (by omega),List.take_append_of_le_length (by rw[gS];omega)]
  ·rw[List.map_singleton];unfold restB byteAt;rw[h,Zy0 7 (by omega) _ (by omega) b hv,drop_append_of_le_length (by omega),gK (by simp;omega),Zb6];simp
 ·unfold restB;rw[hl,hd,drop_of_length_le (by simp;omega),show valB []=0 from rfl,Nat.zero_mul]
theorem Zw4 (bs:List Bool):restB bs < 256:=Nat.mod_lt _ (by decide)
def bitsOf (v n:Nat):List Bool:=(List.range n).map λi=>v.testBit (n - 1 - i)
theorem Za5 (v n:Nat):(bitsOf v n).length=n:=by simp[bitsOf]
theorem bitsOf_get (v n i:Nat) (h:i < n):(bitsOf v n)[i]?=some (v.testBit (n - 1 - i)):=by simp[bitsOf,h]
theorem Zoe (v j:Nat):(v/2^j) &&& 1=(v.testBit j).toNat:=by
 rw[Nat.and_one_is_mod,Nat.testBit_eq_decide_div_mod_eq]
 rcases Nat.mod_two_eq_zero_or_one (v/2^j) with h|h <;> simp[h]
theorem Zj7 (v n i:Nat) (h:i < n):(bitsOf v n).take (i+1)=(bitsOf v n).take i++[v.testBit (n - 1 - i)]:=by
 rw[gO,bitsOf_get v n i h];rfl
end Go.M01
namespace Go.Mb
open Go.M01
def bitsL:List UInt8->List Bool
 |[]=>[]
 |c::s=>bitsOf c.toNat 8++bitsL s
theorem Ztc (s:List UInt8):(bitsL s).length=8*s.length:=by
 induction s with
 |nil=>rfl
 |cons c s ih=>simp only[bitsL,gD,Za5,ih,length_cons];omega
theorem bitsOf_get (v n i:Nat) (h:i < n):(bitsOf v n)[i]?=some (v.testBit (n - 1 - i)):=by
 have:=Zj7 v n i h
 have h2:((bitsOf v n).take (i+1))[i]?=(bitsOf v n)[i]?:=by rw[hI_ (by omega)]
 rw[<-h2,this,gT (by rw[gN,Za5];omega)];rw[gN,Za5,show i - min i n=0 by omega];rfl
theorem Zub (s:List UInt8):∀ (i:Nat),i < 8*s.length->(bitsL s)[i]?=some ((s.getD (i/8) 0).toNat.testBit (7 - i%8)):=by
 induction s with
 |nil=>intro i h;simp at h
 |cons c s ih=>
  intro i h;rw[bitsL]
  by_cases h8:i < 8
  ·rw[gM (by rw[Za5];exact h8),bitsOf_get _ _ _ h8,show i/8=0 by omega,show i%8=i by omega];rfl
  ·rw[gT (by rw[Za5];omega),Za5,ih (i - 8) (by simp at h;omega),show i/8=(i - 8)/8+1 by omega,show (i - 8)%8=i%8 by omega];rfl
def rest (B:List UInt8) (at_:Nat):List Bool:=(bitsL B).drop at_
theorem Zba (B:List UInt8) (at_:Nat):(rest B at_).length=8*B.length - at_:=by rw[rest,gS,Ztc]
theorem Zc5 (B:List UInt8) (at_ n:Nat):(rest B at_).drop n=rest B (at_+n):=by rw[rest,rest,drop_drop]
theorem Zw8 (B:List UInt8) (at_ n:Nat) (h:at_+n < 8*B.length):(rest B at_)[n]?=some ((B.getD ((at_+n)/8) 0).toNat.testBit (7 - (at_+n)%8)):=by
 rw[rest,hH_,Zub _ _ h]
theorem Zan {α:Type}{l:List α}{n:Nat}{x:α}(h:l[n]?=some x):l.take (n+1)=l.take n++[x]:=by
 rw[gO,h];rfl
theorem Zyu (c:UInt8) (i:Nat):c.toNat/2^i &&& 1=(c.toNat.testBit i).toNat:=Zoe c.toNat i
theorem Zva:valB []=0:=rfl
theorem Zjr (b:Bool):valB [b]=b.toNat:=by simp[valB]
theorem Zae (l:List Bool) (n:Nat):valB (l.take n) < 2^n:=Nat.lt_of_lt_of_le (Zbg _) (Nat.pow_le_pow_right (by decide) (by rw[gN];omega))
end Go.Mb
namespace Go.Mp
open Go.M01 Go.Mb
inductive Res (σ:Type) where
 |short
 |bad (e:Nat)
 |ok (s:σ) (k:Nat)
def lead:List Bool->Nat
 |true::l=>lead l+1
 |_=>0
theorem Zn3:∀ (l:List Bool),lead l<=l.length
 |[]=>Nat.le_refl 0
 |true::l=>by simp only[lead,length_cons];have:=Zn3 l;omega
 |false::l=>hE _
theorem Zz4 {l:List Bool}{i:Nat}(h1:∀ j,j < i->l[j]?=some true) (h2:l[i]?=some false):lead l=i:=by
 induction l generalizing i with
 |nil=>simp at h2
 |cons c l ih=>
  cases i with
  |zero=>
   simp at h2;subst h2;rfl
  |succ i=>
   have:=h1 0 (by omega);simp at this;subst this;simp only[lead];rw[ih (i:=i) (λj hj=>by have:=h1 (j+1) (by omega);simpa using this) (by simpa using h2)]
theorem Zum {l:List Bool}{i:Nat}(h1:∀ j,j < i->l[j]?=some true):i<=lead l:=by
 induction l generalizing i with
 |nil=>cases i with
  |zero=>exact hE _
  |succ i=>have:=h1 0 (by omega);simp at this
 |cons c l ih=>
  cases i with
  |zero=>exact hE _
  |succ i=>
   have:=h1 0 (by omega);simp at this;subst this;simp only[lead];have:=ih (i:=i) (λj hj=>by have:=h1 (j+1) (by omega);simpa using this);omega
def front (o:List Nat) (i:Nat):List Nat:=o.getD i 0::(o.take i++o.drop (i+1))
theorem Zhe {o:List Nat}{i:Nat}(h:i < o.length):(front o i).length=o.length:=by
 simp only[front,length_cons,gD,gN,gS];omega
structure PS where
 t:Nat
 count:Nat
 order:List Nat
 picks:List Nat
def p0:PS:=⟨0,0,[0,1,2,3,4,5],[]⟩
def PS.done (p:PS):Bool:=decide (0 < p.count/\p.picks.length=p.count)
def pstep (p:PS) (l:List Bool):Res PS:=
 if p.count=0 then
  if l.length < 18 then .short
  else
   if valB (l.take 18)/32768 < 2\/6 < valB (l.take 18)/32768\/valB (l.take 18)%32768=0 then .bad 25
   else .ok ⟨valB (l.take 18)/32768,valB (l.take 18)%32768,p.order,p.picks⟩ 18
 else
  if p.t<=lead l then .bad 25
  else if lead l=l.length then .short
  else .ok ⟨p.t,p.count,front p.order (lead l),p.picks++[p.order.getD (lead l) 0]⟩ (lead l+1)
structure PS.Ok (p:PS):Prop where
 ord:p.order.length=6
 cnt:p.count<=32767
 len:p.picks.length<=p.count
 new:p.count=0->p.t=0/\p.order=[0,1,2,3,4,5]
 tbl:0 < p.count->2<=p.t/\p.t<=6
 low:∀ i,i < p.t->p.order.getD i 0 < p.t
 pks:∀ x∈p.picks,x < p.t
theorem p0_ok:p0.Ok:=⟨rfl,by decide,by decide,λ_=>⟨rfl,rfl⟩,λh=>absurd h (by decide),λi h=>absurd h (Nat.not_lt_zero i),λx h=>by cases h⟩
theorem Zpz {o:List Nat}{i j:Nat}(hi:i < o.length):(front o i).getD j 0=if j=0 then o.getD i 0 else if j<=i then o.getD (j - 1) 0 else o.getD j 0:=by
 unfold front
 cases j with
 |zero=>rfl
 |succ j=>
  rw[List.getD_cons_succ,if_neg (by omega)];rw[gB,gB,gB]
  have hl:(o.take i).length=i:=by simp;omega
  split
  ·rw[gM (by omega),hI_ (by omega)];rfl
  ·rw[gT (by omega),hl,hH_]
   congr 2
   omega
theorem Zjl {p p':PS}{l:List Bool}{k:Nat}(h:pstep p l=.ok p' k) (hp:p.Ok) (hd:p.done=false):p'.Ok:=by
 unfold pstep at h;split at h
 ·rename_i h0;split at h
  ·cases h
  ·split at h
   ·cases h
   ·rename_i h1;cases h;have hq:p.picks=[]:=List.eq_nil_of_length_eq_zero (by have:=hp.len;omega);have ho:=(hp.new h0).2;refine⟨hp.ord,by simp only;omega,?_,λh=>by simp only at h;omega,λ_=>by simp only;omega,?_,?_⟩
    ·simp only[hq];exact hE _
    ·intro i hi;simp only at hi ⊢;rw[ho];generalize valB (l.take 18)/32768=t at hi h1
     have:t=2\/t=3\/t=4\/t=5\/t=6:=by omega
     have h6:i=0\/i=1\/i=2\/i=3\/i=4\/i=5:=by omega
     rcases h6 with rfl|rfl|rfl|rfl|rfl|rfl <;> simp <;> omega
    ·simp only[hq];intro x hx;cases hx
 ·rename_i h0;split at h
  ·cases h
  ·split at h
   ·cases h
   ·cases h;have ht:=hp.tbl (by omega);have hlen:=hp.len
    have hnd:p.picks.length < p.count:=by
     rcases hU_ p.picks.length p.count with h|h
     ·exact h
     ·simp[PS.done] at hd;omega
    have hlt:lead l < p.t:=by omega
    have hord:=hp.ord;refine⟨by simp only;rw[Zhe (by omega)];exact hp.ord,hp.cnt,by simp;omega,λh=>absurd h h0,λ_=>ht,?_,?_⟩
    ·intro i hi;simp only at hi ⊢;rw[Zpz (by omega)];split
     ·exact hp.low _ hlt
     ·split
      ·exact hp.low _ (by omega)
      ·exact hp.low _ hi
    ·intro x hx;simp only at hx ⊢;rcases hT_.1 hx with h|h
     ·exact hp.pks x h
     ·rw[List.mem_singleton] at h;subst h;exact hp.low _ hlt
theorem Zm0 {p:PS}{l:List Bool}{c:Nat}(h:pstep p l=.bad c):c=25:=by
 unfold pstep at h;split at h
 ·split at h
  ·cases h
  ·split at h
   ·cases h;rfl
   ·cases h
 ·split at h
  ·cases h;rfl
  ·split at h
   ·cases h
   ·cases h
structure DS where
 size:Nat
 now:Nat
 lens:List Nat
def d0 (size:Nat):DS:=⟨size,0,[]⟩
def DS.done (d:DS):Bool:=decide (d.lens.length=d.size)
def turn (d:DS) (n:Int) (k:Nat):Res DS:=if n < 1\/20 < n then .bad 22 else .ok ⟨d.size,n.toNat,d.lens⟩ k
def dstep (d:DS) (l:List Bool):Res DS:=
 if d.now=0 then if l.length < 5 then .short else turn d (valB (l.take 5)) 5
 else match l with
  |[]=>.short
  |false::_=>.ok ⟨d.size,d.now,d.lens++[d.now]⟩ 1
  |[true]=>.short
  |true::c::_=>turn d ((d.now:Int)+1 - 2*c.toNat) 2
structure DS.Ok (d:DS):Prop where
 now:d.now<=20
 len:d.lens.length<=d.size
 all:∀ x∈d.lens,1<=x/\x<=20
theorem d0_ok (n:Nat):(d0 n).Ok:=⟨by simp[d0],by simp[d0],λx h=>by cases h⟩
theorem Zg3 {d d':DS}{l:List Bool}{k:Nat}(h:dstep d l=.ok d' k) (hd:d.Ok) (hn:d.done=false):d'.Ok:=by
 unfold dstep at h;have hlen:=hd.len
 have hnd:d.lens.length < d.size:=by
  rcases hU_ d.lens.length d.size with h|h
  ·exact h
  ·simp[DS.done] at hn;omega
 split at h
 ·split at h
  ·cases h
  ·unfold turn at h;split at h
   ·cases h
   ·cases h;exact⟨by simp only;omega,hd.len,hd.all⟩
 ·split at h
  ·cases h
  ·cases h;refine⟨hd.now,by simp;omega,λx hx=>?_⟩;rcases hT_.1 hx with h|h
   ·exact hd.all x h
   ·rw[List.mem_singleton] at h;subst h;have:=hd.now;omega
  ·cases h
  ·unfold turn at h;split at h
   ·cases h
   ·cases h;exact⟨by simp only;omega,hd.len,hd.all⟩
theorem Zh1 {d:DS}{l:List Bool}{c:Nat}(h:dstep d l=.bad c):c=22:=by
 unfold dstep turn at h;split at h
 ·split at h
  ·cases h
  ·split at h
   ·cases h;rfl
   ·cases h
 ·split at h
  ·cases h
  ·cases h
  ·cases h
  ·split at h
   ·cases h;rfl
   ·cases h
end Go.Mp
namespace Go.M10
open Go.M01 Go.Mb
def nx (lens:List Nat):Nat->Nat
 |0=>0
 |n+1=>2*nx lens n+lens.count (n+1)
def fst_ (lens:List Nat) (n:Nat):Nat:=2*nx lens (n - 1)
def grp (lens:List Nat) (k n:Nat):List Nat:=(List.range k).filter λi=>decide (lens.getD i 0=n)
def upto (lens:List Nat):Nat->List Nat
 |0=>[]
 |n+1=>upto lens n++grp lens lens.length (n+1)
def frm (lens:List Nat) (n:Nat):Nat:=(upto lens (n - 1)).length
def share (lens:List Nat):Nat:=(lens.map λx=>2^(20 - x)).sum
def Sized (lens:List Nat):Prop:=∀ x∈lens,1<=x/\x<=20
structure Whole (lens:List Nat):Prop where
 sized:Sized lens
 share:share lens=1048576
theorem Znf (lens:List Nat) (n:Nat):∀ k,k<=lens.length->(grp lens k n).length=(lens.take k).count n:=by
 intro k
 induction k with
 |zero=>intro _;simp[grp]
 |succ k ih=>
  intro hk;have:=ih (by omega);unfold grp at this ⊢;have hg:lens[k]?=some lens[k]:=gA (by omega);rw[range_succ,List.filter_append,gD,this,Zan hg,List.count_append]
  congr 1
  have hd:lens.getD k 0=lens[k]:=by rw[gB,hg];rfl
  rw[filter_cons,hd,List.filter_nil,count_cons,List.count_nil]
  by_cases h:lens[k]=n
  ·rw[if_pos (by simpa using h),if_pos (by simpa using h)];rfl
  ·rw[if_neg (by simpa using h),if_neg (by simpa using h)];rfl
theorem Zf1 (lens:List Nat) (n:Nat):(grp lens lens.length n).length=lens.count n:=by
 rw[Znf lens n _ (Nat.le_refl _),hF_]
theorem Zvy (lens:List Nat) (n:Nat) (h:1<=n):frm lens (n+1)=frm lens n+lens.count n:=by
 obtain⟨m,rfl⟩:∃ m,n=m+1:=⟨n - 1,by omega⟩;unfold frm;rw[Nat.add_sub_cancel,Nat.add_sub_cancel,upto,gD,Zf1]
theorem nx_eq (lens:List Nat) (n:Nat) (h:1<=n):nx lens n=fst_ lens n+lens.count n:=by
 obtain⟨m,rfl⟩:∃ m,n=m+1:=⟨n - 1,by omega⟩;rw[nx,fst_,Nat.add_sub_cancel]
def shareTo (lens:List Nat) (n:Nat):Nat:=(lens.map λx=>if x<=n then 2^(20 - x) else 0).sum
theorem Zm2 (lens:List Nat) (n:Nat):shareTo lens (n+1)=shareTo lens n+lens.count (n+1)*2^(20 - (n+1)):=by
 induction lens with
 |nil=>simp[shareTo]
 |cons x l ih=>
  simp only[shareTo,hR_,hQ_] at ih ⊢;rw[ih,count_cons]
  by_cases h1:x<=n
  ·rw[if_pos (by omega),if_pos h1,if_neg (by simp;omega)];simp;omega
  ·by_cases h2:x=n+1
   ·subst h2;rw[if_pos (by omega),if_neg h1,if_pos (by simp),Nat.add_mul];omega
   ·rw[if_neg (by omega),if_neg h1,if_neg (by simpa using h2)];simp
theorem Zwx {lens:List Nat}(hs:Sized lens):∀ n,n<=20->nx lens n*2^(20 - n)=shareTo lens n:=by
 intro n
 induction n with
 |zero=>
  intro _
  have:∀ l:List Nat,(∀ x∈l,1<=x)->shareTo l 0=0:=by
   intro l
   induction l with
   |nil=>intro _;rfl
   |cons x l ih=>
    intro h;simp only[shareTo,hR_,hQ_] at ih ⊢;rw[ih λy hy=>h y (hK_ _ hy),if_neg (by have:=h x hJ_;omega)]
  rw[this lens λx hx=>(hs x hx).1];simp[nx]
 |succ n ih=>
  intro hn;rw[Zm2,<-ih (by omega),nx,Nat.add_mul]
  congr 1
  rw[show 20 - n=(20 - (n+1))+1 by omega,Nat.pow_succ];rw[Nat.mul_comm 2,Nat.mul_assoc,Nat.mul_comm 2]
theorem Zqd {lens:List Nat}(hs:Sized lens):shareTo lens 20=share lens:=by
 induction lens with
 |nil=>rfl
 |cons x l ih=>
  simp only[shareTo,share,hR_,hQ_] at ih ⊢;rw[ih λy hy=>hs y (hK_ _ hy),if_pos (hs x hJ_).2]
theorem nx_20 {lens:List Nat}(h:Whole lens):nx lens 20=1048576:=by
 have:=Zwx h.sized 20 (by omega);rw[Zqd h.sized,h.share] at this;omega
theorem Zyr (lens:List Nat) (n:Nat):2*nx lens n<=nx lens (n+1):=by rw[nx];omega
theorem Zzg (lens:List Nat) (n:Nat):∀ k,nx lens n*2^k<=nx lens (n+k):=by
 intro k
 induction k with
 |zero=>simp
 |succ k ih=>
  have:=Zyr lens (n+k);rw[Nat.pow_succ,<-Nat.mul_assoc,<-hG_];omega
theorem nx_le {lens:List Nat}(h:Whole lens) (n:Nat) (hn:n<=20):nx lens n<=2^n:=by
 have h1:=Zzg lens n (20 - n);rw[show n+(20 - n)=20 by omega,nx_20 h] at h1
 have h2:2^n*2^(20 - n)=1048576:=by rw[<-Nat.pow_add,show n+(20 - n)=20 by omega]
 rw[<-h2] at h1;exact Nat.le_of_mul_le_mul_right h1 (Nat.two_pow_pos _)
theorem Zxl (lens:List Nat) (h:Sized lens):∀ n,n<=20->(upto lens n).length<=lens.length:=by
 have key:∀ n,(upto lens n).length=(lens.filter λx=>decide (1<=x/\x<=n)).length:=by
  intro n
  induction n with
  |zero=>
   have:∀ l:List Nat,(l.filter λx=>decide (1<=x/\x<=0))=[]:=λl=>by
    rw[List.filter_eq_nil_iff];intro x _;simp;omega
   rw[this];rfl
  |succ n ih=>
   rw[upto,gD,ih,Zf1];clear ih h
   induction lens with
   |nil=>rfl
   |cons x l ih=>
    rw[count_cons,filter_cons,filter_cons]
    by_cases h1:1<=x/\x<=n
    ·rw[if_pos (by simpa using h1),if_neg (by simp;omega),if_pos (by simp;omega)];simp only[length_cons];omega
    ·by_cases h2:x=n+1
     ·subst h2;rw[if_neg (by simp),if_pos (by simp),if_pos (by simp)];simp only[length_cons];omega
     ·rw[if_neg (by simpa using h1),if_neg (by simpa using h2),if_neg (by simp;omega)];omega
 intro n _;rw[key];exact List.length_filter_le _ _
def hit (lens:List Nat) (l:List Bool) (i:Nat):Bool:=decide (i+1<=l.length/\valB (l.take (i+1)) < nx lens (i+1))
def getC (lens:List Nat) (l:List Bool):Option (Nat × Nat):=
 ((List.range 20).find? (hit lens l)).map λi=>((upto lens 20).getD (frm lens (i+1)+(valB (l.take (i+1)) - fst_ lens (i+1))) 0,i+1)
theorem Zse {lens:List Nat}{l:List Bool}{i:Nat}(hi:i < 20) (h:hit lens l i=true) (hn:∀ j,j < i->hit lens l j=false) :
  getC lens l=some ((upto lens 20).getD (frm lens (i+1)+(valB (l.take (i+1)) - fst_ lens (i+1))) 0,i+1):=by
 unfold getC
 have:(List.range 20).find? (hit lens l)=some i:=by
  rw[List.find?_range_eq_some];exact⟨h,mem_range.2 hi,λj hj=>by rw[hn j hj];rfl⟩
 rw[this];rfl
theorem Ztj {lens:List Nat}{l:List Bool}(h:∀ j,j < 20->hit lens l j=false):getC lens l=none:=by
 unfold getC
 have:(List.range 20).find? (hit lens l)=none:=by
  rw[List.find?_eq_none];intro x hx;rw[h x (mem_range.1 hx)];simp
 rw[this];rfl
theorem Zhs {l:List Bool}{n:Nat}(h:n < l.length):valB (l.take (n+1))=2*valB (l.take n)+(l.getD n false).toNat:=by
 have hg:l[n]?=some l[n]:=gA h;rw[Zan hg,Zb6,gB,hg];rfl
theorem Ztb {lens:List Nat}{l:List Bool}{n:Nat}(h:∀ j,j < n->hit lens l j=false) (hl:n < l.length):fst_ lens (n+1)<=valB (l.take (n+1)):=by
 rw[fst_,Nat.add_sub_cancel,Zhs hl]
 cases n with
 |zero=>rw[nx];omega
 |succ n=>
  have:=h n (by omega);simp[hit] at this;have:=this (by omega);omega
theorem Zxd {lens:List Nat}{l:List Bool}(h:Whole lens) (hl:20<=l.length):hit lens l 19=true:=by
 unfold hit;rw[decide_eq_true_iff];refine⟨hl,?_⟩;rw[show 19+1=20 from rfl,nx_20 h];exact Zae l 20
theorem Zwz (lens:List Nat) (n:Nat):∀ k,∃ t,upto lens (n+k)=upto lens n++t:=by
 intro k
 induction k with
 |zero=>exact⟨[],by simp⟩
 |succ k ih=>
  obtain⟨t,ht⟩:=ih;exact⟨t++grp lens lens.length (n+k+1),by rw[<-hG_,upto,ht,gI]⟩
theorem Zpf {lens:List Nat}{n k:Nat}(h1:1<=n) (h2:n<=20) (hk:k < lens.count n):(upto lens 20)[frm lens n+k]?=(grp lens lens.length n)[k]?:=by
 obtain⟨m,rfl⟩:∃ m,n=m+1:=⟨n - 1,by omega⟩;obtain⟨t,ht⟩:=Zwz lens (m+1) (20 - (m+1));rw[show m+1+(20 - (m+1))=20 by omega] at ht;rw[ht,upto,frm,Nat.add_sub_cancel,gI,gT (by omega),Nat.add_sub_cancel_left,gM (by rw[Zf1];exact hk)]
theorem Zyy {lens:List Nat}{k n i:Nat}(h:i∈grp lens k n):i < k/\lens.getD i 0=n:=by
 unfold grp at h;rw[mem_filter,mem_range] at h;exact⟨h.1,by simpa using h.2⟩
theorem Yab {lens:List Nat}{n:Nat}:∀ (k i:Nat),k<=lens.length->i < k->lens.getD i 0=n->(grp lens k n)[(lens.take i).count n]?=some i:=by
 intro k
 induction k with
 |zero=>intro i _ hi;omega
 |succ k ih=>
  intro i hk hi hn;have hl:=Znf lens n k (by omega);unfold grp at ih hl ⊢;rw[range_succ,List.filter_append];rcases hU_ i k with h|h
  ·have:=ih i (by omega) h hn;rw[gM (gH.1 this).1];exact this
  ·have:i=k:=by omega
   subst this;rw[gT (by omega),hl,Nat.sub_self];rw[filter_cons,if_pos (by simpa using hn)];rfl
def codeN (lens:List Nat) (i:Nat):Nat:=fst_ lens (lens.getD i 0)+(lens.take i).count (lens.getD i 0)
def codeB (lens:List Nat) (i:Nat):List Bool:=bitsOf (codeN lens i) (lens.getD i 0)
theorem Zvs {lens:List Nat}{i n:Nat}(hi:i < lens.length) (hn:lens.getD i 0=n):(lens.take i).count n < lens.count n:=by
 have hg:lens[i]?=some lens[i]:=gA hi;have h1:lens=lens.take i++lens.drop i:=(hN_ i lens).symm
 have h2:lens.count n=(lens.take i).count n+(lens.drop i).count n:=by
  conv=>lhs;rw[h1,List.count_append]
 have h3:0 < (lens.drop i).count n:=by
  rw[List.count_pos_iff]
  have:(lens.drop i)[0]?=some lens[i]:=by rw[hH_,Nat.add_zero,hg]
  have:=List.mem_of_getElem? this
  have h4:lens.getD i 0=lens[i]:=by rw[gB,hg];rfl
  rw[<-hn,h4];exact this
 omega
theorem Zp4 {lens:List Nat}{i:Nat}(hi:i < lens.length) (h1:1<=lens.getD i 0):codeN lens i < nx lens (lens.getD i 0):=by
 rw[nx_eq _ _ h1,codeN];have:=Zvs hi rfl;omega
theorem valB_bitsOf (v n:Nat) (h:v < 2^n):valB (bitsOf v n)=v:=by
 have key:∀ i,i<=n->valB ((bitsOf v n).take i)=v/2^(n - i):=by
  intro i
  induction i with
  |zero=>intro _;rw[take_zero,Zva,Nat.sub_zero,Nat.div_eq_of_lt h]
  |succ i ih=>
   intro hi;rw[Zj7 v n i (by omega),Zb6,ih (by omega)];have h2:=Zoe v (n - (i+1));rw[Nat.and_one_is_mod] at h2;rw[show n - 1 - i=n - (i+1) by omega,<-h2,show n - i=(n - (i+1))+1 by omega,Nat.pow_succ,<-Nat.div_div_eq_div_mul];omega
 have:=key n (Nat.le_refl _);rw[gK (by rw[Za5];omega),Nat.sub_self] at this;simpa using this
theorem valB_inj:∀ {n:Nat}{a b:List Bool},a.length=n->b.length=n->valB a=valB b->a=b:=by
 intro n
 induction n with
 |zero=>intro a b ha hb _;rw[List.length_eq_zero_iff.1 ha,List.length_eq_zero_iff.1 hb]
 |succ n ih=>
  intro a b ha hb h
  have hane:a≠[]:=by rintro rfl;simp at ha
  have hbne:b≠[]:=by rintro rfl;simp at hb
  rw[<-List.dropLast_concat_getLast hane,<-List.dropLast_concat_getLast hbne] at h ⊢;rw[Zb6,Zb6] at h;have h1:=Bool.toNat_le (a.getLast hane);have h2:=Bool.toNat_le (b.getLast hbne);rw[ih (a:=a.dropLast) (b:=b.dropLast) (by simp[ha]) (by simp[hb]) (by omega)]
  have h3:(a.getLast hane).toNat=(b.getLast hbne).toNat:=by omega
  generalize a.getLast hane=x at *;generalize b.getLast hbne=y at *
  cases x <;> cases y <;> simp_all
theorem Zou {lens:List Nat}{l:List Bool}{i n:Nat}(hw:Whole lens) (h:getC lens l=some (i,n)):i < lens.length/\lens.getD i 0=n/\1<=n/\n<=20/\n<=l.length/\l.take n=codeB lens i:=by
 unfold getC at h;rw[Option.map_eq_some_iff] at h;obtain⟨m,hm,he⟩:=h;rw[List.find?_range_eq_some] at hm;obtain⟨h1,h2,h3⟩:=hm;rw[mem_range] at h2
 have hmiss:∀ j,j < m->hit lens l j=false:=λj hj=>by have:=h3 j hj;simpa using this
 unfold hit at h1;rw[decide_eq_true_iff] at h1;have hge:=Ztb hmiss (by omega);have hnx:=nx_eq lens (m+1) (by omega)
 have hk:valB (l.take (m+1)) - fst_ lens (m+1) < lens.count (m+1):=by omega
 have hg:=Zpf (lens:=lens) (by omega) (by omega) hk
 have hkl:valB (l.take (m+1)) - fst_ lens (m+1) < (grp lens lens.length (m+1)).length:=by rw[Zf1];exact hk
 simp only[Prod.mk.injEq] at he;obtain⟨he1,he2⟩:=he;rw[gB,hg,gA hkl,Option.getD_some] at he1;have hmem:=Zyy (he1▸getElem_mem hkl);have hat:=Yab _ i (Nat.le_refl _) hmem.1 hmem.2
 have hnd:(grp lens lens.length (m+1)).Nodup:=List.Pairwise.filter _ nodup_range
 have hplace:(lens.take i).count (m+1)=valB (l.take (m+1)) - fst_ lens (m+1):=by
  have h4:=(gH.1 hat);obtain⟨h5,h6⟩:=h4;exact (List.getElem_inj hnd).1 (h6.trans he1.symm)
 subst he2;refine⟨hmem.1,hmem.2,by omega,by omega,h1.1,?_⟩;refine valB_inj (n:=m+1) (by rw[gN];omega) (by rw[codeB,Za5,hmem.2]) ?_;rw[codeB,hmem.2,valB_bitsOf]
 ·rw[codeN,hmem.2];omega
 ·have:=Zp4 hmem.1 (by rw[hmem.2];omega);rw[hmem.2] at this;exact Nat.lt_of_lt_of_le this (nx_le hw _ (by omega))
end Go.M10
namespace Go.Mc
open Go.M01 Go.Mb Go.Mp Go.M10
structure CS where
 size:Nat
 picks:PS
 lens:DS
 codes:List (List Nat)
 count:Nat
 done:Bool
def c0 (size:Nat):CS:=⟨size,p0,d0 size,[],0,false⟩
def withPicks (c:CS):Res PS->Res (CS × Option Nat)
 |.short=>.short
 |.bad e=>.bad e
 |.ok p k=>.ok (⟨c.size,p,c.lens,c.codes,c.count,c.done⟩,none) k
def withLens (c:CS):Res DS->Res (CS × Option Nat)
 |.short=>.short
 |.bad e=>.bad e
 |.ok d k=>if d.done=true then
   if share d.lens=1048576 then .ok (⟨c.size,c.picks,d0 c.size,c.codes++[d.lens],c.count,c.done⟩,none) k else .bad 22
  else .ok (⟨c.size,c.picks,d,c.codes,c.count,c.done⟩,none) k
def withSymbol (c:CS):Option (Nat × Nat)->Res (CS × Option Nat)
 |none=>.short
 |some (s,k)=>.ok (⟨c.size,c.picks,c.lens,c.codes,c.count+1,decide (s=c.size - 1)⟩,some s) k
def CS.table (c:CS):List Nat:=c.codes.getD (c.picks.picks.getD (c.count/50) 0) []
def cstep (c:CS) (l:List Bool):Res (CS × Option Nat):=
 if c.picks.done=false then withPicks c (pstep c.picks l)
 else if c.codes.length < c.picks.t then withLens c (dstep c.lens l)
 else if c.picks.picks.length<=c.count/50 then .bad 25
 else withSymbol c (getC c.table l)
structure CS.Ok (c:CS):Prop where
 pk:c.picks.Ok
 dl:c.lens.Ok
 s1:3<=c.size
 s2:c.size<=258
 ds:c.lens.size=c.size
 dd:c.lens.done=false
 cl:c.codes.length<=c.picks.t
 cw:∀ l∈c.codes,Whole l/\l.length=c.size
 ct:c.count<=2000000
 cn:c.picks.done=false->c.codes=[]
theorem d0_nd {n:Nat}(h:3<=n):(d0 n).done=false:=by unfold DS.done;exact decide_eq_false (by show ¬ 0=n;omega)
theorem c0_ok {n:Nat}(h1:3<=n) (h2:n<=258):(c0 n).Ok:=⟨p0_ok,d0_ok n,h1,h2,rfl,d0_nd h1,hE _,λl h=>(List.not_mem_nil h).elim,by simp[c0],λ_=>rfl⟩
theorem Zjq {c:CS}(h:c.Ok) (hd:c.picks.done=true) (hc:¬ c.codes.length < c.picks.t) (hg:¬ c.picks.picks.length<=c.count/50) :
  ∃ x,c.picks.picks[c.count/50]?=some x/\x < c.codes.length/\c.codes[x]?=some c.table/\Whole c.table/\c.table.length=c.size:=by
 have hlt:c.count/50 < c.picks.picks.length:=by omega
 have hg:c.picks.picks[c.count/50]?=some c.picks.picks[c.count/50]:=gA hlt;have hx:=h.pk.pks _ (getElem_mem hlt);have hcl:=h.cl
 have hxl:c.picks.picks[c.count/50] < c.codes.length:=by omega
 have ht:c.table=c.codes[c.picks.picks[c.count/50]]:=by
  unfold CS.table;rw[gB (l:=c.picks.picks),hg,Option.getD_some,gB,gA hxl];rfl
 have hw:=h.cw _ (getElem_mem hxl);refine⟨_,hg,hxl,?_,?_⟩
 ·rw[ht];exact gA hxl
 ·rw[ht];exact hw
theorem Zdw {c c':CS}{l:List Bool}{k:Nat}{o:Option Nat}(h:cstep c l=.ok (c',o) k) (hc:c.Ok):c'.Ok/\c'.size=c.size/\(∀ s,o=some s->s < c.size):=by
 unfold cstep at h;split at h
 ·rename_i hd;unfold withPicks at h;split at h
  ·cases h
  ·cases h
  ·rename_i p k' hp;cases h;refine⟨⟨Zjl hp hc.pk hd,hc.dl,hc.s1,hc.s2,hc.ds,hc.dd,?_,hc.cw,hc.ct,λ_=>hc.cn hd⟩,rfl,λs h=>by cases h⟩;have:=hc.cn hd;simp only[this];exact hE _
 ·rename_i hd;split at h
  ·rename_i hlt;unfold withLens at h;split at h
   ·cases h
   ·cases h
   ·rename_i d' k' hdl;have hdo:=Zg3 hdl hc.dl hc.dd
    have hsz:d'.size=c.size:=by
     rw[<-hc.ds];unfold dstep turn at hdl
     repeat' split at hdl
     all_goals first
      |(cases hdl;rfl)
      |cases hdl
    split at h
    ·rename_i hdn;split at h
     ·rename_i hsh;cases h;refine⟨⟨hc.pk,d0_ok _,hc.s1,hc.s2,rfl,d0_nd hc.s1,by simp;omega,?_,hc.ct,λh=>absurd h hd⟩,rfl,λs h=>by cases h⟩;intro x hx;rcases hT_.1 hx with h|h
      ·exact hc.cw x h
      ·rw[List.mem_singleton] at h;subst h;refine⟨⟨hdo.all,hsh⟩,?_⟩;unfold DS.done at hdn;rw[decide_eq_true_iff] at hdn;rw[hdn,hsz]
     ·cases h
    ·rename_i hdn;cases h;exact⟨⟨hc.pk,hdo,hc.s1,hc.s2,hsz,by simpa using hdn,hc.cl,hc.cw,hc.ct,hc.cn⟩,rfl,λs h=>by cases h⟩
  ·rename_i hlt;split at h
   ·cases h
   ·rename_i hg;unfold withSymbol at h;split at h
    ·cases h
    ·rename_i s k' hs;cases h;obtain⟨x,h1,h2,h3,h4,h5⟩:=Zjq hc (by simpa using hd) hlt hg;have h6:=Zou h4 hs;have h7:=hc.pk.cnt;have h8:=hc.pk.len;have h9:=hc.ct;refine⟨⟨hc.pk,hc.dl,hc.s1,hc.s2,hc.ds,hc.dd,hc.cl,hc.cw,by simp only;omega,hc.cn⟩,rfl,λs' h=>by cases h;rw[<-h5];exact h6.1⟩
theorem Zgw {c:CS}{l:List Bool}{e:Nat}(h:cstep c l=.bad e):e=22\/e=25:=by
 unfold cstep at h;split at h
 ·unfold withPicks at h;split at h
  ·cases h
  ·rename_i hp;cases h;exact .inr (Zm0 hp)
  ·cases h
 ·split at h
  ·unfold withLens at h;split at h
   ·cases h
   ·rename_i hp;cases h;exact .inl (Zh1 hp)
   ·split at h
    ·split at h
     ·cases h
     ·cases h;exact .inl rfl
    ·cases h
  ·split at h
   ·cases h;exact .inr rfl
   ·unfold withSymbol at h;split at h
    ·cases h
    ·cases h
end Go.Mc
namespace Go.Mr
open Go.M18
variable {s:List UInt8}{x:SS}{k:Key}{n:Nat}
theorem Ziq (x:SS):(joinS x).reach=x.reach:=by
 unfold joinS;split
 ·rfl
 ·split <;> rfl
theorem Zr1 (k:Key) (n:Nat) (x:SS):(stepS k n x).reach=x.reach\/((stepS k n x).stack=[⟨0,0,n⟩]/\(stepS k n x).merge.hi=0/\(stepS k n x).ranked=0/\x.reach < n/\(stepS k n x).reach=max 1 (2*x.reach)):=by
 unfold stepS;rw[<-Ziq x];generalize joinS x=y;unfold restS;split
 ·exact .inl rfl
 ·split
  ·refine .inl ?_;unfold putS moveS;split
   ·split <;> rfl
   ·split <;> rfl
  ·rename_i h2;split
   ·refine .inl ?_;unfold beginS;split
    ·rfl
    ·split <;> rfl
   ·rename_i h3;have hs:y.stack=[]:=Classical.byContradiction h3;unfold rankS;split
    ·unfold passS;split
     ·exact .inl rfl
     ·rename_i h4;refine .inr ⟨?_,?_,rfl,?_,rfl⟩
      ·show _::y.stack=_;rw[hs]
      ·show y.merge.hi=0;omega
      ·rcases hU_ y.reach n with g|g
       ·exact g
       ·exact absurd (.inr g) h4
    ·exact .inl rfl
def ldS (n:Nat) (x:SS):Nat:=costs x.stack+mCost x+(n - x.ranked)
theorem Zkg (h:Inv s x) (hl:ldS s.length x<=4*(s.length*s.length)+s.length) (hr:x.reach<=2*s.length) (hd:(stepS (keyS s x) s.length x).done=false) :
  ldS s.length (stepS (keyS s x) s.length x)<=4*(s.length*s.length)+s.length/\(stepS (keyS s x) s.length x).reach<=2*s.length:=by
 have h1:=(step_ok h).1;have h2:=h.bs.two;rw[mu_eq h.bs.nd,mu_eq hd] at h1;rcases Zr1 (keyS s x) s.length x with e|⟨e1,e2,e3,e4,e5⟩
 ·rw[e] at h1 ⊢;unfold ldS at *;exact⟨by omega,hr⟩
 ·refine⟨?_,by rw[e5];omega⟩;unfold ldS;rw[Zb5 e2,e1,e3]
  have:costs [⟨0,0,s.length⟩]=4*(s.length*s.length):=by
   show cost ⟨0,0,s.length⟩+0=_;unfold cost;rw[if_pos rfl];rfl
  omega
theorem Zsh:∀ {st:List Pt}{R:List Nat},WF k n st R->∀ p∈st,p.lo < p.hi/\p.hi<=n
 |[],_,_,p,hp=>by cases hp
 |q::st,R,h,p,hp=>by
  rcases mem_cons.1 hp with rfl|hp
  ·exact h.1
  ·exact Zsh h.2.2 p hp
theorem Zku:∀ {st:List Pt},(∀ p∈st,p.lo < p.hi/\p.hi<=n)->st.length<=costs st
 |[],_=>Nat.le_refl _
 |p::st,h=>by
  have h1:=h p (hJ_ ..);have h2:=Zku (st:=st) λq hq=>h q (hK_ _ hq)
  have h3:1<=cost p:=by
   unfold cost;split
   ·have:1<=(p.hi - p.lo)*(p.hi - p.lo):=Nat.mul_pos (by omega) (by omega);omega
   ·omega
  show st.length+1<=cost p+costs st;omega
theorem Zo9 (h:PhC k n x):∀ p∈x.stack,p.lo < p.hi/\p.hi<=n:=by
 rcases h with h|⟨R,h⟩
 ·exact Zsh h.wf
 ·exact λp hp=>Zsh h.wf p (hK_ _ hp)
theorem Zty (h:PhC k n x) (hl:ldS n x<=4*(n*n)+n) (hn:n<=4000):x.stack.length<=64004000:=by
 have h1:=Zku (Zo9 h);have h2:n*n<=4000*4000:=Nat.mul_le_mul hn hn;unfold ldS at hl;omega
theorem Zr4:ldS n (start n)=4*(n*n)+n:=by
 show cost ⟨0,0,n⟩+0+0+(n - 0)=_;unfold cost;rw[if_pos rfl];show 4*((n - 0)*(n - 0))+0+0+(n - 0)=_;rw[Nat.sub_zero];rfl
end Go.Mr
namespace Go.Mz
structure ZS where
 n:Nat
 most:Nat
 told:Nat
 zeros:Nat
 weight:Nat
 done:Bool
def z0 (n most:Nat):ZS:=⟨n,most,0,0,1,false⟩
def zput (z:ZS) (c:Nat):Option (ZS × Nat × Int):=
 if c<=1 then
  if z.most < z.told+z.zeros+z.weight*2^c then none
  else some (⟨z.n,z.most,z.told,z.zeros+z.weight*2^c,z.weight*2,false⟩,0,-1)
 else if c=z.n+1 then some (⟨z.n,z.most,z.told+z.zeros,0,1,true⟩,z.zeros,-1)
 else if z.told+z.zeros=z.most then none
 else some (⟨z.n,z.most,z.told+1+z.zeros,0,1,false⟩,z.zeros,(c:Int) - 1)
structure ZS.Ok (z:ZS):Prop where
 n1:1<=z.n
 n2:z.n<=256
 most:z.most<=900000
 sum:z.told+z.zeros<=z.most
 w1:1<=z.weight
 w2:z.weight<=z.zeros+1
theorem z0_ok {n m:Nat}(h1:1<=n) (h2:n<=256) (h3:m<=900000):(z0 n m).Ok:=⟨h1,h2,h3,hE _,Nat.le_refl _,by simp[z0]⟩
theorem Zrx {z z':ZS}{c d:Nat}{p:Int}(hz:z.Ok) (h:zput z c=some (z',d,p)):z'.Ok:=by
 obtain⟨h1,h2,h3,h4,h5,h6⟩:=hz;unfold zput at h;split at h
 ·split at h
  ·cases h
  ·cases h;rename_i hc _
   have:c=0\/c=1:=by omega
   rcases this with rfl|rfl
   ·exact⟨h1,h2,h3,by simp only at *;omega,by simp only at *;omega,by simp only at *;omega⟩
   ·exact⟨h1,h2,h3,by simp only at *;omega,by simp only at *;omega,by simp only at *;omega⟩
 ·split at h
  ·cases h;exact⟨h1,h2,h3,by simp only at *;omega,by simp only at *;omega,by simp only at *;omega⟩
  ·split at h
   ·cases h
   ·cases h;exact⟨h1,h2,h3,by simp only at *;omega,by simp only at *;omega,by simp only at *;omega⟩
def frontB (o:List UInt8) (i:Nat):List UInt8:=o.getD i 0::(o.take i++o.drop (i+1))
theorem Zfb {o:List UInt8}{i:Nat}(h:i < o.length):(frontB o i).length=o.length:=by
 simp only[frontB,length_cons,gD,gN,gS];omega
def listed (T:Nat->Bool):List UInt8:=((List.range 256).filter T).map UInt8.ofNat
theorem Zc3 (T:Nat->Bool):(listed T).length<=256:=by
 rw[listed,hS_];exact Nat.le_trans (List.length_filter_le _ _) (by simp)
theorem Zrs (T:Nat->Bool):(listed T).Pairwise λa b=>a.toNat < b.toNat:=by
 unfold listed;rw[List.pairwise_map];refine List.Pairwise.imp_of_mem (R:=λa b=>a < b) (λ{a b} ha hb h=>?_) (List.Pairwise.filter _ List.pairwise_lt_range);have h1:=mem_range.1 (mem_filter.1 ha).1;have h2:=mem_range.1 (mem_filter.1 hb).1;rw[UInt8.toNat_ofNat_of_lt' (by simpa using h1),UInt8.toNat_ofNat_of_lt' (by simpa using h2)];exact h
theorem Zm9 (T:Nat->Bool) (i:Nat) (h:i+1 < (listed T).length):((listed T).getD i 0).toNat < ((listed T).getD (i+1) 0).toNat:=by
 have:=pairwise_iff_getElem.1 (Zrs T) i (i+1) (by omega) h (by omega);rw[gB,gB,gA (by omega),gA h];exact this
open Go.M01 Go.Mb Go.Mp
def marksL (q:List Bool):List Nat:=(List.range 16).filter λi=>q.getD i false
def usedT:List Nat->List Bool->Nat->Bool
 |[],_,_=>false
 |i::ms,l,b=>(decide (b/16=i)&&l.getD (b%16) false)||usedT ms (l.drop 16) b
def uread (l:List Bool):Res (Nat->Bool):=
 if l.length < 16 then .short
 else if l.length < 16+16*(marksL (l.take 16)).length then .short
 else if listed (usedT (marksL (l.take 16)) (l.drop 16))=[] then .bad 25
 else .ok (usedT (marksL (l.take 16)) (l.drop 16)) (16+16*(marksL (l.take 16)).length)
theorem Zlk {q:List Bool}{i:Nat}(h:i∈marksL q):i < 16:=mem_range.1 (mem_filter.1 h).1
theorem Zfl (q:List Bool):(marksL q).length<=16:=Nat.le_trans (List.length_filter_le _ _) (by simp)
theorem Zqa {q:List Bool}{i:Nat}:i∈marksL q↔i < 16/\q.getD i false=true:=by
 unfold marksL;rw[mem_filter,mem_range]
theorem Zi2 (i b:Nat):∀ (ms:List Nat) (l:List Bool),usedT (ms++[i]) l b=(usedT ms l b||(decide (b/16=i)&&(l.drop (16*ms.length)).getD (b%16) false))
 |[],l=>by simp[usedT]
 |j::ms,l=>by
  rw[List.cons_append,usedT,Zi2 i b ms,usedT,drop_drop,length_cons,show 16+16*ms.length=16*(ms.length+1) by omega,Bool.or_assoc]
theorem Zsz {l:List Bool}{c:Nat}(h:uread l=.bad c):c=25:=by
 unfold uread at h;split at h
 ·cases h
 ·split at h
  ·cases h
  ·split at h
   ·cases h;rfl
   ·cases h
def boolsT (T:Nat->Bool):List Bool:=(List.range 256).map T
theorem Zbi (T:Nat->Bool):(boolsT T).length=256:=by simp[boolsT]
theorem Zif (T:Nat->Bool) (x:Nat):(boolsT T).set x true=boolsT λb=>T b||decide (b=x):=by
 apply List.ext_getElem
 ·simp[boolsT]
 intro i h1 h2;rw[List.getElem_set];simp only[boolsT,List.getElem_map,List.getElem_range]
 by_cases h:x=i
 ·subst h;simp
 ·rw[if_neg h,decide_eq_false (λe=>h e.symm),Bool.or_false]
theorem Zqr (T:Nat->Bool){i:Nat}(h:i < 256):(boolsT T)[i]?=some (T i):=by rw[boolsT,hV_,List.getElem?_range h];rfl
theorem Zfu:boolsT (λ_=>false)=List.replicate 256 false:=by rw[boolsT,List.map_const',hW_]
end Go.Mz
namespace Go.Proofs.YtpmjeiliblgajaaGreatDoor
open Go Go.Vc Go.Proofs.Tryz
attribute [local irreducible] Vc.Nc Vc.Ld Vc.LdA Vc.St Vc.StA Vc.Fo Vc.Iaa Vc.Ias Vc.Ixs Vc.Ixa Vc.Fd Vc.FdA Vc.Bp Vc.Bb Vc.Bn Vc.Up Vc.Ci Vc.Lns Vc.Lnl Vc.Ex Vc.Sst Vc.Ssl Vc.New Vc.Vif Vc.VJoin Vc.VLoop Vc.KE Vc.Dr Vc.Rk Vc.Cl Vc.Cx Vc.Inv Vc.Be Vc.Cv Vc.Cw Vc.Mf Vc.Sl Vc.Lk Vc.Bd Vc.Bs Vc.Ms Vc.Mm Vc.Mu Vc.Me Vc.Es Vc.Rg Vc.Nx Vc.Ta Vc.Ap Vc.Usd Vc.Ust Vc.Cp Vc.Ln Vc.Bc Vc.Bmin Vc.Bmax Vc.Bdel Vc.Bclr Vc.Pk
instance rowI:Row prog 67 3 (.int .i64 0):=⟨by kernel_rfl,⟨t3,by kernel_rfl,by kernel_rfl,by decide,by kernel_rfl⟩,rfl⟩
instance rowB:Row prog 86 5 (.int .u8 0):=⟨by kernel_rfl,⟨t5,by kernel_rfl,by kernel_rfl,by decide,by kernel_rfl⟩,rfl⟩
instance bytesB:Bytes prog 86 5 9:=⟨by kernel_rfl,by kernel_rfl,by kernel_rfl⟩
abbrev tI:Nat:=3
abbrev tB:Nat:=5
abbrev pt (b:Nat):Value:=.pointer (some ⟨b,0,none⟩)
section
variable {w:World}{L:List HProp}{K:KT}
theorem sg_nv (n:Nat):sg (nv n)=true:=rfl
theorem Zsd (oa:Option Addr) (l c:Nat){K:Value->Prop}(k:K (.bool oa.isNone)):Be prog .eql 67 (.tmp 3) (.const (.slice none 0 0)) (.slice oa l c) (.slice none 0 0) w K:=by
 cases oa with
 |none=>exact r_be (v:=.bool true) (by kernel_rfl) k
 |some a=>exact r_be (v:=.bool false) (by kernel_rfl) k
theorem Zbf (H:Holds w L) (j:Nat){v:Value}{xs:List Nat}(hj:L[j]?=some (SL nv tI v xs)) (hn:xs.length<=1000000000) (k:∀ v' w',Same w w'->Holds w' (SL nv tI v' xs::L)->K v' w'):Cl prog 118 #[v] w K:=by
 refine Tz118 ?_;unfold Vz118;have H0:=H;obtain⟨oa,sp,rfl,H1⟩:=H0.open j hj;refine Zsd _ _ _ ?_
 cases oa with
 |none=>
  obtain⟨g,⟨h2,_⟩,_⟩:=H1.front j (Za2 hj);subst h2;exact r_vt (k _ _ (.refl _) (H.nilSL nv tI))
 |some a=>
  refine r_vf ?_;refine r_bsK (e:=tI) [] H (by kernel_rfl) λb w1 S1 H1=>?_;have H2:=Zeo (f:=nv) 0 [] H1 rfl;rw[gJ] at H2;refine r_apS (xs:=[]) H2 0 (j+1) (by omega) rfl (by rw[gF];exact hj) sg_nv (by simp only[length_nil];omega) λv' w2 S2 H3=>?_;rw[gJ,hO_] at H3;exact k _ _ (S1.trans S2) H3
end
namespace Rb
open Go.M01 Go.Mb
variable {w:World}{L:List HProp}{K:KT}{b:Nat}{B:List UInt8}{d at_ n:Nat}
abbrev tR:Nat:=119
abbrev S_ (s:List UInt8):Value:=.string ⟨s.toArray⟩
def RdR (b:Nat) (B:List UInt8) (d at_:Nat):HProp:=λh=>(8*d<=at_/\at_<=8*B.length/\B.length<=1000000000)/\blk b tR [S_ (B.drop d),nv d,nv at_] h
theorem Zaf (H:Holds w (RdR b B d at_::L)):(8*d<=at_/\at_<=8*B.length/\B.length<=1000000000)/\Holds w (blk b tR [S_ (B.drop d),nv d,nv at_]::L):=Holds.pure H
theorem Zau (h:8*d<=at_/\at_<=8*B.length/\B.length<=1000000000) (H:Holds w (blk b tR [S_ (B.drop d),nv d,nv at_]::L)):Holds w (RdR b B d at_::L):=Holds.imp H λ_ hh=>⟨h,hh⟩
theorem NewReader_spec (H:Holds w L) (hB:B.length<=1000000000) (k:∀ b w',Same w w'->Holds w' (RdR b B 0 0::L)->K (.pointer (some ⟨b,0,none⟩)) w'):Cl prog 43 #[S_ B] w K:=by
 refine Tz43 ?_;unfold Vz43;refine r_bd (v:=.agg #[S_ B,nv 0,nv 0]) (by kernel_rfl) ?_;refine r_new H λb w1 S1 H1=>?_;exact k b _ S1 (Zau ⟨by omega,by omega,hB⟩ (by rw[drop_zero];exact H1))
theorem At_spec (H:Holds w (RdR b B d at_::L)) (k:K (nv at_) w):Cl prog 288 #[.pointer (some ⟨b,0,none⟩)] w K:=by
 refine Tz288 ?_;unfold Vz288;obtain⟨hf,H⟩:=Zaf H
 repeat (first|refine r_nc ?_|refine r_fo0 ?_|(with_reducible first|refine Za6 ?_|refine r_vf ?_)|refine r_ld 0 H rfl rfl ?_)
 exact k
theorem end_spec (H:Holds w (RdR b B d at_::L)) (k:∀ w',Same w w'->Holds w' (RdR b B d at_::L)->K (nv (8*B.length)) w'):Cl prog 256 #[.pointer (some ⟨b,0,none⟩)] w K:=by
 refine Tz256 ?_;unfold Vz256;obtain⟨hf,H⟩:=Zaf H;have S:=Same.refl w
 have hs:(⟨(B.drop d).toArray⟩:ByteArray).size=B.length - d:=by show (B.drop d).toArray.size=_;simp
 repeat (first|refine Zb8 (8*B.length) (by omega) (by omega) (by omega) ?_|refine r_nc ?_|refine r_fo0 ?_|refine r_lns ?_|(refine Za9 (by omega) ?_)|(refine r_dr H ?_;clear H;intro _ S_ H;replace S:=S.trans S_;clear S_)|refine r_ld 0 H rfl rfl ?_)
 exact k _ S (Zau hf H)
theorem Zez (H:Holds w (RdR b B d at_::L)) (k:∀ w',Same w w'->Holds w' (RdR b B d at_::L)->K (nv (rest B at_).length) w'):Cl prog 246 #[.pointer (some ⟨b,0,none⟩)] w K:=by
 refine Tz246 ?_;unfold Vz246;have S:=Same.refl w
 repeat (first|(with_reducible first|refine Za6 ?_|refine r_vf ?_)|(refine r_dr H ?_;clear H;intro _ S_ H;replace S:=S.trans S_;clear S_))
 rename_i w1;have H0:=H;refine end_spec H λw2 S2 H2=>?_;replace S:=S.trans S2;clear H;have H:=H2;clear H2;obtain⟨hf,H⟩:=Zaf H;obtain⟨_,H0⟩:=Zaf H0
 repeat (first|refine r_rk (r_ld 0 H0 rfl rfl rfl) ?_|refine r_nc ?_|refine r_fo0 ?_|(refine r_sub (by omega) (by omega) ?_)|refine r_ld 0 H rfl rfl ?_)
 rw[show ((8*B.length:Nat):Int) - (at_:Int)=((rest B at_).length:Int) by rw[Zba];omega];exact k _ S (Zau hf H)
theorem bit_spec (H:Holds w (RdR b B d at_::L)) (h:at_ < 8*B.length) (k:∀ w',Same w w'->Holds w' (RdR b B d at_::L)->K (uv ((rest B at_).getD 0 false).toNat) w'):Cl prog 274 #[.pointer (some ⟨b,0,none⟩),nv at_] w K:=by
 refine Tz274 ?_;unfold Vz274;obtain⟨hf,H⟩:=Zaf H;have S:=Same.refl w
 have hs:(⟨(B.drop d).toArray⟩:ByteArray).size=B.length - d:=by show (B.drop d).toArray.size=_;simp
 have hq:((at_:Nat):Int).tdiv 8=((at_/8:Nat):Int):=by rw[Int.tdiv_eq_ediv_of_nonneg (by omega)];simp
 have hr:((at_:Nat):Int).tmod 8=((at_%8:Nat):Int):=by rw[Int.tmod_eq_emod_of_nonneg (by omega)];simp
 repeat (first|refine Zik hq (by omega) (by omega) (by omega) ?_|refine r_nc ?_|refine r_fo0 ?_|(refine r_sub (by omega) (by omega) ?_)|(refine r_dr H ?_;clear H;intro _ S_ H;replace S:=S.trans S_;clear S_)|refine r_ld 0 H rfl rfl ?_)
 rw[show ((at_/8:Nat):Int) - (d:Int)=((at_/8 - d:Nat):Int) by omega]
 repeat (first|refine Zgv hr (by omega) ?_|(refine Zcb (by omega) ?_)|(refine r_sub (by omega) (by omega) ?_))
 rw[show (7:Int) - ((at_%8:Nat):Int)=((7 - at_%8:Nat):Int) by omega];refine Ze1 (show 7 - at_%8<=8 by omega) ?_;refine Zyj (t:=1) (Nat.lt_of_le_of_lt (Nat.div_le_self _ _) (UInt8.toNat_lt _)) (by omega) ?_;rw[Zyu]
 have e:((⟨(B.drop d).toArray⟩:ByteArray).data.toList.getD (at_/8 - d) 0).toNat.testBit (7 - at_%8)=(rest B at_).getD 0 false:=by
  have:=Zw8 B at_ 0 (by omega);rw[gB (l:=rest B at_),this];simp only[Nat.add_zero,Option.getD_some,List.toList_toArray]
  congr 2
  rw[gB,gB,hH_,show d+(at_/8 - d)=at_/8 by omega]
 rw[e];have hb:=Bool.toNat_le ((rest B at_).getD 0 false)
 repeat (refine Zb4 (by omega) (by omega) ?_)
 exact k _ S (Zau hf H)
theorem Get_spec (H:Holds w (RdR b B d at_::L)) (hn:n<=32)
  (ks:(rest B at_).length < n->∀ w',Same w w'->Holds w' (RdR b B d at_::L)->K (.tuple #[uv 0,iv 3]) w')
  (k:n<=(rest B at_).length->∀ w',Same w w'->Holds w' (RdR b B d (at_+n)::L)->K (.tuple #[uv (valB ((rest B at_).take n)),iv 0]) w'):Cl prog 268 #[.pointer (some ⟨b,0,none⟩),nv n] w K:=by
 refine Tz268 ?_;unfold Vz268;have S:=Same.refl w;have hf:=(Zaf H).1
 repeat (first|(with_reducible first|refine Za6 ?_|refine r_vf ?_))
 refine Za1 (λx w'=>w=w'/\x=.bool false) ?_ ?_
 ·rintro _ _ _ ⟨rfl,rfl⟩
  repeat (with_reducible refine r_vf ?_)
  refine Zez H λw2 S2 H2=>?_;replace S:=S.trans S2;clear H;have H:=H2;clear H2
  repeat (refine r_lss ?_)
  refine r_ifD (λh=>?_) λh=>?_
  ·exact ks (by omega) _ S H
  have hlen:=Zba B at_;refine Zaa (λv x w'=>∃ i:Nat,i<=n/\x=nv i/\v=uv (valB ((rest B at_).take i))/\Same w w'/\Holds w' (RdR b B d (at_+i)::L)) (λ_ x _=>n - (intOf x).toNat) ⟨0,by omega,rfl,rfl,S,H⟩ ?_;clear H S;rintro _ _ _ w3 ⟨i,hi,rfl,rfl,S,H⟩
  repeat (refine r_lss ?_)
  refine r_ifD (λhi2=>?_) λhi2=>?_
  ·have hlt:i < n:=by omega
   have hv:=Zae (rest B at_) i;have hp:(2:Nat)^i<=2^31:=Nat.pow_le_pow_right (by omega) (by omega)
   have hget:(rest B at_)[i]?=some ((rest B (at_+i)).getD 0 false):=by
    rw[<-Zc5,gB,hH_,Nat.add_zero];rw[gA (show i < (rest B at_).length by omega)];rfl
   have hv2:=Zan hget;refine Zcd (n:=1) (by omega) ?_;have H0:=H;obtain⟨_,H0⟩:=Zaf H0;refine r_nc (r_fo0 (r_ld 0 H0 rfl rfl ?_));clear H0
   (refine bit_spec H (by omega) λw2 S2 H2=>?_;replace S:=S.trans S2;clear H S2;have H:=H2;clear H2)
   generalize (rest B (at_+i)).getD 0 false=c at *;have hc:=Bool.toNat_le c;refine Zo1 (by omega) (by omega) ?_
   have ev:valB ((rest B at_).take i)*2^1%4294967296 ||| c.toNat=valB ((rest B at_).take (i+1)):=by
    rw[hv2,Zb6,Nat.mod_eq_of_lt (by omega),Nat.mul_comm];rw[<-Nat.two_pow_add_eq_or_of_lt (i:=1) (by omega)]
   rw[ev];obtain⟨hf2,H⟩:=Zaf H
   repeat (first|refine r_nc ?_|refine r_fo0 ?_|(refine Za0 (by omega) ?_)|refine r_ld 0 H rfl rfl ?_)
   refine r_st 0 H rfl (by simp) rfl λw4 S4 H4=>?_;replace H4:Holds w4 (blk b tR [S_ (B.drop d),nv d,nv (at_+i+1)]::L):=H4;replace S:=S.trans S4;clear H
   repeat (first|refine r_ke ?_|(refine Za0 (by omega) ?_))
   refine⟨⟨i+1,by omega,rfl,rfl,S,Zau ⟨by omega,by omega,hf.2.2⟩ H4⟩,?_⟩;simp[nv,intOf];omega
  ·obtain rfl:i=n:=by omega
   exact k (by omega) _ S H
 ·repeat (first|refine r_ke ?_|refine r_lss ?_|refine r_gtr ?_|((with_reducible refine r_vfD ?h ?_);(case h=>omega)))
  rw[decide_eq_false (by omega)]
  repeat (fail)
  exact⟨rfl,rfl⟩
theorem Zhc {p:Nat}(H:Holds w (RdR b B d at_::L)) (h1:8*d<=p) (h2:p<=8*B.length) (k:∀ w',Same w w'->Holds w' (RdR b B d p::L)->K (iv 0) w'):Cl prog 290 #[.pointer (some ⟨b,0,none⟩),nv p] w K:=by
 refine Tz290 ?_;unfold Vz290;have S:=Same.refl w;have hf:=(Zaf H).1
 repeat (first|(with_reducible first|refine Za6 ?_|refine r_vf ?_))
 refine Za1 (λx w'=>x=.bool false/\Same w w'/\Holds w' (RdR b B d at_::L)) ?_ ?_
 ·rintro _ _ w1 ⟨rfl,S,H⟩;obtain⟨_,H⟩:=Zaf H
  repeat (first|refine r_nc ?_|refine r_fo0 ?_|(with_reducible refine r_vf ?_))
  refine r_st 0 H rfl (by simp) rfl λw4 S4 H4=>?_;replace H4:Holds w4 (blk b tR [S_ (B.drop d),nv d,nv p]::L):=H4;exact k _ (S.trans S4) (Zau ⟨h1,h2,hf.2.2⟩ H4)
 ·have H0:=H;obtain⟨_,H0⟩:=Zaf H0
  repeat (first|refine r_ld 0 H0 rfl rfl ?_|refine Zb8 (8*d) (by omega) (by omega) (by omega) ?_|refine r_nc ?_|refine r_fo0 ?_|refine r_lss ?_|((with_reducible refine r_vfD ?h ?_);(case h=>omega)))
  refine end_spec H λw2 S2 H2=>?_
  repeat (first|refine r_ke ?_|refine r_gtr ?_)
  refine⟨by rw[decide_eq_false (by omega)],S.trans S2,H2⟩
theorem Zdp (B:List UInt8) (a i:Nat):(rest B (a+i))[0]?=(rest B a)[i]?:=by rw[<-Zc5,hH_,Nat.add_zero]
theorem Zdn (H:Holds w (RdR b B d at_::L))
  (ks:(rest B at_)[0]?=none->∀ w',Same w w'->Holds w' (RdR b B d at_::L)->K (.tuple #[uv 0,iv 3]) w')
  (k:∀ c,(rest B at_)[0]?=some c->∀ w',Same w w'->Holds w' (RdR b B d (at_+1)::L)->K (.tuple #[uv c.toNat,iv 0]) w'):Cl prog 268 #[.pointer (some ⟨b,0,none⟩),iv 1] w K:=by
 refine Get_spec (n:=1) H (by omega) (λh w' S' H'=>ks (getElem?_eq_none (by omega)) w' S' H') λh w' S' H'=>?_;have hg:(rest B at_)[0]?=some (rest B at_)[0]:=gA (by omega);have:=k _ hg w' S' H';rw[Zan hg,take_zero,hO_,Zjr];exact this
end Rb
def After {σ:Type}(x:Mp.Res σ) (rep:σ->HProp) (same:HProp) (r:Nat) (B:List UInt8) (d at_:Nat) (L:List HProp) (e:Int) (w:World):Prop:=
 match x with
 |.short=>e=3/\Holds w (same::Rb.RdR r B d at_::L)
 |.bad c=>e=(c:Int)/\∃ p,Holds w (Rb.RdR r B d p::L)
 |.ok s n=>e=0/\Holds w (rep s::Rb.RdR r B d (at_+n)::L)
def AfterS {σ:Type}(x:Mp.Res σ) (rep:σ->HProp) (same:HProp) (r:Nat) (B:List UInt8) (d at_:Nat) (L:List HProp) (e:Int) (w:World):Prop:=
 match x with
 |.short=>e=3/\∃ q,Holds w (same::Rb.RdR r B d q::L)
 |.bad c=>e=(c:Int)/\∃ p,Holds w (Rb.RdR r B d p::L)
 |.ok s n=>e=0/\Holds w (rep s::Rb.RdR r B d (at_+n)::L)
namespace P13
open Go.M01 Go.Mb Go.Mp Rb
variable {w:World}{L:List HProp}{K:KT}{b r:Nat}{B:List UInt8}{d at_ n:Nat}{p:PS}
abbrev tO:Nat:=261
abbrev tP:Nat:=345
def pkC (t c:Nat) (o:List Nat) (pv:Value):List Value:=[nv t,nv c]++(o.map nv++[pv,.bool false])
section
variable {t c:Nat}{o:List Nat}{pv:Value}(ho:o.length=6)
include ho
theorem c8:(pkC t c o pv)[8]?=some pv:=by simp[pkC,ho]
theorem c9:(pkC t c o pv)[9]?=some (.bool false):=by simp[pkC,ho]
theorem clen:(pkC t c o pv).length=10:=by simp[pkC,ho]
theorem s8 (v:Value):(pkC t c o pv).set 8 v=pkC t c o v:=by simp[pkC,ho,List.set_append]
end
theorem c0 {t c:Nat}{o:List Nat}{pv:Value}:(pkC t c o pv)[0]?=some (nv t):=rfl
theorem c1 {t c:Nat}{o:List Nat}{pv:Value}:(pkC t c o pv)[1]?=some (nv c):=rfl
def PkR (b:Nat) (p:PS):HProp:=λh=>p.Ok/\∃ pv,Sat [blk b tP (pkC p.t p.count p.order pv),SL nv tI pv p.picks] h
theorem Zby (H:Holds w (PkR b p::L)):p.Ok/\∃ pv,Holds w (blk b tP (pkC p.t p.count p.order pv)::SL nv tI pv p.picks::L):=by
 obtain⟨h,H⟩:=Holds.pure H;obtain⟨pv,H⟩:=Holds.ex H;exact⟨h,pv,Holds.unpack H⟩
theorem Zdd {pv:Value}(h:p.Ok) (H:Holds w (blk b tP (pkC p.t p.count p.order pv)::SL nv tI pv p.picks::L)):Holds w (PkR b p::L):=
 Holds.imp (Holds.pack (A:=[_,_]) H) λ_ hh=>⟨h,pv,hh⟩
def PkW (b:Nat) (p:PS):HProp:=λh=>p.Ok/\∃ pv,Sat [blk b tP ((pkC p.t p.count p.order pv).set 9 (.bool true)),SL nv tI pv p.picks] h
theorem Zeb {pv:Value}(h:p.Ok) (H:Holds w (blk b tP ((pkC p.t p.count p.order pv).set 9 (.bool true))::SL nv tI pv p.picks::L)):Holds w (PkW b p::L):=
 Holds.imp (Holds.pack (A:=[_,_]) H) λ_ hh=>⟨h,pv,hh⟩
theorem Zwv (H:Holds w (PkW b p::L)):p.Ok/\∃ pv,Holds w (blk b tP ((pkC p.t p.count p.order pv).set 9 (.bool true))::SL nv tI pv p.picks::L):=by
 obtain⟨h,H⟩:=Holds.pure H;obtain⟨pv,H⟩:=Holds.ex H;exact⟨h,pv,Holds.unpack H⟩
def AfterP (x:Res PS) (b:Nat) (p:PS) (r:Nat) (B:List UInt8) (d at_:Nat) (L:List HProp) (e:Int) (w:World):Prop:=
 match x with
 |.short=>e=3/\Holds w (PkR b p::RdR r B d at_::L)
 |.bad c=>e=(c:Int)/\∃ q,Holds w (PkW b p::RdR r B d q::L)
 |.ok s n=>e=0/\Holds w (PkR b s::RdR r B d (at_+n)::L)
def AfterPS (x:Res PS) (b:Nat) (p:PS) (r:Nat) (B:List UInt8) (d at_:Nat) (L:List HProp) (e:Int) (w:World):Prop:=
 match x with
 |.short=>e=3/\∃ q,Holds w (PkR b p::RdR r B d q::L)
 |.bad c=>e=(c:Int)/\∃ q,Holds w (PkW b p::RdR r B d q::L)
 |.ok s n=>e=0/\Holds w (PkR b s::RdR r B d (at_+n)::L)
theorem Ziv (H:Holds w L) (k:∀ w',Same w w'->Holds w' L->K (.agg #[nv 0,nv 1,nv 2,nv 3,nv 4,nv 5]) w'):Cl prog 186 #[] w K:=by
 refine Tz186 ?_;unfold Vz186;have S:=Same.refl w
 have hz:(zeroP prog tO).cells.toList=[nv 0,nv 0,nv 0,nv 0,nv 0,nv 0]:=by kernel_rfl
 refine r_new H λb1 w1 S1 H1=>?_;rw[hz] at H1;refine r_new H1 λb2 w2 S2 H2=>?_;rw[hz] at H2;replace S:=(S.trans S1).trans S2;clear H H1;refine Za7 (λx w'=>∃ i:Nat,i<=6/\x=nv i/\Same w w'/\Holds w' (blk b2 tO ([]++((filled [0,1,2,3,4,5] 0 6 i).map nv++[]))::blk b1 tO [nv 0,nv 0,nv 0,nv 0,nv 0,nv 0]::L)) (λx _=>6 - (intOf x).toNat) ⟨0,by omega,rfl,S,H2⟩ ?_;clear S H2;rintro _ _ w3 ⟨i,hi,rfl,S,H⟩
 repeat (refine r_lss ?_)
 refine r_ifD (λh=>?_) λh=>?_
 ·have hlt:i < 6:=by omega
  have hl:(filled [0,1,2,3,4,5] 0 6 i).length=6:=Zb0 (by omega) rfl
  repeat (refine Zak (by omega) ?_)
  refine r_st 0 H rfl (by simp[hl];omega) rfl λw4 S4 H4=>?_;have e:=Zhf (f:=nv) (xs:=filled [0,1,2,3,4,5] 0 6 i) (post:=[]) (j:=i) [] i (by omega)
  rw[Zb2 hlt rfl (show[0,1,2,3,4,5][i]?=some i by
   have h6:i=0\/i=1\/i=2\/i=3\/i=4\/i=5:=by omega
   rcases h6 with rfl|rfl|rfl|rfl|rfl|rfl <;> rfl)] at e
  rw[length_nil] at e;rw[gJ,e] at H4
  repeat (first|refine r_ke ?_|(refine Za0 (by omega) ?_))
  refine⟨⟨i+1,by omega,rfl,S.trans S4,H4⟩,?_⟩;simp[nv,intOf];omega
 ·obtain rfl:i=6:=by omega
  replace H:Holds w3 (blk b2 tO [nv 0,nv 1,nv 2,nv 3,nv 4,nv 5]::blk b1 tO [nv 0,nv 0,nv 0,nv 0,nv 0,nv 0]::L):=H;refine r_ldA 0 H [nv 0,nv 1,nv 2,nv 3,nv 4,nv 5] rfl rfl rfl ?_;refine r_stA 1 H (vs:=[nv 0,nv 1,nv 2,nv 3,nv 4,nv 5]) rfl (by simp) rfl rfl λw4 S4 H4=>?_;replace H4:Holds w4 (blk b2 tO [nv 0,nv 1,nv 2,nv 3,nv 4,nv 5]::blk b1 tO [nv 0,nv 1,nv 2,nv 3,nv 4,nv 5]::L):=H4;refine r_ldA 1 H4 [nv 0,nv 1,nv 2,nv 3,nv 4,nv 5] rfl rfl rfl ?_;exact k _ (S.trans S4) H4.drop.drop
theorem NewReader_spec (H:Holds w L) (k:∀ b w',Same w w'->Holds w' (PkR b p0::L)->K (pt b) w'):Cl prog 301 #[] w K:=by
 refine Tz301 ?_;unfold Vz301;refine Ziv H λw1 S1 H1=>?_;refine r_bd (v:=.agg #[nv 0,nv 0,nv 0,nv 1,nv 2,nv 3,nv 4,nv 5,.slice none 0 0,.bool false]) (by kernel_rfl) ?_;refine r_new H1 λb w2 S2 H2=>?_;refine k b _ (S1.trans S2) (Zdd (pv:=.slice none 0 0) p0_ok ?_);exact ((H2.nilSL nv tI).swap)
theorem Done_spec (H:Holds w (PkR b p::L)) (k:∀ w',Same w w'->Holds w' (PkR b p::L)->K (.bool p.done) w'):Cl prog 294 #[pt b] w K:=by
 refine Tz294 ?_;unfold Vz294;obtain⟨hp,pv,H⟩:=Zby H;obtain⟨oa,sp,rfl,H⟩:=H.open 1 rfl;have S:=Same.refl w;have ho:=hp.ord;rw[gW,gJ] at H
 repeat (first|((with_reducible apply r_ld 0 H);(exact rfl);(with_reducible exact (c1)))|refine r_nc ?_|refine r_fo0 ?_|refine r_gtr ?_|(with_reducible first|refine Zao ?_|refine r_vt ?_)|(refine r_dr H ?_;clear H;intro _ S_ H;replace S:=S.trans S_;clear S_))
 have fin:∀ w',Holds w' (blk b tP (pkC p.t p.count p.order (.slice oa p.picks.length (p.picks.length+sp.length)))::slb nv tI oa p.picks sp::L)->Holds w' (PkR b p::L):=λw' H=>by
  have H2:=H.close 1 rfl;exact Zdd hp H2
 refine r_ifD (λh=>?_) λh=>?_
 ·repeat (first|((with_reducible apply r_ld 0 H);(exact rfl);(with_reducible exact (c1)))|((with_reducible apply r_ld 0 H);(exact rfl);(with_reducible exact ((c8 ho))))|refine r_nc ?_|refine r_fo0 ?_|refine r_lnl ?_|refine r_eql ?_)
  have:=k _ S (fin _ H)
  have e:p.done=((p.picks.length:Int)==(p.count:Int)):=by
   unfold PS.done;rw[Bool.eq_iff_iff,decide_eq_true_iff,beq_iff_eq];omega
  rw[e] at this;exact this
 ·have:=k _ S (fin _ H)
  have e:p.done=false:=by
   unfold PS.done;rw[decide_eq_false_iff_not];omega
  rw[e] at this;exact this
theorem Zq2 (H:Holds w (PkW b p::L)) (hd:p.done=false) (k:∀ w',Same w w'->Holds w' (PkW b p::L)->K (.bool false) w'):Cl prog 294 #[pt b] w K:=by
 refine Tz294 ?_;unfold Vz294;obtain⟨hp,pv,H⟩:=Zwv H;obtain⟨oa,sp,rfl,H⟩:=H.open 1 rfl;have S:=Same.refl w;have ho:=hp.ord;rw[gW,gJ] at H;have c1':∀ pv,((pkC p.t p.count p.order pv).set 9 (.bool true))[1]?=some (nv p.count):=λpv=>rfl
 have c8':∀ pv,((pkC p.t p.count p.order pv).set 9 (.bool true))[8]?=some pv:=λpv=>by rw[hY_ (by omega)];exact c8 ho
 repeat (first|refine r_ld 0 H rfl (c1' _) ?_|refine r_nc ?_|refine r_fo0 ?_|refine r_gtr ?_|(with_reducible first|refine Zao ?_|refine r_vt ?_)|(refine r_dr H ?_;clear H;intro _ S_ H;replace S:=S.trans S_;clear S_))
 unfold PS.done at hd;rw[decide_eq_false_iff_not] at hd;refine r_ifD (λh=>?_) λh=>?_
 ·repeat (first|refine r_ld 0 H rfl (c1' _) ?_|refine r_ld 0 H rfl (c8' _) ?_|refine r_nc ?_|refine r_fo0 ?_|refine r_lnl ?_|refine r_eql ?_)
  have:=k _ S (Zeb hp (H.close 1 rfl));rw[show ((p.picks.length:Int)==(p.count:Int))=false from beq_eq_false_iff_ne.2 (by omega)];exact this
 ·exact k _ S (Zeb hp (H.close 1 rfl))
theorem Zo2 (H:Holds w (PkR b p::L)) (k:K (nv p.t) w):Cl prog 296 #[pt b] w K:=by
 refine Tz296 ?_;unfold Vz296;obtain⟨hp,pv,H⟩:=Zby H
 repeat (first|((with_reducible apply r_ld 0 H);(exact rfl);(with_reducible exact (c0)))|refine r_nc ?_|refine r_fo0 ?_|(with_reducible first|refine Za6 ?_|refine r_vf ?_))
 exact k
theorem Zq8 (H:Holds w (PkR b p::L)) (k:∀ v w',Same w w'->Holds w' (SL nv tI v p.picks::PkR b p::L)->K v w'):Cl prog 304 #[pt b] w K:=by
 refine Tz304 ?_;unfold Vz304;obtain⟨hp,pv,H⟩:=Zby H;have ho:=hp.ord;have hl:=hp.len;have hc:=hp.cnt
 repeat (first|((with_reducible apply r_ld 0 H);(exact rfl);(with_reducible exact ((c8 ho))))|refine r_nc ?_|refine r_fo0 ?_|(with_reducible first|refine Za6 ?_|refine r_vf ?_))
 refine Zbf H 1 rfl (by omega) λv w1 S1 H1=>?_;refine k v w1 S1 ?_;have H2:=H1.swap;have:=Holds.front H1 2 rfl;have H3:Holds w1 (blk b tP (pkC p.t p.count p.order pv)::SL nv tI pv p.picks::SL nv tI v p.picks::L):=(Holds.front H1 2 rfl).front 2 rfl;exact (Zdd hp H3).swap
theorem touch_spec {t c i:Nat}{o:List Nat}{pv:Value}(ho:o.length=6) (H:Holds w (blk b tP (pkC t c o pv)::L)) (hi:i < 6)
  (k:∀ w',Same w w'->Holds w' (blk b tP (pkC t c (front o i) pv)::L)->K (nv (o.getD i 0)) w'):Cl prog 206 #[.pointer (some ⟨b,2,none⟩),nv i] w K:=by
 refine Tz206 ?_;unfold Vz206;have S:=Same.refl w
 have hget:∀ {o':List Nat} {j:Nat},o'.length=6->j < 6->(pkC t c o' pv)[2+j]?=some (nv (o'.getD j 0)):=λ{o' j} h6 hj=>by
  refine Zk7 (f:=nv) (xs:=o') [nv t,nv c] ?_;rw[gB,gA (by omega)];rfl
 have hset:∀ {o':List Nat} {j:Nat} (x:Nat),o'.length=6->j < 6->(pkC t c o' pv).set (2+j) (nv x)=pkC t c (o'.set j x) pv:=λ{o' j} x h6 hj=>by
  exact Zhf (f:=nv) (xs:=o') [nv t,nv c] x (by omega)
 repeat (first|((with_reducible apply r_ld 0 H);(exact rfl);(with_reducible exact ((hget ho hi))))|refine r_nc ?_|(refine Zak (by omega) ?_))
 have hlen:∀ j,j<=i->(o.take (j+1)++((o.drop j).take (i - j)++o.drop (i+1))).length=6:=λj hj=>by
  simp;omega
 refine Za7 (λx w'=>∃ j:Nat,j<=i/\x=nv j/\Same w w'/\Holds w' (blk b tP (pkC t c (o.take (j+1)++((o.drop j).take (i - j)++o.drop (i+1))) pv)::L)) (λx _=>(intOf x).toNat) ⟨i,by omega,rfl,S,?_⟩ ?_
 ·rw[Nat.sub_self,take_zero,hO_,hN_];exact H
 clear H S;rintro _ _ w1 ⟨j,hj,rfl,S,H⟩;have h6:=hlen j hj
 repeat (refine r_gtr ?_)
 refine r_ifD (λh=>?_) λh=>?_
 ·have hj1:j - 1 < 6:=by omega
  repeat (first|((with_reducible apply r_ld 0 H);(exact rfl);(with_reducible exact ((hget h6 hj1))))|refine r_nc ?_|(refine Zab (by omega) (by omega) ?_)|(refine Zak (by omega) ?_)|(refine r_dr H ?_;clear H;intro _ S_ H;replace S:=S.trans S_;clear S_))
  refine r_st 0 H rfl (by rw[clen h6];omega) rfl λw2 S2 H2=>?_;rw[gJ,hset _ h6 (by omega)] at H2
  have e:(o.take (j+1)++((o.drop j).take (i - j)++o.drop (i+1))).set j ((o.take (j+1)++((o.drop j).take (i - j)++o.drop (i+1))).getD (j - 1) 0)=o.take (j - 1+1)++((o.drop (j - 1)).take (i - (j - 1))++o.drop (i+1)):=by
   have hx:(o.take (j+1)++((o.drop j).take (i - j)++o.drop (i+1))).getD (j - 1) 0=o.getD (j - 1) 0:=by
    rw[gB,gB,gM (by simp;omega),hI_ (by omega)]
   rw[hx];obtain⟨m,rfl⟩:∃ m,j=m+1:=⟨j - 1,by omega⟩;rw[Nat.add_sub_cancel]
   have h1:o.drop m=o.getD m 0::o.drop (m+1):=by
    rw[gB,gA (by omega)];exact (List.getElem_cons_drop (by omega)).symm
   have h2:o.take (m+1+1)=o.take (m+1)++[o.getD (m+1) 0]:=by
    refine Zan ?_;rw[gB,gA (by omega)];rfl
   rw[h1,show i - m=(i - (m+1))+1 by omega,List.take_succ_cons,h2,gI,set_append_right _ _ (by simp;omega)]
   have h3:(o.take (m+1)).length=m+1:=by simp;omega
   rw[h3,Nat.sub_self];rfl
  rw[e] at H2
  repeat (first|refine r_ke ?_|(refine Zab (by omega) (by omega) ?_))
  refine⟨⟨j - 1,by omega,rfl,S.trans S2,H2⟩,?_⟩;simp[nv,intOf];omega
 ·obtain rfl:j=0:=by omega
  repeat (first|refine Zak (m:=0) (by omega) ?_|refine r_nc ?_)
  refine r_st 0 H rfl (by rw[clen h6];omega) rfl λw2 S2 H2=>?_;rw[gJ,hset (j:=0) _ h6 (by omega)] at H2
  have e:(o.take (0+1)++((o.drop 0).take (i - 0)++o.drop (i+1))).set 0 (o.getD i 0)=front o i:=by
   unfold front
   cases o with
   |nil=>simp at ho
   |cons x o=>rfl
  rw[e] at H2;exact k _ (S.trans S2) H2
theorem Ztg (H:Holds w (PkR b p::RdR r B d at_::L)) (h0:p.count=0) (post:∀ e w',Same w w'->AfterPS (pstep p (rest B at_)) b p r B d at_ L e w'->K (iv e) w') :
  Cl prog 312 #[pt b,pt r] w K:=by
 refine Tz312 ?_;unfold Vz312;refine Get_spec (n:=18) H.swap (by omega) (λhs w2 S H=>?_) λhs w2 S H=>?_
 ·repeat (first|refine r_neq ?_|(with_reducible first|refine Za3 ?_|refine Za4 ?_)|((with_reducible refine r_vtN ?h ?_);(case h=>omega)))
  refine post 3 _ S ?_;unfold pstep;rw[if_pos h0,if_pos hs];exact⟨rfl,_,H.swap⟩
 ·have hv:=Zae (rest B at_) 18
  have e0:pstep p (rest B at_)=if valB ((rest B at_).take 18)/32768 < 2\/6 < valB ((rest B at_).take 18)/32768\/valB ((rest B at_).take 18)%32768=0 then .bad 25
   else .ok ⟨valB ((rest B at_).take 18)/32768,valB ((rest B at_).take 18)%32768,p.order,p.picks⟩ 18:=by
   unfold pstep;rw[if_pos h0,if_neg (by omega)]
  have hok:=λp' k (h:pstep p (rest B at_)=.ok p' k) (hp:p.Ok)=>Zjl h hp (by simp[PS.done,h0]);rw[e0] at post hok;generalize valB ((rest B at_).take 18)=v at *
  repeat (first|refine Ze1 (n:=15) (by decide) ?_|refine r_neq ?_|(with_reducible first|refine Za3 ?_|refine Za4 ?_)|(refine Zde (by omega) (by omega) ?_)|((with_reducible refine r_vfN ?h ?_);(case h=>omega)))
  have h15:v/2^15=v/32768:=rfl;rw[h15]
  repeat (fail)
  refine Zk2 (t:=32767) (by omega) (by omega) ?_;rw[show v &&& 32767=v%32768 from Nat.and_two_pow_sub_one_eq_mod v 15]
  repeat (refine Zde (by omega) (by omega) ?_)
  refine Za1 (λx w'=>w2=w'/\x=.bool (decide (v/32768 < 2\/6 < v/32768\/v%32768=0))) ?_ ?_
  ·rintro _ _ _ ⟨rfl,rfl⟩;replace H:=H.swap;obtain⟨hp,pv,H⟩:=Zby H;have ho:=hp.ord;refine r_ifD (λh=>?_) λh=>?_
   ·rw[if_pos h] at post;refine Tz314 ?_;unfold Vz314
    repeat (first|refine r_nc ?_|refine r_fo0 ?_)
    refine r_st 0 H rfl (by rw[clen ho];omega) rfl λw3 S3 H3=>?_;refine post 25 _ (S.trans S3) ⟨rfl,at_+18,?_⟩;rw[gJ] at H3;exact Zeb hp H3
   ·rw[if_neg h] at post hok
    repeat (first|refine r_nc ?_|refine r_fo0 ?_)
    refine r_st 0 H rfl (by rw[clen ho];omega) rfl λw3 S3 H3=>?_;replace H3:Holds w3 (blk b tP (pkC (v/32768) p.count p.order pv)::SL nv tI pv p.picks::RdR r B d (at_+18)::L):=H3
    repeat (first|refine r_nc ?_|refine r_fo0 ?_)
    refine r_st 0 H3 rfl (by rw[clen ho];omega) rfl λw4 S4 H4=>?_;replace H4:Holds w4 (blk b tP (pkC (v/32768) (v%32768) p.order pv)::SL nv tI pv p.picks::RdR r B d (at_+18)::L):=H4;exact post 0 _ ((S.trans S3).trans S4) ⟨rfl,Zdd (p:=⟨v/32768,v%32768,p.order,p.picks⟩) (hok _ _ rfl hp) H4⟩
  ·refine Tz183 ?_;unfold Vz183
   repeat (refine r_geq ?_)
   refine r_ifD (λh=>?_) λh=>?_
   ·repeat (first|refine r_leq ?_|refine r_not ?_)
    rcases hU_ 6 (v/32768) with h6|h6
    ·rw[decide_eq_false (by omega),Bool.not_false]
     repeat (first|refine r_ke ?_|(with_reducible refine r_vt ?_))
     exact⟨rfl,by rw[decide_eq_true (by omega)]⟩
    ·rw[decide_eq_true (by omega),Bool.not_true]
     repeat (first|refine r_ke ?_|refine r_eql ?_|(with_reducible refine r_vf ?_))
     refine⟨rfl,?_⟩
     congr 1
     rw[Bool.eq_iff_iff,decide_eq_true_iff,beq_iff_eq];omega
   ·repeat (first|refine r_ke ?_|(with_reducible first|refine Zbm ?_|refine r_vt ?_))
    exact⟨rfl,by rw[decide_eq_true (by omega)]⟩
theorem pick_spec (H:Holds w (PkR b p::RdR r B d at_::L)) (h0:p.count≠0) (hd:p.done=false) (post:∀ e w',Same w w'->AfterPS (pstep p (rest B at_)) b p r B d at_ L e w'->K (iv e) w') :
  Cl prog 311 #[pt b,pt r] w K:=by
 refine Tz311 ?_;unfold Vz311;have S:=Same.refl w;have hp:=(Zby H).1;have ht:=hp.tbl (by omega);have ho:=hp.ord;have hpl:=hp.len;have hpc:=hp.cnt;have H0:=(Zby H).2.choose_spec
 repeat (first|refine r_ld 0 H0 rfl c0 ?_|refine r_nc ?_|refine r_fo0 ?_)
 clear H0;refine Za7 (λx w'=>∃ i:Nat,i<=p.t/\x=nv i/\(∀ j,j < i->(rest B at_)[j]?=some true)/\Same w w'/\Holds w' (PkR b p::RdR r B d (at_+i)::L)) (λx _=>p.t - (intOf x).toNat) ⟨0,by omega,rfl,λj hj=>absurd hj (Nat.not_lt_zero j),S,H⟩ ?_;clear H S;rintro _ _ w1 ⟨i,hi,rfl,hl,S,H⟩
 repeat (refine r_lss ?_)
 refine r_ifD (λh=>?_) λh=>?_
 ·have hlt:i < p.t:=by omega
  refine Zdn H.swap (λhs w2 S2 H2=>?_) λc hc w2 S2 H2=>?_
  ·rw[Zdp] at hs
   repeat (first|refine r_neq ?_|(with_reducible first|refine Za3 ?_|refine Za4 ?_)|((with_reducible refine r_vtN ?h ?_);(case h=>omega)))
   have e:lead (rest B at_)=i:=by
    have h1:=Zum hl;have h2:=Zn3 (rest B at_)
    have h3:(rest B at_).length<=i:=by simpa using hs
    omega
   have e2:(rest B at_).length=i:=by
    have h2:=Zn3 (rest B at_)
    have h3:(rest B at_).length<=i:=by simpa using hs
    omega
   refine post 3 _ (S.trans S2) ?_;unfold pstep;rw[if_neg h0,e,if_neg (by omega),if_pos e2.symm];exact⟨rfl,_,H2.swap⟩
  ·rw[Zdp] at hc
   repeat (first|refine r_eql ?_|refine r_neq ?_|(with_reducible first|refine Za3 ?_|refine Za4 ?_)|((with_reducible refine r_vfN ?h ?_);(case h=>omega)))
   cases c with
   |true=>
    refine r_vfE (by decide) ?_
    repeat (first|refine r_ke ?_|(refine Za0 (by omega) ?_))
    refine⟨⟨i+1,by omega,rfl,λj hj=>?_,S.trans S2,H2.swap⟩,?_⟩
    ·rcases hU_ j i with h1|h1
     ·exact hl j h1
     ·obtain rfl:j=i:=by omega
      exact hc
    ·simp[nv,intOf];omega
   |false=>
    have e:lead (rest B at_)=i:=Zz4 hl hc;have hlen:i < (rest B at_).length:=(gH.1 hc).1
    have e0:pstep p (rest B at_)=.ok ⟨p.t,p.count,front p.order i,p.picks++[p.order.getD i 0]⟩ (i+1):=by
     unfold pstep;rw[if_neg h0,e,if_neg (by omega),if_neg (by omega)]
    rw[e0] at post;have hok:=Zjl e0 hp hd;replace S:=S.trans S2;replace H:=H2.swap;clear H2;obtain⟨_,pv,H⟩:=Zby H;refine r_vtE rfl ?_
    repeat (first|((with_reducible apply r_ld 0 H);(exact rfl);(with_reducible exact ((c8 ho))))|refine r_nc ?_|refine r_fo0 ?_|(refine r_dr H ?_;clear H;intro _ S_ H;replace S:=S.trans S_;clear S_))
    have H0:=H;refine touch_spec (i:=i) ho H (by omega) λw3 S3 H3=>?_;replace S:=S.trans S3
    have hfl:(front p.order i).length=6:=by rw[Zhe (by omega)];exact ho
    refine r_rk (r_ld 0 H3 rfl (c8 hfl) rfl) ?_;obtain⟨oa,sp,rfl,H4⟩:=H3.open 1 rfl;rw[gW,gJ] at H4;refine r_bs1 H4 rfl λb3 w4 S4 H5=>?_;replace S:=S.trans S4;refine r_rk (r_ld 1 H5 rfl (c8 hfl) rfl) ?_;refine r_ap (f:=nv) (ys:=[p.order.getD i 0]) H5 2 0 (xs:=p.picks) (sp:=sp) rfl rfl rfl rfl rfl rfl sg_nv (by rw[gQ];omega) (by simp) λoa' sp' w5 S5 H6=>?_;replace S:=S.trans S5;rw[gW,gW,gJ] at H6;replace H6:=H6.drop;clear H H0 H3 H4 H5;have H:=H6;clear H6
    repeat (first|refine r_nc ?_|refine r_fo0 ?_)
    refine r_st 0 H rfl (by rw[clen hfl];omega) rfl λw6 S6 H7=>?_;rw[gJ,s8 hfl] at H7;have H8:=H7.close 1 rfl;rw[gW,gJ] at H8
    have hln:p.picks.length+[p.order.getD i 0].length=(p.picks++[p.order.getD i 0]).length:=by simp
    refine post 0 _ (S.trans S6) ⟨rfl,Zdd (p:=⟨p.t,p.count,front p.order i,p.picks++[p.order.getD i 0]⟩) (pv:=.slice oa' (p.picks++[p.order.getD i 0]).length ((p.picks++[p.order.getD i 0]).length+sp'.length)) hok ?_⟩;rw[hln] at H8;rw[hG_] at H8;exact H8
 ·obtain rfl:i=p.t:=by omega
  obtain⟨_,pv,H⟩:=Zby H;refine Tz314 ?_;unfold Vz314
  repeat (first|refine r_nc ?_|refine r_fo0 ?_)
  refine r_st 0 H rfl (by rw[clen ho];omega) rfl λw3 S3 H3=>?_;refine post 25 _ (S.trans S3) ?_;unfold pstep;rw[if_neg h0,if_pos (Zum hl)];rw[gJ] at H3;exact⟨rfl,_,Zeb hp H3⟩
theorem Zh8 {same:HProp}{q:Nat}(H:Holds w (same::RdR r B d q::L)) (h:8*d<=at_/\at_<=8*B.length) (k:∀ w',Same w w'->Holds w' (same::RdR r B d at_::L)->K (iv 0) w'):Cl prog 290 #[pt r,nv at_] w K:=
 Zhc H.swap h.1 h.2 λw' S' H'=>k w' S' H'.swap
theorem Step_spec (H:Holds w (PkR b p::RdR r B d at_::L)) (hd:p.done=false) (post:∀ e w',Same w w'->AfterP (pstep p (rest B at_)) b p r B d at_ L e w'->K (iv e) w') :
  Cl prog 303 #[pt b,pt r] w K:=by
 refine Tz303 ?_;unfold Vz303;have S:=Same.refl w;have hf:=(Zaf H.swap).1
 have fin:∀ e w',Same w w'->AfterPS (pstep p (rest B at_)) b p r B d at_ L e w'->Bp .eql (iv e) (.int .i64 3) λx_8=>Vif x_8 (Cl prog 290 #[pt r,nv at_] w' λx_9 w5=>K (iv e) w5) (K (iv e) w'):=by
  intro e w' S' hA;refine r_eql ?_
  cases hx:pstep p (rest B at_) with
  |short=>
   rw[hx] at hA post;obtain⟨rfl,q,H'⟩:=hA;refine r_vtE rfl ?_;exact Zh8 H' ⟨hf.1,hf.2.1⟩ λw2 S2 H2=>post 3 _ (S'.trans S2) ⟨rfl,H2⟩
  |bad c=>
   rw[hx] at hA post;refine r_vfE ?_ (post e w' S' hA);rw[hA.1,Zm0 hx];decide
  |ok s n=>
   rw[hx] at hA post;refine r_vfE ?_ (post e w' S' hA);rw[hA.1];decide
 repeat (fail)
 refine Za1 (λx w'=>x=.bool false/\Same w w'/\Holds w' (PkR b p::RdR r B d at_::L)) ?_ ?_
 ·clear H S;rintro _ _ w1 ⟨rfl,S,H⟩;have H0:=H;obtain⟨hp,pv,H0⟩:=Zby H0;have ho:=hp.ord
  repeat (first|refine r_ld 0 H0 rfl (c9 ho) ?_|refine r_nc ?_|refine r_fo0 ?_|(with_reducible refine r_vf ?_))
  refine At_spec H.swap ?_;refine r_mf (.func (.func 311) #[pt b] #[]) (by kernel_rfl) ?_;refine Za1 (λx w'=>w1=w'/\((p.count=0/\x=.func (.func 312) #[pt b] #[])\/(p.count≠0/\x=.func (.func 311) #[pt b] #[]))) ?_ ?_
  ·rintro _ _ _ ⟨rfl,⟨h0,rfl⟩|⟨h0,rfl⟩⟩
   ·refine r_inv (f:=312) (args:=#[pt b,pt r]) (by kernel_rfl) ?_;exact Ztg H h0 λe w' S' hA=>fin e w' (S.trans S') hA
   ·refine r_inv (f:=311) (args:=#[pt b,pt r]) (by kernel_rfl) ?_;exact pick_spec H h0 hd λe w' S' hA=>fin e w' (S.trans S') hA
  ·repeat (first|refine r_ld 0 H0 rfl c1 ?_|refine r_nc ?_|refine r_fo0 ?_|refine r_eql ?_)
   refine r_ifE (λh=>?_) λh=>?_
   ·refine r_mf (.func (.func 312) #[pt b] #[]) (by kernel_rfl) ?_
    repeat (refine r_ke ?_)
    exact⟨rfl,.inl ⟨by omega,rfl⟩⟩
   ·repeat (refine r_ke ?_)
    exact⟨rfl,.inr ⟨by omega,rfl⟩⟩
 ·repeat (first|(with_reducible first|refine Za6 ?_|refine r_vf ?_))
  refine Done_spec H λw2 S2 H2=>?_;rw[hd]
  repeat (refine r_ke ?_)
  exact⟨rfl,S2,H2⟩
end P13
namespace D11
open Go.M01 Go.Mb Go.Mp Rb
variable {w:World}{L:List HProp}{K:KT}{b r:Nat}{B:List UInt8}{d at_ n:Nat}{p:DS}
abbrev tD:Nat:=347
def DlR (b:Nat) (p:DS):HProp:=λh=>(p.Ok/\p.size<=258)/\∃ pv,Sat [blk b tD [nv p.size,nv p.now,pv,.bool false],SL nv tI pv p.lens] h
theorem Zcc (H:Holds w (DlR b p::L)):(p.Ok/\p.size<=258)/\∃ pv,Holds w (blk b tD [nv p.size,nv p.now,pv,.bool false]::SL nv tI pv p.lens::L):=by
 obtain⟨h,H⟩:=Holds.pure H;obtain⟨pv,H⟩:=Holds.ex H;exact⟨h,pv,Holds.unpack H⟩
theorem Zd7 {pv:Value}(h:p.Ok/\p.size<=258) (H:Holds w (blk b tD [nv p.size,nv p.now,pv,.bool false]::SL nv tI pv p.lens::L)):Holds w (DlR b p::L):=
 Holds.imp (Holds.pack (A:=[_,_]) H) λ_ hh=>⟨h,pv,hh⟩
theorem NewReader_spec {n:Nat}(H:Holds w L) (h1:3<=n) (h2:n<=258) (k:∀ b w',Same w w'->Holds w' (DlR b (d0 n)::L)->K (.tuple #[pt b,iv 0]) w'):Cl prog 300 #[nv n] w K:=by
 refine Tz300 ?_;unfold Vz300;refine Tz188 ?_;unfold Vz188
 repeat (first|refine r_leq ?_|refine r_geq ?_|refine r_not ?_|((with_reducible refine r_vtD ?h ?_);(case h=>omega)))
 rw[decide_eq_true (show (n:Int)<=258 by omega),Bool.not_true]
 repeat (with_reducible refine r_vf ?_)
 refine r_bd (v:=.agg #[nv n,nv 0,.slice none 0 0,.bool false]) (by kernel_rfl) ?_;refine r_new H λb w2 S2 H2=>?_;exact k b _ S2 (Zd7 (pv:=.slice none 0 0) ⟨d0_ok n,h2⟩ (H2.nilSL nv tI).swap)
theorem Done_spec (H:Holds w (DlR b p::L)) (k:∀ w',Same w w'->Holds w' (DlR b p::L)->K (.bool p.done) w'):Cl prog 306 #[pt b] w K:=by
 refine Tz306 ?_;unfold Vz306;obtain⟨hp,pv,H⟩:=Zcc H;obtain⟨oa,sp,rfl,H⟩:=H.open 1 rfl;have S:=Same.refl w;rw[gW,gJ] at H
 repeat (first|refine r_nc ?_|refine r_fo0 ?_|refine r_lnl ?_|refine r_eql ?_|(with_reducible first|refine Zao ?_|refine r_vt ?_)|(refine r_dr H ?_;clear H;intro _ S_ H;replace S:=S.trans S_;clear S_)|refine r_ld 0 H rfl rfl ?_)
 have:=k _ S (Zd7 hp (H.close 1 rfl))
 have e:p.done=((p.lens.length:Int)==(p.size:Int)):=by
  unfold DS.done;rw[Bool.eq_iff_iff,decide_eq_true_iff,beq_iff_eq];omega
 rw[e] at this;exact this
theorem Zsk (H:Holds w (DlR b p::L)) (k:∀ v w',Same w w'->Holds w' (SL nv tI v p.lens::DlR b p::L)->K v w'):Cl prog 307 #[pt b] w K:=by
 refine Tz307 ?_;unfold Vz307;obtain⟨hp,pv,H⟩:=Zcc H;have hl:=hp.1.len
 repeat (first|refine r_nc ?_|refine r_fo0 ?_|(with_reducible first|refine Za6 ?_|refine r_vf ?_)|refine r_ld 0 H rfl rfl ?_)
 refine Zbf H 1 rfl (by omega) λv w1 S1 H1=>?_;refine k v w1 S1 ?_;have H3:Holds w1 (blk b tD [nv p.size,nv p.now,pv,.bool false]::SL nv tI pv p.lens::SL nv tI v p.lens::L):=(Holds.front H1 2 rfl).front 2 rfl;exact (Zd7 hp H3).swap
theorem Zgk {n:Int}{k0:Nat}(H:Holds w (DlR b p::RdR r B d (at_+k0)::L)) (ht:dstep p (rest B at_)=turn p n k0) (hd:p.done=false) (hn:-1000<=n) (hn2:n<=1000) (post:∀ e w',Same w w'->AfterS (dstep p (rest B at_)) (DlR b) (DlR b p) r B d at_ L e w'->K (iv e) w') :
  Cl prog 315 #[pt b,iv n] w K:=by
 refine Tz315 ?_;unfold Vz315;have S:=Same.refl w;refine r_cl (K:=λx w'=>w=w'/\x=.bool (decide (¬ (n < 1\/20 < n)))) ?_ ?_
 ·refine Tz190 ?_;unfold Vz190
  repeat (refine r_geq ?_)
  refine r_ifD (λh=>?_) λh=>?_
  ·repeat (refine r_leq ?_)
   refine⟨rfl,?_⟩
   congr 1
   rw[Bool.eq_iff_iff,decide_eq_true_iff,decide_eq_true_iff];omega
  ·exact⟨rfl,by rw[decide_eq_false (by omega)]⟩
 rintro _ _ ⟨rfl,rfl⟩;obtain⟨hp,pv,H⟩:=Zcc H;have hok:=λp' k (h:dstep p (rest B at_)=.ok p' k)=>Zg3 h hp.1 hd;rw[ht] at post hok;unfold turn at post hok
 by_cases hc:n < 1\/20 < n
 ·rw[if_pos hc] at post;rw[decide_eq_false (by omega)]
  repeat (first|refine r_nc ?_|refine r_fo0 ?_|(with_reducible first|refine Zbm ?_|refine r_vt ?_))
  refine r_st 0 H rfl (by simp) rfl λw3 S3 H3=>?_;refine post 22 _ S3 ⟨rfl,at_+k0,?_⟩;rw[gJ] at H3;exact H3.drop.drop
 ·rw[if_neg hc] at post hok;rw[decide_eq_true (by omega)]
  repeat (first|refine r_nc ?_|refine r_fo0 ?_|(with_reducible first|refine Zah ?_|refine r_vf ?_))
  refine r_st 0 H rfl (by simp) rfl λw3 S3 H3=>?_;rw[show n=((n.toNat:Nat):Int) by omega] at H3;replace H3:Holds w3 (blk b tD [nv p.size,nv n.toNat,pv,.bool false]::SL nv tI pv p.lens::RdR r B d (at_+k0)::L):=H3;exact post 0 _ S3 ⟨rfl,Zd7 (p:=⟨p.size,n.toNat,p.lens⟩) ⟨hok _ _ rfl,hp.2⟩ H3⟩
theorem step_spec (H:Holds w (DlR b p::RdR r B d at_::L)) (hd:p.done=false) (post:∀ e w',Same w w'->AfterS (dstep p (rest B at_)) (DlR b) (DlR b p) r B d at_ L e w'->K (iv e) w') :
  Cl prog 313 #[pt b,pt r] w K:=by
 refine Tz313 ?_;unfold Vz313;have S:=Same.refl w;have H0:=H;obtain⟨hp,pv0,H0⟩:=Zcc H0;have hnow:=hp.1.now;have hlen:=hp.1.len
 repeat (first|refine r_ld 0 H0 rfl rfl ?_|refine r_nc ?_|refine r_fo0 ?_|refine r_eql ?_)
 clear H0;refine r_ifE (λh=>?_) λh=>?_
 ·have h0:p.now=0:=by omega
  refine Get_spec (n:=5) H.swap (by omega) (λhs w2 S2 H2=>?_) λhs w2 S2 H2=>?_
  ·repeat (first|refine r_neq ?_|(with_reducible first|refine Za3 ?_|refine Za4 ?_)|((with_reducible refine r_vtN ?h ?_);(case h=>omega)))
   refine post 3 _ S2 ?_;unfold dstep;rw[if_pos h0,if_pos hs];exact⟨rfl,_,H2.swap⟩
  ·have hv:=Zae (rest B at_) 5
   have e0:dstep p (rest B at_)=turn p (valB ((rest B at_).take 5)) 5:=by
    unfold dstep;rw[if_pos h0,if_neg (by omega)]
   generalize valB ((rest B at_).take 5)=v at *
   repeat (first|refine r_neq ?_|(with_reducible first|refine Za3 ?_|refine Za4 ?_)|(refine Zde (by omega) (by omega) ?_)|((with_reducible refine r_vfN ?h ?_);(case h=>omega)))
   exact Zgk (n:=(v:Int)) H2.swap e0 hd (by omega) (by omega) λe w' S' hA=>post e w' (S2.trans S') hA
 ·have h0:p.now≠0:=by omega
  refine Zdn H.swap (λhs w2 S2 H2=>?_) λc hc w2 S2 H2=>?_
  ·repeat (first|refine r_neq ?_|(with_reducible first|refine Za3 ?_|refine Za4 ?_)|((with_reducible refine r_vtN ?h ?_);(case h=>omega)))
   refine post 3 _ S2 ?_;unfold dstep;rw[if_neg h0]
   have:rest B at_=[]:=by cases hr:rest B at_ with
    |nil=>rfl
    |cons x l=>rw[hr] at hs;cases hs
   rw[this];exact⟨rfl,_,H2.swap⟩
  ·repeat (first|refine r_eql ?_|refine r_neq ?_|(with_reducible first|refine Za3 ?_|refine Za4 ?_)|((with_reducible refine r_vfN ?h ?_);(case h=>omega)))
   cases c with
   |false=>
    refine r_vtE rfl ?_
    have e0:dstep p (rest B at_)=.ok ⟨p.size,p.now,p.lens++[p.now]⟩ 1:=by
     unfold dstep;rw[if_neg h0]
     cases hr:rest B at_ with
     |nil=>rw[hr] at hc;cases hc
     |cons x l=>rw[hr] at hc;cases hc;rfl
    have hok:=Zg3 e0 hp.1 hd;rw[e0] at post;obtain⟨_,pv,H⟩:=Zcc H2.swap;replace S:=S.trans S2;clear S2 H2
    repeat (first|refine r_nc ?_|refine r_fo0 ?_|(refine r_dr H ?_;clear H;intro _ S_ H;replace S:=S.trans S_;clear S_)|refine r_ld 0 H rfl rfl ?_)
    refine Znm H 1 (f:=nv) (xs:=p.lens) rfl p.now sg_nv (by omega) (λw' H'=>r_ld 0 H' rfl rfl rfl) λv' w3 S3 H3=>?_;rw[gW,gJ] at H3;replace S:=S.trans S3;clear H;have H:=H3;clear H3
    repeat (first|refine r_nc ?_|refine r_fo0 ?_)
    refine r_st 0 H rfl (by simp) (SL_sg H 1 rfl) λw4 S4 H4=>?_;replace H4:Holds w4 (blk b tD [nv p.size,nv p.now,v',.bool false]::SL nv tI v' (p.lens++[p.now])::RdR r B d (at_+1)::L):=H4;exact post 0 _ (S.trans S4) ⟨rfl,Zd7 (p:=⟨p.size,p.now,p.lens++[p.now]⟩) ⟨hok,hp.2⟩ H4⟩
   |true=>
    refine r_vfE (by decide) ?_;refine Zdn H2 (λhs w3 S3 H3=>?_) λc hc2 w3 S3 H3=>?_
    ·repeat (first|refine r_neq ?_|(with_reducible first|refine Za3 ?_|refine Za4 ?_)|((with_reducible refine r_vtN ?h ?_);(case h=>omega)))
     refine post 3 _ (S2.trans S3) ?_;unfold dstep;rw[if_neg h0];rw[Zdp] at hs
     cases hr:rest B at_ with
     |nil=>rw[hr] at hc;cases hc
     |cons x l=>
      rw[hr] at hc hs;cases hc
      cases l with
      |nil=>exact⟨rfl,_,H3.swap⟩
      |cons y l=>cases hs
    ·have e0:dstep p (rest B at_)=turn p ((p.now:Int)+1 - 2*c.toNat) 2:=by
      unfold dstep;rw[if_neg h0];rw[Zdp] at hc2
      cases hr:rest B at_ with
      |nil=>rw[hr] at hc;cases hc
      |cons x l=>
       rw[hr] at hc hc2;cases hc
       cases l with
       |nil=>cases hc2
       |cons y l=>cases hc2;rfl
     have hcl:=Bool.toNat_le c;obtain⟨_,pv,H4⟩:=Zcc H3.swap
     repeat (first|refine r_ld 0 H4 rfl rfl ?_|refine Zb8 (2*(c.toNat:Int)) rfl (by omega) (by omega) ?_|refine r_nc ?_|refine r_fo0 ?_|refine r_neq ?_|(with_reducible first|refine Za3 ?_|refine Za4 ?_)|(refine Zde (by omega) (by omega) ?_)|(refine Za0 (by omega) ?_)|(refine r_sub (by omega) (by omega) ?_)|((with_reducible refine r_vfN ?h ?_);(case h=>omega)))
     clear H4;refine Zgk (k0:=2) (n:=(p.now:Int)+1 - 2*c.toNat) H3.swap e0 hd (by omega) (by omega) λe w' S' hA=>post e w' ((S2.trans S3).trans S') hA
theorem Step_spec (H:Holds w (DlR b p::RdR r B d at_::L)) (hd:p.done=false) (post:∀ e w',Same w w'->After (dstep p (rest B at_)) (DlR b) (DlR b p) r B d at_ L e w'->K (iv e) w') :
  Cl prog 305 #[pt b,pt r] w K:=by
 refine Tz305 ?_;unfold Vz305;have S:=Same.refl w;have hf:=(Zaf H.swap).1
 repeat (fail)
 refine Za1 (λx w'=>x=.bool false/\Same w w'/\Holds w' (DlR b p::RdR r B d at_::L)) ?_ ?_
 ·clear H S;rintro _ _ w1 ⟨rfl,S,H⟩;have H0:=H;obtain⟨hp,pv,H0⟩:=Zcc H0
  repeat (first|refine r_ld 0 H0 rfl rfl ?_|refine r_nc ?_|refine r_fo0 ?_|(with_reducible refine r_vf ?_))
  clear H0;refine At_spec H.swap ?_;refine step_spec H hd λe w' S' hA=>?_;replace S':=S.trans S';refine r_eql ?_
  cases hx:dstep p (rest B at_) with
  |short=>
   rw[hx] at hA post;obtain⟨rfl,q,H'⟩:=hA;refine r_vtE rfl ?_;exact P13.Zh8 H' ⟨hf.1,hf.2.1⟩ λw2 S2 H2=>post 3 _ (S'.trans S2) ⟨rfl,H2⟩
  |bad c=>
   rw[hx] at hA post;refine r_vfE ?_ (post e w' S' hA);rw[hA.1,Zh1 hx];decide
  |ok s n=>
   rw[hx] at hA post;refine r_vfE ?_ (post e w' S' hA);rw[hA.1];decide
 ·repeat (first|(with_reducible first|refine Za6 ?_|refine r_vf ?_))
  refine Done_spec H λw2 S2 H2=>?_;rw[hd]
  repeat (refine r_ke ?_)
  exact⟨rfl,S2,H2⟩
end D11
namespace P35
variable {w:World}{L:List HProp}
section
variable {α:Type}{P:Program}
theorem Zzq (i:Nat) (H:Holds w L){F:α->List Value}{k:Nat}{e:TypeId}{v:Value}{xs:List α}{q:Nat}{kk:IntKind}{x:α}{K:Value->Prop}
  (hi:L[i]?=some (RW F k e v xs)) (hx:xs[q]?=some x) (hF:∀ y,(F y).length=k) (h:K (.agg (F x).toArray)):Ias k v (.int kk (q:Int)) λy=>LdA k y w K:=by
 obtain⟨oa,m,sp,rfl,H1⟩:=H.openRW i hi;exact r_ldN i H1 (Za2 hi) hx hF (gH.1 hx).1 h
theorem r_lnN (i:Nat) (H:Holds w L){F:α->List Value}{k:Nat}{e:TypeId}{v:Value}{xs:List α}{K:Value->Prop}(hi:L[i]?=some (RW F k e v xs)) (h:K (nv xs.length)):Lnl v K:=by
 obtain⟨oa,m,sp,rfl,_⟩:=H.openRW i hi;exact r_lnl h
end
end P35
end Go.Proofs.YtpmjeiliblgajaaGreatDoor
